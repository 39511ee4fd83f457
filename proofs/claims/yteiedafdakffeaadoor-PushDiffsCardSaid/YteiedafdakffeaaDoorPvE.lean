/- push: lines that are joined; a difference, applied, plainly. -/
import Derived.Test.YteiedafdakffeaaDoorPvC
import Derived.Test.YteiedafdakffeaaDoorPuI
namespace Go.Proofs.YteiedafdakffeaaDoor
set_option linter.unusedVariables false
set_option linter.unusedSimpArgs false
open Go Go.RowKit Go.Proofs
open Go.Proofs.YteiedafdakffeaaDoorW.PrintWords (Kd bytesOf bytesOf_length ReadsInt ReadsOf gate_store gate_dst own_move)
/-! ### a text of lines -/
def mk (X : List ByteArray) : ByteArray := ⟨(outB X).toArray⟩
def no10 (x : ByteArray) : Prop := ∀ b ∈ x.data.toList, b ≠ 10
theorem outB_append (X Y : List ByteArray) : outB (X ++ Y) = outB X ++ outB Y := by simp [outB]
theorem mk_append (X Y : List ByteArray) : mk X ++ mk Y = mk (X ++ Y) := by
  apply ByteArray.ext
  rw [ByteArray.data_append]
  unfold mk
  rw [outB_append]
  simp
theorem mk_size (X : List ByteArray) : (mk X).size = sizes X + X.length := by
  rw [← outB_length]
  show (outB X).toArray.size = _
  simp
theorem pcs_line (x : List UInt8) (h : ∀ b ∈ x, b ≠ 10) (o : List (List UInt8)) (r : List UInt8) : x.foldl (stp 10) (o, r) = (o, r ++ x) := by
  induction x generalizing r with
  | nil => simp
  | cons b t ih =>
    rw [List.foldl_cons]
    have hb : stp 10 (o, r) b = (o, r ++ [b]) := by unfold stp; rw [if_neg (h b (by simp))]
    rw [hb, ih (fun c hc => h c (by simp [hc]))]
    simp
theorem pcs_outB (X : List ByteArray) (h : ∀ x ∈ X, no10 x) (o : List (List UInt8)) : (outB X).foldl (stp 10) (o, []) = (o ++ X.map (fun x => x.data.toList), []) := by
  induction X generalizing o with
  | nil => simp [outB]
  | cons x t ih =>
    have e : outB (x :: t) = x.data.toList ++ ([10] ++ outB t) := by simp [outB]
    rw [e, List.foldl_append, pcs_line _ (h x (by simp)), List.foldl_append]
    have hs : [10].foldl (stp 10) (o, [] ++ x.data.toList) = (o ++ [x.data.toList], []) := by simp [stp]
    rw [hs, ih (fun y hy => h y (by simp [hy]))]
    simp
theorem bs_self (x : ByteArray) : bs x.data.toList = x := by
  unfold bs
  cases x
  simp
theorem lnsOf_mk (X : List ByteArray) (h : ∀ x ∈ X, no10 x) : lnsOf (mk X) = X := by
  have hp : pcs 10 (mk X).data.toList = (X.map (fun x => x.data.toList), []) := by
    have := pcs_outB X h []
    unfold pcs mk
    simpa using this
  unfold lnsOf linesL
  rw [hp, if_pos rfl, List.map_map]
  have : (bs ∘ fun x : ByteArray => x.data.toList) = id := by funext x; exact bs_self x
  rw [this, List.map_id]
theorem has10_no10 {x : ByteArray} (h : no10 x) : has10 x = false := by
  refine has10_no x (fun j hj e => ?_)
  refine h x[j] ?_ (UInt8.toNat_inj.1 e)
  have : x.data.toList[j]? = some x[j] := data_at x j hj
  exact List.mem_of_getElem? this
theorem flat_no10 {X : List ByteArray} (h : ∀ x ∈ X, no10 x) : flat X = true := by
  unfold flat
  rw [List.all_eq_true]
  intro x hx
  rw [has10_no10 (h x hx)]
  rfl
/-! ### a difference, applied -/
theorem alikeN_take (X Y : List ByteArray) : X.take (alikeN X Y) = Y.take (alikeN X Y) := by
  induction X generalizing Y with
  | nil => cases Y <;> simp [alikeN]
  | cons x s ih =>
    cases Y with
    | nil => simp [alikeN]
    | cons y t =>
      unfold alikeN
      by_cases h : x = y
      · rw [if_pos h, List.take_succ_cons, List.take_succ_cons, ih t, h]
      · rw [if_neg h]; simp
theorem alikeN_self (X : List ByteArray) : alikeN X X = X.length := by
  induction X with
  | nil => rfl
  | cons x s ih => unfold alikeN; rw [if_pos rfl, ih, List.length_cons]
theorem alikeN_pre (P X Y : List ByteArray) : P.length ≤ alikeN (P ++ X) (P ++ Y) := by
  induction P with
  | nil => simp
  | cons x s ih =>
    show (x :: s).length ≤ alikeN (x :: (s ++ X)) (x :: (s ++ Y))
    unfold alikeN
    rw [if_pos rfl, List.length_cons]
    omega
theorem alikeN_ge (X Y : List ByteArray) (n : Nat) (h : X.take n = Y.take n) (h1 : n ≤ X.length) (h2 : n ≤ Y.length) : n ≤ alikeN X Y := by
  have e1 : X = X.take n ++ X.drop n := (List.take_append_drop n X).symm
  have e2 : Y = X.take n ++ Y.drop n := by rw [h]; exact (List.take_append_drop n Y).symm
  have h3 := alikeN_pre (X.take n) (X.drop n) (Y.drop n)
  rw [← e1, ← e2, List.length_take] at h3
  omega
/-- the two ends of a row, and what lies between in the other one -/
theorem diff_back (X Y : List ByteArray) : applyL X (diffL X Y) (diffH X Y) (diffT X Y) = Y ∧ diffH X Y + diffT X Y ≤ X.length ∧ diffH X Y + diffT X Y ≤ Y.length ∧ (diffL X Y).length = Y.length - diffH X Y - diffT X Y := by
  have hH := alikeN_le X Y
  have hT := alikeN_le (diffA X Y) (diffB X Y)
  have hHt := alikeN_take X Y
  have hTt := alikeN_take (diffA X Y) (diffB X Y)
  have hT' : alikeN (diffA X Y) (diffB X Y) = diffT X Y := rfl
  rw [hT'] at hT hTt
  have hH' : alikeN X Y = diffH X Y := rfl
  have eA : diffA X Y = (X.drop (diffH X Y)).reverse := rfl
  have eB : diffB X Y = (Y.drop (diffH X Y)).reverse := rfl
  have eL : diffL X Y = ((diffB X Y).drop (diffT X Y)).reverse := rfl
  rw [hH'] at hH hHt
  rw [eA, eB] at hT hTt
  rw [eL, eB]
  generalize diffH X Y = H at *
  generalize diffT X Y = T at *
  simp only [List.length_reverse, List.length_drop] at hT
  have hl : (((Y.drop H).reverse).drop T).reverse = (Y.take (Y.length - T)).drop H := (diff_mid Y H T (by omega)).symm
  refine ⟨?_, by omega, by omega, ?_⟩
  · unfold applyL
    rw [hl]
    have hx : X.drop (X.length - T) = Y.drop (Y.length - T) := by
      have h := hTt
      rw [List.take_reverse, List.take_reverse, List.reverse_inj, List.drop_drop, List.drop_drop, List.length_drop, List.length_drop] at h
      rw [show H + (X.length - H - T) = X.length - T by omega, show H + (Y.length - H - T) = Y.length - T by omega] at h
      exact h
    rw [hx, hHt]
    have h1 : Y.take H = (Y.take (Y.length - T)).take H := by rw [List.take_take]; congr 1; omega
    rw [h1, ← List.append_assoc, List.take_append_drop, List.take_append_drop]
  · rw [List.length_reverse, List.length_drop, List.length_reverse, List.length_drop]
theorem diff_self (X : List ByteArray) : diffL X X = [] := by
  obtain ⟨_, _, _, h⟩ := diff_back X X
  have : diffH X X = X.length := alikeN_self X
  rw [this] at h
  exact List.length_eq_zero_iff.1 (by omega)
/-- no more lines than differ -/
theorem diff_few (P A B E : List ByteArray) : (diffL (P ++ A ++ E) (P ++ B ++ E)).length ≤ B.length ∧ P.length ≤ diffH (P ++ A ++ E) (P ++ B ++ E) := by
  have hb := diff_back (P ++ A ++ E) (P ++ B ++ E)
  have hp : P.length ≤ diffH (P ++ A ++ E) (P ++ B ++ E) := by
    have := alikeN_pre P (A ++ E) (B ++ E)
    rw [← List.append_assoc, ← List.append_assoc] at this
    exact this
  refine ⟨?_, hp⟩
  obtain ⟨_, h1, h2, h3⟩ := hb
  have hT : min E.length (min ((P ++ A ++ E).length - diffH (P ++ A ++ E) (P ++ B ++ E)) ((P ++ B ++ E).length - diffH (P ++ A ++ E) (P ++ B ++ E))) ≤ diffT (P ++ A ++ E) (P ++ B ++ E) := by
    generalize hn : min E.length (min ((P ++ A ++ E).length - diffH (P ++ A ++ E) (P ++ B ++ E)) ((P ++ B ++ E).length - diffH (P ++ A ++ E) (P ++ B ++ E))) = n
    have hd : diffT (P ++ A ++ E) (P ++ B ++ E) = alikeN (((P ++ A ++ E).drop (diffH (P ++ A ++ E) (P ++ B ++ E))).reverse) (((P ++ B ++ E).drop (diffH (P ++ A ++ E) (P ++ B ++ E))).reverse) := rfl
    rw [hd]
    generalize diffH (P ++ A ++ E) (P ++ B ++ E) = H at *
    refine alikeN_ge _ _ n ?_ (by rw [List.length_reverse, List.length_drop]; omega) (by rw [List.length_reverse, List.length_drop]; omega)
    rw [List.take_reverse, List.take_reverse, List.reverse_inj, List.drop_drop, List.drop_drop, List.length_drop, List.length_drop]
    have k1 : (P ++ A ++ E).length = (P ++ A).length + E.length := List.length_append
    have k2 : (P ++ B ++ E).length = (P ++ B).length + E.length := List.length_append
    have g1 : H + ((P ++ A ++ E).length - H - n) = (P ++ A).length + (E.length - n) := by omega
    have g2 : H + ((P ++ B ++ E).length - H - n) = (P ++ B).length + (E.length - n) := by omega
    rw [g1, g2]
    have q1 : ∀ (Z : List ByteArray) (i : Nat), (Z ++ E).drop (Z.length + i) = E.drop i := fun Z i => by
      rw [List.drop_append, List.drop_of_length_le (by omega), Nat.add_sub_cancel_left]
      rfl
    rw [q1 (P ++ A), q1 (P ++ B)]
  have k1 : (P ++ A ++ E).length = P.length + A.length + E.length := by rw [List.length_append, List.length_append]
  have k2 : (P ++ B ++ E).length = P.length + B.length + E.length := by rw [List.length_append, List.length_append]
  omega
/-! ### joined -/
def flatL (l : List UInt8) : List UInt8 := l.filter (fun b => b != 10)
def flatF (s : ByteArray) : ByteArray := bs (flatL (s.data.toList.take 60))
theorem flatF_no10 (s : ByteArray) : no10 (flatF s) := fun b hb => by
  have h : b ∈ flatL (s.data.toList.take 60) := by simpa [flatF, bs] using hb
  have := (List.mem_filter.1 h).2
  simpa using this
theorem flatF_size (s : ByteArray) : (flatF s).size ≤ 60 := by
  have h1 : (flatL (s.data.toList.take 60)).length ≤ (s.data.toList.take 60).length := List.length_filter_le _ _
  have h2 : (s.data.toList.take 60).length ≤ 60 := List.length_take_le _ _
  have h3 : (flatF s).size = (flatL (s.data.toList.take 60)).length := by show (flatL (s.data.toList.take 60)).toArray.size = _; simp
  omega
def nums (l : List UInt8) : List Int := l.map fun c => (c.toNat : Int)
theorem strOf_nums (l : List UInt8) : strOfNums (nums l) = bs l := by
  have h : bytesOf (bs l) = nums l := by simp [bytesOf, bs, nums]
  rw [← h]
  exact strOf_bytesOf _
def joinL (l : List ByteArray) : List ByteArray := (l.take 40).map flatF
theorem joinL_no10 (l : List ByteArray) : ∀ x ∈ joinL l, no10 x := fun x hx => by
  obtain ⟨s, _, rfl⟩ := List.mem_map.1 hx
  exact flatF_no10 s
theorem joinL_len (l : List ByteArray) : (joinL l).length = min l.length 40 := by
  unfold joinL
  rw [List.length_map, List.length_take]
  omega
theorem sizes_le_of (X : List ByteArray) (h : ∀ x ∈ X, x.size ≤ 60) : sizes X ≤ 60 * X.length := by
  induction X with
  | nil => simp [sizes]
  | cons x t ih =>
    have e : sizes (x :: t) = x.size + sizes t := by simp [sizes]
    have h1 := h x (by simp)
    have h2 := ih (fun y hy => h y (by simp [hy]))
    rw [e, List.length_cons]
    omega
theorem joinL_sizes (l : List ByteArray) : sizes (joinL l) ≤ 2400 := by
  have h := sizes_le_of (joinL l) (fun x hx => by obtain ⟨s, _, rfl⟩ := List.mem_map.1 hx; exact flatF_size s)
  have := joinL_len l
  omega
end Go.Proofs.YteiedafdakffeaaDoor
