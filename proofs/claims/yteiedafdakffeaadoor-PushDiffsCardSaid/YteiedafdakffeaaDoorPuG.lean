/- push, plainly: what is parsed is what was written. (And what follows from it: PurePushA, PurePushB, PurePushC.) -/
import Derived.Test.YteiedafdakffeaaDoorPuC
/- push, plainly: what is parsed is what was written. -/
namespace Go.Proofs.YteiedafdakffeaaDoor
set_option linter.unusedVariables false
set_option linter.unusedSimpArgs false
open Go Go.RowKit
open Go.Proofs.YteiedafdakffeaaDoorW.PrintWords (bytesOf bytesOf_length)
def Bys (l : List Int) : Prop := ∀ x ∈ l, 0 ≤ x ∧ x ≤ 255
theorem Bys.left {a b : List Int} (h : Bys (a ++ b)) : Bys a := fun x hx => h x (List.mem_append_left _ hx)
theorem Bys.right {a b : List Int} (h : Bys (a ++ b)) : Bys b := fun x hx => h x (List.mem_append_right _ hx)
/-! ### numbers and their bytes -/
theorem byteAt_zero (N x : Int) (h0 : 0 ≤ x) (h1 : x ≤ 255) : byteAt (N * 256 + x) 0 = x := by
  unfold byteAt
  rw [Nat.mul_zero, Int.pow_zero, Int.ediv_one]
  omega
theorem byteAt_succ (N x : Int) (c : Nat) (h0 : 0 ≤ x) (h1 : x ≤ 255) : byteAt (N * 256 + x) (c + 1) = byteAt N c := by
  unfold byteAt
  have e : (2 : Int) ^ (8 * (c + 1)) = 256 * 2 ^ (8 * c) := by
    rw [show 8 * (c + 1) = 8 + 8 * c by omega, Int.pow_add]
    rfl
  have e2 : (N * 256 + x) / 256 = N := by omega
  rw [e, ← Int.ediv_ediv_of_nonneg (by omega), e2]
theorem rowB_snoc (N x : Int) (n : Nat) (h0 : 0 ≤ x) (h1 : x ≤ 255) : rowB (N * 256 + x) (n + 1) = rowB N n ++ [x] := by
  unfold rowB
  rw [List.range_succ, List.map_append, List.map_singleton]
  have e1 : n + 1 - 1 - n = 0 := by omega
  rw [e1, byteAt_zero N x h0 h1]
  congr 1
  apply List.map_congr_left
  intro i hi
  have hi' := List.mem_range.1 hi
  rw [show n + 1 - 1 - i = (n - 1 - i) + 1 by omega, byteAt_succ N x _ h0 h1]
theorem rowB_numOf_rev (l : List Int) (h : Bys l) : rowB (numOf l.reverse) l.length = l.reverse := by
  induction l with
  | nil => rfl
  | cons x t ih =>
    have hx := h x (by simp)
    rw [List.reverse_cons, numOf_snoc, List.length_cons, rowB_snoc _ _ _ hx.1 hx.2, ih (fun y hy => h y (List.mem_cons_of_mem _ hy))]
theorem rowB_numOf (l : List Int) (h : Bys l) : rowB (numOf l) l.length = l := by
  have := rowB_numOf_rev l.reverse (fun x hx => h x (by simpa using hx))
  rw [List.reverse_reverse, List.length_reverse] at this
  exact this
theorem rowB_bys (n : Int) (s : Nat) : Bys (rowB n s) := fun x hx => by
  unfold rowB at hx
  obtain ⟨i, _, rfl⟩ := List.mem_map.1 hx
  unfold byteAt
  omega
theorem numOf_rowB (s : Nat) : ∀ n : Int, 0 ≤ n → n < 256 ^ s → numOf (rowB n s) = n := by
  induction s with
  | zero => intro n h0 h1; simp at h1; have : n = 0 := by omega
            subst this; rfl
  | succ s ih =>
    intro n h0 h1
    have hd := Int.mul_ediv_add_emod n 256
    have e : n = n / 256 * 256 + n % 256 := by omega
    have hm0 : 0 ≤ n % 256 := Int.emod_nonneg _ (by omega)
    have hm1 : n % 256 ≤ 255 := by omega
    have hq0 : 0 ≤ n / 256 := by omega
    have hq1 : n / 256 < 256 ^ s := by
      rw [Int.pow_succ] at h1
      exact Int.ediv_lt_of_lt_mul (by omega) h1
    rw [e, rowB_snoc _ _ _ hm0 hm1, numOf_snoc, ih _ hq0 hq1]
/-! ### the cursor -/
theorem takeE_zero {b : List Int} {e : Int} {n : Nat} (h : takeE b e n = 0) : e = 0 ∧ n ≤ b.length := by
  unfold takeE at h
  split at h
  · rename_i he
    split at h
    · rename_i hl; exact ⟨he, hl⟩
    · cases h
  · contradiction
theorem take_parts {b : List Int} {n : Nat} (h : n ≤ b.length) : takeL b 0 n ++ takeR b 0 n = b ∧ (takeL b 0 n).length = n := by
  unfold takeL takeR
  rw [if_pos rfl, if_pos rfl, if_pos h, if_pos h]
  exact ⟨List.take_append_drop n b, by rw [List.length_take]; omega⟩
theorem takeL_app (l r : List Int) (n : Nat) (h : l.length = n) : takeL (l ++ r) 0 n = l := by
  unfold takeL
  rw [if_pos rfl, if_pos (by rw [List.length_append]; omega), ← h, List.take_left]
theorem takeR_app (l r : List Int) (n : Nat) (h : l.length = n) : takeR (l ++ r) 0 n = r := by
  unfold takeR
  rw [if_pos rfl, if_pos (by rw [List.length_append]; omega), ← h, List.drop_left]
theorem takeE_app (l r : List Int) (n : Nat) (h : l.length = n) : takeE (l ++ r) 0 n = 0 := by
  unfold takeE
  rw [if_pos rfl, if_pos (by rw [List.length_append]; omega)]
theorem limE_zero {n most e : Int} (h : limE n most e = 0) : e = 0 ∧ n ≤ most := by
  unfold limE at h
  split at h
  · rename_i he
    split at h
    · cases h
    · exact ⟨he, by omega⟩
  · contradiction
/-! ### bytes and texts -/
theorem bytesOf_strOf (l : List Int) (h : Bys l) : bytesOf (strOfNums l) = l := by
  unfold bytesOf
  rw [show (strOfNums l).data.toList = l.map (fun x => UInt8.ofNat x.toNat) by simp [strOfNums]]
  rw [List.map_map]
  conv => rhs; rw [← List.map_id l]
  apply List.map_congr_left
  intro x hx
  have := h x hx
  simp only [Function.comp, id]
  have e : (UInt8.ofNat x.toNat).toNat = x.toNat % 256 := by simp
  rw [e]
  omega
theorem bytesOf_bys (s : ByteArray) : Bys (bytesOf s) := fun x hx => by
  unfold bytesOf at hx
  obtain ⟨b, _, rfl⟩ := List.mem_map.1 hx
  have := b.toNat_lt
  omega
theorem strOf_bytesOf (s : ByteArray) : strOfNums (bytesOf s) = s := by
  unfold bytesOf
  apply ByteArray.ext
  apply Array.ext'
  rw [show (strOfNums (s.data.toList.map fun b => (b.toNat : Int))).data.toList = (s.data.toList.map fun b => (b.toNat : Int)).map (fun x => UInt8.ofNat x.toNat) by simp [strOfNums]]
  rw [List.map_map]
  conv => rhs; rw [← List.map_id s.data.toList]
  apply List.map_congr_left
  intro b hb
  simp
/-! ### what is parsed is what was there -/
theorem text_inv {b : List Int} {e : Int} (h : textRE b e = 0) (hb : Bys b) : e = 0 ∧ b = textB (textV b e) ++ textRB b e := by
  unfold textRE at h
  obtain ⟨h1, h2⟩ := takeE_zero h
  have h3 := h1
  unfold textE at h3
  obtain ⟨h4, h5⟩ := limE_zero h3
  obtain ⟨rfl, h6⟩ := takeE_zero h4
  refine ⟨rfl, ?_⟩
  obtain ⟨p1, p2⟩ := take_parts h6
  have hb1 : Bys (takeL b 0 3) := by rw [← p1] at hb; exact hb.left
  have hb2 : Bys (takeR b 0 3) := by rw [← p1] at hb; exact hb.right
  obtain ⟨q1, q2⟩ := take_parts h2
  have hb3 : Bys (takeL (takeR b 0 3) 0 (numN b 0 3)) := by rw [← q1] at hb2; exact hb2.left
  have hn := numOf_lt _ hb1
  have hsz : ((strOfNums (takeL (takeR b 0 3) 0 (numN b 0 3))).size : Int) = numOf (takeL b 0 3) := by
    rw [strOf_size, q2]
    unfold numN
    omega
  unfold textV textRB textB
  rw [h1, hsz, bytesOf_strOf _ hb3]
  have hr := rowB_numOf (takeL b 0 3) hb1
  rw [p2] at hr
  rw [hr, List.append_assoc, q1, p1]
theorem lines_inv (m : Nat) : ∀ (b : List Int) (e : Int), (linesS m b e).2.2 = 0 → Bys b → e = 0 ∧ b = linesB (linesS m b e).1 ++ (linesS m b e).2.1 ∧ (linesS m b e).1.length = m := by
  induction m with
  | zero => intro b e h _; exact ⟨h, rfl, rfl⟩
  | succ m ih =>
    intro b e h hb
    rw [linesS_succ] at h ⊢
    by_cases ht : textRE b e = 0
    · rw [if_pos ht] at h ⊢
      obtain ⟨he, hbe⟩ := text_inv ht hb
      have hb2 : Bys (textRB b e) := fun x hx => hb x (textRB_sub hx)
      obtain ⟨_, h2, h3⟩ := ih _ _ h hb2
      refine ⟨he, ?_, by simp [h3]⟩
      have : linesB (textV b e :: (linesS m (textRB b e) (textRE b e)).1) = textB (textV b e) ++ linesB (linesS m (textRB b e) (textRE b e)).1 := rfl
      simp only [this, List.append_assoc, ← h2, ← hbe]
    · rw [if_neg ht] at h
      exact absurd h ht
theorem fieldAt_plc (lo fr : Int) (i : Nat) (hi : i < 6) : (fieldAt lo fr i).1 = i + 1 := by
  have : i = 0 ∨ i = 1 ∨ i = 2 ∨ i = 3 ∨ i = 4 ∨ i = 5 := by omega
  rcases this with rfl | rfl | rfl | rfl | rfl | rfl <;> simp only [fieldAt]
theorem fieldAt_bt (lo fr : Int) (i : Nat) (hi : i < 6) : (fieldAt lo fr i).2.1 = (fieldAt 0 0 i).2.1 := by
  have : i = 0 ∨ i = 1 ∨ i = 2 ∨ i = 3 ∨ i = 4 ∨ i = 5 := by omega
  rcases this with rfl | rfl | rfl | rfl | rfl | rfl <;> simp only [fieldAt]
theorem fieldAt_inj (i j : Nat) (hi : i < 6) (hj : j < 6) (h : (fieldAt 0 0 i).1 = (fieldAt 0 0 j).1) : i = j := by
  rw [fieldAt_plc 0 0 i hi, fieldAt_plc 0 0 j hj] at h
  omega
theorem fieldAt_bit (lo fr : Int) (i : Nat) (hi : i < 6) : (fieldAt lo fr i).2.1 = (fieldAt 0 0 i).2.1 := fieldAt_bt lo fr i hi
theorem fieldAt_pl (lo fr : Int) (i : Nat) (hi : i < 6) : (fieldAt lo fr i).1 = (fieldAt 0 0 i).1 := by
  rw [fieldAt_plc lo fr i hi, fieldAt_plc 0 0 i hi]
theorem fieldB_any (own lo fr : Int) (V : Nat → Int) (i : Nat) (hi : i < 6) : fieldB own lo fr V i = fieldB own 0 0 V i := by
  unfold fieldB
  rw [fieldAt_bit lo fr i hi, fieldAt_pl lo fr i hi]
theorem fieldsB_any (own lo fr : Int) (V : Nat → Int) (n : Nat) (hn : n ≤ 6) : fieldsB own lo fr V n = fieldsB own 0 0 V n := by
  induction n with
  | zero => simp [fieldsB]
  | succ n ih => rw [fieldsB_succ, fieldsB_succ, ih (by omega), fieldB_any _ _ _ _ _ (by omega)]
theorem fieldsB_congr (own : Int) (V V' : Nat → Int) (n : Nat) (h : ∀ i, i < n → V (fieldAt 0 0 i).1 = V' (fieldAt 0 0 i).1) : fieldsB own 0 0 V n = fieldsB own 0 0 V' n := by
  induction n with
  | zero => simp [fieldsB]
  | succ n ih =>
    rw [fieldsB_succ, fieldsB_succ, ih (fun i hi => h i (by omega))]
    unfold fieldB
    rw [h n (by omega)]
theorem fields_inv (own : Int) (V0 : Nat → Int) (b : List Int) (hb : Bys b) (n : Nat) (hn : n ≤ 6) (e0 : Int) (h : (fieldsS own (V0, b, e0) n).2.2 = 0) : e0 = 0 ∧ b = fieldsB own 0 0 (fieldsS own (V0, b, e0) n).1 n ++ (fieldsS own (V0, b, e0) n).2.1 := by
  induction n with
  | zero => exact ⟨h, by simp [fieldsB, fieldsS]⟩
  | succ n ih =>
    have hs : fieldsS own (V0, b, e0) (n + 1) = fieldS own n (fieldsS own (V0, b, e0) n) := rfl
    have hbs : Bys (fieldsS own (V0, b, e0) n).2.1 := fun x hx => hb x (sub_fieldsS _ _ _ _ hx)
    have ih2 := ih (by omega)
    rw [hs] at h ⊢
    generalize fieldsS own (V0, b, e0) n = s at *
    obtain ⟨V, b1, e1⟩ := s
    by_cases hz : bits .and .i64 own (fieldAt 0 0 n).2.1 = 0
    · unfold fieldS at h ⊢
      rw [if_pos hz] at h ⊢
      obtain ⟨h1, h2⟩ := ih2 h
      refine ⟨h1, ?_⟩
      rw [fieldsB_succ]
      have : fieldB own 0 0 V n = [] := by unfold fieldB; rw [if_pos hz]
      simp only [this, List.append_nil]
      exact h2
    · unfold fieldS at h ⊢
      rw [if_neg hz] at h ⊢
      simp only at h ⊢
      obtain ⟨h1, h2⟩ := takeE_zero h
      obtain ⟨h3, h4⟩ := ih2 h1
      refine ⟨h3, ?_⟩
      subst h1
      obtain ⟨p1, p2⟩ := take_parts h2
      have hb1 : Bys (takeL b1 0 7) := by rw [← p1] at hbs; exact hbs.left
      rw [fieldsB_succ]
      have e1 : fieldsB own 0 0 (setV V (fieldAt 0 0 n).1 (numOf (takeL b1 0 7))) n = fieldsB own 0 0 V n := fieldsB_congr own _ _ n (fun i hi => by
        unfold setV
        rw [if_neg (fun e => by have := fieldAt_inj i n (by omega) (by omega) e; omega)])
      have e2 : fieldB own 0 0 (setV V (fieldAt 0 0 n).1 (numOf (takeL b1 0 7))) n = takeL b1 0 7 := by
        unfold fieldB
        rw [if_neg hz]
        unfold setV
        rw [if_pos rfl]
        have := rowB_numOf (takeL b1 0 7) hb1
        rw [p2] at this
        exact this
      rw [e1, e2, List.append_assoc, p1]
      exact h4
end Go.Proofs.YteiedafdakffeaaDoor

/- push, plainly: what can be parsed has just these bytes, and may be. -/
namespace Go.Proofs.YteiedafdakffeaaDoor
set_option linter.unusedVariables false
set_option linter.unusedSimpArgs false
open Go Go.RowKit
open Go.Proofs.YteiedafdakffeaaDoorW.PrintWords (bytesOf bytesOf_length)
theorem check_bounds {k ver fr nd tk hd tl : Int} {tx : ByteArray} {l : List ByteArray} (h : checkF k ver fr nd tk hd tl tx l = 0) : (1 ≤ k ∧ k ≤ 5) ∧ tx.size ≤ 65536 ∧ flat l = true ∧ sizes l ≤ 65536 ∧ l.length ≤ 1000 ∧ (k ≠ 1 → tx = ByteArray.empty) ∧ (k ≠ 2 → l = []) ∧ allOk (ownOf k) (leastOf k) (fromOf k ver) (pushV k ver fr nd tk hd tl) = true := by
  unfold checkF at h
  by_cases hk : 1 ≤ k ∧ k ≤ 5
  · rw [if_pos hk] at h
    unfold checkE at h
    split at h
    · rename_i hc
      simp only [Bool.and_eq_true] at hc
      obtain ⟨h1, h2, h3⟩ := hc
      unfold textsB at h2
      unfold listsB at h3
      simp only [Bool.and_eq_true, Bool.or_eq_true, decide_eq_true_eq] at h2 h3
      refine ⟨hk, h2.2, h3.2.1, h3.2.2.1, h3.2.2.2, fun hne => ?_, fun hne => ?_, h1⟩
      · rcases h2.1 with h | h
        · exact absurd (by simpa using h) hne
        · have : tx.toList = [] := by simpa using h
          rw [ByteArray.toList_eq] at this
          exact ByteArray.ext (Array.ext' (by rw [this]; rfl))
      · rcases h3.1 with h | h
        · exact absurd (by simpa using h) hne
        · simpa using h
    · cases h
  · rw [if_neg hk] at h
    cases h
theorem pushV_at (k : Int) (V : Nat → Int) (q : Nat) (h1 : 1 ≤ q) (h6 : q ≤ 6) : pushV k (V 1) (V 2) (V 3) (V 4) (V 5) (V 6) q = V q := by
  have : q = 1 ∨ q = 2 ∨ q = 3 ∨ q = 4 ∨ q = 5 ∨ q = 6 := by omega
  rcases this with rfl | rfl | rfl | rfl | rfl | rfl <;> simp only [pushV]
theorem pushB_eq (k : Int) (V : Nat → Int) (tx : ByteArray) (l : List ByteArray) : pushB k (V 1) (V 2) (V 3) (V 4) (V 5) (V 6) tx l = [k % 256] ++ fieldsB (ownOf k) 0 0 V 6 ++ (if k = 1 then textB tx else []) ++ (if k = 2 then rowB l.length 2 ++ linesB l else []) := by
  unfold pushB
  rw [fieldsB_any _ _ _ _ 6 (by omega), fieldsB_congr (ownOf k) _ V 6 (fun i hi => by rw [fieldAt_plc 0 0 i hi]; exact pushV_at k V (i + 1) (by omega) (by omega))]
theorem noPkt_e (e : Int) : (noPkt e).e = e := rfl
theorem linesP_shape (k : Int) (V : Nat → Int) (tx : ByteArray) (b : List Int) (e : Int) : linesP k V tx b e = noPkt (linesP k V tx b e).e ∨ (linesP k V tx b e).e = 0 := by
  unfold linesP
  generalize (if k = 2 then linesS (numN b e 2) (takeR b e 2) (limE (numOf (takeL b e 2)) 1000 (takeE b e 2)) else ([], b, e)) = r
  unfold endP
  split
  · split
    · exact .inl rfl
    · split
      · exact .inr rfl
      · exact .inl rfl
  · exact .inl rfl
theorem parse_shape (b : List Int) : parseP b = noPkt (parseP b).e ∨ (parseP b).e = 0 := by
  unfold parseP
  split
  · split
    · unfold textP
      split
      · exact linesP_shape _ _ _ _ _
      · exact linesP_shape _ _ _ _ _
    · exact .inl rfl
  · exact .inl rfl
theorem parse_err (b : List Int) (h : (parseP b).e ≠ 0) : parseP b = noPkt (parseP b).e := (parse_shape b).elim id (fun h' => absurd h' h)
theorem parse_inv (b : List Int) (hb : Bys b) (h : (parseP b).e = 0) :
    checkP (parseP b).k (parseP b).V (parseP b).tx (parseP b).l = 0 ∧ pushB (parseP b).k ((parseP b).V 1) ((parseP b).V 2) ((parseP b).V 3) ((parseP b).V 4) ((parseP b).V 5) ((parseP b).V 6) (parseP b).tx (parseP b).l = b := by
  have hP : parseP b = if takeE b 0 1 = 0 then if 1 ≤ numOf (takeL b 0 1) ∧ numOf (takeL b 0 1) ≤ 5 then textP (numOf (takeL b 0 1)) (fieldsS (ownOf (numOf (takeL b 0 1))) (zeroV, takeR b 0 1, 0) 6) else noPkt 4 else noPkt (takeE b 0 1) := rfl
  by_cases h0 : takeE b 0 1 = 0
  · rw [if_pos h0] at hP
    obtain ⟨_, h1⟩ := takeE_zero h0
    obtain ⟨p1, p2⟩ := take_parts h1
    by_cases hk : 1 ≤ numOf (takeL b 0 1) ∧ numOf (takeL b 0 1) ≤ 5
    · rw [if_pos hk] at hP
      have hkb : takeL b 0 1 = [numOf (takeL b 0 1) % 256] := by
        obtain ⟨x, hx⟩ : ∃ x, takeL b 0 1 = [x] := by
          match hh : takeL b 0 1, p2 with
          | [x], _ => exact ⟨x, rfl⟩
        rw [hx] at hk ⊢
        have : numOf [x] = x := by simp [numOf]
        rw [this] at hk ⊢
        rw [Int.emod_eq_of_lt (by omega) (by omega)]
      have hb1 : Bys (takeR b 0 1) := by rw [← p1] at hb; exact hb.right
      rw [hP] at h ⊢
      rw [hkb] at p1
      generalize numOf (takeL b 0 1) = k at *
      generalize takeR b 0 1 = b1 at *
      clear hP hkb p2 h0 h1
      have hf := fields_inv (ownOf k) zeroV b1 hb1 6 (by omega) 0
      have hbs : Bys (fieldsS (ownOf k) (zeroV, b1, 0) 6).2.1 := fun x hx => hb1 x (sub_fieldsS _ _ _ _ hx)
      generalize fieldsS (ownOf k) (zeroV, b1, 0) 6 = s at *
      obtain ⟨V, b2, e2⟩ := s
      simp only at hf hbs
      -- the lines and the end
      have key : ∀ (tx : ByteArray) (b3 : List Int) (e3 : Int), Bys b3 → (linesP k V tx b3 e3).e = 0 →
          e3 = 0 ∧ ∃ l, linesP k V tx b3 e3 = ⟨k, V, tx, l, 0⟩ ∧ checkP k V tx l = 0 ∧ b3 = (if k = 2 then rowB l.length 2 ++ linesB l else []) := fun tx b3 e3 hb3 hl => by
        unfold linesP at hl ⊢
        have hr : ∀ r : List ByteArray × List Int × Int, (endP k V tx r).e = 0 → r.2.2 = 0 ∧ r.2.1 = [] ∧ endP k V tx r = ⟨k, V, tx, r.1, 0⟩ ∧ checkP k V tx r.1 = 0 := fun r h => by
          unfold endP at h ⊢
          split at h
          · rename_i hz
            split at h
            · cases h
            · rename_i hlen
              split at h
              · rename_i hc
                refine ⟨hz, ?_, by rw [if_pos hz, if_neg hlen, if_pos hc], hc⟩
                cases hh : r.2.1 with
                | nil => rfl
                | cons x t => rw [hh] at hlen; simp at hlen
              · cases h
          · rename_i hz
            rw [noPkt_e] at h
            exact absurd h hz
        by_cases h2 : k = 2
        · rw [if_pos h2] at hl ⊢
          obtain ⟨g1, g2, g3, g4⟩ := hr _ hl
          have hnum : Bys (takeR b3 e3 2) := fun x hx => hb3 x (takeR_sub hx)
          obtain ⟨l1, l2, l3⟩ := lines_inv _ _ _ g1 hnum
          obtain ⟨l4, l5⟩ := limE_zero l1
          obtain ⟨rfl, l6⟩ := takeE_zero l4
          obtain ⟨q1, q2⟩ := take_parts l6
          refine ⟨rfl, _, g3, g4, ?_⟩
          rw [if_pos h2]
          rw [g2, List.append_nil] at l2
          have hbL : Bys (takeL b3 0 2) := by rw [← q1] at hb3; exact hb3.left
          have hrow := rowB_numOf _ hbL
          rw [q2] at hrow
          have hn := numOf_lt _ hbL
          have hlen : ((linesS (numN b3 0 2) (takeR b3 0 2) (limE (numOf (takeL b3 0 2)) 1000 (takeE b3 0 2))).1.length : Int) = numOf (takeL b3 0 2) := by
            rw [l3]
            unfold numN
            omega
          rw [hlen, hrow, ← l2, q1]
        · rw [if_neg h2] at hl ⊢
          obtain ⟨g1, g2, g3, g4⟩ := hr _ hl
          exact ⟨g1, [], g3, g4, by rw [if_neg h2]; exact g2⟩
      unfold textP at h ⊢
      simp only at h ⊢
      by_cases h1 : k = 1
      · rw [if_pos h1] at h ⊢
        have hb3 : Bys (textRB b2 e2) := fun x hx => hbs x (textRB_sub hx)
        obtain ⟨t1, l, t2, t3, t4⟩ := key _ _ _ hb3 h
        obtain ⟨t5, t6⟩ := text_inv t1 hbs
        obtain ⟨_, f2⟩ := hf t5
        rw [t2]
        refine ⟨t3, ?_⟩
        rw [pushB_eq, if_pos h1, ← t4, List.append_assoc, List.append_assoc, ← t6, ← f2, p1]
      · rw [if_neg h1] at h ⊢
        obtain ⟨t1, l, t2, t3, t4⟩ := key _ _ _ hbs h
        obtain ⟨_, f2⟩ := hf t1
        rw [t2]
        refine ⟨t3, ?_⟩
        rw [pushB_eq, if_neg h1, ← t4, List.append_nil, List.append_assoc, ← f2, p1]
    · rw [if_neg hk] at hP
      rw [hP] at h
      cases h
  · rw [if_neg h0] at hP
    rw [hP, noPkt_e] at h
    exact absurd h h0
end Go.Proofs.YteiedafdakffeaaDoor

/- push, plainly: what was written is parsed; cut, or with one behind it, it is none. -/
namespace Go.Proofs.YteiedafdakffeaaDoor
set_option linter.unusedVariables false
set_option linter.unusedSimpArgs false
open Go Go.RowKit
open Go.Proofs.YteiedafdakffeaaDoorW.PrintWords (bytesOf bytesOf_length)
theorem allOk_at' {own lo fr : Int} {V : Nat → Int} (h : allOk own lo fr V = true) (i : Nat) (hi : i < 6) : okAt own lo fr V i = true := by
  unfold allOk at h
  rw [List.all_eq_true] at h
  exact h i (List.mem_range.2 hi)
/-! ### forwards -/
theorem pow3 : (256 : Int) ^ 3 = 16777216 := by decide
theorem pow2 : (256 : Int) ^ 2 = 65536 := by decide
theorem pow7 : (256 : Int) ^ 7 = 72057594037927936 := by decide
theorem num3 (n : Nat) (h : n ≤ 65536) : numOf (rowB (n : Int) 3) = n := numOf_rowB 3 n (by omega) (by rw [pow3]; omega)
theorem num2 (n : Nat) (h : n ≤ 1000) : numOf (rowB (n : Int) 2) = n := numOf_rowB 2 n (by omega) (by rw [pow2]; omega)
theorem num7 (n : Int) (h0 : 0 ≤ n) (h1 : n ≤ 9007199254740991) : numOf (rowB n 7) = n := numOf_rowB 7 n h0 (by rw [pow7]; omega)
theorem text_fwd (s : ByteArray) (r : List Int) (hs : s.size ≤ 65536) : textV (textB s ++ r) 0 = s ∧ textRB (textB s ++ r) 0 = r ∧ textRE (textB s ++ r) 0 = 0 := by
  have hl : (rowB (s.size : Int) 3).length = 3 := rowB_length _ _
  have e : textB s ++ r = rowB (s.size : Int) 3 ++ (bytesOf s ++ r) := by rw [textB, List.append_assoc]
  have h1 : takeL (textB s ++ r) 0 3 = rowB (s.size : Int) 3 := by rw [e]; exact takeL_app _ _ 3 hl
  have h2 : takeR (textB s ++ r) 0 3 = bytesOf s ++ r := by rw [e]; exact takeR_app _ _ 3 hl
  have h3 : takeE (textB s ++ r) 0 3 = 0 := by rw [e]; exact takeE_app _ _ 3 hl
  have hn : numN (textB s ++ r) 0 3 = s.size := by unfold numN; rw [h1, num3 _ hs]; omega
  have hE : textE (textB s ++ r) 0 = 0 := by
    unfold textE limE
    rw [h3, if_pos rfl, h1, num3 _ hs, if_neg (by omega)]
  unfold textV textRB textRE
  rw [hE, hn, h2]
  have hb := bytesOf_length s
  refine ⟨?_, takeR_app _ _ _ hb, takeE_app _ _ _ hb⟩
  rw [takeL_app _ _ _ hb, strOf_bytesOf]
theorem lines_fwd (l : List ByteArray) (r : List Int) (h : ∀ s ∈ l, s.size ≤ 65536) : linesS l.length (linesB l ++ r) 0 = (l, r, 0) := by
  induction l with
  | nil => rfl
  | cons s t ih =>
    have e : linesB (s :: t) ++ r = textB s ++ (linesB t ++ r) := by
      show (textB s ++ linesB t) ++ r = _
      rw [List.append_assoc]
    obtain ⟨h1, h2, h3⟩ := text_fwd s (linesB t ++ r) (h s (by simp))
    rw [List.length_cons, linesS_succ, e, h3, if_pos rfl, h1, h2, ih (fun x hx => h x (List.mem_cons_of_mem _ hx))]
/-- what the fields' numbers are behind n fields -/
def fwdV (own : Int) (V : Nat → Int) : Nat → (Nat → Int)
  | 0 => zeroV
  | n + 1 => if bits .and .i64 own (fieldAt 0 0 n).2.1 = 0 then fwdV own V n else setV (fwdV own V n) (fieldAt 0 0 n).1 (V (fieldAt 0 0 n).1)
theorem fwdV_succ (own : Int) (V : Nat → Int) (n : Nat) : fwdV own V (n + 1) = if bits .and .i64 own (fieldAt 0 0 n).2.1 = 0 then fwdV own V n else setV (fwdV own V n) (fieldAt 0 0 n).1 (V (fieldAt 0 0 n).1) := rfl
def Fits (own : Int) (V : Nat → Int) : Prop := ∀ i, i < 6 → ¬ bits .and .i64 own (fieldAt 0 0 i).2.1 = 0 → 0 ≤ V (fieldAt 0 0 i).1 ∧ V (fieldAt 0 0 i).1 ≤ 9007199254740991
theorem fields_fwd (own : Int) (V : Nat → Int) (hf : Fits own V) (n : Nat) (hn : n ≤ 6) : ∀ r, fieldsS own (zeroV, fieldsB own 0 0 V n ++ r, 0) n = (fwdV own V n, r, 0) := by
  induction n with
  | zero => intro r; simp [fieldsS, fieldsB, fwdV]
  | succ n ih =>
    intro r
    have hs : ∀ s, fieldsS own s (n + 1) = fieldS own n (fieldsS own s n) := fun s => rfl
    rw [hs, fieldsB_succ, List.append_assoc, ih (by omega)]
    rw [fwdV_succ]
    unfold fieldS fieldB
    by_cases hz : bits .and .i64 own (fieldAt 0 0 n).2.1 = 0
    · rw [if_pos hz, if_pos hz, if_pos hz]; rfl
    · rw [if_neg hz, if_neg hz, if_neg hz]
      have hv := hf n (by omega) hz
      have hl : (rowB (V (fieldAt 0 0 n).1) 7).length = 7 := rowB_length _ _
      simp only [takeL_app _ _ 7 hl, takeR_app _ _ 7 hl, takeE_app _ _ 7 hl, num7 _ hv.1 hv.2]
theorem fwdV_at (own : Int) (V : Nat → Int) (n : Nat) (hn : n ≤ 6) (i : Nat) (hi : i < n) : fwdV own V n (fieldAt 0 0 i).1 = if bits .and .i64 own (fieldAt 0 0 i).2.1 = 0 then 0 else V (fieldAt 0 0 i).1 := by
  have out : ∀ m, m ≤ 6 → ∀ i, m ≤ i → i < 6 → fwdV own V m (fieldAt 0 0 i).1 = 0 := by
    intro m
    induction m with
    | zero => intro _ i _ _; rfl
    | succ m ih =>
      intro hm i hmi hi
      rw [fwdV_succ]
      split
      · exact ih (by omega) i (by omega) hi
      · unfold setV
        rw [if_neg (fun e => by have := fieldAt_inj i m (by omega) (by omega) e; omega)]
        exact ih (by omega) i (by omega) hi
  induction n with
  | zero => omega
  | succ n ih =>
    rw [fwdV_succ]
    by_cases hin : i = n
    · subst hin
      by_cases hz : bits .and .i64 own (fieldAt 0 0 i).2.1 = 0
      · rw [if_pos hz, if_pos hz]
        exact out i (by omega) i (by omega) (by omega)
      · rw [if_neg hz, if_neg hz]
        unfold setV
        rw [if_pos rfl]
    · have h2 := ih (by omega) (by omega)
      by_cases hz : bits .and .i64 own (fieldAt 0 0 n).2.1 = 0
      · rw [if_pos hz]; exact h2
      · rw [if_neg hz]
        unfold setV
        rw [if_neg (fun e => by have := fieldAt_inj i n (by omega) (by omega) e; omega)]
        exact h2
theorem ok_fields {k : Int} {V : Nat → Int} {tx : ByteArray} {l : List ByteArray} (h : checkP k V tx l = 0) (i : Nat) (hi : i < 6) :
    fieldOk (ownOf k) (fieldAt (leastOf k) (fromOf k (V 1)) i).2.1 (V (fieldAt 0 0 i).1) (fieldAt (leastOf k) (fromOf k (V 1)) i).2.2.1 (fieldAt (leastOf k) (fromOf k (V 1)) i).2.2.2 = true := by
  obtain ⟨_, _, _, _, _, _, _, ha⟩ := check_bounds h
  have := allOk_at' ha i hi
  unfold okAt at this
  rw [fieldAt_pl _ _ i hi, pushV_at k V _ (by rw [fieldAt_plc 0 0 i hi]; omega) (by rw [fieldAt_plc 0 0 i hi]; omega)] at this
  exact this
theorem fieldOk_spec {own bit v lo hi : Int} (h : fieldOk own bit v lo hi = true) : (bits .and .i64 own bit = 0 → v = 0) ∧ (¬ bits .and .i64 own bit = 0 → lo ≤ v ∧ v ≤ hi) := by
  unfold fieldOk at h
  by_cases hz : bits .and .i64 own bit = 0
  · rw [if_pos hz] at h
    exact ⟨fun _ => by simpa using h, fun hn => absurd hz hn⟩
  · rw [if_neg hz] at h
    simp only [Bool.and_eq_true, decide_eq_true_eq] at h
    exact ⟨fun hn => absurd hn hz, fun _ => h⟩
theorem zero_fields {k : Int} {V : Nat → Int} {tx : ByteArray} {l : List ByteArray} (h : checkP k V tx l = 0) (i : Nat) (hi : i < 6) (hz : bits .and .i64 (ownOf k) (fieldAt 0 0 i).2.1 = 0) : V (fieldAt 0 0 i).1 = 0 := by
  have := (fieldOk_spec (ok_fields h i hi)).1
  rw [fieldAt_bit _ _ i hi] at this
  exact this hz
theorem least_nonneg (k : Int) : 0 ≤ leastOf k := by unfold leastOf; split <;> (try split) <;> (try split) <;> omega
theorem fits_of {k : Int} {V : Nat → Int} {tx : ByteArray} {l : List ByteArray} (h : checkP k V tx l = 0) : Fits (ownOf k) V := by
  intro i hi hz
  have h1 := (fieldOk_spec (ok_fields h i hi)).2
  have h0 := (fieldOk_spec (ok_fields h 0 (by omega))).2
  rw [fieldAt_bit _ _ i hi] at h1
  have h1 := h1 hz
  have hl := least_nonneg k
  have : i = 0 ∨ i = 1 ∨ i = 2 ∨ i = 3 ∨ i = 4 ∨ i = 5 := by omega
  rcases this with rfl | rfl | rfl | rfl | rfl | rfl <;> simp only [fieldAt] at h1 hz h0 ⊢
  · omega
  · have hk : k = 2 := by
      obtain ⟨⟨hk1, hk5⟩, _⟩ := check_bounds h
      have : k = 1 ∨ k = 2 ∨ k = 3 ∨ k = 4 ∨ k = 5 := by omega
      rcases this with rfl | rfl | rfl | rfl | rfl
      · exact absurd (show bits .and .i64 (ownOf 1) 2 = 0 from rfl) hz
      · rfl
      · exact absurd (show bits .and .i64 (ownOf 3) 2 = 0 from rfl) hz
      · exact absurd (show bits .and .i64 (ownOf 4) 2 = 0 from rfl) hz
      · exact absurd (show bits .and .i64 (ownOf 5) 2 = 0 from rfl) hz
    subst hk
    have hb : (bits .and .i64 (ownOf 2) 1 != 0) = true := rfl
    have h0 := h0 (bne_iff_ne.1 hb)
    have hlo : leastOf 2 = 2 := rfl
    have hfr : fromOf 2 (V 1) = IntKind.i64.wrap (V 1 - 1) := rfl
    rw [hlo] at h0
    rw [hfr, IntKind.wrap_i64] at h1
    omega
  · omega
  · omega
  · omega
  · omega
theorem fwd_same {k : Int} {V : Nat → Int} {tx : ByteArray} {l : List ByteArray} (h : checkP k V tx l = 0) (q : Nat) (h1 : 1 ≤ q) (h6 : q ≤ 6) : fwdV (ownOf k) V 6 q = V q := by
  have := fwdV_at (ownOf k) V 6 (by omega) (q - 1) (by omega)
  rw [fieldAt_plc 0 0 (q - 1) (by omega), show q - 1 + 1 = q by omega] at this
  rw [this]
  split
  · rename_i hz
    have := zero_fields h (q - 1) (by omega) hz
    rw [fieldAt_plc 0 0 (q - 1) (by omega), show q - 1 + 1 = q by omega] at this
    exact this.symm
  · rfl
theorem checkP_congr {k : Int} {V V' : Nat → Int} {tx : ByteArray} {l : List ByteArray} (h : ∀ q, 1 ≤ q → q ≤ 6 → V' q = V q) : checkP k V' tx l = checkP k V tx l := by
  unfold checkP
  rw [h 1 (by omega) (by omega), h 2 (by omega) (by omega), h 3 (by omega) (by omega), h 4 (by omega) (by omega), h 5 (by omega) (by omega), h 6 (by omega) (by omega)]
theorem size_le_sizes {l : List ByteArray} {s : ByteArray} (h : s ∈ l) : s.size ≤ sizes l := by
  induction l with
  | nil => simp at h
  | cons x t ih =>
    have e : sizes (x :: t) = x.size + sizes t := by simp [sizes]
    rw [e]
    rcases List.mem_cons.1 h with rfl | h
    · omega
    · have := ih h; omega
/-- behind the fields: what is left of a packet -/
def tailB (k : Int) (tx : ByteArray) (l : List ByteArray) : List Int := (if k = 1 then textB tx else []) ++ (if k = 2 then rowB l.length 2 ++ linesB l else [])
theorem pushB_tail (k : Int) (V : Nat → Int) (tx : ByteArray) (l : List ByteArray) (hk : 1 ≤ k ∧ k ≤ 5) : pushB k (V 1) (V 2) (V 3) (V 4) (V 5) (V 6) tx l = [k] ++ (fieldsB (ownOf k) 0 0 V 6 ++ tailB k tx l) := by
  rw [pushB_eq, tailB, Int.emod_eq_of_lt (by omega) (by omega)]
  simp only [List.append_assoc]
theorem numOf_one (x : Int) : numOf [x] = x := by simp [numOf]
theorem parse_head (k : Int) (R : List Int) (hk : 1 ≤ k ∧ k ≤ 5) : parseP ([k] ++ R) = textP k (fieldsS (ownOf k) (zeroV, R, 0) 6) := by
  have h1 : takeL ([k] ++ R) 0 1 = [k] := takeL_app _ _ 1 rfl
  have h2 : takeR ([k] ++ R) 0 1 = R := takeR_app _ _ 1 rfl
  have h3 : takeE ([k] ++ R) 0 1 = 0 := takeE_app _ _ 1 rfl
  unfold parseP
  rw [h3, h1, h2, numOf_one, if_pos rfl, if_pos hk]
theorem parse_app {k : Int} {V : Nat → Int} {tx : ByteArray} {l : List ByteArray} (h : checkP k V tx l = 0) (x : List Int) :
    parseP (pushB k (V 1) (V 2) (V 3) (V 4) (V 5) (V 6) tx l ++ x) = if 0 < x.length then noPkt 4 else ⟨k, fwdV (ownOf k) V 6, tx, l, 0⟩ := by
  obtain ⟨hk, htx, _, hsz, hln, hne1, hne2, _⟩ := check_bounds h
  rw [pushB_tail k V tx l hk, List.append_assoc, parse_head k _ hk, List.append_assoc, fields_fwd _ _ (fits_of h) 6 (by omega)]
  have hend : endP k (fwdV (ownOf k) V 6) tx (l, x, 0) = if 0 < x.length then noPkt 4 else ⟨k, fwdV (ownOf k) V 6, tx, l, 0⟩ := by
    unfold endP
    have hc : checkP k (fwdV (ownOf k) V 6) tx l = 0 := (checkP_congr (fun q h1 h6 => fwd_same h q h1 h6)).trans h
    simp only [if_true, hc]
  have hall : ∀ s ∈ l, s.size ≤ 65536 := fun s hs => Nat.le_trans (size_le_sizes hs) hsz
  have hlines : linesP k (fwdV (ownOf k) V 6) tx ((if k = 2 then rowB l.length 2 ++ linesB l else []) ++ x) 0 = if 0 < x.length then noPkt 4 else ⟨k, fwdV (ownOf k) V 6, tx, l, 0⟩ := by
    unfold linesP
    by_cases h2 : k = 2
    · rw [if_pos h2, if_pos h2]
      have hl : (rowB (l.length : Int) 2).length = 2 := rowB_length _ _
      have e : rowB (l.length : Int) 2 ++ linesB l ++ x = rowB (l.length : Int) 2 ++ (linesB l ++ x) := List.append_assoc _ _ _
      have hn : numN (rowB (l.length : Int) 2 ++ (linesB l ++ x)) 0 2 = l.length := by unfold numN; rw [takeL_app _ _ 2 hl, num2 _ hln]; omega
      rw [e, hn, takeL_app _ _ 2 hl, takeR_app _ _ 2 hl, takeE_app _ _ 2 hl, num2 _ hln]
      have hli : limE (l.length : Int) 1000 0 = 0 := by unfold limE; rw [if_pos rfl, if_neg (by omega)]
      rw [hli, lines_fwd l x hall]
      exact hend
    · rw [if_neg h2, if_neg h2, List.nil_append]
      have := hne2 h2
      subst this
      exact hend
  unfold textP tailB
  simp only
  by_cases h1 : k = 1
  · rw [if_pos h1, if_pos h1, List.append_assoc]
    obtain ⟨t1, t2, t3⟩ := text_fwd tx ((if k = 2 then rowB l.length 2 ++ linesB l else []) ++ x) htx
    rw [t1, t2, t3]
    exact hlines
  · rw [if_neg h1, if_neg h1, List.nil_append]
    have := hne1 h1
    subst this
    exact hlines
/-! ### cut -/
theorem takeE_3 (b : List Int) (n : Nat) : takeE b 3 n = 3 := rfl
theorem textRE_3 (b : List Int) : textRE b 3 = 3 := by unfold textRE textE limE takeE; simp
theorem linesS_3 (m : Nat) (b : List Int) : (linesS m b 3).2.2 = 3 := by
  cases m with
  | zero => rfl
  | succ m => rw [linesS_succ, textRE_3]; rfl
theorem fieldsS_3 (own : Int) (V : Nat → Int) (b : List Int) (n : Nat) : (fieldsS own (V, b, 3) n).2.2 = 3 := by
  induction n with
  | zero => rfl
  | succ n ih =>
    have hs : fieldsS own (V, b, 3) (n + 1) = fieldS own n (fieldsS own (V, b, 3) n) := rfl
    rw [hs]
    generalize fieldsS own (V, b, 3) n = s at *
    obtain ⟨V1, b1, e1⟩ := s
    simp only at ih
    subst ih
    unfold fieldS
    split
    · rfl
    · rfl
theorem linesP_3 (k : Int) (V : Nat → Int) (tx : ByteArray) (b : List Int) : linesP k V tx b 3 = noPkt 3 := by
  unfold linesP
  have : ∀ r : List ByteArray × List Int × Int, r.2.2 = 3 → endP k V tx r = noPkt 3 := fun r h => by
    unfold endP
    rw [h, if_neg (by decide)]
  split
  · refine this _ ?_
    rw [takeE_3]
    have : ∀ n, limE n 1000 3 = 3 := fun n => rfl
    rw [this]
    exact linesS_3 _ _
  · exact this _ rfl
theorem textP_3 (k : Int) (s : (Nat → Int) × List Int × Int) (h : s.2.2 = 3) : textP k s = noPkt 3 := by
  unfold textP
  rw [h]
  split
  · rw [textRE_3]; exact linesP_3 _ _ _ _
  · exact linesP_3 _ _ _ _
theorem takeE_short (b : List Int) (n : Nat) (h : b.length < n) : takeE b 0 n = 3 := by
  unfold takeE
  rw [if_pos rfl, if_neg (by omega)]
theorem take_app_ge (a b : List Int) (m : Nat) (h : a.length ≤ m) : (a ++ b).take m = a ++ b.take (m - a.length) := by
  rw [List.take_append, List.take_of_length_le h]
theorem text_cut (s : ByteArray) (r : List Int) (hs : s.size ≤ 65536) (m : Nat) (hm : m < (textB s).length) : textRE ((textB s ++ r).take m) 0 = 3 := by
  have hl : (rowB (s.size : Int) 3).length = 3 := rowB_length _ _
  have e : textB s ++ r = rowB (s.size : Int) 3 ++ (bytesOf s ++ r) := by rw [textB, List.append_assoc]
  rw [textB_length] at hm
  by_cases h3 : m < 3
  · have : takeE ((textB s ++ r).take m) 0 3 = 3 := takeE_short _ _ (by rw [List.length_take]; omega)
    unfold textRE textE
    rw [this]
    rfl
  · have e2 : (textB s ++ r).take m = rowB (s.size : Int) 3 ++ (bytesOf s ++ r).take (m - 3) := by rw [e, take_app_ge _ _ _ (by omega), hl]
    rw [e2]
    unfold textRE textE numN
    rw [takeL_app _ _ 3 hl, takeR_app _ _ 3 hl, takeE_app _ _ 3 hl, num3 _ hs]
    have : limE (s.size : Int) 65536 0 = 0 := by unfold limE; rw [if_pos rfl, if_neg (by omega)]
    rw [this]
    exact takeE_short _ _ (by rw [List.length_take]; omega)
theorem lines_cut (l : List ByteArray) (r : List Int) (h : ∀ s ∈ l, s.size ≤ 65536) : ∀ m, m < (linesB l).length → (linesS l.length ((linesB l ++ r).take m) 0).2.2 = 3 := by
  induction l with
  | nil => intro m hm; simp [linesB] at hm
  | cons s t ih =>
    intro m hm
    have e : linesB (s :: t) = textB s ++ linesB t := rfl
    rw [e, List.length_append] at hm
    rw [List.length_cons, linesS_succ, e, List.append_assoc]
    have hs := h s (by simp)
    by_cases h1 : m < (textB s).length
    · rw [text_cut s _ hs m h1]
      rfl
    · have e2 : (textB s ++ (linesB t ++ r)).take m = textB s ++ (linesB t ++ r).take (m - (textB s).length) := take_app_ge _ _ _ (by omega)
      obtain ⟨t1, t2, t3⟩ := text_fwd s ((linesB t ++ r).take (m - (textB s).length)) hs
      rw [e2, t3, if_pos rfl, t2]
      exact ih (fun x hx => h x (List.mem_cons_of_mem _ hx)) _ (by omega)
theorem fields_cut (own : Int) (V : Nat → Int) (hf : Fits own V) (n : Nat) (hn : n ≤ 6) : ∀ r m, m < (fieldsB own 0 0 V n).length → (fieldsS own (zeroV, (fieldsB own 0 0 V n ++ r).take m, 0) n).2.2 = 3 := by
  induction n with
  | zero => intro r m hm; simp [fieldsB] at hm
  | succ n ih =>
    intro r m hm
    have hs : ∀ s, fieldsS own s (n + 1) = fieldS own n (fieldsS own s n) := fun s => rfl
    rw [fieldsB_succ, List.length_append] at hm
    rw [hs, fieldsB_succ, List.append_assoc]
    by_cases h1 : m < (fieldsB own 0 0 V n).length
    · have h3 := ih (by omega) (fieldB own 0 0 V n ++ r) m h1
      generalize fieldsS own (zeroV, (fieldsB own 0 0 V n ++ (fieldB own 0 0 V n ++ r)).take m, 0) n = s at *
      obtain ⟨V1, b1, e1⟩ := s
      simp only at h3
      subst h3
      unfold fieldS
      split <;> rfl
    · rw [take_app_ge _ _ _ (by omega), fields_fwd own V hf n (by omega)]
      unfold fieldS
      unfold fieldB at hm
      by_cases hz : bits .and .i64 own (fieldAt 0 0 n).2.1 = 0
      · rw [if_pos hz] at hm
        simp at hm
        omega
      · rw [if_neg hz] at hm ⊢
        rw [rowB_length] at hm
        exact takeE_short _ _ (by rw [List.length_take]; omega)
theorem parse_cut {k : Int} {V : Nat → Int} {tx : ByteArray} {l : List ByteArray} (h : checkP k V tx l = 0) (m : Nat) (hm : m < (pushB k (V 1) (V 2) (V 3) (V 4) (V 5) (V 6) tx l).length) :
    parseP ((pushB k (V 1) (V 2) (V 3) (V 4) (V 5) (V 6) tx l).take m) = noPkt 3 := by
  obtain ⟨hk, htx, _, hsz, hln, hne1, hne2, _⟩ := check_bounds h
  rw [pushB_tail k V tx l hk] at hm ⊢
  by_cases h0 : m = 0
  · subst h0
    rfl
  · rw [take_app_ge [k] _ _ (by simp; omega), parse_head k _ hk]
    have hl1 : ([k] : List Int).length = 1 := rfl
    rw [List.length_append, hl1] at hm
    rw [hl1]
    have hall : ∀ s ∈ l, s.size ≤ 65536 := fun s hs => Nat.le_trans (size_le_sizes hs) hsz
    by_cases h1 : m - 1 < (fieldsB (ownOf k) 0 0 V 6).length
    · exact textP_3 k _ (fields_cut _ _ (fits_of h) 6 (by omega) _ _ h1)
    · rw [take_app_ge _ _ _ (by omega), fields_fwd _ _ (fits_of h) 6 (by omega)]
      rw [List.length_append] at hm
      generalize hq : m - 1 - (fieldsB (ownOf k) 0 0 V 6).length = q
      have hqm : q < (tailB k tx l).length := by omega
      unfold tailB at hqm ⊢
      unfold textP
      simp only
      by_cases hk1 : k = 1
      · have hk2 : ¬ k = 2 := by omega
        rw [if_pos hk1, if_neg hk2, List.append_nil] at hqm
        rw [if_pos hk1, if_pos hk1, if_neg hk2]
        rw [text_cut tx [] htx q hqm]
        exact linesP_3 _ _ _ _
      · rw [if_neg hk1, List.nil_append] at hqm
        rw [if_neg hk1, if_neg hk1, List.nil_append]
        by_cases hk2 : k = 2
        · rw [if_pos hk2] at hqm ⊢
          have hl : (rowB (l.length : Int) 2).length = 2 := rowB_length _ _
          unfold linesP
          rw [if_pos hk2]
          have hbad : ∀ r : List ByteArray × List Int × Int, r.2.2 = 3 → endP k (fwdV (ownOf k) V 6) ByteArray.empty r = noPkt 3 := fun r h => by
            unfold endP
            rw [h, if_neg (by decide)]
          refine hbad _ ?_
          by_cases h2 : q < 2
          · have : takeE ((rowB (l.length : Int) 2 ++ linesB l).take q) 0 2 = 3 := takeE_short _ _ (by rw [List.length_take]; omega)
            rw [this]
            exact linesS_3 _ _
          · rw [take_app_ge _ _ _ (by omega), hl]
            rw [List.length_append, hl] at hqm
            unfold numN
            rw [takeL_app _ _ 2 hl, takeR_app _ _ 2 hl, takeE_app _ _ 2 hl, num2 _ hln]
            have hli : limE (l.length : Int) 1000 0 = 0 := by unfold limE; rw [if_pos rfl, if_neg (by omega)]
            rw [hli, Int.toNat_natCast]
            have := lines_cut l [] hall (q - 2) (by omega)
            rw [List.append_nil] at this
            exact this
        · rw [if_neg hk2] at hqm
          simp at hqm
end Go.Proofs.YteiedafdakffeaaDoor
