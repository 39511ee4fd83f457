/- lattice.Make's answer, reckoned over rows of bits. (And: LatEval, LatLaw1, LatWorks.) -/
import Derived.Test.YtfhmmekamommcaaGreatDoorLatFns2
import Derived.Maps.AppendAt
/- lattice.Make's answer, reckoned over rows of bits. -/
namespace Go.Proofs.YtfhmmekamommcaaGreatDoor
set_option linter.unusedVariables false
set_option linter.unusedSimpArgs false
open Go Go.RowKit Go.Proofs
def rowR (L : List Nat) : Nat → Nat → Bool := fun i j => (L.getD i 0).testBit j
def idL (n : Nat) : List Nat := (List.range n).map (2 ^ ·)
def addL (L : List Nat) (x y : Nat) : List Nat := L.map fun m => if m.testBit x then m ||| L.getD y 0 else m
def addAllL : List (Nat × Nat) → List Nat → Option (List Nat)
  | [], L => some L
  | p :: r, L => if (L.getD p.2 0).testBit p.1 then none else addAllL r (addL L p.1 p.2)
def checkE (n : Nat) (P : List (Nat × Nat)) : Int := match addAllL P (idL n) with
  | none => 20
  | some L => if wholeB n (joinD n (rowR L)) (meetD n (rowR L)) = true then 0 else 30
def toP (P : List (Nat × Nat)) : List (Int × Int) := P.map fun p => ((p.1 : Int), (p.2 : Int))
def Agree (n : Nat) (R P : Nat → Nat → Bool) : Prop := ∀ i j, i < n → j < n → R i j = P i j
theorem rowR_id (n : Nat) : Agree n idR (rowR (idL n)) := by
  intro i j hi hj
  unfold rowR idL idR
  have : (List.map (2 ^ ·) (List.range n)).getD i 0 = 2 ^ i := by simp [List.getD, hi]
  rw [this, Nat.testBit_two_pow]
theorem addL_len (L : List Nat) (x y : Nat) : (addL L x y).length = L.length := by simp [addL]
theorem addAll_eq {n : Nat} : ∀ (P : List (Nat × Nat)) (L : List Nat) (R : Nat → Nat → Bool), L.length = n → (∀ p ∈ P, p.1 < n ∧ p.2 < n) → Agree n R (rowR L) →
    match addAllL P L with
    | none => (addAll n (toP P) R).1 = 20
    | some L' => (addAll n (toP P) R).1 = 0 ∧ L'.length = n ∧ Agree n (addAll n (toP P) R).2 (rowR L')
  | [], L, R, hL, _, hR => ⟨rfl, hL, hR⟩
  | p :: r, L, R, hL, hP, hR => by
    obtain ⟨hx, hy⟩ := hP p (by simp)
    have hin : inB n (p.1 : Int) ∧ inB n (p.2 : Int) := ⟨⟨by omega, by omega⟩, ⟨by omega, by omega⟩⟩
    have hRe := hR p.2 p.1 hy hx
    have hto : toP (p :: r) = ((p.1 : Int), (p.2 : Int)) :: toP r := rfl
    have e0 : addAllL (p :: r) L = if (L.getD p.2 0).testBit p.1 then none else addAllL r (addL L p.1 p.2) := rfl
    rw [e0, hto, addAll_cons]
    cases hc : (L.getD p.2 0).testBit p.1 with
    | true =>
      have hc' : R p.2 p.1 = true := by rw [hRe]; exact hc
      have he : addE n R p.1 p.2 = 20 := by
        unfold addE; rw [if_pos hin]; simp [hc']
      rw [if_pos rfl]
      simp only
      rw [he, if_neg (by decide)]
    | false =>
      have hc' : R p.2 p.1 = false := by rw [hRe]; exact hc
      have he : addE n R p.1 p.2 = 0 := by
        unfold addE; rw [if_pos hin]; simp [hc']
      have hr : addR n R p.1 p.2 = fun i j => R i j || (R i p.1 && R p.2 j) := by
        unfold addR; rw [if_pos ⟨hin, by simpa using hc'⟩]; rfl
      rw [if_neg (by decide)]
      simp only
      rw [he, if_pos rfl]
      refine addAll_eq r (addL L p.1 p.2) _ (by rw [addL_len, hL]) (fun q hq => hP q (by simp [hq])) fun i j hi hj => ?_
      rw [hr]
      simp only
      rw [hR i j hi hj, hR i p.1 hi hx, hR p.2 j hy hj]
      have hg : (addL L p.1 p.2).getD i 0 = if (L.getD i 0).testBit p.1 then L.getD i 0 ||| L.getD p.2 0 else L.getD i 0 := by
        have hi' : i < L.length := by omega
        simp [addL, List.getD, hi']
      unfold rowR
      rw [hg]
      cases h1 : (L.getD i 0).testBit p.1 with
      | true => rw [if_pos rfl, Nat.testBit_or, Bool.true_and]
      | false => rw [if_neg (by decide)]; simp
theorem firstD_congr {n : Nat} {p q : Nat → Bool} (h : ∀ c, c < n → p c = q c) : firstD n p = firstD n q := by
  unfold firstD
  rw [find_congr (fun x hx => h x (List.mem_range.1 hx))]
theorem joinD_congr {n : Nat} {R P : Nat → Nat → Bool} (h : Agree n R P) {a b : Nat} (ha : a < n) (hb : b < n) : joinD n R a b = joinD n P a b := by
  unfold joinD
  refine firstD_congr fun c hc => ?_
  rw [h a c ha hc, h b c hb hc]
  congr 1
  refine all_congr' fun d hd => ?_
  have hd' := List.mem_range.1 hd
  rw [h a d ha hd', h b d hb hd', h c d hc hd']
theorem meetD_congr {n : Nat} {R P : Nat → Nat → Bool} (h : Agree n R P) {a b : Nat} (ha : a < n) (hb : b < n) : meetD n R a b = meetD n P a b := by
  unfold meetD
  refine firstD_congr fun c hc => ?_
  rw [h c a hc ha, h c b hc hb]
  congr 1
  refine all_congr' fun d hd => ?_
  have hd' := List.mem_range.1 hd
  rw [h d a hd' ha, h d b hd' hb, h d c hd' hc]
theorem wholeB_congr {n : Nat} {J M J' M' : Nat → Nat → Int} (hJ : ∀ a b, a < n → b < n → J a b = J' a b) (hM : ∀ a b, a < n → b < n → M a b = M' a b) : wholeB n J M = wholeB n J' M' := by
  unfold wholeB
  refine all_congr' fun a ha => all_congr' fun b hb => ?_
  rw [hJ a b (List.mem_range.1 ha) (List.mem_range.1 hb), hM a b (List.mem_range.1 ha) (List.mem_range.1 hb)]
theorem makeE_eval {N : List (List UInt8)} {P : List (Nat × Nat)} (h1 : 1 ≤ N.length ∧ N.length ≤ 10) (hf : fineB N = true) (hP : ∀ p ∈ P, p.1 < N.length ∧ p.2 < N.length) : makeE N (toP P) = checkE N.length P := by
  have ho : (toP P).any (outP N.length) = false := by
    rw [Bool.eq_false_iff]
    intro h
    obtain ⟨q, hq, ho⟩ := List.any_eq_true.1 h
    obtain ⟨p, hp, rfl⟩ := List.mem_map.1 hq
    obtain ⟨a, b⟩ := hP p hp
    unfold outP outI at ho
    rw [decide_eq_true (show inB N.length (p.1 : Int) from ⟨by omega, by omega⟩), decide_eq_true (show inB N.length (p.2 : Int) from ⟨by omega, by omega⟩)] at ho
    cases ho
  unfold makeE
  rw [if_neg (by omega), if_neg (by rw [hf]; decide), if_neg (by rw [ho]; decide)]
  have := addAll_eq (n := N.length) P (idL N.length) idR (by simp [idL]) hP (rowR_id _)
  unfold checkE
  cases hc : addAllL P (idL N.length) with
  | none =>
    rw [hc] at this
    simp only at this
    rw [this, if_pos (by decide)]
  | some L =>
    rw [hc] at this
    simp only at this
    obtain ⟨e1, _, e2⟩ := this
    rw [e1, if_neg (by decide)]
    simp only
    have : wholeB N.length (joinD N.length (makeR N (toP P))) (meetD N.length (makeR N (toP P))) = wholeB N.length (joinD N.length (rowR L)) (meetD N.length (rowR L)) :=
      wholeB_congr (fun a b ha hb => joinD_congr e2 ha hb) (fun a b ha hb => meetD_congr e2 ha hb)
    rw [this]
/-- the order behind it, as rows of bits -/
theorem makeR_eval {N : List (List UInt8)} {P : List (Nat × Nat)} {L : List Nat} (hP : ∀ p ∈ P, p.1 < N.length ∧ p.2 < N.length) (h : addAllL P (idL N.length) = some L) : Agree N.length (makeR N (toP P)) (rowR L) := by
  have := addAll_eq (n := N.length) P (idL N.length) idR (by simp [idL]) hP (rowR_id _)
  rw [h] at this
  exact this.2.2
def namesL (n : Nat) : List (List UInt8) := (List.range n).map fun i => [108, UInt8.ofNat (48 + i)]
def roofL (n : Nat) : List (Nat × Nat) := (List.range n).map fun i => (0, i + 1)
def floorL (n : Nat) : List (Nat × Nat) := (List.range n).map fun i => (i + 1, 0)
def chainL (n : Nat) : List (Nat × Nat) := (List.range n).map fun i => (i, i + 1)
def roundL (n : Nat) : List (Nat × Nat) := (List.range n).map fun i => (i, (i + 1) % n)
theorem names_fine : ∀ n, n < 11 → fineB (namesL n) = true := by decide +kernel
theorem roof_no : ∀ n, n < 9 → 2 ≤ n → checkE (n + 1) (roofL n) = 30 := by decide +kernel
theorem floor_no : ∀ n, n < 9 → 2 ≤ n → checkE (n + 1) (floorL n) = 30 := by decide +kernel
theorem two_no : checkE 6 [(0, 1), (0, 2), (1, 3), (1, 4), (2, 3), (2, 4), (3, 5), (4, 5)] = 30 := by decide +kernel
theorem round_no : ∀ n, n < 9 → 2 ≤ n → checkE n (roundL n) = 20 := by decide +kernel
theorem round_no2 : ∀ n, n < 9 → 2 ≤ n → checkE n (chainL (n - 1) ++ [(1, 1)]) = 20 := by decide +kernel
theorem chain_yes : ∀ n, n < 8 → checkE (n + 2) (chainL (n + 1)) = 0 := by decide +kernel
theorem namesL_len (n : Nat) : (namesL n).length = n := by simp [namesL]
end Go.Proofs.YtfhmmekamommcaaGreatDoor

/- The laws' helpers: names, fails. -/
namespace Go.Proofs.YtfhmmekamommcaaGreatDoor
set_option linter.unusedVariables false
set_option linter.unusedSimpArgs false
open Go Go.RowKit Go.Proofs Go.Shelf Go.Sort
theorem infoStr : (Tryz.prog.info? 9).map (fun i => (i.zero, i.size, i.bytes)) = some (some (.string ByteArray.empty), 1, 16) := by kernel_rfl
theorem infoPair : (Tryz.prog.info? 32).map (fun i => (i.zero, i.size, i.bytes)) = some (some (.agg #[.int .i64 0, .int .i64 0]), 2, 16) := by kernel_rfl
def strV (N : List (List UInt8)) : List Value := N.map fun s => .string (bs s)
theorem own_strs {w : World} {base : Nat} {v : Value} {N : List (List UInt8)} (h : w.ownsRow base 9 1 v N.length (strV N)) : InStrs w v N := by
  rcases h.2 with ⟨rfl, h0⟩ | ⟨g, cap, cur, rfl, _, hh, hq, _, _, ht⟩
  · have : N = [] := List.length_eq_zero_iff.1 h0
    subst this
    exact ⟨none, 0, rfl, Nat.le_refl _, fun i hi => absurd hi (by simp)⟩
  · refine ⟨some ⟨g, 0, none⟩, cap, rfl, hq, fun i hi => ⟨g, 0, rfl, ?_⟩⟩
    rw [Nat.zero_add, cell_of_heap hh]
    have h1 : (cur.toList.take (N.length * 1))[i]? = (strV N)[i]? := by rw [ht]
    rw [List.getElem?_take_of_lt (by omega)] at h1
    have h2 : (strV N)[i]? = some (.string (bs (N.getD i []))) := by simp [strV, List.getD, hi]
    rw [h2] at h1
    simpa using h1
theorem digit_cat : ∀ k, k < 10 → (⟨#[108]⟩ : ByteArray) ++ (⟨#[48, 49, 50, 51, 52, 53, 54, 55, 56, 57]⟩ : ByteArray).extract k (k + 1) = bs [108, UInt8.ofNat (48 + k)] := by decide +kernel
theorem namesL_succ (k : Nat) : namesL (k + 1) = namesL k ++ [[108, UInt8.ofNat (48 + k)]] := by simp [namesL, List.range_succ]
theorem strV_append (a b : List (List UInt8)) : strV (a ++ b) = strV a ++ strV b := by simp [strV]
theorem one_new (w : World) (v : Value) (t : TypeId) : ∀ j u, [v][j]? = some u → (w.alloc (.cells #[v] t)).cell? ((⟨w.heap.size, 0, none⟩ : Addr).add j) = some u := cell_one_new w v t
/-- pairs, as values -/
def prs (l : List (Nat × Nat)) : List Value := l.flatMap fun (x : Nat × Nat) => [.int .i64 (x.1 : Int), .int .i64 (x.2 : Int)]
theorem prs_snoc (l : List (Nat × Nat)) (a b : Nat) : prs (l ++ [(a, b)]) = prs l ++ [.int .i64 (a : Int), .int .i64 (b : Int)] := by simp [prs]
theorem prs_len (l : List (Nat × Nat)) : (prs l).length = l.length * 2 := by
  induction l with
  | nil => rfl
  | cons x l ih => simp only [prs, List.flatMap_cons, List.length_append, List.length_cons] at *; simp at *; omega
theorem prs_get (l : List (Nat × Nat)) (i : Nat) (h : i < l.length) : (prs l)[i * 2]? = some (.int .i64 ((l.getD i (0, 0)).1 : Nat)) ∧ (prs l)[i * 2 + 1]? = some (.int .i64 ((l.getD i (0, 0)).2 : Nat)) := by
  induction l generalizing i with
  | nil => simp at h
  | cons x l ih =>
    cases i with
    | zero => simp [prs]
    | succ i =>
      have h' : i < l.length := by simpa using h
      have := ih i h'
      have e : prs (x :: l) = .int .i64 (x.1 : Int) :: .int .i64 (x.2 : Int) :: prs l := rfl
      rw [e, show (i + 1) * 2 = i * 2 + 1 + 1 by omega, List.getElem?_cons_succ, List.getElem?_cons_succ, List.getElem?_cons_succ, List.getElem?_cons_succ]
      exact ⟨by rw [this.1]; simp [List.getD], by rw [this.2]; simp [List.getD]⟩
theorem toP_get (l : List (Nat × Nat)) (i : Nat) (h : i < l.length) : (toP l).getD i (0, 0) = ((((l.getD i (0, 0)).1 : Nat) : Int), (((l.getD i (0, 0)).2 : Nat) : Int)) := by
  simp [toP, List.getD, h]
theorem own_pairs {w : World} {base : Nat} {v : Value} {l : List (Nat × Nat)} (h : w.ownsRow base 32 2 v l.length (prs l)) : InPairs w v (toP l) := by
  rcases h.2 with ⟨rfl, h0⟩ | ⟨g, cap, cur, rfl, _, hh, hq, _, _, ht⟩
  · have : l = [] := List.length_eq_zero_iff.1 h0
    subst this
    exact ⟨none, 0, rfl, fun i hi => absurd hi (by simp [toP])⟩
  · refine ⟨some ⟨g, 0, none⟩, cap, by simp [toP], fun i hi => ⟨g, 0, rfl, ?_⟩⟩
    have hi' : i < l.length := by simpa [toP] using hi
    obtain ⟨p1, p2⟩ := prs_get l i hi'
    rw [toP_get l i hi', Nat.zero_add, cell_of_heap hh, cell_of_heap hh]
    have h1 : (cur.toList.take (l.length * 2))[i * 2]? = (prs l)[i * 2]? := by rw [ht]
    have h2 : (cur.toList.take (l.length * 2))[i * 2 + 1]? = (prs l)[i * 2 + 1]? := by rw [ht]
    rw [List.getElem?_take_of_lt (by omega), p1] at h1
    rw [List.getElem?_take_of_lt (by omega), p2] at h2
    exact ⟨by simpa using h1, by simpa using h2⟩
theorem lit_pairs (w : World) (l : List (Nat × Nat)) (t : TypeId) (f : Nat × Nat) (cap : Nat) : InPairs (w.alloc (.cells (prs l).toArray t f)) (.slice (some ⟨w.heap.size, 0, none⟩) l.length cap) (toP l) := by
  refine ⟨some ⟨w.heap.size, 0, none⟩, cap, by simp [toP], fun i hi => ⟨_, 0, rfl, ?_⟩⟩
  have hi' : i < l.length := by simpa [toP] using hi
  obtain ⟨p1, p2⟩ := prs_get l i hi'
  rw [toP_get l i hi', Nat.zero_add, cell_of_heap (heap_new w _), cell_of_heap (heap_new w _)]
  exact ⟨by simpa using p1, by simpa using p2⟩
theorem nil_pairs (w : World) : InPairs w (.slice none 0 0) (toP []) := ⟨none, 0, rfl, fun i hi => absurd hi (by simp [toP])⟩
theorem lit_strs (w : World) (N : List (List UInt8)) (t : TypeId) (f : Nat × Nat) (cap : Nat) (hc : N.length ≤ cap) : InStrs (w.alloc (.cells (strV N).toArray t f)) (.slice (some ⟨w.heap.size, 0, none⟩) N.length cap) N := by
  refine ⟨_, cap, rfl, hc, fun i hi => ⟨_, 0, rfl, ?_⟩⟩
  rw [Nat.zero_add, cell_of_heap (heap_new w _)]
  simp [strV, List.getD, hi]
theorem two_new (w : World) (x y : Value) (t : TypeId) : ∀ j u, [x, y][j]? = some u → (w.alloc (.cells #[x, y] t)).cell? ((⟨w.heap.size, 0, none⟩ : Addr).add j) = some u := by
  intro j u hj
  match j, hj with
  | 0, hj => simp at hj; subst hj; simp [Addr.add]
  | 1, hj => simp at hj; subst hj; simp [Addr.add]
end Go.Proofs.YtfhmmekamommcaaGreatDoor

/- The chapter's lattice (works). -/
namespace Go.Proofs.YtfhmmekamommcaaGreatDoor
set_option linter.unusedVariables false
set_option linter.unusedSimpArgs false
open Go Go.RowKit Go.Proofs Go.Shelf Go.Sort
theorem Agree.flp {n : Nat} {R P : Nat → Nat → Bool} (h : Agree n R P) : Agree n (flp R) (flp P) := fun i j hi hj => h j i hj hi
theorem atM_congr {n : Nat} {R P : Nat → Nat → Bool} (h : Agree n R P) (x y : Int) : atM n R x y = atM n P x y := by
  unfold atM
  by_cases h1 : 0 ≤ x ∧ x < n
  · by_cases h2 : 0 ≤ y ∧ y < n
    · rw [h x.toNat y.toNat (by omega) (by omega)]
    · rw [decide_eq_false h2]; simp
  · rw [decide_eq_false h1]; simp
theorem els_congr {n : Nat} {p q : Nat → Bool} (h : ∀ j, j < n → p j = q j) : els n p = els n q := by
  unfold els
  exact List.filter_congr fun x hx => h x (List.mem_range.1 hx)
theorem lastF_congr {n : Nat} {R P : Nat → Nat → Bool} (h : Agree n R P) (x0 : Int) : ∀ k, k ≤ n → lastF n R x0 k = lastF n P x0 k
  | 0, _ => rfl
  | k + 1, hk => by
    rw [lastF_succ, lastF_succ, lastF_congr h x0 k (by omega), els_congr (h k · (by omega))]
theorem lJoin_congr {n : Nat} {R P : Nat → Nat → Bool} (h : Agree n R P) (x y : Int) : lJoin n R x y = lJoin n P x y := by
  unfold lJoin
  by_cases h1 : inB n x ∧ inB n y
  · rw [if_pos h1, if_pos h1]; exact joinD_congr h (by have := h1.1; unfold inB at this; omega) (by have := h1.2; unfold inB at this; omega)
  · rw [if_neg h1, if_neg h1]; exact lastF_congr h.flp 0 n (Nat.le_refl _)
theorem lMeet_congr {n : Nat} {R P : Nat → Nat → Bool} (h : Agree n R P) (x y : Int) : lMeet n R x y = lMeet n P x y := by
  unfold lMeet
  by_cases h1 : inB n x ∧ inB n y
  · rw [if_pos h1, if_pos h1]; exact meetD_congr h (by have := h1.1; unfold inB at this; omega) (by have := h1.2; unfold inB at this; omega)
  · rw [if_neg h1, if_neg h1]; exact lastF_congr h 0 n (Nat.le_refl _)
theorem lCode_congr {n : Nat} {R P : Nat → Nat → Bool} (h : Agree n R P) (x : Int) : lCode n R x = lCode n P x := by
  unfold lCode
  by_cases h1 : inB n x
  · rw [if_pos h1, if_pos h1, msk_congr n _ _ (fun j hj => h.flp x.toNat j (by unfold inB at h1; omega) hj)]
  · rw [if_neg h1, if_neg h1]
theorem lDec_congr {n : Nat} {R P : Nat → Nat → Bool} (h : Agree n R P) (c : Int) : lDec n R c = lDec n P c := by
  unfold lDec
  have : (List.range n).find? (fun (a : Nat) => lCode n R (a : Int) == c) = (List.range n).find? (fun (a : Nat) => lCode n P (a : Int) == c) := find_congr fun a _ => by rw [lCode_congr h]
  rw [this]
def N4 : List (List UInt8) := [[108, 111, 119], [97], [98], [104, 105, 103, 104]]
def P4 : List (Nat × Nat) := [(0, 1), (0, 2), (1, 3), (2, 3)]
def L4 : List Nat := [15, 10, 12, 8]
theorem rows4 : addAllL P4 (idL 4) = some L4 := by decide +kernel
theorem agree4 : Agree 4 (makeR N4 (toP P4)) (rowR L4) := makeR_eval (N := N4) (by decide) rows4
theorem made4 : makeE N4 (toP P4) = 0 := by
  rw [makeE_eval (by decide) (by decide +kernel) (by decide)]
  decide +kernel
structure Facts4 (N : List (List UInt8)) (R : Nat → Nat → Bool) : Prop where
  len : N.length = 4
  leq1 : atM N.length R 1 2 = false
  leq2 : atM N.length R 0 3 = true
  join1 : lJoin N.length R 1 2 = 3
  meet1 : lMeet N.length R 1 2 = 0
  join2 : lJoin N.length R 1 9 = 3
  low : lastF N.length R 0 N.length = 0
  high : lastF N.length (flp R) 0 N.length = 3
  name : lName N 2 = [98]
  find1 : findL N [98] = 2
  find2 : findL N [99] = -1
  code1 : lCode N.length R 1 = 3
  code2 : lCode N.length R 3 = 15
  dec1 : lDecA N.length R 5 = 2
  dec2 : lDecE N.length R 5 = 0
  dec3 : lDecA N.length R 6 = 0
  dec4 : lDecE N.length R 6 = 4
theorem facts4 : Facts4 N4 (makeR N4 (toP P4)) := by
  have h := agree4
  have e : N4.length = 4 := rfl
  refine ⟨rfl, ?_, ?_, ?_, ?_, ?_, ?_, ?_, by decide +kernel, by decide +kernel, by decide +kernel, ?_, ?_, ?_, ?_, ?_, ?_⟩ <;> rw [e]
  · rw [atM_congr h]; decide +kernel
  · rw [atM_congr h]; decide +kernel
  · rw [lJoin_congr h]; decide +kernel
  · rw [lMeet_congr h]; decide +kernel
  · rw [lJoin_congr h]; decide +kernel
  · rw [lastF_congr h 0 4 (by omega)]; decide +kernel
  · rw [lastF_congr h.flp 0 4 (by omega)]; decide +kernel
  · rw [lCode_congr h]; decide +kernel
  · rw [lCode_congr h]; decide +kernel
  · unfold lDecA; rw [lDec_congr h]; decide +kernel
  · unfold lDecE; rw [lDec_congr h]; decide +kernel
  · unfold lDecA; rw [lDec_congr h]; decide +kernel
  · unfold lDecE; rw [lDec_congr h]; decide +kernel
abbrev lit2 (a b : ByteArray) : Obj := .cells #[.string a, .string b] 9 (0, 0)
end Go.Proofs.YtfhmmekamommcaaGreatDoor
