/- lattice.Make's answer, reckoned over rows of bits. -/
import Derived.Test.YtfmacnkjhboefaaGreatDoorLatFns2
namespace Go.Proofs.YtfmacnkjhboefaaGreatDoor
set_option linter.unusedVariables false
set_option linter.unusedSimpArgs false
open Go Go.RowKit Go.Proofs
def rowR (L : List Nat) : Nat → Nat → Bool := fun i j => (L.getD i 0).testBit j
def idL (n : Nat) : List Nat := (List.range n).map (2 ^ ·)
def addL (L : List Nat) (x y : Nat) : List Nat := L.map fun m => if m.testBit x then m ||| L.getD y 0 else m
def addAllL : List (Nat × Nat) → List Nat → Option (List Nat)
  | [], L => some L
  | p :: r, L => if (L.getD p.2 0).testBit p.1 then none else addAllL r (addL L p.1 p.2)
def checkE (n : Nat) (P : List (Nat × Nat)) : Int := match addAllL P (idL n) with
  | none => 20
  | some L => if wholeB n (joinD n (rowR L)) (meetD n (rowR L)) = true then 0 else 30
def toP (P : List (Nat × Nat)) : List (Int × Int) := P.map fun p => ((p.1 : Int), (p.2 : Int))
def Agree (n : Nat) (R P : Nat → Nat → Bool) : Prop := ∀ i j, i < n → j < n → R i j = P i j
theorem rowR_id (n : Nat) : Agree n idR (rowR (idL n)) := by
  intro i j hi hj
  unfold rowR idL idR
  have : (List.map (2 ^ ·) (List.range n)).getD i 0 = 2 ^ i := by simp [List.getD, hi]
  rw [this, Nat.testBit_two_pow]
theorem addL_len (L : List Nat) (x y : Nat) : (addL L x y).length = L.length := by simp [addL]
theorem addAll_eq {n : Nat} : ∀ (P : List (Nat × Nat)) (L : List Nat) (R : Nat → Nat → Bool), L.length = n → (∀ p ∈ P, p.1 < n ∧ p.2 < n) → Agree n R (rowR L) →
    match addAllL P L with
    | none => (addAll n (toP P) R).1 = 20
    | some L' => (addAll n (toP P) R).1 = 0 ∧ L'.length = n ∧ Agree n (addAll n (toP P) R).2 (rowR L')
  | [], L, R, hL, _, hR => ⟨rfl, hL, hR⟩
  | p :: r, L, R, hL, hP, hR => by
    obtain ⟨hx, hy⟩ := hP p (by simp)
    have hin : inB n (p.1 : Int) ∧ inB n (p.2 : Int) := ⟨⟨by omega, by omega⟩, ⟨by omega, by omega⟩⟩
    have hRe := hR p.2 p.1 hy hx
    have hto : toP (p :: r) = ((p.1 : Int), (p.2 : Int)) :: toP r := rfl
    have e0 : addAllL (p :: r) L = if (L.getD p.2 0).testBit p.1 then none else addAllL r (addL L p.1 p.2) := rfl
    rw [e0, hto, addAll_cons]
    cases hc : (L.getD p.2 0).testBit p.1 with
    | true =>
      have hc' : R p.2 p.1 = true := by rw [hRe]; exact hc
      have he : addE n R p.1 p.2 = 20 := by
        unfold addE; rw [if_pos hin]; simp [hc']
      rw [if_pos rfl]
      simp only
      rw [he, if_neg (by decide)]
    | false =>
      have hc' : R p.2 p.1 = false := by rw [hRe]; exact hc
      have he : addE n R p.1 p.2 = 0 := by
        unfold addE; rw [if_pos hin]; simp [hc']
      have hr : addR n R p.1 p.2 = fun i j => R i j || (R i p.1 && R p.2 j) := by
        unfold addR; rw [if_pos ⟨hin, by simpa using hc'⟩]; rfl
      rw [if_neg (by decide)]
      simp only
      rw [he, if_pos rfl]
      refine addAll_eq r (addL L p.1 p.2) _ (by rw [addL_len, hL]) (fun q hq => hP q (by simp [hq])) fun i j hi hj => ?_
      rw [hr]
      simp only
      rw [hR i j hi hj, hR i p.1 hi hx, hR p.2 j hy hj]
      have hg : (addL L p.1 p.2).getD i 0 = if (L.getD i 0).testBit p.1 then L.getD i 0 ||| L.getD p.2 0 else L.getD i 0 := by
        have hi' : i < L.length := by omega
        simp [addL, List.getD, hi']
      unfold rowR
      rw [hg]
      cases h1 : (L.getD i 0).testBit p.1 with
      | true => rw [if_pos rfl, Nat.testBit_or, Bool.true_and]
      | false => rw [if_neg (by decide)]; simp
theorem firstD_congr {n : Nat} {p q : Nat → Bool} (h : ∀ c, c < n → p c = q c) : firstD n p = firstD n q := by
  unfold firstD
  rw [find_congr (fun x hx => h x (List.mem_range.1 hx))]
theorem joinD_congr {n : Nat} {R P : Nat → Nat → Bool} (h : Agree n R P) {a b : Nat} (ha : a < n) (hb : b < n) : joinD n R a b = joinD n P a b := by
  unfold joinD
  refine firstD_congr fun c hc => ?_
  rw [h a c ha hc, h b c hb hc]
  congr 1
  refine all_congr' fun d hd => ?_
  have hd' := List.mem_range.1 hd
  rw [h a d ha hd', h b d hb hd', h c d hc hd']
theorem meetD_congr {n : Nat} {R P : Nat → Nat → Bool} (h : Agree n R P) {a b : Nat} (ha : a < n) (hb : b < n) : meetD n R a b = meetD n P a b := by
  unfold meetD
  refine firstD_congr fun c hc => ?_
  rw [h c a hc ha, h c b hc hb]
  congr 1
  refine all_congr' fun d hd => ?_
  have hd' := List.mem_range.1 hd
  rw [h d a hd' ha, h d b hd' hb, h d c hd' hc]
theorem wholeB_congr {n : Nat} {J M J' M' : Nat → Nat → Int} (hJ : ∀ a b, a < n → b < n → J a b = J' a b) (hM : ∀ a b, a < n → b < n → M a b = M' a b) : wholeB n J M = wholeB n J' M' := by
  unfold wholeB
  refine all_congr' fun a ha => all_congr' fun b hb => ?_
  rw [hJ a b (List.mem_range.1 ha) (List.mem_range.1 hb), hM a b (List.mem_range.1 ha) (List.mem_range.1 hb)]
theorem makeE_eval {N : List (List UInt8)} {P : List (Nat × Nat)} (h1 : 1 ≤ N.length ∧ N.length ≤ 10) (hf : fineB N = true) (hP : ∀ p ∈ P, p.1 < N.length ∧ p.2 < N.length) : makeE N (toP P) = checkE N.length P := by
  have ho : (toP P).any (outP N.length) = false := by
    rw [Bool.eq_false_iff]
    intro h
    obtain ⟨q, hq, ho⟩ := List.any_eq_true.1 h
    obtain ⟨p, hp, rfl⟩ := List.mem_map.1 hq
    obtain ⟨a, b⟩ := hP p hp
    unfold outP outI at ho
    rw [decide_eq_true (show inB N.length (p.1 : Int) from ⟨by omega, by omega⟩), decide_eq_true (show inB N.length (p.2 : Int) from ⟨by omega, by omega⟩)] at ho
    cases ho
  unfold makeE
  rw [if_neg (by omega), if_neg (by rw [hf]; decide), if_neg (by rw [ho]; decide)]
  have := addAll_eq (n := N.length) P (idL N.length) idR (by simp [idL]) hP (rowR_id _)
  unfold checkE
  cases hc : addAllL P (idL N.length) with
  | none =>
    rw [hc] at this
    simp only at this
    rw [this, if_pos (by decide)]
  | some L =>
    rw [hc] at this
    simp only at this
    obtain ⟨e1, _, e2⟩ := this
    rw [e1, if_neg (by decide)]
    simp only
    have : wholeB N.length (joinD N.length (makeR N (toP P))) (meetD N.length (makeR N (toP P))) = wholeB N.length (joinD N.length (rowR L)) (meetD N.length (rowR L)) :=
      wholeB_congr (fun a b ha hb => joinD_congr e2 ha hb) (fun a b ha hb => meetD_congr e2 ha hb)
    rw [this]
/-- the order behind it, as rows of bits -/
theorem makeR_eval {N : List (List UInt8)} {P : List (Nat × Nat)} {L : List Nat} (hP : ∀ p ∈ P, p.1 < N.length ∧ p.2 < N.length) (h : addAllL P (idL N.length) = some L) : Agree N.length (makeR N (toP P)) (rowR L) := by
  have := addAll_eq (n := N.length) P (idL N.length) idR (by simp [idL]) hP (rowR_id _)
  rw [h] at this
  exact this.2.2
def namesL (n : Nat) : List (List UInt8) := (List.range n).map fun i => [108, UInt8.ofNat (48 + i)]
def roofL (n : Nat) : List (Nat × Nat) := (List.range n).map fun i => (0, i + 1)
def floorL (n : Nat) : List (Nat × Nat) := (List.range n).map fun i => (i + 1, 0)
def chainL (n : Nat) : List (Nat × Nat) := (List.range n).map fun i => (i, i + 1)
def roundL (n : Nat) : List (Nat × Nat) := (List.range n).map fun i => (i, (i + 1) % n)
theorem names_fine : ∀ n, n < 11 → fineB (namesL n) = true := by decide +kernel
theorem roof_no : ∀ n, n < 9 → 2 ≤ n → checkE (n + 1) (roofL n) = 30 := by decide +kernel
theorem floor_no : ∀ n, n < 9 → 2 ≤ n → checkE (n + 1) (floorL n) = 30 := by decide +kernel
theorem two_no : checkE 6 [(0, 1), (0, 2), (1, 3), (1, 4), (2, 3), (2, 4), (3, 5), (4, 5)] = 30 := by decide +kernel
theorem round_no : ∀ n, n < 9 → 2 ≤ n → checkE n (roundL n) = 20 := by decide +kernel
theorem round_no2 : ∀ n, n < 9 → 2 ≤ n → checkE n (chainL (n - 1) ++ [(1, 1)]) = 20 := by decide +kernel
theorem chain_yes : ∀ n, n < 8 → checkE (n + 2) (chainL (n + 1)) = 0 := by decide +kernel
theorem namesL_len (n : Nat) : (namesL n).length = n := by simp [namesL]
end Go.Proofs.YtfmacnkjhboefaaGreatDoor
