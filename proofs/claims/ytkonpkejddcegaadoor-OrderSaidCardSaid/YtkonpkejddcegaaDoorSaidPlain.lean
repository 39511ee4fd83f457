/- Plain facts: an order is the least one that holds what was taken, so it hangs on no order of taking. -/
import Derived.Test.YtkonpkejddcegaaDoorLawCovers
namespace Go.Proofs.YtkonpkejddcegaaDoor
set_option linter.unusedVariables false
set_option linter.unusedSimpArgs false
open Go
structure Least (n : Nat) (S : Nat → Nat → Prop) (R : Nat → Nat → Bool) : Prop where
  po : PO n R
  has : ∀ i j, S i j → R i j = true
  low : ∀ T : Nat → Nat → Bool, (∀ i, i < n → T i i = true) → (∀ i j k, i < n → j < n → k < n → T i j = true → T j k = true → T i k = true) → (∀ i j, S i j → T i j = true) → ∀ i j, i < n → j < n → R i j = true → T i j = true
theorem Least.id (n : Nat) (S : Nat → Nat → Prop) (hS : ∀ i j, ¬ S i j) : Least n S idR := by
  refine ⟨PO.id n, fun i j h => absurd h (hS i j), fun T h1 _ _ i j hi _ e => ?_⟩
  have : i = j := by simpa [idR] using e
  subst this
  exact h1 i hi
theorem Least.add {n : Nat} {S S' : Nat → Nat → Prop} {R : Nat → Nat → Bool} (h : Least n S R) {a b : Nat} (ha : a < n) (hb : b < n) (hba : R b a = false) (hS' : ∀ i j, S' i j ↔ S i j ∨ (i = a ∧ j = b)) :
    addE n R a b = 0 ∧ Least n S' (addR n R a b) := by
  have hin : inB n (a : Int) ∧ inB n (b : Int) := ⟨⟨by omega, by omega⟩, ⟨by omega, by omega⟩⟩
  have e1 : addE n R a b = 0 := by
    unfold addE
    rw [if_pos hin]
    simp [hba]
  have e2 : addR n R a b = fun i j => R i j || (R i a && R b j) := by
    unfold addR
    rw [if_pos ⟨hin, by simpa using hba⟩]
    rfl
  have hpo := h.po.add (a : Int) (b : Int)
  refine ⟨e1, ?_⟩
  rw [e2] at hpo ⊢
  refine ⟨hpo, fun i j hs => ?_, fun T t1 t2 t3 i j hi hj e => ?_⟩
  · rcases (hS' i j).1 hs with hs | ⟨rfl, rfl⟩
    · simp [h.has i j hs]
    · simp [h.po.rfl' i ha, h.po.rfl' j hb]
  · have low := h.low T t1 t2 fun i j hs => t3 i j ((hS' i j).2 (.inl hs))
    simp only [Bool.or_eq_true, Bool.and_eq_true] at e
    rcases e with e | ⟨e, e'⟩
    · exact low i j hi hj e
    · exact t2 i a j hi ha hj (low i a hi ha e) (t2 a b j ha hb hj (t3 a b ((hS' a b).2 (.inr ⟨rfl, rfl⟩))) (low b j hb hj e'))
theorem Least.eq {n : Nat} {S : Nat → Nat → Prop} {R P : Nat → Nat → Bool} (h : Least n S R) (k : Least n S P) : ∀ i j, i < n → j < n → P i j = R i j := by
  intro i j hi hj
  cases hr : R i j with
  | true => exact h.low P k.po.rfl' k.po.trans' k.has i j hi hj hr
  | false =>
    cases hp : P i j with
    | false => rfl
    | true => rw [k.low R h.po.rfl' h.po.trans' h.has i j hi hj hp] at hr; cases hr
/-- what was taken, as made tells it -/
theorem mkTo_least (n : Nat) (hn : 0 < n) (L : List (Int × Int)) (k : Nat) : Least n (fun i j => (i, j) ∈ (mkTo n L k).2) (mkTo n L k).1 ∧ ∀ x ∈ (mkTo n L k).2, x.1 < n ∧ x.2 < n ∧ x.1 ≠ x.2 := by
  unfold mkTo
  have key : ∀ (l : List (Int × Int)) (s : (Nat → Nat → Bool) × List (Nat × Nat)), (Least n (fun i j => (i, j) ∈ s.2) s.1 ∧ ∀ x ∈ s.2, x.1 < n ∧ x.2 < n ∧ x.1 ≠ x.2) →
      Least n (fun i j => (i, j) ∈ (l.foldl (stp n) s).2) (l.foldl (stp n) s).1 ∧ ∀ x ∈ (l.foldl (stp n) s).2, x.1 < n ∧ x.2 < n ∧ x.1 ≠ x.2 := by
    intro l
    induction l with
    | nil => intro s h; exact h
    | cons p l ih =>
      intro s h
      rw [List.foldl_cons]
      refine ih _ ?_
      have g1 := Int.emod_nonneg p.1 (by omega : (n : Int) ≠ 0)
      have g2 := Int.emod_nonneg p.2 (by omega : (n : Int) ≠ 0)
      have g3 := Int.emod_lt_of_pos p.1 (by omega : (0 : Int) < n)
      have g4 := Int.emod_lt_of_pos p.2 (by omega : (0 : Int) < n)
      obtain ⟨a, ea⟩ := Int.eq_ofNat_of_zero_le g1
      obtain ⟨b, eb⟩ := Int.eq_ofNat_of_zero_le g2
      have ha : a < n := by omega
      have hb : b < n := by omega
      unfold stp
      rw [ea, eb]
      have hin : inB n (a : Int) ∧ inB n (b : Int) := ⟨⟨by omega, by omega⟩, ⟨by omega, by omega⟩⟩
      cases hba : s.1 b a with
      | true =>
        have e1 : addE n s.1 a b ≠ 0 := by
          unfold addE
          rw [if_pos hin]
          simp [hba]
        have e2 : addR n s.1 a b = s.1 := by
          unfold addR
          rw [if_neg (by simp [hba])]
        rw [if_neg e1, e2]
        exact h
      | false =>
        obtain ⟨e1, e2⟩ := h.1.add (S' := fun i j => (i, j) ∈ s.2 ++ [(a, b)]) ha hb hba (fun i j => by simp)
        rw [if_pos e1]
        refine ⟨by simpa using e2, fun x hx => ?_⟩
        rcases List.mem_append.1 hx with hx | hx
        · exact h.2 x hx
        · obtain rfl : x = (a, b) := by simpa using hx
          refine ⟨ha, hb, fun e => ?_⟩
          have e' : a = b := e
          subst e'
          rw [h.1.po.rfl' a ha] at hba
          cases hba
  exact key _ _ ⟨Least.id n _ (fun i j h => by cases h), fun x hx => by cases hx⟩
end Go.Proofs.YtkonpkejddcegaaDoor
