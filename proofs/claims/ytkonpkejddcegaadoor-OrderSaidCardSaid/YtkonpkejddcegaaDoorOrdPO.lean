/- Plain facts on finite orders. -/
import Derived.Test.YtkonpkejddcegaaDoorOrd11
namespace Go.Proofs.YtkonpkejddcegaaDoor
set_option linter.unusedVariables false
set_option linter.unusedSimpArgs false
open Go
/-- a partial order on the numbers below n -/
structure PO (n : Nat) (R : Nat → Nat → Bool) : Prop where
  rfl' : ∀ i, i < n → R i i = true
  trans' : ∀ i j k, i < n → j < n → k < n → R i j = true → R j k = true → R i k = true
  anti : ∀ i j, i < n → j < n → R i j = true → R j i = true → i = j
theorem minB_iff (n : Nat) (D : Nat → Nat → Bool) (p : Nat → Bool) (a : Nat) (ha : a < n) : minB n D p a = true ↔ ∀ j, j < n → (D a j && p j) = decide (j = a) := by
  unfold minB
  rw [beq_iff_eq, msk_and, msk_one n a ha]
  constructor
  · intro h j hj
    exact msk_inj n _ _ h j hj
  · intro h
    exact msk_congr n _ _ fun j hj => h j hj
theorem els_len_lt (n : Nat) (p q : Nat → Bool) (hpq : ∀ j, j < n → p j = true → q j = true) (x : Nat) (hx : x < n) (hqx : q x = true) (hpx : p x = false) : (els n p).length < (els n q).length := by
  induction n with
  | zero => omega
  | succ n ih =>
    have s : ∀ r : Nat → Bool, (els (n + 1) r).length = (els n r).length + (if r n = true then 1 else 0) := fun r => by
      unfold els; rw [List.range_succ, List.filter_append, List.length_append]; by_cases h : r n = true <;> simp [h]
    have mono : ∀ m, (∀ j, j < m → p j = true → q j = true) → (els m p).length ≤ (els m q).length := by
      intro m
      induction m with
      | zero => intro _; simp [els]
      | succ m ihm =>
        intro h
        have s' : ∀ r : Nat → Bool, (els (m + 1) r).length = (els m r).length + (if r m = true then 1 else 0) := fun r => by
          unfold els; rw [List.range_succ, List.filter_append, List.length_append]; by_cases h : r m = true <;> simp [h]
        rw [s', s']
        have h1 := ihm (fun j hj => h j (by omega))
        have h2 := h m (by omega)
        by_cases hp : p m = true
        · simp [hp, h2 hp, h1]
        · simp [hp]; omega
    rw [s, s]
    by_cases e : x = n
    · subst e
      have := mono x (fun j hj => hpq j (by omega))
      simp [hpx, hqx]
      omega
    · have h1 := ih (fun j hj => hpq j (by omega)) (by omega)
      have h2 := hpq n (by omega)
      by_cases hp : p n = true
      · simp [hp, h2 hp, h1]
      · simp [hp]; omega
theorem PO.hasMin {n : Nat} {R : Nat → Nat → Bool} (h : PO n R) : HasMin n (flp R) := by
  intro p hp
  obtain ⟨a, ha, hpa⟩ := hp
  have key : ∀ m a, a < n → p a = true → (els n (fun j => p j && R j a)).length ≤ m → ∃ a, a < n ∧ p a = true ∧ minB n (flp R) p a = true := by
    intro m
    induction m with
    | zero =>
      intro a ha hpa hl
      have : a ∈ els n (fun j => p j && R j a) := mem_els.2 ⟨ha, by simp [hpa, h.rfl' a ha]⟩
      have := List.length_pos_of_mem this
      omega
    | succ m ih =>
      intro a ha hpa hl
      by_cases hm : ∃ b, b < n ∧ p b = true ∧ R b a = true ∧ b ≠ a
      · obtain ⟨b, hb, hpb, hba, hne⟩ := hm
        refine ih b hb hpb ?_
        have := els_len_lt n (fun j => p j && R j b) (fun j => p j && R j a) (fun j hj hh => by
          simp only [Bool.and_eq_true] at hh ⊢
          exact ⟨hh.1, h.trans' j b a hj hb ha hh.2 hba⟩) a ha (by simp [hpa, h.rfl' a ha]) (by
          have : R a b = false := by
            cases hab : R a b with
            | false => rfl
            | true => exact absurd (h.anti b a hb ha hba hab) hne
          simp [this])
        omega
      · refine ⟨a, ha, hpa, (minB_iff n _ p a ha).2 fun j hj => ?_⟩
        by_cases e : j = a
        · subst e; simp [flp, h.rfl' j hj, hpa]
        · have : (flp R a j && p j) = false := by
            cases hc : (flp R a j && p j) with
            | false => rfl
            | true =>
              simp only [Bool.and_eq_true, flp] at hc
              exact absurd ⟨j, hj, hc.2, hc.1, e⟩ hm
          rw [this]; simp [e]
  exact key _ a ha hpa (Nat.le_refl _)
def idR : Nat → Nat → Bool := fun i j => decide (i = j)
theorem PO.id (n : Nat) : PO n idR := ⟨fun i _ => by simp [idR], fun i j k _ _ _ h1 h2 => by simp [idR] at *; omega, fun i j _ _ h1 _ => by simpa [idR] using h1⟩
theorem PO.add {n : Nat} {R : Nat → Nat → Bool} (h : PO n R) (x y : Int) : PO n (addR n R x y) := by
  unfold addR
  split
  · rename_i hc
    obtain ⟨⟨hx, hy⟩, hr⟩ := hc
    have hx' : x.toNat < n := by unfold inB at hx; omega
    have hy' : y.toNat < n := by unfold inB at hy; omega
    generalize x.toNat = a at *
    generalize y.toNat = b at *
    refine ⟨fun i hi => by simp [h.rfl' i hi], fun i j k hi hj hk h1 h2 => ?_, fun i j hi hj h1 h2 => ?_⟩
    · simp only [Bool.or_eq_true, Bool.and_eq_true] at *
      rcases h1 with h1 | ⟨h1, h1'⟩ <;> rcases h2 with h2 | ⟨h2, h2'⟩
      · exact .inl (h.trans' i j k hi hj hk h1 h2)
      · exact .inr ⟨h.trans' i j a hi hj hx' h1 h2, h2'⟩
      · exact .inr ⟨h1, h.trans' b j k hy' hj hk h1' h2⟩
      · exact .inr ⟨h1, h2'⟩
    · simp only [Bool.or_eq_true, Bool.and_eq_true] at *
      rcases h1 with h1 | ⟨h1, h1'⟩ <;> rcases h2 with h2 | ⟨h2, h2'⟩
      · exact h.anti i j hi hj h1 h2
      · have := h.trans' b i a hy' hi hx' h2' (h.trans' i j a hi hj hx' h1 h2)
        rw [hr] at this; cases this
      · have := h.trans' b j a hy' hj hx' h1' (h.trans' j i a hj hi hx' h2 h1)
        rw [hr] at this; cases this
      · have := h.trans' b j a hy' hj hx' h1' h2
        rw [hr] at this; cases this
  · exact h
end Go.Proofs.YtkonpkejddcegaaDoor
