/- Plain facts on finite orders (of OrdPO, without its minima). -/
import Derived.Test.YtfhmmekamommcaaGreatDoorLatOrd
namespace Go.Proofs.YtfhmmekamommcaaGreatDoor
set_option linter.unusedVariables false
set_option linter.unusedSimpArgs false
open Go
/-- a partial order on the numbers below n -/
structure PO (n : Nat) (R : Nat → Nat → Bool) : Prop where
  rfl' : ∀ i, i < n → R i i = true
  trans' : ∀ i j k, i < n → j < n → k < n → R i j = true → R j k = true → R i k = true
  anti : ∀ i j, i < n → j < n → R i j = true → R j i = true → i = j
def idR : Nat → Nat → Bool := fun i j => decide (i = j)
theorem PO.id (n : Nat) : PO n idR := ⟨fun i _ => by simp [idR], fun i j k _ _ _ h1 h2 => by simp [idR] at *; omega, fun i j _ _ h1 _ => by simpa [idR] using h1⟩
theorem PO.add {n : Nat} {R : Nat → Nat → Bool} (h : PO n R) (x y : Int) : PO n (addR n R x y) := by
  unfold addR
  split
  · rename_i hc
    obtain ⟨⟨hx, hy⟩, hr⟩ := hc
    have hx' : x.toNat < n := by unfold inB at hx; omega
    have hy' : y.toNat < n := by unfold inB at hy; omega
    generalize x.toNat = a at *
    generalize y.toNat = b at *
    refine ⟨fun i hi => by simp [h.rfl' i hi], fun i j k hi hj hk h1 h2 => ?_, fun i j hi hj h1 h2 => ?_⟩
    · simp only [Bool.or_eq_true, Bool.and_eq_true] at *
      rcases h1 with h1 | ⟨h1, h1'⟩ <;> rcases h2 with h2 | ⟨h2, h2'⟩
      · exact .inl (h.trans' i j k hi hj hk h1 h2)
      · exact .inr ⟨h.trans' i j a hi hj hx' h1 h2, h2'⟩
      · exact .inr ⟨h1, h.trans' b j k hy' hj hk h1' h2⟩
      · exact .inr ⟨h1, h2'⟩
    · simp only [Bool.or_eq_true, Bool.and_eq_true] at *
      rcases h1 with h1 | ⟨h1, h1'⟩ <;> rcases h2 with h2 | ⟨h2, h2'⟩
      · exact h.anti i j hi hj h1 h2
      · have := h.trans' b i a hy' hi hx' h2' (h.trans' i j a hi hj hx' h1 h2)
        rw [hr] at this; cases this
      · have := h.trans' b j a hy' hj hx' h1' (h.trans' j i a hj hi hx' h2 h1)
        rw [hr] at this; cases this
      · have := h.trans' b j a hy' hj hx' h1' h2
        rw [hr] at this; cases this
  · exact h
end Go.Proofs.YtfhmmekamommcaaGreatDoor
