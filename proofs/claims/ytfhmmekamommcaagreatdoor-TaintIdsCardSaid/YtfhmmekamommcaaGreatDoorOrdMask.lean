/- Plain facts on sets of small numbers as bits. -/
import Derived.Laws.BitsAllLaws
namespace Go.Proofs.YtfhmmekamommcaaGreatDoor
set_option linter.unusedVariables false
set_option linter.unusedSimpArgs false
open Go
/-- the mask of those below n of which p is so -/
def msk : Nat → (Nat → Bool) → Nat
  | 0, _ => 0
  | n + 1, p => msk n p ||| (if p n then 2 ^ n else 0)
theorem msk_bit (n : Nat) (p : Nat → Bool) (j : Nat) : (msk n p).testBit j = (decide (j < n) && p j) := by
  induction n with
  | zero => simp [msk]
  | succ n ih =>
    simp only [msk, Nat.testBit_or, ih]
    by_cases e : j = n
    · subst e
      by_cases hp : p j = true
      · simp [hp, Nat.testBit_two_pow]
      · simp [hp]
    · have h1 : decide (j < n + 1) = decide (j < n) := by by_cases h : j < n <;> simp [h] <;> omega
      rw [h1]
      split
      · have h2 : ¬ n = j := fun h => e h.symm
        rw [Nat.testBit_two_pow]; simp [h2]
      · simp
theorem msk_lt (n : Nat) (p : Nat → Bool) : msk n p < 2 ^ n := by
  induction n with
  | zero => simp [msk]
  | succ n ih =>
    simp only [msk]
    refine Nat.or_lt_two_pow (by rw [Nat.pow_succ]; omega) ?_
    split
    · exact Nat.pow_lt_pow_right (by omega) (by omega)
    · exact Nat.two_pow_pos _
theorem msk_lt16 (n : Nat) (p : Nat → Bool) (hn : n ≤ 16) : msk n p < 65536 :=
  Nat.lt_of_lt_of_le (msk_lt n p) (by have := Nat.pow_le_pow_right (n := 2) (by omega) hn; simpa using this)
theorem msk_congr (n : Nat) (p q : Nat → Bool) (h : ∀ j, j < n → p j = q j) : msk n p = msk n q := by
  induction n with
  | zero => rfl
  | succ n ih => simp only [msk]; rw [ih (fun j hj => h j (by omega)), h n (by omega)]
theorem eq_mk (n : Nat) (x : Nat) (p : Nat → Bool) (h : ∀ j, x.testBit j = (decide (j < n) && p j)) : x = msk n p := by
  refine Nat.eq_of_testBit_eq fun j => ?_
  rw [h, msk_bit]
theorem msk_or (n : Nat) (p q : Nat → Bool) : msk n p ||| msk n q = msk n (fun j => p j || q j) := by
  refine eq_mk _ _ _ fun j => ?_
  rw [Nat.testBit_or, msk_bit, msk_bit]
  cases decide (j < n) <;> simp
theorem msk_and (n : Nat) (p q : Nat → Bool) : msk n p &&& msk n q = msk n (fun j => p j && q j) := by
  refine eq_mk _ _ _ fun j => ?_
  rw [Nat.testBit_and, msk_bit, msk_bit]
  cases decide (j < n) <;> simp
theorem msk_one (n a : Nat) (h : a < n) : 2 ^ a = msk n (fun j => decide (j = a)) := by
  refine eq_mk _ _ _ fun j => ?_
  rw [Nat.testBit_two_pow]
  by_cases e : a = j
  · subst e; simp [h]
  · have e' : ¬ j = a := fun x => e x.symm
    simp [e, e']
theorem msk_all (n : Nat) : 2 ^ n - 1 = msk n (fun _ => true) := by
  refine eq_mk _ _ _ fun j => ?_
  simp [Nat.testBit_two_pow_sub_one]
theorem msk_inj (n : Nat) (p q : Nat → Bool) (h : msk n p = msk n q) (j : Nat) (hj : j < n) : p j = q j := by
  have e : (msk n p).testBit j = (msk n q).testBit j := by rw [h]
  rw [msk_bit, msk_bit] at e
  simpa [hj] using e
theorem msk_zero (n : Nat) (p : Nat → Bool) (h : msk n p = 0) (j : Nat) (hj : j < n) : p j = false := by
  have e : (msk n p).testBit j = false := by rw [h]; simp
  rw [msk_bit] at e
  simpa [hj] using e
theorem msk_ne (n : Nat) (p : Nat → Bool) (h : msk n p ≠ 0) : ∃ j, j < n ∧ p j = true := by
  by_cases e : ∃ j, j < n ∧ p j = true
  · exact e
  · refine absurd ?_ h
    have : msk n p = msk n (fun _ => false) := msk_congr n _ _ fun j hj => by
      by_cases hp : p j = true
      · exact absurd ⟨j, hj, hp⟩ e
      · simpa using hp
    rw [this]
    clear h this e
    induction n with
    | zero => rfl
    | succ n ih => simp [msk, ih]
/-- the least one of a set that is not empty -/
theorem least (n : Nat) (p : Nat → Bool) (h : ∃ j, j < n ∧ p j = true) : ∃ a, a < n ∧ p a = true ∧ ∀ j, j < a → p j = false := by
  induction n with
  | zero => obtain ⟨j, hj, _⟩ := h; omega
  | succ n ih =>
    by_cases e : ∃ j, j < n ∧ p j = true
    · obtain ⟨a, h1, h2, h3⟩ := ih e
      exact ⟨a, by omega, h2, h3⟩
    · obtain ⟨j, hj, hp⟩ := h
      have : j = n := by
        by_cases e2 : j < n
        · exact absurd ⟨j, e2, hp⟩ e
        · omega
      subst this
      refine ⟨j, by omega, hp, fun i hi => ?_⟩
      by_cases e3 : p i = true
      · exact absurd ⟨i, hi, e3⟩ e
      · simpa using e3
theorem low_form (x a : Nat) (h1 : x.testBit a = true) (h2 : ∀ j, j < a → x.testBit j = false) : ∃ k, x = 2 ^ a * (2 * k + 1) := by
  have e : x % 2 ^ a = 0 := by
    refine Nat.eq_of_testBit_eq fun j => ?_
    rw [Nat.testBit_mod_two_pow]
    by_cases hj : j < a
    · simp [hj, h2 j hj]
    · simp [hj]
  have hd := Nat.div_add_mod x (2 ^ a)
  rw [e, Nat.add_zero] at hd
  have hb : (x / 2 ^ a) % 2 = 1 := by
    have := h1
    rw [Nat.testBit_eq_decide_div_mod_eq] at this
    simpa using this
  refine ⟨x / 2 ^ a / 2, ?_⟩
  have : 2 * (x / 2 ^ a / 2) + 1 = x / 2 ^ a := by omega
  rw [this, hd]
/-- x & (x - 1): the lowest bit goes -/
theorem and_pred (x a : Nat) (h1 : x.testBit a = true) (h2 : ∀ j, j < a → x.testBit j = false) (j : Nat) : (x &&& (x - 1)).testBit j = (x.testBit j && decide (a < j)) := by
  obtain ⟨k, rfl⟩ := low_form x a h1 h2
  have hp := Nat.two_pow_pos a
  have e1 : 2 ^ a * (2 * k + 1) - 1 = 2 ^ a * (2 * k) + (2 ^ a - 1) := by rw [Nat.mul_add]; omega
  have e2 : 2 ^ a * (2 * k + 1) = 2 ^ a * (2 * k + 1) + 0 := rfl
  rw [Nat.testBit_and, e1, Nat.testBit_two_pow_mul_add _ (by omega)]
  by_cases hj : j < a
  · rw [h2 j hj]; simp
  · rw [e2, Nat.testBit_two_pow_mul_add _ (by omega), if_neg hj, if_neg hj]
    by_cases e : j = a
    · subst e; simp
    · obtain ⟨d, rfl⟩ : ∃ d, j = a + 1 + d := ⟨j - a - 1, by omega⟩
      have e3 : a + 1 + d - a = d + 1 := by omega
      rw [e3, decide_eq_true (by omega : a < a + 1 + d)]
      have t1 : (2 * k + 1).testBit (d + 1) = k.testBit d := by rw [Nat.testBit_succ]; congr 1; omega
      have t2 : (2 * k).testBit (d + 1) = k.testBit d := by rw [Nat.testBit_succ]; congr 1; omega
      rw [t1, t2]; simp
theorem msk_step (n : Nat) (p : Nat → Bool) (a : Nat) (ha : a < n) (h1 : p a = true) (h2 : ∀ j, j < a → p j = false) :
    msk n p &&& (msk n p - 1) = msk n (fun j => p j && decide (a < j)) := by
  refine eq_mk _ _ _ fun j => ?_
  rw [and_pred (msk n p) a (by rw [msk_bit]; simp [ha, h1]) (fun j hj => by rw [msk_bit, h2 j hj]; simp), msk_bit]
  cases decide (j < n) <;> simp
end Go.Proofs.YtfhmmekamommcaaGreatDoor
