/- Plain facts: the least order that holds some pairs; what can be come to along pairs is that order. -/
import Derived.Test.YtfmacnkjhboefaaGreatDoorLatEval
namespace Go.Proofs.YtfmacnkjhboefaaGreatDoor
set_option linter.unusedVariables false
set_option linter.unusedSimpArgs false
open Go
structure Least (n : Nat) (S : Nat → Nat → Prop) (R : Nat → Nat → Bool) : Prop where
  po : PO n R
  has : ∀ i j, S i j → R i j = true
  low : ∀ T : Nat → Nat → Bool, (∀ i, i < n → T i i = true) → (∀ i j k, i < n → j < n → k < n → T i j = true → T j k = true → T i k = true) → (∀ i j, S i j → T i j = true) → ∀ i j, i < n → j < n → R i j = true → T i j = true
theorem Least.id (n : Nat) (S : Nat → Nat → Prop) (hS : ∀ i j, ¬ S i j) : Least n S idR := by
  refine ⟨PO.id n, fun i j h => absurd h (hS i j), fun T h1 _ _ i j hi _ e => ?_⟩
  have : i = j := by simpa [idR] using e
  subst this
  exact h1 i hi
theorem Least.add {n : Nat} {S S' : Nat → Nat → Prop} {R : Nat → Nat → Bool} (h : Least n S R) {a b : Nat} (ha : a < n) (hb : b < n) (hba : R b a = false) (hS' : ∀ i j, S' i j ↔ S i j ∨ (i = a ∧ j = b)) :
    addE n R a b = 0 ∧ Least n S' (addR n R a b) := by
  have hin : inB n (a : Int) ∧ inB n (b : Int) := ⟨⟨by omega, by omega⟩, ⟨by omega, by omega⟩⟩
  have e1 : addE n R a b = 0 := by
    unfold addE
    rw [if_pos hin]
    simp [hba]
  have e2 : addR n R a b = fun i j => R i j || (R i a && R b j) := by
    unfold addR
    rw [if_pos ⟨hin, by simpa using hba⟩]
    rfl
  have hpo := h.po.add (a : Int) (b : Int)
  refine ⟨e1, ?_⟩
  rw [e2] at hpo ⊢
  refine ⟨hpo, fun i j hs => ?_, fun T t1 t2 t3 i j hi hj e => ?_⟩
  · rcases (hS' i j).1 hs with hs | ⟨rfl, rfl⟩
    · simp [h.has i j hs]
    · simp [h.po.rfl' i ha, h.po.rfl' j hb]
  · have low := h.low T t1 t2 fun i j hs => t3 i j ((hS' i j).2 (.inl hs))
    simp only [Bool.or_eq_true, Bool.and_eq_true] at e
    rcases e with e | ⟨e, e'⟩
    · exact low i j hi hj e
    · exact t2 i a j hi ha hj (low i a hi ha e) (t2 a b j ha hb hj (t3 a b ((hS' a b).2 (.inr ⟨rfl, rfl⟩))) (low b j hb hj e'))
theorem els_len_lt (n : Nat) (p q : Nat → Bool) (hpq : ∀ j, j < n → p j = true → q j = true) (x : Nat) (hx : x < n) (hqx : q x = true) (hpx : p x = false) : (els n p).length < (els n q).length := by
  induction n with
  | zero => omega
  | succ n ih =>
    have s : ∀ r : Nat → Bool, (els (n + 1) r).length = (els n r).length + (if r n = true then 1 else 0) := fun r => by
      unfold els; rw [List.range_succ, List.filter_append, List.length_append]; by_cases h : r n = true <;> simp [h]
    have mono : ∀ m, (∀ j, j < m → p j = true → q j = true) → (els m p).length ≤ (els m q).length := by
      intro m
      induction m with
      | zero => intro _; simp [els]
      | succ m ihm =>
        intro h
        have s' : ∀ r : Nat → Bool, (els (m + 1) r).length = (els m r).length + (if r m = true then 1 else 0) := fun r => by
          unfold els; rw [List.range_succ, List.filter_append, List.length_append]; by_cases h : r m = true <;> simp [h]
        rw [s', s']
        have h1 := ihm (fun j hj => h j (by omega))
        have h2 := h m (by omega)
        by_cases hp : p m = true
        · simp [hp, h2 hp, h1]
        · simp [hp]; omega
    rw [s, s]
    by_cases e : x = n
    · subst e
      have := mono x (fun j hj => hpq j (by omega))
      simp [hpx, hqx]
      omega
    · have h1 := ih (fun j hj => hpq j (by omega)) (by omega)
      have h2 := hpq n (by omega)
      by_cases hp : p n = true
      · simp [hp, h2 hp, h1]
      · simp [hp]; omega
/-! ### what can be come to -/
def hstep (h : Nat → Bool) (p : Nat × Nat) : Nat → Bool := fun j => h j || (h p.1 && decide (j = p.2))
def sweep (P : List (Nat × Nat)) (h : Nat → Bool) : Nat → Bool := P.foldl hstep h
def iterH (P : List (Nat × Nat)) (h : Nat → Bool) : Nat → Nat → Bool
  | 0 => h
  | k + 1 => sweep P (iterH P h k)
def reach (n : Nat) (P : List (Nat × Nat)) (a : Nat) : Nat → Bool := iterH P (fun j => decide (j = a)) n
theorem sweep_mono (P : List (Nat × Nat)) : ∀ (h : Nat → Bool) (j : Nat), h j = true → sweep P h j = true := by
  unfold sweep
  induction P with
  | nil => intro h j e; exact e
  | cons p P ih => intro h j e; rw [List.foldl_cons]; exact ih _ j (by simp [hstep, e])
theorem sweep_in {n : Nat} {P : List (Nat × Nat)} (hP : ∀ p ∈ P, p.1 < n ∧ p.2 < n) : ∀ (h : Nat → Bool), (∀ j, h j = true → j < n) → ∀ j, sweep P h j = true → j < n := by
  unfold sweep
  induction P with
  | nil => intro h hh j e; exact hh j e
  | cons p P ih =>
    intro h hh j e
    rw [List.foldl_cons] at e
    refine ih (fun q hq => hP q (by simp [hq])) _ (fun i hi => ?_) j e
    simp only [hstep, Bool.or_eq_true, Bool.and_eq_true, decide_eq_true_eq] at hi
    rcases hi with hi | ⟨_, rfl⟩
    · exact hh i hi
    · exact (hP p (by simp)).2
theorem sweep_sub {P : List (Nat × Nat)} {C : Nat → Bool} (hC : ∀ p ∈ P, C p.1 = true → C p.2 = true) : ∀ (h : Nat → Bool), (∀ j, h j = true → C j = true) → ∀ j, sweep P h j = true → C j = true := by
  unfold sweep
  induction P with
  | nil => intro h hh j e; exact hh j e
  | cons p P ih =>
    intro h hh j e
    rw [List.foldl_cons] at e
    refine ih (fun q hq => hC q (by simp [hq])) _ (fun i hi => ?_) j e
    simp only [hstep, Bool.or_eq_true, Bool.and_eq_true, decide_eq_true_eq] at hi
    rcases hi with hi | ⟨h1, rfl⟩
    · exact hh i hi
    · exact hC p (by simp) (hh _ h1)
/-- what stands still is closed -/
theorem sweep_closed (P : List (Nat × Nat)) (h : Nat → Bool) : ∀ p ∈ P, h p.1 = true → sweep P h p.2 = true := by
  have key : ∀ (P : List (Nat × Nat)) (h : Nat → Bool), ∀ p ∈ P, h p.1 = true → P.foldl hstep h p.2 = true := by
    intro P
    induction P with
    | nil => intro h p hp; cases hp
    | cons q P ih =>
      intro h p hp e
      rw [List.foldl_cons]
      rcases List.mem_cons.1 hp with rfl | hp
      · exact sweep_mono P _ _ (by simp [hstep, e])
      · exact ih _ p hp (by simp [hstep, e])
  exact key P h
theorem iter_in {n : Nat} {P : List (Nat × Nat)} (hP : ∀ p ∈ P, p.1 < n ∧ p.2 < n) {a : Nat} (ha : a < n) : ∀ k j, iterH P (fun j => decide (j = a)) k j = true → j < n
  | 0, j, e => by
    have : j = a := by simpa [iterH] using e
    omega
  | k + 1, j, e => sweep_in hP _ (fun i hi => iter_in hP ha k i hi) j e
theorem iter_sub {P : List (Nat × Nat)} {C : Nat → Bool} (hC : ∀ p ∈ P, C p.1 = true → C p.2 = true) {a : Nat} (ha : C a = true) : ∀ k j, iterH P (fun j => decide (j = a)) k j = true → C j = true
  | 0, j, e => by
    have : j = a := by simpa [iterH] using e
    rw [this]; exact ha
  | k + 1, j, e => sweep_sub hC _ (fun i hi => iter_sub hC ha k i hi) j e
theorem iter_mono (P : List (Nat × Nat)) (h : Nat → Bool) (k : Nat) : ∀ m, k ≤ m → ∀ j, iterH P h k j = true → iterH P h m j = true := by
  intro m hm
  induction m with
  | zero => intro j e; have : k = 0 := by omega
            subst this; exact e
  | succ m ih =>
    intro j e
    by_cases hk : k = m + 1
    · subst hk; exact e
    · exact sweep_mono P _ j (ih (by omega) j e)
/-- behind n rounds nothing new comes -/
theorem iter_stable {n : Nat} {P : List (Nat × Nat)} (hP : ∀ p ∈ P, p.1 < n ∧ p.2 < n) {a : Nat} (ha : a < n) : ∀ j, sweep P (reach n P a) j = reach n P a j := by
  -- either some round changed nothing, or each round made one more
  have grow : ∀ k, (∃ m, m < k ∧ ∀ j, iterH P (fun j => decide (j = a)) (m + 1) j = iterH P (fun j => decide (j = a)) m j) ∨ k + 1 ≤ (els n (iterH P (fun j => decide (j = a)) k)).length := by
    intro k
    induction k with
    | zero =>
      right
      have : a ∈ els n (iterH P (fun j => decide (j = a)) 0) := mem_els.2 ⟨ha, by simp [iterH]⟩
      have := List.length_pos_of_mem this
      omega
    | succ k ih =>
      rcases ih with ⟨m, hm, e⟩ | hk
      · exact .inl ⟨m, by omega, e⟩
      · by_cases he : ∀ j, iterH P (fun j => decide (j = a)) (k + 1) j = iterH P (fun j => decide (j = a)) k j
        · exact .inl ⟨k, by omega, he⟩
        · right
          obtain ⟨x, hx⟩ : ∃ x, ¬ iterH P (fun j => decide (j = a)) (k + 1) x = iterH P (fun j => decide (j = a)) k x := by
            rcases Classical.em (∃ x, ¬ iterH P (fun j => decide (j = a)) (k + 1) x = iterH P (fun j => decide (j = a)) k x) with h | h
            · exact h
            · exact absurd (fun j => Classical.byContradiction fun hj => h ⟨j, hj⟩) he
          have h0 : iterH P (fun j => decide (j = a)) k x = false := by
            cases hc : iterH P (fun j => decide (j = a)) k x with
            | false => rfl
            | true => exact absurd (by rw [hc]; exact iter_mono P _ k (k + 1) (by omega) x hc) hx
          have h1 : iterH P (fun j => decide (j = a)) (k + 1) x = true := by
            cases hc : iterH P (fun j => decide (j = a)) (k + 1) x with
            | true => rfl
            | false => exact absurd (by rw [hc, h0]) hx
          have := els_len_lt n (iterH P (fun j => decide (j = a)) k) (iterH P (fun j => decide (j = a)) (k + 1)) (fun j _ e => iter_mono P _ k (k + 1) (by omega) j e) x (iter_in hP ha _ x h1) h1 h0
          omega
  rcases grow n with ⟨m, hm, e⟩ | hn
  · have fix : ∀ i, iterH P (fun j => decide (j = a)) (m + i) = iterH P (fun j => decide (j = a)) m := by
      intro i
      induction i with
      | zero => rfl
      | succ i ih =>
        have : iterH P (fun j => decide (j = a)) (m + i + 1) = sweep P (iterH P (fun j => decide (j = a)) (m + i)) := rfl
        rw [show m + (i + 1) = m + i + 1 by omega, this, ih]
        exact funext e
    intro j
    unfold reach
    have e1 := fix (n - m)
    rw [show m + (n - m) = n by omega] at e1
    rw [e1]
    exact e j
  · have := els_length n (iterH P (fun j => decide (j = a)) n)
    omega
theorem reach_closed {n : Nat} {P : List (Nat × Nat)} (hP : ∀ p ∈ P, p.1 < n ∧ p.2 < n) {a : Nat} (ha : a < n) : ∀ p ∈ P, reach n P a p.1 = true → reach n P a p.2 = true := fun p hp e => by
  rw [← iter_stable hP ha]
  exact sweep_closed P _ p hp e
/-- what can be come to along the pairs is the least order that holds them -/
theorem reach_eq {n : Nat} {P : List (Nat × Nat)} {R : Nat → Nat → Bool} (hP : ∀ p ∈ P, p.1 < n ∧ p.2 < n) (h : Least n (fun i j => (i, j) ∈ P) R) {a b : Nat} (ha : a < n) (hb : b < n) : reach n P a b = R a b := by
  rw [Bool.eq_iff_iff]
  constructor
  · intro e
    have := iter_sub (P := P) (C := fun j => decide (j < n) && R a j) (fun p hp hc => by
      obtain ⟨h1, h2⟩ := hP p hp
      simp only [Bool.and_eq_true, decide_eq_true_eq] at hc ⊢
      exact ⟨h2, h.po.trans' a p.1 p.2 ha h1 h2 hc.2 (h.has _ _ hp)⟩) (a := a) (by simp [ha, h.po.rfl' a ha]) n b e
    simp only [Bool.and_eq_true, decide_eq_true_eq] at this
    exact this.2
  · intro e
    refine h.low (fun i j => reach n P i j) (fun i hi => ?_) (fun i j k hi hj hk h1 h2 => ?_) (fun i j hij => ?_) a b ha hb e
    · exact iter_mono P _ 0 n (by omega) i (by simp [iterH])
    · exact iter_sub (P := P) (C := reach n P i) (reach_closed hP hi) h1 n k h2
    · have hi := (hP _ hij).1
      exact reach_closed hP hi (i, j) hij (iter_mono P _ 0 n (by omega) i (by simp [iterH]))
end Go.Proofs.YtfmacnkjhboefaaGreatDoor
