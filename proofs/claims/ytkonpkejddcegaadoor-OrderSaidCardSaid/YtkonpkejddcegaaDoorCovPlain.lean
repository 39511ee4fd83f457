/- Plain facts on the covers of a finite order: they tell all of it, and none can be left out. -/
import Derived.Test.YtkonpkejddcegaaDoorLawLine
namespace Go.Proofs.YtkonpkejddcegaaDoor
set_option linter.unusedVariables false
set_option linter.unusedSimpArgs false
open Go
/-- b covers a -/
structure Cov (n : Nat) (R : Nat → Nat → Bool) (a b : Nat) : Prop where
  la : a < n
  lb : b < n
  ne : a ≠ b
  le : R a b = true
  btw : ∀ c, c < n → R a c = true → R c b = true → c = a ∨ c = b
theorem covB_iff (n : Nat) (R : Nat → Nat → Bool) (a b : Nat) (ha : a < n) (hb : b < n) : covB n R (flp R) a b = true ↔ ∀ j, j < n → (R a j && R j b) = (decide (j = a) || decide (j = b)) := by
  unfold covB
  rw [beq_iff_eq, msk_and, msk_one n a ha, msk_one n b hb, msk_or]
  constructor
  · intro h j hj
    exact msk_inj n _ _ h j hj
  · intro h
    exact msk_congr n _ _ fun j hj => h j hj
theorem mem_cov {n : Nat} {R : Nat → Nat → Bool} (h : PO n R) (a b : Nat) : (a, b) ∈ covTo n R (flp R) n ↔ Cov n R a b := by
  unfold covTo
  rw [List.mem_flatMap]
  constructor
  · rintro ⟨x, hx, hm⟩
    unfold covRow at hm
    rw [List.mem_map] at hm
    obtain ⟨y, hy, e⟩ := hm
    simp only [Prod.mk.injEq] at e
    obtain ⟨rfl, rfl⟩ := e
    rw [List.mem_filter] at hy
    obtain ⟨hy1, hy2⟩ := hy
    have hx' : x < n := by simpa using hx
    have hy3 := mem_els.1 hy1
    have hc := (covB_iff n R x y hx' hy3.1).1 hy2
    have hy4 := hy3.2
    unfold abv at hy4
    simp only [Bool.and_eq_true, Bool.not_eq_true', decide_eq_false_iff_not] at hy4
    refine ⟨hx', hy3.1, fun e => hy4.2 e.symm, hy4.1, fun c hcn h1 h2 => ?_⟩
    have := hc c hcn
    rw [h1, h2] at this
    simpa using this.symm
  · intro hc
    refine ⟨a, by simpa using hc.la, ?_⟩
    unfold covRow
    rw [List.mem_map]
    refine ⟨b, ?_, rfl⟩
    rw [List.mem_filter]
    refine ⟨mem_els.2 ⟨hc.lb, ?_⟩, (covB_iff n R a b hc.la hc.lb).2 fun j hj => ?_⟩
    · unfold abv
      simp [hc.le, Ne.symm hc.ne]
    · by_cases h1 : j = a
      · subst h1; simp [h.rfl' j hj, hc.le]
      · by_cases h2 : j = b
        · subst h2; simp [h.rfl' j hj, hc.le]
        · have : (R a j && R j b) = false := by
            cases hh : (R a j && R j b) with
            | false => rfl
            | true =>
              simp only [Bool.and_eq_true] at hh
              rcases hc.btw j hj hh.1 hh.2 with e | e
              · exact absurd e h1
              · exact absurd e h2
          rw [this]; simp [h1, h2]
theorem els_nodup (n : Nat) (p : Nat → Bool) : (els n p).Nodup := List.Pairwise.filter _ List.nodup_range
theorem cov_nodup (n : Nat) (U D : Nat → Nat → Bool) (k : Nat) : (covTo n U D k).Nodup := by
  induction k with
  | zero => simp [covTo]
  | succ k ih =>
    rw [covTo_succ]
    refine List.nodup_append.2 ⟨ih, ?_, ?_⟩
    · unfold covRow
      refine List.Pairwise.map _ ?_ (List.Pairwise.filter _ (els_nodup n _))
      intro x y hxy e
      exact hxy (Prod.mk.inj e).2
    · rintro ⟨x1, x2⟩ hx ⟨y1, y2⟩ hy e
      unfold covTo at hx
      unfold covRow at hx hy
      rw [List.mem_flatMap] at hx
      obtain ⟨z, hz, hm⟩ := hx
      rw [List.mem_map] at hm hy
      obtain ⟨_, _, e1⟩ := hm
      obtain ⟨_, _, e2⟩ := hy
      have : z < k := by simpa using hz
      simp only [Prod.mk.injEq] at e1 e2 e
      omega
/-- how an order stands that hears of covers alone: of those of S -/
structure CInv (n : Nat) (R : Nat → Nat → Bool) (S : Nat → Nat → Prop) (P : Nat → Nat → Bool) : Prop where
  po : PO n P
  sub : ∀ i j, i < n → j < n → P i j = true → R i j = true
  has : ∀ i j, S i j → P i j = true
  fst : ∀ i j, i < n → j < n → P i j = true → i = j ∨ ∃ c, c < n ∧ S i c ∧ P c j = true
theorem CInv.id {n : Nat} {R : Nat → Nat → Bool} (h : PO n R) (S : Nat → Nat → Prop) (hS : ∀ i j, ¬ S i j) : CInv n R S idR := by
  refine ⟨PO.id n, fun i j hi hj e => ?_, fun i j hs => absurd hs (hS i j), fun i j _ _ e => .inl (by simpa [idR] using e)⟩
  have : i = j := by simpa [idR] using e
  subst this
  exact h.rfl' i hi
theorem CInv.not {n : Nat} {R P : Nat → Nat → Bool} {S : Nat → Nat → Prop} (hR : PO n R) (h : CInv n R S P) (hS : ∀ i j, S i j → Cov n R i j) {a b : Nat} (hc : Cov n R a b) (hn : ¬ S a b) : P a b = false := by
  cases hp : P a b with
  | false => rfl
  | true =>
    rcases h.fst a b hc.la hc.lb hp with e | ⟨c, hcn, hs, hcb⟩
    · exact absurd e hc.ne
    · rcases hc.btw c hcn (hS a c hs).le (h.sub c b hcn hc.lb hcb) with e | e
      · subst e; exact absurd rfl (hS c c hs).ne
      · subst e; exact absurd hs hn
theorem CInv.add {n : Nat} {R P : Nat → Nat → Bool} {S : Nat → Nat → Prop} (hR : PO n R) (h : CInv n R S P) {a b : Nat} (hc : Cov n R a b) (S' : Nat → Nat → Prop) (hS' : ∀ i j, S' i j ↔ S i j ∨ (i = a ∧ j = b)) :
    addE n P a b = 0 ∧ CInv n R S' (addR n P a b) := by
  have hba : P b a = false := by
    cases hp : P b a with
    | false => rfl
    | true => exact absurd (hR.anti a b hc.la hc.lb hc.le (h.sub b a hc.lb hc.la hp)) hc.ne
  have hin : inB n (a : Int) ∧ inB n (b : Int) := ⟨⟨by omega, by have := hc.la; omega⟩, ⟨by omega, by have := hc.lb; omega⟩⟩
  have e1 : addE n P a b = 0 := by
    unfold addE
    rw [if_pos hin]
    simp [hba]
  have e2 : addR n P a b = fun i j => P i j || (P i a && P b j) := by
    unfold addR
    rw [if_pos ⟨hin, by simpa using hba⟩]
    rfl
  refine ⟨e1, ?_⟩
  have hpo := h.po.add (a : Int) (b : Int)
  rw [e2] at hpo ⊢
  refine ⟨hpo, fun i j hi hj e => ?_, fun i j hs => ?_, fun i j hi hj e => ?_⟩
  · simp only [Bool.or_eq_true, Bool.and_eq_true] at e
    rcases e with e | ⟨e, e'⟩
    · exact h.sub i j hi hj e
    · exact hR.trans' i a j hi hc.la hj (h.sub i a hi hc.la e) (hR.trans' a b j hc.la hc.lb hj hc.le (h.sub b j hc.lb hj e'))
  · rcases (hS' i j).1 hs with hs | ⟨rfl, rfl⟩
    · simp [h.has i j hs]
    · simp [h.po.rfl' i hc.la, h.po.rfl' j hc.lb]
  · simp only [Bool.or_eq_true, Bool.and_eq_true] at e ⊢
    rcases e with e | ⟨e, e'⟩
    · rcases h.fst i j hi hj e with e | ⟨c, hcn, hs, hcj⟩
      · exact .inl e
      · exact .inr ⟨c, hcn, (hS' i c).2 (.inl hs), .inl hcj⟩
    · rcases h.fst i a hi hc.la e with e3 | ⟨c, hcn, hs, hca⟩
      · subst e3
        exact .inr ⟨b, hc.lb, (hS' i b).2 (.inr ⟨rfl, rfl⟩), .inl e'⟩
      · exact .inr ⟨c, hcn, (hS' i c).2 (.inl hs), .inr ⟨hca, e'⟩⟩
/-- below each thing that is higher there is one that covers -/
theorem cov_step {n : Nat} {R : Nat → Nat → Bool} (hR : PO n R) : ∀ (m a b : Nat), a < n → b < n → a ≠ b → R a b = true → (els n fun j => R a j && R j b).length ≤ m → ∃ c, Cov n R a c ∧ R c b = true := by
  intro m
  induction m with
  | zero =>
    intro a b ha hb hne hab hl
    have : a ∈ els n (fun j => R a j && R j b) := mem_els.2 ⟨ha, by simp [hR.rfl' a ha, hab]⟩
    have := List.length_pos_of_mem this
    omega
  | succ m ih =>
    intro a b ha hb hne hab hl
    by_cases hm : ∃ c, c < n ∧ R a c = true ∧ R c b = true ∧ c ≠ a ∧ c ≠ b
    · obtain ⟨c, hc, h1, h2, h3, h4⟩ := hm
      have hlt := els_len_lt n (fun j => R a j && R j c) (fun j => R a j && R j b) (fun j hj hh => by
        simp only [Bool.and_eq_true] at hh ⊢
        exact ⟨hh.1, hR.trans' j c b hj hc hb hh.2 h2⟩) b hb (by simp [hab, hR.rfl' b hb]) (by
        have : R b c = false := by
          cases hbc : R b c with
          | false => rfl
          | true => exact absurd (hR.anti c b hc hb h2 hbc) h4
        simp [this])
      obtain ⟨d, hd, hdc⟩ := ih a c ha hc (fun e => h3 e.symm) h1 (by omega)
      exact ⟨d, hd, hR.trans' d c b hd.lb hc hb hdc h2⟩
    · refine ⟨b, ⟨ha, hb, hne, hab, fun c hc h1 h2 => ?_⟩, hR.rfl' b hb⟩
      by_cases e1 : c = a
      · exact .inl e1
      · by_cases e2 : c = b
        · exact .inr e2
        · exact absurd ⟨c, hc, h1, h2, e1, e2⟩ hm
theorem CInv.full {n : Nat} {R P : Nat → Nat → Bool} {S : Nat → Nat → Prop} (hR : PO n R) (h : CInv n R S P) (hS : ∀ i j, Cov n R i j → S i j) : ∀ i j, i < n → j < n → P i j = R i j := by
  have key : ∀ (m i j : Nat), i < n → j < n → R i j = true → (els n fun k => R i k && R k j).length ≤ m → P i j = true := by
    intro m
    induction m with
    | zero =>
      intro i j hi hj hij hl
      have : i ∈ els n (fun k => R i k && R k j) := mem_els.2 ⟨hi, by simp [hR.rfl' i hi, hij]⟩
      have := List.length_pos_of_mem this
      omega
    | succ m ih =>
      intro i j hi hj hij hl
      by_cases e : i = j
      · subst e; exact h.po.rfl' i hi
      · obtain ⟨c, hc, hcj⟩ := cov_step hR _ i j hi hj e hij (Nat.le_refl _)
        have hlt := els_len_lt n (fun k => R c k && R k j) (fun k => R i k && R k j) (fun k hk hh => by
          simp only [Bool.and_eq_true] at hh ⊢
          exact ⟨hR.trans' i c k hi hc.lb hk hc.le hh.1, hh.2⟩) i hi (by simp [hij, hR.rfl' i hi]) (by
          have : R c i = false := by
            cases hci : R c i with
            | false => rfl
            | true => exact absurd (hR.anti i c hi hc.lb hc.le hci) hc.ne
          simp [this])
        exact h.po.trans' i c j hi hc.lb hj (h.has i c (hS i c hc)) (ih c j hc.lb hj hcj (by omega))
  intro i j hi hj
  cases hr : R i j with
  | true => exact key _ i j hi hj hr (Nat.le_refl _)
  | false =>
    cases hp : P i j with
    | false => rfl
    | true => rw [h.sub i j hi hj hp] at hr; cases hr
end Go.Proofs.YtkonpkejddcegaaDoor
