/- OrderSaid: the plain steps of its first loop. -/
import Derived.Test.YtkonpkejddcegaaDoorSaid2
namespace Go.Proofs.YtkonpkejddcegaaDoor
set_option linter.unusedVariables false
set_option linter.unusedSimpArgs false
open Go
/-- those taken from place k on -/
def Tk (C : List (Nat × Nat)) (k : Nat) (i j : Nat) : Prop := ∃ q, k ≤ q ∧ q < C.length ∧ C.getD q (0, 0) = (i, j)
structure TookList (n : Nat) (R : Nat → Nat → Bool) (C : List (Nat × Nat)) : Prop where
  least : Least n (Tk C 0) R
  ok : ∀ q, q < C.length → (C.getD q (0, 0)).1 < n ∧ (C.getD q (0, 0)).2 < n ∧ (C.getD q (0, 0)).1 ≠ (C.getD q (0, 0)).2
theorem took_list (n : Nat) (hn : 0 < n) (L : List (Int × Int)) (k : Nat) : TookList n (mkTo n L k).1 (mkTo n L k).2 := by
  obtain ⟨h, h2⟩ := mkTo_least n hn L k
  generalize (mkTo n L k).2 = C at *
  have hg : ∀ i (hi : i < C.length), C.getD i (0, 0) = C[i] := fun i hi => by simp [List.getD, hi]
  have e : (fun i j => (i, j) ∈ C) = Tk C 0 := by
    funext i j
    refine propext ⟨fun hm => ?_, ?_⟩
    · obtain ⟨q, hq, e⟩ := List.getElem_of_mem hm
      exact ⟨q, by omega, hq, by rw [hg q hq, e]⟩
    · rintro ⟨q, _, hq, e⟩
      rw [hg q hq] at e
      rw [← e]
      exact List.getElem_mem hq
  rw [e] at h
  refine ⟨h, fun q hq => ?_⟩
  rw [hg q hq]
  exact h2 _ (List.getElem_mem hq)
theorem TookList.step {n : Nat} {R P : Nat → Nat → Bool} {C : List (Nat × Nat)} (h : TookList n R C) {k : Nat} (hk : k < C.length) (hP : Least n (Tk C (k + 1)) P) :
    R (C.getD k (0, 0)).1 (C.getD k (0, 0)).2 = true ∧ addE n P (C.getD k (0, 0)).1 (C.getD k (0, 0)).2 = 0 ∧ Least n (Tk C k) (addR n P (C.getD k (0, 0)).1 (C.getD k (0, 0)).2) := by
  obtain ⟨la, lb, ne⟩ := h.ok k hk
  have hab : R (C.getD k (0, 0)).1 (C.getD k (0, 0)).2 = true := h.least.has _ _ ⟨k, by omega, hk, rfl⟩
  have hba : P (C.getD k (0, 0)).2 (C.getD k (0, 0)).1 = false := by
    cases hp : P (C.getD k (0, 0)).2 (C.getD k (0, 0)).1 with
    | false => rfl
    | true =>
      have := hP.low R h.least.po.rfl' h.least.po.trans' (fun i j ⟨q, _, hq, e⟩ => h.least.has i j ⟨q, by omega, hq, e⟩) _ _ lb la hp
      exact absurd (h.least.po.anti _ _ la lb hab this) ne
  have := hP.add (S' := Tk C k) la lb hba fun i j => by
    constructor
    · rintro ⟨q, h1, h2, h3⟩
      by_cases e : q = k
      · subst e; right; rw [h3]; exact ⟨rfl, rfl⟩
      · exact .inl ⟨q, by omega, h2, h3⟩
    · rintro (⟨q, h1, h2, h3⟩ | ⟨rfl, rfl⟩)
      · exact ⟨q, by omega, h2, h3⟩
      · exact ⟨k, by omega, hk, rfl⟩
  exact ⟨hab, this.1, this.2⟩
end Go.Proofs.YtkonpkejddcegaaDoor
