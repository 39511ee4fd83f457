/- strings.ContainsFunc's answer, at a predicate that every rune beyond ASCII meets, is a look at the bytes. -/
import Derived.Shelf.GgClosure.StringsIndexFunc
import Derived.Laws.RangeString
import Derived.Laws.RangeAny
namespace Go.Proofs.YtfhmmekamommcaaGreatDoor
set_option linter.unusedVariables false
set_option linter.unusedSimpArgs false
open Go Go.RowKit
theorem idx_any (p : Nat → Bool) (bad : UInt8 → Bool) (s : ByteArray) (h1 : ∀ r, 128 ≤ r → p r = true) (h2 : ∀ b : UInt8, b.toNat < 128 → p b.toNat = bad b) (h3 : ∀ b : UInt8, 128 ≤ b.toNat → bad b = true) :
    ∀ f pos, s.size ≤ pos + f → (0 ≤ Lib.idxFuncFrom p true s f pos ↔ ∃ b ∈ s.data.toList.drop pos, bad b = true) := by
  have hz : s.data.toList.length = s.size := by rw [Array.length_toList]; rfl
  intro f
  induction f with
  | zero =>
    intro pos hf
    have e : s.data.toList.drop pos = [] := List.drop_eq_nil_of_le (by omega)
    rw [e]
    unfold Lib.idxFuncFrom
    simp
  | succ f ih =>
    intro pos hf
    unfold Lib.idxFuncFrom
    by_cases hp : pos < s.size
    · rw [if_pos hp]
      have hl : pos < s.data.toList.length := by omega
      have ed : s.data.toList.drop pos = s[pos] :: s.data.toList.drop (pos + 1) := by
        rw [List.drop_eq_getElem_cons hl]; rfl
      rw [ed]
      by_cases ha : (s[pos]'hp).toNat < 128
      · rw [decode_ascii s pos hp ha]
        simp only
        rw [h2 _ ha]
        cases hb : bad s[pos] with
        | true => simp [hb]
        | false =>
          have e := ih (pos + 1) (by omega)
          simp only [Bool.false_eq_true, if_false]
          rw [e]
          simp [hb]
      · obtain ⟨k1, _⟩ := decode_high s pos hp (by omega)
        rw [if_pos (h1 _ k1)]
        have := h3 s[pos] (by omega)
        simp [this]
    · rw [if_neg hp]
      have e : s.data.toList.drop pos = [] := List.drop_eq_nil_of_le (by omega)
      rw [e]
      simp
theorem idx_bytes (p : Nat → Bool) (bad : UInt8 → Bool) (s : ByteArray) (h1 : ∀ r, 128 ≤ r → p r = true) (h2 : ∀ b : UInt8, b.toNat < 128 → p b.toNat = bad b) (h3 : ∀ b : UInt8, 128 ≤ b.toNat → bad b = true) :
    decide (0 ≤ Lib.idxFunc p true s) = s.data.toList.any bad := by
  have h := idx_any p bad s h1 h2 h3 s.size 0 (by omega)
  unfold Lib.idxFunc
  rw [Bool.eq_iff_iff, decide_eq_true_eq, h, List.any_eq_true]
  simp
end Go.Proofs.YtfhmmekamommcaaGreatDoor
