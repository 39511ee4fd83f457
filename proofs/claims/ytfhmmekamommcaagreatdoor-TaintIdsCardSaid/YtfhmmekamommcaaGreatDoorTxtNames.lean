/- Plain laws of names. -/
import Derived.Test.YtfhmmekamommcaaGreatDoorTxtLaws
namespace Go.Proofs.YtfhmmekamommcaaGreatDoor
set_option linter.unusedVariables false
set_option linter.unusedSimpArgs false
open Go
theorem nmB_word (b : UInt8) (h : nmB b = true) : wB b = true := by
  simp only [nmB, lcB, wB, Bool.or_eq_true, Bool.and_eq_true, decide_eq_true_eq, beq_iff_eq] at *
  rcases h with (h | h) | h
  · omega
  · omega
  · subst h; decide
theorem lcB_nm (b : UInt8) (h : lcB b = true) : nmB b = true := by simp [nmB, h]
theorem name_all (l : List UInt8) (h : nameOk l = true) : l.all nmB = true ∧ l.length ≤ 12 ∧ l ≠ [] := by
  cases l with
  | nil => cases h
  | cons b l =>
    unfold nameOk at h
    simp only [Bool.and_eq_true, decide_eq_true_eq] at h
    exact ⟨h.1.2, h.2, by simp⟩
theorem name_word (l : List UInt8) (h : nameOk l = true) : isWordL l = true := by
  obtain ⟨h1, _, h3⟩ := name_all l h
  unfold isWordL
  simp only [Bool.and_eq_true, Bool.not_eq_true', List.isEmpty_eq_false_iff]
  refine ⟨h3, ?_⟩
  rw [List.all_eq_true] at *
  exact fun b hb => nmB_word b (h1 b hb)
theorem name_cons (b : UInt8) (l : List UInt8) : nameOk (b :: l) = (lcB b && l.all nmB && decide (l.length < 12)) := by
  show (lcB b && (b :: l).all nmB && decide ((b :: l).length ≤ 12)) = _
  cases hb : lcB b with
  | false => rfl
  | true =>
    simp only [List.all_cons, lcB_nm b hb, Bool.true_and, List.length_cons]
    rfl
/-- a name with a byte put in -/
theorem name_put (l : List UInt8) (h : nameOk l = true) (c : UInt8) (k : Nat) (hk : k ≤ l.length) :
    nameOk (l.take k ++ c :: l.drop k) = ((lcB c || (decide (0 < k) && (c == 45 || (decide (48 ≤ c.toNat) && decide (c.toNat ≤ 57))))) && decide (l.length < 12)) := by
  cases l with
  | nil => cases h
  | cons b t =>
    rw [name_cons] at h
    simp only [Bool.and_eq_true, decide_eq_true_eq] at h
    obtain ⟨⟨h1, h2⟩, h3⟩ := h
    cases k with
    | zero =>
      simp only [List.take_zero, List.drop_zero, List.nil_append]
      rw [name_cons]
      simp only [List.all_cons, lcB_nm b h1, h2, Bool.true_and, Nat.lt_irrefl, decide_false, Bool.false_and, Bool.or_false, Bool.and_true]
    | succ k =>
      simp only [List.take_succ_cons, List.drop_succ_cons, List.cons_append]
      rw [name_cons]
      have e1 : (t.take k ++ c :: t.drop k).all nmB = nmB c := by
        have := List.take_append_drop k t
        rw [← this, List.all_append, Bool.and_eq_true] at h2
        rw [List.all_append, List.all_cons, h2.1, h2.2]
        simp
      have e2 : (t.take k ++ c :: t.drop k).length = t.length + 1 := by
        simp at hk
        simp
        omega
      rw [e1, e2, h1]
      simp only [Bool.true_and, Nat.zero_lt_succ, decide_true, List.length_cons]
      congr 1
      unfold nmB
      cases lcB c <;> cases (c == 45) <;> simp
end Go.Proofs.YtfhmmekamommcaaGreatDoor
