/- TextNumbers: the plain statement, and the walk at every argument. -/
import Derived.Test.YtnkinkgmceokhaaDoorPrTextNumbers1
import Derived.Test.YtnkinkgmceokhaaDoorTxtLaws
namespace Go.Proofs.YtnkinkgmceokhaaDoor
set_option linter.unusedVariables false
set_option linter.unusedSimpArgs false
open Go Go.RowKit Go.Proofs.YtnkinkgmceokhaaDoor.PrTextNumbers Go.Proofs.YtnkinkgmceokhaaDoorW.PrintWords
theorem bring_pos (a n : Int) (h1 : -9223372036854775808 ≤ a) (h2 : a ≤ 9223372036854775807) (n1 : 0 < n) (n2 : n ≤ 9223372036854775807) : ∃ r, chinoiserieref00_Bring.f a n = some r ∧ 0 ≤ r ∧ r < n := by
  unfold chinoiserieref00_Bring.f
  rw [if_neg (by omega)]
  have e : (Int.tmod a n) = a - n * (Int.tdiv a n) := by have := Int.mul_tdiv_add_tmod a n; omega
  have hb := Int.tmod_lt_of_pos a n1
  have hl : -n < Int.tmod a n := by
    exact Int.lt_tmod_of_pos a n1
  split
  · refine ⟨_, rfl, ?_, ?_⟩ <;> (unfold wrap64; omega)
  · exact ⟨_, rfl, by omega, hb⟩
theorem bytesLess_iff : ∀ (x y : List UInt8), Op.bytesLess x y = decide (x < y)
  | x, [] => by
    cases x <;> simp [Op.bytesLess]
  | [], b :: y => by simp [Op.bytesLess]
  | a :: x, b :: y => by
    unfold Op.bytesLess
    rw [bytesLess_iff x y, Bool.eq_iff_iff, Bool.or_eq_true, Bool.and_eq_true, decide_eq_true_eq, decide_eq_true_eq, decide_eq_true_eq, beq_iff_eq, List.cons_lt_cons_iff]
theorem dec_len : ∀ (k u : Nat), 1 ≤ k → u < 10 ^ k → (Lib.decDigits u).length ≤ k
  | 0, _, h, _ => by omega
  | k + 1, u, _, h => by
    rw [Lib.decDigits]
    by_cases hu : u < 10
    · rw [dif_pos hu]; simp
    · rw [dif_neg hu, List.length_append]
      have h1 : 1 ≤ k := by
        rcases k with _ | k
        · simp at h; omega
        · omega
      have := dec_len k (u / 10) h1 (by rw [Nat.pow_succ] at h; omega)
      simp
      omega
theorem numbers_pure (a0 a1 : Int) (h0 : -9223372036854775808 ≤ a0 ∧ a0 ≤ 9223372036854775807) (h1 : -9223372036854775808 ≤ a1 ∧ a1 ≤ 9223372036854775807) : chinoiserielaw01_TextNumbers.f a0 a1 = some true := by
  obtain ⟨a, ea, a1', a2⟩ := bring_pos a0 9007199254740992 h0.1 h0.2 (by omega) (by omega)
  obtain ⟨b, eb, b1, b2⟩ := bring_pos a1 9007199254740992 h1.1 h1.2 (by omega) (by omega)
  obtain ⟨a, rfl⟩ := Int.eq_ofNat_of_zero_le a1'
  obtain ⟨b, rfl⟩ := Int.eq_ofNat_of_zero_le b1
  have dig : ∀ n : Nat, n < 9007199254740992 → text_Digits.f (n : Int) = some (bs (Lib.decDigits n), 0) := fun n hn => by
    unfold text_Digits.f digR digE
    rw [if_pos ⟨by omega, by omega⟩, if_pos ⟨by omega, by omega⟩]
    rfl
  have num : ∀ n : Nat, n < 9007199254740992 → text_Number.f (bs (Lib.decDigits n)) = some ((n : Int), 0) := fun n hn => by
    obtain ⟨v, o⟩ := dec_val n
    have hlen : (bs (Lib.decDigits n)).size ≤ 140737488351232 := by
      rw [bs_size]
      have := dec_len 16 n (by omega) (by omega)
      omega
    unfold text_Number.f
    rw [if_pos hlen]
    unfold numR numE
    rw [list_bs, o, v]
    simp only [if_true]
    rw [if_pos (by omega), if_pos (by omega)]
  have sz : ∀ n : Nat, ((bs (Lib.decDigits n)).size : Int) = ((Lib.decDigits n).length : Nat) := fun n => by rw [bs_size]
  have tl : ∀ n : Nat, (bs (Lib.decDigits n)).toList = Lib.decDigits n := fun n => by simp [bs, ByteArray.toList_eq]
  have hw : chinoiserielaw01_works.f = some true := rfl
  have hless := less_digits a b
  have heq := eq_digits a b
  have c1 : ((Lib.decDigits a == Lib.decDigits b) == ((a : Int) == (b : Int))) = true := by
    rw [beq_iff_eq, Bool.eq_iff_iff, beq_iff_eq, beq_iff_eq, heq]
    omega
  unfold chinoiserielaw01_TextNumbers.f
  rw [ea, eb]
  simp only [Option.bind_some]
  rw [dig a (by omega), dig b (by omega)]
  simp only [Option.bind_some]
  rw [num a (by omega), num b (by omega)]
  simp only [Option.bind_some, sz, tl, if_true, hw, c1, bytesLess_iff]
  by_cases hl : (Lib.decDigits a).length < (Lib.decDigits b).length
  · rw [if_pos (by omega)]
    have hab := hless.1 (.inl hl)
    rw [if_pos (by simp; omega)]
  · rw [if_neg (by omega)]
    by_cases he : (Lib.decDigits a).length = (Lib.decDigits b).length
    · rw [if_pos (by omega)]
      rw [if_pos]
      rw [beq_iff_eq, Bool.eq_iff_iff, decide_eq_true_eq, decide_eq_true_eq]
      constructor
      · intro h; have := hless.1 (.inr ⟨he, h⟩); omega
      · intro h
        rcases hless.2 (by omega) with h | h
        · exact absurd h hl
        · exact h.2
    · rw [if_neg (by omega)]
      rw [if_pos]
      have hn : ¬ a < b := fun h => by
        rcases hless.2 h with h | h
        · exact hl h
        · exact he h.1
      simp
      omega
theorem TextNumbers_calls (a0 a1 : Int) (w : World) (hW : WOk w) (w0 : (Lit.int .i64 a0).wf = true) (w1 : (Lit.int .i64 a1).wf = true) :
    Calls Tryd.prog 5 #[.int .i64 a0, .int .i64 a1] w fun e w' => e = .returned (.bool true) ∧ Below w.heap.size w w' := by
  have h0 : -9223372036854775808 ≤ a0 ∧ a0 ≤ 9223372036854775807 := by simpa [Lit.wf, IntKind.min, IntKind.max, IntKind.bits, IntKind.signed] using w0
  have h1 : -9223372036854775808 ≤ a1 ∧ a1 ≤ 9223372036854775807 := by simpa [Lit.wf, IntKind.min, IntKind.max, IntKind.bits, IntKind.signed] using w1
  exact chinoiserielaw01_TextNumbers.calls a0 a1 true w (numbers_pure a0 a1 h0 h1) hW
end Go.Proofs.YtnkinkgmceokhaaDoor
