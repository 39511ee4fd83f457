/- TextNames: the plain statement, and the walk at every argument. -/
import Derived.Test.YtnkinkgmceokhaaDoorPrTextNames3
import Derived.Test.YtnkinkgmceokhaaDoorTxtNames
import Derived.Test.YtnkinkgmceokhaaDoorTxtLaws
namespace Go.Proofs.YtnkinkgmceokhaaDoor
set_option linter.unusedVariables false
set_option linter.unusedSimpArgs false
open Go Go.RowKit Go.Proofs.YtnkinkgmceokhaaDoor.PrTextNames Go.Proofs.YtnkinkgmceokhaaDoorW.PrintWords
theorem nm_bring (a n : Int) (h1 : -9223372036854775808 ≤ a) (h2 : a ≤ 9223372036854775807) (n1 : 0 < n) (n2 : n ≤ 9223372036854775807) : ∃ r, chinoiserieref00_Bring.f a n = some r ∧ 0 ≤ r ∧ r < n := by
  unfold chinoiserieref00_Bring.f
  rw [if_neg (by omega)]
  have e : (Int.tmod a n) = a - n * (Int.tdiv a n) := by have := Int.mul_tdiv_add_tmod a n; omega
  have hb := Int.tmod_lt_of_pos a n1
  have hl : -n < Int.tmod a n := by
    exact Int.lt_tmod_of_pos a n1
  split
  · refine ⟨_, rfl, ?_, ?_⟩ <;> (unfold wrap64; omega)
  · exact ⟨_, rfl, by omega, hb⟩
theorem nm_len (s : ByteArray) : s.size = s.data.toList.length := by rw [Array.length_toList]; rfl
theorem nm_put (s : ByteArray) (x1 : Int) (kk : Nat) (hx1 : 0 ≤ x1) (hx2 : x1 ≤ 255) (hk : kk ≤ s.size) (hs : nameOk s.data.toList = true) :
    ∃ B : Bool, text_Name.f (((s.extract 0 kk) ++ (strOfNums [x1])) ++ (s.extract kk s.size)) = some (if B then 0 else 31) ∧
      (B = true ↔ ((97 ≤ x1 ∧ x1 ≤ 122) ∨ (0 < kk ∧ (x1 = 45 ∨ (48 ≤ x1 ∧ x1 ≤ 57)))) ∧ s.size < 12) := by
  have hz := nm_len s
  have e1 : (s.extract 0 kk).data.toList = s.data.toList.take kk := by rw [Lib.extract_data]; simp
  have e2 : (s.extract kk s.size).data.toList = s.data.toList.drop kk := by
    rw [Lib.extract_data]
    rw [hz, ← List.length_drop, List.take_length]
  have e3 : (strOfNums [x1]).data.toList = [UInt8.ofNat x1.toNat] := rfl
  have e4 : (((s.extract 0 kk) ++ (strOfNums [x1])) ++ (s.extract kk s.size)).data.toList = s.data.toList.take kk ++ UInt8.ofNat x1.toNat :: s.data.toList.drop kk := by
    rw [ByteArray.data_append, Array.toList_append, ByteArray.data_append, Array.toList_append, e1, e2, e3, List.append_assoc]
    rfl
  have hc : (UInt8.ofNat x1.toNat).toNat = x1.toNat := by
    rw [UInt8.toNat_ofNat']
    exact Nat.mod_eq_of_lt (by omega)
  refine ⟨nameOk (s.data.toList.take kk ++ UInt8.ofNat x1.toNat :: s.data.toList.drop kk), ?_, ?_⟩
  · unfold text_Name.f nameE
    rw [e4]
  · rw [name_put _ hs _ _ (by omega)]
    have h45 : ((UInt8.ofNat x1.toNat) == 45) = decide (x1 = 45) := by
      rw [Bool.eq_iff_iff, beq_iff_eq, decide_eq_true_eq, ← UInt8.toNat_inj, hc]
      have : (45 : UInt8).toNat = 45 := rfl
      omega
    unfold lcB
    rw [hc, h45]
    simp only [Bool.and_eq_true, Bool.or_eq_true, decide_eq_true_eq]
    omega
theorem names_j0 (s : ByteArray) (x1 x2 : Int) (k : Nat) (hx1 : 0 ≤ x1) (hx2 : x1 ≤ 255) (h1 : -9223372036854775808 ≤ x2) (h2 : x2 ≤ 9223372036854775807) (hs : nameOk s.data.toList = true) (hsz : s.size ≤ 12) :
    chinoiserielaw01_TextNames.j0 (k + 1) s x1 x2 false = some true := by
  have hz := nm_len s
  have ew : wrap64 ((s.size : Int) + 1) = (s.size : Int) + 1 := by unfold wrap64; omega
  obtain ⟨r, e, r1, r2⟩ := nm_bring x2 ((s.size : Int) + 1) h1 h2 (by omega) (by omega)
  obtain ⟨kk, rfl⟩ := Int.eq_ofNat_of_zero_le r1
  have hw : chinoiserielaw01_works.f = some true := rfl
  have hk : kk ≤ s.size := by omega
  obtain ⟨B, hB, hB2⟩ := nm_put s x1 kk hx1 hx2 hk hs
  have z1 : (s.extract 0 kk).size = kk := by rw [nm_len, Lib.extract_data, List.length_take, List.length_drop]; omega
  have z2 : (strOfNums [x1]).size = 1 := rfl
  have z3 : (s.extract kk s.size).size = s.size - kk := by rw [nm_len, Lib.extract_data, List.length_take, List.length_drop]; omega
  have z4 : ((s.extract 0 kk) ++ (strOfNums [x1])).size = kk + 1 := by rw [ByteArray.size_append, z1, z2]
  have hT : ((if B = true then (0 : Int) else 31) == 0) = B := by cases B <;> rfl
  simp only [chinoiserielaw01_TextNames.j0]
  rw [if_neg (by decide), ew, e, Option.bind_some, if_pos (by omega), if_pos (by omega), Option.bind_some, Int.toNat_natCast, z1, z2, z3, z4, if_pos (Nat.le_trans (m := 3000000) (by omega) (by decide)), if_pos (Nat.le_trans (m := 3000000) (by omega) (by decide))]
  simp only [hB, Option.bind_some, hw, hT]
  have hd : decide ((s.size : Int) < 12) = decide (s.size < 12) := by
    rw [Bool.eq_iff_iff, decide_eq_true_eq, decide_eq_true_eq]
    omega
  rw [hd]
  clear hd hB hT z1 z2 z3 z4 hw e ew
  cases B with
  | true =>
    have hq := hB2.1 rfl
    have h12 : decide (s.size < 12) = true := decide_eq_true hq.2
    rw [h12]
    repeat' split
    all_goals first | rfl | (exfalso; omega) | (exfalso; rename_i h; exact h rfl) | (exfalso; rename_i h; cases h; done)
  | false =>
    have hq : ¬ (((97 ≤ x1 ∧ x1 ≤ 122) ∨ (0 < kk ∧ (x1 = 45 ∨ (48 ≤ x1 ∧ x1 ≤ 57)))) ∧ s.size < 12) := fun h => by
      have := hB2.2 h
      cases this
    clear hB2
    by_cases h12 : s.size < 12
    · rw [decide_eq_true h12]
      repeat' split
      all_goals first | rfl | (exfalso; omega) | (exfalso; rename_i h; exact h rfl) | (exfalso; rename_i h; cases h; done)
    · rw [decide_eq_false h12]
      repeat' split
      all_goals first | rfl | (exfalso; omega) | (exfalso; rename_i h; exact h rfl) | (exfalso; rename_i h; cases h; done)
theorem names_pure (a0 : ByteArray) (a1 a2 : Int) (h1 : 0 ≤ a1 ∧ a1 ≤ 255) (h2 : -9223372036854775808 ≤ a2 ∧ a2 ≤ 9223372036854775807) : chinoiserielaw01_TextNames.f 10 a0 a1 a2 = some true := by
  have e : mn (a0.size : Int) 30 = ((min a0.size 30 : Nat) : Int) := by
    unfold mn
    rcases Nat.le_total a0.size 30 with h | h
    · rw [Nat.min_eq_left h]; split <;> omega
    · rw [Nat.min_eq_right h]; split <;> omega
  have hw : chinoiserielaw01_works.f = some true := rfl
  unfold chinoiserielaw01_TextNames.f
  rw [e, if_pos (by omega), if_pos (by have := Nat.min_le_left a0.size 30; omega), Int.toNat_natCast]
  have hlen : (a0.extract 0 (min a0.size 30)).data.toList.length ≤ 30 := by
    rw [Lib.extract_data, List.length_take]
    have := Nat.min_le_right a0.size 30
    omega
  generalize a0.extract 0 (min a0.size 30) = s at *
  have hz := nm_len s
  have en : text_Name.f s = some (nameE s.data.toList) := rfl
  rw [en, Option.bind_some]
  by_cases hok : nameOk s.data.toList = true
  · have e0 : nameE s.data.toList = 0 := by unfold nameE; rw [if_pos hok]
    obtain ⟨w1, w2⟩ := words_one _ (name_word _ hok)
    have ew : text_Words.f s = some ([s], 0) := by
      unfold text_Words.f
      rw [if_pos (by omega), w1, w2]
      rfl
    have h12 := (name_all _ hok).2.1
    have hd : decide ((s.size : Int) > 12) = false := decide_eq_false (by omega)
    rw [e0, if_pos rfl, ew, Option.bind_some, if_pos (by rfl), if_pos (by rfl), if_pos (by exact (show (0 : Int) < 1 by decide)), if_pos (by rfl), hd]
    exact names_j0 s a1 a2 9 h1.1 h1.2 h2.1 h2.2 hok (by omega)
  · have e0 : nameE s.data.toList = 31 := by unfold nameE; rw [if_neg hok]
    rw [e0, if_neg (by decide), Option.bind_some, if_pos rfl, hw]
    rfl
theorem TextNames_calls (a0 : ByteArray) (a1 a2 : Int) (w : World) (hW : WOk w) (w0 : a0.size ≤ 140737488351232) (w1 : (Lit.int .u8 a1).wf = true) (w2 : (Lit.int .i64 a2).wf = true) :
    Calls Tryd.prog 6 #[.string a0, .int .u8 a1, .int .i64 a2] w fun e w' => e = .returned (.bool true) ∧ Below w.heap.size w w' := by
  have h1 : 0 ≤ a1 ∧ a1 ≤ 255 := by simpa [Lit.wf, IntKind.min, IntKind.max, IntKind.bits, IntKind.signed] using w1
  have h2 : -9223372036854775808 ≤ a2 ∧ a2 ≤ 9223372036854775807 := by simpa [Lit.wf, IntKind.min, IntKind.max, IntKind.bits, IntKind.signed] using w2
  exact chinoiserielaw01_TextNames.calls 10 a0 a1 a2 true w (names_pure a0 a1 a2 h1 h2) hW
end Go.Proofs.YtnkinkgmceokhaaDoor
