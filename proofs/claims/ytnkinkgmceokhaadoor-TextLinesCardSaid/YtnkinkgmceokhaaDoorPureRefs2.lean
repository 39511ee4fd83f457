/- What the document's answers (chapter 01) tell, as plain functions: numbers, names, joined words, digits. -/
import Derived.Test.YtnkinkgmceokhaaDoorPureRefs1
import Derived.Test.YtnkinkgmceokhaaDoorPrTextKnown2
import Derived.Test.YtnkinkgmceokhaaDoorPrTextKnown3
namespace Go.Proofs.YtnkinkgmceokhaaDoor
set_option linter.unusedVariables false
set_option linter.unusedSimpArgs false
open Go Go.RowKit Go.Proofs.YtnkinkgmceokhaaDoor.PrTextKnown Go.Proofs.YtnkinkgmceokhaaDoorW.PrintWords
/-! ### Number -/
theorem wrap64_id (x : Int) (h : -9223372036854775808 ≤ x ∧ x ≤ 9223372036854775807) : wrap64 x = x := by unfold wrap64; omega
theorem num_step (v b : Nat) (hb : 48 ≤ b ∧ b ≤ 57) : mn (wrap64 ((wrap64 (10 * ((min v 9007199254740992 : Nat) : Int))) + (((b : Int) - 48) % 256))) 9007199254740992 = ((min (10 * v + (b - 48)) 9007199254740992 : Nat) : Int) := by
  obtain ⟨m, hm, hm2⟩ : ∃ m, min v 9007199254740992 = m ∧ m ≤ 9007199254740992 := ⟨_, rfl, Nat.min_le_right _ _⟩
  rw [hm]
  have e1 : ((b : Int) - 48) % 256 = ((b - 48 : Nat) : Int) := by omega
  rw [wrap64_id (10 * (m : Int)) ⟨by omega, by omega⟩, e1, wrap64_id _ ⟨by omega, by omega⟩]
  obtain ⟨d, hd⟩ : ∃ d, b - 48 = d := ⟨_, rfl⟩
  rw [hd]
  clear e1 hd hb
  unfold mn
  rcases Nat.le_total v 9007199254740992 with h | h
  · rw [Nat.min_eq_left h] at hm
    subst hm
    rcases Nat.le_total (10 * v + d) 9007199254740992 with h2 | h2
    · rw [Nat.min_eq_left h2]
      split <;> omega
    · rw [Nat.min_eq_right h2]
      split <;> omega
  · rw [Nat.min_eq_right h] at hm
    subst hm
    rw [Nat.min_eq_right (by omega)]
    split <;> omega
theorem ref_number0 (s : ByteArray) (hn : s.data.toList.length ≤ 1000000) : ∀ (d i k : Nat), s.data.toList.length - i = d → i ≤ s.data.toList.length → d < k → (s.data.toList.take i).all dgB = true →
    chinoiserieref01_Number.l0 k s ((min (valL (s.data.toList.take i)) 9007199254740992 : Nat) : Int) (i : Int) =
      if s.data.toList.all dgB = true then (if valL s.data.toList ≤ 9007199254740991 then some ((valL s.data.toList : Int), 0) else some (0, 9)) else some (0, 4) := by
  have hz := ba_len s
  intro d
  induction d with
  | zero =>
    intro i k hd hi hk ha
    obtain ⟨k, rfl⟩ : ∃ m, k = m + 1 := ⟨k - 1, by omega⟩
    obtain rfl : i = s.data.toList.length := by omega
    rw [List.take_length] at ha ⊢
    simp only [chinoiserieref01_Number.l0]
    rw [if_neg (by omega), if_pos ha]
    by_cases hv : valL s.data.toList ≤ 9007199254740991
    · rw [if_neg (by omega), if_pos hv, Nat.min_eq_left (by omega)]
    · rw [if_pos (by omega), if_neg hv]
  | succ d ih =>
    intro i k hd hi hk ha
    obtain ⟨k, rfl⟩ : ∃ m, k = m + 1 := ⟨k - 1, by omega⟩
    have hlt : i < s.data.toList.length := by omega
    have hts := take_step hlt
    have ih' := ih (i + 1) k (by omega) (by omega) (by omega)
    rw [hts, valL_snoc] at ih'
    simp only [chinoiserieref01_Number.l0]
    rw [if_pos (by omega), if_pos (by omega), bt_nat s i hlt]
    have hmem : s.data.toList[i] ∈ s.data.toList := List.getElem_mem hlt
    cases hb : dgB s.data.toList[i] with
    | true =>
      have hall : (s.data.toList.take i ++ [s.data.toList[i]]).all dgB = true := by
        rw [List.all_append, ha, List.all_cons, hb]; rfl
      have ih2 := ih' hall
      simp only [dgB, Bool.and_eq_true, decide_eq_true_eq] at hb
      rw [if_neg (by omega), if_neg (by omega), wr1 i (by omega), ← ih2]
      rw [num_step _ _ ⟨by omega, by omega⟩]
    | false =>
      have hf : s.data.toList.all dgB = false := by
        rw [List.all_eq_false]
        exact ⟨_, hmem, by rw [hb]; simp⟩
      rw [hf]
      simp only [dgB, Bool.and_eq_false_iff, decide_eq_false_iff_not] at hb
      by_cases h : ((s.data.toList[i].toNat : Nat) : Int) < 48
      · rw [if_pos h]; rfl
      · rw [if_neg h, if_pos (by omega)]; rfl
theorem ref_number (s : ByteArray) (hn : s.data.toList.length ≤ 100000) (k : Nat) (hk : s.data.toList.length + 2 < k) : chinoiserieref01_Number.f k s = text_Number.f s := by
  have hz := ba_len s
  have htl : s.toList = s.data.toList := ByteArray.toList_eq s
  unfold chinoiserieref01_Number.f text_Number.f
  rw [if_pos (show s.size ≤ 140737488351232 by omega), htl]
  obtain ⟨k, rfl⟩ : ∃ m, k = m + 1 := ⟨k - 1, by omega⟩
  have h0 := ref_number0 s (by omega) s.data.toList.length 0 k (by omega) (by omega) (by omega) rfl
  have e0 : ((min (valL (s.data.toList.take 0)) 9007199254740992 : Nat) : Int) = 0 := rfl
  rw [e0, show ((0 : Nat) : Int) = 0 from rfl] at h0
  have hb0 := bt_nat s 0
  cases hl : s.data.toList with
  | nil =>
    rw [if_pos rfl]
    simp only [chinoiserieref01_Number.j0]
    rfl
  | cons b t =>
    rw [hl] at hz h0 hk
    rw [if_neg (by simp), if_pos (by rw [hz]; simp)]
    have hb1 : bt s 0 = (b.toNat : Int) := by
      have := hb0 (by rw [hl]; simp)
      rw [show ((0 : Nat) : Int) = 0 from rfl] at this
      rw [this]
      simp [hl]
    rw [hb1]
    have hnum : ∀ ok, numOk (b :: t) = ok → (b = 48 → t ≠ [] → ok = false) ∧ (¬ (b = 48 ∧ t ≠ []) → ok = (b :: t).all dgB) := by
      intro ok hok
      subst hok
      constructor
      · intro e1 e2
        show ((b :: t).all dgB && (b != 48 || t.isEmpty)) = false
        rw [e1]; simp [e2]
      · intro e
        show ((b :: t).all dgB && (b != 48 || t.isEmpty)) = _
        by_cases h1 : b = 48
        · have h2 : t = [] := by
            by_cases h2 : t = []
            · exact h2
            · exact absurd ⟨h1, h2⟩ e
          subst h2
          simp
        · simp [h1]
    obtain ⟨hq1, hq2⟩ := hnum _ rfl
    by_cases h48 : b = 48
    · rw [if_pos (by rw [h48]; rfl)]
      simp only [chinoiserieref01_Number.j0]
      by_cases ht : t = []
      · rw [if_neg (by rw [hz, ht]; simp), h0]
        have e := hq2 (fun h => h.2 ht)
        unfold numR numE
        rw [e]
        split
        · split <;> rfl
        · rfl
      · rw [if_pos (by
          rw [hz, decide_eq_true_eq]
          have : 0 < t.length := List.length_pos_iff.2 ht
          simp
          omega)]
        unfold numR numE
        rw [hq1 h48 ht]
        rfl
    · rw [if_neg (by
        intro e
        exact h48 (UInt8.toNat_inj.1 (by have := Int.ofNat.inj e; exact this)))]
      simp only [chinoiserieref01_Number.j0]
      rw [if_neg (by simp), h0]
      have e := hq2 (fun h => h48 h.1)
      unfold numR numE
      rw [e]
      split
      · split <;> rfl
      · rfl
/-! ### Name -/
theorem ref_name0 (s : ByteArray) (hn : s.data.toList.length ≤ 1000000) : ∀ (d i k : Nat), s.data.toList.length - i = d → i ≤ s.data.toList.length → d < k →
    chinoiserieref01_Name.l0 k s (i : Int) = if (s.data.toList.drop i).all nmB = true then some 0 else some 31 := by
  have hz := ba_len s
  intro d
  induction d with
  | zero =>
    intro i k hd hi hk
    obtain ⟨k, rfl⟩ : ∃ m, k = m + 1 := ⟨k - 1, by omega⟩
    simp only [chinoiserieref01_Name.l0]
    rw [if_neg (by omega), List.drop_of_length_le (by omega)]
    rfl
  | succ d ih =>
    intro i k hd hi hk
    obtain ⟨k, rfl⟩ : ∃ m, k = m + 1 := ⟨k - 1, by omega⟩
    have hlt : i < s.data.toList.length := by omega
    have ih2 := ih (i + 1) k (by omega) (by omega) (by omega)
    simp only [chinoiserieref01_Name.l0]
    rw [if_pos (by omega), if_pos (by omega), bt_nat s i hlt, wr1 i (by omega), ih2, List.drop_eq_getElem_cons hlt, List.all_cons]
    have hnm : nmB s.data.toList[i] = (((decide (97 ≤ s.data.toList[i].toNat) && decide (s.data.toList[i].toNat ≤ 122)) || (decide (48 ≤ s.data.toList[i].toNat) && decide (s.data.toList[i].toNat ≤ 57))) || decide (s.data.toList[i].toNat = 45)) := by
      unfold nmB lcB
      congr 1
      rw [Bool.eq_iff_iff, beq_iff_eq, decide_eq_true_eq, ← UInt8.toNat_inj]
      rfl
    rw [hnm]
    generalize s.data.toList[i].toNat = b
    generalize (s.data.toList.drop (i + 1)).all nmB = q
    by_cases h : (97 ≤ b ∧ b ≤ 122) ∨ (48 ≤ b ∧ b ≤ 57) ∨ b = 45
    · have e : (((decide (97 ≤ b) && decide (b ≤ 122)) || (decide (48 ≤ b) && decide (b ≤ 57))) || decide (b = 45)) = true := by
        simp only [Bool.or_eq_true, Bool.and_eq_true, decide_eq_true_eq]
        omega
      rw [e, Bool.true_and]
      generalize (if q = true then some (0 : Int) else some 31) = R
      repeat' split
      all_goals first | rfl | omega
    · have e : (((decide (97 ≤ b) && decide (b ≤ 122)) || (decide (48 ≤ b) && decide (b ≤ 57))) || decide (b = 45)) = false := by
        rw [← Bool.not_eq_true]
        simp only [Bool.or_eq_true, Bool.and_eq_true, decide_eq_true_eq]
        omega
      rw [e, Bool.false_and]
      have e31 : (if (false : Bool) = true then some (0 : Int) else some 31) = some 31 := rfl
      rw [e31]
      repeat' split
      all_goals first | rfl | omega
theorem ref_name (s : ByteArray) (k : Nat) (hk : 15 < k) : chinoiserieref01_Name.f k s = text_Name.f s := by
  have hz := ba_len s
  unfold chinoiserieref01_Name.f text_Name.f
  obtain ⟨k, rfl⟩ : ∃ m, k = m + 1 := ⟨k - 1, by omega⟩
  have hb0 := bt_nat s 0
  cases hl : s.data.toList with
  | nil =>
    rw [hl] at hz
    rw [if_pos (by rw [hz]; simp)]
    simp only [chinoiserieref01_Name.j0]
    rfl
  | cons b t =>
    have hz' := hz
    rw [hl] at hz
    rw [if_neg (by rw [hz]; simp; omega)]
    have hb1 : bt s 0 = (b.toNat : Int) := by
      have := hb0 (by rw [hl]; simp)
      rw [show ((0 : Nat) : Int) = 0 from rfl] at this
      rw [this]
      simp [hl]
    have hnc := name_cons b t
    unfold nameE
    rw [hnc]
    by_cases hlen : t.length < 12
    · rw [if_neg (by rw [hz]; simp; omega), if_pos (by rw [hz]; simp), hb1, decide_eq_true hlen, Bool.and_true]
      have h0 := ref_name0 s (by rw [hl]; simp; omega) s.data.toList.length 0 k (by omega) (by omega) (by rw [hl]; simp; omega)
      rw [show ((0 : Nat) : Int) = 0 from rfl, List.drop_zero, hl, List.all_cons] at h0
      simp only [chinoiserieref01_Name.j0]
      rw [h0]
      cases hb : lcB b with
      | true =>
        have hnb := lcB_nm b hb
        rw [hnb]
        simp only [lcB, Bool.and_eq_true, decide_eq_true_eq] at hb
        rw [if_neg (by omega), if_neg (by simp; omega), Bool.true_and]
        split <;> rfl
      | false =>
        simp only [lcB, Bool.and_eq_false_iff, decide_eq_false_iff_not] at hb
        rw [Bool.false_and]
        by_cases h97 : ((b.toNat : Nat) : Int) < 97
        · rw [if_pos h97]; rfl
        · rw [if_neg h97, if_pos (by rw [decide_eq_true_eq]; omega)]; rfl
    · rw [if_pos (by rw [hz]; simp; omega), decide_eq_false hlen, Bool.and_false]
      simp only [chinoiserieref01_Name.j0]
      rfl
/-! ### Digits -/
theorem lit_digit (d : Nat) (h : d < 10) : (⟨#[48, 49, 50, 51, 52, 53, 54, 55, 56, 57]⟩ : ByteArray).extract d (d + 1) = bs [UInt8.ofNat (48 + d)] := by
  have key : ∀ d : Fin 10, ((⟨#[48, 49, 50, 51, 52, 53, 54, 55, 56, 57]⟩ : ByteArray).extract d.val (d.val + 1)).data.toList = [UInt8.ofNat (48 + d.val)] := by decide
  apply (show ∀ x y : ByteArray, x.data.toList = y.data.toList → x = y from fun x y h => ByteArray.ext (Array.ext' h))
  exact key ⟨d, h⟩
theorem bs_append (x y : List UInt8) : bs x ++ bs y = bs (x ++ y) := by
  apply (show ∀ x y : ByteArray, x.data.toList = y.data.toList → x = y from fun x y h => ByteArray.ext (Array.ext' h))
  rw [ByteArray.data_append, Array.toList_append]
  rfl
theorem ref_digits0 : ∀ (k n : Nat) (acc : List UInt8), n < 10 ^ k → 1 ≤ k → n < 9007199254740992 → acc.length + k ≤ 1000000 → chinoiserieref01_Digits.l0 k (n : Int) (bs acc) = some (bs (Lib.decDigits n ++ acc), 0)
  | 0, _, _, _, h, _, _ => by omega
  | k + 1, n, acc, hn, _, hm, hl => by
    simp only [chinoiserieref01_Digits.l0]
    rw [Lib.decDigits]
    by_cases h9 : n < 10
    · have w : wrap64 ((n : Int) + 1) = ((n + 1 : Nat) : Int) := by unfold wrap64; omega
      rw [if_neg (by omega), w, if_pos (by omega), if_pos (by omega), if_pos (by omega), dif_pos h9]
      simp only [Int.toNat_natCast]
      rw [lit_digit n h9, bs_append, if_pos (by rw [bs_size, bs_size]; simp; omega)]
    · have hk1 : 1 ≤ k := by
        rcases k with _ | k
        · simp at hn; omega
        · omega
      have e1 : Int.tmod (n : Int) 10 = ((n % 10 : Nat) : Int) := by rw [Int.tmod_eq_emod_of_nonneg (by omega)]; omega
      have e2 : Int.tdiv (n : Int) 10 = ((n / 10 : Nat) : Int) := by rw [Int.tdiv_eq_ediv_of_nonneg (by omega)]; omega
      have w : wrap64 (((n % 10 : Nat) : Int) + 1) = ((n % 10 + 1 : Nat) : Int) := by unfold wrap64; omega
      have w2 : wrap64 ((n / 10 : Nat) : Int) = ((n / 10 : Nat) : Int) := by unfold wrap64; omega
      rw [if_pos (by omega), e1, e2, w, w2, if_pos (by omega), if_pos (by omega), if_pos (by omega), dif_neg h9]
      simp only [Int.toNat_natCast]
      rw [lit_digit (n % 10) (by omega), bs_append, if_pos (by rw [bs_size, bs_size]; simp; omega)]
      rw [ref_digits0 k (n / 10) _ (by rw [Nat.pow_succ] at hn; omega) hk1 (by omega) (by simp; omega)]
      simp
theorem ref_digits (n : Int) (k : Nat) (hk : 17 < k) (hk2 : k ≤ 500000) : chinoiserieref01_Digits.f k n = text_Digits.f n := by
  obtain ⟨k, rfl⟩ : ∃ m, k = m + 1 := ⟨k - 1, by omega⟩
  unfold chinoiserieref01_Digits.f text_Digits.f digR digE
  simp only [chinoiserieref01_Digits.j0]
  by_cases h0 : n < 0
  · rw [if_pos h0, if_pos trivial, if_neg (by omega), if_neg (by omega)]
    rfl
  · rw [if_neg h0]
    by_cases h1 : n > 9007199254740991
    · rw [if_pos (by rw [decide_eq_true_eq]; exact h1), if_neg (by omega), if_neg (by omega)]
      rfl
    · rw [if_neg (by rw [decide_eq_true_eq]; exact h1), if_pos (by omega), if_pos (by omega)]
      obtain ⟨m, rfl⟩ := Int.eq_ofNat_of_zero_le (Int.not_lt.1 h0)
      have hp : (10 : Nat) ^ 17 ≤ 10 ^ k := Nat.pow_le_pow_right (by omega) (by omega)
      have := ref_digits0 k m [] (by omega) (by omega) (by omega) (by simp; omega)
      rw [List.append_nil] at this
      exact this
end Go.Proofs.YtnkinkgmceokhaaDoor
