/- Plain laws of texts: joined words are cut again; lines make the text; digits and numbers. -/
import Derived.Test.YtfhmmekamommcaaGreatDoorTxtPlain
namespace Go.Proofs.YtfhmmekamommcaaGreatDoor
set_option linter.unusedVariables false
set_option linter.unusedSimpArgs false
open Go
/-! ### words -/
def wend (s : List (List UInt8) × List UInt8) : List (List UInt8) := if s.2 = [] then s.1 else s.1 ++ [s.2]
theorem wordsL_eq (l : List UInt8) : wordsL l = wend (wcs l) := rfl
theorem wB_ne (b : UInt8) (h : wB b = true) : b ≠ 32 := by
  rintro rfl
  revert h
  decide
theorem fold_word (w : List UInt8) (h : w.all wB = true) : ∀ (o : List (List UInt8)) (r : List UInt8), w.foldl wst (o, r) = (o, r ++ w) := by
  induction w with
  | nil => intro o r; simp
  | cons b w ih =>
    intro o r
    simp only [List.all_cons, Bool.and_eq_true] at h
    simp only [List.foldl_cons, wst]
    rw [if_neg (wB_ne b h.1), ih h.2]
    simp
theorem wend_space (s : List (List UInt8) × List UInt8) : wend (wst s 32) = wend s := by
  obtain ⟨o, r⟩ := s
  unfold wst wend
  simp only [if_true]
  by_cases h : r = []
  · simp [h]
  · simp [h]
theorem fold_flat (ws : List (List UInt8)) : (∀ w ∈ ws, isWordL w = true) → ∀ (o : List (List UInt8)) (r : List UInt8), r ≠ [] → wend ((Lib.joinTail [32] ws).foldl wst (o, r)) = o ++ r :: ws := by
  induction ws with
  | nil => intro _ o r hr; simp [Lib.joinTail, wend, hr]
  | cons w ws ih =>
    intro h o r hr
    have hw := h w (by simp)
    unfold isWordL at hw
    simp only [Bool.and_eq_true, Bool.not_eq_true'] at hw
    have e : Lib.joinTail [32] (w :: ws) = 32 :: (w ++ Lib.joinTail [32] ws) := by simp [Lib.joinTail]
    rw [e, List.foldl_cons]
    have e2 : wst (o, r) 32 = (o ++ [r], []) := by simp [wst, hr]
    rw [e2, List.foldl_append, fold_word w hw.2, List.nil_append, ih (fun x hx => h x (by simp [hx])) _ _ (by rintro rfl; simp at hw)]
    simp
theorem inter_cons (w : List UInt8) (ws : List (List UInt8)) : [32].intercalate (w :: ws) = w ++ Lib.joinTail [32] ws := by
  induction ws generalizing w with
  | nil => simp [List.intercalate, Lib.joinTail]
  | cons x ws ih =>
    have e : [32].intercalate (w :: x :: ws) = w ++ [32] ++ [32].intercalate (x :: ws) := by simp [List.intercalate]
    rw [e, ih]
    simp [Lib.joinTail]
theorem fold_join (ws : List (List UInt8)) (h : ∀ w ∈ ws, isWordL w = true) : wend (([32].intercalate ws).foldl wst ([], [])) = ws := by
  cases ws with
  | nil => rfl
  | cons w ws =>
    have hw := h w (by simp)
    unfold isWordL at hw
    simp only [Bool.and_eq_true, Bool.not_eq_true'] at hw
    rw [inter_cons, List.foldl_append, fold_word w hw.2, List.nil_append, fold_flat ws (fun x hx => h x (by simp [hx])) _ _ (by rintro rfl; simp at hw)]
    simp
theorem okW_word (w : List UInt8) (h : isWordL w = true) : okW w = true := by
  unfold isWordL at h
  simp only [Bool.and_eq_true, List.all_eq_true] at h
  unfold okW
  rw [List.all_eq_true]
  intro b hb
  simp [h.2 b hb]
theorem okW_join (ws : List (List UInt8)) (h : ∀ w ∈ ws, isWordL w = true) : okW ([32].intercalate ws) = true := by
  have tail : ∀ ws : List (List UInt8), (∀ w ∈ ws, isWordL w = true) → okW (Lib.joinTail [32] ws) = true := by
    intro ws
    induction ws with
    | nil => intro _; rfl
    | cons w ws ih =>
      intro h
      have e : Lib.joinTail [32] (w :: ws) = 32 :: (w ++ Lib.joinTail [32] ws) := by simp [Lib.joinTail]
      have h1 := okW_word w (h w (by simp))
      have h2 := ih fun x hx => h x (by simp [hx])
      unfold okW at *
      rw [e]
      simp only [List.all_cons, List.all_append, Bool.and_eq_true]
      exact ⟨by simp, h1, h2⟩
  cases ws with
  | nil => rfl
  | cons w ws =>
    have h1 := okW_word w (h w (by simp))
    have h2 := tail ws fun x hx => h x (by simp [hx])
    rw [inter_cons]
    unfold okW at *
    rw [List.all_append, h1, h2]
    rfl
/-- what is joined is cut into the same words -/
theorem words_join (ws : List (List UInt8)) (h : ∀ w ∈ ws, isWordL w = true) : wordsR ([32].intercalate ws) = ws ∧ wordsE ([32].intercalate ws) = 0 := by
  unfold wordsR wordsE
  rw [okW_join ws h]
  exact ⟨fold_join ws h, rfl⟩
/-- spaces at the ends are nothing -/
theorem words_spaced (ws : List (List UInt8)) (h : ∀ w ∈ ws, isWordL w = true) : wordsR ([32, 32] ++ [32].intercalate ws ++ [32]) = ws ∧ wordsE ([32, 32] ++ [32].intercalate ws ++ [32]) = 0 := by
  have hok : okW ([32, 32] ++ [32].intercalate ws ++ [32]) = true := by
    have := okW_join ws h
    unfold okW at *
    rw [List.all_append, List.all_append, this]
    rfl
  unfold wordsR wordsE
  rw [hok]
  refine ⟨?_, rfl⟩
  simp only [if_true]
  rw [wordsL_eq]
  unfold wcs
  rw [List.foldl_append, List.foldl_append]
  show wend (wst _ 32) = ws
  rw [wend_space]
  exact fold_join ws h
/-- the words of a line are words -/
theorem words_words (l : List UInt8) (h : okW l = true) : ∀ w ∈ wordsL l, isWordL w = true := by
  have key : ∀ (l : List UInt8), okW l = true → ∀ (o : List (List UInt8)) (r : List UInt8), (∀ w ∈ o, isWordL w = true) → r.all wB = true → (∀ w ∈ (l.foldl wst (o, r)).1, isWordL w = true) ∧ (l.foldl wst (o, r)).2.all wB = true := by
    intro l
    induction l with
    | nil => intro _ o r h1 h2; exact ⟨h1, h2⟩
    | cons b l ih =>
      intro h o r h1 h2
      unfold okW at h
      simp only [List.all_cons, Bool.and_eq_true, Bool.or_eq_true, beq_iff_eq] at h
      simp only [List.foldl_cons, wst]
      by_cases hb : b = 32
      · rw [if_pos hb]
        by_cases hr : r = []
        · rw [if_pos hr]; exact ih h.2 o r h1 h2
        · rw [if_neg hr]
          refine ih h.2 _ _ (fun w hw => ?_) rfl
          rcases List.mem_append.1 hw with hw | hw
          · exact h1 w hw
          · obtain rfl : w = r := by simpa using hw
            unfold isWordL
            rw [h2]
            simpa using hr
      · rw [if_neg hb]
        refine ih h.2 _ _ h1 ?_
        rw [List.all_append, h2]
        simpa using h.1.resolve_left hb
  obtain ⟨h1, h2⟩ := key l h [] [] (by simp) rfl
  intro w hw
  rw [wordsL_eq] at hw
  unfold wend wcs at hw
  split at hw
  · exact h1 w hw
  · rename_i hr
    rcases List.mem_append.1 hw with hw | hw
    · exact h1 w hw
    · obtain rfl : w = _ := by simpa using hw
      unfold isWordL
      rw [h2]
      simpa using hr
theorem words_one (w : List UInt8) (h : isWordL w = true) : wordsR w = [w] ∧ wordsE w = 0 := by
  have := words_join [w] (by simpa using h)
  simpa [List.intercalate] using this
theorem wordsR_words (l : List UInt8) : ∀ w ∈ wordsR l, isWordL w = true := by
  unfold wordsR
  split
  · rename_i h; exact words_words l h
  · intro w hw; cases hw
theorem wordsE_cases (l : List UInt8) : wordsE l = 0 ∨ (wordsE l = 4 ∧ wordsR l = []) := by
  unfold wordsE wordsR
  split
  · exact .inl rfl
  · exact .inr ⟨rfl, rfl⟩
/-! ### lines -/
def catL (L : List (List UInt8)) : List UInt8 := (L.map (· ++ [10])).flatten
theorem catL_snoc (L : List (List UInt8)) (x : List UInt8) : catL (L ++ [x]) = catL L ++ (x ++ [10]) := by simp [catL]
theorem pcs_cat (l : List UInt8) : ∀ (o : List (List UInt8)) (r : List UInt8), catL (l.foldl (stp 10) (o, r)).1 ++ (l.foldl (stp 10) (o, r)).2 = catL o ++ r ++ l := by
  induction l with
  | nil => intro o r; simp
  | cons b l ih =>
    intro o r
    simp only [List.foldl_cons, stp]
    by_cases h : b = 10
    · rw [if_pos h, ih, catL_snoc, h]; simp
    · rw [if_neg h, ih]; simp
theorem pcs_no (c : UInt8) (l : List UInt8) : ∀ (o : List (List UInt8)) (r : List UInt8), (∀ x ∈ o, c ∉ x) → c ∉ r → (∀ x ∈ (l.foldl (stp c) (o, r)).1, c ∉ x) ∧ c ∉ (l.foldl (stp c) (o, r)).2 := by
  induction l with
  | nil => intro o r h1 h2; exact ⟨h1, h2⟩
  | cons b l ih =>
    intro o r h1 h2
    simp only [List.foldl_cons, stp]
    by_cases h : b = c
    · rw [if_pos h]
      refine ih _ _ (fun x hx => ?_) (by simp)
      rcases List.mem_append.1 hx with hx | hx
      · exact h1 x hx
      · obtain rfl : x = r := by simpa using hx
        exact h2
    · rw [if_neg h]
      refine ih _ _ h1 (fun hm => ?_)
      rcases List.mem_append.1 hm with hm | hm
      · exact h2 hm
      · have hcb : c = b := by simpa using hm
        exact h hcb.symm
theorem lines_no (l : List UInt8) : ∀ x ∈ linesL l, 10 ∉ x := by
  obtain ⟨h1, h2⟩ := pcs_no 10 l [] [] (by simp) (by simp)
  intro x hx
  unfold linesL at hx
  split at hx
  · exact h1 x hx
  · rcases List.mem_append.1 hx with hx | hx
    · exact h1 x hx
    · obtain rfl : x = _ := by simpa using hx
      exact h2
/-- lines, each with a line feed behind it, are the text -/
theorem lines_cat (l : List UInt8) : catL (linesL l) = l ∨ (catL (linesL l) = l ++ [10] ∧ ∀ b, l.getLast? = some b → b ≠ 10) := by
  have h := pcs_cat l [] []
  obtain ⟨_, h2⟩ := pcs_no 10 l [] [] (by simp) (by simp)
  have h0 : catL (pcs 10 l).1 ++ (pcs 10 l).2 = l := by
    have e : catL [] ++ [] ++ l = l := rfl
    rw [e] at h
    exact h
  change 10 ∉ (pcs 10 l).2 at h2
  unfold linesL
  by_cases hr : (pcs 10 l).2 = []
  · rw [if_pos hr]
    rw [hr] at h0
    left
    simpa using h0
  · rw [if_neg hr, catL_snoc]
    right
    refine ⟨by rw [← List.append_assoc, h0], fun b hb e => ?_⟩
    rw [← h0, List.getLast?_append] at hb
    cases hl : (pcs 10 l).2.getLast? with
    | none => exact hr (by simpa using hl)
    | some x =>
      rw [hl] at hb
      have : x = b := by simpa using hb
      subst this
      subst e
      exact h2 (List.mem_of_getLast? hl)
/-! ### numbers -/
theorem valL_cons (b : UInt8) (l : List UInt8) : valL (b :: l) = (b.toNat - 48) * 10 ^ l.length + valL l := by
  have h := val_from l (10 * 0 + (b.toNat - 48))
  have e : valL (b :: l) = l.foldl (fun n b => 10 * n + (b.toNat - 48)) (10 * 0 + (b.toNat - 48)) := rfl
  rw [e, h]
  simp
theorem valL_lt (l : List UInt8) (h : l.all dgB = true) : valL l < 10 ^ l.length := by
  induction l with
  | nil => simp [valL]
  | cons b l ih =>
    simp only [List.all_cons, Bool.and_eq_true, dgB, decide_eq_true_eq] at h
    have := ih h.2
    rw [valL_cons, List.length_cons, Nat.pow_succ]
    have h9 : b.toNat - 48 ≤ 9 := by omega
    have := Nat.mul_le_mul_right (10 ^ l.length) h9
    omega
theorem dec_val (u : Nat) : valL (Lib.decDigits u) = u ∧ numOk (Lib.decDigits u) = true := by
  induction u using Nat.strongRecOn with
  | _ u ih =>
    rw [Lib.decDigits]
    by_cases h : u < 10
    · rw [dif_pos h]
      have e : (UInt8.ofNat (48 + u)).toNat = 48 + u := by simp; omega
      refine ⟨?_, ?_⟩
      · show 10 * 0 + ((UInt8.ofNat (48 + u)).toNat - 48) = u
        rw [e]; omega
      · unfold numOk
        simp only [List.all_cons, List.all_nil, Bool.and_true, dgB, e, List.isEmpty_nil, Bool.or_true]
        simp
        omega
    · rw [dif_neg h]
      obtain ⟨h1, h2⟩ := ih (u / 10) (by omega)
      have e : (UInt8.ofNat (48 + u % 10)).toNat = 48 + u % 10 := by simp; omega
      refine ⟨?_, ?_⟩
      · rw [valL_snoc, h1, e]; omega
      · cases hd : Lib.decDigits (u / 10) with
        | nil => rw [hd] at h2; cases h2
        | cons b l =>
          rw [hd] at h1 h2
          unfold numOk at h2 ⊢
          simp only [Bool.and_eq_true, Bool.or_eq_true] at h2
          obtain ⟨h3, h4⟩ := h2
          have hb : (b != 48) = true := by
            rcases h4 with h4 | h4
            · exact h4
            · have : l = [] := by simpa using h4
              subst this
              rw [bne_iff_ne]
              rintro rfl
              have : u / 10 = 0 := h1.symm
              omega
          rw [List.cons_append]
          simp only [hb, Bool.true_or, Bool.and_true]
          rw [← List.cons_append, List.all_append, h3]
          simp only [List.all_cons, List.all_nil, Bool.and_true, Bool.true_and, dgB, e]
          simp
          omega
theorem dec_all (u : Nat) : (Lib.decDigits u).all dgB = true := by
  have h := (dec_val u).2
  cases hd : Lib.decDigits u with
  | nil => rfl
  | cons b l =>
    rw [hd] at h
    unfold numOk at h
    simp only [Bool.and_eq_true] at h
    exact h.1
/-- as many digits: the order of texts is that of numbers -/
theorem lt_digits (l : List UInt8) : ∀ m : List UInt8, l.length = m.length → l.all dgB = true → m.all dgB = true → (l < m ↔ valL l < valL m) := by
  induction l with
  | nil =>
    intro m hm _ _
    obtain rfl : m = [] := List.length_eq_zero_iff.1 (by simpa using hm.symm)
    simp
  | cons a l ih =>
    intro m hm hl hmm
    cases m with
    | nil => simp at hm
    | cons b m =>
      have hlen : l.length = m.length := by simpa using hm
      simp only [List.all_cons, Bool.and_eq_true] at hl hmm
      have ha := hl.1
      have hb := hmm.1
      simp only [dgB, Bool.and_eq_true, decide_eq_true_eq] at ha hb
      have k1 := valL_lt l hl.2
      have k2 := valL_lt m hmm.2
      rw [← hlen] at k2
      rw [List.cons_lt_cons_iff, ih m hlen hl.2 hmm.2, valL_cons, valL_cons, ← hlen]
      generalize 10 ^ l.length = t at *
      have eab : (a < b) ↔ a.toNat < b.toNat := UInt8.lt_iff_toNat_lt
      have eab2 : (a = b) ↔ a.toNat = b.toNat := UInt8.toNat_inj.symm
      rw [eab, eab2]
      obtain ⟨x, hx⟩ : ∃ x, a.toNat = 48 + x := ⟨a.toNat - 48, by omega⟩
      obtain ⟨y, hy⟩ : ∃ y, b.toNat = 48 + y := ⟨b.toNat - 48, by omega⟩
      rw [hx, hy]
      simp only [Nat.add_sub_cancel_left]
      rcases Nat.lt_trichotomy x y with h | h | h
      · have := Nat.mul_le_mul_right t (show x + 1 ≤ y from h)
        rw [Nat.add_mul] at this
        constructor
        · intro _; omega
        · intro _; left; omega
      · subst h
        constructor
        · rintro (h | ⟨_, h⟩)
          · omega
          · omega
        · intro h; right; exact ⟨rfl, by omega⟩
      · have := Nat.mul_le_mul_right t (show y + 1 ≤ x from h)
        rw [Nat.add_mul] at this
        constructor
        · rintro (h | ⟨h, _⟩) <;> omega
        · intro _; omega
/-- fewer digits: a smaller number -/
theorem len_digits (a b : Nat) (h : (Lib.decDigits a).length < (Lib.decDigits b).length) : a < b := by
  have h1 := valL_lt _ (dec_all a)
  rw [(dec_val a).1] at h1
  obtain ⟨h2, h3⟩ := dec_val b
  cases hd : Lib.decDigits b with
  | nil => rw [hd] at h; simp at h
  | cons c l =>
    rw [hd] at h h2 h3
    have hl : l ≠ [] := by
      rintro rfl
      have : (Lib.decDigits a).length = 0 := by simpa using h
      have h4 := (dec_val a).2
      rw [List.length_eq_zero_iff.1 this] at h4
      cases h4
    unfold numOk at h3
    simp only [Bool.and_eq_true, Bool.or_eq_true, bne_iff_ne, List.isEmpty_iff] at h3
    have hc : c ≠ 48 := h3.2.resolve_right hl
    have h5 := h3.1
    simp only [List.all_cons, Bool.and_eq_true, dgB, decide_eq_true_eq] at h5
    have hc2 : c.toNat ≠ 48 := fun e => hc (UInt8.toNat_inj.1 e)
    rw [valL_cons] at h2
    have h6 : 1 ≤ c.toNat - 48 := by omega
    have h7 := Nat.mul_le_mul_right (10 ^ l.length) h6
    have h8 : 10 ^ (Lib.decDigits a).length ≤ 10 ^ l.length := Nat.pow_le_pow_right (by omega) (by simp at h; omega)
    omega
theorem less_digits (a b : Nat) : ((Lib.decDigits a).length < (Lib.decDigits b).length ∨ ((Lib.decDigits a).length = (Lib.decDigits b).length ∧ Lib.decDigits a < Lib.decDigits b)) ↔ a < b := by
  constructor
  · rintro (h | ⟨h1, h2⟩)
    · exact len_digits a b h
    · rw [lt_digits _ _ h1 (dec_all a) (dec_all b), (dec_val a).1, (dec_val b).1] at h2
      exact h2
  · intro h
    rcases Nat.lt_trichotomy (Lib.decDigits a).length (Lib.decDigits b).length with h1 | h1 | h1
    · exact .inl h1
    · right
      refine ⟨h1, ?_⟩
      rw [lt_digits _ _ h1 (dec_all a) (dec_all b), (dec_val a).1, (dec_val b).1]
      exact h
    · have := len_digits b a h1
      omega
theorem eq_digits (a b : Nat) : Lib.decDigits a = Lib.decDigits b ↔ a = b := by
  constructor
  · intro h
    have := (dec_val a).1
    rw [h, (dec_val b).1] at this
    exact this.symm
  · rintro rfl; rfl
end Go.Proofs.YtfhmmekamommcaaGreatDoor
