/- What the document's answers (chapter 01) tell, as plain functions. -/
import Derived.Test.YtnkinkgmceokhaaDoorPrTextKnown1
import Derived.Test.YtnkinkgmceokhaaDoorTxtLaws
namespace Go.Proofs.YtnkinkgmceokhaaDoor
set_option linter.unusedVariables false
set_option linter.unusedSimpArgs false
open Go Go.RowKit Go.Proofs.YtnkinkgmceokhaaDoor.PrTextKnown Go.Proofs.YtnkinkgmceokhaaDoorW.PrintWords
theorem wr1 (i : Nat) (h : i ≤ 1000000000000) : wrap64 ((i : Int) + 1) = ((i + 1 : Nat) : Int) := by unfold wrap64; omega
theorem ba_len (s : ByteArray) : s.size = s.data.toList.length := by rw [Array.length_toList]; rfl
theorem bt_nat (s : ByteArray) (i : Nat) (h : i < s.data.toList.length) : bt s (i : Int) = ((s.data.toList[i]'h).toNat : Int) := by
  unfold bt
  have h' : (i : Int).toNat < s.size := by rw [ba_len]; simpa using h
  rw [dif_pos h']
  rfl
theorem ext_bs (s : ByteArray) (f i : Nat) (hf : f ≤ i) (hi : i ≤ s.data.toList.length) : s.extract f i = bs ((s.data.toList.take i).drop f) := by
  have e := Lib.extract_data s f i
  apply (show ∀ x y : ByteArray, x.data.toList = y.data.toList → x = y from fun x y h => ByteArray.ext (Array.ext' h))
  rw [list_bs, e, List.take_drop, show f + (i - f) = i by omega]
theorem take_step {l : List UInt8} {i : Nat} (h : i < l.length) : l.take (i + 1) = l.take i ++ [l[i]] := by
  rw [List.take_add_one, List.getElem?_eq_getElem h]; rfl
/-! ### Lines -/
theorem pcs_len (c : UInt8) : ∀ (l : List UInt8) (o : List (List UInt8)) (r : List UInt8), (l.foldl (stp c) (o, r)).1.length ≤ o.length + l.length := by
  intro l
  induction l with
  | nil => intro o r; simp
  | cons b l ih =>
    intro o r
    simp only [List.foldl_cons, stp, List.length_cons]
    by_cases hb : b = c
    · rw [if_pos hb]
      have := ih (o ++ [r]) []
      simp at this
      omega
    · rw [if_neg hb]
      have := ih o (r ++ [b])
      omega
theorem pcs_snoc (c : UInt8) (l : List UInt8) (b : UInt8) : pcs c (l ++ [b]) = stp c (pcs c l) b := by
  unfold pcs
  rw [List.foldl_append]
  rfl
theorem ref_lines0 (s : ByteArray) (hn : s.data.toList.length ≤ 1000000) : ∀ (d i k : Nat) (o : List (List UInt8)) (f : Nat), s.data.toList.length - i = d → i ≤ s.data.toList.length → f ≤ i → d < k →
    pcs 10 (s.data.toList.take i) = (o, (s.data.toList.take i).drop f) → chinoiserieref01_Lines.l0 k s (o.map bs) (f : Int) (i : Int) = some ((linesL s.data.toList).map bs, 0) := by
  have hz := ba_len s
  intro d
  induction d with
  | zero =>
    intro i k o f hd hi hf hk hp
    obtain ⟨k, rfl⟩ : ∃ m, k = m + 1 := ⟨k - 1, by omega⟩
    have hol := pcs_len 10 (s.data.toList.take i) [] []
    have hp' : List.foldl (stp 10) ([], []) (s.data.toList.take i) = (o, (s.data.toList.take i).drop f) := hp
    rw [hp'] at hol
    simp at hol
    obtain rfl : i = s.data.toList.length := by omega
    rw [List.take_length] at hp
    simp only [chinoiserieref01_Lines.l0]
    rw [if_neg (by omega)]
    by_cases h : f < s.data.toList.length
    · rw [if_pos (by omega), if_pos (by omega), if_pos (by omega), if_pos (by simp; omega)]
      have e : s.extract f s.size = bs (s.data.toList.drop f) := by rw [hz, ext_bs s f _ (by omega) (Nat.le_refl _), List.take_length]
      simp only [Int.toNat_natCast]
      rw [e]
      have hne : s.data.toList.drop f ≠ [] := by
        intro e
        have := congrArg List.length e
        simp at this
        omega
      unfold linesL
      rw [hp]
      simp only
      rw [if_neg hne]
      simp
    · rw [if_neg (by omega)]
      unfold linesL
      rw [hp, List.drop_of_length_le (by omega)]
      simp
  | succ d ih =>
    intro i k o f hd hi hf hk hp
    obtain ⟨k, rfl⟩ : ∃ m, k = m + 1 := ⟨k - 1, by omega⟩
    have hol := pcs_len 10 (s.data.toList.take i) [] []
    have hp' : List.foldl (stp 10) ([], []) (s.data.toList.take i) = (o, (s.data.toList.take i).drop f) := hp
    rw [hp'] at hol
    simp at hol
    have hlt : i < s.data.toList.length := by omega
    have hts := take_step hlt
    have hlen : (s.data.toList.take i).length = i := by rw [List.length_take]; omega
    simp only [chinoiserieref01_Lines.l0]
    rw [if_pos (by omega), if_pos (by omega), bt_nat s i hlt, wr1 i (by omega)]
    by_cases hb : s.data.toList[i] = 10
    · rw [if_pos (by rw [hb]; rfl), if_pos (by omega), if_pos (by omega), if_pos (by omega), if_pos (by simp; omega)]
      simp only [Int.toNat_natCast]
      rw [ext_bs s f i hf (by omega)]
      have e : o.map bs ++ [bs ((s.data.toList.take i).drop f)] = (o ++ [(s.data.toList.take i).drop f]).map bs := by simp
      rw [e]
      refine ih (i + 1) k _ (i + 1) (by omega) (by omega) (by omega) (by omega) ?_
      rw [hts, pcs_snoc, hp, hb]
      have e2 : (s.data.toList.take i ++ [10]).drop (i + 1) = [] := List.drop_of_length_le (by rw [List.length_append, hlen]; simp)
      unfold stp
      rw [if_pos rfl, e2]
    · rw [if_neg (by
        intro e
        exact hb (UInt8.toNat_inj.1 (by have := Int.ofNat.inj e; exact this)))]
      refine ih (i + 1) k o f (by omega) (by omega) (by omega) (by omega) ?_
      rw [hts, pcs_snoc, hp, List.drop_append_of_le_length (by omega)]
      unfold stp
      rw [if_neg hb]
theorem ref_lines (s : ByteArray) (hn : s.data.toList.length ≤ 65536) (k : Nat) (hk : s.data.toList.length < k) : chinoiserieref01_Lines.f k s = text_Lines.f s := by
  have hz := ba_len s
  unfold chinoiserieref01_Lines.f text_Lines.f
  rw [if_neg (by omega), if_neg (by omega)]
  exact ref_lines0 s (by omega) s.data.toList.length 0 k [] 0 (by omega) (by omega) (by omega) hk rfl
/-! ### IsWord, Words -/
theorem ref_isword0 (s : ByteArray) (hn : s.data.toList.length ≤ 1000000) : ∀ (d i k : Nat), s.data.toList.length - i = d → i ≤ s.data.toList.length → d < k →
    chinoiserieref01_IsWord.l0 k s (i : Int) = some ((s.data.toList.drop i).all wB && decide (0 < s.data.toList.length)) := by
  have hz := ba_len s
  intro d
  induction d with
  | zero =>
    intro i k hd hi hk
    obtain ⟨k, rfl⟩ : ∃ m, k = m + 1 := ⟨k - 1, by omega⟩
    simp only [chinoiserieref01_IsWord.l0]
    rw [if_neg (by omega), List.drop_of_length_le (by omega)]
    simp only [List.all_nil, Bool.true_and, Option.some.injEq]
    rw [hz]
    simp
  | succ d ih =>
    intro i k hd hi hk
    obtain ⟨k, rfl⟩ : ∃ m, k = m + 1 := ⟨k - 1, by omega⟩
    have hlt : i < s.data.toList.length := by omega
    simp only [chinoiserieref01_IsWord.l0]
    rw [if_pos (by omega), if_pos (by omega), bt_nat s i hlt, wr1 i (by omega), List.drop_eq_getElem_cons hlt, List.all_cons]
    cases hb : wB s.data.toList[i] with
    | true =>
      simp only [wB, Bool.and_eq_true, decide_eq_true_eq] at hb
      rw [if_neg (by omega), if_neg (by omega), ih (i + 1) k (by omega) (by omega) (by omega), Bool.true_and]
    | false =>
      simp only [wB, Bool.and_eq_false_iff, decide_eq_false_iff_not] at hb
      rw [Bool.false_and, Bool.false_and]
      by_cases h : ((s.data.toList[i].toNat : Nat) : Int) < 33
      · rw [if_pos h]
      · rw [if_neg h, if_pos (by omega)]
theorem ref_isword (s : ByteArray) (hn : s.data.toList.length ≤ 1000000) (k : Nat) (hk : s.data.toList.length < k) : chinoiserieref01_IsWord.f k s = some (isWordL s.data.toList) := by
  unfold chinoiserieref01_IsWord.f
  have := ref_isword0 s hn s.data.toList.length 0 k (by omega) (by omega) hk
  rw [show ((0 : Nat) : Int) = 0 from rfl] at this
  rw [this, List.drop_zero]
  unfold isWordL
  rw [Bool.and_comm]
  congr 2
  cases s.data.toList <;> simp
structure WInv (l : List UInt8) (i f : Nat) (o : List (List UInt8)) : Prop where
  hf : f ≤ i
  w : wcs (l.take f) = (o, [])
  ok : okW (l.take f) = true
  no : (32 : UInt8) ∉ (l.take i).drop f
theorem fold_nospace (w : List UInt8) (h : (32 : UInt8) ∉ w) : ∀ (o : List (List UInt8)) (r : List UInt8), w.foldl wst (o, r) = (o, r ++ w) := by
  induction w with
  | nil => intro o r; simp
  | cons b w ih =>
    intro o r
    simp only [List.foldl_cons, wst]
    rw [if_neg (fun e => h (by simp [e])), ih (fun hm => h (by simp [hm]))]
    simp
theorem WInv.len {l : List UInt8} {i f : Nat} {o : List (List UInt8)} (h : WInv l i f o) : o.length ≤ f := by
  have key : ∀ (l : List UInt8) (o : List (List UInt8)) (r : List UInt8), (l.foldl wst (o, r)).1.length ≤ o.length + l.length := by
    intro l
    induction l with
    | nil => intro o r; simp
    | cons b l ih =>
      intro o r
      simp only [List.foldl_cons, wst, List.length_cons]
      by_cases hb : b = 32
      · rw [if_pos hb]
        by_cases hr : r = []
        · rw [if_pos hr]; have := ih o r; omega
        · rw [if_neg hr]; have := ih (o ++ [r]) []; simp at this; omega
      · rw [if_neg hb]; have := ih o (r ++ [b]); omega
  have := key (l.take f) [] []
  have e : List.foldl wst ([], []) (l.take f) = (o, []) := h.w
  rw [e] at this
  simp at this
  omega
theorem take_parts (l : List UInt8) (f i : Nat) (h : f ≤ i) : l.take i = l.take f ++ (l.take i).drop f := by
  have := List.take_append_drop f (l.take i)
  rw [List.take_take, Nat.min_eq_left h] at this
  exact this.symm
theorem WInv.wcs_at {l : List UInt8} {i f : Nat} {o : List (List UInt8)} (h : WInv l i f o) : wcs (l.take i) = (o, (l.take i).drop f) := by
  have e : List.foldl wst ([], []) (l.take f) = (o, []) := h.w
  conv => lhs; rw [take_parts l f i h.hf]
  unfold wcs
  rw [List.foldl_append, e, fold_nospace _ h.no]
  simp
theorem ref_words0 (s : ByteArray) (hn : s.data.toList.length ≤ 100000) : ∀ (d i k : Nat) (o : List (List UInt8)) (f : Nat), s.data.toList.length - i = d → i ≤ s.data.toList.length → 2 * d + s.data.toList.length + 10 < k →
    WInv s.data.toList i f o → chinoiserieref01_Words.l0 k s (o.map bs) (f : Int) (i : Int) = some ((wordsR s.data.toList).map bs, wordsE s.data.toList) := by
  have hz := ba_len s
  -- a word's end
  have wend : ∀ (i k : Nat) (o : List (List UInt8)) (f : Nat), i ≤ s.data.toList.length → s.data.toList.length + 5 < k → WInv s.data.toList i f o → (i < s.data.toList.length → s.data.toList[i]? = some 32) →
      ∀ R, (∀ (o' : List (List UInt8)) , (i < s.data.toList.length → WInv s.data.toList (i + 1) (i + 1) o') → (i = s.data.toList.length → wordsR s.data.toList = o' ∧ wordsE s.data.toList = 0) → chinoiserieref01_Words.l0 k s (o'.map bs) ((i + 1 : Nat) : Int) ((i + 1 : Nat) : Int) = R) →
      R = some ((wordsR s.data.toList).map bs, wordsE s.data.toList) → chinoiserieref01_Words.j1 (k + 1) s (o.map bs) (f : Int) (i : Int) false = some ((wordsR s.data.toList).map bs, wordsE s.data.toList) := by
    intro i k o f hi hk hI hsp R hgo hR
    have hol := hI.len
    have hff := hI.hf
    simp only [chinoiserieref01_Words.j1]
    rw [if_neg (by simp), wr1 i (by omega)]
    have htake : i < s.data.toList.length → s.data.toList.take (i + 1) = s.data.toList.take i ++ [32] := fun h => by
      have := hsp h
      rw [List.take_add_one, this]; rfl
    by_cases hlt : f < i
    · rw [if_pos (by omega), if_pos (by omega), if_pos (by omega), if_pos (by omega)]
      simp only [Int.toNat_natCast]
      rw [ext_bs s f i (by omega) hi]
      have hwl : ((s.data.toList.take i).drop f).length = i - f := by rw [List.length_drop, List.length_take]; omega
      have hwne : (s.data.toList.take i).drop f ≠ [] := fun e => by
        have := congrArg List.length e
        rw [hwl] at this
        simp at this
        omega
      rw [ref_isword _ (by rw [list_bs]; omega) k (by rw [list_bs]; omega), list_bs]
      simp only [Option.bind_some]
      have hat := hI.wcs_at
      cases hw : isWordL ((s.data.toList.take i).drop f) with
      | true =>
        rw [if_pos rfl, if_pos (by simp; omega)]
        have e : o.map bs ++ [bs ((s.data.toList.take i).drop f)] = (o ++ [(s.data.toList.take i).drop f]).map bs := by simp
        rw [e, ← hR]
        have hall : ((s.data.toList.take i).drop f).all wB = true := by
          unfold isWordL at hw
          simp only [Bool.and_eq_true] at hw
          exact hw.2
        have hokI : okW (s.data.toList.take i) = true := by
          rw [take_parts _ f i hff]
          have h1 := hI.ok
          unfold okW at *
          rw [List.all_append, h1, Bool.true_and, List.all_eq_true]
          rw [List.all_eq_true] at hall
          intro b hb
          simp [hall b hb]
        refine hgo _ (fun h => ⟨Nat.le_refl _, ?_, ?_, ?_⟩) (fun h => ?_)
        · rw [htake h]
          unfold wcs at *
          rw [List.foldl_append, hat]
          simp only [List.foldl_cons, List.foldl_nil, wst, if_true]
          rw [if_neg hwne]
        · rw [htake h]
          unfold okW at *
          rw [List.all_append, hokI]
          rfl
        · rw [List.drop_of_length_le (by simp; omega)]
          simp
        · subst h
          rw [List.take_length] at hat hokI hwne
          unfold wordsR wordsE
          rw [hokI]
          refine ⟨?_, rfl⟩
          simp only [if_true]
          rw [List.take_length]
          unfold wordsL
          rw [hat]
          simp only
          rw [if_neg hwne]
      | false =>
        rw [if_neg (by simp)]
        have hbad : okW s.data.toList = false := by
          unfold isWordL at hw
          rw [Bool.and_eq_false_iff] at hw
          rcases hw with hw | hw
          · exact absurd (by simpa using hw) hwne
          · rw [List.all_eq_false] at hw
            obtain ⟨b, hb, hb2⟩ := hw
            unfold okW
            rw [List.all_eq_false]
            refine ⟨b, List.mem_of_mem_take (List.mem_of_mem_drop hb), ?_⟩
            have h32 : b ≠ 32 := fun e => hI.no (by rw [← e]; exact hb)
            simp [h32, hb2]
        unfold wordsR wordsE
        rw [hbad]
        rfl
    · obtain rfl : f = i := by omega
      rw [if_neg (by omega), ← hR]
      refine hgo o (fun h => ⟨Nat.le_refl _, ?_, ?_, ?_⟩) (fun h => ?_)
      · rw [htake h]
        have := hI.w
        unfold wcs at *
        rw [List.foldl_append, this]
        rfl
      · rw [htake h]
        have := hI.ok
        unfold okW at *
        rw [List.all_append, this]
        rfl
      · rw [List.drop_of_length_le (by simp; omega)]
        simp
      · subst h
        have h1 := hI.w
        have h2 := hI.ok
        rw [List.take_length] at h1 h2
        unfold wordsR wordsE
        rw [h2]
        refine ⟨?_, rfl⟩
        simp only [if_true]
        unfold wordsL
        rw [h1]
        rfl
  intro d
  induction d with
  | zero =>
    intro i k o f hd hi hk hI
    obtain ⟨k, rfl⟩ : ∃ m, k = m + 1 + 1 := ⟨k - 2, by omega⟩
    obtain rfl : i = s.data.toList.length := by omega
    simp only [chinoiserieref01_Words.l0]
    rw [if_pos (by omega), if_neg (by omega)]
    refine wend _ k o f (Nat.le_refl _) (by omega) hI (fun h => absurd h (Nat.lt_irrefl _)) _ (fun o' _ h2 => ?_) rfl
    obtain ⟨k, rfl⟩ : ∃ m, k = m + 1 := ⟨k - 1, by omega⟩
    obtain ⟨e1, e2⟩ := h2 rfl
    simp only [chinoiserieref01_Words.l0]
    rw [if_neg (by omega), e1, e2]
  | succ d ih =>
    intro i k o f hd hi hk hI
    obtain ⟨k, rfl⟩ : ∃ m, k = m + 1 + 1 := ⟨k - 2, by omega⟩
    have hlt : i < s.data.toList.length := by omega
    have hts := take_step hlt
    have hff := hI.hf
    simp only [chinoiserieref01_Words.l0]
    rw [if_pos (by omega), if_pos (by omega), if_pos (by omega), bt_nat s i hlt]
    by_cases hb : s.data.toList[i] = 32
    · have e : (((s.data.toList[i].toNat : Nat) : Int) != 32) = false := by rw [hb]; rfl
      rw [e]
      refine wend _ k o f (by omega) (by omega) hI (fun _ => by rw [List.getElem?_eq_getElem hlt, hb]) _ (fun o' h1 _ => ?_) rfl
      exact ih (i + 1) k o' (i + 1) (by omega) (by omega) (by omega) (h1 hlt)
    · have e : (((s.data.toList[i].toNat : Nat) : Int) != 32) = true := by
        rw [bne_iff_ne]
        intro e
        exact hb (UInt8.toNat_inj.1 (by have := Int.ofNat.inj e; exact this))
      rw [e]
      simp only [chinoiserieref01_Words.j1]
      rw [if_pos trivial, wr1 i (by omega)]
      refine ih (i + 1) k o f (by omega) (by omega) (by omega) ⟨by omega, hI.w, hI.ok, ?_⟩
      rw [hts, List.drop_append_of_le_length (by rw [List.length_take]; omega)]
      intro hm
      rcases List.mem_append.1 hm with hm | hm
      · exact hI.no hm
      · have e32 : (32 : UInt8) = s.data.toList[i] := by simpa using hm
        exact hb e32.symm
theorem ref_words (s : ByteArray) (hn : s.data.toList.length ≤ 100000) (k : Nat) (hk : 3 * s.data.toList.length + 10 < k) : chinoiserieref01_Words.f k s = text_Words.f s := by
  have hz := ba_len s
  unfold chinoiserieref01_Words.f text_Words.f
  rw [if_pos (by omega)]
  exact ref_words0 s hn s.data.toList.length 0 k [] 0 (by omega) (by omega) (by omega) ⟨Nat.le_refl _, rfl, rfl, by simp⟩
end Go.Proofs.YtnkinkgmceokhaaDoor
