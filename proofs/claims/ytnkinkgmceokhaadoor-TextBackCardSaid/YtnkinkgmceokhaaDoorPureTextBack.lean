/- TextBack: the plain statement, and the walk at every argument. -/
import Derived.Test.YtnkinkgmceokhaaDoorPrTextBack1
import Derived.Test.YtnkinkgmceokhaaDoorPureCuts
namespace Go.Proofs.YtnkinkgmceokhaaDoor
set_option linter.unusedVariables false
set_option linter.unusedSimpArgs false
open Go Go.RowKit Go.Proofs.YtnkinkgmceokhaaDoor.PrTextBack Go.Proofs.YtnkinkgmceokhaaDoorW.PrintWords
theorem wst_len (l : List UInt8) : ∀ (o : List (List UInt8)) (r : List UInt8) (n : Nat), (∀ x ∈ o, x.length ≤ n) → r.length ≤ n →
    (∀ x ∈ (l.foldl wst (o, r)).1, x.length ≤ n + l.length) ∧ (l.foldl wst (o, r)).2.length ≤ n + l.length ∧ (l.foldl wst (o, r)).1.length ≤ o.length + l.length := by
  induction l with
  | nil => intro o r n h1 h2; exact ⟨h1, h2, Nat.le_refl _⟩
  | cons b l ih =>
    intro o r n h1 h2
    simp only [List.foldl_cons, wst]
    by_cases hb : b = 32
    · rw [if_pos hb]
      by_cases hr : r = []
      · rw [if_pos hr]
        obtain ⟨a1, a2, a3⟩ := ih o r n h1 h2
        refine ⟨fun x hx => ?_, ?_, ?_⟩
        · have := a1 x hx; rw [List.length_cons]; omega
        · rw [List.length_cons]; omega
        · rw [List.length_cons]; omega
      · rw [if_neg hr]
        obtain ⟨a1, a2, a3⟩ := ih (o ++ [r]) [] n (fun x hx => by
          rcases List.mem_append.1 hx with h | h
          · exact h1 x h
          · obtain rfl : x = r := by simpa using h
            exact h2) (Nat.zero_le _)
        rw [List.length_append, List.length_singleton] at a3
        refine ⟨fun x hx => ?_, ?_, ?_⟩
        · have := a1 x hx; rw [List.length_cons]; omega
        · rw [List.length_cons]; omega
        · rw [List.length_cons]; omega
    · rw [if_neg hb]
      obtain ⟨a1, a2, a3⟩ := ih o (r ++ [b]) (n + 1) (fun x hx => by have := h1 x hx; omega) (by rw [List.length_append, List.length_singleton]; omega)
      refine ⟨fun x hx => ?_, ?_, ?_⟩
      · have := a1 x hx; rw [List.length_cons]; omega
      · rw [List.length_cons]; omega
      · rw [List.length_cons]; omega
theorem wordsR_len (l : List UInt8) : (wordsR l).length ≤ l.length + 1 ∧ ∀ x ∈ wordsR l, x.length ≤ l.length := by
  obtain ⟨h1, h2, h3⟩ := wst_len l [] [] 0 (by simp) (by simp)
  rw [Nat.zero_add] at h2
  simp only [Nat.zero_add] at h1
  rw [List.length_nil] at h3
  unfold wordsR wordsL wcs
  split
  · split
    · exact ⟨by omega, h1⟩
    · refine ⟨by rw [List.length_append, List.length_singleton]; omega, fun x hx => ?_⟩
      rcases List.mem_append.1 hx with h | h
      · exact h1 x h
      · obtain rfl : x = _ := by simpa using h
        exact h2
  · exact ⟨Nat.zero_le _, by simp⟩
theorem word_num (n : Int) (h1 : 33 ≤ n) (h2 : n ≤ 126) : wB (UInt8.ofNat n.toNat) = true := by
  unfold wB
  have e : (UInt8.ofNat n.toNat).toNat = n.toNat := by
    rw [UInt8.toNat_ofNat']
    exact Nat.mod_eq_of_lt (by omega)
  rw [e, Bool.and_eq_true, decide_eq_true_eq, decide_eq_true_eq]
  omega
theorem word_pure0 (s : ByteArray) : ∀ (d i k : Nat) (x : List Int), 40 - i = d → i ≤ 40 → d < k → (∀ n ∈ x, 33 ≤ n ∧ n ≤ 126) → x.length = i + 1 →
    ∃ r, chinoiserielaw01_word.l0 k s x (i : Int) = some r ∧ isWordL r.data.toList = true ∧ r.data.toList.length ≤ 41 := by
  have fin : ∀ (i : Nat) (x : List Int), i ≤ 40 → (∀ n ∈ x, 33 ≤ n ∧ n ≤ 126) → x.length = i + 1 → isWordL (strOfNums x).data.toList = true ∧ (strOfNums x).data.toList.length ≤ 41 := by
    intro i x hi hx hl
    have e : (strOfNums x).data.toList = x.map fun n => UInt8.ofNat n.toNat := by unfold strOfNums; rfl
    rw [e]
    refine ⟨?_, by rw [List.length_map]; omega⟩
    unfold isWordL
    rw [Bool.and_eq_true, List.all_eq_true]
    refine ⟨?_, fun b hb => ?_⟩
    · cases x with
      | nil => simp at hl
      | cons a x => rfl
    · obtain ⟨n, hn, rfl⟩ := List.mem_map.1 hb
      exact word_num n (hx n hn).1 (hx n hn).2
  intro d
  induction d with
  | zero =>
    intro i k x hd hi hk hx hl
    obtain ⟨k, rfl⟩ : ∃ m, k = m + 1 := ⟨k - 1, by omega⟩
    obtain rfl : i = 40 := by omega
    simp only [chinoiserielaw01_word.l0]
    refine ⟨strOfNums x, ?_, fin 40 x (by omega) hx hl⟩
    by_cases h : ((40 : Nat) : Int) < (s.size : Int)
    · rw [if_pos h, if_neg (by omega)]
    · rw [if_neg h]
  | succ d ih =>
    intro i k x hd hi hk hx hl
    obtain ⟨k, rfl⟩ : ∃ m, k = m + 1 := ⟨k - 1, by omega⟩
    simp only [chinoiserielaw01_word.l0]
    by_cases h : (i : Int) < (s.size : Int)
    · rw [if_pos h, if_pos (by omega), if_pos (by omega), if_pos (by omega), wr1 i (by omega)]
      refine ih (i + 1) k _ (by omega) (by omega) (by omega) ?_ (by rw [List.length_append, List.length_singleton]; omega)
      intro n hn
      rcases List.mem_append.1 hn with h | h
      · exact hx n h
      · obtain rfl : n = _ := by simpa using h
        obtain ⟨b1, b2⟩ := bt_range s (i : Int)
        generalize bt s (i : Int) = b at *
        have e1 : wrap64 b = b := by unfold wrap64; omega
        rw [e1]
        have e2 : Int.tmod b 94 = b % 94 := Int.tmod_eq_emod_of_nonneg b1
        rw [e2]
        have e3 : wrap64 (33 + b % 94) = 33 + b % 94 := by unfold wrap64; omega
        rw [e3]
        omega
    · rw [if_neg h]
      exact ⟨strOfNums x, rfl, fin i x (by omega) hx hl⟩
theorem word_pure (s : ByteArray) (k : Nat) (hk : 41 ≤ k) : ∃ r, chinoiserielaw01_word.f k s = some r ∧ isWordL r.data.toList = true ∧ r.data.toList.length ≤ 41 :=
  word_pure0 s 40 0 k [119] (by omega) (by omega) (by omega) (by simp) rfl
/-- Join of words -/
theorem join_words (ws : List (List UInt8)) (h : ∀ w ∈ ws, isWordL w = true) (hn : ws.length ≤ 1000) (hl : ∀ w ∈ ws, w.length ≤ 1000) :
    text_Join.f (ws.map bs) = some (bs ([32].intercalate ws), 0) ∧ ([32].intercalate ws).length ≤ 1001000 := by
  have e : (ws.map bs).map (fun s : ByteArray => s.data.toList) = ws := by
    rw [List.map_map]
    exact (List.map_congr_left fun x _ => list_bs x).trans (List.map_id ws)
  have hlen := inter_len ws 1000 hl
  have := Nat.mul_le_mul_right 1001 hn
  have hlen2 : ([32].intercalate ws).length ≤ 1001000 := Nat.le_trans hlen this
  have hall : ws.all isWordL = true := List.all_eq_true.2 h
  refine ⟨?_, hlen2⟩
  unfold text_Join.f
  rw [e, List.length_map, if_pos ⟨by omega, by omega⟩]
  unfold joinR joinE
  rw [hall]
  rfl
theorem back_j2 (line : ByteArray) (k : Nat) : chinoiserielaw01_TextBack.j2 (k + 1) line false = some true := by
  have e : mn (line.size : Int) 400 = ((min line.size 400 : Nat) : Int) := by
    unfold mn
    rcases Nat.le_total line.size 400 with h | h
    · rw [Nat.min_eq_left h]; split <;> omega
    · rw [Nat.min_eq_right h]; split <;> omega
  have hcut := cutB_len line
  simp only [chinoiserielaw01_TextBack.j2]
  rw [if_neg (by simp), e, if_pos (by omega), if_pos (by have := Nat.min_le_left line.size 400; omega), Int.toNat_natCast]
  have ec : line.extract 0 (min line.size 400) = cutB line := rfl
  rw [ec]
  generalize cutB line = t at *
  have hz := ba_len t
  have ew : text_Words.f t = some ((wordsR t.data.toList).map bs, wordsE t.data.toList) := by unfold text_Words.f; rw [if_pos (by omega)]
  rw [ew]
  simp only [Option.bind_some]
  obtain ⟨n1, n2⟩ := wordsR_len t.data.toList
  have hw := wordsR_words t.data.toList
  rcases wordsE_cases t.data.toList with h | ⟨h, h'⟩
  · rw [if_pos h]
    generalize wordsR t.data.toList = ws at *
    obtain ⟨j1, j2⟩ := join_words ws hw (by omega) (fun w hw => by have := n2 w hw; omega)
    rw [j1]
    simp only [Option.bind_some]
    have s1 : (bs ([32].intercalate ws)).size = ([32].intercalate ws).length := bs_size _
    have e2 : (⟨#[32, 32]⟩ : ByteArray) ++ bs ([32].intercalate ws) = bs ([32, 32] ++ [32].intercalate ws) := bs_append [32, 32] _
    have e3 : bs ([32, 32] ++ [32].intercalate ws) ++ (⟨#[32]⟩ : ByteArray) = bs ([32, 32] ++ [32].intercalate ws ++ [32]) := bs_append _ [32]
    have l3 : ([32, 32] ++ [32].intercalate ws).length = 2 + ([32].intercalate ws).length := by rw [List.length_append]; rfl
    have l4 : ([32, 32] ++ [32].intercalate ws ++ [32]).length = 2 + ([32].intercalate ws).length + 1 := by rw [List.length_append, l3]; rfl
    have s2 : (bs ([32, 32] ++ [32].intercalate ws)).size = 2 + ([32].intercalate ws).length := by rw [bs_size, l3]
    have s3 : (bs ([32, 32] ++ [32].intercalate ws ++ [32])).size = 2 + ([32].intercalate ws).length + 1 := by rw [bs_size, l4]
    obtain ⟨r1, r2⟩ := words_spaced ws hw
    rw [e2, e3]
    have ew2 : text_Words.f (bs ([32, 32] ++ [32].intercalate ws ++ [32])) = some (ws.map bs, 0) := by
      unfold text_Words.f
      rw [s3, if_pos (by omega), list_bs, r1, r2]
    rw [s1, s2, ew2, if_pos (Nat.le_trans (m := 3000000) (by omega) (by decide)), if_pos (Nat.le_trans (m := 3000000) (by omega) (by decide))]
    simp only [Option.bind_some, if_true]
    unfold chinoiserieref00_EqTexts.f
    rw [decide_eq_true rfl]
    rfl
  · rw [h, h', if_neg (by omega), if_pos rfl]
    rfl
theorem back_j1 (line : ByteArray) (own : List (List UInt8)) (k : Nat) (h : ∀ w ∈ own, isWordL w = true ∧ w.length ≤ 41) (hn : own.length ≤ 30) : chinoiserielaw01_TextBack.j1 (k + 2) line (own.map bs) = some true := by
  obtain ⟨j1, j2⟩ := join_words own (fun w hw => (h w hw).1) (by omega) (fun w hw => by have := (h w hw).2; omega)
  have s1 : (bs ([32].intercalate own)).size = ([32].intercalate own).length := bs_size _
  obtain ⟨r1, r2⟩ := words_join own fun w hw => (h w hw).1
  have ew : text_Words.f (bs ([32].intercalate own)) = some (own.map bs, 0) := by
    unfold text_Words.f
    rw [s1, if_pos (by omega), list_bs, r1, r2]
  simp only [chinoiserielaw01_TextBack.j1]
  rw [j1]
  simp only [Option.bind_some]
  rw [ew]
  simp only [Option.bind_some, if_true]
  unfold chinoiserieref00_EqTexts.f
  rw [decide_eq_true rfl]
  simp only [Option.bind_some, Bool.not_true]
  exact back_j2 line k
theorem back_l0 (l : List ByteArray) (line : ByteArray) : ∀ (d i k : Nat) (own : List (List UInt8)), 30 - i = d → i ≤ 30 → d + 100 < k → own.length = i → (∀ w ∈ own, isWordL w = true ∧ w.length ≤ 41) →
    chinoiserielaw01_TextBack.l0 k l line (own.map bs) (i : Int) = some true := by
  have fin : ∀ (k : Nat) (own : List (List UInt8)), 50 < k → own.length ≤ 30 → (∀ w ∈ own, isWordL w = true ∧ w.length ≤ 41) → chinoiserielaw01_TextBack.j1 k line (own.map bs) = some true := by
    intro k own hk hn h
    obtain ⟨k, rfl⟩ : ∃ m, k = m + 2 := ⟨k - 2, by omega⟩
    exact back_j1 line own k h hn
  intro d
  induction d with
  | zero =>
    intro i k own hd hi hk hl hw
    obtain ⟨k, rfl⟩ : ∃ m, k = m + 1 := ⟨k - 1, by omega⟩
    obtain rfl : i = 30 := by omega
    simp only [chinoiserielaw01_TextBack.l0]
    by_cases h : ((30 : Nat) : Int) < (l.length : Int)
    · rw [if_pos h, if_neg (by omega)]
      exact fin k own (by omega) (by omega) hw
    · rw [if_neg h]
      exact fin k own (by omega) (by omega) hw
  | succ d ih =>
    intro i k own hd hi hk hl hw
    obtain ⟨k, rfl⟩ : ∃ m, k = m + 1 := ⟨k - 1, by omega⟩
    simp only [chinoiserielaw01_TextBack.l0]
    by_cases h : i < l.length
    · obtain ⟨r, e, r1, r2⟩ := word_pure l[i] k (by omega)
      rw [if_pos (by omega), if_pos (by omega), if_pos (by omega), rd_nat l i h, e]
      simp only [Option.bind_some]
      rw [if_pos (by rw [List.length_map]; omega), wr1 i (by omega)]
      have e2 : own.map bs ++ [r] = (own ++ [r.data.toList]).map bs := by rw [List.map_append]; rfl
      rw [e2]
      refine ih (i + 1) k _ (by omega) (by omega) (by omega) (by rw [List.length_append, List.length_singleton]; omega) ?_
      intro w hwm
      rcases List.mem_append.1 hwm with h | h
      · exact hw w h
      · obtain rfl : w = r.data.toList := by simpa using h
        exact ⟨r1, r2⟩
    · rw [if_neg (by omega)]
      exact fin k own (by omega) (by omega) hw
theorem back_pure (l : List ByteArray) (line : ByteArray) : chinoiserielaw01_TextBack.f 1000 l line = some true := by
  have hw : chinoiserielaw01_works.f = some true := rfl
  unfold chinoiserielaw01_TextBack.f
  rw [hw]
  simp only [Option.bind_some, if_true]
  exact back_l0 l line 30 0 1000 [] (by omega) (by omega) (by omega) rfl (by simp)
theorem TextBack_calls (A0 : Option Addr) (c0 : Nat) (l0 : List ByteArray) (a1 : ByteArray) (w : World) (hW : WOk w) (hr0 : Kd.C Kd.string w A0 l0.length l0) (hc0 : l0.length ≤ c0) (hm0 : l0.length * 16 ≤ 140737488351232) (w1 : a1.size ≤ 140737488351232) :
    Calls Tryd.prog 8 #[.slice A0 l0.length c0, .string a1] w fun e w' => e = .returned (.bool true) ∧ Below w.heap.size w w' :=
  chinoiserielaw01_TextBack.calls 1000 A0 c0 l0 a1 true w hr0 hc0 (back_pure l0 a1) hW
end Go.Proofs.YtnkinkgmceokhaaDoor
