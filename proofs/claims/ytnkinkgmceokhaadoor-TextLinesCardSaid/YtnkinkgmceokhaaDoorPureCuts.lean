/- TextCuts and TextMakes: the plain statements, and the walks at every argument. -/
import Derived.Test.YtnkinkgmceokhaaDoorPureRefs2
namespace Go.Proofs.YtnkinkgmceokhaaDoor
set_option linter.unusedVariables false
set_option linter.unusedSimpArgs false
open Go Go.RowKit Go.Proofs.YtnkinkgmceokhaaDoor.PrTextKnown Go.Proofs.YtnkinkgmceokhaaDoorW.PrintWords
/-- the first 400 bytes -/
def cutB (s : ByteArray) : ByteArray := s.extract 0 (min s.size 400)
theorem cutB_len (s : ByteArray) : (cutB s).data.toList.length ≤ 400 := by
  unfold cutB
  rw [Lib.extract_data, List.length_take]
  have := Nat.min_le_right s.size 400
  omega
theorem cut_f (s : ByteArray) : chinoiserielaw01_cut.f s = some (cutB s) := by
  have e : mn (s.size : Int) 400 = ((min s.size 400 : Nat) : Int) := by
    unfold mn
    rcases Nat.le_total s.size 400 with h | h
    · rw [Nat.min_eq_left h]; split <;> omega
    · rw [Nat.min_eq_right h]; split <;> omega
  unfold chinoiserielaw01_cut.f cutB
  rw [e, if_pos (by omega), if_pos (by have := Nat.min_le_left s.size 400; omega), Int.toNat_natCast]
theorem cuts_pure (a0 : ByteArray) (k : Nat) (hk : 2000 ≤ k) : chinoiserielaw01_TextCuts.f k a0 = some true := by
  have hlen := cutB_len a0
  have hz := ba_len (cutB a0)
  unfold chinoiserielaw01_TextCuts.f
  rw [cut_f]
  simp only [Option.bind_some]
  generalize cutB a0 = t at *
  rw [ref_lines t (by omega) k (by omega), ref_words t (by omega) k (by omega), ref_number t (by omega) k (by omega), ref_name t k (by omega)]
  obtain ⟨p1, e1⟩ : ∃ p, text_Lines.f t = some p := by unfold text_Lines.f; split <;> exact ⟨_, rfl⟩
  obtain ⟨p2, e2⟩ : ∃ p, text_Words.f t = some p := by unfold text_Words.f; rw [if_pos (by omega)]; exact ⟨_, rfl⟩
  obtain ⟨p3, e3⟩ : ∃ p, text_Number.f t = some p := by unfold text_Number.f; rw [if_pos (by omega)]; exact ⟨_, rfl⟩
  obtain ⟨p4, e4⟩ : ∃ p, text_Name.f t = some p := ⟨_, rfl⟩
  have hw : chinoiserielaw01_works.f = some true := rfl
  have hq : ∀ l, chinoiserieref00_EqTexts.f l l = some true := fun l => by unfold chinoiserieref00_EqTexts.f; rw [decide_eq_true rfl]
  rw [e1, e2, e3, e4]
  simp only [Option.bind_some, hq, hw, if_true]
theorem TextCuts_calls (a0 : ByteArray) (w : World) (hW : WOk w) (h0 : a0.size ≤ 140737488351232) :
    Calls Tryd.prog 3 #[.string a0] w fun e w' => e = .returned (.bool true) ∧ Below w.heap.size w w' :=
  chinoiserielaw01_TextCuts.calls 2000 a0 true w (cuts_pure a0 2000 (Nat.le_refl _)) hW
/-! ### Join -/
theorem inter_snoc (xs : List (List UInt8)) (x : List UInt8) : [32].intercalate (xs ++ [x]) = if xs = [] then x else [32].intercalate xs ++ 32 :: x := by
  cases xs with
  | nil => simp [List.intercalate]
  | cons w ws =>
    rw [if_neg (by simp), List.cons_append, inter_cons, inter_cons]
    simp [Lib.joinTail]
theorem rd_nat (l : List ByteArray) (i : Nat) (h : i < l.length) : rdOf ByteArray.empty l (i : Int) = l[i] := by
  unfold rdOf
  simp [List.getD, h]
theorem ref_join0 (l : List ByteArray) (hn : l.length ≤ 1000) (hel : ∀ x ∈ l, x.data.toList.length ≤ 1000) : ∀ (d i k : Nat) (A : List UInt8), l.length - i = d → i ≤ l.length → d + 1002 < k →
    (∀ x ∈ l.take i, isWordL x.data.toList = true) → A = [32].intercalate ((l.take i).map fun s => s.data.toList) → A.length ≤ i * 1001 →
    chinoiserieref01_Join.l0 k l (bs A) (i : Int) = some (bs (joinR (l.map fun s => s.data.toList)), joinE (l.map fun s => s.data.toList)) := by
  intro d
  induction d with
  | zero =>
    intro i k A hd hi hk hw hA hl
    obtain ⟨k, rfl⟩ : ∃ m, k = m + 1 := ⟨k - 1, by omega⟩
    obtain rfl : i = l.length := by omega
    rw [List.take_length] at hw hA
    simp only [chinoiserieref01_Join.l0]
    rw [if_neg (by omega)]
    have hall : (l.map fun s => s.data.toList).all isWordL = true := by
      rw [List.all_eq_true]
      intro y hy
      obtain ⟨x, hx, rfl⟩ := List.mem_map.1 hy
      exact hw x hx
    unfold joinR joinE
    rw [hall, hA]
    rfl
  | succ d ih =>
    intro i k A hd hi hk hw hA hl
    obtain ⟨k, rfl⟩ : ∃ m, k = m + 1 := ⟨k - 1, by omega⟩
    have hlt : i < l.length := by omega
    have hx := hel l[i] (List.getElem_mem hlt)
    have hxz := ba_len l[i]
    have hAz := bs_size A
    have hmemi := List.getElem_mem hlt
    simp only [chinoiserieref01_Join.l0]
    rw [if_pos (by omega), if_pos (by omega), rd_nat l i hlt, ref_isword _ (by omega) k (by omega)]
    simp only [Option.bind_some]
    cases hiw : isWordL l[i].data.toList with
    | false =>
      rw [if_neg (by simp)]
      have hall : (l.map fun s => s.data.toList).all isWordL = false := by
        rw [List.all_eq_false]
        exact ⟨_, List.mem_map.2 ⟨l[i], List.getElem_mem hlt, rfl⟩, by rw [hiw]; simp⟩
      unfold joinR joinE
      rw [hall]
      rfl
    | true =>
      rw [if_pos rfl]
      have hts : l.take (i + 1) = l.take i ++ [l[i]] := by rw [List.take_add_one, List.getElem?_eq_getElem hlt]; rfl
      have hw2 : ∀ x ∈ l.take (i + 1), isWordL x.data.toList = true := by
        intro x hxm
        rw [hts] at hxm
        rcases List.mem_append.1 hxm with h | h
        · exact hw x h
        · obtain rfl : x = l[i] := by simpa using h
          exact hiw
      have hm : (l.take (i + 1)).map (fun s => s.data.toList) = (l.take i).map (fun s => s.data.toList) ++ [l[i].data.toList] := by rw [hts, List.map_append]; rfl
      obtain ⟨X, hX⟩ : ∃ X, l[i].data.toList = X := ⟨_, rfl⟩
      have hlX : l[i] = bs X := by rw [← hX]; rfl
      have hXz : (bs X).size = X.length := bs_size X
      rw [hX] at hx hm
      rw [hlX]
      have h1000 : i * 1001 ≤ 1001000 := by
        have := Nat.mul_le_mul_right 1001 (show i ≤ 1000 by omega)
        omega
      have hA1 : (bs A).size ≤ 1001000 := by rw [hAz]; exact Nat.le_trans hl h1000
      have hX1 : (bs X).size ≤ 1000 := by rw [hXz]; exact hx
      have hAX : (bs A).size + (bs X).size ≤ 9223372036854775807 := Nat.le_trans (Nat.add_le_add hA1 hX1) (by decide)
      have hA32 : (bs A).size + 1 ≤ 9223372036854775807 := Nat.le_trans (Nat.add_le_add_right hA1 1) (by decide)
      by_cases hi0 : i = 0
      · subst hi0
        rw [if_neg (by omega), if_pos hAX, wr1 0 (by omega), bs_append]
        have hA0 : A = [] := by
          have : A.length = 0 := by omega
          exact List.length_eq_zero_iff.1 this
        refine ih 1 k _ (by omega) (by omega) (by omega) hw2 ?_ ?_
        · rw [hm, inter_snoc, if_pos (by simp), hA0]; rfl
        · rw [hA0, List.nil_append]; exact Nat.le_trans hx (by decide)
      · rw [if_pos (by omega), if_pos hA32]
        have e32 : bs A ++ (⟨#[32]⟩ : ByteArray) = bs (A ++ [32]) := bs_append A [32]
        rw [e32, if_pos (by rw [bs_size (A ++ [32]), hXz, List.length_append, List.length_singleton]; rw [hAz] at hA1; exact Nat.le_trans (Nat.add_le_add (Nat.add_le_add_right hA1 1) hx) (by decide)), wr1 i (by omega), bs_append]
        refine ih (i + 1) k _ (by omega) (by omega) (by omega) hw2 ?_ ?_
        · have hne : (l.take i).map (fun s => s.data.toList) ≠ [] := by
            intro e
            have := congrArg List.length e
            rw [List.length_map, List.length_take, List.length_nil] at this
            omega
          rw [hm, inter_snoc, if_neg hne, hA]
          simp
        · simp only [List.length_append, List.length_cons, List.length_nil]
          rw [Nat.add_mul]
          omega
theorem inter_len (xs : List (List UInt8)) (m : Nat) (h : ∀ x ∈ xs, x.length ≤ m) : ([32].intercalate xs).length ≤ xs.length * (m + 1) := by
  have tail : ∀ xs : List (List UInt8), (∀ x ∈ xs, x.length ≤ m) → (Lib.joinTail [32] xs).length ≤ xs.length * (m + 1) := by
    intro xs
    induction xs with
    | nil => intro _; simp [Lib.joinTail]
    | cons w ws ih =>
      intro h
      have e : Lib.joinTail [32] (w :: ws) = 32 :: (w ++ Lib.joinTail [32] ws) := by simp [Lib.joinTail]
      have h1 := ih fun x hx => h x (by simp [hx])
      have h2 := h w (by simp)
      rw [e, List.length_cons, List.length_append, List.length_cons, Nat.add_mul]
      omega
  cases xs with
  | nil => simp [List.intercalate]
  | cons w ws =>
    have h1 := tail ws fun x hx => h x (by simp [hx])
    have h2 := h w (by simp)
    rw [inter_cons, List.length_append, List.length_cons, Nat.add_mul]
    omega
theorem ref_join (l : List ByteArray) (hn : l.length ≤ 1000) (hel : ∀ x ∈ l, x.data.toList.length ≤ 1000) (k : Nat) (hk : 2100 < k) : chinoiserieref01_Join.f k l = text_Join.f l ∧ ∃ p, text_Join.f l = some p := by
  have h := ref_join0 l hn hel l.length 0 k [] (by omega) (by omega) (by omega) (by simp) rfl (by simp)
  have hlen : ([32].intercalate (l.map fun s => s.data.toList)).length ≤ 140737488355328 ∧ l.length ≤ 140737488355328 := by
    refine ⟨?_, by omega⟩
    have := inter_len (l.map fun s => s.data.toList) 1000 (by
      intro y hy
      obtain ⟨x, hx, rfl⟩ := List.mem_map.1 hy
      exact hel x hx)
    rw [List.length_map] at this
    have := Nat.mul_le_mul_right 1001 hn
    omega
  unfold chinoiserieref01_Join.f text_Join.f
  rw [if_pos hlen]
  exact ⟨h, _, rfl⟩
theorem makes_j1 (own : List ByteArray) (a1 : Int) (hn : own.length ≤ 1000) (hel : ∀ x ∈ own, x.data.toList.length ≤ 1000) (k : Nat) (hk : 2200 < k) (hk2 : k ≤ 400000) : chinoiserielaw01_TextMakes.j1 k a1 own = some true := by
  obtain ⟨k, rfl⟩ : ∃ m, k = m + 1 := ⟨k - 1, by omega⟩
  obtain ⟨e1, p, e2⟩ := ref_join own hn hel k (by omega)
  have e3 := ref_digits a1 k (by omega) (by omega)
  obtain ⟨q, e4⟩ : ∃ q, text_Digits.f a1 = some q := ⟨_, rfl⟩
  have hw : chinoiserielaw01_works.f = some true := rfl
  simp only [chinoiserielaw01_TextMakes.j1]
  rw [e1, e2, e3, e4]
  simp only [Option.bind_some, hw, if_true]
theorem makes_l0 (l : List ByteArray) (a1 : Int) (hl : l.length ≤ 8796093022208) : ∀ (d i k : Nat), 30 - i = d → i ≤ 30 → i ≤ l.length → d + 2300 < k → k ≤ 400000 →
    chinoiserielaw01_TextMakes.l0 k l a1 ((l.take i).map cutB) (i : Int) = some true := by
  have fin : ∀ i k, i ≤ 30 → 2200 < k → k ≤ 400000 → chinoiserielaw01_TextMakes.j1 k a1 ((l.take i).map cutB) = some true := fun i k hi hk hk2 =>
    makes_j1 _ a1 (by rw [List.length_map, List.length_take]; omega) (fun x hx => by
      obtain ⟨y, _, rfl⟩ := List.mem_map.1 hx
      have := cutB_len y
      omega) k hk hk2
  intro d
  induction d with
  | zero =>
    intro i k hd hi hil hk hk2
    obtain ⟨k, rfl⟩ : ∃ m, k = m + 1 := ⟨k - 1, by omega⟩
    obtain rfl : i = 30 := by omega
    simp only [chinoiserielaw01_TextMakes.l0]
    by_cases h : ((30 : Nat) : Int) < (l.length : Int)
    · rw [if_pos h, if_neg (by omega)]
      exact fin 30 k (by omega) (by omega) (by omega)
    · rw [if_neg h]
      exact fin 30 k (by omega) (by omega) (by omega)
  | succ d ih =>
    intro i k hd hi hil hk hk2
    obtain ⟨k, rfl⟩ : ∃ m, k = m + 1 := ⟨k - 1, by omega⟩
    simp only [chinoiserielaw01_TextMakes.l0]
    by_cases h : i < l.length
    · rw [if_pos (by omega), if_pos (by omega), if_pos (by omega), rd_nat l i h, cut_f]
      simp only [Option.bind_some]
      rw [if_pos (by rw [List.length_map, List.length_take]; omega), wr1 i (by omega)]
      have e : (l.take i).map cutB ++ [cutB l[i]] = (l.take (i + 1)).map cutB := by
        rw [List.take_add_one, List.getElem?_eq_getElem h, List.map_append]
        rfl
      rw [e]
      exact ih (i + 1) k (by omega) (by omega) (by omega) (by omega) (by omega)
    · rw [if_neg (by omega)]
      exact fin i k (by omega) (by omega) (by omega)
theorem makes_pure (l : List ByteArray) (a1 : Int) (hl : l.length ≤ 8796093022208) : chinoiserielaw01_TextMakes.f 3000 l a1 = some true := by
  unfold chinoiserielaw01_TextMakes.f
  exact makes_l0 l a1 hl 30 0 3000 (by omega) (by omega) (by omega) (by omega) (by omega)
theorem TextMakes_calls (A0 : Option Addr) (c0 : Nat) (l0 : List ByteArray) (a1 : Int) (w : World) (hW : WOk w) (hr0 : Kd.C Kd.string w A0 l0.length l0) (hc0 : l0.length ≤ c0) (hm0 : l0.length * 16 ≤ 140737488351232) (w1 : (Lit.int .i64 a1).wf = true) :
    Calls Tryd.prog 7 #[.slice A0 l0.length c0, .int .i64 a1] w fun e w' => e = .returned (.bool true) ∧ Below w.heap.size w w' :=
  chinoiserielaw01_TextMakes.calls 3000 A0 c0 l0 a1 true w hr0 hc0 (makes_pure l0 a1 (by omega)) hW
end Go.Proofs.YtnkinkgmceokhaaDoor
