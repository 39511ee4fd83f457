/- TextLines: the plain statement, and the walk at every argument. -/
import Derived.Test.YtnkinkgmceokhaaDoorPrTextLines1
import Derived.Test.YtnkinkgmceokhaaDoorPureCuts
namespace Go.Proofs.YtnkinkgmceokhaaDoor
set_option linter.unusedVariables false
set_option linter.unusedSimpArgs false
open Go Go.RowKit Go.Proofs.YtnkinkgmceokhaaDoor.PrTextLines Go.Proofs.YtnkinkgmceokhaaDoorW.PrintWords
theorem lines_l1 (x0 : ByteArray) (xs : List ByteArray) (acc : ByteArray) (i : Nat) (x : List UInt8) (hi : i < xs.length) (hx : xs[i] = bs x) (h10 : 10 ∉ x) (hin : i ≤ 100000) (hxl : x.length ≤ 1000000) (hacc : acc.size ≤ 1000000) (K : Nat)
    (rest : ∀ k, K ≤ k → chinoiserielaw01_TextLines.l0 k x0 xs 0 (acc ++ bs x ++ (⟨#[10]⟩ : ByteArray)) ((i + 1 : Nat) : Int) = some true) :
    ∀ (d j k : Nat), x.length - j = d → j ≤ x.length → d + 1 + K ≤ k → chinoiserielaw01_TextLines.l1 k x0 xs 0 acc (i : Int) (j : Int) = some true := by
  have hsz : (bs x).size = x.length := bs_size x
  have hs2 : (acc ++ bs x).size = acc.size + x.length := by rw [ByteArray.size_append, hsz]
  intro d
  induction d with
  | zero =>
    intro j k hd hj hk
    obtain ⟨k, rfl⟩ : ∃ m, k = m + 1 := ⟨k - 1, by omega⟩
    rw [chinoiserielaw01_TextLines.l1, if_pos (by omega), if_pos (by omega), rd_nat xs i hi, hx, hsz, if_neg (by omega), if_pos (Nat.le_trans (m := 3000000) (by omega) (by decide)), hs2, if_pos (Nat.le_trans (m := 3000000) (by omega) (by decide)), wr1 i (by omega)]
    exact rest k (by omega)
  | succ d ih =>
    intro j k hd hj hk
    obtain ⟨k, rfl⟩ : ∃ m, k = m + 1 := ⟨k - 1, by omega⟩
    have hlt : j < (bs x).data.toList.length := by rw [list_bs]; omega
    have hb : bt (bs x) (j : Int) ≠ 10 := by
      rw [bt_nat _ _ hlt]
      intro e
      apply h10
      have e2 : (bs x).data.toList[j] = 10 := by
        rw [← UInt8.toNat_inj]
        have : (10 : UInt8).toNat = 10 := rfl
        omega
      have := List.getElem_mem hlt
      rw [e2] at this
      exact this
    rw [chinoiserielaw01_TextLines.l1, if_pos (by omega), if_pos (by omega), rd_nat xs i hi, hx, hsz, if_pos (by omega), if_pos (by omega), if_neg hb, wr1 j (by omega)]
    exact ih (j + 1) k (by omega) (by omega) (by omega)
theorem catL_take_len (L : List (List UInt8)) (i : Nat) : (catL (L.take i)).length ≤ (catL L).length := by
  have e : catL L = catL (L.take i) ++ catL (L.drop i) := by
    unfold catL
    rw [← List.flatten_append, ← List.map_append, List.take_append_drop]
  rw [e, List.length_append]
  omega
theorem lines_l0 (x0 : ByteArray) (L : List (List UInt8)) (h10 : ∀ x ∈ L, 10 ∉ x) (hL : L.length ≤ 2000) (hcat : (catL L).length ≤ 2000) (hel : ∀ x ∈ L, x.length ≤ 2000)
    (hend : ∀ k, chinoiserielaw01_TextLines.l0 (k + 1) x0 (L.map bs) 0 (bs (catL L)) (L.length : Int) = some true) :
    ∀ (d i k : Nat), L.length - i = d → i ≤ L.length → d * 2010 + 1 ≤ k → chinoiserielaw01_TextLines.l0 k x0 (L.map bs) 0 (bs (catL (L.take i))) (i : Int) = some true := by
  intro d
  induction d with
  | zero =>
    intro i k hd hi hk
    obtain ⟨k, rfl⟩ : ∃ m, k = m + 1 := ⟨k - 1, by omega⟩
    obtain rfl : i = L.length := by omega
    rw [List.take_length]
    exact hend k
  | succ d ih =>
    intro i k hd hi hk
    obtain ⟨k, rfl⟩ : ∃ m, k = m + 1 := ⟨k - 1, by omega⟩
    have hlt : i < L.length := by omega
    have hlt2 : i < (L.map bs).length := by rw [List.length_map]; exact hlt
    have hmem := List.getElem_mem hlt
    have hk2 : (d + 1) * 2010 = d * 2010 + 2010 := by rw [Nat.add_mul]
    have hxl := hel _ hmem
    have hc := catL_take_len L i
    rw [chinoiserielaw01_TextLines.l0, if_pos (by omega)]
    refine lines_l1 x0 (L.map bs) (bs (catL (L.take i))) i L[i] hlt2 (by rw [List.getElem_map]) (h10 _ hmem) (by omega) (by omega) (by rw [bs_size]; omega) (d * 2010 + 1) ?_ L[i].length 0 k (by omega) (by omega) (by omega)
    intro k' hk'
    have e : bs (catL (L.take i)) ++ bs L[i] ++ (⟨#[10]⟩ : ByteArray) = bs (catL (L.take (i + 1))) := by
      have ht : L.take (i + 1) = L.take i ++ [L[i]] := by rw [List.take_add_one, List.getElem?_eq_getElem hlt]; rfl
      rw [ht, catL_snoc, bs_append]
      have := bs_append (catL (L.take i) ++ L[i]) [10]
      rw [List.append_assoc] at this
      exact this
    rw [e]
    exact ih (i + 1) k' (by omega) (by omega) hk'
theorem catL_el (L : List (List UInt8)) : L.length ≤ (catL L).length ∧ ∀ x ∈ L, x.length ≤ (catL L).length := by
  induction L with
  | nil => simp [catL]
  | cons y L ih =>
    have e : (catL (y :: L)).length = y.length + 1 + (catL L).length := by simp [catL]; omega
    refine ⟨by rw [e, List.length_cons]; omega, fun x hx => ?_⟩
    rcases List.mem_cons.1 hx with rfl | h
    · rw [e]; omega
    · have := ih.2 x h; rw [e]; omega
theorem lines_pure (a0 : ByteArray) : chinoiserielaw01_TextLines.f 5000000 a0 = some true := by
  have e : mn (a0.size : Int) 1000 = ((min a0.size 1000 : Nat) : Int) := by
    unfold mn
    rcases Nat.le_total a0.size 1000 with h | h
    · rw [Nat.min_eq_left h]; split <;> omega
    · rw [Nat.min_eq_right h]; split <;> omega
  have hw : chinoiserielaw01_works.f = some true := rfl
  unfold chinoiserielaw01_TextLines.f
  rw [e, if_pos (by omega), if_pos (by have := Nat.min_le_left a0.size 1000; omega), Int.toNat_natCast]
  have hlen : (a0.extract 0 (min a0.size 1000)).data.toList.length ≤ 1000 := by
    rw [Lib.extract_data, List.length_take]
    have := Nat.min_le_right a0.size 1000
    omega
  generalize a0.extract 0 (min a0.size 1000) = s at *
  have hz := ba_len s
  have ef : text_Lines.f s = some ((linesL s.data.toList).map bs, 0) := by unfold text_Lines.f; rw [if_neg (by omega)]
  rw [ef, Option.bind_some]
  have hno := lines_no s.data.toList
  have hcat := lines_cat s.data.toList
  generalize hL : linesL s.data.toList = L at *
  have hcl : (catL L).length ≤ 1001 := by
    rcases hcat with h | ⟨h, _⟩
    · rw [h]; omega
    · rw [h, List.length_append, List.length_singleton]; omega
  obtain ⟨c1, c2⟩ := catL_el L
  refine lines_l0 s L hno (by omega) (by omega) (fun x hx => by have := c2 x hx; omega) ?_ L.length 0 5000000 (by omega) (by omega) (by omega)
  intro k
  have t1 : ∀ l : List UInt8, (bs l).toList = l := fun l => by simp [bs, ByteArray.toList_eq]
  have t2 : s.toList = s.data.toList := by rw [ByteArray.toList_eq]
  have t3 : (s ++ (⟨#[10]⟩ : ByteArray)).toList = s.data.toList ++ [10] := by
    have : s ++ (⟨#[10]⟩ : ByteArray) = bs (s.data.toList ++ [10]) := bs_append s.data.toList [10]
    rw [this, t1]
  rw [chinoiserielaw01_TextLines.l0, if_neg (by rw [List.length_map]; omega), if_pos rfl, t1, t2, t3]
  rcases hcat with h | ⟨h, hl⟩
  · rw [if_pos h, hw]; rfl
  · have hne : ¬ catL L = s.data.toList := by
      intro e
      rw [h] at e
      have := congrArg List.length e
      rw [List.length_append, List.length_singleton] at this
      omega
    rw [if_neg hne, if_pos (Nat.le_trans (m := 3000000) (by omega) (by decide)), if_pos h]
    by_cases h0 : (s.size : Int) = 0
    · rw [if_pos h0, hw]; rfl
    · have ew : wrap64 ((s.size : Int) - 1) = ((s.size - 1 : Nat) : Int) := by unfold wrap64; omega
      have hlt : s.size - 1 < s.data.toList.length := by omega
      have hb : bt s ((s.size - 1 : Nat) : Int) ≠ 10 := by
        rw [bt_nat s _ hlt]
        intro e
        refine hl s.data.toList[s.size - 1] ?_ ?_
        · rw [List.getLast?_eq_getElem?]
          have : s.data.toList.length - 1 = s.size - 1 := by omega
          rw [this, List.getElem?_eq_getElem hlt]
        · rw [← UInt8.toNat_inj]
          have : (10 : UInt8).toNat = 10 := rfl
          omega
      rw [if_neg h0, ew, if_pos (by omega), if_pos (by omega), if_neg hb, hw]
      rfl
theorem TextLines_calls (a0 : ByteArray) (w : World) (hW : WOk w) (h0 : a0.size ≤ 140737488351232) :
    Calls Tryd.prog 4 #[.string a0] w fun e w' => e = .returned (.bool true) ∧ Below w.heap.size w w' :=
  chinoiserielaw01_TextLines.calls 5000000 a0 true w (lines_pure a0) hW
end Go.Proofs.YtnkinkgmceokhaaDoor
