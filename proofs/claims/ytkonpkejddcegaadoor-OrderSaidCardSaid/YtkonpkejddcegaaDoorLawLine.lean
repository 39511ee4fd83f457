/- OrderLine: the row's plain law, and the walk. -/
import Derived.Test.YtkonpkejddcegaaDoorLawWays
namespace Go.Proofs.YtkonpkejddcegaaDoor
set_option linter.unusedVariables false
set_option linter.unusedSimpArgs false
open Go Go.RowKit Go.Proofs Go.Shelf
theorem els_del (n : Nat) (p : Nat → Bool) (a : Nat) (hp : p a = true) : (els n (del p a)).length + (if a < n then 1 else 0) = (els n p).length := by
  induction n with
  | zero => simp [els]
  | succ m ih =>
    rw [els_step, els_step]
    by_cases e : m = a
    · subst e
      simp [del, hp] at ih ⊢
      omega
    · have h1 : del p a m = p m := by simp [del, e]
      rw [h1]
      by_cases h2 : a < m
      · rw [if_pos h2] at ih
        rw [if_pos (show a < m + 1 by omega)]
        omega
      · rw [if_neg h2] at ih
        rw [if_neg (show ¬ a < m + 1 by omega)]
        omega
theorem lineGo_facts (n : Nat) (R : Nat → Nat → Bool) (hm : HasMin n (flp R)) : ∀ (f : Nat) (p : Nat → Bool), (els n p).length ≤ f →
    (lineGo n (flp R) f p).length = (els n p).length ∧ (∀ x ∈ lineGo n (flp R) f p, x < n ∧ p x = true) ∧ List.Pairwise (fun x y => x ≠ y ∧ R y x = false) (lineGo n (flp R) f p) := by
  intro f
  induction f with
  | zero =>
    intro p hl
    have : (els n p).length = 0 := by omega
    simp [lineGo, this]
  | succ f ih =>
    intro p hl
    unfold lineGo
    cases hf : (els n p).find? (minB n (flp R) p) with
    | none =>
      have h0 : els n p = [] := by
        cases he : els n p with
        | nil => rfl
        | cons x r =>
          have hx : x ∈ els n p := by rw [he]; simp
          have hx2 := mem_els.1 hx
          obtain ⟨a, ha, hpa, hmb⟩ := hm p ⟨x, hx2.1, hx2.2⟩
          have := List.find?_eq_none.1 hf a (mem_els.2 ⟨ha, hpa⟩)
          exact absurd hmb this
      simp [h0]
    | some a =>
      have hmb := List.find?_some hf
      have ha := mem_els.1 (List.mem_of_find?_eq_some hf)
      have hd := els_del n p a ha.2
      rw [if_pos ha.1] at hd
      obtain ⟨i1, i2, i3⟩ := ih (del p a) (by omega)
      have hmb2 := (minB_iff n (flp R) p a ha.1).1 hmb
      refine ⟨by simp only [List.length_cons]; omega, ?_, ?_⟩
      · intro x hx
        rcases List.mem_cons.1 hx with rfl | hx
        · exact ha
        · have := i2 x hx
          refine ⟨this.1, ?_⟩
          have h2 := this.2
          unfold del at h2
          simp only [Bool.and_eq_true] at h2
          exact h2.1
      · refine List.pairwise_cons.2 ⟨fun y hy => ?_, i3⟩
        obtain ⟨h1, h2⟩ := i2 y hy
        unfold del at h2
        simp only [Bool.and_eq_true, Bool.not_eq_true', decide_eq_false_iff_not] at h2
        have h3 := hmb2 y h1
        rw [h2.1, Bool.and_true] at h3
        exact ⟨fun e => h2.2 e.symm, by rw [show R y a = flp R a y from rfl, h3]; simp [h2.2]⟩
theorem lineOf_facts (n : Nat) (R : Nat → Nat → Bool) (h : PO n R) : (lineOf n (flp R)).length = n ∧ (∀ i, i < n → (lineOf n (flp R)).getD i 0 < n) ∧
    (∀ i j, i < j → j < n → (lineOf n (flp R)).getD i 0 ≠ (lineOf n (flp R)).getD j 0 ∧ R ((lineOf n (flp R)).getD j 0) ((lineOf n (flp R)).getD i 0) = false) := by
  obtain ⟨h1, h2, h3⟩ := lineGo_facts n R h.hasMin n (fun _ => true) (by rw [els_all]; exact Nat.le_refl _)
  rw [els_all] at h1
  have hl : (lineOf n (flp R)).length = n := h1
  have hg : ∀ i (hi : i < n), (lineOf n (flp R)).getD i 0 = (lineOf n (flp R))[i]'(by omega) := fun i hi => by simp [List.getD, List.getElem?_eq_getElem (show i < (lineOf n (flp R)).length by omega)]
  refine ⟨hl, fun i hi => ?_, fun i j hij hj => ?_⟩
  · rw [hg i hi]
    exact (h2 _ (List.getElem_mem _)).1
  · rw [hg i (by omega), hg j hj]
    exact List.pairwise_iff_getElem.1 h3 i j (by rw [show (lineGo n (flp R) n fun _ => true) = lineOf n (flp R) from rfl]; omega) (by rw [show (lineGo n (flp R) n fun _ => true) = lineOf n (flp R) from rfl]; omega) hij
theorem lt_of_cell {w : World} {a : Addr} {v : Value} (h : w.cell? a = some v) : a.block < w.heap.size := by
  rcases Nat.lt_or_ge a.block w.heap.size with hl | hl
  · exact hl
  · have : w.heap[a.block]? = none := by simp [hl]
    simp [World.cell?, this] at h
/-- sixteen marks -/
def bools (q : Nat → Bool) : Array Value := ((List.range 16).map fun j => Value.bool (q j)).toArray
theorem bools_at (q : Nat → Bool) (j : Nat) (hj : j < 16) : (bools q)[j]? = some (.bool (q j)) := by
  simp [bools, hj]
theorem bools_set (q : Nat → Bool) (x : Nat) (hx : x < 16) : (bools q).setIfInBounds x (.bool true) = bools fun j => decide (j = x) || q j := by
  apply Array.ext
  · simp [bools]
  · intro i h1 h2
    have hi : i < 16 := by simpa [bools] using h2
    rw [Array.getElem_setIfInBounds (by simpa [bools] using hi)]
    by_cases e : x = i
    · subst e; simp [bools]
    · rw [if_neg e]
      simp [bools, show ¬ i = x from fun h => e h.symm]
set_option maxHeartbeats 4000000 in
set_option maxRecDepth 8000 in
theorem line_ok (w : World) (many : Int) (v : Value) (L : List (Int × Int)) (hT : TabOk w) (hg : 0 < w.heap.size) (hL : InPairs w v L) (hB : InB L) (hm1 : -9223372036854775808 ≤ many) (hm2 : many ≤ 9223372036854775807) :
    Calls Tryd.prog 5 #[.int .i64 many, v] w (BoolPost w true) := by
  have hmd := made_any w many v L hT hg hL hB hm1 hm2
  have hwk := fun (W : World) (hC : Chg (fun _ => False) w W) => works_ok W (hT.chg hC (fun h => h)) (Nat.lt_of_lt_of_le hg hC.size)
  have hTT := fun (W : World) (hC : Chg (fun _ => False) w W) => hT.chg hC (fun h => h)
  obtain ⟨sa, sc, rfl, _⟩ := hL
  have HM := Lib.hid hmd
  have HW := Lib.hid hwk
  have HT := Lib.hid hTT
  have hpo := mkTo_po (nOf many) L 40
  obtain ⟨n1, n2⟩ := nOf_bd many
  generalize hR : (mkTo (nOf many) L 40).1 = R at *
  generalize nOf many = n at *
  have HRR := Lib.hid hR
  have HF := Lib.hid (lineOf_facts n R hpo)
  have HMi := Lib.hid hpo.hasMin
  clear hpo hmd hwk hTT hT hB hR
  go_enter Tryd.func5, Tryd.ntmps5
  go_wp2_with fail
  refine HM.out.mono ?_
  rintro e w2 ⟨b, bu, bd, vt, rfl, hb, hbu, hbd, hO, _, hC⟩
  rw [HRR.out] at hO
  have HO := Lib.hid hO
  have HC2 := Lib.hid hC
  clear hO hC HM
  have hl := line_some HO.out (HT.out _ HC2.out) HMi.out
  unfold optr at hl
  go_wp2_with fail
  refine hl.mono ?_
  rintro e w3 ⟨v1, rfl, hv1, hC4⟩
  have hO3 := HO.out.keep fun j c t f hj e => hC4.keep e (fun h => h)
  have hC5 := HC2.out.trans hC4
  have H1 := own_ints hv1
  obtain ⟨s1, cap1, rfl, hc1⟩ := ints_at H1
  have hb3 := hO3.lt
  have HO3 := Lib.hid hO3
  have HC5 := Lib.hid hC5
  have hlen := HF.out.1
  rw [hlen] at hc1 ⊢
  have Hc1 := Lib.hid hc1
  have hMa := many_some HO3.out
  unfold optr at hMa
  clear hl hv1 hO3 hC4 hC5 H1 hc1 HO HC2 hlen
  go_wp2_with fail
  refine hMa.mono ?_
  rintro e w' ⟨rfl, rfl⟩
  clear hMa
  go_wp2_with fail
  have hx0 : (w3.alloc (.cells #[.bool false, .bool false, .bool false, .bool false, .bool false, .bool false, .bool false, .bool false, .bool false, .bool false, .bool false, .bool false, .bool false, .bool false, .bool false, .bool false] 36)).heap[w3.heap.size]? = some (.cells (bools fun j => decide (j ∈ (lineOf n (flp R)).take 0)) 36 (0, 0)) := by
    rw [heap_new]
    simp [bools, List.range, List.range.loop]
  have hCa : Chg (fun k => k = w3.heap.size) w (w3.alloc (.cells #[.bool false, .bool false, .bool false, .bool false, .bool false, .bool false, .bool false, .bool false, .bool false, .bool false, .bool false, .bool false, .bool false, .bool false, .bool false, .bool false] 36)) := (HC5.out.alloc _).mono fun _ _ h => h.elim
  have hOa : IsOrd (w3.alloc (.cells #[.bool false, .bool false, .bool false, .bool false, .bool false, .bool false, .bool false, .bool false, .bool false, .bool false, .bool false, .bool false, .bool false, .bool false, .bool false, .bool false] 36)) b bu bd n n n R (flp R) := HO3.out.keep fun j c t f hj e => heap_alloc e
  have hca : ∀ i, i < n → ∃ g, s1 = some ⟨g, 0, none⟩ ∧ g ≠ w3.heap.size ∧ (w3.alloc (.cells #[.bool false, .bool false, .bool false, .bool false, .bool false, .bool false, .bool false, .bool false, .bool false, .bool false, .bool false, .bool false, .bool false, .bool false, .bool false, .bool false] 36)).cell? ⟨g, i, none⟩ = some (.int .i64 ((lineOf n (flp R)).getD i 0 : Nat)) := fun i hi => by
    obtain ⟨g, e, c⟩ := Hc1.out i hi
    have := lt_of_cell c
    exact ⟨g, e, by simp at this; omega, cell_alloc c _⟩
  have hH : w.heap.size ≤ w3.heap.size := HC5.out.size
  have HX0 := Lib.hid hx0
  have HCa := Lib.hid hCa
  have HOa := Lib.hid hOa
  have Hca := Lib.hid hca
  have hlt3 : b < w3.heap.size ∧ bu < w3.heap.size ∧ bd < w3.heap.size := hb3
  clear hx0 hCa hOa hca
  generalize w3.alloc _ = wa at *
  generalize w3.heap.size = H at *
  clear HO3 HC5 Hc1
  go_loopw [9] (fun i wr => ∃ k : Nat, k ≤ n ∧ i = .int .i64 k ∧ wr.heap[H]? = some (.cells (bools fun j => decide (j ∈ (lineOf n (flp R)).take k)) 36 (0, 0)) ∧ Chg (fun k => k = H) wa wr) (fun i _ => n - (intOf i).toNat)
  case atStart => exact ⟨0, by omega, rfl, HX0.out, Chg.refl _ _⟩
  case round =>
    obtain ⟨k, hk, rfl, hx, hC⟩ := hrel
    clear HX0
    by_cases hlt : k < n
    · obtain ⟨g, rfl, hgH, c0⟩ := Hca.out k hlt
      have c1 := hC.cell c0 (fun h => hgH h)
      have hxn := HF.out.2.1 k hlt
      have hrest := HF.out.2.2
      have hnot : (lineOf n (flp R)).getD k 0 ∉ (lineOf n (flp R)).take k := by
        intro hm
        obtain ⟨i, hi, e⟩ := List.getElem_of_mem hm
        have hi2 : i < k := by simp at hi; omega
        have e2 : (lineOf n (flp R)).getD i 0 = (lineOf n (flp R)).getD k 0 := by
          rw [← e]
          simp [List.getD, List.getElem?_eq_getElem (show i < (lineOf n (flp R)).length by have := HF.out.1; omega)]
        exact (hrest i k hi2 hlt).1 e2
      have htake : (lineOf n (flp R)).take (k + 1) = (lineOf n (flp R)).take k ++ [(lineOf n (flp R)).getD k 0] := by
        have hkl : k < (lineOf n (flp R)).length := by have := HF.out.1; omega
        rw [List.take_succ_eq_append_getElem hkl]
        simp [List.getD, hkl]
      have hO := HOa.out.keep fun j c t f hj e => hC.keep e (show ¬ j = H by omega)
      have hnext : ∀ i, i < k → ∃ g', (some ⟨g, 0, none⟩ : Option Addr) = some ⟨g', 0, none⟩ ∧ g' ≠ H ∧ wr.cell? ⟨g', i, none⟩ = some (.int .i64 ((lineOf n (flp R)).getD i 0 : Nat)) ∧ (lineOf n (flp R)).getD i 0 < n ∧ R ((lineOf n (flp R)).getD k 0) ((lineOf n (flp R)).getD i 0) = false := fun i hi => by
        obtain ⟨g', e, hg', c⟩ := Hca.out i (by omega)
        exact ⟨g', e, hg', hC.cell c (fun h => hg' h), HF.out.2.1 i (by omega), (hrest i k hi hlt).2⟩
      have hx1 : (wr.setCell ⟨H, (lineOf n (flp R)).getD k 0, none⟩ (.bool true)).heap[H]? = some (.cells (bools fun j => decide (j ∈ (lineOf n (flp R)).take (k + 1))) 36 (0, 0)) := by
        rw [heap_setCell_cells hx, bools_set _ _ (by omega), htake]
        congr 2
        congr 1
        funext j
        simp [Bool.or_comm]
      have hcb : wr.cell? ⟨H, (lineOf n (flp R)).getD k 0, none⟩ = some (.bool false) := by
        rw [cell_of_heap hx, bools_at _ _ (by omega), decide_eq_false hnot]
      have hfr := free_of_heap hx ((lineOf n (flp R)).getD k 0)
      have hMa := many_some hO
      unfold optr at hMa
      have hO2 : IsOrd (wr.setCell ⟨H, (lineOf n (flp R)).getD k 0, none⟩ (.bool true)) b bu bd n n n R (flp R) := hO.keep fun j c t f hj e => heap_setCell e (show j ≠ H by omega) _
      have hC2 := hC.setCell (p := ⟨H, (lineOf n (flp R)).getD k 0, none⟩) (.inl rfl) (.bool true)
      have hn2 : ∀ i, i < k → ∃ g', (some ⟨g, 0, none⟩ : Option Addr) = some ⟨g', 0, none⟩ ∧ (wr.setCell ⟨H, (lineOf n (flp R)).getD k 0, none⟩ (.bool true)).cell? ⟨g', i, none⟩ = some (.int .i64 ((lineOf n (flp R)).getD i 0 : Nat)) ∧ (lineOf n (flp R)).getD i 0 < n ∧ R ((lineOf n (flp R)).getD k 0) ((lineOf n (flp R)).getD i 0) = false := fun i hi => by
        obtain ⟨g', e, hg', c, r1, r2⟩ := hnext i hi
        exact ⟨g', e, cell_setCell c (fun h => hg' h.symm) _, r1, r2⟩
      have HX1 := Lib.hid hx1
      have HO2 := Lib.hid hO2
      have HC2 := Lib.hid hC2
      have HN2 := Lib.hid hn2
      have Hfin := Lib.hid htake
      clear hx hC c0 hrest hnot htake hO hnext hx1 hO2 hC2 hn2
      generalize hz : (lineOf n (flp R)).getD k 0 = x at *
      go_wp2_with fail
      refine hMa.mono ?_
      rintro e w' ⟨rfl, rfl⟩
      clear hMa
      go_wp2_with fail
      generalize wr.setCell _ _ = ws at *
      rw [show decide (n ≤ x) = false by simp; omega, show decide ((x : Int) < 0) = false by simp, Bool.or_false]
      go_loop [11] (fun i => ∃ q : Nat, q ≤ k ∧ i = .int .i64 q) (fun i => k - (intOf i).toNat)
      case atStart => exact ⟨0, by omega, rfl⟩
      case round =>
        obtain ⟨q, hq, rfl⟩ := hrel
        by_cases hlt2 : q < k
        · obtain ⟨g', e, c3, y1, y2⟩ := HN2.out q hlt2
          obtain rfl : g = g' := by simpa using e
          clear e
          have g1 := at_to HO2.out x _ hxn y1 false y2
          generalize (lineOf n (flp R)).getD q 0 = y at *
          go_wp2_with fail
          refine g1.mono ?_
          rintro e w' ⟨rfl, rfl⟩
          clear g1
          go_wp2
          go_round
          case rel => exact ⟨q + 1, by omega, by go_num⟩
          case measure => simp [intOf]; omega
        · go_wp2
          go_roundw
          case rel => exact ⟨k + 1, by omega, by go_num, HX1.out, HC2.out⟩
          case measure => simp [intOf]; omega
    · have hCw := (HCa.out.trans' hC fun _ _ h => h).mono (S' := fun _ => False) fun i hi h => by omega
      have hk := HW.out _ hCw
      have HCw := Lib.hid hCw
      clear hx hC hCw
      go_wp2_with fail
      refine hk.mono ?_
      rintro e w9 ⟨rfl, hC⟩
      have HC9 := Lib.hid hC
      clear hC hk
      go_wp2
      go_ret
      exact ⟨rfl, HCw.out.trans HC9.out⟩
end Go.Proofs.YtkonpkejddcegaaDoor
