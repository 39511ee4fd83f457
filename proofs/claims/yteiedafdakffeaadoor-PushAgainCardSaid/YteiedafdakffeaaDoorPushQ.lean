/- push: Same. -/
import Derived.Test.YteiedafdakffeaaDoorPushO
import Derived.Deep.QuietTactic
import Derived.BigQuiet
namespace Go.Proofs.YteiedafdakffeaaDoor
set_option linter.unusedVariables false
set_option linter.unusedSimpArgs false
open Go Go.RowKit
set_option maxRecDepth 100000 in
set_option maxHeartbeats 4000000 in
theorem same1_some (w : World) (b j b' j' : Nat) (x1 x2 x3 y1 y2 y3 v v' : Int) (hv : w.cell? ⟨b, j, none⟩ = some (.int .i64 v)) (hv' : w.cell? ⟨b', j', none⟩ = some (.int .i64 v')) :
    Calls Tryd.prog 56 #[.agg #[.int .i64 x1, .pointer (some ⟨b, j, none⟩), .int .i64 x2, .int .i64 x3], .agg #[.int .i64 y1, .pointer (some ⟨b', j', none⟩), .int .i64 y2, .int .i64 y3]] w fun e w' => e = .returned (.bool (v == v')) ∧ Chg (fun _ => False) w w' := by
  have l1 := World.block_lt_of_cell? w _ hv
  have l2 := World.block_lt_of_cell? w _ hv'
  go_enter Tryd.func56, Tryd.ntmps56
  go_wp2_with fail
  go_quiet (fail)
  go_wp2_with fail
  go_ret
  exact ⟨rfl, ((((Chg.refl _ _).alloc _).alloc _).drewN _)⟩
def sameTo (V V' : Nat → Int) (lo fr : Int) (n : Nat) : Bool := (List.range n).all fun i => V (fieldAt lo fr i).1 == V' (fieldAt lo fr i).1
theorem fieldAt_1 (lo fr lo' fr' : Int) (i : Nat) (hi : i < 6) : (fieldAt lo fr i).1 = (fieldAt lo' fr' i).1 := by
  have : i = 0 ∨ i = 1 ∨ i = 2 ∨ i = 3 ∨ i = 4 ∨ i = 5 := by omega
  rcases this with rfl | rfl | rfl | rfl | rfl | rfl <;> rfl
theorem sameTo_succ (V V' : Nat → Int) (lo fr : Int) (n : Nat) : sameTo V V' lo fr (n + 1) = (sameTo V V' lo fr n && (V (fieldAt lo fr n).1 == V' (fieldAt lo fr n).1)) := by
  unfold sameTo
  rw [List.range_succ, List.all_append]
  simp
set_option maxRecDepth 100000 in
set_option maxHeartbeats 4000000 in
theorem equal_fields (w : World) (g g' b b' : Nat) (lo fr lo' fr' : Int) (V V' : Nat → Int) (hg : w.heap[g]? = some (.cells (fieldCells b lo fr) 66 (0, 0))) (hg' : w.heap[g']? = some (.cells (fieldCells b' lo' fr') 66 (0, 0)))
    (hV : ∀ j, 1 ≤ j → j ≤ 6 → w.cell? ⟨b, j, none⟩ = some (.int .i64 (V j))) (hV' : ∀ j, 1 ≤ j → j ≤ 6 → w.cell? ⟨b', j, none⟩ = some (.int .i64 (V' j))) :
    Calls Tryd.prog 55 #[.slice (some ⟨g, 0, none⟩) 6 6, .slice (some ⟨g', 0, none⟩) 6 6, .func (.func 56) #[] #[]] w fun e w' => e = .returned (.bool (sameTo V V' lo fr 6)) ∧ Chg (fun _ => False) w w' := by
  have HG := Lib.hid hg
  have HG' := Lib.hid hg'
  have HV := Lib.hid hV
  have HV' := Lib.hid hV'
  clear hg hg' hV hV'
  go_enter Tryd.func55, Tryd.ntmps55
  go_wp2_with fail
  go_loopw [7, 8, 9, 17] (fun _ _ _ i wr => ∃ k : Nat, k ≤ 6 ∧ i = .int .i64 k ∧ sameTo V V' lo fr k = true ∧ Chg (fun _ => False) w wr) (fun _ _ _ i _ => 6 - (intOf i).toNat)
  case atStart => exact ⟨0, by omega, rfl, rfl, Chg.refl _ _⟩
  case round =>
    obtain ⟨k, hk, rfl, hq, hC⟩ := hrel
    by_cases hlt : k < 6
    · obtain ⟨f1, f2, f3, f4⟩ := fieldCells_at b lo fr k hlt
      obtain ⟨f1', f2', f3', f4'⟩ := fieldCells_at b' lo' fr' k hlt
      obtain ⟨p1, p2⟩ := fieldAt_place lo fr k
      have e1 := fieldAt_1 lo' fr' lo fr k hlt
      have hs := sameTo_succ V V' lo fr k
      have hgr := hC.keep HG.out (fun h => h)
      have hgr' := hC.keep HG'.out (fun h => h)
      rw [e1] at f2'
      have c1 : wr.cell? ⟨g, k * 4, none⟩ = some (.int .i64 (fieldAt lo fr k).2.1) := (cell_of_heap hgr _).trans f1
      have c2 : wr.cell? ⟨g, k * 4 + 1, none⟩ = some (.pointer (some ⟨b, (fieldAt lo fr k).1, none⟩)) := (cell_of_heap hgr _).trans f2
      have c3 : wr.cell? ⟨g, k * 4 + 2, none⟩ = some (.int .i64 (fieldAt lo fr k).2.2.1) := (cell_of_heap hgr _).trans f3
      have c4 : wr.cell? ⟨g, k * 4 + 3, none⟩ = some (.int .i64 (fieldAt lo fr k).2.2.2) := (cell_of_heap hgr _).trans f4
      have d1 : wr.cell? ⟨g', k * 4, none⟩ = some (.int .i64 (fieldAt lo' fr' k).2.1) := (cell_of_heap hgr' _).trans f1'
      have d2 : wr.cell? ⟨g', k * 4 + 1, none⟩ = some (.pointer (some ⟨b', (fieldAt lo fr k).1, none⟩)) := (cell_of_heap hgr' _).trans f2'
      have d3 : wr.cell? ⟨g', k * 4 + 2, none⟩ = some (.int .i64 (fieldAt lo' fr' k).2.2.1) := (cell_of_heap hgr' _).trans f3'
      have d4 : wr.cell? ⟨g', k * 4 + 3, none⟩ = some (.int .i64 (fieldAt lo' fr' k).2.2.2) := (cell_of_heap hgr' _).trans f4'
      have lg := lt_of_heap hgr
      have lg' := lt_of_heap hgr'
      have v1 := hC.cell (HV.out _ p1 p2) (fun h => h)
      have v2 := hC.cell (HV'.out _ p1 p2) (fun h => h)
      have lb := World.block_lt_of_cell? _ _ v1
      have lb' := World.block_lt_of_cell? _ _ v2
      simp only at lb lb'
      have HS := Lib.hid hs
      have HQ := Lib.hid hq
      have HK := Lib.hid hC
      clear f1 f2 f3 f4 f1' f2' f3' f4' p1 p2 hgr hgr' hq hC e1 hs
      generalize (fieldAt lo fr k).1 = j at *
      generalize (fieldAt lo fr k).2.1 = x1 at *
      generalize (fieldAt lo fr k).2.2.1 = x2 at *
      generalize (fieldAt lo fr k).2.2.2 = x3 at *
      generalize (fieldAt lo' fr' k).2.1 = y1 at *
      generalize (fieldAt lo' fr' k).2.2.1 = y2 at *
      generalize (fieldAt lo' fr' k).2.2.2 = y3 at *
      generalize V j = a at *
      generalize V' j = a' at *
      have hal := ((Chg.refl (fun _ => False) wr).alloc (.cells #[.int .i64 x1, .pointer (some ⟨b, j, none⟩), .int .i64 x2, .int .i64 x3] 66)).alloc (.cells #[.int .i64 y1, .pointer (some ⟨b', j, none⟩), .int .i64 y2, .int .i64 y3] 66)
      have he := same1_some _ b j b' j x1 x2 x3 y1 y2 y3 a a' (hal.cell v1 (fun h => h)) (hal.cell v2 (fun h => h))
      have HE := Lib.hid he
      have HAL := Lib.hid hal
      clear he hal v1 v2
      go_wp2_with fail
      refine HE.out.mono ?_
      rintro e w2 ⟨rfl, hC2⟩
      have HC2 := Lib.hid (HK.out.trans (HAL.out.trans hC2))
      clear HE hC2 c1 c2 c3 c4 d1 d2 d3 d4
      cases hab : (a == a')
      · go_wp2
        go_ret
        refine ⟨?_, HC2.out⟩
        have : sameTo V V' lo fr 6 = false := by
          have hkk : sameTo V V' lo fr (k + 1) = false := by rw [HS.out, hab, Bool.and_false]
          have : ∀ m, k + 1 ≤ m → sameTo V V' lo fr m = false := by
            intro m hm
            induction m with
            | zero => omega
            | succ m ih =>
              rcases Nat.lt_or_ge m (k + 1) with h | h
              · obtain rfl : m = k := by omega
                exact hkk
              · rw [sameTo_succ, ih h, Bool.false_and]
          exact this 6 (by omega)
        rw [this]
        rfl
      · have HN : Hid (sameTo V V' lo fr (k + 1) = true) := Lib.hid (by rw [HS.out, HQ.out, hab]; rfl)
        go_wp2
        go_roundw
        case rel => exact ⟨k + 1, by omega, by go_num, HN.out, HC2.out⟩
        case measure => simp [intOf] <;> omega
    · obtain rfl : k = 6 := by omega
      have HQ := Lib.hid hq
      have HK := Lib.hid hC
      clear hq hC
      go_wp2
      go_ret
      exact ⟨by rw [HQ.out]; rfl, HK.out⟩
/-! ### slices.Equal -/
theorem lns_cells {w : World} {A : Option Addr} {l : List ByteArray} (h : Lns w A l) (h0 : 0 < l.length) : ∃ g p, A = some ⟨g, p, none⟩ ∧ ∀ j, j < l.length → w.cell? ⟨g, p + j, none⟩ = some (.string (l.getD j ByteArray.empty)) := by
  obtain ⟨g, p, rfl, _⟩ := h 0 h0
  refine ⟨g, p, rfl, fun j hj => ?_⟩
  obtain ⟨g', p', e, hc⟩ := h j hj
  cases e
  exact hc
set_option maxRecDepth 100000 in
set_option maxHeartbeats 4000000 in
theorem equal_some (w : World) (A B : Option Addr) (l m : List ByteArray) (c d : Nat) (hl : Lns w A l) (hm : Lns w B m) (h1 : l.length ≤ 9223372036854775807) (h2 : m.length ≤ 9223372036854775807) :
    Calls Tryd.prog 57 #[.slice A l.length c, .slice B m.length d] w fun e w' => e = .returned (.bool (decide (l = m))) ∧ Chg (fun _ => False) w w' := by
  by_cases hn : l.length = m.length
  · rcases Nat.eq_zero_or_pos l.length with h0 | h0
    · have el : l = [] := List.length_eq_zero_iff.1 h0
      have em : m = [] := List.length_eq_zero_iff.1 (by omega)
      subst el em
      refine (Tryd.slices_Equal_string_empty A B c 0 d w (by omega)).mono ?_
      rintro e w' ⟨rfl, rfl⟩
      exact ⟨rfl, Chg.refl _ _⟩
    · obtain ⟨g, p, rfl, hc⟩ := lns_cells hl h0
      obtain ⟨g', p', rfl, hc'⟩ := lns_cells hm (by omega)
      refine (Tryd.slices_Equal_string g p l.length c g' p' m.length d l m w (Nat.le_refl _) (Nat.le_refl _) h1 h2 hc hc').mono ?_
      rintro e w' ⟨rfl, q, rfl⟩
      rw [List.take_length, List.take_length]
      exact ⟨rfl, (Chg.refl _ _).drewN q⟩
  · have hd : decide (l = m) = false := decide_eq_false (fun e => hn (by rw [e]))
    rw [hd]
    have hne : ((l.length : Int) == (m.length : Int)) = false := by rw [beq_eq_false_iff_ne]; omega
    have hne2 : ((l.length : Int) != (m.length : Int)) = true := by rw [bne_iff_ne]; omega
    clear hd hl hm
    go_enter Tryd.func57, Tryd.ntmps57
    go_wp2_with fail
    go_ret
    exact ⟨rfl, Chg.refl _ _⟩
end Go.Proofs.YteiedafdakffeaaDoor
