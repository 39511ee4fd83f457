/- push: the first of the fields that may not be; each of them. -/
import Derived.Test.YteiedafdakffeaaDoorPushC
namespace Go.Proofs.YteiedafdakffeaaDoor
set_option linter.unusedVariables false
set_option linter.unusedSimpArgs false
open Go Go.RowKit
/-- field i: its place in the packet, its bit, and between which numbers -/
def fieldAt (lo fr : Int) : Nat → Nat × Int × Int × Int
  | 0 => (1, 1, lo, 9007199254740991)
  | 1 => (2, 2, 1, fr)
  | 2 => (3, 4, 0, 6)
  | 3 => (4, 8, 0, 9007199254740991)
  | 4 => (5, 16, 0, 65536)
  | _ => (6, 32, 0, 65536)
def okAt (own lo fr : Int) (V : Nat → Int) (i : Nat) : Bool := fieldOk own (fieldAt lo fr i).2.1 (V (fieldAt lo fr i).1) (fieldAt lo fr i).2.2.1 (fieldAt lo fr i).2.2.2
def allOk (own lo fr : Int) (V : Nat → Int) : Bool := (List.range 6).all (okAt own lo fr V)
theorem fieldCells_at (b : Nat) (lo fr : Int) (i : Nat) (hi : i < 6) :
    (fieldCells b lo fr)[i * 4]? = some (.int .i64 (fieldAt lo fr i).2.1) ∧ (fieldCells b lo fr)[i * 4 + 1]? = some (.pointer (some ⟨b, (fieldAt lo fr i).1, none⟩)) ∧
      (fieldCells b lo fr)[i * 4 + 2]? = some (.int .i64 (fieldAt lo fr i).2.2.1) ∧ (fieldCells b lo fr)[i * 4 + 3]? = some (.int .i64 (fieldAt lo fr i).2.2.2) := by
  have : i = 0 ∨ i = 1 ∨ i = 2 ∨ i = 3 ∨ i = 4 ∨ i = 5 := by omega
  rcases this with rfl | rfl | rfl | rfl | rfl | rfl <;> exact ⟨rfl, rfl, rfl, rfl⟩
theorem fieldAt_place (lo fr : Int) (i : Nat) : 1 ≤ (fieldAt lo fr i).1 ∧ (fieldAt lo fr i).1 ≤ 6 := by
  unfold fieldAt
  split <;> simp
set_option maxRecDepth 100000 in
set_option maxHeartbeats 4000000 in
theorem index_fields (w : World) (g b o c : Nat) (own lo fr : Int) (V : Nat → Int) (ho : w.cell? ⟨o, 0, none⟩ = some (.int .i64 own)) (hV : ∀ j, 1 ≤ j → j ≤ 6 → w.cell? ⟨b, j, none⟩ = some (.int .i64 (V j)))
    (hc : w.cell? ⟨c, 0, none⟩ = some (.func (.func 60) #[] #[.pointer (some ⟨o, 0, none⟩)])) (hg : w.heap[g]? = some (.cells (fieldCells b lo fr) 66 (0, 0))) :
    Calls Tryd.prog 80 #[.slice (some ⟨g, 0, none⟩) 6 6, .func (.func 74) #[] #[.pointer (some ⟨c, 0, none⟩)]] w fun e w' =>
      ∃ r : Int, e = .returned (.int .i64 r) ∧ decide (0 ≤ r) = !allOk own lo fr V ∧ Chg (fun _ => False) w w' := by
  have HO := Lib.hid ho
  have HV := Lib.hid hV
  have HC := Lib.hid hc
  have HG := Lib.hid hg
  clear ho hV hc hg
  go_enter Tryd.func80, Tryd.ntmps80
  go_wp2_with fail
  go_loopw [8] (fun i wr => ∃ k : Nat, k ≤ 6 ∧ i = .int .i64 k ∧ (∀ q, q < k → okAt own lo fr V q = true) ∧ Chg (fun _ => False) w wr) (fun i _ => 6 - (intOf i).toNat)
  case atStart => exact ⟨0, by omega, rfl, fun q hq => by omega, Chg.refl _ _⟩
  case round =>
    obtain ⟨k, hk, rfl, hq, hC⟩ := hrel
    by_cases hlt : k < 6
    · obtain ⟨f1, f2, f3, f4⟩ := fieldCells_at b lo fr k hlt
      obtain ⟨p1, p2⟩ := fieldAt_place lo fr k
      have hgr := hC.keep HG.out (fun h => h)
      have c1 : wr.cell? ⟨g, k * 4, none⟩ = some (.int .i64 (fieldAt lo fr k).2.1) := (cell_of_heap hgr _).trans f1
      have c2 : wr.cell? ⟨g, k * 4 + 1, none⟩ = some (.pointer (some ⟨b, (fieldAt lo fr k).1, none⟩)) := (cell_of_heap hgr _).trans f2
      have c3 : wr.cell? ⟨g, k * 4 + 2, none⟩ = some (.int .i64 (fieldAt lo fr k).2.2.1) := (cell_of_heap hgr _).trans f3
      have c4 : wr.cell? ⟨g, k * 4 + 3, none⟩ = some (.int .i64 (fieldAt lo fr k).2.2.2) := (cell_of_heap hgr _).trans f4
      have he := each1_some wr b (fieldAt lo fr k).1 o c own (fieldAt lo fr k).2.1 (V (fieldAt lo fr k).1) (fieldAt lo fr k).2.2.1 (fieldAt lo fr k).2.2.2 (hC.cell HO.out (fun h => h)) (hC.cell (HV.out _ p1 p2) (fun h => h)) (hC.cell HC.out (fun h => h))
      have ek : okAt own lo fr V k = fieldOk own (fieldAt lo fr k).2.1 (V (fieldAt lo fr k).1) (fieldAt lo fr k).2.2.1 (fieldAt lo fr k).2.2.2 := rfl
      rw [← ek] at he
      have HQ := Lib.hid hq
      have HK := Lib.hid hC
      clear f1 f2 f3 f4 p1 p2 hgr hq hC ek
      generalize (fieldAt lo fr k).1 = j at *
      generalize (fieldAt lo fr k).2.1 = x1 at *
      generalize (fieldAt lo fr k).2.2.1 = x2 at *
      generalize (fieldAt lo fr k).2.2.2 = x3 at *
      go_wp2_with fail
      refine he.mono ?_
      rintro e w2 ⟨rfl, hC2⟩
      have HC2 := Lib.hid (HK.out.trans hC2)
      clear he hC2 c1 c2 c3 c4
      cases hok : okAt own lo fr V k
      · go_wp2
        go_ret
        refine ⟨k, rfl, ?_, HC2.out⟩
        have : allOk own lo fr V = false := by
          unfold allOk
          rw [List.all_eq_false]
          exact ⟨k, List.mem_range.2 hlt, by rw [hok]; simp⟩
        rw [this]
        exact decide_eq_true (by omega)
      · go_wp2
        go_roundw
        case rel => exact ⟨k + 1, by omega, by go_num, fun q hq2 => by
          by_cases e : q = k
          · subst e; exact hok
          · exact HQ.out q (by omega), HC2.out⟩
        case measure => simp [intOf] <;> omega
    · have HQ := Lib.hid hq
      have HK := Lib.hid hC
      clear hq hC
      go_wp2
      go_ret
      refine ⟨-1, rfl, ?_, HK.out⟩
      have : allOk own lo fr V = true := by
        unfold allOk
        rw [List.all_eq_true]
        intro q hq2
        exact HQ.out q (by have := List.mem_range.1 hq2; omega)
      rw [this]
      rfl
end Go.Proofs.YteiedafdakffeaaDoor
