/- push: each of the fields. -/
import Derived.Test.YteiedafdakffeaaDoorPushD
namespace Go.Proofs.YteiedafdakffeaaDoor
set_option linter.unusedVariables false
set_option linter.unusedSimpArgs false
open Go Go.RowKit
set_option maxRecDepth 100000 in
set_option maxHeartbeats 4000000 in
theorem contains_fields (w : World) (g b o c : Nat) (own lo fr : Int) (V : Nat → Int) (ho : w.cell? ⟨o, 0, none⟩ = some (.int .i64 own)) (hV : ∀ j, 1 ≤ j → j ≤ 6 → w.cell? ⟨b, j, none⟩ = some (.int .i64 (V j)))
    (hc : w.cell? ⟨c, 0, none⟩ = some (.func (.func 60) #[] #[.pointer (some ⟨o, 0, none⟩)])) (hg : w.heap[g]? = some (.cells (fieldCells b lo fr) 66 (0, 0))) :
    Calls Tryd.prog 73 #[.slice (some ⟨g, 0, none⟩) 6 6, .func (.func 74) #[] #[.pointer (some ⟨c, 0, none⟩)]] w fun e w' =>
      e = .returned (.bool (!allOk own lo fr V)) ∧ Chg (fun _ => False) w w' := by
  have hi := index_fields w g b o c own lo fr V ho hV hc hg
  clear ho hV hc hg
  go_enter Tryd.func73, Tryd.ntmps73
  go_wp2_with fail
  refine hi.mono ?_
  rintro e w2 ⟨r, rfl, hr, hC⟩
  have HC := Lib.hid hC
  clear hi hC
  cases hq : allOk own lo fr V
  · rw [hq] at hr
    go_wp2
    go_ret
    exact ⟨by first | rfl | (rw [hq]; rfl) | (rw [hq, ← hr]; rfl), HC.out⟩
  · rw [hq] at hr
    go_wp2
    go_ret
    exact ⟨by first | rfl | (rw [hq]; rfl) | (rw [hq, ← hr]; rfl), HC.out⟩
set_option maxRecDepth 100000 in
set_option maxHeartbeats 4000000 in
theorem each_fields (w : World) (g b o : Nat) (own lo fr : Int) (V : Nat → Int) (ho : w.cell? ⟨o, 0, none⟩ = some (.int .i64 own)) (hV : ∀ j, 1 ≤ j → j ≤ 6 → w.cell? ⟨b, j, none⟩ = some (.int .i64 (V j)))
    (hg : w.heap[g]? = some (.cells (fieldCells b lo fr) 66 (0, 0))) :
    Calls Tryd.prog 59 #[.slice (some ⟨g, 0, none⟩) 6 6, .func (.func 60) #[] #[.pointer (some ⟨o, 0, none⟩)]] w fun e w' =>
      e = .returned (.bool (allOk own lo fr V)) ∧ Chg (fun _ => False) w w' := by
  have hA := (Chg.refl (fun _ => False) w).alloc (.cells #[.func (.func 60) #[] #[.pointer (some ⟨o, 0, none⟩)]] 93)
  have hi := contains_fields (w.alloc (.cells #[.func (.func 60) #[] #[.pointer (some ⟨o, 0, none⟩)]] 93)) g b o w.heap.size own lo fr V (hA.cell ho (fun h => h)) (fun j h1 h2 => hA.cell (hV j h1 h2) (fun h => h))
    (cell_of_heap (heap_alloc_new w _) 0) (hA.keep hg (fun h => h))
  have HI := Lib.hid hi
  have HA := Lib.hid hA
  clear ho hV hg hi hA
  go_enter Tryd.func59, Tryd.ntmps59
  go_wp2_with fail
  refine HI.out.mono ?_
  rintro e w2 ⟨rfl, hC⟩
  have HC := Lib.hid hC
  clear HI hC
  cases hq : allOk own lo fr V
  · go_wp2
    go_ret
    exact ⟨by first | rfl | (rw [hq]; rfl), HA.out.trans HC.out⟩
  · go_wp2
    go_ret
    exact ⟨by first | rfl | (rw [hq]; rfl), HA.out.trans HC.out⟩
end Go.Proofs.YteiedafdakffeaaDoor
