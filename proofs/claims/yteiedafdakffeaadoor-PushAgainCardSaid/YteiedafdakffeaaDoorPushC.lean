/- push: each of the fields. -/
import Derived.Test.YteiedafdakffeaaDoorPushB
import Derived.Laws.EntriesVeiled
import Derived.Lib.Hide
import Derived.WalkKit
import Derived.WalkLawsBesides
import Derived.WalkSpells
namespace Go.Proofs.YteiedafdakffeaaDoor
set_option linter.unusedVariables false
set_option linter.unusedSimpArgs false
open Go Go.RowKit
def isV (o : Nat) : Value := .func (.func 60) #[] #[.pointer (some ⟨o, 0, none⟩)]
set_option maxRecDepth 100000 in
set_option maxHeartbeats 4000000 in
theorem each1_some (w : World) (b j o c : Nat) (own bit v lo hi : Int) (ho : w.cell? ⟨o, 0, none⟩ = some (.int .i64 own)) (hv : w.cell? ⟨b, j, none⟩ = some (.int .i64 v)) (hc : w.cell? ⟨c, 0, none⟩ = some (.func (.func 60) #[] #[.pointer (some ⟨o, 0, none⟩)])) :
    Calls Tryd.prog 74 #[.agg #[.int .i64 bit, .pointer (some ⟨b, j, none⟩), .int .i64 lo, .int .i64 hi], .pointer (some ⟨c, 0, none⟩)] w fun e w' => e = .returned (.bool (!fieldOk own bit v lo hi)) ∧ Chg (fun _ => False) w w' := by
  have lc := World.block_lt_of_cell? w _ hc
  have hw1 := check1_some (w.alloc (.cells #[.int .i64 bit, .pointer (some ⟨b, j, none⟩), .int .i64 lo, .int .i64 hi] 66)) b j o own bit v lo hi (((Chg.refl (fun _ => False) w).alloc _).cell ho (fun h => h)) (((Chg.refl (fun _ => False) w).alloc _).cell hv (fun h => h))
  have H1 := Lib.hid hw1
  clear hw1
  go_enter Tryd.func74, Tryd.ntmps74
  go_wp2_with fail
  refine H1.out.mono ?_
  rintro e w2 ⟨rfl, hC⟩
  have HC := Lib.hid hC
  clear hC H1
  cases hq : fieldOk own bit v lo hi
  · go_wp2
    go_ret
    exact ⟨by first | rfl | (rw [hq]; rfl), ((Chg.refl _ _).alloc _).trans HC.out⟩
  · go_wp2
    go_ret
    exact ⟨by first | rfl | (rw [hq]; rfl), ((Chg.refl _ _).alloc _).trans HC.out⟩
end Go.Proofs.YteiedafdakffeaaDoor
