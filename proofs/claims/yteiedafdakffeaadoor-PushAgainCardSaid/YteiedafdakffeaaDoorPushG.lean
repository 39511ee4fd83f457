/- push: each of the lines. -/
import Derived.Test.YteiedafdakffeaaDoorPushF
namespace Go.Proofs.YteiedafdakffeaaDoor
set_option linter.unusedVariables false
set_option linter.unusedSimpArgs false
open Go Go.RowKit
set_option maxRecDepth 100000 in
set_option maxHeartbeats 4000000 in
theorem each1s_some (w : World) (o c : Nat) (many : Int) (s : ByteArray) (ho : w.heap[o]? = some (.cells #[.int .i64 many] 3 (0, 0))) (hc : w.cell? ⟨c, 0, none⟩ = some (.func (.func 62) #[] #[.pointer (some ⟨o, 0, none⟩)])) :
    Calls Tryd.prog 76 #[.string s, .pointer (some ⟨c, 0, none⟩)] w fun e w' => e = .returned (.bool (has10 s)) ∧ w' = w.setCell ⟨o, 0, none⟩ (.int .i64 (wrap64 (many + s.size))) := by
  have lc := World.block_lt_of_cell? w _ hc
  have hw1 := check2_some w o many s ho
  have H1 := Lib.hid hw1
  clear hw1 ho
  go_enter Tryd.func76, Tryd.ntmps76
  go_wp2_with fail
  refine H1.out.mono ?_
  rintro e w2 ⟨rfl, rfl⟩
  cases hq : has10 s
  · go_wp2
    go_ret
    exact ⟨by first | rfl | (rw [hq]; rfl), rfl⟩
  · go_wp2
    go_ret
    exact ⟨by first | rfl | (rw [hq]; rfl), rfl⟩
end Go.Proofs.YteiedafdakffeaaDoor
