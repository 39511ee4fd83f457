/- push: what Check asks of a line; each of the lines. -/
import Derived.Test.YteiedafdakffeaaDoorPushE
import Derived.Test.YteiedafdakffeaaDoorShelf
namespace Go.Proofs.YteiedafdakffeaaDoor
set_option linter.unusedVariables false
set_option linter.unusedSimpArgs false
open Go Go.RowKit
/-- has a text a line feed? -/
def has10 (s : ByteArray) : Bool := decide (0 ≤ Lib.indexByte s.data.toList 10)
set_option maxRecDepth 100000 in
set_option maxHeartbeats 4000000 in
theorem check2_some (w : World) (o : Nat) (many : Int) (s : ByteArray) (ho : w.heap[o]? = some (.cells #[.int .i64 many] 3 (0, 0))) :
    Calls Tryd.prog 62 #[.string s, .pointer (some ⟨o, 0, none⟩)] w fun e w' => e = .returned (.bool (!has10 s)) ∧ w' = w.setCell ⟨o, 0, none⟩ (.int .i64 (wrap64 (many + s.size))) := by
  have c0 : w.cell? ⟨o, 0, none⟩ = some (.int .i64 many) := by rw [cell_of_heap ho]; rfl
  have hf : w.frozen? ⟨o, 0, none⟩ = false := by simp [World.frozen?, ho]
  have hsh := Tryd.strings_Contains_one s 10
  have HS := Lib.hid hsh
  clear hsh
  go_enter Tryd.func62, Tryd.ntmps62
  go_wp2_with fail
  refine (HS.out _).mono ?_
  rintro e w2 ⟨rfl, rfl⟩
  have e10 : has10 s = decide (0 ≤ Lib.indexByte s.data.toList 10) := rfl
  cases hq : has10 s
  · rw [hq] at e10
    rw [← e10]
    go_wp2
    go_ret
    exact ⟨by first | rfl | (rw [hq]; rfl), rfl⟩
  · rw [hq] at e10
    rw [← e10]
    go_wp2
    go_ret
    exact ⟨by first | rfl | (rw [hq]; rfl), rfl⟩
end Go.Proofs.YteiedafdakffeaaDoor
