/- What the texts' functions stand on at this seat: the library's variables. -/
import Derived.Test.YtfhmmekamommcaaGreatDoorProg
import Derived.Test.YtfhmmekamommcaaGreatDoorShelf
import Derived.Test.YtfhmmekamommcaaGreatDoorTxtPlain
import Derived.WalkSmall
import Derived.RangeFuncRecord
import Derived.WalkKit
import Derived.WalkSpells
import Derived.WalkLawsBesides
import Derived.Lib.Hide
import Derived.Lib.LaidTab
import Derived.Lib.ItoaNum
namespace Go.Proofs.YtfhmmekamommcaaGreatDoor
set_option linter.unusedVariables false
set_option linter.unusedSimpArgs false
open Go Go.RowKit Go.Proofs Go.Shelf
/-- the variables of the library that the texts' functions read -/
structure WOk (w : World) : Prop where
  tab : Lib.TabIs Tryz.prog w "internal/strconv.uint64pow10" .u64 Lib.pow10Tab
  rng : ∃ tp p, w.var? Tryz.prog "strconv.ErrRange" = some #[.iface tp p]
theorem var?_lt {P : Program} {w : World} {n : String} {g : Nat} {cs : Array Value} (hg : P.globalNamed n = some g) (h : w.var? P n = some cs) : g < w.heap.size := by
  rcases Nat.lt_or_ge g w.heap.size with hl | hl
  · exact hl
  · unfold World.var? at h
    rw [hg] at h
    simp [hl] at h
theorem gPow : Tryz.prog.globalNamed "internal/strconv.uint64pow10" = some 6 := by kernel_rfl
theorem gRng : Tryz.prog.globalNamed "strconv.ErrRange" = some 5 := by kernel_rfl
theorem WOk.mono {w w' : World} (h : WOk w) (hb : Below w.heap.size w w') : WOk w' := by
  obtain ⟨tp, p, hr⟩ := h.rng
  exact ⟨var?_below hb gPow (var?_lt gPow h.tab) h.tab, tp, p, var?_below hb gRng (var?_lt gRng hr) hr⟩
end Go.Proofs.YtfhmmekamommcaaGreatDoor
