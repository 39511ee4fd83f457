/- What is asked of the first world (tables of the library), and rows of texts. -/
import Derived.Test.YteiedafdakffeaaDoorProg
import Derived.Test.YteiedafdakffeaaDoorShelf
import Derived.Test.YteiedafdakffeaaDoorTxtPlain
import Derived.Test.YteiedafdakffeaaDoorPushR
import Derived.Test.YteiedafdakffeaaDoorWWords
import Derived.WalkSmall
import Derived.RangeFuncRecord
import Derived.WalkKit
import Derived.WalkSpells
import Derived.WalkLawsBesides
import Derived.Lib.Hide
namespace Go.Proofs.YteiedafdakffeaaDoor
set_option linter.unusedVariables false
set_option linter.unusedSimpArgs false
open Go Go.RowKit Go.Proofs Go.Shelf
open Go.Proofs.YteiedafdakffeaaDoorW.PrintWords (Kd Reps OwnRow)
/-- the variables of the library that the texts' functions read -/
structure WOk (w : World) : Prop where
  len : ∃ m, w.cell? ⟨0, 0, none⟩ = some (.int .i64 m)
theorem WOk.mono {w w' : World} (h : WOk w) (hb : Below w.heap.size w w') : WOk w' := by
  obtain ⟨m, hm⟩ := h.len
  exact ⟨⟨m, (hb.cell (World.block_lt_of_cell? w _ hm)).trans hm⟩⟩
theorem reps_strs (xs : List ByteArray) : Reps (fun (p : ByteArray) cs => cs = [Value.string p]) 1 xs (xs.map Value.string) := by
  refine ⟨by simp, fun j p hj => ?_⟩
  have hlt := (List.getElem?_eq_some_iff.1 hj).1
  rw [Nat.mul_one, List.drop_eq_getElem_cons (by simpa using hlt)]
  simp only [List.take_succ_cons, List.take_zero, List.getElem_map]
  rw [(List.getElem?_eq_some_iff.1 hj).2]
theorem R_strs {w : World} {base : Nat} {v : Value} {xs : List ByteArray} (h : w.ownsRow base 9 1 v xs.length (xs.map Value.string)) : Kd.R Kd.string 9 w base (fun _ => True) v xs :=
  ⟨fun _ _ => trivial, _, h, reps_strs xs⟩
/-- a row in a block of its own that holds more than is seen -/
theorem R_strs_of {w : World} {base g cap : Nat} {xs : List ByteArray} {cur : Array Value} (hg : base ≤ g) (hb : w.heap[g]? = some (.cells cur 9 (0, 0))) (hcap : xs.length ≤ cap) (hm : cap ≤ maxLen) (hs : cur.size = cap)
    (hc : cur.toList.take xs.length = xs.map Value.string) : Kd.R Kd.string 9 w base (fun _ => True) (.slice (some ⟨g, 0, none⟩) xs.length cap) xs :=
  R_strs ⟨by simp, .inr ⟨g, cap, cur, rfl, hg, hb, hcap, hm, by rw [hs, Nat.mul_one], by rw [Nat.mul_one]; exact hc⟩⟩
end Go.Proofs.YteiedafdakffeaaDoor
