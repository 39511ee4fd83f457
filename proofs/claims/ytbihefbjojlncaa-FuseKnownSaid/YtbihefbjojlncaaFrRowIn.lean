/- fuse: rows of calls that came in. -/
import Derived.Test.YtbihefbjojlncaaFsRowIn
namespace Go.Proofs.Ytbihefbjojlncaa
set_option linter.unusedVariables false
set_option linter.unusedSimpArgs false
open Go Go.RowKit Go.ChangeShapes Go.WideShapes Go.ChangeAt
abbrev DoT := Bool × Bool × Bool × Int × Int × Int
def doC (c : DoT) : List Value := [.bool c.1, .bool c.2.1, .bool c.2.2.1, .int .i64 c.2.2.2.1, .int .i64 c.2.2.2.2.1, .int .i64 c.2.2.2.2.2]
def DoOk (c : DoT) : Prop := I64 c.2.2.2.1 ∧ I64 c.2.2.2.2.1 ∧ I64 c.2.2.2.2.2
set_option maxRecDepth 100000 in
theorem dos_row {H : Type} {enc : TypeId × Value → H} {W : World} {base fuel : Nat} {sp : Nat → Bool} {held : Bool} {v : Value} {x : DataW H × List MemPlace}
    (h : DataW.trod enc Try.prog W base sp held fuel 22 [v] = some x) :
    ∃ A L cap, v = .slice A (List.length L) cap ∧ InRows 6 doC W A L ∧ (∀ c ∈ L, DoOk c) ∧ L.length ≤ maxLen := by
  have c6 : Try.prog.cellsOf 34 = 6 := by kernel_rfl
  have c2 : Try.prog.cellsOf 32 = 2 := by kernel_rfl
  have c1 : Try.prog.cellsOf 3 = 1 := by kernel_rfl
  have cl : Try.prog.cellsOf 30 = 1 := by kernel_rfl
  have cb : Try.prog.cellsOf 4 = 1 := by kernel_rfl
  refine open_rows doC DoOk Try.underlying22 c6 (by omega) (fun n cs y hl hf => ?_) h
  match cs, hl with
  | [a, b, c, d, e, f], _ =>
    obtain ⟨ys, m, _, _, _, hly, hfi⟩ := DataW.trod_struct Try.underlying34 hf
    have f0 := hfi 0 _ rfl
    have f1 := hfi 1 _ rfl
    have f2 := hfi 2 _ rfl
    have f3 := hfi 3 _ rfl
    have f4 := hfi 4 _ rfl
    match ys, hly with
    | [y0, y1, y2, y3, y4], _ =>
      simp [c1, c2, cb] at f0 f1 f2 f3 f4
      obtain ⟨b0, e0, _⟩ := DataW.trod_bool Try.underlying4 f0
      obtain ⟨b1, e1, _⟩ := DataW.trod_bool Try.underlying4 f1
      obtain ⟨b2, e2, _⟩ := DataW.trod_bool Try.underlying4 f2
      obtain ⟨zs, m', _, _, _, hlz, hgi⟩ := DataW.trod_struct Try.underlying32 f3
      have g0 := hgi 0 _ rfl
      have g1 := hgi 1 _ rfl
      obtain ⟨x4, e4, _, w4⟩ := DataW.trod_int Try.underlying3 f4
      match zs, hlz with
      | [z0, z1], _ =>
        simp [c1, cl] at g0 g1
        obtain ⟨x0, h0, _, w0⟩ := DataW.trod_int Try.underlying3 g0
        obtain ⟨x1, h1, _, w1⟩ := DataW.trod_int Try.underlying30 g1
        simp at e0 e1 e2 e4 h0 h1
        subst e0 e1 e2 e4 h0 h1
        exact ⟨(b0, b1, b2, x0, x1, x4), rfl, i64_of w0, i64_of w1, i64_of w4⟩
end Go.Proofs.Ytbihefbjojlncaa
