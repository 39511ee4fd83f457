/- push: a packet that came in. -/
import Derived.Test.YteiedafdakffeaaDoorRowInQ
import Derived.Test.YteiedafdakffeaaDoorPuC
namespace Go.Proofs.YteiedafdakffeaaDoor
set_option linter.unusedVariables false
set_option linter.unusedSimpArgs false
open Go Go.RowKit Go.ChangeShapes Go.WideShapes Go.ChangeAt
def vOf (a b c d e f : Int) : Nat → Int
  | 1 => a
  | 2 => b
  | 3 => c
  | 4 => d
  | 5 => e
  | 6 => f
  | _ => 0
theorem nine' {α : Type} (l : List α) (h : l.length = 9) : ∃ a b c d e f g i j, l = [a, b, c, d, e, f, g, i, j] := by
  match l, h with
  | [a, b, c, d, e, f, g, i, j], _ => exact ⟨a, b, c, d, e, f, g, i, j, rfl⟩
set_option maxRecDepth 100000 in
theorem push_row {H : Type} {enc : TypeId × Value → H} {W : World} {r : Reach} {b0 base : Nat} {sp : Nat → Bool} {held : Bool} {v : Value} {d : DataW H} {p : List MemPlace}
    (hv : Value.okWide Tryd.prog W r b0 26 v) (h : DataW.Trod enc Tryd.prog W base sp held 26 v d p) :
    ∃ (k : Int) (V : Nat → Int) (tx : ByteArray) (A : Option Addr) (l : List ByteArray) (c : Nat), v = .agg (pk k V tx (.slice A l.length c)) ∧ I64 k ∧ (∀ q, 1 ≤ q → q ≤ 6 → I64 (V q)) ∧ Lns W A l ∧ (∀ s ∈ l, s.size ≤ 9223372036854775807) ∧ l.length ≤ 9223372036854775807 := by
  have c9 : Tryd.prog.cellsOf 26 = 9 := by kernel_rfl
  have ci : Tryd.prog.cellsOf 3 = 1 := by kernel_rfl
  have cS : Tryd.prog.cellsOf 9 = 1 := by kernel_rfl
  have cL : Tryd.prog.cellsOf 24 = 1 := by kernel_rfl
  obtain ⟨cs, rfl, hsz⟩ := okWide_struct Tryd.underlying26 hv
  obtain ⟨fuel, hf⟩ := h
  obtain ⟨l⟩ := cs
  rw [c9] at hsz
  obtain ⟨a0, a1, a2, a3, a4, a5, a6, a7, a8, rfl⟩ := nine l hsz
  have hf : DataW.trod enc Tryd.prog W base sp held fuel 26 [a0, a1, a2, a3, a4, a5, a6, a7, a8] = some (d, p) := hf
  obtain ⟨ys, m, _, _, _, hly, hfi⟩ := DataW.trod_struct Tryd.underlying26 hf
  obtain ⟨y0, y1, y2, y3, y4, y5, y6, y7, y8, rfl⟩ := nine' ys hly
  have f0 := hfi 0 _ rfl
  have f1 := hfi 1 _ rfl
  have f2 := hfi 2 _ rfl
  have f3 := hfi 3 _ rfl
  have f4 := hfi 4 _ rfl
  have f5 := hfi 5 _ rfl
  have f6 := hfi 6 _ rfl
  have f7 := hfi 7 _ rfl
  have f8 := hfi 8 _ rfl
  simp [ci, cS, cL] at f0 f1 f2 f3 f4 f5 f6 f7 f8
  obtain ⟨n0, e0, _, w0⟩ := DataW.trod_int Tryd.underlying3 f0
  obtain ⟨n1, e1, _, w1⟩ := DataW.trod_int Tryd.underlying3 f1
  obtain ⟨n2, e2, _, w2⟩ := DataW.trod_int Tryd.underlying3 f2
  obtain ⟨n3, e3, _, w3⟩ := DataW.trod_int Tryd.underlying3 f3
  obtain ⟨n4, e4, _, w4⟩ := DataW.trod_int Tryd.underlying3 f4
  obtain ⟨n5, e5, _, w5⟩ := DataW.trod_int Tryd.underlying3 f5
  obtain ⟨n6, e6, _, w6⟩ := DataW.trod_int Tryd.underlying3 f6
  obtain ⟨tx, e7, _, _⟩ := DataW.trod_string Tryd.underlying9 f7
  obtain ⟨A, L, c, rfl, hL, hS, hN⟩ := strs_lns f8
  simp at e0 e1 e2 e3 e4 e5 e6 e7
  subst e0 e1 e2 e3 e4 e5 e6 e7
  refine ⟨n0, vOf n1 n2 n3 n4 n5 n6, tx, A, L, c, rfl, i64_of w0, fun q h1 h6 => ?_, hL, hS, hN⟩
  have : q = 1 ∨ q = 2 ∨ q = 3 ∨ q = 4 ∨ q = 5 ∨ q = 6 := by omega
  rcases this with rfl | rfl | rfl | rfl | rfl | rfl
  · exact i64_of w1
  · exact i64_of w2
  · exact i64_of w3
  · exact i64_of w4
  · exact i64_of w5
  · exact i64_of w6
end Go.Proofs.YteiedafdakffeaaDoor
