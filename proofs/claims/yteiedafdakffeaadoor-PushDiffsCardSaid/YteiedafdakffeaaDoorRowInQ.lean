/- What a law's row gives its walk: a seed of a packet. -/
import Derived.Test.YteiedafdakffeaaDoorRowInP
import Derived.Test.YteiedafdakffeaaDoorPuI
import Derived.OpenShut
namespace Go.Proofs.YteiedafdakffeaaDoor
set_option linter.unusedVariables false
set_option linter.unusedSimpArgs false
open Go Go.RowKit Go.ChangeShapes Go.WideShapes Go.ChangeAt Go.Shelf
open Go.Proofs.YteiedafdakffeaaDoorW.PrintWords (Kd)
theorem i64_of {n : Int} (h : (Lit.int .i64 n).wf = true) : I64 n := by
  simp [Lit.wf, IntKind.min, IntKind.max, IntKind.signed, IntKind.bits] at h
  unfold I64
  omega
/-- a row of texts that came in, by its cells -/
theorem strs_lns {H : Type} {enc : TypeId × Value → H} {W : World} {base fuel : Nat} {sp : Nat → Bool} {held : Bool} {c : Value} {x : DataW H × List MemPlace}
    (h : DataW.trod enc Tryd.prog W base sp held fuel 24 [c] = some x) :
    ∃ (A : Option Addr) (l : List ByteArray) (cap : Nat), c = .slice A l.length cap ∧ Lns W A l ∧ (∀ s ∈ l, s.size ≤ 9223372036854775807) ∧ l.length ≤ 9223372036854775807 := by
  rcases open_strings Tryd.underlying24 Tryd.underlying9 (by kernel_rfl) h with ⟨hcs, _⟩ | ⟨a, len, cap, ss, hcs, _, hl, hm, hz, hx, hcell, hsz⟩
  · injection hcs with hcs _
    exact ⟨none, [], 0, hcs, fun i hi => absurd hi (by simp), fun s hs => by simp at hs, by simp⟩
  · injection hcs with hcs _
    have hlen : len ≤ ss.length := by rw [hz]; split <;> omega
    have hn : (ss.take len).length = len := by rw [List.length_take]; omega
    have hmx : len ≤ 9223372036854775807 := by unfold maxLen at hm; omega
    refine ⟨some a, ss.take len, cap, by rw [hn]; exact hcs, lns_of_C ⟨rfl, by rw [hn]; omega, fun _ => ⟨a, rfl, fun j p hj => ⟨[.string p], rfl, rfl, fun i u hu => ?_⟩⟩⟩, fun s hs => hsz s (List.mem_of_mem_take hs), by rw [hn]; exact hmx⟩
    have hjn : j < len := by
      have := (List.getElem?_eq_some_iff.1 hj).1
      omega
    cases i with
    | zero =>
      cases hu
      have hz1 : Kd.string.sz = 1 := rfl
      rw [hz1, Nat.mul_one, Nat.add_zero, hcell j (by omega)]
      rw [List.getElem?_take_of_lt hjn] at hj
      simp [List.getD, hj]
    | succ i => simp at hu
theorem nine {α : Type} (l : List α) (h : l.length = 9) : ∃ a b c d e f g i j, l = [a, b, c, d, e, f, g, i, j] := by
  match l, h with
  | [a, b, c, d, e, f, g, i, j], _ => exact ⟨a, b, c, d, e, f, g, i, j, rfl⟩
theorem six {α : Type} (l : List α) (h : l.length = 6) : ∃ a b c d e f, l = [a, b, c, d, e, f] := by
  match l, h with
  | [a, b, c, d, e, f], _ => exact ⟨a, b, c, d, e, f, rfl⟩
theorem four {α : Type} (l : List α) (h : l.length = 4) : ∃ a b c d, l = [a, b, c, d] := by
  match l, h with
  | [a, b, c, d], _ => exact ⟨a, b, c, d, rfl⟩
set_option maxRecDepth 100000 in
theorem seed_row {H : Type} {enc : TypeId × Value → H} {W : World} {r : Reach} {b0 base : Nat} {sp : Nat → Bool} {held : Bool} {v : Value} {d : DataW H} {p : List MemPlace}
    (hv : Value.okWide Tryd.prog W r b0 44 v) (h : DataW.Trod enc Tryd.prog W base sp held 44 v d p) :
    ∃ (kd n0 n1 n2 n3 n4 n5 : Int) (tx : ByteArray) (A : Option Addr) (l : List ByteArray) (c : Nat), v = .agg (seedC kd n0 n1 n2 n3 n4 n5 tx (.slice A l.length c)) ∧ I64 kd ∧ I64 n0 ∧ I64 n1 ∧ I64 n2 ∧ I64 n3 ∧ I64 n4 ∧ I64 n5 ∧ Lns W A l ∧ (∀ s ∈ l, s.size ≤ 9223372036854775807) ∧ l.length ≤ 9223372036854775807 := by
  have c9 : Tryd.prog.cellsOf 44 = 9 := by kernel_rfl
  have c6 : Tryd.prog.cellsOf 42 = 6 := by kernel_rfl
  have ci : Tryd.prog.cellsOf 3 = 1 := by kernel_rfl
  have cS : Tryd.prog.cellsOf 9 = 1 := by kernel_rfl
  have cL : Tryd.prog.cellsOf 24 = 1 := by kernel_rfl
  obtain ⟨cs, rfl, hsz⟩ := okWide_struct Tryd.underlying44 hv
  obtain ⟨fuel, hf⟩ := h
  obtain ⟨l⟩ := cs
  rw [c9] at hsz
  obtain ⟨a0, a1, a2, a3, a4, a5, a6, a7, a8, rfl⟩ := nine l hsz
  have hf : DataW.trod enc Tryd.prog W base sp held fuel 44 [a0, a1, a2, a3, a4, a5, a6, a7, a8] = some (d, p) := hf
  obtain ⟨ys, m, _, _, _, hly, hfi⟩ := DataW.trod_struct Tryd.underlying44 hf
  obtain ⟨y0, y1, y2, y3, rfl⟩ := four ys hly
  have f0 := hfi 0 _ rfl
  have f1 := hfi 1 _ rfl
  have f2 := hfi 2 _ rfl
  have f3 := hfi 3 _ rfl
  simp [c6, ci, cS, cL] at f0 f1 f2 f3
  obtain ⟨kd, e0, _, w0⟩ := DataW.trod_int Tryd.underlying3 f0
  obtain ⟨tx, e2, _, _⟩ := DataW.trod_string Tryd.underlying9 f2
  obtain ⟨A, L, c, rfl, hL, hS, hN⟩ := strs_lns f3
  obtain ⟨zs, m1, _, _, _, hlz, hfa⟩ := DataW.trod_array Tryd.underlying42 f1
  obtain ⟨z0, z1, z2, z3, z4, z5, rfl⟩ := six zs hlz
  have g0 := hfa 0 (by omega)
  have g1 := hfa 1 (by omega)
  have g2 := hfa 2 (by omega)
  have g3 := hfa 3 (by omega)
  have g4 := hfa 4 (by omega)
  have g5 := hfa 5 (by omega)
  simp [ci] at g0 g1 g2 g3 g4 g5
  obtain ⟨n0, k0, _, x0⟩ := DataW.trod_int Tryd.underlying3 g0
  obtain ⟨n1, k1, _, x1⟩ := DataW.trod_int Tryd.underlying3 g1
  obtain ⟨n2, k2, _, x2⟩ := DataW.trod_int Tryd.underlying3 g2
  obtain ⟨n3, k3, _, x3⟩ := DataW.trod_int Tryd.underlying3 g3
  obtain ⟨n4, k4, _, x4⟩ := DataW.trod_int Tryd.underlying3 g4
  obtain ⟨n5, k5, _, x5⟩ := DataW.trod_int Tryd.underlying3 g5
  simp at e0 e2 k0 k1 k2 k3 k4 k5
  subst e0 e2 k0 k1 k2 k3 k4 k5
  exact ⟨kd, n0, n1, n2, n3, n4, n5, tx, A, L, c, rfl, i64_of w0, i64_of x0, i64_of x1, i64_of x2, i64_of x3, i64_of x4, i64_of x5, hL, hS, hN⟩
end Go.Proofs.YteiedafdakffeaaDoor
