/- push: rows of texts that came in, and an array of two of them. -/
import Derived.Test.YteiedafdakffeaaDoorRowInQ
namespace Go.Proofs.YteiedafdakffeaaDoor
set_option linter.unusedVariables false
set_option linter.unusedSimpArgs false
open Go Go.RowKit Go.ChangeShapes Go.WideShapes Go.ChangeAt
set_option maxRecDepth 100000 in
theorem lns_row {H : Type} {enc : TypeId × Value → H} {W : World} {r : Reach} {b0 base : Nat} {sp : Nat → Bool} {held : Bool} {v : Value} {d : DataW H} {p : List MemPlace}
    (hv : Value.okWide Tryd.prog W r b0 24 v) (h : DataW.Trod enc Tryd.prog W base sp held 24 v d p) :
    ∃ (A : Option Addr) (l : List ByteArray) (c : Nat), v = .slice A l.length c ∧ Lns W A l ∧ (∀ s ∈ l, s.size ≤ 9223372036854775807) ∧ l.length ≤ 9223372036854775807 := by
  obtain ⟨A, n, c, rfl⟩ := okWide_slice Tryd.underlying24 hv
  obtain ⟨fuel, hf⟩ := h
  have hf : DataW.trod enc Tryd.prog W base sp held fuel 24 [.slice A n c] = some (d, p) := hf
  obtain ⟨A', l, c', e, h1, h2, h3⟩ := strs_lns hf
  exact ⟨A', l, c', e, h1, h2, h3⟩
theorem okWide_arr {P : Program} {w : World} {r : Reach} {base : Nat} {t e : TypeId} {n : Nat} {v : Value} (ht : P.underlying t = some (.array n e)) (h : Value.okWide P w r base t v) : ∃ cs, v = .agg cs ∧ cs.size = P.cellsOf t := by
  simp only [Value.okWide, ht] at h
  obtain ⟨cs, h1, h2, _⟩ := h
  exact ⟨cs, h1, h2⟩
theorem two {α : Type} (l : List α) (h : l.length = 2) : ∃ a b, l = [a, b] := by
  match l, h with
  | [a, b], _ => exact ⟨a, b, rfl⟩
set_option maxRecDepth 100000 in
theorem lns2_row {H : Type} {enc : TypeId × Value → H} {W : World} {r : Reach} {b0 base : Nat} {sp : Nat → Bool} {held : Bool} {v : Value} {d : DataW H} {p : List MemPlace}
    (hv : Value.okWide Tryd.prog W r b0 49 v) (h : DataW.Trod enc Tryd.prog W base sp held 49 v d p) :
    ∃ (A : Option Addr) (l : List ByteArray) (c : Nat) (B : Option Addr) (m : List ByteArray) (e : Nat), v = .agg #[.slice A l.length c, .slice B m.length e] ∧ (Lns W A l ∧ (∀ s ∈ l, s.size ≤ 9223372036854775807) ∧ l.length ≤ 9223372036854775807) ∧ (Lns W B m ∧ (∀ s ∈ m, s.size ≤ 9223372036854775807) ∧ m.length ≤ 9223372036854775807) := by
  have c2 : Tryd.prog.cellsOf 49 = 2 := by kernel_rfl
  have cL : Tryd.prog.cellsOf 24 = 1 := by kernel_rfl
  obtain ⟨cs, rfl, hsz⟩ := okWide_arr Tryd.underlying49 hv
  obtain ⟨fuel, hf⟩ := h
  obtain ⟨l⟩ := cs
  rw [c2] at hsz
  obtain ⟨a0, a1, rfl⟩ := two l hsz
  have hf : DataW.trod enc Tryd.prog W base sp held fuel 49 [a0, a1] = some (d, p) := hf
  obtain ⟨zs, m1, _, _, _, hlz, hfa⟩ := DataW.trod_array Tryd.underlying49 hf
  obtain ⟨z0, z1, rfl⟩ := two zs hlz
  have g0 := hfa 0 (by omega)
  have g1 := hfa 1 (by omega)
  simp [cL] at g0 g1
  obtain ⟨A, L, c, rfl, h1⟩ := strs_lns g0
  obtain ⟨B, M, e, rfl, h2⟩ := strs_lns g1
  exact ⟨A, L, c, B, M, e, rfl, h1, h2⟩
end Go.Proofs.YteiedafdakffeaaDoor
