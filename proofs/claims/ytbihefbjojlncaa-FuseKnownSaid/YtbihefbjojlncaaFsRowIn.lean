/- fuse: what a law's row gives its walk: arrays of two, rows of calls, rows of numbers. -/
import Derived.Test.YtbihefbjojlncaaRows
import Derived.Test.YtbihefbjojlncaaFsOne
import Derived.ProofKit
import Derived.OpenShut
import Derived.Below
import Derived.Carry
import Derived.Stop.Joined
import Derived.Deep.Slices
import Derived.SizedLaws
namespace Go.Proofs.Ytbihefbjojlncaa
set_option linter.unusedVariables false
set_option linter.unusedSimpArgs false
open Go Go.RowKit Go.ChangeShapes Go.WideShapes Go.ChangeAt
theorem own : ownKnob Try.prog.godebug = none := by kernel_rfl
theorem okWide_arr {P : Program} {w : World} {r : Reach} {base : Nat} {t e : TypeId} {n : Nat} {v : Value} (ht : P.underlying t = some (.array n e)) (h : Value.okWide P w r base t v) : ∃ cs, v = .agg cs ∧ cs.size = P.cellsOf t := by
  simp only [Value.okWide, ht] at h
  obtain ⟨cs, h1, h2, _⟩ := h
  exact ⟨cs, h1, h2⟩
theorem two {α : Type} (l : List α) (h : l.length = 2) : ∃ a b, l = [a, b] := by
  match l, h with
  | [a, b], _ => exact ⟨a, b, rfl⟩
set_option maxRecDepth 100000 in
/-- an array of two numbers that came in -/
theorem two_row {H : Type} {enc : TypeId × Value → H} {W : World} {r : Reach} {b0 base : Nat} {sp : Nat → Bool} {held : Bool} {v : Value} {d : DataW H} {p : List MemPlace}
    (hv : Value.okWide Try.prog W r b0 44 v) (h : DataW.Trod enc Try.prog W base sp held 44 v d p) :
    ∃ x y : Int, v = .agg #[.int .i64 x, .int .i64 y] ∧ I64 x ∧ I64 y := by
  have c2 : Try.prog.cellsOf 44 = 2 := by kernel_rfl
  have c1 : Try.prog.cellsOf 3 = 1 := by kernel_rfl
  obtain ⟨cs, rfl, hsz⟩ := okWide_arr Try.underlying44 hv
  obtain ⟨fuel, hf⟩ := h
  obtain ⟨l⟩ := cs
  rw [c2] at hsz
  match l, hsz with
  | [a, b], _ =>
    have hf : DataW.trod enc Try.prog W base sp held fuel 44 [a, b] = some (d, p) := hf
    obtain ⟨ys, m, _, _, _, hly, hfi⟩ := DataW.trod_array Try.underlying44 hf
    match ys, hly with
    | [y0, y1], _ =>
      have f0 := hfi 0 (by omega)
      have f1 := hfi 1 (by omega)
      simp [c1] at f0 f1
      obtain ⟨x, e0, _, w0⟩ := DataW.trod_int Try.underlying3 f0
      obtain ⟨y, e1, _, w1⟩ := DataW.trod_int Try.underlying3 f1
      simp at e0 e1
      subst e0 e1
      exact ⟨x, y, rfl, i64_of w0, i64_of w1⟩
/-- a row that came in: each element's cells -/
def InRows {α : Type} (k : Nat) (C : α → List Value) (w : World) (A : Option Addr) (L : List α) : Prop :=
  ∀ i a, L[i]? = some a → ∃ g o, A = some ⟨g, o, none⟩ ∧ ∀ j v, (C a)[j]? = some v → w.cell? ⟨g, o + i * k + j, none⟩ = some v
theorem InRows.chg {α : Type} {k : Nat} {C : α → List Value} {w w' : World} {A : Option Addr} {L : List α} {K : Nat → Prop} (h : InRows k C w A L) (hc : Chg K w w') (hk : ∀ i, K i → w.heap.size ≤ i) : InRows k C w' A L := by
  intro i a ha
  obtain ⟨g, o, e, hcell⟩ := h i a ha
  refine ⟨g, o, e, fun j v hv => hc.cell (hcell j v hv) (fun x => ?_)⟩
  have := hk _ x
  have := World.block_lt_of_cell? w _ (hcell j v hv)
  simp at *
  omega
set_option maxRecDepth 100000 in
theorem open_rows {α : Type} [Inhabited α] {H : Type} {enc : TypeId × Value → H} {W : World} {base fuel : Nat} {sp : Nat → Bool} {held : Bool} {v : Value} {x : DataW H × List MemPlace} {t e k : Nat} (C : α → List Value) (G : α → Prop)
    (ht : Try.prog.underlying t = some (.slice e)) (hk : Try.prog.cellsOf e = k) (hk0 : 0 < k)
    (dec : ∀ n cs y, cs.length = k → DataW.trod enc Try.prog W base sp held n e cs = some y → ∃ a : α, cs = C a ∧ G a)
    (h : DataW.trod enc Try.prog W base sp held fuel t [v] = some x) : ∃ A L cap, v = .slice A (List.length L) cap ∧ InRows k C W A L ∧ (∀ a ∈ L, G a) ∧ L.length ≤ maxLen := by
  rcases Deep.open_slice ht h with ⟨hv, _⟩ | ⟨a, len, cap, m, n, D, Pl, hv, _, hl, hmx, hmm, hxe, hx⟩
  · obtain rfl := List.head_eq_of_cons_eq hv
    exact ⟨none, [], 0, rfl, fun i a hi => by simp at hi, by simp, by simp [maxLen]⟩
  · obtain rfl := List.head_eq_of_cons_eq hv
    have hml : len ≤ m := by rw [hmm]; split <;> omega
    obtain ⟨g, o, s⟩ := a
    rw [hk] at hx
    have hs : 0 < len → s = none := by
      intro h0
      obtain ⟨cs', h1, _⟩ := hx 0 (by omega)
      obtain ⟨_, hlen, hc⟩ := World.cells?_some h1
      have g0 := hc 0 (by omega)
      have : ∃ v, cs'[0]? = some v := ⟨_, List.getElem?_eq_getElem (by omega)⟩
      obtain ⟨v, hv⟩ := this
      rw [hv] at g0
      simpa [Addr.add] using World.cell?_spot g0
    have one : ∀ i, i < len → ∃ a : α, (∀ j v, (C a)[j]? = some v → s = none ∧ W.cell? ⟨g, o + i * k + j, none⟩ = some v) ∧ G a := by
      intro i hi
      obtain ⟨cs', h1, h2⟩ := hx i (by omega)
      obtain ⟨_, hlen, hc⟩ := World.cells?_some h1
      obtain ⟨a, rfl, ga⟩ := dec _ _ _ hlen h2
      refine ⟨a, fun j u hu => ?_, ga⟩
      obtain rfl := hs (by omega)
      have hj : j < k := by
        rw [← hlen]
        exact (List.getElem?_eq_some_iff.1 hu).1
      have := hc j hj
      rw [hu] at this
      refine ⟨rfl, ?_⟩
      rw [← this]
      rw [add_plain, add_plain]
    obtain ⟨V, hV⟩ := Deep.choose_lt one
    refine ⟨some ⟨g, o, s⟩, (List.range len).map V, cap, by simp, fun i a ha => ?_, fun a ha => ?_, by simp; omega⟩
    · have hi : i < len := by simpa using (List.getElem?_eq_some_iff.1 ha).1
      have : a = V i := by simpa [hi] using ha.symm
      subst this
      have hs' : s = none := by
        obtain ⟨cs', h1, h2⟩ := hx i (by omega)
        exact hs (by omega)
      exact ⟨g, o, by rw [hs'], fun j v hv => ((hV i hi).1 j v hv).2⟩
    · obtain ⟨i, hi, rfl⟩ := List.mem_map.1 ha
      exact (hV i (by simpa using hi)).2
def callC (c : Int × Int × Int) : List Value := [.int .i64 c.1, .int .i64 c.2.1, .int .i64 c.2.2]
set_option maxRecDepth 100000 in
theorem calls_row {H : Type} {enc : TypeId × Value → H} {W : World} {base fuel : Nat} {sp : Nat → Bool} {held : Bool} {v : Value} {x : DataW H × List MemPlace}
    (h : DataW.trod enc Try.prog W base sp held fuel 45 [v] = some x) :
    ∃ A L cap, v = .slice A (List.length L) cap ∧ InRows 3 callC W A L ∧ (∀ c ∈ L, I64 c.1 ∧ I64 c.2.1 ∧ I64 c.2.2) ∧ L.length ≤ maxLen := by
  have c3 : Try.prog.cellsOf 48 = 3 := by kernel_rfl
  have c1 : Try.prog.cellsOf 3 = 1 := by kernel_rfl
  refine open_rows callC (fun c => I64 c.1 ∧ I64 c.2.1 ∧ I64 c.2.2) Try.underlying45 c3 (by omega) (fun n cs y hl hf => ?_) h
  match cs, hl with
  | [a, b, c], _ =>
    obtain ⟨ys, m, _, _, _, hly, hfi⟩ := DataW.trod_struct Try.underlying48 hf
    have f0 := hfi 0 _ rfl
    have f1 := hfi 1 _ rfl
    have f2 := hfi 2 _ rfl
    match ys, hly with
    | [y0, y1, y2], _ =>
      simp [c1] at f0 f1 f2
      obtain ⟨x0, e0, _, w0⟩ := DataW.trod_int Try.underlying3 f0
      obtain ⟨x1, e1, _, w1⟩ := DataW.trod_int Try.underlying3 f1
      obtain ⟨x2, e2, _, w2⟩ := DataW.trod_int Try.underlying3 f2
      simp at e0 e1 e2
      subst e0 e1 e2
      exact ⟨(x0, x1, x2), rfl, i64_of w0, i64_of w1, i64_of w2⟩
def intC (n : Int) : List Value := [.int .i64 n]
set_option maxRecDepth 100000 in
theorem ints_row {H : Type} {enc : TypeId × Value → H} {W : World} {base fuel : Nat} {sp : Nat → Bool} {held : Bool} {v : Value} {x : DataW H × List MemPlace}
    (h : DataW.trod enc Try.prog W base sp held fuel 55 [v] = some x) :
    ∃ A L cap, v = .slice A (List.length L) cap ∧ InRows 1 intC W A L ∧ (∀ c ∈ L, I64 c) ∧ L.length ≤ maxLen := by
  have c1 : Try.prog.cellsOf 3 = 1 := by kernel_rfl
  refine open_rows intC I64 Try.underlying55 c1 (by omega) (fun n cs y hl hf => ?_) h
  match cs, hl with
  | [a], _ =>
    obtain ⟨x0, e0, _, w0⟩ := DataW.trod_int Try.underlying3 hf
    simp at e0
    subst e0
    exact ⟨x0, rfl, i64_of w0⟩
end Go.Proofs.Ytbihefbjojlncaa
