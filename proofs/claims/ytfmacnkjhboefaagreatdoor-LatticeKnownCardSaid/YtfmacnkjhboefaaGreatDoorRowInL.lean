/- What a law's row gives its walk: the listed table's cells, and the pairs of integers that came in. -/
import Derived.Test.YtfmacnkjhboefaaGreatDoorRows
import Derived.Test.YtfmacnkjhboefaaGreatDoorLatWorks
import Derived.ProofKit
import Derived.LaidMore
import Derived.OpenShut
import Derived.Below
import Derived.Carry
import Derived.Stop.Joined
import Derived.Lib.LaidTab
import Derived.Deep.Slices
import Derived.SizedLaws
namespace Go.Proofs.YtfmacnkjhboefaaGreatDoor
set_option linter.unusedVariables false
set_option linter.unusedSimpArgs false
open Go Go.RowKit Go.ChangeShapes Go.WideShapes Go.ChangeAt
theorem own : ownKnob Tryz.prog.godebug = none := by kernel_rfl
theorem laidOut : laidOutB Tryz.prog = true := by kernel_rfl
def laidTab : List (String × DataW Unit) := [("math/bits.deBruijn32tab", Rows.laid_math_bits_deBruijn32tab)]
theorem gTab : Tryz.prog.globalNamed "math/bits.deBruijn32tab" = some 0 := by kernel_rfl
theorem tTab : (Tryz.prog.globals[0]?).map (·.type) = some 116 := by kernel_rfl
theorem door_met (os : Os) (args : Array Value) : laidMetH Tryz.prog laidTab ((World.doorLaid Tryz.prog 400 os).forCall (fun _ _ => 0) ⟨#[], args, []⟩).memory :=
  laidMetH_of_parts3 (fuel := 8) (laidMet_of_run' 8 (by kernel_rfl) (by kernel_rfl)) (by kernel_rfl) (by kernel_rfl)
theorem tab_of_laid {W : World} (h : laidMetH Tryz.prog laidTab W) : TabOk W := by
  have h2 : laidMet Tryz.prog laidTab W := by
    rw [MakeChecks.laidMetH_plain _ _ _ (by kernel_rfl)] at h
    exact h
  have h3 : Lib.TabIs Tryz.prog W "math/bits.deBruijn32tab" .u8 (tz32.map fun (x : Nat) => (x : Int)) :=
    Lib.tabIs_of_head gTab tTab Tryz.underlying116 Tryz.underlying5 (by kernel_rfl) (by kernel_rfl) h2
  intro i hi
  have h4 := h3.cell gTab i (by simp [tz32]; exact hi)
  rw [h4]
  simp only [List.getD, List.getElem?_map]
  cases tz32[i]? <;> rfl
theorem heap_of_tab {W : World} (h : TabOk W) : 0 < W.heap.size := by
  have h0 := h 0 (by decide)
  rcases Nat.eq_zero_or_pos W.heap.size with hz | hz
  · have : W.heap[0]? = none := by simp [hz]
    simp [World.cell?, this] at h0
  · exact hz
def InB (L : List (Int × Int)) : Prop := L.length ≤ 140737488355328 ∧ ∀ i, i < L.length → (-9223372036854775808 ≤ (L.getD i (0, 0)).1 ∧ (L.getD i (0, 0)).1 ≤ 9223372036854775807) ∧ (-9223372036854775808 ≤ (L.getD i (0, 0)).2 ∧ (L.getD i (0, 0)).2 ≤ 9223372036854775807)
set_option maxRecDepth 100000 in
theorem open_pairs {H : Type} {enc : TypeId × Value → H} {W : World} {base fuel : Nat} {sp : Nat → Bool} {held : Bool} {v : Value} {x : DataW H × List MemPlace}
    (h : DataW.trod enc Tryz.prog W base sp held fuel 23 [v] = some x) (hsz : ∀ E S, x.1 = .slice E S → E.length ≤ 140737488355328) : ∃ L, InPairs W v L ∧ InB L ∧ ∀ a l c, v = .slice a l c → l ≤ c := by
  have c31 : Tryz.prog.cellsOf 41 = 2 := by kernel_rfl
  have c3 : Tryz.prog.cellsOf 3 = 1 := by kernel_rfl
  rcases Deep.open_slice Tryz.underlying23 h with ⟨hv, _⟩ | ⟨a, len, cap, m, n, D, Pl, hv, _, hl, _, hmm, hxe, hx⟩
  · obtain rfl := List.head_eq_of_cons_eq hv
    exact ⟨[], ⟨none, 0, rfl, fun i hi => by cases hi⟩, ⟨by simp, fun i hi => by cases hi⟩, fun a l c e => by cases e; exact Nat.le_refl _⟩
  · obtain rfl := List.head_eq_of_cons_eq hv
    have hml : len ≤ m := by rw [hmm]; split <;> omega
    obtain ⟨g, o, s⟩ := a
    have hs : 0 < len → s = none := by
      intro h0
      obtain ⟨cs', h1, _⟩ := hx 0 (by omega)
      rw [c31] at h1
      obtain ⟨_, hlen, hc⟩ := World.cells?_some h1
      have g0 := hc 0 (by decide)
      match cs', hlen with
      | [x0, x1], _ => simpa [Addr.add] using World.cell?_spot g0
    have one : ∀ i, i < len → ∃ p : Int × Int, (∃ g' o', (⟨g, o, s⟩ : Addr) = ⟨g', o', none⟩ ∧ W.cell? ⟨g', o' + i * 2, none⟩ = some (.int .i64 p.1) ∧ W.cell? ⟨g', o' + i * 2 + 1, none⟩ = some (.int .i64 p.2)) ∧
        (-9223372036854775808 ≤ p.1 ∧ p.1 ≤ 9223372036854775807) ∧ -9223372036854775808 ≤ p.2 ∧ p.2 ≤ 9223372036854775807 := by
      intro i hi
      obtain ⟨cs', h1, h2⟩ := hx i (by omega)
      rw [c31] at h1
      obtain ⟨_, hlen, hc⟩ := World.cells?_some h1
      obtain ⟨xs, q, _, _, _, hxn, hel⟩ := DataW.trod_array Tryz.underlying41 h2
      have e0 := hel 0 (by decide)
      have e1 := hel 1 (by decide)
      rw [c3] at e0 e1
      match cs', hlen, xs, hxn with
      | [x0, x1], _, [y0, y1], _ =>
        simp only [Nat.zero_mul, List.drop_zero, List.take_succ_cons, List.take_zero, List.getElem?_cons_zero, Nat.one_mul, List.drop_succ_cons, List.getElem?_cons_succ] at e0 e1
        obtain ⟨k0, r0, _, w0⟩ := DataW.trod_int Tryz.underlying3 e0
        obtain ⟨k1, r1, _, w1⟩ := DataW.trod_int Tryz.underlying3 e1
        obtain rfl := List.head_eq_of_cons_eq r0
        obtain rfl := List.head_eq_of_cons_eq r1
        have g0 := hc 0 (by decide)
        have g1 := hc 1 (by decide)
        obtain rfl := hs (by omega)
        rw [add_plain] at g0 g1
        rw [add_plain] at g0 g1
        simp [Lit.wf, IntKind.min, IntKind.max, IntKind.bits, IntKind.signed] at w0 w1
        exact ⟨(k0, k1), ⟨g, o, rfl, by simpa using g0, by simpa using g1⟩, by simpa using w0, by simpa using w1⟩
    obtain ⟨V, hV⟩ := Deep.choose_lt (α := Int × Int) (p := fun i p => (∃ g' o', (⟨g, o, s⟩ : Addr) = ⟨g', o', none⟩ ∧ W.cell? ⟨g', o' + i * 2, none⟩ = some (.int .i64 p.1) ∧ W.cell? ⟨g', o' + i * 2 + 1, none⟩ = some (.int .i64 p.2)) ∧
        (-9223372036854775808 ≤ p.1 ∧ p.1 ≤ 9223372036854775807) ∧ -9223372036854775808 ≤ p.2 ∧ p.2 ≤ 9223372036854775807) one
    have hg : ∀ i, i < len → ((List.range len).map V).getD i (0, 0) = V i := fun i hi => by simp [List.getD, hi]
    refine ⟨(List.range len).map V, ⟨some ⟨g, o, s⟩, cap, by simp, fun i hi => ?_⟩, ⟨?_, fun i hi => ?_⟩, fun a l c e => by cases e; exact hl⟩
    · simp at hi
      rw [hg i hi]
      obtain ⟨⟨g', o', e, c1, c2⟩, _⟩ := hV i hi
      exact ⟨g', o', by rw [e], c1, c2⟩
    · simp only [List.length_map, List.length_range]
      have := hsz _ _ (congrArg Prod.fst hxe)
      simpa using this
    · simp at hi
      rw [hg i hi]
      exact (hV i hi).2
theorem pairs_sized {H : Type} {ts : List TypeId} {ds : List (DataW H)} (h : (DataW.weightsEach Tryz.prog ts ds).all (· ≤ reachBytes) = true) {j : Nat} (ht : ts[j]? = some 23) {d : DataW H} (hd : ds[j]? = some d) :
    ∀ E S, d = .slice E S → E.length ≤ 140737488355328 := by
  intro E S e
  subst e
  have h1 := sized_slice h ht hd Tryz.underlying23
  have h2 : Tryz.prog.bytesOf 41 = 16 := by kernel_rfl
  rw [h2] at h1
  unfold reachBytes at h1
  omega
theorem i64_lo {n : Int} (w : (Lit.int IntKind.i64 n).wf) : -9223372036854775808 ≤ n := by
  have : -9223372036854775808 ≤ n ∧ n ≤ 9223372036854775807 := by simpa [Lit.wf, IntKind.min, IntKind.max, IntKind.bits, IntKind.signed] using w
  exact this.1
theorem i64_hi {n : Int} (w : (Lit.int IntKind.i64 n).wf) : n ≤ 9223372036854775807 := by
  have : -9223372036854775808 ≤ n ∧ n ≤ 9223372036854775807 := by simpa [Lit.wf, IntKind.min, IntKind.max, IntKind.bits, IntKind.signed] using w
  exact this.2
end Go.Proofs.YtfmacnkjhboefaaGreatDoor
