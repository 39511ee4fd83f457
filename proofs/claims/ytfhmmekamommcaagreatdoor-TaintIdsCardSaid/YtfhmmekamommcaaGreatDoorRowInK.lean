/- What a law's row of this chapter gives its walk: the listed tables, and rows of whole numbers that came in. -/
import Derived.Test.YtfhmmekamommcaaGreatDoorRows
import Derived.Test.YtfhmmekamommcaaGreatDoorIdMade
import Derived.Test.YtfhmmekamommcaaGreatDoorTabWorks2
import Derived.ProofKit
import Derived.LaidMore
import Derived.Lay
import Derived.OpenShut
import Derived.Below
import Derived.Carry
import Derived.Stop.Joined
import Derived.Lib.LaidTab
import Derived.Lib.LaidU8
import Derived.SliceStrings
import Derived.Deep.Slices
import Derived.SizedLaws
namespace Go.Proofs.YtfhmmekamommcaaGreatDoor
set_option linter.unusedVariables false
set_option linter.unusedSimpArgs false
open Go Go.RowKit Go.ChangeShapes Go.WideShapes Go.ChangeAt Go.Shelf
theorem own : ownKnob Tryz.prog.godebug = none := by kernel_rfl
theorem laidOut : laidOutB Tryz.prog = true := by kernel_rfl
def laidVars : List (String × DataW Unit) := [("math/bits.deBruijn32tab", Rows.laid_math_bits_deBruijn32tab), ("math/bits.deBruijn64tab", Rows.laid_math_bits_deBruijn64tab), ("internal/strconv.uint64pow10", Rows.laid_internal_strconv_uint64pow10), ("unicode/utf8.acceptRanges", Rows.laid_unicode_utf8_acceptRanges), ("strconv.ErrRange", Rows.laid_strconv_ErrRange), ("strconv.ErrSyntax", Rows.laid_strconv_ErrSyntax), ("unicode/utf8.first", Rows.laid_unicode_utf8_first)]
theorem iface_of_trod {H : Type} {enc : TypeId × Value → H} {P : Program} {w : World} {base : Nat} {sp : Nat → Bool} {fuel : Nat} {t : TypeId} {ms : _} {cs : List Value} {nm : String} {d : DataW H} {p : List MemPlace}
    (ht : P.underlying t = some (.interface ms)) (h : DataW.trod enc P w base sp false fuel t cs = some (.iface nm d, p)) : ∃ tp v, cs = [.iface tp v] := by
  cases fuel with
  | zero => simp [DataW.trod] at h
  | succ n =>
    match cs, h with
    | [], h => simp [DataW.trod, ht] at h
    | [v], h => cases v <;> simp [DataW.trod, ht] at h <;> exact ⟨_, _, rfl⟩
    | a :: b :: r, h => simp [DataW.trod, ht] at h
theorem tab_reads {P : Program} {W : World} {name : String} {k : IntKind} {zs : List Int} {g : Nat} {t e : TypeId} {n : Nat}
    (hg : P.globalNamed name = some g) (hty : (P.globals[g]?).map (·.type) = some t) (ht : P.underlying t = some (.array n e)) (he : P.underlying e = some (.int k)) (hce : P.cellsOf e = 1) (hct : P.cellsOf t = n)
    (h : Lib.VarReads P W name (Lib.tabData k zs)) : Lib.TabIs P W name k zs := by
  obtain ⟨g', t', cs, fuel, p, hg', ht', hvar, hd⟩ := h
  obtain rfl := Option.some.inj (hg.symm.trans hg')
  obtain rfl := Option.some.inj (hty.symm.trans ht')
  unfold Lib.TabIs
  rw [hvar, ← Lib.cells_of_tab ht he hce hct hd]
theorem wok_of_laid {W : World} (h : laidMetH Tryz.prog laidVars W) : WOk W := by
  rw [MakeChecks.laidMetH_plain _ _ _ (by kernel_rfl)] at h
  refine ⟨?_, ?_⟩
  · exact tab_reads gPow (by kernel_rfl) Tryz.underlying258 Tryz.underlying200 (by kernel_rfl) (by kernel_rfl) (Lib.laidMet.reads h (d := Lib.tabData .u64 Lib.pow10Tab) (by unfold laidVars; simp only [List.mem_cons]; right; right; left; kernel_rfl))
  · obtain ⟨g, t, cs, fuel, p, hg, ht, hvar, hd⟩ := Lib.laidMet.reads h (n := "strconv.ErrRange") (d := Rows.laid_strconv_ErrRange) (by unfold laidVars; simp)
    obtain rfl := Option.some.inj (gRng.symm.trans hg)
    obtain rfl : t = 178 := (Option.some.inj ((show (Tryz.prog.globals[5]?).map (·.type) = some 178 by kernel_rfl).symm.trans ht)).symm
    obtain ⟨tp, v, e⟩ := iface_of_trod Tryz.underlying178 hd
    refine ⟨tp, v, ?_⟩
    rw [hvar]
    congr 1
    exact Array.ext' e
theorem gTab : Tryz.prog.globalNamed "math/bits.deBruijn32tab" = some 1 := by kernel_rfl
theorem tab_of_laid {W : World} (h : laidMetH Tryz.prog laidVars W) : TabOk W := by
  rw [MakeChecks.laidMetH_plain _ _ _ (by kernel_rfl)] at h
  have h3 : Lib.TabIs Tryz.prog W "math/bits.deBruijn32tab" .u8 (tz32.map fun (x : Nat) => (x : Int)) :=
    tab_reads gTab (by kernel_rfl) Tryz.underlying183 Tryz.underlying5 (by kernel_rfl) (by kernel_rfl) (Lib.laidMet.reads h (d := Lib.tabData .u8 (tz32.map fun (x : Nat) => (x : Int))) (by unfold laidVars; simp only [List.mem_cons]; left; kernel_rfl))
  intro i hi
  have h4 := h3.cell gTab i (by simp [tz32]; exact hi)
  rw [h4]
  simp only [List.getD, List.getElem?_map]
  cases tz32[i]? <;> rfl
theorem i64_lo {n : Int} (w : (Lit.int IntKind.i64 n).wf) : -9223372036854775808 ≤ n := by
  have : -9223372036854775808 ≤ n ∧ n ≤ 9223372036854775807 := by simpa [Lit.wf, IntKind.min, IntKind.max, IntKind.bits, IntKind.signed] using w
  exact this.1
theorem i64_hi {n : Int} (w : (Lit.int IntKind.i64 n).wf) : n ≤ 9223372036854775807 := by
  have : -9223372036854775808 ≤ n ∧ n ≤ 9223372036854775807 := by simpa [Lit.wf, IntKind.min, IntKind.max, IntKind.bits, IntKind.signed] using w
  exact this.2
/-- a row of whole numbers that came in -/
theorem ints_row {H : Type} {enc : TypeId × Value → H} {W : World} {base : Nat} {sp : Nat → Bool} {held : Bool} {d : DataW H} {p : List MemPlace} {A : Option Addr} {n c : Nat}
    (h : DataW.Trod enc Tryz.prog W base sp held 50 (.slice A n c) d p) : ∃ L, InInts W (.slice A n c) L ∧ InR L := by
  obtain ⟨fuel, hf⟩ := h
  rcases open_ints Tryz.underlying50 Tryz.underlying3 (by kernel_rfl) hf with ⟨hcs, _⟩ | ⟨x, l, c', zs, hcs, _, hl, hm, hz, _, hcell, hwz⟩
  · simp [Value.cells] at hcs
    obtain ⟨rfl, rfl, rfl⟩ := hcs
    exact ⟨[], ⟨none, 0, rfl, fun i hi => by simp at hi⟩, by simp, fun i hi => by simp at hi⟩
  · simp [Value.cells] at hcs
    obtain ⟨rfl, rfl, rfl⟩ := hcs
    have hzl : n ≤ zs.length := by rw [hz]; split <;> omega
    have hlen : (zs.take n).length = n := by rw [List.length_take]; omega
    have hg : ∀ i, i < n → (zs.take n).getD i 0 = zs.getD i 0 := fun i hi => by simp [List.getD, List.getElem?_take, hi]
    obtain ⟨g, o, s⟩ := x
    refine ⟨zs.take n, ⟨some ⟨g, o, s⟩, c, by rw [hlen], fun i hi => ?_⟩, by rw [hlen]; unfold maxLen at hm; omega, fun i hi => ?_⟩
    · rw [hlen] at hi
      rw [hg i hi]
      have g0 := hcell i (by omega)
      have hs : s = none := by simpa [Addr.add] using World.cell?_spot (hcell 0 (by omega))
      subst hs
      refine ⟨g, o, rfl, ?_⟩
      rw [← g0]
      rw [add_plain]
    · rw [hlen] at hi
      rw [hg i hi]
      have hw := hwz (zs.getD i 0) (by
        have hi2 : i < zs.length := by omega
        simp [List.getD, List.getElem?_eq_getElem hi2])
      simpa [Lit.wf, IntKind.min, IntKind.max, IntKind.bits, IntKind.signed] using hw
end Go.Proofs.YtfhmmekamommcaaGreatDoor
