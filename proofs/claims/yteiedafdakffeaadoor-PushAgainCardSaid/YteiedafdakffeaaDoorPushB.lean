/- push: what Check asks of a field. -/
import Derived.Test.YteiedafdakffeaaDoorPushA
namespace Go.Proofs.YteiedafdakffeaaDoor
set_option linter.unusedVariables false
set_option linter.unusedSimpArgs false
open Go Go.RowKit
/-- a guarded one that is not wanted -/
theorem skip_one {P : Program} {ops : Array Oper} {Q : Exit → Act → World → Prop} {S : World → Prop} {T : List Nat} (i : Nat) {oi : Oper} {fuel : Nat} {listed : Array Bool} {a : Act} {w : World} (hS : S w) (hi : ops[i]? = some oi)
    (hf : (Region.noSelect ops && (Region.free .any ops listed i && ((Region.ready .any ops listed).contains i && tailWaits ops T i))) = true)
    (hw : Region.wanted oi (yielded ops a.tmps) = false) (hQ : ∀ c a w, Q (.panic c) (a.put oi.dst undef) w → Q (.panic c) a w)
    (h : anyT P .any ops Q S T fuel (listed.setIfInBounds i true) (a.put oi.dst undef) w) : anyT P .any ops Q S T (fuel + 1) listed a w := by
  simp only [Bool.and_eq_true] at hf
  exact anyT_first hi hf.1 hQ (tailWaits_spec hf.2.2.2) fuel listed a w hf.2.1 (by simpa using hf.2.2.1) (.inr ⟨hw, rfl⟩) hS h
def fieldOk (own bit v lo hi : Int) : Bool := if bits .and .i64 own bit = 0 then v == 0 else (decide (lo ≤ v) && decide (v ≤ hi))
set_option maxRecDepth 100000 in
set_option maxHeartbeats 4000000 in
theorem check1_some (w : World) (b j o : Nat) (own bit v lo hi : Int) (ho : w.cell? ⟨o, 0, none⟩ = some (.int .i64 own)) (hv : w.cell? ⟨b, j, none⟩ = some (.int .i64 v)) :
    Calls Tryd.prog 60 #[.agg #[.int .i64 bit, .pointer (some ⟨b, j, none⟩), .int .i64 lo, .int .i64 hi], .pointer (some ⟨o, 0, none⟩)] w fun e w' => e = .returned (.bool (fieldOk own bit v lo hi)) ∧ Chg (fun _ => False) w w' := by
  have lo1 := World.block_lt_of_cell? w _ ho
  have lv1 := World.block_lt_of_cell? w _ hv
  by_cases h0 : bits .and .i64 own bit = 0
  · have h1 : (bits .and .i64 own bit == 0) = true := beq_iff_eq.2 h0
    go_enter Tryd.func60, Tryd.ntmps60
    go_wp2
    go_ret
    exact ⟨by unfold fieldOk; rw [if_pos h0]; rfl, (Chg.refl _ _).alloc _⟩
  · have h1 : (bits .and .i64 own bit == 0) = false := beq_eq_false_iff_ne.2 h0
    have hS : (w.alloc (.cells #[.int .i64 bit, .pointer (some ⟨b, j, none⟩), .int .i64 lo, .int .i64 hi] 66)).drew.cell? ⟨w.heap.size, 1, none⟩ = some (.pointer (some ⟨b, j, none⟩)) ∧
        (w.alloc (.cells #[.int .i64 bit, .pointer (some ⟨b, j, none⟩), .int .i64 lo, .int .i64 hi] 66)).drew.cell? ⟨w.heap.size, 2, none⟩ = some (.int .i64 lo) ∧
        (w.alloc (.cells #[.int .i64 bit, .pointer (some ⟨b, j, none⟩), .int .i64 lo, .int .i64 hi] 66)).drew.cell? ⟨w.heap.size, 3, none⟩ = some (.int .i64 hi) ∧
        (w.alloc (.cells #[.int .i64 bit, .pointer (some ⟨b, j, none⟩), .int .i64 lo, .int .i64 hi] 66)).drew.cell? ⟨b, j, none⟩ = some (.int .i64 v) := by
      refine ⟨?_, ?_, ?_, ?_⟩
      · exact (cell_of_heap (heap_alloc_new w _) 1)
      · exact (cell_of_heap (heap_alloc_new w _) 2)
      · exact (cell_of_heap (heap_alloc_new w _) 3)
      · exact (((Chg.refl (fun _ => False) w).alloc _).drew).cell hv (fun h => h)
    by_cases hlo : lo ≤ v
    · have hl : decide (lo ≤ v) = true := decide_eq_true hlo
      go_enter Tryd.func60, Tryd.ntmps60
      go_wp2
      refine region_lone (fun W' => W'.cell? ⟨w.heap.size, 1, none⟩ = some (.pointer (some ⟨b, j, none⟩)) ∧ W'.cell? ⟨w.heap.size, 2, none⟩ = some (.int .i64 lo) ∧ W'.cell? ⟨w.heap.size, 3, none⟩ = some (.int .i64 hi) ∧ W'.cell? ⟨b, j, none⟩ = some (.int .i64 v)) [] (by kernel_rfl) ?_
      refine take_one 0 hS rfl (by kernel_rfl) rfl ?_
      apply Exists.intro
      refine And.intro (fun W' hS' => ?y0) (And.intro (fun _ _ _ h => h) ?_)
      case y0 => obtain ⟨d1, d2, d3, d4⟩ := hS'; go_simp; rfl
      refine take_one 1 hS rfl (by kernel_rfl) rfl ?_
      apply Exists.intro
      refine And.intro (fun W' hS' => ?y1) (And.intro (fun _ _ _ h => h) ?_)
      case y1 => obtain ⟨d1, d2, d3, d4⟩ := hS'; go_simp; rfl
      refine take_one 2 hS rfl (by kernel_rfl) rfl ?_
      apply Exists.intro
      refine And.intro (fun W' hS' => ?y2) (And.intro (fun _ _ _ h => h) ?_)
      case y2 => obtain ⟨d1, d2, d3, d4⟩ := hS'; go_simp; rfl
      refine take_one 3 hS rfl (by kernel_rfl) rfl ?_
      apply Exists.intro
      refine And.intro (fun W' hS' => ?y3) (And.intro (fun _ _ _ h => h) ?_)
      case y3 => obtain ⟨d1, d2, d3, d4⟩ := hS'; go_simp; rfl
      refine take_one 4 hS rfl (by kernel_rfl) rfl ?_
      apply Exists.intro
      refine And.intro (fun W' hS' => ?y4) (And.intro (fun _ _ _ h => h) ?_)
      case y4 => obtain ⟨d1, d2, d3, d4⟩ := hS'; go_simp; rfl
      refine take_one 5 hS rfl (by kernel_rfl) rfl ?_
      apply Exists.intro
      refine And.intro (fun W' hS' => ?y5) (And.intro (fun _ _ _ h => h) ?_)
      case y5 => obtain ⟨d1, d2, d3, d4⟩ := hS'; go_simp; rfl
      refine take_one 6 hS rfl (by kernel_rfl) rfl ?_
      apply Exists.intro
      refine And.intro (fun W' hS' => ?y6) (And.intro (fun _ _ _ h => h) ?_)
      case y6 => obtain ⟨d1, d2, d3, d4⟩ := hS'; go_simp; rfl
      refine take_one 7 hS rfl (by kernel_rfl) rfl ?_
      apply Exists.intro
      refine And.intro (fun W' hS' => ?y7) (And.intro (fun _ _ _ h => h) ?_)
      case y7 => obtain ⟨d1, d2, d3, d4⟩ := hS'; go_simp; rfl
      go_simp
      refine take_one 8 hS rfl (by kernel_rfl) (by kernel_rfl) ?_
      apply Exists.intro
      refine And.intro (fun W' hS' => ?y8) (And.intro (fun _ _ _ h => h) ?_)
      case y8 => obtain ⟨d1, d2, d3, d4⟩ := hS'; go_simp; rfl
      refine take_one 9 hS rfl (by kernel_rfl) (by kernel_rfl) ?_
      apply Exists.intro
      refine And.intro (fun W' hS' => ?y9) (And.intro (fun _ _ _ h => h) ?_)
      case y9 => obtain ⟨d1, d2, d3, d4⟩ := hS'; go_simp; rfl
      refine take_one 10 hS rfl (by kernel_rfl) (by kernel_rfl) ?_
      apply Exists.intro
      refine And.intro (fun W' hS' => ?y10) (And.intro (fun _ _ _ h => h) ?_)
      case y10 => obtain ⟨d1, d2, d3, d4⟩ := hS'; go_simp; rfl
      refine take_one 11 hS rfl (by kernel_rfl) (by kernel_rfl) ?_
      apply Exists.intro
      refine And.intro (fun W' hS' => ?y11) (And.intro (fun _ _ _ h => h) ?_)
      case y11 => obtain ⟨d1, d2, d3, d4⟩ := hS'; go_simp; rfl
      go_simp
      refine take_one 12 hS rfl (by kernel_rfl) (by kernel_rfl) ?_
      apply Exists.intro
      refine And.intro (fun W' hS' => ?y12) (And.intro (fun _ _ _ h => h) ?_)
      case y12 => obtain ⟨d1, d2, d3, d4⟩ := hS'; go_simp; rfl
      refine take_one 13 hS rfl (by kernel_rfl) (by kernel_rfl) ?_
      apply Exists.intro
      refine And.intro (fun W' hS' => ?y13) (And.intro (fun _ _ _ h => h) ?_)
      case y13 => obtain ⟨d1, d2, d3, d4⟩ := hS'; go_simp; rfl
      refine take_one 14 hS rfl (by kernel_rfl) (by kernel_rfl) ?_
      apply Exists.intro
      refine And.intro (fun W' hS' => ?y14) (And.intro (fun _ _ _ h => h) ?_)
      case y14 => obtain ⟨d1, d2, d3, d4⟩ := hS'; go_simp; rfl
      go_simp
      refine take_one 15 hS rfl (by kernel_rfl) (by kernel_rfl) ?_
      apply Exists.intro
      refine And.intro (fun W' hS' => ?y15) (And.intro (fun _ _ _ h => h) ?_)
      case y15 => obtain ⟨d1, d2, d3, d4⟩ := hS'; go_simp; rfl
      refine take_one 16 hS rfl (by kernel_rfl) (by kernel_rfl) ?_
      apply Exists.intro
      refine And.intro (fun W' hS' => ?y16) (And.intro (fun _ _ _ h => h) ?_)
      case y16 => obtain ⟨d1, d2, d3, d4⟩ := hS'; go_simp; rfl
      refine all_done (by kernel_rfl) ?_ _
      go_simp
      go_wp2
      go_ret
      refine ⟨?_, ((Chg.refl _ _).alloc _).drew⟩
      unfold fieldOk
      rw [if_neg h0, hl]
      first | rfl | simp
    · have hl : decide (lo ≤ v) = false := decide_eq_false hlo
      go_enter Tryd.func60, Tryd.ntmps60
      go_wp2
      refine region_lone (fun W' => W'.cell? ⟨w.heap.size, 1, none⟩ = some (.pointer (some ⟨b, j, none⟩)) ∧ W'.cell? ⟨w.heap.size, 2, none⟩ = some (.int .i64 lo) ∧ W'.cell? ⟨w.heap.size, 3, none⟩ = some (.int .i64 hi) ∧ W'.cell? ⟨b, j, none⟩ = some (.int .i64 v)) [] (by kernel_rfl) ?_
      refine take_one 0 hS rfl (by kernel_rfl) rfl ?_
      apply Exists.intro
      refine And.intro (fun W' hS' => ?y0) (And.intro (fun _ _ _ h => h) ?_)
      case y0 => obtain ⟨d1, d2, d3, d4⟩ := hS'; go_simp; rfl
      refine take_one 1 hS rfl (by kernel_rfl) rfl ?_
      apply Exists.intro
      refine And.intro (fun W' hS' => ?y1) (And.intro (fun _ _ _ h => h) ?_)
      case y1 => obtain ⟨d1, d2, d3, d4⟩ := hS'; go_simp; rfl
      refine take_one 2 hS rfl (by kernel_rfl) rfl ?_
      apply Exists.intro
      refine And.intro (fun W' hS' => ?y2) (And.intro (fun _ _ _ h => h) ?_)
      case y2 => obtain ⟨d1, d2, d3, d4⟩ := hS'; go_simp; rfl
      refine take_one 3 hS rfl (by kernel_rfl) rfl ?_
      apply Exists.intro
      refine And.intro (fun W' hS' => ?y3) (And.intro (fun _ _ _ h => h) ?_)
      case y3 => obtain ⟨d1, d2, d3, d4⟩ := hS'; go_simp; rfl
      refine take_one 4 hS rfl (by kernel_rfl) rfl ?_
      apply Exists.intro
      refine And.intro (fun W' hS' => ?y4) (And.intro (fun _ _ _ h => h) ?_)
      case y4 => obtain ⟨d1, d2, d3, d4⟩ := hS'; go_simp; rfl
      refine take_one 5 hS rfl (by kernel_rfl) rfl ?_
      apply Exists.intro
      refine And.intro (fun W' hS' => ?y5) (And.intro (fun _ _ _ h => h) ?_)
      case y5 => obtain ⟨d1, d2, d3, d4⟩ := hS'; go_simp; rfl
      refine take_one 6 hS rfl (by kernel_rfl) rfl ?_
      apply Exists.intro
      refine And.intro (fun W' hS' => ?y6) (And.intro (fun _ _ _ h => h) ?_)
      case y6 => obtain ⟨d1, d2, d3, d4⟩ := hS'; go_simp; rfl
      refine take_one 7 hS rfl (by kernel_rfl) rfl ?_
      apply Exists.intro
      refine And.intro (fun W' hS' => ?y7) (And.intro (fun _ _ _ h => h) ?_)
      case y7 => obtain ⟨d1, d2, d3, d4⟩ := hS'; go_simp; rfl
      go_simp
      refine skip_one 8 hS rfl (by kernel_rfl) (by kernel_rfl) (fun _ _ _ h => h) ?_
      refine skip_one 9 hS rfl (by kernel_rfl) (by kernel_rfl) (fun _ _ _ h => h) ?_
      refine skip_one 10 hS rfl (by kernel_rfl) (by kernel_rfl) (fun _ _ _ h => h) ?_
      refine skip_one 11 hS rfl (by kernel_rfl) (by kernel_rfl) (fun _ _ _ h => h) ?_
      refine skip_one 12 hS rfl (by kernel_rfl) (by kernel_rfl) (fun _ _ _ h => h) ?_
      refine skip_one 13 hS rfl (by kernel_rfl) (by kernel_rfl) (fun _ _ _ h => h) ?_
      refine skip_one 14 hS rfl (by kernel_rfl) (by kernel_rfl) (fun _ _ _ h => h) ?_
      go_simp
      refine take_one 15 hS rfl (by kernel_rfl) (by kernel_rfl) ?_
      apply Exists.intro
      refine And.intro (fun W' hS' => ?y15) (And.intro (fun _ _ _ h => h) ?_)
      case y15 => obtain ⟨d1, d2, d3, d4⟩ := hS'; go_simp; rfl
      go_simp
      refine take_one 16 hS rfl (by kernel_rfl) (by kernel_rfl) ?_
      apply Exists.intro
      refine And.intro (fun W' hS' => ?y16) (And.intro (fun _ _ _ h => h) ?_)
      case y16 => obtain ⟨d1, d2, d3, d4⟩ := hS'; go_simp; rfl
      refine all_done (by kernel_rfl) ?_ _
      go_simp
      go_wp2
      go_ret
      refine ⟨?_, ((Chg.refl _ _).alloc _).drew⟩
      unfold fieldOk
      rw [if_neg h0, hl]
      first | rfl | simp
end Go.Proofs.YteiedafdakffeaaDoor
