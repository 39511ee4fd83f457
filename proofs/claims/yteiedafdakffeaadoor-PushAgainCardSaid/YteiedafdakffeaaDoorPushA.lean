/- push: what a packet is in memory; known, kinds, fields. -/
import Derived.Test.YteiedafdakffeaaDoorProg
import Derived.Test.YteiedafdakffeaaDoorInRound
import Derived.Test.YteiedafdakffeaaDoorFrame
import Derived.ProofKit
import Derived.Below
import Derived.Stop.Joined
import Derived.SliceStrings
import Derived.Laws.Tables
import Derived.Laws.Rows
import Derived.Great.BuildSlice
namespace Go.Proofs.YteiedafdakffeaaDoor
set_option linter.unusedVariables false
set_option linter.unusedSimpArgs false
open Go Go.RowKit
/-- what a kind has -/
def ownOf (k : Int) : Int := if k = 1 then 73 else if k = 2 then 187 else if k = 3 then 9 else if k = 4 then 5 else if k = 5 then 5 else 0
def kindsV : Value := .agg #[.int .i64 0, .int .i64 73, .int .i64 187, .int .i64 9, .int .i64 5, .int .i64 5]
theorem known_some (k : Int) (w : World) : Calls Tryd.prog 34 #[.int .i64 k] w fun e w' => e = .returned (.bool (decide (1 ≤ k) && decide (k ≤ 5))) ∧ w' = w := by
  by_cases h1 : 1 ≤ k
  · have d1 : decide (1 ≤ k) = true := decide_eq_true h1
    by_cases h2 : k ≤ 5
    · have d2 : decide (k ≤ 5) = true := decide_eq_true h2
      go_enter Tryd.func34, Tryd.ntmps34
      go_wp2
      go_ret
      exact ⟨by first | rfl | (rw [d1, d2]; rfl), rfl⟩
    · have d2 : decide (k ≤ 5) = false := decide_eq_false h2
      go_enter Tryd.func34, Tryd.ntmps34
      go_wp2
      go_ret
      exact ⟨by first | rfl | (rw [d1, d2]; rfl), rfl⟩
  · have d1 : decide (1 ≤ k) = false := decide_eq_false h1
    go_enter Tryd.func34, Tryd.ntmps34
    go_wp2
    go_ret
    exact ⟨by first | rfl | (rw [d1]; rfl), rfl⟩
set_option maxRecDepth 100000 in
theorem kinds_some (w : World) : Calls Tryd.prog 35 #[] w fun e w' => e = .returned kindsV ∧ Chg (fun _ => False) w w' := by
  have hb : ∀ W : World, Sem.run Tryd.prog (Instr.build 42 #[(1, Value.int .i64 73), (2, Value.int .i64 187), (3, Value.int .i64 9), (4, Value.int .i64 5), (5, Value.int .i64 5)]) W = .ok (.agg #[.int .i64 0, .int .i64 73, .int .i64 187, .int .i64 9, .int .i64 5, .int .i64 5]) W := fun W => run_build W _ _ _ (by kernel_rfl)
  go_enter Tryd.func35, Tryd.ntmps35
  go_wp2
  refine bodyPost_ret (results_cell_row rfl _ _ w.heap.size 42 _ (0, 0) _ rfl (heap_alloc_new _ _) Tryd.underlying42 rfl (by kernel_rfl)) rfl ?_
  exact ⟨rfl, (Chg.refl _ _).alloc _⟩
/-! ### the fields of a packet -/
def leastOf (k : Int) : Int := if k = 4 then 0 else if k = 5 then 0 else if k = 2 then 2 else 1
def fromOf (k ver : Int) : Int := if k = 2 then IntKind.i64.wrap (ver - 1) else 0
def fieldV (b j : Nat) (bit lo hi : Int) : List Value := [.int .i64 bit, .pointer (some ⟨b, j, none⟩), .int .i64 lo, .int .i64 hi]
def fieldCells (b : Nat) (lo fr : Int) : Array Value :=
  (fieldV b 1 1 lo 9007199254740991 ++ fieldV b 2 2 1 fr ++ fieldV b 3 4 0 6 ++ fieldV b 4 8 0 9007199254740991 ++ fieldV b 5 16 0 65536 ++ fieldV b 6 32 0 65536).toArray
theorem built66 (b j : Nat) (bit lo hi : Int) (W : World) : Sem.run Tryd.prog (Instr.build 66 #[(0, Value.int .i64 bit), (1, Value.pointer (some ⟨b, j, none⟩)), (2, Value.int .i64 lo), (3, Value.int .i64 hi)]) W =
    .ok (.agg #[.int .i64 bit, .pointer (some ⟨b, j, none⟩), .int .i64 lo, .int .i64 hi]) W := run_build W _ _ _ (by kernel_rfl)
theorem built61 (b : Nat) (lo fr : Int) (W : World) : Sem.run Tryd.prog (Instr.buildSlice 61 6 #[(0, .agg #[.int .i64 1, .pointer (some ⟨b, 1, none⟩), .int .i64 lo, .int .i64 9007199254740991]), (1, .agg #[.int .i64 2, .pointer (some ⟨b, 2, none⟩), .int .i64 1, .int .i64 fr]),
      (2, .agg #[.int .i64 4, .pointer (some ⟨b, 3, none⟩), .int .i64 0, .int .i64 6]), (3, .agg #[.int .i64 8, .pointer (some ⟨b, 4, none⟩), .int .i64 0, .int .i64 9007199254740991]),
      (4, .agg #[.int .i64 16, .pointer (some ⟨b, 5, none⟩), .int .i64 0, .int .i64 65536]), (5, .agg #[.int .i64 32, .pointer (some ⟨b, 6, none⟩), .int .i64 0, .int .i64 65536])]) W =
    .ok (.slice (some ⟨W.heap.size, 0, none⟩) 6 6) (W.alloc (.cells (fieldCells b lo fr) 66)) := by
  have hz : (Tryd.prog.info? 66).map (fun i => (i.zero, i.size)) = some (some (.agg #[.int .i64 0, .pointer none, .int .i64 0, .int .i64 0]), 4) := by kernel_rfl
  obtain ⟨ie, hie, h2⟩ := Option.map_eq_some_iff.1 hz
  obtain ⟨h3, h4⟩ := Prod.mk.inj h2
  exact run_buildSlice W _ 66 6 _ (fieldCells b lo fr) ie _ Tryd.underlying61 hie h3 (by rw [h4]; decide) (by rw [h4]; decide) (by rw [h4]; kernel_rfl)
set_option maxRecDepth 100000 in
set_option maxHeartbeats 4000000 in
theorem fields_some (w : World) (b : Nat) (k ver fr nd tk hd tl : Int) (tx ls : Value) (hb : w.heap[b]? = some (.cells #[.int .i64 k, .int .i64 ver, .int .i64 fr, .int .i64 nd, .int .i64 tk, .int .i64 hd, .int .i64 tl, tx, ls] 26 (0, 0))) :
    Calls Tryd.prog 36 #[.pointer (some ⟨b, 0, none⟩)] w fun e w' => ∃ g, e = .returned (.slice (some ⟨g, 0, none⟩) 6 6) ∧ w.heap.size ≤ g ∧ w'.heap[g]? = some (.cells (fieldCells b (leastOf k) (fromOf k ver)) 66 (0, 0)) ∧ Chg (fun _ => False) w w' := by
  have c0 : w.cell? ⟨b, 0, none⟩ = some (.int .i64 k) := by rw [cell_of_heap hb]; rfl
  have c1 : w.cell? ⟨b, 1, none⟩ = some (.int .i64 ver) := by rw [cell_of_heap hb]; rfl
  have b1 := fun lo W => built66 b 1 1 lo 9007199254740991 W
  have b2 := fun f W => built66 b 2 2 1 f W
  have b3 := built66 b 3 4 0 6
  have b4 := built66 b 4 8 0 9007199254740991
  have b5 := built66 b 5 16 0 65536
  have b6 := built66 b 6 32 0 65536
  have b7 := built61 b
  clear hb
  by_cases h4 : k = 4
  · subst h4
    go_enter Tryd.func36, Tryd.ntmps36
    go_wp2
    refine region_lone (fun _ => True) [] (by kernel_rfl) ?_
    refine take_one 0 trivial rfl (by kernel_rfl) rfl ?_
    apply Exists.intro
    refine And.intro (fun W' _ => ?y0) (And.intro (fun _ _ _ h => h) ?_)
    case y0 => go_simp; rfl
    refine take_one 1 trivial rfl (by kernel_rfl) rfl ?_
    apply Exists.intro
    refine And.intro (fun W' _ => ?y1) (And.intro (fun _ _ _ h => h) ?_)
    case y1 => go_simp; rfl
    refine take_one 2 trivial rfl (by kernel_rfl) rfl ?_
    apply Exists.intro
    refine And.intro (fun W' _ => ?y2) (And.intro (fun _ _ _ h => h) ?_)
    case y2 => go_simp; rfl
    refine take_one 3 trivial rfl (by kernel_rfl) rfl ?_
    apply Exists.intro
    refine And.intro (fun W' _ => ?y3) (And.intro (fun _ _ _ h => h) ?_)
    case y3 => go_simp; rfl
    refine take_one 4 trivial rfl (by kernel_rfl) rfl ?_
    apply Exists.intro
    refine And.intro (fun W' _ => ?y4) (And.intro (fun _ _ _ h => h) ?_)
    case y4 => go_simp; rfl
    refine take_one 5 trivial rfl (by kernel_rfl) rfl ?_
    apply Exists.intro
    refine And.intro (fun W' _ => ?y5) (And.intro (fun _ _ _ h => h) ?_)
    case y5 => go_simp; rfl
    refine take_one 6 trivial rfl (by kernel_rfl) rfl ?_
    apply Exists.intro
    refine And.intro (fun W' _ => ?y6) (And.intro (fun _ _ _ h => h) ?_)
    case y6 => go_simp; rfl
    refine take_one 7 trivial rfl (by kernel_rfl) rfl ?_
    apply Exists.intro
    refine And.intro (fun W' _ => ?y7) (And.intro (fun _ _ _ h => h) ?_)
    case y7 => go_simp; rfl
    refine take_one 8 trivial rfl (by kernel_rfl) rfl ?_
    apply Exists.intro
    refine And.intro (fun W' _ => ?y8) (And.intro (fun _ _ _ h => h) ?_)
    case y8 => go_simp; rfl
    refine take_one 9 trivial rfl (by kernel_rfl) rfl ?_
    apply Exists.intro
    refine And.intro (fun W' _ => ?y9) (And.intro (fun _ _ _ h => h) ?_)
    case y9 => go_simp; rfl
    refine take_one 10 trivial rfl (by kernel_rfl) rfl ?_
    apply Exists.intro
    refine And.intro (fun W' _ => ?y10) (And.intro (fun _ _ _ h => h) ?_)
    case y10 => go_simp; rfl
    refine take_one 11 trivial rfl (by kernel_rfl) rfl ?_
    apply Exists.intro
    refine And.intro (fun W' _ => ?y11) (And.intro (fun _ _ _ h => h) ?_)
    case y11 => go_simp; rfl
    refine take_one 12 trivial rfl (by kernel_rfl) rfl ?_
    apply Exists.intro
    refine And.intro (fun W' _ => ?y12) (And.intro (fun _ _ _ h => h) ?_)
    case y12 => go_simp; rfl
    refine take_one 13 trivial rfl (by kernel_rfl) rfl ?_
    apply Exists.intro
    refine And.intro (fun W' _ => ?y13) (And.intro (fun _ _ _ h => h) ?_)
    case y13 => go_simp; rfl
    refine take_one 14 trivial rfl (by kernel_rfl) rfl ?_
    apply Exists.intro
    refine And.intro (fun W' _ => ?y14) (And.intro (fun _ _ _ h => h) ?_)
    case y14 => go_simp; rfl
    refine take_one 15 trivial rfl (by kernel_rfl) rfl ?_
    apply Exists.intro
    refine And.intro (fun W' _ => ?y15) (And.intro (fun _ _ _ h => h) ?_)
    case y15 => go_simp; rfl
    refine take_one 16 trivial rfl (by kernel_rfl) rfl ?_
    apply Exists.intro
    refine And.intro (fun W' _ => ?y16) (And.intro (fun _ _ _ h => h) ?_)
    case y16 => go_simp; rfl
    refine take_one 17 trivial rfl (by kernel_rfl) rfl ?_
    apply Exists.intro
    refine And.intro (fun W' _ => ?y17) (And.intro (fun _ _ _ h => h) ?_)
    case y17 => go_simp; rfl
    refine take_one 18 trivial rfl (by kernel_rfl) rfl ?_
    apply Exists.intro
    refine And.intro (fun W' _ => ?y18) (And.intro (fun _ _ _ h => h) ?_)
    case y18 => go_simp; rfl
    refine take_one 19 trivial rfl (by kernel_rfl) rfl ?_
    apply Exists.intro
    refine And.intro (fun W' _ => ?y19) (And.intro (fun _ _ _ h => h) ?_)
    case y19 => go_simp; rfl
    refine take_one 20 trivial rfl (by kernel_rfl) rfl ?_
    apply Exists.intro
    refine And.intro (fun W' _ => ?y20) (And.intro (fun _ _ _ h => h) ?_)
    case y20 => go_simp; rfl
    refine take_one 21 trivial rfl (by kernel_rfl) rfl ?_
    apply Exists.intro
    refine And.intro (fun W' _ => ?y21) (And.intro (fun _ _ _ h => h) ?_)
    case y21 => go_simp; rfl
    refine take_one 22 trivial rfl (by kernel_rfl) rfl ?_
    apply Exists.intro
    refine And.intro (fun W' _ => ?y22) (And.intro (fun _ _ _ h => h) ?_)
    case y22 => go_simp; rfl
    refine take_one 23 trivial rfl (by kernel_rfl) rfl ?_
    apply Exists.intro
    refine And.intro (fun W' _ => ?y23) (And.intro (fun _ _ _ h => h) ?_)
    case y23 => go_simp; rfl
    refine take_one 24 trivial rfl (by kernel_rfl) rfl ?_
    apply Exists.intro
    refine And.intro (fun W' _ => ?y24) (And.intro (fun _ _ _ h => h) ?_)
    case y24 => go_simp; rfl
    refine take_one 25 trivial rfl (by kernel_rfl) rfl ?_
    apply Exists.intro
    refine And.intro (fun W' _ => ?y25) (And.intro (fun _ _ _ h => h) ?_)
    case y25 => go_simp; rfl
    refine only_one 26 rfl (by kernel_rfl) rfl ?_
    go_simp
    refine take_one 27 trivial rfl (by kernel_rfl) rfl ?_
    apply Exists.intro
    refine And.intro (fun W' _ => ?y27) (And.intro (fun _ _ _ h => h) ?_)
    case y27 => go_simp; rfl
    refine all_done (by kernel_rfl) ?_ _
    go_wp2
    go_ret
    exact ⟨_, rfl, by simp, heap_alloc_new _ _, ((Chg.refl _ _).drew).alloc _⟩
  · by_cases h5 : k = 5
    · subst h5
      go_enter Tryd.func36, Tryd.ntmps36
      go_wp2
      refine region_lone (fun _ => True) [] (by kernel_rfl) ?_
      refine take_one 0 trivial rfl (by kernel_rfl) rfl ?_
      apply Exists.intro
      refine And.intro (fun W' _ => ?y0) (And.intro (fun _ _ _ h => h) ?_)
      case y0 => go_simp; rfl
      refine take_one 1 trivial rfl (by kernel_rfl) rfl ?_
      apply Exists.intro
      refine And.intro (fun W' _ => ?y1) (And.intro (fun _ _ _ h => h) ?_)
      case y1 => go_simp; rfl
      refine take_one 2 trivial rfl (by kernel_rfl) rfl ?_
      apply Exists.intro
      refine And.intro (fun W' _ => ?y2) (And.intro (fun _ _ _ h => h) ?_)
      case y2 => go_simp; rfl
      refine take_one 3 trivial rfl (by kernel_rfl) rfl ?_
      apply Exists.intro
      refine And.intro (fun W' _ => ?y3) (And.intro (fun _ _ _ h => h) ?_)
      case y3 => go_simp; rfl
      refine take_one 4 trivial rfl (by kernel_rfl) rfl ?_
      apply Exists.intro
      refine And.intro (fun W' _ => ?y4) (And.intro (fun _ _ _ h => h) ?_)
      case y4 => go_simp; rfl
      refine take_one 5 trivial rfl (by kernel_rfl) rfl ?_
      apply Exists.intro
      refine And.intro (fun W' _ => ?y5) (And.intro (fun _ _ _ h => h) ?_)
      case y5 => go_simp; rfl
      refine take_one 6 trivial rfl (by kernel_rfl) rfl ?_
      apply Exists.intro
      refine And.intro (fun W' _ => ?y6) (And.intro (fun _ _ _ h => h) ?_)
      case y6 => go_simp; rfl
      refine take_one 7 trivial rfl (by kernel_rfl) rfl ?_
      apply Exists.intro
      refine And.intro (fun W' _ => ?y7) (And.intro (fun _ _ _ h => h) ?_)
      case y7 => go_simp; rfl
      refine take_one 8 trivial rfl (by kernel_rfl) rfl ?_
      apply Exists.intro
      refine And.intro (fun W' _ => ?y8) (And.intro (fun _ _ _ h => h) ?_)
      case y8 => go_simp; rfl
      refine take_one 9 trivial rfl (by kernel_rfl) rfl ?_
      apply Exists.intro
      refine And.intro (fun W' _ => ?y9) (And.intro (fun _ _ _ h => h) ?_)
      case y9 => go_simp; rfl
      refine take_one 10 trivial rfl (by kernel_rfl) rfl ?_
      apply Exists.intro
      refine And.intro (fun W' _ => ?y10) (And.intro (fun _ _ _ h => h) ?_)
      case y10 => go_simp; rfl
      refine take_one 11 trivial rfl (by kernel_rfl) rfl ?_
      apply Exists.intro
      refine And.intro (fun W' _ => ?y11) (And.intro (fun _ _ _ h => h) ?_)
      case y11 => go_simp; rfl
      refine take_one 12 trivial rfl (by kernel_rfl) rfl ?_
      apply Exists.intro
      refine And.intro (fun W' _ => ?y12) (And.intro (fun _ _ _ h => h) ?_)
      case y12 => go_simp; rfl
      refine take_one 13 trivial rfl (by kernel_rfl) rfl ?_
      apply Exists.intro
      refine And.intro (fun W' _ => ?y13) (And.intro (fun _ _ _ h => h) ?_)
      case y13 => go_simp; rfl
      refine take_one 14 trivial rfl (by kernel_rfl) rfl ?_
      apply Exists.intro
      refine And.intro (fun W' _ => ?y14) (And.intro (fun _ _ _ h => h) ?_)
      case y14 => go_simp; rfl
      refine take_one 15 trivial rfl (by kernel_rfl) rfl ?_
      apply Exists.intro
      refine And.intro (fun W' _ => ?y15) (And.intro (fun _ _ _ h => h) ?_)
      case y15 => go_simp; rfl
      refine take_one 16 trivial rfl (by kernel_rfl) rfl ?_
      apply Exists.intro
      refine And.intro (fun W' _ => ?y16) (And.intro (fun _ _ _ h => h) ?_)
      case y16 => go_simp; rfl
      refine take_one 17 trivial rfl (by kernel_rfl) rfl ?_
      apply Exists.intro
      refine And.intro (fun W' _ => ?y17) (And.intro (fun _ _ _ h => h) ?_)
      case y17 => go_simp; rfl
      refine take_one 18 trivial rfl (by kernel_rfl) rfl ?_
      apply Exists.intro
      refine And.intro (fun W' _ => ?y18) (And.intro (fun _ _ _ h => h) ?_)
      case y18 => go_simp; rfl
      refine take_one 19 trivial rfl (by kernel_rfl) rfl ?_
      apply Exists.intro
      refine And.intro (fun W' _ => ?y19) (And.intro (fun _ _ _ h => h) ?_)
      case y19 => go_simp; rfl
      refine take_one 20 trivial rfl (by kernel_rfl) rfl ?_
      apply Exists.intro
      refine And.intro (fun W' _ => ?y20) (And.intro (fun _ _ _ h => h) ?_)
      case y20 => go_simp; rfl
      refine take_one 21 trivial rfl (by kernel_rfl) rfl ?_
      apply Exists.intro
      refine And.intro (fun W' _ => ?y21) (And.intro (fun _ _ _ h => h) ?_)
      case y21 => go_simp; rfl
      refine take_one 22 trivial rfl (by kernel_rfl) rfl ?_
      apply Exists.intro
      refine And.intro (fun W' _ => ?y22) (And.intro (fun _ _ _ h => h) ?_)
      case y22 => go_simp; rfl
      refine take_one 23 trivial rfl (by kernel_rfl) rfl ?_
      apply Exists.intro
      refine And.intro (fun W' _ => ?y23) (And.intro (fun _ _ _ h => h) ?_)
      case y23 => go_simp; rfl
      refine take_one 24 trivial rfl (by kernel_rfl) rfl ?_
      apply Exists.intro
      refine And.intro (fun W' _ => ?y24) (And.intro (fun _ _ _ h => h) ?_)
      case y24 => go_simp; rfl
      refine take_one 25 trivial rfl (by kernel_rfl) rfl ?_
      apply Exists.intro
      refine And.intro (fun W' _ => ?y25) (And.intro (fun _ _ _ h => h) ?_)
      case y25 => go_simp; rfl
      refine only_one 26 rfl (by kernel_rfl) rfl ?_
      go_simp
      refine take_one 27 trivial rfl (by kernel_rfl) rfl ?_
      apply Exists.intro
      refine And.intro (fun W' _ => ?y27) (And.intro (fun _ _ _ h => h) ?_)
      case y27 => go_simp; rfl
      refine all_done (by kernel_rfl) ?_ _
      go_wp2
      go_ret
      exact ⟨_, rfl, by simp, heap_alloc_new _ _, ((Chg.refl _ _).drew).alloc _⟩
    · have n4 : (k == 4) = false := beq_eq_false_iff_ne.2 h4
      have n5 : (k == 5) = false := beq_eq_false_iff_ne.2 h5
      by_cases h2 : k = 2
      · subst h2
        have hS : w.drew.cell? ⟨b, 0, none⟩ = some (.int .i64 2) ∧ w.drew.cell? ⟨b, 1, none⟩ = some (.int .i64 ver) := ⟨c0, c1⟩
        go_enter Tryd.func36, Tryd.ntmps36
        go_wp2
        refine region_lone (fun W' => W'.cell? ⟨b, 0, none⟩ = some (.int .i64 2) ∧ W'.cell? ⟨b, 1, none⟩ = some (.int .i64 ver)) [] (by kernel_rfl) ?_
        refine take_one 0 hS rfl (by kernel_rfl) rfl ?_
        apply Exists.intro
        refine And.intro (fun W' hS' => ?z0) (And.intro (fun _ _ _ h => h) ?_)
        case z0 => obtain ⟨d1, d2⟩ := hS'; go_simp; rfl
        refine take_one 1 hS rfl (by kernel_rfl) rfl ?_
        apply Exists.intro
        refine And.intro (fun W' hS' => ?z1) (And.intro (fun _ _ _ h => h) ?_)
        case z1 => obtain ⟨d1, d2⟩ := hS'; go_simp; rfl
        refine take_one 2 hS rfl (by kernel_rfl) rfl ?_
        apply Exists.intro
        refine And.intro (fun W' hS' => ?z2) (And.intro (fun _ _ _ h => h) ?_)
        case z2 => obtain ⟨d1, d2⟩ := hS'; go_simp; rfl
        refine take_one 3 hS rfl (by kernel_rfl) rfl ?_
        apply Exists.intro
        refine And.intro (fun W' hS' => ?z3) (And.intro (fun _ _ _ h => h) ?_)
        case z3 => obtain ⟨d1, d2⟩ := hS'; go_simp; rfl
        refine take_one 4 hS rfl (by kernel_rfl) rfl ?_
        apply Exists.intro
        refine And.intro (fun W' hS' => ?z4) (And.intro (fun _ _ _ h => h) ?_)
        case z4 => obtain ⟨d1, d2⟩ := hS'; go_simp; rfl
        refine take_one 5 hS rfl (by kernel_rfl) rfl ?_
        apply Exists.intro
        refine And.intro (fun W' hS' => ?z5) (And.intro (fun _ _ _ h => h) ?_)
        case z5 => obtain ⟨d1, d2⟩ := hS'; go_simp; rfl
        refine take_one 6 hS rfl (by kernel_rfl) rfl ?_
        apply Exists.intro
        refine And.intro (fun W' hS' => ?z6) (And.intro (fun _ _ _ h => h) ?_)
        case z6 => obtain ⟨d1, d2⟩ := hS'; go_simp; rfl
        refine all_done (by kernel_rfl) ?_ _
        go_wp2
        refine region_lone (fun _ => True) [] (by kernel_rfl) ?_
        refine take_one 0 trivial rfl (by kernel_rfl) rfl ?_
        apply Exists.intro
        refine And.intro (fun W' _ => ?y0) (And.intro (fun _ _ _ h => h) ?_)
        case y0 => go_simp; rfl
        refine take_one 1 trivial rfl (by kernel_rfl) rfl ?_
        apply Exists.intro
        refine And.intro (fun W' _ => ?y1) (And.intro (fun _ _ _ h => h) ?_)
        case y1 => go_simp; rfl
        refine take_one 2 trivial rfl (by kernel_rfl) rfl ?_
        apply Exists.intro
        refine And.intro (fun W' _ => ?y2) (And.intro (fun _ _ _ h => h) ?_)
        case y2 => go_simp; rfl
        refine take_one 3 trivial rfl (by kernel_rfl) rfl ?_
        apply Exists.intro
        refine And.intro (fun W' _ => ?y3) (And.intro (fun _ _ _ h => h) ?_)
        case y3 => go_simp; rfl
        refine take_one 4 trivial rfl (by kernel_rfl) rfl ?_
        apply Exists.intro
        refine And.intro (fun W' _ => ?y4) (And.intro (fun _ _ _ h => h) ?_)
        case y4 => go_simp; rfl
        refine take_one 5 trivial rfl (by kernel_rfl) rfl ?_
        apply Exists.intro
        refine And.intro (fun W' _ => ?y5) (And.intro (fun _ _ _ h => h) ?_)
        case y5 => go_simp; rfl
        refine take_one 6 trivial rfl (by kernel_rfl) rfl ?_
        apply Exists.intro
        refine And.intro (fun W' _ => ?y6) (And.intro (fun _ _ _ h => h) ?_)
        case y6 => go_simp; rfl
        refine take_one 7 trivial rfl (by kernel_rfl) rfl ?_
        apply Exists.intro
        refine And.intro (fun W' _ => ?y7) (And.intro (fun _ _ _ h => h) ?_)
        case y7 => go_simp; rfl
        refine take_one 8 trivial rfl (by kernel_rfl) rfl ?_
        apply Exists.intro
        refine And.intro (fun W' _ => ?y8) (And.intro (fun _ _ _ h => h) ?_)
        case y8 => go_simp; rfl
        refine take_one 9 trivial rfl (by kernel_rfl) rfl ?_
        apply Exists.intro
        refine And.intro (fun W' _ => ?y9) (And.intro (fun _ _ _ h => h) ?_)
        case y9 => go_simp; rfl
        refine take_one 10 trivial rfl (by kernel_rfl) rfl ?_
        apply Exists.intro
        refine And.intro (fun W' _ => ?y10) (And.intro (fun _ _ _ h => h) ?_)
        case y10 => go_simp; rfl
        refine take_one 11 trivial rfl (by kernel_rfl) rfl ?_
        apply Exists.intro
        refine And.intro (fun W' _ => ?y11) (And.intro (fun _ _ _ h => h) ?_)
        case y11 => go_simp; rfl
        refine take_one 12 trivial rfl (by kernel_rfl) rfl ?_
        apply Exists.intro
        refine And.intro (fun W' _ => ?y12) (And.intro (fun _ _ _ h => h) ?_)
        case y12 => go_simp; rfl
        refine take_one 13 trivial rfl (by kernel_rfl) rfl ?_
        apply Exists.intro
        refine And.intro (fun W' _ => ?y13) (And.intro (fun _ _ _ h => h) ?_)
        case y13 => go_simp; rfl
        refine take_one 14 trivial rfl (by kernel_rfl) rfl ?_
        apply Exists.intro
        refine And.intro (fun W' _ => ?y14) (And.intro (fun _ _ _ h => h) ?_)
        case y14 => go_simp; rfl
        refine take_one 15 trivial rfl (by kernel_rfl) rfl ?_
        apply Exists.intro
        refine And.intro (fun W' _ => ?y15) (And.intro (fun _ _ _ h => h) ?_)
        case y15 => go_simp; rfl
        refine take_one 16 trivial rfl (by kernel_rfl) rfl ?_
        apply Exists.intro
        refine And.intro (fun W' _ => ?y16) (And.intro (fun _ _ _ h => h) ?_)
        case y16 => go_simp; rfl
        refine take_one 17 trivial rfl (by kernel_rfl) rfl ?_
        apply Exists.intro
        refine And.intro (fun W' _ => ?y17) (And.intro (fun _ _ _ h => h) ?_)
        case y17 => go_simp; rfl
        refine take_one 18 trivial rfl (by kernel_rfl) rfl ?_
        apply Exists.intro
        refine And.intro (fun W' _ => ?y18) (And.intro (fun _ _ _ h => h) ?_)
        case y18 => go_simp; rfl
        refine take_one 19 trivial rfl (by kernel_rfl) rfl ?_
        apply Exists.intro
        refine And.intro (fun W' _ => ?y19) (And.intro (fun _ _ _ h => h) ?_)
        case y19 => go_simp; rfl
        refine take_one 20 trivial rfl (by kernel_rfl) rfl ?_
        apply Exists.intro
        refine And.intro (fun W' _ => ?y20) (And.intro (fun _ _ _ h => h) ?_)
        case y20 => go_simp; rfl
        refine take_one 21 trivial rfl (by kernel_rfl) rfl ?_
        apply Exists.intro
        refine And.intro (fun W' _ => ?y21) (And.intro (fun _ _ _ h => h) ?_)
        case y21 => go_simp; rfl
        refine take_one 22 trivial rfl (by kernel_rfl) rfl ?_
        apply Exists.intro
        refine And.intro (fun W' _ => ?y22) (And.intro (fun _ _ _ h => h) ?_)
        case y22 => go_simp; rfl
        refine take_one 23 trivial rfl (by kernel_rfl) rfl ?_
        apply Exists.intro
        refine And.intro (fun W' _ => ?y23) (And.intro (fun _ _ _ h => h) ?_)
        case y23 => go_simp; rfl
        refine take_one 24 trivial rfl (by kernel_rfl) rfl ?_
        apply Exists.intro
        refine And.intro (fun W' _ => ?y24) (And.intro (fun _ _ _ h => h) ?_)
        case y24 => go_simp; rfl
        refine take_one 25 trivial rfl (by kernel_rfl) rfl ?_
        apply Exists.intro
        refine And.intro (fun W' _ => ?y25) (And.intro (fun _ _ _ h => h) ?_)
        case y25 => go_simp; rfl
        refine only_one 26 rfl (by kernel_rfl) rfl ?_
        go_simp
        refine take_one 27 trivial rfl (by kernel_rfl) rfl ?_
        apply Exists.intro
        refine And.intro (fun W' _ => ?y27) (And.intro (fun _ _ _ h => h) ?_)
        case y27 => go_simp; rfl
        refine all_done (by kernel_rfl) ?_ _
        go_wp2
        go_ret
        exact ⟨_, rfl, by simp, heap_alloc_new _ _, ((Chg.refl _ _).drew.drew).alloc _⟩
      · have n2 : (k == 2) = false := beq_eq_false_iff_ne.2 h2
        have l0 : leastOf k = 1 := by unfold leastOf; rw [if_neg h4, if_neg h5, if_neg h2]
        have f0 : fromOf k ver = 0 := by unfold fromOf; rw [if_neg h2]
        rw [l0, f0]
        go_enter Tryd.func36, Tryd.ntmps36
        go_wp2
        refine region_lone (fun _ => True) [] (by kernel_rfl) ?_
        refine take_one 0 trivial rfl (by kernel_rfl) rfl ?_
        apply Exists.intro
        refine And.intro (fun W' _ => ?y0) (And.intro (fun _ _ _ h => h) ?_)
        case y0 => go_simp; rfl
        refine take_one 1 trivial rfl (by kernel_rfl) rfl ?_
        apply Exists.intro
        refine And.intro (fun W' _ => ?y1) (And.intro (fun _ _ _ h => h) ?_)
        case y1 => go_simp; rfl
        refine take_one 2 trivial rfl (by kernel_rfl) rfl ?_
        apply Exists.intro
        refine And.intro (fun W' _ => ?y2) (And.intro (fun _ _ _ h => h) ?_)
        case y2 => go_simp; rfl
        refine take_one 3 trivial rfl (by kernel_rfl) rfl ?_
        apply Exists.intro
        refine And.intro (fun W' _ => ?y3) (And.intro (fun _ _ _ h => h) ?_)
        case y3 => go_simp; rfl
        refine take_one 4 trivial rfl (by kernel_rfl) rfl ?_
        apply Exists.intro
        refine And.intro (fun W' _ => ?y4) (And.intro (fun _ _ _ h => h) ?_)
        case y4 => go_simp; rfl
        refine take_one 5 trivial rfl (by kernel_rfl) rfl ?_
        apply Exists.intro
        refine And.intro (fun W' _ => ?y5) (And.intro (fun _ _ _ h => h) ?_)
        case y5 => go_simp; rfl
        refine take_one 6 trivial rfl (by kernel_rfl) rfl ?_
        apply Exists.intro
        refine And.intro (fun W' _ => ?y6) (And.intro (fun _ _ _ h => h) ?_)
        case y6 => go_simp; rfl
        refine take_one 7 trivial rfl (by kernel_rfl) rfl ?_
        apply Exists.intro
        refine And.intro (fun W' _ => ?y7) (And.intro (fun _ _ _ h => h) ?_)
        case y7 => go_simp; rfl
        refine take_one 8 trivial rfl (by kernel_rfl) rfl ?_
        apply Exists.intro
        refine And.intro (fun W' _ => ?y8) (And.intro (fun _ _ _ h => h) ?_)
        case y8 => go_simp; rfl
        refine take_one 9 trivial rfl (by kernel_rfl) rfl ?_
        apply Exists.intro
        refine And.intro (fun W' _ => ?y9) (And.intro (fun _ _ _ h => h) ?_)
        case y9 => go_simp; rfl
        refine take_one 10 trivial rfl (by kernel_rfl) rfl ?_
        apply Exists.intro
        refine And.intro (fun W' _ => ?y10) (And.intro (fun _ _ _ h => h) ?_)
        case y10 => go_simp; rfl
        refine take_one 11 trivial rfl (by kernel_rfl) rfl ?_
        apply Exists.intro
        refine And.intro (fun W' _ => ?y11) (And.intro (fun _ _ _ h => h) ?_)
        case y11 => go_simp; rfl
        refine take_one 12 trivial rfl (by kernel_rfl) rfl ?_
        apply Exists.intro
        refine And.intro (fun W' _ => ?y12) (And.intro (fun _ _ _ h => h) ?_)
        case y12 => go_simp; rfl
        refine take_one 13 trivial rfl (by kernel_rfl) rfl ?_
        apply Exists.intro
        refine And.intro (fun W' _ => ?y13) (And.intro (fun _ _ _ h => h) ?_)
        case y13 => go_simp; rfl
        refine take_one 14 trivial rfl (by kernel_rfl) rfl ?_
        apply Exists.intro
        refine And.intro (fun W' _ => ?y14) (And.intro (fun _ _ _ h => h) ?_)
        case y14 => go_simp; rfl
        refine take_one 15 trivial rfl (by kernel_rfl) rfl ?_
        apply Exists.intro
        refine And.intro (fun W' _ => ?y15) (And.intro (fun _ _ _ h => h) ?_)
        case y15 => go_simp; rfl
        refine take_one 16 trivial rfl (by kernel_rfl) rfl ?_
        apply Exists.intro
        refine And.intro (fun W' _ => ?y16) (And.intro (fun _ _ _ h => h) ?_)
        case y16 => go_simp; rfl
        refine take_one 17 trivial rfl (by kernel_rfl) rfl ?_
        apply Exists.intro
        refine And.intro (fun W' _ => ?y17) (And.intro (fun _ _ _ h => h) ?_)
        case y17 => go_simp; rfl
        refine take_one 18 trivial rfl (by kernel_rfl) rfl ?_
        apply Exists.intro
        refine And.intro (fun W' _ => ?y18) (And.intro (fun _ _ _ h => h) ?_)
        case y18 => go_simp; rfl
        refine take_one 19 trivial rfl (by kernel_rfl) rfl ?_
        apply Exists.intro
        refine And.intro (fun W' _ => ?y19) (And.intro (fun _ _ _ h => h) ?_)
        case y19 => go_simp; rfl
        refine take_one 20 trivial rfl (by kernel_rfl) rfl ?_
        apply Exists.intro
        refine And.intro (fun W' _ => ?y20) (And.intro (fun _ _ _ h => h) ?_)
        case y20 => go_simp; rfl
        refine take_one 21 trivial rfl (by kernel_rfl) rfl ?_
        apply Exists.intro
        refine And.intro (fun W' _ => ?y21) (And.intro (fun _ _ _ h => h) ?_)
        case y21 => go_simp; rfl
        refine take_one 22 trivial rfl (by kernel_rfl) rfl ?_
        apply Exists.intro
        refine And.intro (fun W' _ => ?y22) (And.intro (fun _ _ _ h => h) ?_)
        case y22 => go_simp; rfl
        refine take_one 23 trivial rfl (by kernel_rfl) rfl ?_
        apply Exists.intro
        refine And.intro (fun W' _ => ?y23) (And.intro (fun _ _ _ h => h) ?_)
        case y23 => go_simp; rfl
        refine take_one 24 trivial rfl (by kernel_rfl) rfl ?_
        apply Exists.intro
        refine And.intro (fun W' _ => ?y24) (And.intro (fun _ _ _ h => h) ?_)
        case y24 => go_simp; rfl
        refine take_one 25 trivial rfl (by kernel_rfl) rfl ?_
        apply Exists.intro
        refine And.intro (fun W' _ => ?y25) (And.intro (fun _ _ _ h => h) ?_)
        case y25 => go_simp; rfl
        refine only_one 26 rfl (by kernel_rfl) rfl ?_
        go_simp
        refine take_one 27 trivial rfl (by kernel_rfl) rfl ?_
        apply Exists.intro
        refine And.intro (fun W' _ => ?y27) (And.intro (fun _ _ _ h => h) ?_)
        case y27 => go_simp; rfl
        refine all_done (by kernel_rfl) ?_ _
        go_wp2
        go_ret
        exact ⟨_, rfl, by simp, heap_alloc_new _ _, ((Chg.refl _ _).drew).alloc _⟩
end Go.Proofs.YteiedafdakffeaaDoor
