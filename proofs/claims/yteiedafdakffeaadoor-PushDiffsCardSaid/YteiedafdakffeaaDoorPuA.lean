/- push: what a packet is in memory; known, kinds, fields. (And what follows from it: PushA, PushB, PushC, PushD, PushE, PushF, PushG, PushH, PushI.) -/
import Derived.Test.YteiedafdakffeaaDoorProg
import Derived.Test.YteiedafdakffeaaDoorInRound
import Derived.Test.YteiedafdakffeaaDoorFrame
import Derived.ProofKit
import Derived.Below
import Derived.Stop.Joined
import Derived.SliceStrings
import Derived.Laws.Tables
import Derived.Laws.Rows
import Derived.Great.BuildSlice
import Derived.Laws.EntriesVeiled
import Derived.Lib.Hide
import Derived.WalkKit
import Derived.WalkLawsBesides
import Derived.WalkSpells
import Derived.Test.YteiedafdakffeaaDoorShelf
/- push: what a packet is in memory; known, kinds, fields. -/
namespace Go.Proofs.YteiedafdakffeaaDoor
set_option linter.unusedVariables false
set_option linter.unusedSimpArgs false
open Go Go.RowKit
/-- what a kind has -/
def ownOf (k : Int) : Int := if k = 1 then 73 else if k = 2 then 187 else if k = 3 then 9 else if k = 4 then 5 else if k = 5 then 5 else 0
def kindsV : Value := .agg #[.int .i64 0, .int .i64 73, .int .i64 187, .int .i64 9, .int .i64 5, .int .i64 5]
theorem known_some (k : Int) (w : World) : Calls Tryd.prog 34 #[.int .i64 k] w fun e w' => e = .returned (.bool (decide (1 ≤ k) && decide (k ≤ 5))) ∧ w' = w := by
  by_cases h1 : 1 ≤ k
  · have d1 : decide (1 ≤ k) = true := decide_eq_true h1
    by_cases h2 : k ≤ 5
    · have d2 : decide (k ≤ 5) = true := decide_eq_true h2
      go_enter Tryd.func34, Tryd.ntmps34
      go_wp2
      go_ret
      exact ⟨by first | rfl | (rw [d1, d2]; rfl), rfl⟩
    · have d2 : decide (k ≤ 5) = false := decide_eq_false h2
      go_enter Tryd.func34, Tryd.ntmps34
      go_wp2
      go_ret
      exact ⟨by first | rfl | (rw [d1, d2]; rfl), rfl⟩
  · have d1 : decide (1 ≤ k) = false := decide_eq_false h1
    go_enter Tryd.func34, Tryd.ntmps34
    go_wp2
    go_ret
    exact ⟨by first | rfl | (rw [d1]; rfl), rfl⟩
set_option maxRecDepth 100000 in
theorem kinds_some (w : World) : Calls Tryd.prog 35 #[] w fun e w' => e = .returned kindsV ∧ Chg (fun _ => False) w w' := by
  have hb : ∀ W : World, Sem.run Tryd.prog (Instr.build 42 #[(1, Value.int .i64 73), (2, Value.int .i64 187), (3, Value.int .i64 9), (4, Value.int .i64 5), (5, Value.int .i64 5)]) W = .ok (.agg #[.int .i64 0, .int .i64 73, .int .i64 187, .int .i64 9, .int .i64 5, .int .i64 5]) W := fun W => run_build W _ _ _ (by kernel_rfl)
  go_enter Tryd.func35, Tryd.ntmps35
  go_wp2
  refine bodyPost_ret (results_cell_row rfl _ _ w.heap.size 42 _ (0, 0) _ rfl (heap_alloc_new _ _) Tryd.underlying42 rfl (by kernel_rfl)) rfl ?_
  exact ⟨rfl, (Chg.refl _ _).alloc _⟩
/-! ### the fields of a packet -/
def leastOf (k : Int) : Int := if k = 4 then 0 else if k = 5 then 0 else if k = 2 then 2 else 1
def fromOf (k ver : Int) : Int := if k = 2 then IntKind.i64.wrap (ver - 1) else 0
def fieldV (b j : Nat) (bit lo hi : Int) : List Value := [.int .i64 bit, .pointer (some ⟨b, j, none⟩), .int .i64 lo, .int .i64 hi]
def fieldCells (b : Nat) (lo fr : Int) : Array Value :=
  (fieldV b 1 1 lo 9007199254740991 ++ fieldV b 2 2 1 fr ++ fieldV b 3 4 0 6 ++ fieldV b 4 8 0 9007199254740991 ++ fieldV b 5 16 0 65536 ++ fieldV b 6 32 0 65536).toArray
theorem built66 (b j : Nat) (bit lo hi : Int) (W : World) : Sem.run Tryd.prog (Instr.build 66 #[(0, Value.int .i64 bit), (1, Value.pointer (some ⟨b, j, none⟩)), (2, Value.int .i64 lo), (3, Value.int .i64 hi)]) W =
    .ok (.agg #[.int .i64 bit, .pointer (some ⟨b, j, none⟩), .int .i64 lo, .int .i64 hi]) W := run_build W _ _ _ (by kernel_rfl)
theorem built61 (b : Nat) (lo fr : Int) (W : World) : Sem.run Tryd.prog (Instr.buildSlice 61 6 #[(0, .agg #[.int .i64 1, .pointer (some ⟨b, 1, none⟩), .int .i64 lo, .int .i64 9007199254740991]), (1, .agg #[.int .i64 2, .pointer (some ⟨b, 2, none⟩), .int .i64 1, .int .i64 fr]),
      (2, .agg #[.int .i64 4, .pointer (some ⟨b, 3, none⟩), .int .i64 0, .int .i64 6]), (3, .agg #[.int .i64 8, .pointer (some ⟨b, 4, none⟩), .int .i64 0, .int .i64 9007199254740991]),
      (4, .agg #[.int .i64 16, .pointer (some ⟨b, 5, none⟩), .int .i64 0, .int .i64 65536]), (5, .agg #[.int .i64 32, .pointer (some ⟨b, 6, none⟩), .int .i64 0, .int .i64 65536])]) W =
    .ok (.slice (some ⟨W.heap.size, 0, none⟩) 6 6) (W.alloc (.cells (fieldCells b lo fr) 66)) := by
  have hz : (Tryd.prog.info? 66).map (fun i => (i.zero, i.size)) = some (some (.agg #[.int .i64 0, .pointer none, .int .i64 0, .int .i64 0]), 4) := by kernel_rfl
  obtain ⟨ie, hie, h2⟩ := Option.map_eq_some_iff.1 hz
  obtain ⟨h3, h4⟩ := Prod.mk.inj h2
  exact run_buildSlice W _ 66 6 _ (fieldCells b lo fr) ie _ Tryd.underlying61 hie h3 (by rw [h4]; decide) (by rw [h4]; decide) (by rw [h4]; kernel_rfl)
set_option maxRecDepth 100000 in
set_option maxHeartbeats 4000000 in
theorem fields_some (w : World) (b : Nat) (k ver fr nd tk hd tl : Int) (tx ls : Value) (hb : w.heap[b]? = some (.cells #[.int .i64 k, .int .i64 ver, .int .i64 fr, .int .i64 nd, .int .i64 tk, .int .i64 hd, .int .i64 tl, tx, ls] 26 (0, 0))) :
    Calls Tryd.prog 36 #[.pointer (some ⟨b, 0, none⟩)] w fun e w' => ∃ g, e = .returned (.slice (some ⟨g, 0, none⟩) 6 6) ∧ w.heap.size ≤ g ∧ w'.heap[g]? = some (.cells (fieldCells b (leastOf k) (fromOf k ver)) 66 (0, 0)) ∧ Chg (fun _ => False) w w' := by
  have c0 : w.cell? ⟨b, 0, none⟩ = some (.int .i64 k) := by rw [cell_of_heap hb]; rfl
  have c1 : w.cell? ⟨b, 1, none⟩ = some (.int .i64 ver) := by rw [cell_of_heap hb]; rfl
  have b1 := fun lo W => built66 b 1 1 lo 9007199254740991 W
  have b2 := fun f W => built66 b 2 2 1 f W
  have b3 := built66 b 3 4 0 6
  have b4 := built66 b 4 8 0 9007199254740991
  have b5 := built66 b 5 16 0 65536
  have b6 := built66 b 6 32 0 65536
  have b7 := built61 b
  clear hb
  by_cases h4 : k = 4
  · subst h4
    go_enter Tryd.func36, Tryd.ntmps36
    go_wp2
    refine region_lone (fun _ => True) [] (by kernel_rfl) ?_
    refine take_one 0 trivial rfl (by kernel_rfl) rfl ?_
    apply Exists.intro
    refine And.intro (fun W' _ => ?y0) (And.intro (fun _ _ _ h => h) ?_)
    case y0 => go_simp; rfl
    refine take_one 1 trivial rfl (by kernel_rfl) rfl ?_
    apply Exists.intro
    refine And.intro (fun W' _ => ?y1) (And.intro (fun _ _ _ h => h) ?_)
    case y1 => go_simp; rfl
    refine take_one 2 trivial rfl (by kernel_rfl) rfl ?_
    apply Exists.intro
    refine And.intro (fun W' _ => ?y2) (And.intro (fun _ _ _ h => h) ?_)
    case y2 => go_simp; rfl
    refine take_one 3 trivial rfl (by kernel_rfl) rfl ?_
    apply Exists.intro
    refine And.intro (fun W' _ => ?y3) (And.intro (fun _ _ _ h => h) ?_)
    case y3 => go_simp; rfl
    refine take_one 4 trivial rfl (by kernel_rfl) rfl ?_
    apply Exists.intro
    refine And.intro (fun W' _ => ?y4) (And.intro (fun _ _ _ h => h) ?_)
    case y4 => go_simp; rfl
    refine take_one 5 trivial rfl (by kernel_rfl) rfl ?_
    apply Exists.intro
    refine And.intro (fun W' _ => ?y5) (And.intro (fun _ _ _ h => h) ?_)
    case y5 => go_simp; rfl
    refine take_one 6 trivial rfl (by kernel_rfl) rfl ?_
    apply Exists.intro
    refine And.intro (fun W' _ => ?y6) (And.intro (fun _ _ _ h => h) ?_)
    case y6 => go_simp; rfl
    refine take_one 7 trivial rfl (by kernel_rfl) rfl ?_
    apply Exists.intro
    refine And.intro (fun W' _ => ?y7) (And.intro (fun _ _ _ h => h) ?_)
    case y7 => go_simp; rfl
    refine take_one 8 trivial rfl (by kernel_rfl) rfl ?_
    apply Exists.intro
    refine And.intro (fun W' _ => ?y8) (And.intro (fun _ _ _ h => h) ?_)
    case y8 => go_simp; rfl
    refine take_one 9 trivial rfl (by kernel_rfl) rfl ?_
    apply Exists.intro
    refine And.intro (fun W' _ => ?y9) (And.intro (fun _ _ _ h => h) ?_)
    case y9 => go_simp; rfl
    refine take_one 10 trivial rfl (by kernel_rfl) rfl ?_
    apply Exists.intro
    refine And.intro (fun W' _ => ?y10) (And.intro (fun _ _ _ h => h) ?_)
    case y10 => go_simp; rfl
    refine take_one 11 trivial rfl (by kernel_rfl) rfl ?_
    apply Exists.intro
    refine And.intro (fun W' _ => ?y11) (And.intro (fun _ _ _ h => h) ?_)
    case y11 => go_simp; rfl
    refine take_one 12 trivial rfl (by kernel_rfl) rfl ?_
    apply Exists.intro
    refine And.intro (fun W' _ => ?y12) (And.intro (fun _ _ _ h => h) ?_)
    case y12 => go_simp; rfl
    refine take_one 13 trivial rfl (by kernel_rfl) rfl ?_
    apply Exists.intro
    refine And.intro (fun W' _ => ?y13) (And.intro (fun _ _ _ h => h) ?_)
    case y13 => go_simp; rfl
    refine take_one 14 trivial rfl (by kernel_rfl) rfl ?_
    apply Exists.intro
    refine And.intro (fun W' _ => ?y14) (And.intro (fun _ _ _ h => h) ?_)
    case y14 => go_simp; rfl
    refine take_one 15 trivial rfl (by kernel_rfl) rfl ?_
    apply Exists.intro
    refine And.intro (fun W' _ => ?y15) (And.intro (fun _ _ _ h => h) ?_)
    case y15 => go_simp; rfl
    refine take_one 16 trivial rfl (by kernel_rfl) rfl ?_
    apply Exists.intro
    refine And.intro (fun W' _ => ?y16) (And.intro (fun _ _ _ h => h) ?_)
    case y16 => go_simp; rfl
    refine take_one 17 trivial rfl (by kernel_rfl) rfl ?_
    apply Exists.intro
    refine And.intro (fun W' _ => ?y17) (And.intro (fun _ _ _ h => h) ?_)
    case y17 => go_simp; rfl
    refine take_one 18 trivial rfl (by kernel_rfl) rfl ?_
    apply Exists.intro
    refine And.intro (fun W' _ => ?y18) (And.intro (fun _ _ _ h => h) ?_)
    case y18 => go_simp; rfl
    refine take_one 19 trivial rfl (by kernel_rfl) rfl ?_
    apply Exists.intro
    refine And.intro (fun W' _ => ?y19) (And.intro (fun _ _ _ h => h) ?_)
    case y19 => go_simp; rfl
    refine take_one 20 trivial rfl (by kernel_rfl) rfl ?_
    apply Exists.intro
    refine And.intro (fun W' _ => ?y20) (And.intro (fun _ _ _ h => h) ?_)
    case y20 => go_simp; rfl
    refine take_one 21 trivial rfl (by kernel_rfl) rfl ?_
    apply Exists.intro
    refine And.intro (fun W' _ => ?y21) (And.intro (fun _ _ _ h => h) ?_)
    case y21 => go_simp; rfl
    refine take_one 22 trivial rfl (by kernel_rfl) rfl ?_
    apply Exists.intro
    refine And.intro (fun W' _ => ?y22) (And.intro (fun _ _ _ h => h) ?_)
    case y22 => go_simp; rfl
    refine take_one 23 trivial rfl (by kernel_rfl) rfl ?_
    apply Exists.intro
    refine And.intro (fun W' _ => ?y23) (And.intro (fun _ _ _ h => h) ?_)
    case y23 => go_simp; rfl
    refine take_one 24 trivial rfl (by kernel_rfl) rfl ?_
    apply Exists.intro
    refine And.intro (fun W' _ => ?y24) (And.intro (fun _ _ _ h => h) ?_)
    case y24 => go_simp; rfl
    refine take_one 25 trivial rfl (by kernel_rfl) rfl ?_
    apply Exists.intro
    refine And.intro (fun W' _ => ?y25) (And.intro (fun _ _ _ h => h) ?_)
    case y25 => go_simp; rfl
    refine only_one 26 rfl (by kernel_rfl) rfl ?_
    go_simp
    refine take_one 27 trivial rfl (by kernel_rfl) rfl ?_
    apply Exists.intro
    refine And.intro (fun W' _ => ?y27) (And.intro (fun _ _ _ h => h) ?_)
    case y27 => go_simp; rfl
    refine all_done (by kernel_rfl) ?_ _
    go_wp2
    go_ret
    exact ⟨_, rfl, by simp, heap_alloc_new _ _, ((Chg.refl _ _).drew).alloc _⟩
  · by_cases h5 : k = 5
    · subst h5
      go_enter Tryd.func36, Tryd.ntmps36
      go_wp2
      refine region_lone (fun _ => True) [] (by kernel_rfl) ?_
      refine take_one 0 trivial rfl (by kernel_rfl) rfl ?_
      apply Exists.intro
      refine And.intro (fun W' _ => ?y0) (And.intro (fun _ _ _ h => h) ?_)
      case y0 => go_simp; rfl
      refine take_one 1 trivial rfl (by kernel_rfl) rfl ?_
      apply Exists.intro
      refine And.intro (fun W' _ => ?y1) (And.intro (fun _ _ _ h => h) ?_)
      case y1 => go_simp; rfl
      refine take_one 2 trivial rfl (by kernel_rfl) rfl ?_
      apply Exists.intro
      refine And.intro (fun W' _ => ?y2) (And.intro (fun _ _ _ h => h) ?_)
      case y2 => go_simp; rfl
      refine take_one 3 trivial rfl (by kernel_rfl) rfl ?_
      apply Exists.intro
      refine And.intro (fun W' _ => ?y3) (And.intro (fun _ _ _ h => h) ?_)
      case y3 => go_simp; rfl
      refine take_one 4 trivial rfl (by kernel_rfl) rfl ?_
      apply Exists.intro
      refine And.intro (fun W' _ => ?y4) (And.intro (fun _ _ _ h => h) ?_)
      case y4 => go_simp; rfl
      refine take_one 5 trivial rfl (by kernel_rfl) rfl ?_
      apply Exists.intro
      refine And.intro (fun W' _ => ?y5) (And.intro (fun _ _ _ h => h) ?_)
      case y5 => go_simp; rfl
      refine take_one 6 trivial rfl (by kernel_rfl) rfl ?_
      apply Exists.intro
      refine And.intro (fun W' _ => ?y6) (And.intro (fun _ _ _ h => h) ?_)
      case y6 => go_simp; rfl
      refine take_one 7 trivial rfl (by kernel_rfl) rfl ?_
      apply Exists.intro
      refine And.intro (fun W' _ => ?y7) (And.intro (fun _ _ _ h => h) ?_)
      case y7 => go_simp; rfl
      refine take_one 8 trivial rfl (by kernel_rfl) rfl ?_
      apply Exists.intro
      refine And.intro (fun W' _ => ?y8) (And.intro (fun _ _ _ h => h) ?_)
      case y8 => go_simp; rfl
      refine take_one 9 trivial rfl (by kernel_rfl) rfl ?_
      apply Exists.intro
      refine And.intro (fun W' _ => ?y9) (And.intro (fun _ _ _ h => h) ?_)
      case y9 => go_simp; rfl
      refine take_one 10 trivial rfl (by kernel_rfl) rfl ?_
      apply Exists.intro
      refine And.intro (fun W' _ => ?y10) (And.intro (fun _ _ _ h => h) ?_)
      case y10 => go_simp; rfl
      refine take_one 11 trivial rfl (by kernel_rfl) rfl ?_
      apply Exists.intro
      refine And.intro (fun W' _ => ?y11) (And.intro (fun _ _ _ h => h) ?_)
      case y11 => go_simp; rfl
      refine take_one 12 trivial rfl (by kernel_rfl) rfl ?_
      apply Exists.intro
      refine And.intro (fun W' _ => ?y12) (And.intro (fun _ _ _ h => h) ?_)
      case y12 => go_simp; rfl
      refine take_one 13 trivial rfl (by kernel_rfl) rfl ?_
      apply Exists.intro
      refine And.intro (fun W' _ => ?y13) (And.intro (fun _ _ _ h => h) ?_)
      case y13 => go_simp; rfl
      refine take_one 14 trivial rfl (by kernel_rfl) rfl ?_
      apply Exists.intro
      refine And.intro (fun W' _ => ?y14) (And.intro (fun _ _ _ h => h) ?_)
      case y14 => go_simp; rfl
      refine take_one 15 trivial rfl (by kernel_rfl) rfl ?_
      apply Exists.intro
      refine And.intro (fun W' _ => ?y15) (And.intro (fun _ _ _ h => h) ?_)
      case y15 => go_simp; rfl
      refine take_one 16 trivial rfl (by kernel_rfl) rfl ?_
      apply Exists.intro
      refine And.intro (fun W' _ => ?y16) (And.intro (fun _ _ _ h => h) ?_)
      case y16 => go_simp; rfl
      refine take_one 17 trivial rfl (by kernel_rfl) rfl ?_
      apply Exists.intro
      refine And.intro (fun W' _ => ?y17) (And.intro (fun _ _ _ h => h) ?_)
      case y17 => go_simp; rfl
      refine take_one 18 trivial rfl (by kernel_rfl) rfl ?_
      apply Exists.intro
      refine And.intro (fun W' _ => ?y18) (And.intro (fun _ _ _ h => h) ?_)
      case y18 => go_simp; rfl
      refine take_one 19 trivial rfl (by kernel_rfl) rfl ?_
      apply Exists.intro
      refine And.intro (fun W' _ => ?y19) (And.intro (fun _ _ _ h => h) ?_)
      case y19 => go_simp; rfl
      refine take_one 20 trivial rfl (by kernel_rfl) rfl ?_
      apply Exists.intro
      refine And.intro (fun W' _ => ?y20) (And.intro (fun _ _ _ h => h) ?_)
      case y20 => go_simp; rfl
      refine take_one 21 trivial rfl (by kernel_rfl) rfl ?_
      apply Exists.intro
      refine And.intro (fun W' _ => ?y21) (And.intro (fun _ _ _ h => h) ?_)
      case y21 => go_simp; rfl
      refine take_one 22 trivial rfl (by kernel_rfl) rfl ?_
      apply Exists.intro
      refine And.intro (fun W' _ => ?y22) (And.intro (fun _ _ _ h => h) ?_)
      case y22 => go_simp; rfl
      refine take_one 23 trivial rfl (by kernel_rfl) rfl ?_
      apply Exists.intro
      refine And.intro (fun W' _ => ?y23) (And.intro (fun _ _ _ h => h) ?_)
      case y23 => go_simp; rfl
      refine take_one 24 trivial rfl (by kernel_rfl) rfl ?_
      apply Exists.intro
      refine And.intro (fun W' _ => ?y24) (And.intro (fun _ _ _ h => h) ?_)
      case y24 => go_simp; rfl
      refine take_one 25 trivial rfl (by kernel_rfl) rfl ?_
      apply Exists.intro
      refine And.intro (fun W' _ => ?y25) (And.intro (fun _ _ _ h => h) ?_)
      case y25 => go_simp; rfl
      refine only_one 26 rfl (by kernel_rfl) rfl ?_
      go_simp
      refine take_one 27 trivial rfl (by kernel_rfl) rfl ?_
      apply Exists.intro
      refine And.intro (fun W' _ => ?y27) (And.intro (fun _ _ _ h => h) ?_)
      case y27 => go_simp; rfl
      refine all_done (by kernel_rfl) ?_ _
      go_wp2
      go_ret
      exact ⟨_, rfl, by simp, heap_alloc_new _ _, ((Chg.refl _ _).drew).alloc _⟩
    · have n4 : (k == 4) = false := beq_eq_false_iff_ne.2 h4
      have n5 : (k == 5) = false := beq_eq_false_iff_ne.2 h5
      by_cases h2 : k = 2
      · subst h2
        have hS : w.drew.cell? ⟨b, 0, none⟩ = some (.int .i64 2) ∧ w.drew.cell? ⟨b, 1, none⟩ = some (.int .i64 ver) := ⟨c0, c1⟩
        go_enter Tryd.func36, Tryd.ntmps36
        go_wp2
        refine region_lone (fun W' => W'.cell? ⟨b, 0, none⟩ = some (.int .i64 2) ∧ W'.cell? ⟨b, 1, none⟩ = some (.int .i64 ver)) [] (by kernel_rfl) ?_
        refine take_one 0 hS rfl (by kernel_rfl) rfl ?_
        apply Exists.intro
        refine And.intro (fun W' hS' => ?z0) (And.intro (fun _ _ _ h => h) ?_)
        case z0 => obtain ⟨d1, d2⟩ := hS'; go_simp; rfl
        refine take_one 1 hS rfl (by kernel_rfl) rfl ?_
        apply Exists.intro
        refine And.intro (fun W' hS' => ?z1) (And.intro (fun _ _ _ h => h) ?_)
        case z1 => obtain ⟨d1, d2⟩ := hS'; go_simp; rfl
        refine take_one 2 hS rfl (by kernel_rfl) rfl ?_
        apply Exists.intro
        refine And.intro (fun W' hS' => ?z2) (And.intro (fun _ _ _ h => h) ?_)
        case z2 => obtain ⟨d1, d2⟩ := hS'; go_simp; rfl
        refine take_one 3 hS rfl (by kernel_rfl) rfl ?_
        apply Exists.intro
        refine And.intro (fun W' hS' => ?z3) (And.intro (fun _ _ _ h => h) ?_)
        case z3 => obtain ⟨d1, d2⟩ := hS'; go_simp; rfl
        refine take_one 4 hS rfl (by kernel_rfl) rfl ?_
        apply Exists.intro
        refine And.intro (fun W' hS' => ?z4) (And.intro (fun _ _ _ h => h) ?_)
        case z4 => obtain ⟨d1, d2⟩ := hS'; go_simp; rfl
        refine take_one 5 hS rfl (by kernel_rfl) rfl ?_
        apply Exists.intro
        refine And.intro (fun W' hS' => ?z5) (And.intro (fun _ _ _ h => h) ?_)
        case z5 => obtain ⟨d1, d2⟩ := hS'; go_simp; rfl
        refine take_one 6 hS rfl (by kernel_rfl) rfl ?_
        apply Exists.intro
        refine And.intro (fun W' hS' => ?z6) (And.intro (fun _ _ _ h => h) ?_)
        case z6 => obtain ⟨d1, d2⟩ := hS'; go_simp; rfl
        refine all_done (by kernel_rfl) ?_ _
        go_wp2
        refine region_lone (fun _ => True) [] (by kernel_rfl) ?_
        refine take_one 0 trivial rfl (by kernel_rfl) rfl ?_
        apply Exists.intro
        refine And.intro (fun W' _ => ?y0) (And.intro (fun _ _ _ h => h) ?_)
        case y0 => go_simp; rfl
        refine take_one 1 trivial rfl (by kernel_rfl) rfl ?_
        apply Exists.intro
        refine And.intro (fun W' _ => ?y1) (And.intro (fun _ _ _ h => h) ?_)
        case y1 => go_simp; rfl
        refine take_one 2 trivial rfl (by kernel_rfl) rfl ?_
        apply Exists.intro
        refine And.intro (fun W' _ => ?y2) (And.intro (fun _ _ _ h => h) ?_)
        case y2 => go_simp; rfl
        refine take_one 3 trivial rfl (by kernel_rfl) rfl ?_
        apply Exists.intro
        refine And.intro (fun W' _ => ?y3) (And.intro (fun _ _ _ h => h) ?_)
        case y3 => go_simp; rfl
        refine take_one 4 trivial rfl (by kernel_rfl) rfl ?_
        apply Exists.intro
        refine And.intro (fun W' _ => ?y4) (And.intro (fun _ _ _ h => h) ?_)
        case y4 => go_simp; rfl
        refine take_one 5 trivial rfl (by kernel_rfl) rfl ?_
        apply Exists.intro
        refine And.intro (fun W' _ => ?y5) (And.intro (fun _ _ _ h => h) ?_)
        case y5 => go_simp; rfl
        refine take_one 6 trivial rfl (by kernel_rfl) rfl ?_
        apply Exists.intro
        refine And.intro (fun W' _ => ?y6) (And.intro (fun _ _ _ h => h) ?_)
        case y6 => go_simp; rfl
        refine take_one 7 trivial rfl (by kernel_rfl) rfl ?_
        apply Exists.intro
        refine And.intro (fun W' _ => ?y7) (And.intro (fun _ _ _ h => h) ?_)
        case y7 => go_simp; rfl
        refine take_one 8 trivial rfl (by kernel_rfl) rfl ?_
        apply Exists.intro
        refine And.intro (fun W' _ => ?y8) (And.intro (fun _ _ _ h => h) ?_)
        case y8 => go_simp; rfl
        refine take_one 9 trivial rfl (by kernel_rfl) rfl ?_
        apply Exists.intro
        refine And.intro (fun W' _ => ?y9) (And.intro (fun _ _ _ h => h) ?_)
        case y9 => go_simp; rfl
        refine take_one 10 trivial rfl (by kernel_rfl) rfl ?_
        apply Exists.intro
        refine And.intro (fun W' _ => ?y10) (And.intro (fun _ _ _ h => h) ?_)
        case y10 => go_simp; rfl
        refine take_one 11 trivial rfl (by kernel_rfl) rfl ?_
        apply Exists.intro
        refine And.intro (fun W' _ => ?y11) (And.intro (fun _ _ _ h => h) ?_)
        case y11 => go_simp; rfl
        refine take_one 12 trivial rfl (by kernel_rfl) rfl ?_
        apply Exists.intro
        refine And.intro (fun W' _ => ?y12) (And.intro (fun _ _ _ h => h) ?_)
        case y12 => go_simp; rfl
        refine take_one 13 trivial rfl (by kernel_rfl) rfl ?_
        apply Exists.intro
        refine And.intro (fun W' _ => ?y13) (And.intro (fun _ _ _ h => h) ?_)
        case y13 => go_simp; rfl
        refine take_one 14 trivial rfl (by kernel_rfl) rfl ?_
        apply Exists.intro
        refine And.intro (fun W' _ => ?y14) (And.intro (fun _ _ _ h => h) ?_)
        case y14 => go_simp; rfl
        refine take_one 15 trivial rfl (by kernel_rfl) rfl ?_
        apply Exists.intro
        refine And.intro (fun W' _ => ?y15) (And.intro (fun _ _ _ h => h) ?_)
        case y15 => go_simp; rfl
        refine take_one 16 trivial rfl (by kernel_rfl) rfl ?_
        apply Exists.intro
        refine And.intro (fun W' _ => ?y16) (And.intro (fun _ _ _ h => h) ?_)
        case y16 => go_simp; rfl
        refine take_one 17 trivial rfl (by kernel_rfl) rfl ?_
        apply Exists.intro
        refine And.intro (fun W' _ => ?y17) (And.intro (fun _ _ _ h => h) ?_)
        case y17 => go_simp; rfl
        refine take_one 18 trivial rfl (by kernel_rfl) rfl ?_
        apply Exists.intro
        refine And.intro (fun W' _ => ?y18) (And.intro (fun _ _ _ h => h) ?_)
        case y18 => go_simp; rfl
        refine take_one 19 trivial rfl (by kernel_rfl) rfl ?_
        apply Exists.intro
        refine And.intro (fun W' _ => ?y19) (And.intro (fun _ _ _ h => h) ?_)
        case y19 => go_simp; rfl
        refine take_one 20 trivial rfl (by kernel_rfl) rfl ?_
        apply Exists.intro
        refine And.intro (fun W' _ => ?y20) (And.intro (fun _ _ _ h => h) ?_)
        case y20 => go_simp; rfl
        refine take_one 21 trivial rfl (by kernel_rfl) rfl ?_
        apply Exists.intro
        refine And.intro (fun W' _ => ?y21) (And.intro (fun _ _ _ h => h) ?_)
        case y21 => go_simp; rfl
        refine take_one 22 trivial rfl (by kernel_rfl) rfl ?_
        apply Exists.intro
        refine And.intro (fun W' _ => ?y22) (And.intro (fun _ _ _ h => h) ?_)
        case y22 => go_simp; rfl
        refine take_one 23 trivial rfl (by kernel_rfl) rfl ?_
        apply Exists.intro
        refine And.intro (fun W' _ => ?y23) (And.intro (fun _ _ _ h => h) ?_)
        case y23 => go_simp; rfl
        refine take_one 24 trivial rfl (by kernel_rfl) rfl ?_
        apply Exists.intro
        refine And.intro (fun W' _ => ?y24) (And.intro (fun _ _ _ h => h) ?_)
        case y24 => go_simp; rfl
        refine take_one 25 trivial rfl (by kernel_rfl) rfl ?_
        apply Exists.intro
        refine And.intro (fun W' _ => ?y25) (And.intro (fun _ _ _ h => h) ?_)
        case y25 => go_simp; rfl
        refine only_one 26 rfl (by kernel_rfl) rfl ?_
        go_simp
        refine take_one 27 trivial rfl (by kernel_rfl) rfl ?_
        apply Exists.intro
        refine And.intro (fun W' _ => ?y27) (And.intro (fun _ _ _ h => h) ?_)
        case y27 => go_simp; rfl
        refine all_done (by kernel_rfl) ?_ _
        go_wp2
        go_ret
        exact ⟨_, rfl, by simp, heap_alloc_new _ _, ((Chg.refl _ _).drew.drew).alloc _⟩
      · have n2 : (k == 2) = false := beq_eq_false_iff_ne.2 h2
        have l0 : leastOf k = 1 := by unfold leastOf; rw [if_neg h4, if_neg h5, if_neg h2]
        have f0 : fromOf k ver = 0 := by unfold fromOf; rw [if_neg h2]
        rw [l0, f0]
        go_enter Tryd.func36, Tryd.ntmps36
        go_wp2
        refine region_lone (fun _ => True) [] (by kernel_rfl) ?_
        refine take_one 0 trivial rfl (by kernel_rfl) rfl ?_
        apply Exists.intro
        refine And.intro (fun W' _ => ?y0) (And.intro (fun _ _ _ h => h) ?_)
        case y0 => go_simp; rfl
        refine take_one 1 trivial rfl (by kernel_rfl) rfl ?_
        apply Exists.intro
        refine And.intro (fun W' _ => ?y1) (And.intro (fun _ _ _ h => h) ?_)
        case y1 => go_simp; rfl
        refine take_one 2 trivial rfl (by kernel_rfl) rfl ?_
        apply Exists.intro
        refine And.intro (fun W' _ => ?y2) (And.intro (fun _ _ _ h => h) ?_)
        case y2 => go_simp; rfl
        refine take_one 3 trivial rfl (by kernel_rfl) rfl ?_
        apply Exists.intro
        refine And.intro (fun W' _ => ?y3) (And.intro (fun _ _ _ h => h) ?_)
        case y3 => go_simp; rfl
        refine take_one 4 trivial rfl (by kernel_rfl) rfl ?_
        apply Exists.intro
        refine And.intro (fun W' _ => ?y4) (And.intro (fun _ _ _ h => h) ?_)
        case y4 => go_simp; rfl
        refine take_one 5 trivial rfl (by kernel_rfl) rfl ?_
        apply Exists.intro
        refine And.intro (fun W' _ => ?y5) (And.intro (fun _ _ _ h => h) ?_)
        case y5 => go_simp; rfl
        refine take_one 6 trivial rfl (by kernel_rfl) rfl ?_
        apply Exists.intro
        refine And.intro (fun W' _ => ?y6) (And.intro (fun _ _ _ h => h) ?_)
        case y6 => go_simp; rfl
        refine take_one 7 trivial rfl (by kernel_rfl) rfl ?_
        apply Exists.intro
        refine And.intro (fun W' _ => ?y7) (And.intro (fun _ _ _ h => h) ?_)
        case y7 => go_simp; rfl
        refine take_one 8 trivial rfl (by kernel_rfl) rfl ?_
        apply Exists.intro
        refine And.intro (fun W' _ => ?y8) (And.intro (fun _ _ _ h => h) ?_)
        case y8 => go_simp; rfl
        refine take_one 9 trivial rfl (by kernel_rfl) rfl ?_
        apply Exists.intro
        refine And.intro (fun W' _ => ?y9) (And.intro (fun _ _ _ h => h) ?_)
        case y9 => go_simp; rfl
        refine take_one 10 trivial rfl (by kernel_rfl) rfl ?_
        apply Exists.intro
        refine And.intro (fun W' _ => ?y10) (And.intro (fun _ _ _ h => h) ?_)
        case y10 => go_simp; rfl
        refine take_one 11 trivial rfl (by kernel_rfl) rfl ?_
        apply Exists.intro
        refine And.intro (fun W' _ => ?y11) (And.intro (fun _ _ _ h => h) ?_)
        case y11 => go_simp; rfl
        refine take_one 12 trivial rfl (by kernel_rfl) rfl ?_
        apply Exists.intro
        refine And.intro (fun W' _ => ?y12) (And.intro (fun _ _ _ h => h) ?_)
        case y12 => go_simp; rfl
        refine take_one 13 trivial rfl (by kernel_rfl) rfl ?_
        apply Exists.intro
        refine And.intro (fun W' _ => ?y13) (And.intro (fun _ _ _ h => h) ?_)
        case y13 => go_simp; rfl
        refine take_one 14 trivial rfl (by kernel_rfl) rfl ?_
        apply Exists.intro
        refine And.intro (fun W' _ => ?y14) (And.intro (fun _ _ _ h => h) ?_)
        case y14 => go_simp; rfl
        refine take_one 15 trivial rfl (by kernel_rfl) rfl ?_
        apply Exists.intro
        refine And.intro (fun W' _ => ?y15) (And.intro (fun _ _ _ h => h) ?_)
        case y15 => go_simp; rfl
        refine take_one 16 trivial rfl (by kernel_rfl) rfl ?_
        apply Exists.intro
        refine And.intro (fun W' _ => ?y16) (And.intro (fun _ _ _ h => h) ?_)
        case y16 => go_simp; rfl
        refine take_one 17 trivial rfl (by kernel_rfl) rfl ?_
        apply Exists.intro
        refine And.intro (fun W' _ => ?y17) (And.intro (fun _ _ _ h => h) ?_)
        case y17 => go_simp; rfl
        refine take_one 18 trivial rfl (by kernel_rfl) rfl ?_
        apply Exists.intro
        refine And.intro (fun W' _ => ?y18) (And.intro (fun _ _ _ h => h) ?_)
        case y18 => go_simp; rfl
        refine take_one 19 trivial rfl (by kernel_rfl) rfl ?_
        apply Exists.intro
        refine And.intro (fun W' _ => ?y19) (And.intro (fun _ _ _ h => h) ?_)
        case y19 => go_simp; rfl
        refine take_one 20 trivial rfl (by kernel_rfl) rfl ?_
        apply Exists.intro
        refine And.intro (fun W' _ => ?y20) (And.intro (fun _ _ _ h => h) ?_)
        case y20 => go_simp; rfl
        refine take_one 21 trivial rfl (by kernel_rfl) rfl ?_
        apply Exists.intro
        refine And.intro (fun W' _ => ?y21) (And.intro (fun _ _ _ h => h) ?_)
        case y21 => go_simp; rfl
        refine take_one 22 trivial rfl (by kernel_rfl) rfl ?_
        apply Exists.intro
        refine And.intro (fun W' _ => ?y22) (And.intro (fun _ _ _ h => h) ?_)
        case y22 => go_simp; rfl
        refine take_one 23 trivial rfl (by kernel_rfl) rfl ?_
        apply Exists.intro
        refine And.intro (fun W' _ => ?y23) (And.intro (fun _ _ _ h => h) ?_)
        case y23 => go_simp; rfl
        refine take_one 24 trivial rfl (by kernel_rfl) rfl ?_
        apply Exists.intro
        refine And.intro (fun W' _ => ?y24) (And.intro (fun _ _ _ h => h) ?_)
        case y24 => go_simp; rfl
        refine take_one 25 trivial rfl (by kernel_rfl) rfl ?_
        apply Exists.intro
        refine And.intro (fun W' _ => ?y25) (And.intro (fun _ _ _ h => h) ?_)
        case y25 => go_simp; rfl
        refine only_one 26 rfl (by kernel_rfl) rfl ?_
        go_simp
        refine take_one 27 trivial rfl (by kernel_rfl) rfl ?_
        apply Exists.intro
        refine And.intro (fun W' _ => ?y27) (And.intro (fun _ _ _ h => h) ?_)
        case y27 => go_simp; rfl
        refine all_done (by kernel_rfl) ?_ _
        go_wp2
        go_ret
        exact ⟨_, rfl, by simp, heap_alloc_new _ _, ((Chg.refl _ _).drew).alloc _⟩
end Go.Proofs.YteiedafdakffeaaDoor

/- push: what Check asks of a field. -/
namespace Go.Proofs.YteiedafdakffeaaDoor
set_option linter.unusedVariables false
set_option linter.unusedSimpArgs false
open Go Go.RowKit
/-- a guarded one that is not wanted -/
theorem skip_one {P : Program} {ops : Array Oper} {Q : Exit → Act → World → Prop} {S : World → Prop} {T : List Nat} (i : Nat) {oi : Oper} {fuel : Nat} {listed : Array Bool} {a : Act} {w : World} (hS : S w) (hi : ops[i]? = some oi)
    (hf : (Region.noSelect ops && (Region.free .any ops listed i && ((Region.ready .any ops listed).contains i && tailWaits ops T i))) = true)
    (hw : Region.wanted oi (yielded ops a.tmps) = false) (hQ : ∀ c a w, Q (.panic c) (a.put oi.dst undef) w → Q (.panic c) a w)
    (h : anyT P .any ops Q S T fuel (listed.setIfInBounds i true) (a.put oi.dst undef) w) : anyT P .any ops Q S T (fuel + 1) listed a w := by
  simp only [Bool.and_eq_true] at hf
  exact anyT_first hi hf.1 hQ (tailWaits_spec hf.2.2.2) fuel listed a w hf.2.1 (by simpa using hf.2.2.1) (.inr ⟨hw, rfl⟩) hS h
def fieldOk (own bit v lo hi : Int) : Bool := if bits .and .i64 own bit = 0 then v == 0 else (decide (lo ≤ v) && decide (v ≤ hi))
set_option maxRecDepth 100000 in
set_option maxHeartbeats 4000000 in
theorem check1_some (w : World) (b j o : Nat) (own bit v lo hi : Int) (ho : w.cell? ⟨o, 0, none⟩ = some (.int .i64 own)) (hv : w.cell? ⟨b, j, none⟩ = some (.int .i64 v)) :
    Calls Tryd.prog 60 #[.agg #[.int .i64 bit, .pointer (some ⟨b, j, none⟩), .int .i64 lo, .int .i64 hi], .pointer (some ⟨o, 0, none⟩)] w fun e w' => e = .returned (.bool (fieldOk own bit v lo hi)) ∧ Chg (fun _ => False) w w' := by
  have lo1 := World.block_lt_of_cell? w _ ho
  have lv1 := World.block_lt_of_cell? w _ hv
  by_cases h0 : bits .and .i64 own bit = 0
  · have h1 : (bits .and .i64 own bit == 0) = true := beq_iff_eq.2 h0
    go_enter Tryd.func60, Tryd.ntmps60
    go_wp2
    go_ret
    exact ⟨by unfold fieldOk; rw [if_pos h0]; rfl, (Chg.refl _ _).alloc _⟩
  · have h1 : (bits .and .i64 own bit == 0) = false := beq_eq_false_iff_ne.2 h0
    have hS : (w.alloc (.cells #[.int .i64 bit, .pointer (some ⟨b, j, none⟩), .int .i64 lo, .int .i64 hi] 66)).drew.cell? ⟨w.heap.size, 1, none⟩ = some (.pointer (some ⟨b, j, none⟩)) ∧
        (w.alloc (.cells #[.int .i64 bit, .pointer (some ⟨b, j, none⟩), .int .i64 lo, .int .i64 hi] 66)).drew.cell? ⟨w.heap.size, 2, none⟩ = some (.int .i64 lo) ∧
        (w.alloc (.cells #[.int .i64 bit, .pointer (some ⟨b, j, none⟩), .int .i64 lo, .int .i64 hi] 66)).drew.cell? ⟨w.heap.size, 3, none⟩ = some (.int .i64 hi) ∧
        (w.alloc (.cells #[.int .i64 bit, .pointer (some ⟨b, j, none⟩), .int .i64 lo, .int .i64 hi] 66)).drew.cell? ⟨b, j, none⟩ = some (.int .i64 v) := by
      refine ⟨?_, ?_, ?_, ?_⟩
      · exact (cell_of_heap (heap_alloc_new w _) 1)
      · exact (cell_of_heap (heap_alloc_new w _) 2)
      · exact (cell_of_heap (heap_alloc_new w _) 3)
      · exact (((Chg.refl (fun _ => False) w).alloc _).drew).cell hv (fun h => h)
    by_cases hlo : lo ≤ v
    · have hl : decide (lo ≤ v) = true := decide_eq_true hlo
      go_enter Tryd.func60, Tryd.ntmps60
      go_wp2
      refine region_lone (fun W' => W'.cell? ⟨w.heap.size, 1, none⟩ = some (.pointer (some ⟨b, j, none⟩)) ∧ W'.cell? ⟨w.heap.size, 2, none⟩ = some (.int .i64 lo) ∧ W'.cell? ⟨w.heap.size, 3, none⟩ = some (.int .i64 hi) ∧ W'.cell? ⟨b, j, none⟩ = some (.int .i64 v)) [] (by kernel_rfl) ?_
      refine take_one 0 hS rfl (by kernel_rfl) rfl ?_
      apply Exists.intro
      refine And.intro (fun W' hS' => ?y0) (And.intro (fun _ _ _ h => h) ?_)
      case y0 => obtain ⟨d1, d2, d3, d4⟩ := hS'; go_simp; rfl
      refine take_one 1 hS rfl (by kernel_rfl) rfl ?_
      apply Exists.intro
      refine And.intro (fun W' hS' => ?y1) (And.intro (fun _ _ _ h => h) ?_)
      case y1 => obtain ⟨d1, d2, d3, d4⟩ := hS'; go_simp; rfl
      refine take_one 2 hS rfl (by kernel_rfl) rfl ?_
      apply Exists.intro
      refine And.intro (fun W' hS' => ?y2) (And.intro (fun _ _ _ h => h) ?_)
      case y2 => obtain ⟨d1, d2, d3, d4⟩ := hS'; go_simp; rfl
      refine take_one 3 hS rfl (by kernel_rfl) rfl ?_
      apply Exists.intro
      refine And.intro (fun W' hS' => ?y3) (And.intro (fun _ _ _ h => h) ?_)
      case y3 => obtain ⟨d1, d2, d3, d4⟩ := hS'; go_simp; rfl
      refine take_one 4 hS rfl (by kernel_rfl) rfl ?_
      apply Exists.intro
      refine And.intro (fun W' hS' => ?y4) (And.intro (fun _ _ _ h => h) ?_)
      case y4 => obtain ⟨d1, d2, d3, d4⟩ := hS'; go_simp; rfl
      refine take_one 5 hS rfl (by kernel_rfl) rfl ?_
      apply Exists.intro
      refine And.intro (fun W' hS' => ?y5) (And.intro (fun _ _ _ h => h) ?_)
      case y5 => obtain ⟨d1, d2, d3, d4⟩ := hS'; go_simp; rfl
      refine take_one 6 hS rfl (by kernel_rfl) rfl ?_
      apply Exists.intro
      refine And.intro (fun W' hS' => ?y6) (And.intro (fun _ _ _ h => h) ?_)
      case y6 => obtain ⟨d1, d2, d3, d4⟩ := hS'; go_simp; rfl
      refine take_one 7 hS rfl (by kernel_rfl) rfl ?_
      apply Exists.intro
      refine And.intro (fun W' hS' => ?y7) (And.intro (fun _ _ _ h => h) ?_)
      case y7 => obtain ⟨d1, d2, d3, d4⟩ := hS'; go_simp; rfl
      go_simp
      refine take_one 8 hS rfl (by kernel_rfl) (by kernel_rfl) ?_
      apply Exists.intro
      refine And.intro (fun W' hS' => ?y8) (And.intro (fun _ _ _ h => h) ?_)
      case y8 => obtain ⟨d1, d2, d3, d4⟩ := hS'; go_simp; rfl
      refine take_one 9 hS rfl (by kernel_rfl) (by kernel_rfl) ?_
      apply Exists.intro
      refine And.intro (fun W' hS' => ?y9) (And.intro (fun _ _ _ h => h) ?_)
      case y9 => obtain ⟨d1, d2, d3, d4⟩ := hS'; go_simp; rfl
      refine take_one 10 hS rfl (by kernel_rfl) (by kernel_rfl) ?_
      apply Exists.intro
      refine And.intro (fun W' hS' => ?y10) (And.intro (fun _ _ _ h => h) ?_)
      case y10 => obtain ⟨d1, d2, d3, d4⟩ := hS'; go_simp; rfl
      refine take_one 11 hS rfl (by kernel_rfl) (by kernel_rfl) ?_
      apply Exists.intro
      refine And.intro (fun W' hS' => ?y11) (And.intro (fun _ _ _ h => h) ?_)
      case y11 => obtain ⟨d1, d2, d3, d4⟩ := hS'; go_simp; rfl
      go_simp
      refine take_one 12 hS rfl (by kernel_rfl) (by kernel_rfl) ?_
      apply Exists.intro
      refine And.intro (fun W' hS' => ?y12) (And.intro (fun _ _ _ h => h) ?_)
      case y12 => obtain ⟨d1, d2, d3, d4⟩ := hS'; go_simp; rfl
      refine take_one 13 hS rfl (by kernel_rfl) (by kernel_rfl) ?_
      apply Exists.intro
      refine And.intro (fun W' hS' => ?y13) (And.intro (fun _ _ _ h => h) ?_)
      case y13 => obtain ⟨d1, d2, d3, d4⟩ := hS'; go_simp; rfl
      refine take_one 14 hS rfl (by kernel_rfl) (by kernel_rfl) ?_
      apply Exists.intro
      refine And.intro (fun W' hS' => ?y14) (And.intro (fun _ _ _ h => h) ?_)
      case y14 => obtain ⟨d1, d2, d3, d4⟩ := hS'; go_simp; rfl
      go_simp
      refine take_one 15 hS rfl (by kernel_rfl) (by kernel_rfl) ?_
      apply Exists.intro
      refine And.intro (fun W' hS' => ?y15) (And.intro (fun _ _ _ h => h) ?_)
      case y15 => obtain ⟨d1, d2, d3, d4⟩ := hS'; go_simp; rfl
      refine take_one 16 hS rfl (by kernel_rfl) (by kernel_rfl) ?_
      apply Exists.intro
      refine And.intro (fun W' hS' => ?y16) (And.intro (fun _ _ _ h => h) ?_)
      case y16 => obtain ⟨d1, d2, d3, d4⟩ := hS'; go_simp; rfl
      refine all_done (by kernel_rfl) ?_ _
      go_simp
      go_wp2
      go_ret
      refine ⟨?_, ((Chg.refl _ _).alloc _).drew⟩
      unfold fieldOk
      rw [if_neg h0, hl]
      first | rfl | simp
    · have hl : decide (lo ≤ v) = false := decide_eq_false hlo
      go_enter Tryd.func60, Tryd.ntmps60
      go_wp2
      refine region_lone (fun W' => W'.cell? ⟨w.heap.size, 1, none⟩ = some (.pointer (some ⟨b, j, none⟩)) ∧ W'.cell? ⟨w.heap.size, 2, none⟩ = some (.int .i64 lo) ∧ W'.cell? ⟨w.heap.size, 3, none⟩ = some (.int .i64 hi) ∧ W'.cell? ⟨b, j, none⟩ = some (.int .i64 v)) [] (by kernel_rfl) ?_
      refine take_one 0 hS rfl (by kernel_rfl) rfl ?_
      apply Exists.intro
      refine And.intro (fun W' hS' => ?y0) (And.intro (fun _ _ _ h => h) ?_)
      case y0 => obtain ⟨d1, d2, d3, d4⟩ := hS'; go_simp; rfl
      refine take_one 1 hS rfl (by kernel_rfl) rfl ?_
      apply Exists.intro
      refine And.intro (fun W' hS' => ?y1) (And.intro (fun _ _ _ h => h) ?_)
      case y1 => obtain ⟨d1, d2, d3, d4⟩ := hS'; go_simp; rfl
      refine take_one 2 hS rfl (by kernel_rfl) rfl ?_
      apply Exists.intro
      refine And.intro (fun W' hS' => ?y2) (And.intro (fun _ _ _ h => h) ?_)
      case y2 => obtain ⟨d1, d2, d3, d4⟩ := hS'; go_simp; rfl
      refine take_one 3 hS rfl (by kernel_rfl) rfl ?_
      apply Exists.intro
      refine And.intro (fun W' hS' => ?y3) (And.intro (fun _ _ _ h => h) ?_)
      case y3 => obtain ⟨d1, d2, d3, d4⟩ := hS'; go_simp; rfl
      refine take_one 4 hS rfl (by kernel_rfl) rfl ?_
      apply Exists.intro
      refine And.intro (fun W' hS' => ?y4) (And.intro (fun _ _ _ h => h) ?_)
      case y4 => obtain ⟨d1, d2, d3, d4⟩ := hS'; go_simp; rfl
      refine take_one 5 hS rfl (by kernel_rfl) rfl ?_
      apply Exists.intro
      refine And.intro (fun W' hS' => ?y5) (And.intro (fun _ _ _ h => h) ?_)
      case y5 => obtain ⟨d1, d2, d3, d4⟩ := hS'; go_simp; rfl
      refine take_one 6 hS rfl (by kernel_rfl) rfl ?_
      apply Exists.intro
      refine And.intro (fun W' hS' => ?y6) (And.intro (fun _ _ _ h => h) ?_)
      case y6 => obtain ⟨d1, d2, d3, d4⟩ := hS'; go_simp; rfl
      refine take_one 7 hS rfl (by kernel_rfl) rfl ?_
      apply Exists.intro
      refine And.intro (fun W' hS' => ?y7) (And.intro (fun _ _ _ h => h) ?_)
      case y7 => obtain ⟨d1, d2, d3, d4⟩ := hS'; go_simp; rfl
      go_simp
      refine skip_one 8 hS rfl (by kernel_rfl) (by kernel_rfl) (fun _ _ _ h => h) ?_
      refine skip_one 9 hS rfl (by kernel_rfl) (by kernel_rfl) (fun _ _ _ h => h) ?_
      refine skip_one 10 hS rfl (by kernel_rfl) (by kernel_rfl) (fun _ _ _ h => h) ?_
      refine skip_one 11 hS rfl (by kernel_rfl) (by kernel_rfl) (fun _ _ _ h => h) ?_
      refine skip_one 12 hS rfl (by kernel_rfl) (by kernel_rfl) (fun _ _ _ h => h) ?_
      refine skip_one 13 hS rfl (by kernel_rfl) (by kernel_rfl) (fun _ _ _ h => h) ?_
      refine skip_one 14 hS rfl (by kernel_rfl) (by kernel_rfl) (fun _ _ _ h => h) ?_
      go_simp
      refine take_one 15 hS rfl (by kernel_rfl) (by kernel_rfl) ?_
      apply Exists.intro
      refine And.intro (fun W' hS' => ?y15) (And.intro (fun _ _ _ h => h) ?_)
      case y15 => obtain ⟨d1, d2, d3, d4⟩ := hS'; go_simp; rfl
      go_simp
      refine take_one 16 hS rfl (by kernel_rfl) (by kernel_rfl) ?_
      apply Exists.intro
      refine And.intro (fun W' hS' => ?y16) (And.intro (fun _ _ _ h => h) ?_)
      case y16 => obtain ⟨d1, d2, d3, d4⟩ := hS'; go_simp; rfl
      refine all_done (by kernel_rfl) ?_ _
      go_simp
      go_wp2
      go_ret
      refine ⟨?_, ((Chg.refl _ _).alloc _).drew⟩
      unfold fieldOk
      rw [if_neg h0, hl]
      first | rfl | simp
end Go.Proofs.YteiedafdakffeaaDoor

/- push: each of the fields. -/
namespace Go.Proofs.YteiedafdakffeaaDoor
set_option linter.unusedVariables false
set_option linter.unusedSimpArgs false
open Go Go.RowKit
def isV (o : Nat) : Value := .func (.func 60) #[] #[.pointer (some ⟨o, 0, none⟩)]
set_option maxRecDepth 100000 in
set_option maxHeartbeats 4000000 in
theorem each1_some (w : World) (b j o c : Nat) (own bit v lo hi : Int) (ho : w.cell? ⟨o, 0, none⟩ = some (.int .i64 own)) (hv : w.cell? ⟨b, j, none⟩ = some (.int .i64 v)) (hc : w.cell? ⟨c, 0, none⟩ = some (.func (.func 60) #[] #[.pointer (some ⟨o, 0, none⟩)])) :
    Calls Tryd.prog 74 #[.agg #[.int .i64 bit, .pointer (some ⟨b, j, none⟩), .int .i64 lo, .int .i64 hi], .pointer (some ⟨c, 0, none⟩)] w fun e w' => e = .returned (.bool (!fieldOk own bit v lo hi)) ∧ Chg (fun _ => False) w w' := by
  have lc := World.block_lt_of_cell? w _ hc
  have hw1 := check1_some (w.alloc (.cells #[.int .i64 bit, .pointer (some ⟨b, j, none⟩), .int .i64 lo, .int .i64 hi] 66)) b j o own bit v lo hi (((Chg.refl (fun _ => False) w).alloc _).cell ho (fun h => h)) (((Chg.refl (fun _ => False) w).alloc _).cell hv (fun h => h))
  have H1 := Lib.hid hw1
  clear hw1
  go_enter Tryd.func74, Tryd.ntmps74
  go_wp2_with fail
  refine H1.out.mono ?_
  rintro e w2 ⟨rfl, hC⟩
  have HC := Lib.hid hC
  clear hC H1
  cases hq : fieldOk own bit v lo hi
  · go_wp2
    go_ret
    exact ⟨by first | rfl | (rw [hq]; rfl), ((Chg.refl _ _).alloc _).trans HC.out⟩
  · go_wp2
    go_ret
    exact ⟨by first | rfl | (rw [hq]; rfl), ((Chg.refl _ _).alloc _).trans HC.out⟩
end Go.Proofs.YteiedafdakffeaaDoor

/- push: the first of the fields that may not be; each of them. -/
namespace Go.Proofs.YteiedafdakffeaaDoor
set_option linter.unusedVariables false
set_option linter.unusedSimpArgs false
open Go Go.RowKit
/-- field i: its place in the packet, its bit, and between which numbers -/
def fieldAt (lo fr : Int) : Nat → Nat × Int × Int × Int
  | 0 => (1, 1, lo, 9007199254740991)
  | 1 => (2, 2, 1, fr)
  | 2 => (3, 4, 0, 6)
  | 3 => (4, 8, 0, 9007199254740991)
  | 4 => (5, 16, 0, 65536)
  | _ => (6, 32, 0, 65536)
def okAt (own lo fr : Int) (V : Nat → Int) (i : Nat) : Bool := fieldOk own (fieldAt lo fr i).2.1 (V (fieldAt lo fr i).1) (fieldAt lo fr i).2.2.1 (fieldAt lo fr i).2.2.2
def allOk (own lo fr : Int) (V : Nat → Int) : Bool := (List.range 6).all (okAt own lo fr V)
theorem fieldCells_at (b : Nat) (lo fr : Int) (i : Nat) (hi : i < 6) :
    (fieldCells b lo fr)[i * 4]? = some (.int .i64 (fieldAt lo fr i).2.1) ∧ (fieldCells b lo fr)[i * 4 + 1]? = some (.pointer (some ⟨b, (fieldAt lo fr i).1, none⟩)) ∧
      (fieldCells b lo fr)[i * 4 + 2]? = some (.int .i64 (fieldAt lo fr i).2.2.1) ∧ (fieldCells b lo fr)[i * 4 + 3]? = some (.int .i64 (fieldAt lo fr i).2.2.2) := by
  have : i = 0 ∨ i = 1 ∨ i = 2 ∨ i = 3 ∨ i = 4 ∨ i = 5 := by omega
  rcases this with rfl | rfl | rfl | rfl | rfl | rfl <;> exact ⟨rfl, rfl, rfl, rfl⟩
theorem fieldAt_place (lo fr : Int) (i : Nat) : 1 ≤ (fieldAt lo fr i).1 ∧ (fieldAt lo fr i).1 ≤ 6 := by
  unfold fieldAt
  split <;> simp
set_option maxRecDepth 100000 in
set_option maxHeartbeats 4000000 in
theorem index_fields (w : World) (g b o c : Nat) (own lo fr : Int) (V : Nat → Int) (ho : w.cell? ⟨o, 0, none⟩ = some (.int .i64 own)) (hV : ∀ j, 1 ≤ j → j ≤ 6 → w.cell? ⟨b, j, none⟩ = some (.int .i64 (V j)))
    (hc : w.cell? ⟨c, 0, none⟩ = some (.func (.func 60) #[] #[.pointer (some ⟨o, 0, none⟩)])) (hg : w.heap[g]? = some (.cells (fieldCells b lo fr) 66 (0, 0))) :
    Calls Tryd.prog 80 #[.slice (some ⟨g, 0, none⟩) 6 6, .func (.func 74) #[] #[.pointer (some ⟨c, 0, none⟩)]] w fun e w' =>
      ∃ r : Int, e = .returned (.int .i64 r) ∧ decide (0 ≤ r) = !allOk own lo fr V ∧ Chg (fun _ => False) w w' := by
  have HO := Lib.hid ho
  have HV := Lib.hid hV
  have HC := Lib.hid hc
  have HG := Lib.hid hg
  clear ho hV hc hg
  go_enter Tryd.func80, Tryd.ntmps80
  go_wp2_with fail
  go_loopw [8] (fun i wr => ∃ k : Nat, k ≤ 6 ∧ i = .int .i64 k ∧ (∀ q, q < k → okAt own lo fr V q = true) ∧ Chg (fun _ => False) w wr) (fun i _ => 6 - (intOf i).toNat)
  case atStart => exact ⟨0, by omega, rfl, fun q hq => by omega, Chg.refl _ _⟩
  case round =>
    obtain ⟨k, hk, rfl, hq, hC⟩ := hrel
    by_cases hlt : k < 6
    · obtain ⟨f1, f2, f3, f4⟩ := fieldCells_at b lo fr k hlt
      obtain ⟨p1, p2⟩ := fieldAt_place lo fr k
      have hgr := hC.keep HG.out (fun h => h)
      have c1 : wr.cell? ⟨g, k * 4, none⟩ = some (.int .i64 (fieldAt lo fr k).2.1) := (cell_of_heap hgr _).trans f1
      have c2 : wr.cell? ⟨g, k * 4 + 1, none⟩ = some (.pointer (some ⟨b, (fieldAt lo fr k).1, none⟩)) := (cell_of_heap hgr _).trans f2
      have c3 : wr.cell? ⟨g, k * 4 + 2, none⟩ = some (.int .i64 (fieldAt lo fr k).2.2.1) := (cell_of_heap hgr _).trans f3
      have c4 : wr.cell? ⟨g, k * 4 + 3, none⟩ = some (.int .i64 (fieldAt lo fr k).2.2.2) := (cell_of_heap hgr _).trans f4
      have he := each1_some wr b (fieldAt lo fr k).1 o c own (fieldAt lo fr k).2.1 (V (fieldAt lo fr k).1) (fieldAt lo fr k).2.2.1 (fieldAt lo fr k).2.2.2 (hC.cell HO.out (fun h => h)) (hC.cell (HV.out _ p1 p2) (fun h => h)) (hC.cell HC.out (fun h => h))
      have ek : okAt own lo fr V k = fieldOk own (fieldAt lo fr k).2.1 (V (fieldAt lo fr k).1) (fieldAt lo fr k).2.2.1 (fieldAt lo fr k).2.2.2 := rfl
      rw [← ek] at he
      have HQ := Lib.hid hq
      have HK := Lib.hid hC
      clear f1 f2 f3 f4 p1 p2 hgr hq hC ek
      generalize (fieldAt lo fr k).1 = j at *
      generalize (fieldAt lo fr k).2.1 = x1 at *
      generalize (fieldAt lo fr k).2.2.1 = x2 at *
      generalize (fieldAt lo fr k).2.2.2 = x3 at *
      go_wp2_with fail
      refine he.mono ?_
      rintro e w2 ⟨rfl, hC2⟩
      have HC2 := Lib.hid (HK.out.trans hC2)
      clear he hC2 c1 c2 c3 c4
      cases hok : okAt own lo fr V k
      · go_wp2
        go_ret
        refine ⟨k, rfl, ?_, HC2.out⟩
        have : allOk own lo fr V = false := by
          unfold allOk
          rw [List.all_eq_false]
          exact ⟨k, List.mem_range.2 hlt, by rw [hok]; simp⟩
        rw [this]
        exact decide_eq_true (by omega)
      · go_wp2
        go_roundw
        case rel => exact ⟨k + 1, by omega, by go_num, fun q hq2 => by
          by_cases e : q = k
          · subst e; exact hok
          · exact HQ.out q (by omega), HC2.out⟩
        case measure => simp [intOf] <;> omega
    · have HQ := Lib.hid hq
      have HK := Lib.hid hC
      clear hq hC
      go_wp2
      go_ret
      refine ⟨-1, rfl, ?_, HK.out⟩
      have : allOk own lo fr V = true := by
        unfold allOk
        rw [List.all_eq_true]
        intro q hq2
        exact HQ.out q (by have := List.mem_range.1 hq2; omega)
      rw [this]
      rfl
end Go.Proofs.YteiedafdakffeaaDoor

/- push: each of the fields. -/
namespace Go.Proofs.YteiedafdakffeaaDoor
set_option linter.unusedVariables false
set_option linter.unusedSimpArgs false
open Go Go.RowKit
set_option maxRecDepth 100000 in
set_option maxHeartbeats 4000000 in
theorem contains_fields (w : World) (g b o c : Nat) (own lo fr : Int) (V : Nat → Int) (ho : w.cell? ⟨o, 0, none⟩ = some (.int .i64 own)) (hV : ∀ j, 1 ≤ j → j ≤ 6 → w.cell? ⟨b, j, none⟩ = some (.int .i64 (V j)))
    (hc : w.cell? ⟨c, 0, none⟩ = some (.func (.func 60) #[] #[.pointer (some ⟨o, 0, none⟩)])) (hg : w.heap[g]? = some (.cells (fieldCells b lo fr) 66 (0, 0))) :
    Calls Tryd.prog 73 #[.slice (some ⟨g, 0, none⟩) 6 6, .func (.func 74) #[] #[.pointer (some ⟨c, 0, none⟩)]] w fun e w' =>
      e = .returned (.bool (!allOk own lo fr V)) ∧ Chg (fun _ => False) w w' := by
  have hi := index_fields w g b o c own lo fr V ho hV hc hg
  clear ho hV hc hg
  go_enter Tryd.func73, Tryd.ntmps73
  go_wp2_with fail
  refine hi.mono ?_
  rintro e w2 ⟨r, rfl, hr, hC⟩
  have HC := Lib.hid hC
  clear hi hC
  cases hq : allOk own lo fr V
  · rw [hq] at hr
    go_wp2
    go_ret
    exact ⟨by first | rfl | (rw [hq]; rfl) | (rw [hq, ← hr]; rfl), HC.out⟩
  · rw [hq] at hr
    go_wp2
    go_ret
    exact ⟨by first | rfl | (rw [hq]; rfl) | (rw [hq, ← hr]; rfl), HC.out⟩
set_option maxRecDepth 100000 in
set_option maxHeartbeats 4000000 in
theorem each_fields (w : World) (g b o : Nat) (own lo fr : Int) (V : Nat → Int) (ho : w.cell? ⟨o, 0, none⟩ = some (.int .i64 own)) (hV : ∀ j, 1 ≤ j → j ≤ 6 → w.cell? ⟨b, j, none⟩ = some (.int .i64 (V j)))
    (hg : w.heap[g]? = some (.cells (fieldCells b lo fr) 66 (0, 0))) :
    Calls Tryd.prog 59 #[.slice (some ⟨g, 0, none⟩) 6 6, .func (.func 60) #[] #[.pointer (some ⟨o, 0, none⟩)]] w fun e w' =>
      e = .returned (.bool (allOk own lo fr V)) ∧ Chg (fun _ => False) w w' := by
  have hA := (Chg.refl (fun _ => False) w).alloc (.cells #[.func (.func 60) #[] #[.pointer (some ⟨o, 0, none⟩)]] 93)
  have hi := contains_fields (w.alloc (.cells #[.func (.func 60) #[] #[.pointer (some ⟨o, 0, none⟩)]] 93)) g b o w.heap.size own lo fr V (hA.cell ho (fun h => h)) (fun j h1 h2 => hA.cell (hV j h1 h2) (fun h => h))
    (cell_of_heap (heap_alloc_new w _) 0) (hA.keep hg (fun h => h))
  have HI := Lib.hid hi
  have HA := Lib.hid hA
  clear ho hV hg hi hA
  go_enter Tryd.func59, Tryd.ntmps59
  go_wp2_with fail
  refine HI.out.mono ?_
  rintro e w2 ⟨rfl, hC⟩
  have HC := Lib.hid hC
  clear HI hC
  cases hq : allOk own lo fr V
  · go_wp2
    go_ret
    exact ⟨by first | rfl | (rw [hq]; rfl), HA.out.trans HC.out⟩
  · go_wp2
    go_ret
    exact ⟨by first | rfl | (rw [hq]; rfl), HA.out.trans HC.out⟩
end Go.Proofs.YteiedafdakffeaaDoor

/- push: what Check asks of a line; each of the lines. -/
namespace Go.Proofs.YteiedafdakffeaaDoor
set_option linter.unusedVariables false
set_option linter.unusedSimpArgs false
open Go Go.RowKit
/-- has a text a line feed? -/
def has10 (s : ByteArray) : Bool := decide (0 ≤ Lib.indexByte s.data.toList 10)
set_option maxRecDepth 100000 in
set_option maxHeartbeats 4000000 in
theorem check2_some (w : World) (o : Nat) (many : Int) (s : ByteArray) (ho : w.heap[o]? = some (.cells #[.int .i64 many] 3 (0, 0))) :
    Calls Tryd.prog 62 #[.string s, .pointer (some ⟨o, 0, none⟩)] w fun e w' => e = .returned (.bool (!has10 s)) ∧ w' = w.setCell ⟨o, 0, none⟩ (.int .i64 (wrap64 (many + s.size))) := by
  have c0 : w.cell? ⟨o, 0, none⟩ = some (.int .i64 many) := by rw [cell_of_heap ho]; rfl
  have hf : w.frozen? ⟨o, 0, none⟩ = false := by simp [World.frozen?, ho]
  have hsh := Tryd.strings_Contains_one s 10
  have HS := Lib.hid hsh
  clear hsh
  go_enter Tryd.func62, Tryd.ntmps62
  go_wp2_with fail
  refine (HS.out _).mono ?_
  rintro e w2 ⟨rfl, rfl⟩
  have e10 : has10 s = decide (0 ≤ Lib.indexByte s.data.toList 10) := rfl
  cases hq : has10 s
  · rw [hq] at e10
    rw [← e10]
    go_wp2
    go_ret
    exact ⟨by first | rfl | (rw [hq]; rfl), rfl⟩
  · rw [hq] at e10
    rw [← e10]
    go_wp2
    go_ret
    exact ⟨by first | rfl | (rw [hq]; rfl), rfl⟩
end Go.Proofs.YteiedafdakffeaaDoor

/- push: each of the lines. -/
namespace Go.Proofs.YteiedafdakffeaaDoor
set_option linter.unusedVariables false
set_option linter.unusedSimpArgs false
open Go Go.RowKit
set_option maxRecDepth 100000 in
set_option maxHeartbeats 4000000 in
theorem each1s_some (w : World) (o c : Nat) (many : Int) (s : ByteArray) (ho : w.heap[o]? = some (.cells #[.int .i64 many] 3 (0, 0))) (hc : w.cell? ⟨c, 0, none⟩ = some (.func (.func 62) #[] #[.pointer (some ⟨o, 0, none⟩)])) :
    Calls Tryd.prog 76 #[.string s, .pointer (some ⟨c, 0, none⟩)] w fun e w' => e = .returned (.bool (has10 s)) ∧ w' = w.setCell ⟨o, 0, none⟩ (.int .i64 (wrap64 (many + s.size))) := by
  have lc := World.block_lt_of_cell? w _ hc
  have hw1 := check2_some w o many s ho
  have H1 := Lib.hid hw1
  clear hw1 ho
  go_enter Tryd.func76, Tryd.ntmps76
  go_wp2_with fail
  refine H1.out.mono ?_
  rintro e w2 ⟨rfl, rfl⟩
  cases hq : has10 s
  · go_wp2
    go_ret
    exact ⟨by first | rfl | (rw [hq]; rfl), rfl⟩
  · go_wp2
    go_ret
    exact ⟨by first | rfl | (rw [hq]; rfl), rfl⟩
end Go.Proofs.YteiedafdakffeaaDoor

/- push: each of the lines, and how many bytes they have. -/
namespace Go.Proofs.YteiedafdakffeaaDoor
set_option linter.unusedVariables false
set_option linter.unusedSimpArgs false
open Go Go.RowKit
def flat (l : List ByteArray) : Bool := l.all fun s => !has10 s
def sizes (l : List ByteArray) : Nat := (l.map fun s => s.size).sum
theorem sizes_take (l : List ByteArray) (k : Nat) (h : k < l.length) : sizes (l.take (k + 1)) = sizes (l.take k) + (l.getD k ByteArray.empty).size := by
  have e : l.take (k + 1) = l.take k ++ [l[k]] := by rw [List.take_add_one, List.getElem?_eq_getElem h]; rfl
  unfold sizes
  rw [e, List.map_append, List.sum_append]
  simp [List.getD, h]
theorem sizes_le (l : List ByteArray) (k : Nat) : sizes (l.take k) ≤ sizes l := by
  have e : sizes l = sizes (l.take k) + sizes (l.drop k) := by
    unfold sizes
    rw [← List.sum_append, ← List.map_append, List.take_append_drop]
  omega
/-- lines that lie in a row, none of which is block o -/
def LinesAt (w : World) (o : Nat) (A : Option Addr) (l : List ByteArray) : Prop := ∀ i, i < l.length → ∃ g p, A = some ⟨g, p, none⟩ ∧ g ≠ o ∧ w.cell? ⟨g, p + i, none⟩ = some (.string (l.getD i ByteArray.empty))
set_option maxRecDepth 100000 in
set_option maxHeartbeats 4000000 in
theorem index_lines (w : World) (o c : Nat) (A : Option Addr) (l : List ByteArray) (cap : Nat) (hco : c ≠ o) (hl : LinesAt w o A l) (hbig : l.length ≤ 1000000000000) (hs : sizes l ≤ 4611686018427387904)
    (ho : w.heap[o]? = some (.cells #[.int .i64 0] 3 (0, 0))) (hc : w.cell? ⟨c, 0, none⟩ = some (.func (.func 62) #[] #[.pointer (some ⟨o, 0, none⟩)])) :
    Calls Tryd.prog 81 #[.slice A l.length cap, .func (.func 76) #[] #[.pointer (some ⟨c, 0, none⟩)]] w fun e w' =>
      ∃ r : Int, e = .returned (.int .i64 r) ∧ decide (0 ≤ r) = !flat l ∧ (∃ m, w'.heap[o]? = some (.cells #[.int .i64 m] 3 (0, 0)) ∧ (flat l = true → m = sizes l)) ∧ Chg (fun k => k = o) w w' := by
  have HL := Lib.hid hl
  have HO := Lib.hid ho
  have HC := Lib.hid hc
  have hnil : A = none → l.length = 0 := fun e => by
    rcases Nat.eq_zero_or_pos l.length with h | h
    · exact h
    · obtain ⟨g, p, e2, _⟩ := hl 0 h
      rw [e] at e2
      cases e2
  clear hl ho hc hnil
  go_enter Tryd.func81, Tryd.ntmps81
  go_wp2_with fail
  go_loopw [8] (fun i wr => ∃ k : Nat, k ≤ l.length ∧ i = .int .i64 k ∧ (∀ q, q < k → has10 (l.getD q ByteArray.empty) = false) ∧ wr.heap[o]? = some (.cells #[.int .i64 (sizes (l.take k) : Nat)] 3 (0, 0)) ∧ Chg (fun k => k = o) w wr) (fun i _ => l.length - (intOf i).toNat)
  case atStart => exact ⟨0, by omega, rfl, fun q hq => by omega, HO.out, Chg.refl _ _⟩
  case round =>
    obtain ⟨k, hk, rfl, hq, hoR, hC⟩ := hrel
    by_cases hlt : k < l.length
    · obtain ⟨g, p, rfl, hgo, hcell⟩ := HL.out k hlt
      have c1 := hC.cell hcell hgo
      have he := each1s_some wr o c (sizes (l.take k) : Nat) (l.getD k ByteArray.empty) hoR (hC.cell HC.out hco)
      have h1 := sizes_take l k hlt
      have h2 := sizes_le l (k + 1)
      have ew : wrap64 (((sizes (l.take k) : Nat) : Int) + ((l.getD k ByteArray.empty).size : Int)) = ((sizes (l.take (k + 1)) : Nat) : Int) := by unfold wrap64; omega
      rw [ew] at he
      have HQ := Lib.hid hq
      have HK := Lib.hid hC
      have HOR := Lib.hid hoR
      have hkk : has10 (l.getD k ByteArray.empty) = has10 (l.getD k ByteArray.empty) := rfl
      clear hq hC hoR ew h1 h2 hcell
      generalize hX : l.getD k ByteArray.empty = X at *
      go_wp2_with fail
      refine he.mono ?_
      rintro e w2 ⟨rfl, rfl⟩
      have HO2 := Lib.hid (heap_setCell_cells HOR.out 0 (.int .i64 ((sizes (l.take (k + 1)) : Nat) : Int)))
      have HC2 := Lib.hid (HK.out.setCell (p := ⟨o, 0, none⟩) (.inl rfl) (.int .i64 ((sizes (l.take (k + 1)) : Nat) : Int)))
      clear he c1
      generalize wr.setCell ⟨o, 0, none⟩ (.int .i64 ((sizes (l.take (k + 1)) : Nat) : Int)) = w2 at *
      cases hok : has10 X
      · go_wp2
        go_roundw
        case rel => exact ⟨k + 1, by omega, by go_num, fun q hq2 => by
          by_cases e : q = k
          · subst e; rw [hX]; exact hok
          · exact HQ.out q (by omega), HO2.out, HC2.out⟩
        case measure => simp [intOf] <;> omega
      · go_wp2
        go_ret
        have hf : flat l = false := by
          unfold flat
          rw [List.all_eq_false]
          refine ⟨l[k], List.getElem_mem hlt, ?_⟩
          have : l[k] = X := by rw [← hX]; simp [List.getD, hlt]
          rw [this, hok]
          simp
        refine ⟨k, rfl, ?_, ⟨_, HO2.out, fun h => by rw [hf] at h; cases h⟩, HC2.out⟩
        rw [hf]
        exact decide_eq_true (by omega)
    · have HQ := Lib.hid hq
      have HK := Lib.hid hC
      have HOR := Lib.hid hoR
      clear hq hC hoR
      obtain rfl : k = l.length := by omega
      go_wp2
      go_ret
      have hf : flat l = true := by
        unfold flat
        rw [List.all_eq_true]
        intro x hx
        obtain ⟨q, hq2, rfl⟩ := List.getElem_of_mem hx
        have := HQ.out q hq2
        rw [show l.getD q ByteArray.empty = l[q] by simp [List.getD, hq2]] at this
        rw [this]
        rfl
      have ho2 := HOR.out
      rw [List.take_length] at ho2
      refine ⟨-1, rfl, by rw [hf]; rfl, ⟨_, ho2, fun _ => rfl⟩, HK.out⟩
end Go.Proofs.YteiedafdakffeaaDoor

/- push: each of the lines. -/
namespace Go.Proofs.YteiedafdakffeaaDoor
set_option linter.unusedVariables false
set_option linter.unusedSimpArgs false
open Go Go.RowKit
set_option maxRecDepth 100000 in
set_option maxHeartbeats 4000000 in
theorem contains_lines (w : World) (o c : Nat) (A : Option Addr) (l : List ByteArray) (cap : Nat) (hco : c ≠ o) (hl : LinesAt w o A l) (hbig : l.length ≤ 1000000000000) (hs : sizes l ≤ 4611686018427387904)
    (ho : w.heap[o]? = some (.cells #[.int .i64 0] 3 (0, 0))) (hc : w.cell? ⟨c, 0, none⟩ = some (.func (.func 62) #[] #[.pointer (some ⟨o, 0, none⟩)])) :
    Calls Tryd.prog 75 #[.slice A l.length cap, .func (.func 76) #[] #[.pointer (some ⟨c, 0, none⟩)]] w fun e w' =>
      e = .returned (.bool (!flat l)) ∧ (∃ m, w'.heap[o]? = some (.cells #[.int .i64 m] 3 (0, 0)) ∧ (flat l = true → m = sizes l)) ∧ Chg (fun k => k = o) w w' := by
  have hi := index_lines w o c A l cap hco hl hbig hs ho hc
  clear hl ho hc
  go_enter Tryd.func75, Tryd.ntmps75
  go_wp2_with fail
  refine hi.mono ?_
  rintro e w2 ⟨r, rfl, hr, hm, hC⟩
  have HC := Lib.hid hC
  have HM := Lib.hid hm
  clear hi hC hm
  cases hq : flat l
  · rw [hq] at hr
    go_wp2
    go_ret
    exact ⟨by first | rfl | (rw [hq]; rfl) | (rw [hq, ← hr]; rfl), HM.out, HC.out⟩
  · rw [hq] at hr
    go_wp2
    go_ret
    exact ⟨by first | rfl | (rw [hq]; rfl) | (rw [hq, ← hr]; rfl), HM.out, HC.out⟩
set_option maxRecDepth 100000 in
set_option maxHeartbeats 4000000 in
theorem each_lines (w : World) (o : Nat) (A : Option Addr) (l : List ByteArray) (cap : Nat) (hl : LinesAt w o A l) (hbig : l.length ≤ 1000000000000) (hs : sizes l ≤ 4611686018427387904)
    (ho : w.heap[o]? = some (.cells #[.int .i64 0] 3 (0, 0))) :
    Calls Tryd.prog 61 #[.slice A l.length cap, .func (.func 62) #[] #[.pointer (some ⟨o, 0, none⟩)]] w fun e w' =>
      e = .returned (.bool (flat l)) ∧ (∃ m, w'.heap[o]? = some (.cells #[.int .i64 m] 3 (0, 0)) ∧ (flat l = true → m = sizes l)) ∧ Chg (fun k => k = o) w w' := by
  have hlt := lt_of_heap ho
  have hA := (Chg.refl (fun _ => False) w).alloc (.cells #[.func (.func 62) #[] #[.pointer (some ⟨o, 0, none⟩)]] 96)
  have hi := contains_lines (w.alloc (.cells #[.func (.func 62) #[] #[.pointer (some ⟨o, 0, none⟩)]] 96)) o w.heap.size A l cap (by omega) (fun i h => by
    obtain ⟨g, p, e, h1, h2⟩ := hl i h
    exact ⟨g, p, e, h1, hA.cell h2 (fun h => h)⟩) hbig hs (hA.keep ho (fun h => h)) (cell_of_heap (heap_alloc_new w _) 0)
  have HI := Lib.hid hi
  have HA := Lib.hid (hA.mono (S' := fun k => k = o) (fun _ _ h => h.elim))
  clear hl ho hi hA
  go_enter Tryd.func61, Tryd.ntmps61
  go_wp2_with fail
  refine HI.out.mono ?_
  rintro e w2 ⟨rfl, hm, hC⟩
  have HC := Lib.hid hC
  have HM := Lib.hid hm
  clear HI hC hm
  cases hq : flat l
  · go_wp2
    go_ret
    exact ⟨by first | rfl | (rw [hq]; rfl), HM.out, HA.out.trans HC.out⟩
  · go_wp2
    go_ret
    exact ⟨by first | rfl | (rw [hq]; rfl), HM.out, HA.out.trans HC.out⟩
end Go.Proofs.YteiedafdakffeaaDoor
