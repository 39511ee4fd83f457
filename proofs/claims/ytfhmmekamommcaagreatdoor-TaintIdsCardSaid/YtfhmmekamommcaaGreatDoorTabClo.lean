/- What with is handed: stay, Raise's closure, Leave's closure. -/
import Derived.Test.YtfhmmekamommcaaGreatDoorTabFns
import Derived.Laws.ResultCell
import Derived.Laws.Rows
import Derived.Test.YtfhmmekamommcaaGreatDoorInRound
namespace Go.Proofs.YtfhmmekamommcaaGreatDoor
set_option linter.unusedVariables false
set_option linter.unusedSimpArgs false
open Go Go.RowKit Go.Proofs Go.Shelf
theorem infoSes : (Tryz.prog.info? 114).map (·.size) = some 2 := by kernel_rfl
theorem res_ses {fn : Func} (p u : Tmp) (h : fn.results = #[.cell p 114, .tmp u]) (tmps : Array Value) (w : World) (g : Nat) (t : TypeId) (cs : Array Value) (fr : Nat × Nat)
    (hp : tmps.getD p undef = .pointer (some ⟨g, 0, none⟩)) (hg : w.heap[g]? = some (.cells cs t fr)) (hs : cs.size = 2) : (results fn tmps).run Tryz.prog w = .ok (.tuple #[.agg cs, tmps.getD u undef]) w := by
  rw [results_cell_tmp h]
  have hp' : tmps[p]?.getD undef = .pointer (some ⟨g, 0, none⟩) := by simpa using hp
  have hl := run_loadVar_row (P := Tryz.prog) w g t 114 cs fr _ hg Tryz.underlying114 rfl (by rw [infoSes, hs])
  simp [hp', asAddr, hl, Result.andThen]
theorem stay_any (w : World) (b l : Int) : Calls Tryz.prog 57 #[sesV b l] w fun e w' => e = .returned (.tuple #[sesV b l, .bool true]) ∧ Chg (fun _ => False) w w' := by
  unfold sesV
  go_enter Tryz.func57, Tryz.ntmps57
  go_wp2
  have hh := heap_new (w.alloc (.cells #[.int .i64 b, .int .i64 l] 114)) (.cells #[.int .i64 b, .int .i64 l] 114)
  rw [World.size_alloc] at hh
  exact bodyPost_ret (res_ses 2 3 (by kernel_rfl) _ _ _ _ _ _ rfl hh rfl) rfl ⟨rfl, ((Chg.refl _ _).alloc _).alloc _⟩
theorem leave1_any (w : World) (b l : Int) : Calls Tryz.prog 68 #[sesV b l] w fun e w' => e = .returned (.tuple #[sesV b l, .bool false]) ∧ Chg (fun _ => False) w w' := by
  unfold sesV
  go_enter Tryz.func68, Tryz.ntmps68
  go_wp2
  have hh := heap_new (w.alloc (.cells #[.int .i64 b, .int .i64 l] 114)) (.cells #[.int .i64 b, .int .i64 l] 114)
  rw [World.size_alloc] at hh
  exact bodyPost_ret (res_ses 2 3 (by kernel_rfl) _ _ _ _ _ _ rfl hh rfl) rfl ⟨rfl, ((Chg.refl _ _).alloc _).alloc _⟩
theorem two_cells {w : World} {o : Obj} {k i : Nat} {x : Value} (h : w.cell? ⟨k, i, none⟩ = some x) : (w.alloc o).cell? ⟨k, i, none⟩ = some x := ((Chg.refl (fun _ => False) w).alloc o).cell h (fun x => x)
set_option maxRecDepth 100000 in
set_option maxHeartbeats 4000000 in
theorem raise1_any {w : World} {X : TX} {base la : Nat} {N : List (List UInt8)} {R : Nat → Nat → Bool} (hL : IsLat w base la N R) (hl10 : N.length ≤ 10) (h0 : w.cell? ⟨X.b, 0, none⟩ = some (latp la)) {Bt Ba : Nat} {a : Int}
    (ht : w.cell? ⟨Bt, 0, none⟩ = some X.p) (ha : w.cell? ⟨Ba, 0, none⟩ = some (.int .i64 a)) (b l : Int) :
    Calls Tryz.prog 58 #[sesV b l, .pointer (some ⟨Bt, 0, none⟩), .pointer (some ⟨Ba, 0, none⟩)] w fun e w' => e = .returned (.tuple #[sesV b (lJoin N.length R l a), .bool true]) ∧ Chg (fun _ => False) w w' := by
  have hA := ((Chg.refl (fun _ => False) w).alloc (.cells #[.int .i64 b, .int .i64 l] 114)).alloc (.cells #[.int .i64 0, .int .i64 0] 114)
  have g1 : ((w.alloc (.cells #[.int .i64 b, .int .i64 l] 114)).alloc (.cells #[.int .i64 0, .int .i64 0] 114)).heap[w.heap.size]? = some (.cells #[.int .i64 b, .int .i64 l] 114 (0, 0)) := heap_alloc (heap_new _ _)
  have g2 : ((w.alloc (.cells #[.int .i64 b, .int .i64 l] 114)).alloc (.cells #[.int .i64 0, .int .i64 0] 114)).heap[w.heap.size + 1]? = some (.cells #[.int .i64 0, .int .i64 0] 114 (0, 0)) := by
    have := heap_new (w.alloc (.cells #[.int .i64 b, .int .i64 l] 114)) (.cells #[.int .i64 0, .int .i64 0] 114)
    rwa [World.size_alloc] at this
  have hL2 := hL.cells hA.same_cells
  have hj := lJoinA (hL2.cells (Chg.refl (fun _ => False) _).drew.same_cells) hl10 l a
  have q0 := two_cells (o := .cells #[.int .i64 0, .int .i64 0] 114) (two_cells (o := .cells #[.int .i64 b, .int .i64 l] 114) h0)
  have q1 := two_cells (o := .cells #[.int .i64 0, .int .i64 0] 114) (two_cells (o := .cells #[.int .i64 b, .int .i64 l] 114) ht)
  have q2 := two_cells (o := .cells #[.int .i64 0, .int .i64 0] 114) (two_cells (o := .cells #[.int .i64 b, .int .i64 l] 114) ha)
  have f1 := cell_of_heap g1 1
  have f2 := free_of_heap g1 1
  simp only [List.getElem?_toArray, List.getElem?_cons_zero, List.getElem?_cons_succ] at f1
  unfold latp TX.p sesV at *
  go_enter Tryz.func58, Tryz.ntmps58
  go_upto_region 1 with fail
  generalize ((w.alloc (.cells #[.int .i64 b, .int .i64 l] 114)).alloc (.cells #[.int .i64 0, .int .i64 0] 114)) = W2 at *
  refine region_lone (fun W => W.cell? ⟨Bt, 0, none⟩ = some (.pointer (some ⟨X.b, 0, none⟩)) ∧ W.cell? ⟨X.b, 0, none⟩ = some (.pointer (some ⟨la, 0, none⟩)) ∧ W.cell? ⟨w.heap.size, 1, none⟩ = some (.int .i64 l) ∧ W.cell? ⟨Ba, 0, none⟩ = some (.int .i64 a) ∧ W.frozen? ⟨w.heap.size, 1, none⟩ = false) [9] (by kernel_rfl) ?_
  have hS : W2.drew.cell? ⟨Bt, 0, none⟩ = some (.pointer (some ⟨X.b, 0, none⟩)) ∧ W2.drew.cell? ⟨X.b, 0, none⟩ = some (.pointer (some ⟨la, 0, none⟩)) ∧ W2.drew.cell? ⟨w.heap.size, 1, none⟩ = some (.int .i64 l) ∧ W2.drew.cell? ⟨Ba, 0, none⟩ = some (.int .i64 a) ∧ W2.drew.frozen? ⟨w.heap.size, 1, none⟩ = false := ⟨q1, q0, f1, q2, f2⟩
  refine take_one 0 hS rfl (by kernel_rfl) rfl ?_
  apply Exists.intro
  refine And.intro (fun W' hS' => ?y0) (And.intro (fun _ _ _ h => h) ?_)
  case y0 => obtain ⟨d1, d2, d3, d4, d5⟩ := hS'; go_simp; rfl
  refine take_one 1 hS rfl (by kernel_rfl) rfl ?_
  apply Exists.intro
  refine And.intro (fun W' hS' => ?y1) (And.intro (fun _ _ _ h => h) ?_)
  case y1 => obtain ⟨d1, d2, d3, d4, d5⟩ := hS'; go_simp; rfl
  refine take_one 2 hS rfl (by kernel_rfl) rfl ?_
  apply Exists.intro
  refine And.intro (fun W' hS' => ?y2) (And.intro (fun _ _ _ h => h) ?_)
  case y2 => obtain ⟨d1, d2, d3, d4, d5⟩ := hS'; go_simp; rfl
  refine take_one 3 hS rfl (by kernel_rfl) rfl ?_
  apply Exists.intro
  refine And.intro (fun W' hS' => ?y3) (And.intro (fun _ _ _ h => h) ?_)
  case y3 => obtain ⟨d1, d2, d3, d4, d5⟩ := hS'; go_simp; rfl
  refine take_one 4 hS rfl (by kernel_rfl) rfl ?_
  apply Exists.intro
  refine And.intro (fun W' hS' => ?y4) (And.intro (fun _ _ _ h => h) ?_)
  case y4 => obtain ⟨d1, d2, d3, d4, d5⟩ := hS'; go_simp; rfl
  refine take_one 5 hS rfl (by kernel_rfl) rfl ?_
  apply Exists.intro
  refine And.intro (fun W' hS' => ?y5) (And.intro (fun _ _ _ h => h) ?_)
  case y5 => obtain ⟨d1, d2, d3, d4, d5⟩ := hS'; go_simp; rfl
  refine take_one 6 hS rfl (by kernel_rfl) rfl ?_
  apply Exists.intro
  refine And.intro (fun W' hS' => ?y6) (And.intro (fun _ _ _ h => h) ?_)
  case y6 => obtain ⟨d1, d2, d3, d4, d5⟩ := hS'; go_simp; rfl
  refine only_one 7 rfl (by kernel_rfl) rfl ?_
  try go_simp
  refine hj.mono ?_
  rintro e w3 ⟨rfl, rfl⟩
  try refine ⟨hS, ?_⟩
  refine take_one 8 hS rfl (by kernel_rfl) rfl ?_
  apply Exists.intro
  refine And.intro (fun W' hS' => ?y8) (And.intro (fun _ _ _ h => h) ?_)
  case y8 => obtain ⟨d1, d2, d3, d4, d5⟩ := hS'; go_simp; rfl
  refine only_one 9 rfl (by kernel_rfl) rfl ?_
  obtain ⟨d1, d2, d3, d4, d5⟩ := hS
  try go_simp
  try go_simp
  refine all_done (by kernel_rfl) ?_ _
  have g3 : (W2.setCell ⟨w.heap.size, 1, none⟩ (.int .i64 (lJoin N.length R l a))).drew.heap[w.heap.size]? = some (.cells #[.int .i64 b, .int .i64 (lJoin N.length R l a)] 114 (0, 0)) := by
    show (W2.setCell ⟨w.heap.size, 1, none⟩ (.int .i64 (lJoin N.length R l a))).heap[w.heap.size]? = _
    rw [heap_setCell_cells g1]; rfl
  have g4 : (W2.setCell ⟨w.heap.size, 1, none⟩ (.int .i64 (lJoin N.length R l a))).drew.heap[w.heap.size + 1]? = some (.cells #[.int .i64 0, .int .i64 0] 114 (0, 0)) :=
    show (W2.setCell ⟨w.heap.size, 1, none⟩ (.int .i64 (lJoin N.length R l a))).heap[w.heap.size + 1]? = _ from heap_setCell g2 (by simp) _
  have hC3 : Chg (fun _ => False) w (W2.setCell ⟨w.heap.size, 1, none⟩ (.int .i64 (lJoin N.length R l a))).drew := (hA.setCell (.inr (Nat.le_refl _)) _).drew
  generalize hJ : lJoin N.length R l a = J at *
  generalize ((W2.setCell ⟨w.heap.size, 1, none⟩ (.int .i64 J)).drew) = W3 at *
  have e0 := cell_of_heap g3 0
  have e1 := cell_of_heap g3 1
  have e2 := cell_of_heap g4 0
  have e3 := cell_of_heap g4 1
  have e4 := free_of_heap g4 0
  have e5 := free_of_heap g4 1
  simp only [List.getElem?_toArray, List.getElem?_cons_zero, List.getElem?_cons_succ] at e0 e1 e2 e3
  clear hj hL2 hL q0 q1 q2 f1 f2 d1 d2 d3 d4 d5
  go_wp2
  have hh : ((W3.setCell ⟨w.heap.size + 1, 0, none⟩ (.int .i64 b)).setCell ⟨w.heap.size + 1, 1, none⟩ (.int .i64 J)).heap[w.heap.size + 1]? = some (.cells #[.int .i64 b, .int .i64 J] 114 (0, 0)) := by
    rw [heap_setCell_cells (heap_setCell_cells g4 0 _)]; rfl
  (try simp only [Exit.inBlock, Exit.then])
  refine bodyPost_ret (res_ses 4 5 (by kernel_rfl) _ _ _ _ _ _ rfl hh rfl) rfl ?_
  rw [hJ]
  exact ⟨rfl, (hC3.setCell (.inr (by simp)) _).setCell (.inr (by simp)) _⟩
end Go.Proofs.YtfhmmekamommcaaGreatDoor
