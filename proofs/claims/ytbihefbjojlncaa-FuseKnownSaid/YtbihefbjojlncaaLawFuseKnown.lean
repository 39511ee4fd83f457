/- fuse: the law FuseKnown, walked: it returns true. -/
import Derived.Test.YtbihefbjojlncaaFsNone
import Derived.Test.YtbihefbjojlncaaLawFusePlays
namespace Go.Proofs.Ytbihefbjojlncaa
set_option linter.unusedVariables false
set_option linter.unusedSimpArgs false
open Go Go.RowKit
theorem cells_i64 {W : World} {B : Nat} {t : TypeId} {z : Nat × Nat} (l : List Int) (hh : W.heap[B]? = some (.cells (l.map (Value.int .i64)).toArray t z)) (hl : ∀ x ∈ l, I64 x) : ∀ k, k < l.length → ∃ n, I64 n ∧ W.cell? ⟨B, k, none⟩ = some (.int .i64 n) := fun k hk => by
  refine ⟨l[k], hl _ (List.getElem_mem hk), ?_⟩
  rw [cell_of_heap hh]
  simp [hk]
def endsL : List Int := [-9223372036854775808, -1, 0, 1, 2, 9, 10, 1000, 1001, 1000000, 1000001, 4503599627370496, 4503599627370497, 9223372036854775807]
theorem ends_ok : ∀ x ∈ endsL, I64 x := by
  intro x hx
  simp [endsL] at hx
  unfold I64
  omega
def doL (n : Int) : List DoT := [(true, false, false, n, 0, 0), (true, false, false, 0, n, 0), (false, false, true, 0, 0, n), (true, false, true, 0, 0, n), (false, false, false, 0, 0, 1)]
def doB (n : Int) : Array Value := #[.bool true, .bool false, .bool false, .int .i64 n, .int .i64 0, .int .i64 0, .bool true, .bool false, .bool false, .int .i64 0, .int .i64 n, .int .i64 0, .bool false, .bool false, .bool true, .int .i64 0, .int .i64 0, .int .i64 n, .bool true, .bool false, .bool true, .int .i64 0, .int .i64 0, .int .i64 n, .bool false, .bool false, .bool false, .int .i64 0, .int .i64 0, .int .i64 1]
theorem doL_ok {n : Int} (hn : I64 n) : ∀ c ∈ doL n, DoOk c := by
  have h0 : I64 0 := i64_small (by omega) (by omega)
  have h1 : I64 1 := i64_small (by omega) (by omega)
  intro c hc
  simp [doL] at hc
  rcases hc with rfl | rfl | rfl | rfl | rfl
  · exact ⟨hn, h0, h0⟩
  · exact ⟨h0, hn, h0⟩
  · exact ⟨h0, h0, hn⟩
  · exact ⟨h0, h0, hn⟩
  · exact ⟨h0, h0, h1⟩
theorem doL_flat (n : Int) : (doB n).toList = (doL n).flatMap doC := rfl
theorem doL_rows {W : World} {g : Nat} {t : TypeId} {z : Nat × Nat} {n : Int} (hh : W.heap[g]? = some (.cells (doB n) t z)) : InRows 6 doC W (some ⟨g, 0, none⟩) (doL n) := by
  intro i a ha
  refine ⟨g, 0, rfl, fun j v hv => ?_⟩
  rw [cell_of_heap hh]
  have hj : j < 6 := (List.getElem?_eq_some_iff.1 hv).1
  match i, ha with
  | 0, ha => obtain rfl : _ = a := by simpa [doL] using ha
             match j, hv with
             | 0, hv => exact hv
             | 1, hv => exact hv
             | 2, hv => exact hv
             | 3, hv => exact hv
             | 4, hv => exact hv
             | 5, hv => exact hv
  | 1, ha => obtain rfl : _ = a := by simpa [doL] using ha
             match j, hv with
             | 0, hv => exact hv
             | 1, hv => exact hv
             | 2, hv => exact hv
             | 3, hv => exact hv
             | 4, hv => exact hv
             | 5, hv => exact hv
  | 2, ha => obtain rfl : _ = a := by simpa [doL] using ha
             match j, hv with
             | 0, hv => exact hv
             | 1, hv => exact hv
             | 2, hv => exact hv
             | 3, hv => exact hv
             | 4, hv => exact hv
             | 5, hv => exact hv
  | 3, ha => obtain rfl : _ = a := by simpa [doL] using ha
             match j, hv with
             | 0, hv => exact hv
             | 1, hv => exact hv
             | 2, hv => exact hv
             | 3, hv => exact hv
             | 4, hv => exact hv
             | 5, hv => exact hv
  | 4, ha => obtain rfl : _ = a := by simpa [doL] using ha
             match j, hv with
             | 0, hv => exact hv
             | 1, hv => exact hv
             | 2, hv => exact hv
             | 3, hv => exact hv
             | 4, hv => exact hv
             | 5, hv => exact hv
theorem plays_known {W : World} {g : Nat} {t : TypeId} {z : Nat × Nat} {n : Int} (hh : W.heap[g]? = some (.cells (doB n) t z)) (hn : I64 n) (a b : Int) :
    Calls Try.prog 3 #[.int .i64 a, .int .i64 b, .slice (some ⟨g, 0, none⟩) 5 5] W fun e w' => e = .returned (.bool true) ∧ Chg (fun _ => False) W w' :=
  plays_any W a b (some ⟨g, 0, none⟩) (doL n) 5 (doL_rows hh) (doL_ok hn) (by show 5 ≤ maxLen; unfold maxLen; omega)
set_option maxRecDepth 100000 in
set_option maxHeartbeats 16000000 in
theorem known_any (w : World) :
    Calls Try.prog 8 #[] w fun e w' => e = .returned (.bool true) ∧ Chg (fun _ => False) w w' := by
  have hends := cells_i64 (W := w.alloc (.cells #[.int .i64 (-9223372036854775808), .int .i64 (-1), .int .i64 0, .int .i64 1, .int .i64 2, .int .i64 9, .int .i64 10, .int .i64 1000, .int .i64 1001, .int .i64 1000000, .int .i64 1000001, .int .i64 4503599627370496, .int .i64 4503599627370497, .int .i64 9223372036854775807] 3)) endsL (heap_new w _) ends_ok
  have hal := (Chg.refl (fun _ => False) w).alloc (.cells #[.int .i64 (-9223372036854775808), .int .i64 (-1), .int .i64 0, .int .i64 1, .int .i64 2, .int .i64 9, .int .i64 10, .int .i64 1000, .int .i64 1001, .int .i64 1000000, .int .i64 1000001, .int .i64 4503599627370496, .int .i64 4503599627370497, .int .i64 9223372036854775807] 3)
  have he0 : ∀ k : Nat, k < 14 → _ := hends
  have HE := Lib.hid he0
  clear hends he0
  go_enter Try.func8, Try.ntmps8
  go_upto_region 2 with fail
  generalize w.alloc (.cells #[.int .i64 (-9223372036854775808), .int .i64 (-1), .int .i64 0, .int .i64 1, .int .i64 2, .int .i64 9, .int .i64 10, .int .i64 1000, .int .i64 1001, .int .i64 1000000, .int .i64 1000001, .int .i64 4503599627370496, .int .i64 4503599627370497, .int .i64 9223372036854775807] 3) = W0 at *
  go_wp2_with fail
  go_loopw [2] (fun a wr => ∃ k : Nat, a = .int .i64 k ∧ k ≤ 14 ∧ Chg (fun _ => False) w wr ∧ Chg (fun _ => False) W0 wr)
    (fun a _ => 14 - (intOf a).toNat)
  case atStart => exact ⟨0, rfl, by omega, hal, Chg.refl _ _⟩
  case round =>
    obtain ⟨k, rfl, k0, hC, hC0⟩ := hrel
    by_cases hk : k < 14
    · obtain ⟨n, hn, hcell⟩ := HE.out k hk
      have c0 := hC0.cell hcell (fun x => x)
      have b1 : ∀ W : World, Sem.run Try.prog (Instr.build 32 #[(0, Value.int .i64 n)]) W = .ok (.agg #[.int .i64 n, .int .i64 0]) W := fun W => run_build W _ _ _ (by kernel_rfl)
      have b2 : ∀ W : World, Sem.run Try.prog (Instr.build 32 #[(1, Value.int .i64 n)]) W = .ok (.agg #[.int .i64 0, .int .i64 n]) W := fun W => run_build W _ _ _ (by kernel_rfl)
      have b3 : ∀ W : World, Sem.run Try.prog (Instr.build 34 #[(0, Value.bool true), (3, Value.agg #[.int .i64 n, .int .i64 0])]) W = .ok (.agg #[.bool true, .bool false, .bool false, .int .i64 n, .int .i64 0, .int .i64 0]) W := fun W => run_build W _ _ _ (by kernel_rfl)
      have b4 : ∀ W : World, Sem.run Try.prog (Instr.build 34 #[(0, Value.bool true), (3, Value.agg #[.int .i64 0, .int .i64 n])]) W = .ok (.agg #[.bool true, .bool false, .bool false, .int .i64 0, .int .i64 n, .int .i64 0]) W := fun W => run_build W _ _ _ (by kernel_rfl)
      have b5 : ∀ W : World, Sem.run Try.prog (Instr.build 34 #[(2, Value.bool true), (4, Value.int .i64 n)]) W = .ok (.agg #[.bool false, .bool false, .bool true, .int .i64 0, .int .i64 0, .int .i64 n]) W := fun W => run_build W _ _ _ (by kernel_rfl)
      have b6 : ∀ W : World, Sem.run Try.prog (Instr.build 34 #[(0, Value.bool true), (2, Value.bool true), (4, Value.int .i64 n)]) W = .ok (.agg #[.bool true, .bool false, .bool true, .int .i64 0, .int .i64 0, .int .i64 n]) W := fun W => run_build W _ _ _ (by kernel_rfl)
      have b7 : ∀ W : World, Sem.run Try.prog (Instr.build 34 #[(4, Value.int .i64 1)]) W = .ok (.agg #[.bool false, .bool false, .bool false, .int .i64 0, .int .i64 0, .int .i64 1]) W := fun W => run_build W _ _ _ (by kernel_rfl)
      have hw3 : IntKind.i64.wrap ((k : Int) + 1) = k + 1 := IntWalk.i64_in _ ⟨by omega, by omega⟩
      clear hcell
      go_upto_region 7 with fail
      have hv1 : (wr.alloc (.cells #[.bool true, .bool false, .bool false, .int .i64 n, .int .i64 0, .int .i64 0, .bool true, .bool false, .bool false, .int .i64 0, .int .i64 n, .int .i64 0, .bool false, .bool false, .bool true, .int .i64 0, .int .i64 0, .int .i64 n, .bool true, .bool false, .bool true, .int .i64 0, .int .i64 0, .int .i64 n, .bool false, .bool false, .bool false, .int .i64 0, .int .i64 0, .int .i64 1] 34)).heap[wr.heap.size]? = some (.cells (doB n) 34 (0, 0)) := heap_new wr _
      have hCa := hC.alloc (.cells #[.bool true, .bool false, .bool false, .int .i64 n, .int .i64 0, .int .i64 0, .bool true, .bool false, .bool false, .int .i64 0, .int .i64 n, .int .i64 0, .bool false, .bool false, .bool true, .int .i64 0, .int .i64 0, .int .i64 n, .bool true, .bool false, .bool true, .int .i64 0, .int .i64 0, .int .i64 n, .bool false, .bool false, .bool false, .int .i64 0, .int .i64 0, .int .i64 1] 34)
      have hCb := hC0.alloc (.cells #[.bool true, .bool false, .bool false, .int .i64 n, .int .i64 0, .int .i64 0, .bool true, .bool false, .bool false, .int .i64 0, .int .i64 n, .int .i64 0, .bool false, .bool false, .bool true, .int .i64 0, .int .i64 0, .int .i64 n, .bool true, .bool false, .bool true, .int .i64 0, .int .i64 0, .int .i64 n, .bool false, .bool false, .bool false, .int .i64 0, .int .i64 0, .int .i64 1] 34)
      generalize wr.alloc (.cells #[.bool true, .bool false, .bool false, .int .i64 n, .int .i64 0, .int .i64 0, .bool true, .bool false, .bool false, .int .i64 0, .int .i64 n, .int .i64 0, .bool false, .bool false, .bool true, .int .i64 0, .int .i64 0, .int .i64 n, .bool true, .bool false, .bool true, .int .i64 0, .int .i64 0, .int .i64 n, .bool false, .bool false, .bool false, .int .i64 0, .int .i64 0, .int .i64 1] 34) = wa at *
      generalize wr.heap.size = g at *
      clear hC hC0 c0 b1 b2 b3 b4 b5 b6 b7
      have tk1 : True := trivial
      go_wp2_with (first
        | (go_at_call 3; have _t := tk1; clear _t tk1; refine (plays_known hv1 hn _ _).mono ?_; rintro e w1 ⟨rfl, hC1⟩; have hv2 := hC1.keep hv1 (fun x => x); have tk2 : True := trivial)
        | (go_at_call 3; have _t := tk2; clear _t tk2; refine (plays_known hv2 hn _ _).mono ?_; rintro e w2 ⟨rfl, hC2⟩; have hv3 := hC2.keep hv2 (fun x => x); have tk3 : True := trivial)
        | (go_at_call 3; have _t := tk3; clear _t tk3; refine (plays_known hv3 hn _ _).mono ?_; rintro e w3 ⟨rfl, hC3⟩))
      go_roundw
      case rel => exact ⟨k + 1, by go_num, by omega, ((hCa.trans hC1).trans hC2).trans hC3, ((hCb.trans hC1).trans hC2).trans hC3⟩
      case measure => simp [intOf]; omega
    · have hk14 : k = 14 := by omega
      subst hk14
      have hNil : ∀ W, NoBox W none := fun W => .inl rfl
      have b0 : ∀ W : World, Sem.run Try.prog (Instr.build 32 #[]) W = .ok (.agg #[.int .i64 0, .int .i64 0]) W := fun W => run_build W _ _ _ (by kernel_rfl)
      have b9 : ∀ W : World, Sem.run Try.prog (Instr.build 68 #[]) W = .ok (.agg #[.int .i64 0, .int .i64 0, .int .i64 0, .map none]) W := fun W => run_build W _ _ _ (by kernel_rfl)
      clear hC0 HE
      go_upto_block 2 with fail
      go_wp2_with fail
      refine wp_loop_rounds 3 ?_; rw [rounds_succ]
      go_upto_region 15 with (first
        | (go_at_call 14; refine (ask_none _ none 0 0 0 (hNil _)).mono ?_; rintro e w1 ⟨rfl, hC1⟩)
        | (go_at_call 12; refine (did_none _ none 0 0 0 true (hNil _)).mono ?_; rintro e w2 ⟨rfl, hC2⟩)
        | (go_at_call 21; refine (stands_none _ none 0 0 (hNil _)).mono ?_; rintro e w3 ⟨rfl, hC3⟩)
        | (go_at_call 22; refine (spots_none _ none (hNil _)).mono ?_; rintro e w4 ⟨rfl, rfl⟩)
        | (go_at_call 23; refine (tick_none _ none (hNil _)).mono ?_; rintro e w5 ⟨rfl, rfl⟩))
      have hD := ((hC.trans hC1).trans hC2).trans hC3
      clear hC hC1 hC2 hC3
      go_wp2_with fail
      rw [rounds_succ]
      have hE := hD.alloc (.cells #[.int .i64 0, .int .i64 0, .int .i64 0, .map none] 68)
      have hZ : NoBox (w5.alloc (.cells #[.int .i64 0, .int .i64 0, .int .i64 0, .map none] 68)) (some ⟨w5.heap.size, 0, none⟩) := .inr ⟨_, rfl, cell_of_heap (heap_new w5 _) 3⟩
      generalize w5.alloc (.cells #[.int .i64 0, .int .i64 0, .int .i64 0, .map none] 68) = v0 at *
      generalize w5.heap.size = zb at *
      clear hD hNil
      go_upto_region 15 with (first
        | (go_at_call 14; refine (ask_none _ _ 0 0 0 hZ).mono ?_; rintro e v1 ⟨rfl, hC1⟩; have hZ1 := hZ.chg hC1)
        | (go_at_call 12; refine (did_none _ _ 0 0 0 true hZ1).mono ?_; rintro e v2 ⟨rfl, hC2⟩; have hZ2 := hZ1.chg hC2)
        | (go_at_call 21; refine (stands_none _ _ 0 0 hZ2).mono ?_; rintro e v3 ⟨rfl, hC3⟩; have hZ3 := hZ2.chg hC3)
        | (go_at_call 22; refine (spots_none _ _ hZ3).mono ?_; rintro e v4 ⟨rfl, rfl⟩)
        | (go_at_call 23; refine (tick_none _ _ hZ3).mono ?_; rintro e v5 ⟨rfl, rfl⟩))
      have hD := ((hE.trans hC1).trans hC2).trans hC3
      clear hE hC1 hC2 hC3 hZ hZ1 hZ2
      go_wp2_with fail
      rw [rounds_succ]
      go_wp2_with (first
        | (go_at_call 17; refine (works_some _).mono ?_; rintro e v6 ⟨rfl, hC6⟩))
      go_ret
      exact ⟨rfl, (hD.alloc _).trans hC6⟩
end Go.Proofs.Ytbihefbjojlncaa
