/- push: the document's bare packet. -/
import Derived.Test.YteiedafdakffeaaDoorPuO
namespace Go.Proofs.YteiedafdakffeaaDoor
set_option linter.unusedVariables false
set_option linter.unusedSimpArgs false
open Go Go.RowKit Go.Proofs
open Go.Proofs.YteiedafdakffeaaDoorW.PrintWords (gate_dst gate_store own_move)
def bareV (k : Int) (V : Nat → Int) : Nat → Int :=
  if k = 1 then setV (setV zeroV 1 (V 1)) 4 (V 4) else if k = 2 then setV (setV (setV (setV (setV zeroV 1 (V 1)) 2 (V 2)) 4 (V 4)) 5 (V 5)) 6 (V 6) else if k = 3 then setV (setV zeroV 1 (V 1)) 4 (V 4) else if k = 4 then setV (setV zeroV 1 (V 1)) 3 (V 3) else if k = 5 then setV (setV zeroV 1 (V 1)) 3 (V 3) else setV zeroV 1 (V 1)
def bareT (k : Int) (tx : ByteArray) : ByteArray := if k = 1 then tx else ByteArray.empty
def bareL (k : Int) (s : Value) : Value := if k = 2 then s else .slice none 0 0
set_option maxRecDepth 100000 in
set_option maxHeartbeats 8000000 in
theorem bare_some (w : World) (k : Int) (V : Nat → Int) (tx : ByteArray) (A : Option Addr) (n c : Nat) :
    Calls Tryd.prog 66 #[.agg (pk k V tx (.slice A n c))] w fun e w' => e = .returned (.agg (pk k (bareV k V) (bareT k tx) (bareL k (.slice A n c)))) ∧ Chg (fun _ => False) w w' := by
  unfold pk
  go_enter Tryd.func66, Tryd.ntmps66
  go_upto_region 2 with fail
  generalize hw1 : ((w.alloc (.cells #[.int .i64 k, .int .i64 (V 1), .int .i64 (V 2), .int .i64 (V 3), .int .i64 (V 4), .int .i64 (V 5), .int .i64 (V 6), .string tx, .slice A n c] 26)).alloc (.cells #[.int .i64 0, .int .i64 0, .int .i64 0, .int .i64 0, .int .i64 0, .int .i64 0, .int .i64 0, .string ⟨#[]⟩, .slice none 0 0] 26)).alloc (.cells #[.int .i64 k, .int .i64 (V 1), .int .i64 0, .int .i64 0, .int .i64 0, .int .i64 0, .int .i64 0, .string ⟨#[]⟩, .slice none 0 0] 26) = w1
  have hS : PktAt w1 w.heap.size k V tx (.slice A n c) := by rw [← hw1]; exact heap_alloc (heap_alloc (heap_new _ _))
  have hR : w1.heap[w.heap.size + 1]? = some (.cells zeroPkt 26 (0, 0)) := by rw [← hw1]; exact heap_alloc (heap_new1 _ _ _)
  have hQ : PktAt w1 (w.heap.size + 1 + 1) k (setV zeroV 1 (V 1)) ByteArray.empty (.slice none 0 0) := by
    rw [← hw1]
    have h := heap_new ((w.alloc (.cells #[.int .i64 k, .int .i64 (V 1), .int .i64 (V 2), .int .i64 (V 3), .int .i64 (V 4), .int .i64 (V 5), .int .i64 (V 6), .string tx, .slice A n c] 26)).alloc (.cells #[.int .i64 0, .int .i64 0, .int .i64 0, .int .i64 0, .int .i64 0, .int .i64 0, .int .i64 0, .string ⟨#[]⟩, .slice none 0 0] 26)) (.cells #[.int .i64 k, .int .i64 (V 1), .int .i64 0, .int .i64 0, .int .i64 0, .int .i64 0, .int .i64 0, .string ⟨#[]⟩, .slice none 0 0] 26)
    rw [World.size_alloc, World.size_alloc] at h
    exact h
  have hC : Chg (fun _ => False) w w1 := by rw [← hw1]; exact (((Chg.refl _ w).alloc _).alloc _).alloc _
  clear hw1
  have s0 : w1.cell? ⟨w.heap.size, 0, none⟩ = some (.int .i64 k) := cell_of_heap hS 0
  have s2 : w1.cell? ⟨w.heap.size, 2, none⟩ = some (.int .i64 (V 2)) := cell_of_heap hS 2
  have s3 : w1.cell? ⟨w.heap.size, 3, none⟩ = some (.int .i64 (V 3)) := cell_of_heap hS 3
  have s4 : w1.cell? ⟨w.heap.size, 4, none⟩ = some (.int .i64 (V 4)) := cell_of_heap hS 4
  have s5 : w1.cell? ⟨w.heap.size, 5, none⟩ = some (.int .i64 (V 5)) := cell_of_heap hS 5
  have s6 : w1.cell? ⟨w.heap.size, 6, none⟩ = some (.int .i64 (V 6)) := cell_of_heap hS 6
  have s7 : w1.cell? ⟨w.heap.size, 7, none⟩ = some (.string tx) := cell_of_heap hS 7
  have s8 : w1.cell? ⟨w.heap.size, 8, none⟩ = some (.slice A n c) := cell_of_heap hS 8
  have p2 : w1.cell? ⟨w.heap.size + 1 + 1, 2, none⟩ = some (.int .i64 0) := cell_of_heap hQ 2
  have f2 : w1.frozen? ⟨w.heap.size + 1 + 1, 2, none⟩ = false := hQ.free 2
  have p3 : w1.cell? ⟨w.heap.size + 1 + 1, 3, none⟩ = some (.int .i64 0) := cell_of_heap hQ 3
  have f3 : w1.frozen? ⟨w.heap.size + 1 + 1, 3, none⟩ = false := hQ.free 3
  have p4 : w1.cell? ⟨w.heap.size + 1 + 1, 4, none⟩ = some (.int .i64 0) := cell_of_heap hQ 4
  have f4 : w1.frozen? ⟨w.heap.size + 1 + 1, 4, none⟩ = false := hQ.free 4
  have p5 : w1.cell? ⟨w.heap.size + 1 + 1, 5, none⟩ = some (.int .i64 0) := cell_of_heap hQ 5
  have f5 : w1.frozen? ⟨w.heap.size + 1 + 1, 5, none⟩ = false := hQ.free 5
  have p6 : w1.cell? ⟨w.heap.size + 1 + 1, 6, none⟩ = some (.int .i64 0) := cell_of_heap hQ 6
  have f6 : w1.frozen? ⟨w.heap.size + 1 + 1, 6, none⟩ = false := hQ.free 6
  have p7 : w1.cell? ⟨w.heap.size + 1 + 1, 7, none⟩ = some (.string ByteArray.empty) := cell_of_heap hQ 7
  have f7 : w1.frozen? ⟨w.heap.size + 1 + 1, 7, none⟩ = false := hQ.free 7
  have p8 : w1.cell? ⟨w.heap.size + 1 + 1, 8, none⟩ = some (.slice none 0 0) := cell_of_heap hQ 8
  have f8 : w1.frozen? ⟨w.heap.size + 1 + 1, 8, none⟩ = false := hQ.free 8
  have HQ := Lib.hid hQ
  have HR := Lib.hid hR
  have HC := Lib.hid hC
  clear hS hR hQ hC
  go_upto_block 0 with fail
  go_cut [] from 11 to 46 (fun W => PktAt W (w.heap.size + 1 + 1) k (bareV k V) (bareT k tx) (bareL k (.slice A n c)) ∧ W.heap[w.heap.size + 1]? = some (.cells zeroPkt 26 (0, 0)) ∧ Chg (fun _ => False) w W)
  case first =>
    by_cases k1 : k = 1
    · subst k1
      go_wp2_with fail
      go_meet
      exact ⟨((HQ.out).setN 4 (V 4) (by omega) (by omega)).setT tx, heap_setCell (heap_setCell (HR.out) (a := ⟨w.heap.size + 1 + 1, 4, none⟩) (by simp) (.int .i64 (V 4))) (a := ⟨w.heap.size + 1 + 1, 7, none⟩) (by simp) (.string tx), ((HC.out).setCell (p := ⟨w.heap.size + 1 + 1, 4, none⟩) (.inr (by simp; omega)) (.int .i64 (V 4))).setCell (p := ⟨w.heap.size + 1 + 1, 7, none⟩) (.inr (by simp; omega)) (.string tx)⟩
    have g1 : (k == 1) = false := beq_eq_false_iff_ne.2 k1
    by_cases k2 : k = 2
    · subst k2
      go_wp2_with fail
      go_meet
      exact ⟨(((((HQ.out).setN 2 (V 2) (by omega) (by omega)).setN 4 (V 4) (by omega) (by omega)).setN 5 (V 5) (by omega) (by omega)).setN 6 (V 6) (by omega) (by omega)).setL (.slice A n c), heap_setCell (heap_setCell (heap_setCell (heap_setCell (heap_setCell (HR.out) (a := ⟨w.heap.size + 1 + 1, 2, none⟩) (by simp) (.int .i64 (V 2))) (a := ⟨w.heap.size + 1 + 1, 4, none⟩) (by simp) (.int .i64 (V 4))) (a := ⟨w.heap.size + 1 + 1, 5, none⟩) (by simp) (.int .i64 (V 5))) (a := ⟨w.heap.size + 1 + 1, 6, none⟩) (by simp) (.int .i64 (V 6))) (a := ⟨w.heap.size + 1 + 1, 8, none⟩) (by simp) (.slice A n c), (((((HC.out).setCell (p := ⟨w.heap.size + 1 + 1, 2, none⟩) (.inr (by simp; omega)) (.int .i64 (V 2))).setCell (p := ⟨w.heap.size + 1 + 1, 4, none⟩) (.inr (by simp; omega)) (.int .i64 (V 4))).setCell (p := ⟨w.heap.size + 1 + 1, 5, none⟩) (.inr (by simp; omega)) (.int .i64 (V 5))).setCell (p := ⟨w.heap.size + 1 + 1, 6, none⟩) (.inr (by simp; omega)) (.int .i64 (V 6))).setCell (p := ⟨w.heap.size + 1 + 1, 8, none⟩) (.inr (by simp; omega)) (.slice A n c)⟩
    have g2 : (k == 2) = false := beq_eq_false_iff_ne.2 k2
    by_cases k3 : k = 3
    · subst k3
      go_wp2_with fail
      go_meet
      exact ⟨(HQ.out).setN 4 (V 4) (by omega) (by omega), heap_setCell (HR.out) (a := ⟨w.heap.size + 1 + 1, 4, none⟩) (by simp) (.int .i64 (V 4)), (HC.out).setCell (p := ⟨w.heap.size + 1 + 1, 4, none⟩) (.inr (by simp; omega)) (.int .i64 (V 4))⟩
    have g3 : (k == 3) = false := beq_eq_false_iff_ne.2 k3
    by_cases k4 : k = 4
    · subst k4
      go_wp2_with fail
      go_meet
      exact ⟨(HQ.out).setN 3 (V 3) (by omega) (by omega), heap_setCell (HR.out) (a := ⟨w.heap.size + 1 + 1, 3, none⟩) (by simp) (.int .i64 (V 3)), (HC.out).setCell (p := ⟨w.heap.size + 1 + 1, 3, none⟩) (.inr (by simp; omega)) (.int .i64 (V 3))⟩
    have g4 : (k == 4) = false := beq_eq_false_iff_ne.2 k4
    by_cases k5 : k = 5
    · subst k5
      go_wp2_with fail
      go_meet
      exact ⟨(HQ.out).setN 3 (V 3) (by omega) (by omega), heap_setCell (HR.out) (a := ⟨w.heap.size + 1 + 1, 3, none⟩) (by simp) (.int .i64 (V 3)), (HC.out).setCell (p := ⟨w.heap.size + 1 + 1, 3, none⟩) (.inr (by simp; omega)) (.int .i64 (V 3))⟩
    have g5 : (k == 5) = false := beq_eq_false_iff_ne.2 k5
    have HV := Lib.hid (show bareV k V = setV zeroV 1 (V 1) by unfold bareV; rw [if_neg k1, if_neg k2, if_neg k3, if_neg k4, if_neg k5])
    have HT := Lib.hid (show bareT k tx = ByteArray.empty by unfold bareT; rw [if_neg k1])
    have HL := Lib.hid (show bareL k (.slice A n c) = .slice none 0 0 by unfold bareL; rw [if_neg k2])
    clear k1 k2 k3 k4 k5
    go_wp2_with fail
    go_meet
    rw [HV.out, HT.out, HL.out]
    exact ⟨HQ.out, HR.out, HC.out⟩
  case rest =>
    obtain ⟨hP, hR, hC⟩ := hcut
    clear s0 s2 s3 s4 s5 s6 s7 s8 p2 p3 p4 p5 p6 p7 p8 f2 f3 f4 f5 f6 f7 f8 HQ HR HC
    obtain ⟨la, ln, lc, hl1⟩ : ∃ a m d, bareL k (.slice A n c) = .slice a m d := by
      unfold bareL
      split
      · exact ⟨_, _, _, rfl⟩
      · exact ⟨_, _, _, rfl⟩
    obtain ⟨V1, hv1⟩ : ∃ V1, bareV k V = V1 := ⟨_, rfl⟩
    obtain ⟨t1, ht1⟩ : ∃ t1, bareT k tx = t1 := ⟨_, rfl⟩
    rw [hv1, ht1, hl1] at hP
    have HV1 := Lib.hid hv1
    have HT1 := Lib.hid ht1
    have HL1 := Lib.hid hl1
    clear hv1 ht1 hl1
    have HP3 := Lib.hid hP
    have HQ3 := Lib.hid hR
    have HC3 := Lib.hid hC
    clear hP hR hC
    unfold PktAt at HP3
    go_wp2_with (first | ((with_reducible refine gate_dst (N := 47) rfl ?_); refine wpList_load_row rfl 26 (.tmp 3) rfl (w.heap.size + 1 + 1) rfl 26 _ (0, 0) _ HP3.out Tryd.underlying26 rfl infoP ?_) | ((with_reducible refine gate_store (t := 26) (p := 2) (v := .tmp 47) rfl ?_); refine wpList_store_row rfl 26 (.tmp 2) (.tmp 47) rfl (w.heap.size + 1) _ rfl rfl 26 _ HQ3.out infoP rfl (by simp [Value.oneCell']) ?_))
    go_wp2_with fail
    refine bodyPost_ret (results_cell_row rfl _ _ (w.heap.size + 1) 26 _ (0, 0) _ rfl (setRow_heap _ _ _ _ _ _ HQ3.out) Tryd.underlying26 rfl infoP) rfl ?_
    have h9 := HC3.out
    exact ⟨by rw [HV1.out, HT1.out, HL1.out], ⟨h9.os, h9.tape, h9.output, by rw [size_setRow]; exact h9.size, fun q hq _ => (setRow_other _ _ _ _ (by omega)).trans (h9.block q hq (fun h => h))⟩⟩
end Go.Proofs.YteiedafdakffeaaDoor
