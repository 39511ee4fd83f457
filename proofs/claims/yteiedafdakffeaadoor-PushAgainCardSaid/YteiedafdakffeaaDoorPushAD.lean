/- push: works. -/
import Derived.Test.YteiedafdakffeaaDoorPushAC
namespace Go.Proofs.YteiedafdakffeaaDoor
set_option linter.unusedVariables false
set_option linter.unusedSimpArgs false
open Go Go.RowKit Go.Proofs
open Go.Proofs.YteiedafdakffeaaDoorW.PrintWords (Kd ReadsInt ReadsOf own_move print_drop_of print_take_of gate_dst gate_store bytesOf bytesOf_length)
theorem reads_new (W : World) (b : List Int) (hb : b.length ≤ 1000000) : ReadsInt (W.alloc (.cells (u8s b).toArray 5)) .u8 (some ⟨W.heap.size, 0, none⟩) b.length b := by
  have h : (W.alloc (.cells (u8s b).toArray 5)).ownsRow W.heap.size 5 1 (.slice (some ⟨W.heap.size, 0, none⟩) b.length b.length) b.length (u8s b) := by
    have := World.ownsRow_lit (base := W.heap.size) (e := 5) (size := 1) W (u8s b).toArray b.length (Nat.le_refl _) (by unfold maxLen; omega) (by simp [u8s])
    simpa using this
  obtain ⟨A, c, e, _, hr⟩ := own_bytes h
  cases e
  exact hr
set_option maxRecDepth 100000 in
set_option maxHeartbeats 8000000 in
theorem works_some (w : World) (hW : WOk w) : Calls Tryd.prog 15 #[] w fun e w' => e = .returned (.bool true) ∧ Chg (fun _ => False) w w' := by
  have HW := Lib.hid hW
  clear hW
  go_enter Tryd.func15, Tryd.ntmps15
  go_wp2_with fail
  refine (is_ok _ 3 vA ByteArray.empty (some ⟨w.heap.size, 0, none⟩) wantA 15 (reads_new w wantA (by decide)) (by decide) bytesA (by decide) (by omega) (by omega) ckA byA peA smA plA).mono ?_
  rintro e w2 ⟨rfl, hC2⟩
  have HC2 := Lib.hid (((Chg.refl (fun _ => False) w).alloc _).trans hC2)
  clear hC2
  go_wp2_with fail
  refine (is_ok _ 4 vB ByteArray.empty (some ⟨w2.heap.size, 0, none⟩) wantB 15 (reads_new w2 wantB (by decide)) (by decide) bytesB (by decide) (by omega) (by omega) ckB byB peB smB plB).mono ?_
  rintro e w3 ⟨rfl, hC3⟩
  have HC3 := Lib.hid (HC2.out.trans (((Chg.refl (fun _ => False) w2).alloc _).trans hC3))
  clear hC3 HC2
  go_wp2_with fail
  have hck := check_all w3 4 0 0 0 1 0 0 ByteArray.empty none [] 0 (fun i hi => by simp at hi) (by simp) (by simp [sizes])
  rw [ckC] at hck
  refine hck.mono ?_
  rintro e w4 ⟨rfl, hC4⟩
  have HC4 := Lib.hid (HC3.out.trans hC4)
  clear hC4 HC3 hck
  go_wp2_with fail
  refine (fails_ok _ 4 (some ⟨w4.heap.size, 0, none⟩) [6] 1 (reads_new w4 [6] (by decide)) (by decide) (by decide) pfD).mono ?_
  rintro e w5 ⟨rfl, hC5⟩
  have HC5 := Lib.hid (HC4.out.trans (((Chg.refl (fun _ => False) w4).alloc _).trans hC5))
  clear hC5 HC4
  go_wp2_with fail
  refine (fails_ok _ 3 (some ⟨w5.heap.size, 0, none⟩) [3, 0] 2 (reads_new w5 [3, 0] (by decide)) (by decide) (by decide) pfE).mono ?_
  rintro e w6 ⟨rfl, hC6⟩
  have HC6 := Lib.hid (HC5.out.trans (((Chg.refl (fun _ => False) w5).alloc _).trans hC6))
  clear hC6 HC5
  have hdf := diff_some w6 tx1 tx2 (HW.out.chg HC6.out)
  rw [dfF] at hdf
  have HDF := Lib.hid hdf
  clear hdf
  go_wp2_with fail
  refine HDF.out.mono ?_
  rintro e w7 ⟨A7, c7, rfl, hc7, hL7, hN7, hC7⟩
  unfold pk
  have hb7 := hC7.size
  have hb6 := HC6.out.size
  have hal7 := (Chg.refl (fun _ => False) w7).alloc (.cells #[.int .i64 2, .int .i64 (diffV 1 1 1), .int .i64 (diffV 1 1 2), .int .i64 (diffV 1 1 3), .int .i64 (diffV 1 1 4), .int .i64 (diffV 1 1 5), .int .i64 (diffV 1 1 6), .string ByteArray.empty, .slice A7 1 c7] 26)
  have hP7 : PktAt (w7.alloc (.cells #[.int .i64 2, .int .i64 (diffV 1 1 1), .int .i64 (diffV 1 1 2), .int .i64 (diffV 1 1 3), .int .i64 (diffV 1 1 4), .int .i64 (diffV 1 1 5), .int .i64 (diffV 1 1 6), .string ByteArray.empty, .slice A7 1 c7] 26)) w7.heap.size 2 (diffV 1 1) ByteArray.empty (.slice A7 1 c7) := heap_new _ _
  have hsz7 : (w7.alloc (.cells #[.int .i64 2, .int .i64 (diffV 1 1 1), .int .i64 (diffV 1 1 2), .int .i64 (diffV 1 1 3), .int .i64 (diffV 1 1 4), .int .i64 (diffV 1 1 5), .int .i64 (diffV 1 1 6), .string ByteArray.empty, .slice A7 1 c7] 26)).heap.size = w7.heap.size + 1 := by simp
  have hdf := diff_some (w7.alloc (.cells #[.int .i64 2, .int .i64 (diffV 1 1 1), .int .i64 (diffV 1 1 2), .int .i64 (diffV 1 1 3), .int .i64 (diffV 1 1 4), .int .i64 (diffV 1 1 5), .int .i64 (diffV 1 1 6), .string ByteArray.empty, .slice A7 1 c7] 26)) tx3 tx4 (HW.out.chg ((HC6.out.trans hC7).trans hal7))
  rw [dfG] at hdf
  have HDG := Lib.hid hdf
  have HP7 := Lib.hid hP7
  have HL7 := Lib.hid (hL7.chg hal7)
  have HN7 := Lib.hid (hN7.chg hal7)
  have HC7 := Lib.hid ((HC6.out.trans hC7).trans hal7)
  clear hdf hP7 hL7 hN7 hC7 hal7 HDF HC6
  go_wp2_with fail
  refine HDG.out.mono ?_
  rintro e w8 ⟨A8, c8, rfl, hc8, hL8, hN8, hC8⟩
  unfold pk
  have hb8 := hC8.size
  have hal8 := (Chg.refl (fun _ => False) w8).alloc (.cells #[.int .i64 2, .int .i64 (diffV 1 0 1), .int .i64 (diffV 1 0 2), .int .i64 (diffV 1 0 3), .int .i64 (diffV 1 0 4), .int .i64 (diffV 1 0 5), .int .i64 (diffV 1 0 6), .string ByteArray.empty, .slice A8 0 c8] 26)
  have HP8 := Lib.hid ((HP7.out.keep hC8 (fun h => h)).keep hal8 (fun h => h))
  have HL8 := Lib.hid ((HL7.out.chg hC8).chg hal8)
  have HN8 := Lib.hid ((HN7.out.chg hC8).chg hal8)
  have HC8 := Lib.hid ((HC7.out.trans hC8).trans hal8)
  have hQ8 : PktAt (w8.alloc (.cells #[.int .i64 2, .int .i64 (diffV 1 0 1), .int .i64 (diffV 1 0 2), .int .i64 (diffV 1 0 3), .int .i64 (diffV 1 0 4), .int .i64 (diffV 1 0 5), .int .i64 (diffV 1 0 6), .string ByteArray.empty, .slice A8 0 c8] 26)) w8.heap.size 2 (diffV 1 0) ByteArray.empty (.slice A8 0 c8) := heap_new _ _
  have HQ8 := Lib.hid hQ8
  have hsz8 : (w8.alloc (.cells #[.int .i64 2, .int .i64 (diffV 1 0 1), .int .i64 (diffV 1 0 2), .int .i64 (diffV 1 0 3), .int .i64 (diffV 1 0 4), .int .i64 (diffV 1 0 5), .int .i64 (diffV 1 0 6), .string ByteArray.empty, .slice A8 0 c8] 26)).heap.size = w8.heap.size + 1 := by simp
  clear hL8 hN8 hC8 hal8 HP7 HL7 HN7 HC7 HDG hQ8
  go_upto_region 7 with fail
  generalize w8.alloc (.cells #[.int .i64 2, .int .i64 (diffV 1 0 1), .int .i64 (diffV 1 0 2), .int .i64 (diffV 1 0 3), .int .i64 (diffV 1 0 4), .int .i64 (diffV 1 0 5), .int .i64 (diffV 1 0 6), .string ByteArray.empty, .slice A8 0 c8] 26) = w9 at *
  have hCy := (Chg.refl (fun _ => False) w9).alloc (.cells #[.string txY] 9)
  obtain ⟨A9, c9, w10, hrun, hc9, hL10, hN10, hC10, hk10⟩ := append_new (w9.alloc (.cells #[.string txY] 9)) w6.heap.size c7 w9.heap.size A7 [txX] txY (HN8.out.chg hCy) (HL8.out.chg hCy) (by simp) hc7 (cell_of_heap (heap_new w9 _) 0) (by simp; omega) (by simp)
  have hP10 : PktAt w10 w7.heap.size 2 (diffV 1 1) ByteArray.empty (.slice A7 1 c7) := hk10 _ _ _ _ (by decide) (HP8.out.keep hCy (fun h => h))
  have hQ10 : PktAt w10 w8.heap.size 2 (diffV 1 0) ByteArray.empty (.slice A8 0 c8) := hk10 _ _ _ _ (by decide) (HQ8.out.keep hCy (fun h => h))
  have HP10 := Lib.hid hP10
  have HQ10 := Lib.hid hQ10
  have HL10 := Lib.hid hL10
  have HN10 := Lib.hid hN10
  have HC10 := Lib.hid ((HC8.out.trans hCy).trans' hC10 (fun i h1 h2 => by have := HC8.out.size; omega))
  have g8 : w9.cell? ⟨w7.heap.size, 8, none⟩ = some (.slice A7 1 c7) := cell_of_heap HP8.out 8
  have r8 : w10.cell? ⟨w7.heap.size, 8, none⟩ = some (.slice A7 1 c7) := cell_of_heap HP10.out 8
  have f8 := HP10.out.free 8
  clear hC10 hk10 hL10 hN10 hP10 hQ10 hCy HP8 HL8 HN8 HC8 HQ8
  have hrun2 : (Builtin.append_ #[24, 24] 24 #[.slice A7 1 c7, .slice (some ⟨w9.heap.size, 0, none⟩) 1 1]).run Tryd.prog (w9.alloc (.cells #[.string ⟨#[121]⟩] 9)) = .ok (.slice A9 2 c9) w10 := hrun
  have hz9 : w8.heap.size < w9.heap.size := by omega
  have hz8 : w7.heap.size < w8.heap.size := by omega
  clear hrun hsz7 hsz8 hb8
  go_upto_region 8 with (at_builtin; refine Lib.wpList_append_run _ rfl _ _ _ _ rfl _ _ rfl rfl _ _ hrun2 ?_)
  have hst := (Chg.refl (fun k => k = w7.heap.size) w10).setCell (p := ⟨w7.heap.size, 8, none⟩) (.inl rfl) (.slice A9 2 c9)
  have HP11 := Lib.hid (HP10.out.setL (.slice A9 2 c9))
  have HQ11 := Lib.hid (HQ10.out.keep hst (by omega))
  have HL11 := Lib.hid (lns_set HN10.out HL10.out HP10.out (by decide) 8 (.slice A9 2 c9))
  have HN11 := Lib.hid (newAt_set HN10.out HP10.out (by decide) 8 (.slice A9 2 c9))
  have HC11 := Lib.hid (HC10.out.trans' hst (fun i h1 h2 => by omega))
  clear hst r8 f8 g8 hrun2 HP10 HQ10 HL10 HN10 HC10
  generalize w10.setCell ⟨w7.heap.size, 8, none⟩ (.slice A9 2 c9) = w11 at *
  have hap := apply_some w11 tx1 2 2 1 0 0 1 1 ByteArray.empty A9 [txX, txY] c9 (HW.out.chg HC11.out) HL11.out hc9 (by simp) (by decide)
  rw [apS, apE] at hap
  have HAP := Lib.hid hap
  clear hap
  go_wp2_with ((with_reducible refine gate_dst (N := 46) rfl ?_); refine wpList_load_row rfl 26 (.tmp 1) rfl w7.heap.size rfl 26 _ (0, 0) _ HP11.out Tryd.underlying26 rfl infoP ?_)
  refine HAP.out.mono ?_
  rintro e w12 ⟨rfl, hC12⟩
  have hp12 := HP11.out.keep hC12 (fun h => h)
  have hq12 := HQ11.out.keep hC12 (fun h => h)
  have d5 : w12.cell? ⟨w8.heap.size, 5, none⟩ = some (.int .i64 1) := cell_of_heap hq12 5
  have e5 := hq12.free 5
  have hst := (Chg.refl (fun k => k = w8.heap.size) w12).setCell (p := ⟨w8.heap.size, 5, none⟩) (.inl rfl) (.int .i64 3)
  have HP13 := Lib.hid (hp12.keep hst (by omega))
  have HQ13 := Lib.hid (hq12.setN 5 3 (by omega) (by omega))
  have hC12' := HC11.out.trans hC12
  have HC13 := Lib.hid (hC12'.trans' hst (fun i h1 h2 => by omega))
  have HL13 := Lib.hid (lns_set (HN11.out.chg hC12) (HL11.out.chg hC12) hq12 (by decide) 5 (.int .i64 3))
  clear hC12 hC12' hst hp12 hq12 HAP HP11 HQ11 HC11 HN11 HL11
  go_upto_region 10 with fail
  clear d5 e5
  generalize w12.setCell ⟨w8.heap.size, 5, none⟩ (.int .i64 3) = w13 at *
  have hap := apply_some w13 tx3 2 2 1 0 0 3 0 ByteArray.empty A8 [] c8 (HW.out.chg HC13.out) (fun i hi => by simp at hi) hc8 (by simp) (by simp [sizes])
  rw [apE2] at hap
  have HAP := Lib.hid hap
  clear hap
  generalize applyS tx3 2 2 1 0 0 3 0 ByteArray.empty [] = sx at *
  go_wp2_with ((with_reducible refine gate_dst (N := 52) rfl ?_); refine wpList_load_row rfl 26 (.tmp 3) rfl w8.heap.size rfl 26 _ (0, 0) _ HQ13.out Tryd.underlying26 rfl infoP ?_)
  refine HAP.out.mono ?_
  rintro e w14 ⟨rfl, hC14⟩
  have hp14 := HP13.out.keep hC14 (fun h => h)
  have hq14 := HQ13.out.keep hC14 (fun h => h)
  have p5 : w14.cell? ⟨w7.heap.size, 5, none⟩ = some (.int .i64 1) := cell_of_heap hp14 5
  have p6 : w14.cell? ⟨w7.heap.size, 6, none⟩ = some (.int .i64 1) := cell_of_heap hp14 6
  have p8 : w14.cell? ⟨w7.heap.size, 8, none⟩ = some (.slice A9 2 c9) := cell_of_heap hp14 8
  have q6 : w14.cell? ⟨w8.heap.size, 6, none⟩ = some (.int .i64 0) := cell_of_heap hq14 6
  have q8 : w14.cell? ⟨w8.heap.size, 8, none⟩ = some (.slice A8 0 c8) := cell_of_heap hq14 8
  obtain ⟨g, po, rfl, cx⟩ := (HL13.out.chg hC14) 0 (by simp)
  have HC14 := Lib.hid (HC13.out.trans hC14)
  have cx2 : w14.cell? ⟨g, po, none⟩ = some (.string ⟨#[120]⟩) := cx
  clear hC14 hp14 hq14 cx HAP HP13 HQ13 HC13 HL13
  have t1 : ((⟨#[120]⟩ : ByteArray).toList == (⟨#[120]⟩ : ByteArray).toList) = true := beq_self_eq_true _
  have t2 : ((⟨#[97, 10, 120, 10, 121, 10, 99, 10]⟩ : ByteArray).toList == (⟨#[97, 10, 120, 10, 121, 10, 99, 10]⟩ : ByteArray).toList) = true := beq_self_eq_true _
  go_wp2_with fail
  go_ret
  exact ⟨rfl, HC14.out⟩
end Go.Proofs.YteiedafdakffeaaDoor
