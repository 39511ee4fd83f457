/- push: the document's Check answers as push's. -/
import Derived.Test.YteiedafdakffeaaDoorPuT
namespace Go.Proofs.YteiedafdakffeaaDoor
set_option linter.unusedVariables false
set_option linter.unusedSimpArgs false
open Go Go.RowKit Go.Proofs
theorem win (w : World) (n a b : Int) (q : Bool) (h : wi n a b = q) : Calls Tryd.prog 40 #[.int .i64 n, .int .i64 a, .int .i64 b] w fun e w' => e = .returned (.bool q) ∧ w' = w := by
  have hh := within_some w n a b
  rw [show (decide (a ≤ n) && decide (n ≤ b)) = q from h] at hh
  exact hh
theorem bareL_lns (k : Int) (A : Option Addr) (l : List ByteArray) (c : Nat) : ∃ A' c', bareL k (.slice A l.length c) = .slice A' (bareLL k l).length c' ∧ (bareLL k l).length ≤ l.length ∧ ∀ W, Lns W A l → Lns W A' (bareLL k l) := by
  unfold bareL bareLL
  by_cases h : k = 2
  · rw [if_pos h, if_pos h]
    exact ⟨A, c, rfl, Nat.le_refl _, fun _ h => h⟩
  · rw [if_neg h, if_neg h]
    exact ⟨none, 0, rfl, Nat.zero_le _, fun W _ i hi => absurd hi (by simp)⟩
theorem first_not1 {k : Int} {V : Nat → Int} {tx : ByteArray} {l : List ByteArray} (h : sameF k V tx l k (bareV k V) (bareT k tx) (bareLL k l) = false) : firstB k V tx l = false := by unfold firstB; rw [h]; rfl
theorem first_not2 {k : Int} {V : Nat → Int} {tx : ByteArray} {l : List ByteArray} (h : wi (V 4) 0 9007199254740991 = false) : firstB k V tx l = false := by unfold firstB; rw [h]; simp
theorem first_not3 {k : Int} {V : Nat → Int} {tx : ByteArray} {l : List ByteArray} (h : ¬ tx.size ≤ 65536) : firstB k V tx l = false := by unfold firstB; simp [h]
theorem first_yes {k : Int} {V : Nat → Int} {tx : ByteArray} {l : List ByteArray} (h : sameF k V tx l k (bareV k V) (bareT k tx) (bareLL k l) = true) (h2 : wi (V 4) 0 9007199254740991 = true) (h3 : tx.size ≤ 65536) : firstB k V tx l = (flat l && (decide (sizes l ≤ 65536) && decide (l.length ≤ 1000))) := by
  unfold firstB
  rw [h, h2, decide_eq_true h3]
  rfl
set_option maxRecDepth 100000 in
set_option maxHeartbeats 8000000 in
theorem rcheck_some (w : World) (k : Int) (V : Nat → Int) (tx : ByteArray) (A : Option Addr) (l : List ByteArray) (c : Nat) (hl : Lns w A l) (hL : l.length ≤ 1000000000000) (hs : sizes l ≤ 4611686018427387904) :
    Calls Tryd.prog 31 #[.agg (pk k V tx (.slice A l.length c))] w fun e w' => e = .returned (.int .i64 (checkP k V tx l)) ∧ Chg (fun _ => False) w w' := by
  have hal := (Chg.refl (fun _ => False) w).alloc (.cells (pk k V tx (.slice A l.length c)) 26)
  have hp : PktAt (w.alloc (.cells (pk k V tx (.slice A l.length c)) 26)) w.heap.size k V tx (.slice A l.length c) := heap_new w _
  have hl1 : Lns (w.alloc (.cells (pk k V tx (.slice A l.length c)) 26)) A l := hl.chg hal
  have HRC := Lib.hid (rcheck_eq k V tx l)
  have HAL := Lib.hid hal
  have HP := Lib.hid hp
  have HLL := Lib.hid hl1
  obtain ⟨A', c', hbl, hbn, hbw⟩ := bareL_lns k A l c
  have HBL := Lib.hid hbl
  have HBW := Lib.hid hbw
  clear hal hp hl hl1 hbl hbw
  unfold pk at HAL HP HLL
  unfold pk
  go_enter Tryd.func31, Tryd.ntmps31
  go_upto_region 1 with fail
  generalize w.alloc (.cells #[.int .i64 k, .int .i64 (V 1), .int .i64 (V 2), .int .i64 (V 3), .int .i64 (V 4), .int .i64 (V 5), .int .i64 (V 6), .string tx, .slice A l.length c] 26) = w1 at *
  generalize w.heap.size = P at *
  go_cut [3] from 4 to 23 (fun s3 W => s3 = .bool (firstB k V tx l) ∧ PktAt W P k V tx (.slice A l.length c) ∧ Chg (fun _ => False) w W)
  case first =>
    have hS : PktAt w1.drew P k V tx (.slice A l.length c) := HP.out
    obtain ⟨b0, hb0⟩ : ∃ b, sameF k V tx l k (bareV k V) (bareT k tx) (bareLL k l) = b := ⟨_, rfl⟩
    have HB0 := Lib.hid hb0
    obtain ⟨b1, hb1⟩ : ∃ b, wi (V 4) 0 9007199254740991 = b := ⟨_, rfl⟩
    have HB1 := Lib.hid hb1
    clear hb0 hb1
    have hb := bare_some w1.drew k V tx A l.length c
    rw [HBL.out] at hb
    unfold pk at hb
    have HBARE := Lib.hid hb
    clear hb
    refine region_lone (fun W' => PktAt W' P k V tx (.slice A l.length c)) [] (by kernel_rfl) ?_
    cases b0
    · refine take_one 0 hS rfl (by kernel_rfl) rfl ?_
      apply Exists.intro
      refine And.intro (fun W' hS' => ?y0) (And.intro (fun _ _ _ h => h) ?_)
      case y0 => have d0 := hS'; obtain ⟨g0, g1, g2, g3, g4, g5, g6, g7, g8⟩ := d0.cells9; go_simp; rfl
      refine take_one 1 hS rfl (by kernel_rfl) rfl ?_
      apply Exists.intro
      refine And.intro (fun W' hS' => ?y1) (And.intro (fun _ _ _ h => h) ?_)
      case y1 => have d0 := hS'; obtain ⟨g0, g1, g2, g3, g4, g5, g6, g7, g8⟩ := d0.cells9; go_simp; rfl
      refine only_one 2 rfl (by kernel_rfl) rfl ?_
      go_simp
      refine HBARE.out.mono ?_
      rintro e w2 ⟨rfl, hC2⟩
      have hS2 : PktAt w2 P k V tx (.slice A l.length c) := hS.keep hC2 (fun h => h)
      have hd1 := (Chg.refl (fun _ => False) w1).drew
      have hT2 := hd1.trans hC2
      refine ⟨hS2, ?_⟩
      refine only_one 3 rfl (by kernel_rfl) rfl ?_
      go_simp
      have hsm := rsame_some w2 k V tx A l c k (bareV k V) (bareT k tx) A' (bareLL k l) c' (HLL.out.chg hT2) (HBW.out _ (HLL.out.chg hT2)) (by omega) (by omega)
      rw [HB0.out] at hsm
      refine hsm.mono ?_
      rintro e w3 ⟨rfl, hC3⟩
      have hS3 : PktAt w3 P k V tx (.slice A l.length c) := hS2.keep hC3 (fun h => h)
      have hT3 := hT2.trans hC3
      refine ⟨hS3, ?_⟩
      refine take_one 4 hS3 rfl (by kernel_rfl) rfl ?_
      apply Exists.intro
      refine And.intro (fun W' hS' => ?y4) (And.intro (fun _ _ _ h => h) ?_)
      case y4 => have d0 := hS'; go_simp; rfl
      go_simp
      refine skip_one 5 hS3 rfl (by kernel_rfl) (by kernel_rfl) (fun _ _ _ h => h) ?_
      refine skip_one 6 hS3 rfl (by kernel_rfl) (by kernel_rfl) (fun _ _ _ h => h) ?_
      refine skip_one 7 hS3 rfl (by kernel_rfl) (by kernel_rfl) (fun _ _ _ h => h) ?_
      refine take_one 8 hS3 rfl (by kernel_rfl) rfl ?_
      apply Exists.intro
      refine And.intro (fun W' hS' => ?y8) (And.intro (fun _ _ _ h => h) ?_)
      case y8 => have d0 := hS'; go_simp; rfl
      refine take_one 9 hS3 rfl (by kernel_rfl) rfl ?_
      apply Exists.intro
      refine And.intro (fun W' hS' => ?y9) (And.intro (fun _ _ _ h => h) ?_)
      case y9 => have d0 := hS'; go_simp; rfl
      go_simp
      refine skip_one 10 hS3 rfl (by kernel_rfl) (by kernel_rfl) (fun _ _ _ h => h) ?_
      refine skip_one 11 hS3 rfl (by kernel_rfl) (by kernel_rfl) (fun _ _ _ h => h) ?_
      refine skip_one 12 hS3 rfl (by kernel_rfl) (by kernel_rfl) (fun _ _ _ h => h) ?_
      refine skip_one 13 hS3 rfl (by kernel_rfl) (by kernel_rfl) (fun _ _ _ h => h) ?_
      refine take_one 14 hS3 rfl (by kernel_rfl) rfl ?_
      apply Exists.intro
      refine And.intro (fun W' hS' => ?y14) (And.intro (fun _ _ _ h => h) ?_)
      case y14 => have d0 := hS'; go_simp; rfl
      refine take_one 15 hS3 rfl (by kernel_rfl) rfl ?_
      apply Exists.intro
      refine And.intro (fun W' hS' => ?y15) (And.intro (fun _ _ _ h => h) ?_)
      case y15 => have d0 := hS'; go_simp; rfl
      go_simp
      refine skip_one 16 hS3 rfl (by kernel_rfl) (by kernel_rfl) (fun _ _ _ h => h) ?_
      refine skip_one 17 hS3 rfl (by kernel_rfl) (by kernel_rfl) (fun _ _ _ h => h) ?_
      refine skip_one 18 hS3 rfl (by kernel_rfl) (by kernel_rfl) (fun _ _ _ h => h) ?_
      refine take_one 19 hS3 rfl (by kernel_rfl) rfl ?_
      apply Exists.intro
      refine And.intro (fun W' hS' => ?y19) (And.intro (fun _ _ _ h => h) ?_)
      case y19 => have d0 := hS'; go_simp; rfl
      refine take_one 20 hS3 rfl (by kernel_rfl) rfl ?_
      apply Exists.intro
      refine And.intro (fun W' hS' => ?y20) (And.intro (fun _ _ _ h => h) ?_)
      case y20 => have d0 := hS'; go_simp; rfl
      refine all_done (by kernel_rfl) ?_ _
      clear hS hS2 hsm
      go_wp2_with fail
      go_meet
      exact ⟨congrArg Value.bool (first_not1 HB0.out).symm, hS3, HAL.out.trans hT3⟩
    cases b1
    · refine take_one 0 hS rfl (by kernel_rfl) rfl ?_
      apply Exists.intro
      refine And.intro (fun W' hS' => ?y0) (And.intro (fun _ _ _ h => h) ?_)
      case y0 => have d0 := hS'; obtain ⟨g0, g1, g2, g3, g4, g5, g6, g7, g8⟩ := d0.cells9; go_simp; rfl
      refine take_one 1 hS rfl (by kernel_rfl) rfl ?_
      apply Exists.intro
      refine And.intro (fun W' hS' => ?y1) (And.intro (fun _ _ _ h => h) ?_)
      case y1 => have d0 := hS'; obtain ⟨g0, g1, g2, g3, g4, g5, g6, g7, g8⟩ := d0.cells9; go_simp; rfl
      refine only_one 2 rfl (by kernel_rfl) rfl ?_
      go_simp
      refine HBARE.out.mono ?_
      rintro e w2 ⟨rfl, hC2⟩
      have hS2 : PktAt w2 P k V tx (.slice A l.length c) := hS.keep hC2 (fun h => h)
      have hd1 := (Chg.refl (fun _ => False) w1).drew
      have hT2 := hd1.trans hC2
      refine ⟨hS2, ?_⟩
      refine only_one 3 rfl (by kernel_rfl) rfl ?_
      go_simp
      have hsm := rsame_some w2 k V tx A l c k (bareV k V) (bareT k tx) A' (bareLL k l) c' (HLL.out.chg hT2) (HBW.out _ (HLL.out.chg hT2)) (by omega) (by omega)
      rw [HB0.out] at hsm
      refine hsm.mono ?_
      rintro e w3 ⟨rfl, hC3⟩
      have hS3 : PktAt w3 P k V tx (.slice A l.length c) := hS2.keep hC3 (fun h => h)
      have hT3 := hT2.trans hC3
      refine ⟨hS3, ?_⟩
      refine take_one 4 hS3 rfl (by kernel_rfl) rfl ?_
      apply Exists.intro
      refine And.intro (fun W' hS' => ?y4) (And.intro (fun _ _ _ h => h) ?_)
      case y4 => have d0 := hS'; go_simp; rfl
      go_simp
      refine take_one 5 hS3 rfl (by kernel_rfl) (by kernel_rfl) ?_
      apply Exists.intro
      refine And.intro (fun W' hS' => ?y5) (And.intro (fun _ _ _ h => h) ?_)
      case y5 => have d0 := hS'; go_simp; rfl
      refine take_one 6 hS3 rfl (by kernel_rfl) (by kernel_rfl) ?_
      apply Exists.intro
      refine And.intro (fun W' hS' => ?y6) (And.intro (fun _ _ _ h => h) ?_)
      case y6 => have d0 := hS'; obtain ⟨g0, g1, g2, g3, g4, g5, g6, g7, g8⟩ := d0.cells9; go_simp; rfl
      refine only_one 7 rfl (by kernel_rfl) (by kernel_rfl) ?_
      go_simp
      refine (win _ (V 4) 0 9007199254740991 _ HB1.out).mono ?_
      rintro e w4 ⟨rfl, rfl⟩
      refine ⟨hS3, ?_⟩
      refine take_one 8 hS3 rfl (by kernel_rfl) rfl ?_
      apply Exists.intro
      refine And.intro (fun W' hS' => ?y8) (And.intro (fun _ _ _ h => h) ?_)
      case y8 => have d0 := hS'; go_simp; rfl
      refine take_one 9 hS3 rfl (by kernel_rfl) rfl ?_
      apply Exists.intro
      refine And.intro (fun W' hS' => ?y9) (And.intro (fun _ _ _ h => h) ?_)
      case y9 => have d0 := hS'; go_simp; rfl
      go_simp
      refine skip_one 10 hS3 rfl (by kernel_rfl) (by kernel_rfl) (fun _ _ _ h => h) ?_
      refine skip_one 11 hS3 rfl (by kernel_rfl) (by kernel_rfl) (fun _ _ _ h => h) ?_
      refine skip_one 12 hS3 rfl (by kernel_rfl) (by kernel_rfl) (fun _ _ _ h => h) ?_
      refine skip_one 13 hS3 rfl (by kernel_rfl) (by kernel_rfl) (fun _ _ _ h => h) ?_
      refine take_one 14 hS3 rfl (by kernel_rfl) rfl ?_
      apply Exists.intro
      refine And.intro (fun W' hS' => ?y14) (And.intro (fun _ _ _ h => h) ?_)
      case y14 => have d0 := hS'; go_simp; rfl
      refine take_one 15 hS3 rfl (by kernel_rfl) rfl ?_
      apply Exists.intro
      refine And.intro (fun W' hS' => ?y15) (And.intro (fun _ _ _ h => h) ?_)
      case y15 => have d0 := hS'; go_simp; rfl
      go_simp
      refine skip_one 16 hS3 rfl (by kernel_rfl) (by kernel_rfl) (fun _ _ _ h => h) ?_
      refine skip_one 17 hS3 rfl (by kernel_rfl) (by kernel_rfl) (fun _ _ _ h => h) ?_
      refine skip_one 18 hS3 rfl (by kernel_rfl) (by kernel_rfl) (fun _ _ _ h => h) ?_
      refine take_one 19 hS3 rfl (by kernel_rfl) rfl ?_
      apply Exists.intro
      refine And.intro (fun W' hS' => ?y19) (And.intro (fun _ _ _ h => h) ?_)
      case y19 => have d0 := hS'; go_simp; rfl
      refine take_one 20 hS3 rfl (by kernel_rfl) rfl ?_
      apply Exists.intro
      refine And.intro (fun W' hS' => ?y20) (And.intro (fun _ _ _ h => h) ?_)
      case y20 => have d0 := hS'; go_simp; rfl
      refine all_done (by kernel_rfl) ?_ _
      clear hS hS2 hsm
      go_wp2_with fail
      go_meet
      exact ⟨congrArg Value.bool (first_not2 HB1.out).symm, hS3, HAL.out.trans hT3⟩
    by_cases h2 : tx.size ≤ 65536
    · have hd2 : decide ((tx.size : Int) ≤ 65536) = true := decide_eq_true (by omega)
      have hd2n : decide (tx.size ≤ 65536) = true := decide_eq_true h2
      refine take_one 0 hS rfl (by kernel_rfl) rfl ?_
      apply Exists.intro
      refine And.intro (fun W' hS' => ?y0) (And.intro (fun _ _ _ h => h) ?_)
      case y0 => have d0 := hS'; obtain ⟨g0, g1, g2, g3, g4, g5, g6, g7, g8⟩ := d0.cells9; go_simp; rfl
      refine take_one 1 hS rfl (by kernel_rfl) rfl ?_
      apply Exists.intro
      refine And.intro (fun W' hS' => ?y1) (And.intro (fun _ _ _ h => h) ?_)
      case y1 => have d0 := hS'; obtain ⟨g0, g1, g2, g3, g4, g5, g6, g7, g8⟩ := d0.cells9; go_simp; rfl
      refine only_one 2 rfl (by kernel_rfl) rfl ?_
      go_simp
      refine HBARE.out.mono ?_
      rintro e w2 ⟨rfl, hC2⟩
      have hS2 : PktAt w2 P k V tx (.slice A l.length c) := hS.keep hC2 (fun h => h)
      have hd1 := (Chg.refl (fun _ => False) w1).drew
      have hT2 := hd1.trans hC2
      refine ⟨hS2, ?_⟩
      refine only_one 3 rfl (by kernel_rfl) rfl ?_
      go_simp
      have hsm := rsame_some w2 k V tx A l c k (bareV k V) (bareT k tx) A' (bareLL k l) c' (HLL.out.chg hT2) (HBW.out _ (HLL.out.chg hT2)) (by omega) (by omega)
      rw [HB0.out] at hsm
      refine hsm.mono ?_
      rintro e w3 ⟨rfl, hC3⟩
      have hS3 : PktAt w3 P k V tx (.slice A l.length c) := hS2.keep hC3 (fun h => h)
      have hT3 := hT2.trans hC3
      refine ⟨hS3, ?_⟩
      refine take_one 4 hS3 rfl (by kernel_rfl) rfl ?_
      apply Exists.intro
      refine And.intro (fun W' hS' => ?y4) (And.intro (fun _ _ _ h => h) ?_)
      case y4 => have d0 := hS'; go_simp; rfl
      go_simp
      refine take_one 5 hS3 rfl (by kernel_rfl) (by kernel_rfl) ?_
      apply Exists.intro
      refine And.intro (fun W' hS' => ?y5) (And.intro (fun _ _ _ h => h) ?_)
      case y5 => have d0 := hS'; go_simp; rfl
      refine take_one 6 hS3 rfl (by kernel_rfl) (by kernel_rfl) ?_
      apply Exists.intro
      refine And.intro (fun W' hS' => ?y6) (And.intro (fun _ _ _ h => h) ?_)
      case y6 => have d0 := hS'; obtain ⟨g0, g1, g2, g3, g4, g5, g6, g7, g8⟩ := d0.cells9; go_simp; rfl
      refine only_one 7 rfl (by kernel_rfl) (by kernel_rfl) ?_
      go_simp
      refine (win _ (V 4) 0 9007199254740991 _ HB1.out).mono ?_
      rintro e w4 ⟨rfl, rfl⟩
      refine ⟨hS3, ?_⟩
      refine take_one 8 hS3 rfl (by kernel_rfl) rfl ?_
      apply Exists.intro
      refine And.intro (fun W' hS' => ?y8) (And.intro (fun _ _ _ h => h) ?_)
      case y8 => have d0 := hS'; go_simp; rfl
      refine take_one 9 hS3 rfl (by kernel_rfl) rfl ?_
      apply Exists.intro
      refine And.intro (fun W' hS' => ?y9) (And.intro (fun _ _ _ h => h) ?_)
      case y9 => have d0 := hS'; go_simp; rfl
      go_simp
      refine take_one 10 hS3 rfl (by kernel_rfl) (by kernel_rfl) ?_
      apply Exists.intro
      refine And.intro (fun W' hS' => ?y10) (And.intro (fun _ _ _ h => h) ?_)
      case y10 => have d0 := hS'; go_simp; rfl
      refine take_one 11 hS3 rfl (by kernel_rfl) (by kernel_rfl) ?_
      apply Exists.intro
      refine And.intro (fun W' hS' => ?y11) (And.intro (fun _ _ _ h => h) ?_)
      case y11 => have d0 := hS'; obtain ⟨g0, g1, g2, g3, g4, g5, g6, g7, g8⟩ := d0.cells9; go_simp; rfl
      refine take_one 12 hS3 rfl (by kernel_rfl) (by kernel_rfl) ?_
      apply Exists.intro
      refine And.intro (fun W' hS' => ?y12) (And.intro (fun _ _ _ h => h) ?_)
      case y12 => have d0 := hS'; go_simp; rfl
      refine take_one 13 hS3 rfl (by kernel_rfl) (by kernel_rfl) ?_
      apply Exists.intro
      refine And.intro (fun W' hS' => ?y13) (And.intro (fun _ _ _ h => h) ?_)
      case y13 => have d0 := hS'; go_simp; rfl
      refine take_one 14 hS3 rfl (by kernel_rfl) rfl ?_
      apply Exists.intro
      refine And.intro (fun W' hS' => ?y14) (And.intro (fun _ _ _ h => h) ?_)
      case y14 => have d0 := hS'; go_simp; rfl
      refine take_one 15 hS3 rfl (by kernel_rfl) rfl ?_
      apply Exists.intro
      refine And.intro (fun W' hS' => ?y15) (And.intro (fun _ _ _ h => h) ?_)
      case y15 => have d0 := hS'; go_simp; rfl
      go_simp
      refine take_one 16 hS3 rfl (by kernel_rfl) (by kernel_rfl) ?_
      apply Exists.intro
      refine And.intro (fun W' hS' => ?y16) (And.intro (fun _ _ _ h => h) ?_)
      case y16 => have d0 := hS'; go_simp; rfl
      refine take_one 17 hS3 rfl (by kernel_rfl) (by kernel_rfl) ?_
      apply Exists.intro
      refine And.intro (fun W' hS' => ?y17) (And.intro (fun _ _ _ h => h) ?_)
      case y17 => have d0 := hS'; obtain ⟨g0, g1, g2, g3, g4, g5, g6, g7, g8⟩ := d0.cells9; go_simp; rfl
      refine only_one 18 rfl (by kernel_rfl) (by kernel_rfl) ?_
      go_simp
      refine (rlines_some _ A l c (HLL.out.chg hT3) (by omega) (by omega)).mono ?_
      rintro e w5 ⟨rfl, rfl⟩
      refine ⟨hS3, ?_⟩
      refine take_one 19 hS3 rfl (by kernel_rfl) rfl ?_
      apply Exists.intro
      refine And.intro (fun W' hS' => ?y19) (And.intro (fun _ _ _ h => h) ?_)
      case y19 => have d0 := hS'; go_simp; rfl
      refine take_one 20 hS3 rfl (by kernel_rfl) rfl ?_
      apply Exists.intro
      refine And.intro (fun W' hS' => ?y20) (And.intro (fun _ _ _ h => h) ?_)
      case y20 => have d0 := hS'; go_simp; rfl
      refine all_done (by kernel_rfl) ?_ _
      clear hS hS2 hsm
      go_wp2_with fail
      go_meet
      exact ⟨congrArg Value.bool (first_yes HB0.out HB1.out h2).symm, hS3, HAL.out.trans hT3⟩
    · have hd2 : decide ((tx.size : Int) ≤ 65536) = false := decide_eq_false (by omega)
      have hd2n : decide (tx.size ≤ 65536) = false := decide_eq_false h2
      refine take_one 0 hS rfl (by kernel_rfl) rfl ?_
      apply Exists.intro
      refine And.intro (fun W' hS' => ?y0) (And.intro (fun _ _ _ h => h) ?_)
      case y0 => have d0 := hS'; obtain ⟨g0, g1, g2, g3, g4, g5, g6, g7, g8⟩ := d0.cells9; go_simp; rfl
      refine take_one 1 hS rfl (by kernel_rfl) rfl ?_
      apply Exists.intro
      refine And.intro (fun W' hS' => ?y1) (And.intro (fun _ _ _ h => h) ?_)
      case y1 => have d0 := hS'; obtain ⟨g0, g1, g2, g3, g4, g5, g6, g7, g8⟩ := d0.cells9; go_simp; rfl
      refine only_one 2 rfl (by kernel_rfl) rfl ?_
      go_simp
      refine HBARE.out.mono ?_
      rintro e w2 ⟨rfl, hC2⟩
      have hS2 : PktAt w2 P k V tx (.slice A l.length c) := hS.keep hC2 (fun h => h)
      have hd1 := (Chg.refl (fun _ => False) w1).drew
      have hT2 := hd1.trans hC2
      refine ⟨hS2, ?_⟩
      refine only_one 3 rfl (by kernel_rfl) rfl ?_
      go_simp
      have hsm := rsame_some w2 k V tx A l c k (bareV k V) (bareT k tx) A' (bareLL k l) c' (HLL.out.chg hT2) (HBW.out _ (HLL.out.chg hT2)) (by omega) (by omega)
      rw [HB0.out] at hsm
      refine hsm.mono ?_
      rintro e w3 ⟨rfl, hC3⟩
      have hS3 : PktAt w3 P k V tx (.slice A l.length c) := hS2.keep hC3 (fun h => h)
      have hT3 := hT2.trans hC3
      refine ⟨hS3, ?_⟩
      refine take_one 4 hS3 rfl (by kernel_rfl) rfl ?_
      apply Exists.intro
      refine And.intro (fun W' hS' => ?y4) (And.intro (fun _ _ _ h => h) ?_)
      case y4 => have d0 := hS'; go_simp; rfl
      go_simp
      refine take_one 5 hS3 rfl (by kernel_rfl) (by kernel_rfl) ?_
      apply Exists.intro
      refine And.intro (fun W' hS' => ?y5) (And.intro (fun _ _ _ h => h) ?_)
      case y5 => have d0 := hS'; go_simp; rfl
      refine take_one 6 hS3 rfl (by kernel_rfl) (by kernel_rfl) ?_
      apply Exists.intro
      refine And.intro (fun W' hS' => ?y6) (And.intro (fun _ _ _ h => h) ?_)
      case y6 => have d0 := hS'; obtain ⟨g0, g1, g2, g3, g4, g5, g6, g7, g8⟩ := d0.cells9; go_simp; rfl
      refine only_one 7 rfl (by kernel_rfl) (by kernel_rfl) ?_
      go_simp
      refine (win _ (V 4) 0 9007199254740991 _ HB1.out).mono ?_
      rintro e w4 ⟨rfl, rfl⟩
      refine ⟨hS3, ?_⟩
      refine take_one 8 hS3 rfl (by kernel_rfl) rfl ?_
      apply Exists.intro
      refine And.intro (fun W' hS' => ?y8) (And.intro (fun _ _ _ h => h) ?_)
      case y8 => have d0 := hS'; go_simp; rfl
      refine take_one 9 hS3 rfl (by kernel_rfl) rfl ?_
      apply Exists.intro
      refine And.intro (fun W' hS' => ?y9) (And.intro (fun _ _ _ h => h) ?_)
      case y9 => have d0 := hS'; go_simp; rfl
      go_simp
      refine take_one 10 hS3 rfl (by kernel_rfl) (by kernel_rfl) ?_
      apply Exists.intro
      refine And.intro (fun W' hS' => ?y10) (And.intro (fun _ _ _ h => h) ?_)
      case y10 => have d0 := hS'; go_simp; rfl
      refine take_one 11 hS3 rfl (by kernel_rfl) (by kernel_rfl) ?_
      apply Exists.intro
      refine And.intro (fun W' hS' => ?y11) (And.intro (fun _ _ _ h => h) ?_)
      case y11 => have d0 := hS'; obtain ⟨g0, g1, g2, g3, g4, g5, g6, g7, g8⟩ := d0.cells9; go_simp; rfl
      refine take_one 12 hS3 rfl (by kernel_rfl) (by kernel_rfl) ?_
      apply Exists.intro
      refine And.intro (fun W' hS' => ?y12) (And.intro (fun _ _ _ h => h) ?_)
      case y12 => have d0 := hS'; go_simp; rfl
      refine take_one 13 hS3 rfl (by kernel_rfl) (by kernel_rfl) ?_
      apply Exists.intro
      refine And.intro (fun W' hS' => ?y13) (And.intro (fun _ _ _ h => h) ?_)
      case y13 => have d0 := hS'; go_simp; rfl
      refine take_one 14 hS3 rfl (by kernel_rfl) rfl ?_
      apply Exists.intro
      refine And.intro (fun W' hS' => ?y14) (And.intro (fun _ _ _ h => h) ?_)
      case y14 => have d0 := hS'; go_simp; rfl
      refine take_one 15 hS3 rfl (by kernel_rfl) rfl ?_
      apply Exists.intro
      refine And.intro (fun W' hS' => ?y15) (And.intro (fun _ _ _ h => h) ?_)
      case y15 => have d0 := hS'; go_simp; rfl
      go_simp
      refine skip_one 16 hS3 rfl (by kernel_rfl) (by kernel_rfl) (fun _ _ _ h => h) ?_
      refine skip_one 17 hS3 rfl (by kernel_rfl) (by kernel_rfl) (fun _ _ _ h => h) ?_
      refine skip_one 18 hS3 rfl (by kernel_rfl) (by kernel_rfl) (fun _ _ _ h => h) ?_
      refine take_one 19 hS3 rfl (by kernel_rfl) rfl ?_
      apply Exists.intro
      refine And.intro (fun W' hS' => ?y19) (And.intro (fun _ _ _ h => h) ?_)
      case y19 => have d0 := hS'; go_simp; rfl
      refine take_one 20 hS3 rfl (by kernel_rfl) rfl ?_
      apply Exists.intro
      refine And.intro (fun W' hS' => ?y20) (And.intro (fun _ _ _ h => h) ?_)
      case y20 => have d0 := hS'; go_simp; rfl
      refine all_done (by kernel_rfl) ?_ _
      clear hS hS2 hsm
      go_wp2_with fail
      go_meet
      exact ⟨congrArg Value.bool (first_not3 h2).symm, hS3, HAL.out.trans hT3⟩
  case rest =>
    obtain ⟨rfl, hP, hC⟩ := hcut
    obtain ⟨q0, q1, q2, q3, q4, q5, q6, q7, q8⟩ := hP.cells9
    have HC := Lib.hid hC
    clear hP hC HP HLL HBL HBW HAL
    obtain ⟨f, hf⟩ : ∃ f, firstB k V tx l = f := ⟨_, rfl⟩
    have HF := Lib.hid hf
    rw [hf]
    clear hf
    unfold rcheckB at HRC
    by_cases k1 : k = 1
    · subst k1
      cases f
      · have HR := Lib.hid (show checkP 1 V tx l = 2 by rw [HRC.out, HF.out]; unfold kindB; simp)
        clear HRC
        go_wp2_with fail
        go_ret
        exact ⟨congrArg (fun x => Ending.returned (.int .i64 x)) HR.out.symm, HC.out⟩
      obtain ⟨t0, ht0⟩ : ∃ t, wi (V 1) 1 9007199254740991 = t := ⟨_, rfl⟩
      have HT0 := Lib.hid ht0
      clear ht0
      cases t0
      · have HR := Lib.hid (show checkP 1 V tx l = 2 by rw [HRC.out, HF.out]; unfold kindB; simp [HT0.out])
        clear HRC
        go_wp2_with fail
        refine (win _ (V 1) 1 9007199254740991 _ HT0.out).mono ?_
        rintro e w9 ⟨rfl, rfl⟩
        go_wp2_with fail
        go_ret
        exact ⟨congrArg (fun x => Ending.returned (.int .i64 x)) HR.out.symm, HC.out⟩
      have HR := Lib.hid (show checkP 1 V tx l = 0 by rw [HRC.out, HF.out]; unfold kindB; simp [HT0.out])
      clear HRC
      go_wp2_with fail
      refine (win _ (V 1) 1 9007199254740991 _ HT0.out).mono ?_
      rintro e w9 ⟨rfl, rfl⟩
      go_wp2_with fail
      go_ret
      exact ⟨congrArg (fun x => Ending.returned (.int .i64 x)) HR.out.symm, HC.out⟩
    by_cases k2 : k = 2
    · subst k2
      cases f
      · have HR := Lib.hid (show checkP 2 V tx l = 2 by rw [HRC.out, HF.out]; unfold kindB; simp)
        clear HRC
        go_wp2_with fail
        go_ret
        exact ⟨congrArg (fun x => Ending.returned (.int .i64 x)) HR.out.symm, HC.out⟩
      obtain ⟨t0, ht0⟩ : ∃ t, wi (V 1) 2 9007199254740991 = t := ⟨_, rfl⟩
      have HT0 := Lib.hid ht0
      clear ht0
      cases t0
      · have HR := Lib.hid (show checkP 2 V tx l = 2 by rw [HRC.out, HF.out]; unfold kindB; simp [HT0.out])
        clear HRC
        go_wp2_with fail
        refine (win _ (V 1) 2 9007199254740991 _ HT0.out).mono ?_
        rintro e w9 ⟨rfl, rfl⟩
        go_wp2_with fail
        go_ret
        exact ⟨congrArg (fun x => Ending.returned (.int .i64 x)) HR.out.symm, HC.out⟩
      have hv1 : 2 ≤ V 1 ∧ V 1 ≤ 9007199254740991 := wi_true HT0.out
      obtain ⟨hv1, hv2⟩ := hv1
      obtain ⟨t1, ht1⟩ : ∃ t, wi (V 2) 1 (V 1 - 1) = t := ⟨_, rfl⟩
      have HT1 := Lib.hid ht1
      clear ht1
      cases t1
      · have HR := Lib.hid (show checkP 2 V tx l = 2 by rw [HRC.out, HF.out]; unfold kindB; simp [HT0.out, HT1.out])
        clear HRC
        go_wp2_with fail
        refine (win _ (V 1) 2 9007199254740991 _ HT0.out).mono ?_
        rintro e w9 ⟨rfl, rfl⟩
        go_wp2_with fail
        refine (win _ (V 2) 1 (V 1 - 1) _ HT1.out).mono ?_
        rintro e w9 ⟨rfl, rfl⟩
        go_wp2_with fail
        go_ret
        exact ⟨congrArg (fun x => Ending.returned (.int .i64 x)) HR.out.symm, HC.out⟩
      obtain ⟨t2, ht2⟩ : ∃ t, wi (V 5) 0 65536 = t := ⟨_, rfl⟩
      have HT2 := Lib.hid ht2
      clear ht2
      cases t2
      · have HR := Lib.hid (show checkP 2 V tx l = 2 by rw [HRC.out, HF.out]; unfold kindB; simp [HT0.out, HT1.out, HT2.out])
        clear HRC
        go_wp2_with fail
        refine (win _ (V 1) 2 9007199254740991 _ HT0.out).mono ?_
        rintro e w9 ⟨rfl, rfl⟩
        go_wp2_with fail
        refine (win _ (V 2) 1 (V 1 - 1) _ HT1.out).mono ?_
        rintro e w9 ⟨rfl, rfl⟩
        go_wp2_with fail
        refine (win _ (V 5) 0 65536 _ HT2.out).mono ?_
        rintro e w9 ⟨rfl, rfl⟩
        go_wp2_with fail
        go_ret
        exact ⟨congrArg (fun x => Ending.returned (.int .i64 x)) HR.out.symm, HC.out⟩
      obtain ⟨t3, ht3⟩ : ∃ t, wi (V 6) 0 65536 = t := ⟨_, rfl⟩
      have HT3 := Lib.hid ht3
      clear ht3
      cases t3
      · have HR := Lib.hid (show checkP 2 V tx l = 2 by rw [HRC.out, HF.out]; unfold kindB; simp [HT0.out, HT1.out, HT2.out, HT3.out])
        clear HRC
        go_wp2_with fail
        refine (win _ (V 1) 2 9007199254740991 _ HT0.out).mono ?_
        rintro e w9 ⟨rfl, rfl⟩
        go_wp2_with fail
        refine (win _ (V 2) 1 (V 1 - 1) _ HT1.out).mono ?_
        rintro e w9 ⟨rfl, rfl⟩
        go_wp2_with fail
        refine (win _ (V 5) 0 65536 _ HT2.out).mono ?_
        rintro e w9 ⟨rfl, rfl⟩
        go_wp2_with fail
        refine (win _ (V 6) 0 65536 _ HT3.out).mono ?_
        rintro e w9 ⟨rfl, rfl⟩
        go_wp2_with fail
        go_ret
        exact ⟨congrArg (fun x => Ending.returned (.int .i64 x)) HR.out.symm, HC.out⟩
      have HR := Lib.hid (show checkP 2 V tx l = 0 by rw [HRC.out, HF.out]; unfold kindB; simp [HT0.out, HT1.out, HT2.out, HT3.out])
      clear HRC
      go_wp2_with fail
      refine (win _ (V 1) 2 9007199254740991 _ HT0.out).mono ?_
      rintro e w9 ⟨rfl, rfl⟩
      go_wp2_with fail
      refine (win _ (V 2) 1 (V 1 - 1) _ HT1.out).mono ?_
      rintro e w9 ⟨rfl, rfl⟩
      go_wp2_with fail
      refine (win _ (V 5) 0 65536 _ HT2.out).mono ?_
      rintro e w9 ⟨rfl, rfl⟩
      go_wp2_with fail
      refine (win _ (V 6) 0 65536 _ HT3.out).mono ?_
      rintro e w9 ⟨rfl, rfl⟩
      go_wp2_with fail
      go_ret
      exact ⟨congrArg (fun x => Ending.returned (.int .i64 x)) HR.out.symm, HC.out⟩
    by_cases k3 : k = 3
    · subst k3
      cases f
      · have HR := Lib.hid (show checkP 3 V tx l = 2 by rw [HRC.out, HF.out]; unfold kindB; simp)
        clear HRC
        go_wp2_with fail
        go_ret
        exact ⟨congrArg (fun x => Ending.returned (.int .i64 x)) HR.out.symm, HC.out⟩
      obtain ⟨t0, ht0⟩ : ∃ t, wi (V 1) 1 9007199254740991 = t := ⟨_, rfl⟩
      have HT0 := Lib.hid ht0
      clear ht0
      cases t0
      · have HR := Lib.hid (show checkP 3 V tx l = 2 by rw [HRC.out, HF.out]; unfold kindB; simp [HT0.out])
        clear HRC
        go_wp2_with fail
        refine (win _ (V 1) 1 9007199254740991 _ HT0.out).mono ?_
        rintro e w9 ⟨rfl, rfl⟩
        go_wp2_with fail
        go_ret
        exact ⟨congrArg (fun x => Ending.returned (.int .i64 x)) HR.out.symm, HC.out⟩
      have HR := Lib.hid (show checkP 3 V tx l = 0 by rw [HRC.out, HF.out]; unfold kindB; simp [HT0.out])
      clear HRC
      go_wp2_with fail
      refine (win _ (V 1) 1 9007199254740991 _ HT0.out).mono ?_
      rintro e w9 ⟨rfl, rfl⟩
      go_wp2_with fail
      go_ret
      exact ⟨congrArg (fun x => Ending.returned (.int .i64 x)) HR.out.symm, HC.out⟩
    by_cases k4 : k = 4
    · subst k4
      cases f
      · have HR := Lib.hid (show checkP 4 V tx l = 2 by rw [HRC.out, HF.out]; unfold kindB; simp)
        clear HRC
        go_wp2_with fail
        go_ret
        exact ⟨congrArg (fun x => Ending.returned (.int .i64 x)) HR.out.symm, HC.out⟩
      obtain ⟨t0, ht0⟩ : ∃ t, wi (V 1) 0 9007199254740991 = t := ⟨_, rfl⟩
      have HT0 := Lib.hid ht0
      clear ht0
      cases t0
      · have HR := Lib.hid (show checkP 4 V tx l = 2 by rw [HRC.out, HF.out]; unfold kindB; simp [HT0.out])
        clear HRC
        go_wp2_with fail
        refine (win _ (V 1) 0 9007199254740991 _ HT0.out).mono ?_
        rintro e w9 ⟨rfl, rfl⟩
        go_wp2_with fail
        go_ret
        exact ⟨congrArg (fun x => Ending.returned (.int .i64 x)) HR.out.symm, HC.out⟩
      obtain ⟨t1, ht1⟩ : ∃ t, wi (V 3) 0 6 = t := ⟨_, rfl⟩
      have HT1 := Lib.hid ht1
      clear ht1
      cases t1
      · have HR := Lib.hid (show checkP 4 V tx l = 2 by rw [HRC.out, HF.out]; unfold kindB; simp [HT0.out, HT1.out])
        clear HRC
        go_wp2_with fail
        refine (win _ (V 1) 0 9007199254740991 _ HT0.out).mono ?_
        rintro e w9 ⟨rfl, rfl⟩
        go_wp2_with fail
        refine (win _ (V 3) 0 6 _ HT1.out).mono ?_
        rintro e w9 ⟨rfl, rfl⟩
        go_wp2_with fail
        go_ret
        exact ⟨congrArg (fun x => Ending.returned (.int .i64 x)) HR.out.symm, HC.out⟩
      have HR := Lib.hid (show checkP 4 V tx l = 0 by rw [HRC.out, HF.out]; unfold kindB; simp [HT0.out, HT1.out])
      clear HRC
      go_wp2_with fail
      refine (win _ (V 1) 0 9007199254740991 _ HT0.out).mono ?_
      rintro e w9 ⟨rfl, rfl⟩
      go_wp2_with fail
      refine (win _ (V 3) 0 6 _ HT1.out).mono ?_
      rintro e w9 ⟨rfl, rfl⟩
      go_wp2_with fail
      go_ret
      exact ⟨congrArg (fun x => Ending.returned (.int .i64 x)) HR.out.symm, HC.out⟩
    by_cases k5 : k = 5
    · subst k5
      cases f
      · have HR := Lib.hid (show checkP 5 V tx l = 2 by rw [HRC.out, HF.out]; unfold kindB; simp)
        clear HRC
        go_wp2_with fail
        go_ret
        exact ⟨congrArg (fun x => Ending.returned (.int .i64 x)) HR.out.symm, HC.out⟩
      obtain ⟨t0, ht0⟩ : ∃ t, wi (V 1) 0 9007199254740991 = t := ⟨_, rfl⟩
      have HT0 := Lib.hid ht0
      clear ht0
      cases t0
      · have HR := Lib.hid (show checkP 5 V tx l = 2 by rw [HRC.out, HF.out]; unfold kindB; simp [HT0.out])
        clear HRC
        go_wp2_with fail
        refine (win _ (V 1) 0 9007199254740991 _ HT0.out).mono ?_
        rintro e w9 ⟨rfl, rfl⟩
        go_wp2_with fail
        go_ret
        exact ⟨congrArg (fun x => Ending.returned (.int .i64 x)) HR.out.symm, HC.out⟩
      obtain ⟨t1, ht1⟩ : ∃ t, wi (V 3) 0 6 = t := ⟨_, rfl⟩
      have HT1 := Lib.hid ht1
      clear ht1
      cases t1
      · have HR := Lib.hid (show checkP 5 V tx l = 2 by rw [HRC.out, HF.out]; unfold kindB; simp [HT0.out, HT1.out])
        clear HRC
        go_wp2_with fail
        refine (win _ (V 1) 0 9007199254740991 _ HT0.out).mono ?_
        rintro e w9 ⟨rfl, rfl⟩
        go_wp2_with fail
        refine (win _ (V 3) 0 6 _ HT1.out).mono ?_
        rintro e w9 ⟨rfl, rfl⟩
        go_wp2_with fail
        go_ret
        exact ⟨congrArg (fun x => Ending.returned (.int .i64 x)) HR.out.symm, HC.out⟩
      have HR := Lib.hid (show checkP 5 V tx l = 0 by rw [HRC.out, HF.out]; unfold kindB; simp [HT0.out, HT1.out])
      clear HRC
      go_wp2_with fail
      refine (win _ (V 1) 0 9007199254740991 _ HT0.out).mono ?_
      rintro e w9 ⟨rfl, rfl⟩
      go_wp2_with fail
      refine (win _ (V 3) 0 6 _ HT1.out).mono ?_
      rintro e w9 ⟨rfl, rfl⟩
      go_wp2_with fail
      go_ret
      exact ⟨congrArg (fun x => Ending.returned (.int .i64 x)) HR.out.symm, HC.out⟩
    have g1 : (k == 1) = false := beq_eq_false_iff_ne.2 k1
    have g2 : (k == 2) = false := beq_eq_false_iff_ne.2 k2
    have g3 : (k == 3) = false := beq_eq_false_iff_ne.2 k3
    have g4 : (k == 4) = false := beq_eq_false_iff_ne.2 k4
    have g5 : (k == 5) = false := beq_eq_false_iff_ne.2 k5
    have HR := Lib.hid (show checkP k V tx l = 2 by rw [HRC.out, HF.out]; unfold kindB; simp [k1, k2, k3, k4, k5])
    clear HRC k1 k2 k3 k4 k5
    go_wp2_with fail
    go_ret
    exact ⟨congrArg (fun x => Ending.returned (.int .i64 x)) HR.out.symm, HC.out⟩
end Go.Proofs.YteiedafdakffeaaDoor
