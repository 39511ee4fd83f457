/- push: the law PushPatches, walked: it returns true at every input. -/
import Derived.Test.YteiedafdakffeaaDoorPvD
import Derived.Test.YteiedafdakffeaaDoorPuF
import Derived.Test.YteiedafdakffeaaDoorPuJ
namespace Go.Proofs.YteiedafdakffeaaDoor
set_option linter.unusedVariables false
set_option linter.unusedSimpArgs false
open Go Go.RowKit Go.Proofs
open Go.Proofs.YteiedafdakffeaaDoorW.PrintWords (Kd ReadsInt ReadsOf own_move gate_dst gate_store bytesOf bytesOf_length)
attribute [local go_sem] Go.Proofs.YteiedafdakffeaaDoorW.PrintMore.min2_int Go.Proofs.YteiedafdakffeaaDoorW.PrintMore.min_two
theorem diffP_len (s t : ByteArray) : (diffP s t).l.length ≤ 1000 := by
  unfold diffP
  split
  · simp [noPkt]
  · split
    · simp [noPkt]
    · split
      · simp [noPkt]
      · simp only; omega
set_option maxRecDepth 100000 in
set_option maxHeartbeats 8000000 in
theorem patches_any (w : World) (fr0 to0 : ByteArray) (k : Int) (V : Nat → Int) (tx : ByteArray) (A : Option Addr) (l : List ByteArray) (c : Nat) (hW : WOk w) (hl : Lns w A l) (hL : l.length ≤ 9223372036854775807) (hss : ∀ s ∈ l, s.size ≤ 9223372036854775807) (hfr : fr0.size ≤ 9223372036854775807) (hto : to0.size ≤ 9223372036854775807) :
    Calls Tryd.prog 4 #[.string fr0, .string to0, .agg (pk k V tx (.slice A l.length c))] w fun e w' => e = .returned (.bool true) ∧ Chg (fun _ => False) w w' := by
  have hal := (Chg.refl (fun _ => False) w).alloc (.cells (pk k V tx (.slice A l.length c)) 26)
  have hp : PktAt (w.alloc (.cells (pk k V tx (.slice A l.length c)) 26)) w.heap.size k V tx (.slice A l.length c) := heap_new w _
  have HP := Lib.hid hp
  have HC := Lib.hid hal
  have HL := Lib.hid (hl.chg hal)
  have HSS := Lib.hid hss
  have HW := Lib.hid hW
  clear hal hp hl hss hW
  unfold pk at *
  go_enter Tryd.func4, Tryd.ntmps4
  go_upto_region 1 with fail
  generalize w.alloc (.cells #[.int .i64 k, .int .i64 (V 1), .int .i64 (V 2), .int .i64 (V 3), .int .i64 (V 4), .int .i64 (V 5), .int .i64 (V 6), .string tx, .slice A l.length c] 26) = w1 at *
  go_cut [0, 1] from 15 to 26 (fun s0 s1 W => ∃ f1 t1 tx' A' l' c', s0 = .string f1 ∧ s1 = .string t1 ∧ PktAt W w.heap.size k V tx' (.slice A' l'.length c') ∧ W.ownsRow w.heap.size 9 1 (.slice A' l'.length c') l'.length (l'.map Value.string) ∧ l'.length ≤ 20 ∧ sizes l' ≤ 2000 ∧ Chg (fun _ => False) w W)
  case first =>
    have hS : PktAt w1.drew w.heap.size k V tx (.slice A l.length c) := HP.out
    have hd := (Chg.refl (fun _ => False) w1).drew
    have hct := cut_some w1.drew k V tx A l c (HL.out.chg hd) hL HSS.out
    unfold pk at hct
    have HCT := Lib.hid hct
    clear hct
    by_cases ha : fr0.size ≤ 600
    · by_cases hb : to0.size ≤ 600
      · have hma : (if (600 : Int) < (fr0.size : Int) then (600 : Int) else (fr0.size : Int)) = (fr0.size : Int) := if_neg (by omega)
        have hxa : (0 : Int) ≤ (fr0.size : Int) := by omega
        have hmb : (if (600 : Int) < (to0.size : Int) then (600 : Int) else (to0.size : Int)) = (to0.size : Int) := if_neg (by omega)
        have hxb : (0 : Int) ≤ (to0.size : Int) := by omega
        clear ha hb
        refine region_lone (fun W' => PktAt W' w.heap.size k V tx (.slice A l.length c)) [14] (by kernel_rfl) ?_
        refine take_one 0 hS rfl (by kernel_rfl) rfl ?_
        apply Exists.intro
        refine And.intro (fun W' hS' => ?y0) (And.intro (fun _ _ _ h => h) ?_)
        case y0 => have d0 := hS'; go_simp; rfl
        refine take_one 1 hS rfl (by kernel_rfl) rfl ?_
        apply Exists.intro
        refine And.intro (fun W' hS' => ?y1) (And.intro (fun _ _ _ h => h) ?_)
        case y1 => have d0 := hS'; go_simp; rfl
        refine take_one 2 hS rfl (by kernel_rfl) rfl ?_
        apply Exists.intro
        refine And.intro (fun W' hS' => ?y2) (And.intro (fun _ _ _ h => h) ?_)
        case y2 => have d0 := hS'; go_simp; rfl
        refine take_one 3 hS rfl (by kernel_rfl) rfl ?_
        apply Exists.intro
        refine And.intro (fun W' hS' => ?y3) (And.intro (fun _ _ _ h => h) ?_)
        case y3 => have d0 := hS'; go_simp; rfl
        refine take_one 4 hS rfl (by kernel_rfl) rfl ?_
        apply Exists.intro
        refine And.intro (fun W' hS' => ?y4) (And.intro (fun _ _ _ h => h) ?_)
        case y4 => have d0 := hS'; go_simp; rfl
        refine take_one 5 hS rfl (by kernel_rfl) rfl ?_
        apply Exists.intro
        refine And.intro (fun W' hS' => ?y5) (And.intro (fun _ _ _ h => h) ?_)
        case y5 => have d0 := hS'; go_simp; rfl
        refine take_one 6 hS rfl (by kernel_rfl) rfl ?_
        apply Exists.intro
        refine And.intro (fun W' hS' => ?y6) (And.intro (fun _ _ _ h => h) ?_)
        case y6 => have d0 := hS'; go_simp; rfl
        refine take_one 7 hS rfl (by kernel_rfl) rfl ?_
        apply Exists.intro
        refine And.intro (fun W' hS' => ?y7) (And.intro (fun _ _ _ h => h) ?_)
        case y7 => have d0 := hS'; go_simp; rfl
        try go_simp
        refine take_one 8 hS rfl (by kernel_rfl) rfl ?_
        apply Exists.intro
        refine And.intro (fun W' hS' => ?y8) (And.intro (fun _ _ _ h => h) ?_)
        case y8 => have d0 := hS'; go_simp; rfl
        refine take_one 9 hS rfl (by kernel_rfl) rfl ?_
        apply Exists.intro
        refine And.intro (fun W' hS' => ?y9) (And.intro (fun _ _ _ h => h) ?_)
        case y9 => have d0 := hS'; go_simp; rfl
        refine take_one 10 hS rfl (by kernel_rfl) rfl ?_
        apply Exists.intro
        refine And.intro (fun W' hS' => ?y10) (And.intro (fun _ _ _ h => h) ?_)
        case y10 => have d0 := hS'; obtain ⟨g0, g1, g2, g3, g4, g5, g6, g7, g8⟩ := d0.cells9; go_simp; rfl
        refine only_one 11 rfl (by kernel_rfl) rfl ?_
        go_simp
        refine HCT.out.mono ?_
        unfold CutPost pk
        rintro e w4 ⟨tx', A', l', c', rfl, ho4, htx4, hl4, hs4, hC4⟩
        have hS4 : PktAt w4 w.heap.size k V tx (.slice A l.length c) := hS.keep hC4 (fun h => h)
        refine ⟨hS4, ?_⟩
        refine take_one 12 hS4 rfl (by kernel_rfl) rfl ?_
        apply Exists.intro
        refine And.intro (fun W' hS' => ?y12) (And.intro (fun _ _ _ h => h) ?_)
        case y12 => have d0 := hS'; go_simp; rfl
        refine take_one 13 hS4 rfl (by kernel_rfl) rfl ?_
        apply Exists.intro
        refine And.intro (fun W' hS' => ?y13) (And.intro (fun _ _ _ h => h) ?_)
        case y13 => have d0 := hS'; go_simp; rfl
        try go_simp
        refine only_one 14 rfl (by kernel_rfl) rfl ?_
        refine wp_store_row 26 (.tmp 5) (.tmp 26) rfl w.heap.size #[.int .i64 k, .int .i64 (V 1), .int .i64 (V 2), .int .i64 (V 3), .int .i64 (V 4), .int .i64 (V 5), .int .i64 (V 6), .string tx', .slice A' l'.length c'] rfl rfl 26 _ hS4 infoP rfl (by simp [Value.oneCell']) ?_
        refine ⟨fun h => absurd (List.mem_singleton.2 rfl) h, ?_⟩
        try go_simp
        refine all_done (by kernel_rfl) ?_ _
        have hF := HC.out.trans (hd.trans hC4)
        have HO5 := Lib.hid (own_lower (base' := w.heap.size) ho4 (by have := HC.out.size; exact this))
        have HS4 := Lib.hid hS4
        have HF := Lib.hid hF
        clear hS hS4 hd ho4 hC4 hF
        go_wp2_with fail
        go_meet
        exact ⟨fr0, to0, tx', A', l', c', rfl, rfl, setRow_heap _ _ _ _ _ _ HS4.out, own_move HO5.out (fun q hq => setRow_other _ _ _ _ (fun e => own_ne HO5.out HS4.out (by decide) (by rw [hq, e]))), hl4, hs4, ⟨HF.out.os, HF.out.tape, HF.out.output, by rw [size_setRow]; exact HF.out.size, fun q hq _ => (setRow_other _ _ _ _ (by omega)).trans (HF.out.block q hq (fun h => h))⟩⟩
      · have hma : (if (600 : Int) < (fr0.size : Int) then (600 : Int) else (fr0.size : Int)) = (fr0.size : Int) := if_neg (by omega)
        have hxa : (0 : Int) ≤ (fr0.size : Int) := by omega
        have hmb : (if (600 : Int) < (to0.size : Int) then (600 : Int) else (to0.size : Int)) = 600 := if_pos (by omega)
        have hxb : (600 : Int) ≤ (to0.size : Int) := by omega
        have hyb : 600 ≤ to0.size := by omega
        clear ha hb
        refine region_lone (fun W' => PktAt W' w.heap.size k V tx (.slice A l.length c)) [14] (by kernel_rfl) ?_
        refine take_one 0 hS rfl (by kernel_rfl) rfl ?_
        apply Exists.intro
        refine And.intro (fun W' hS' => ?y0) (And.intro (fun _ _ _ h => h) ?_)
        case y0 => have d0 := hS'; go_simp; rfl
        refine take_one 1 hS rfl (by kernel_rfl) rfl ?_
        apply Exists.intro
        refine And.intro (fun W' hS' => ?y1) (And.intro (fun _ _ _ h => h) ?_)
        case y1 => have d0 := hS'; go_simp; rfl
        refine take_one 2 hS rfl (by kernel_rfl) rfl ?_
        apply Exists.intro
        refine And.intro (fun W' hS' => ?y2) (And.intro (fun _ _ _ h => h) ?_)
        case y2 => have d0 := hS'; go_simp; rfl
        refine take_one 3 hS rfl (by kernel_rfl) rfl ?_
        apply Exists.intro
        refine And.intro (fun W' hS' => ?y3) (And.intro (fun _ _ _ h => h) ?_)
        case y3 => have d0 := hS'; go_simp; rfl
        refine take_one 4 hS rfl (by kernel_rfl) rfl ?_
        apply Exists.intro
        refine And.intro (fun W' hS' => ?y4) (And.intro (fun _ _ _ h => h) ?_)
        case y4 => have d0 := hS'; go_simp; rfl
        refine take_one 5 hS rfl (by kernel_rfl) rfl ?_
        apply Exists.intro
        refine And.intro (fun W' hS' => ?y5) (And.intro (fun _ _ _ h => h) ?_)
        case y5 => have d0 := hS'; go_simp; rfl
        refine take_one 6 hS rfl (by kernel_rfl) rfl ?_
        apply Exists.intro
        refine And.intro (fun W' hS' => ?y6) (And.intro (fun _ _ _ h => h) ?_)
        case y6 => have d0 := hS'; go_simp; rfl
        refine take_one 7 hS rfl (by kernel_rfl) rfl ?_
        apply Exists.intro
        refine And.intro (fun W' hS' => ?y7) (And.intro (fun _ _ _ h => h) ?_)
        case y7 => have d0 := hS'; go_simp; rfl
        try go_simp
        refine take_one 8 hS rfl (by kernel_rfl) rfl ?_
        apply Exists.intro
        refine And.intro (fun W' hS' => ?y8) (And.intro (fun _ _ _ h => h) ?_)
        case y8 => have d0 := hS'; go_simp; rfl
        refine take_one 9 hS rfl (by kernel_rfl) rfl ?_
        apply Exists.intro
        refine And.intro (fun W' hS' => ?y9) (And.intro (fun _ _ _ h => h) ?_)
        case y9 => have d0 := hS'; go_simp; rfl
        refine take_one 10 hS rfl (by kernel_rfl) rfl ?_
        apply Exists.intro
        refine And.intro (fun W' hS' => ?y10) (And.intro (fun _ _ _ h => h) ?_)
        case y10 => have d0 := hS'; obtain ⟨g0, g1, g2, g3, g4, g5, g6, g7, g8⟩ := d0.cells9; go_simp; rfl
        refine only_one 11 rfl (by kernel_rfl) rfl ?_
        go_simp
        refine HCT.out.mono ?_
        unfold CutPost pk
        rintro e w4 ⟨tx', A', l', c', rfl, ho4, htx4, hl4, hs4, hC4⟩
        have hS4 : PktAt w4 w.heap.size k V tx (.slice A l.length c) := hS.keep hC4 (fun h => h)
        refine ⟨hS4, ?_⟩
        refine take_one 12 hS4 rfl (by kernel_rfl) rfl ?_
        apply Exists.intro
        refine And.intro (fun W' hS' => ?y12) (And.intro (fun _ _ _ h => h) ?_)
        case y12 => have d0 := hS'; go_simp; rfl
        refine take_one 13 hS4 rfl (by kernel_rfl) rfl ?_
        apply Exists.intro
        refine And.intro (fun W' hS' => ?y13) (And.intro (fun _ _ _ h => h) ?_)
        case y13 => have d0 := hS'; go_simp; rfl
        try go_simp
        refine only_one 14 rfl (by kernel_rfl) rfl ?_
        refine wp_store_row 26 (.tmp 5) (.tmp 26) rfl w.heap.size #[.int .i64 k, .int .i64 (V 1), .int .i64 (V 2), .int .i64 (V 3), .int .i64 (V 4), .int .i64 (V 5), .int .i64 (V 6), .string tx', .slice A' l'.length c'] rfl rfl 26 _ hS4 infoP rfl (by simp [Value.oneCell']) ?_
        refine ⟨fun h => absurd (List.mem_singleton.2 rfl) h, ?_⟩
        try go_simp
        refine all_done (by kernel_rfl) ?_ _
        have hF := HC.out.trans (hd.trans hC4)
        have HO5 := Lib.hid (own_lower (base' := w.heap.size) ho4 (by have := HC.out.size; exact this))
        have HS4 := Lib.hid hS4
        have HF := Lib.hid hF
        clear hS hS4 hd ho4 hC4 hF
        go_wp2_with fail
        go_meet
        exact ⟨fr0, (to0.extract 0 600), tx', A', l', c', rfl, rfl, setRow_heap _ _ _ _ _ _ HS4.out, own_move HO5.out (fun q hq => setRow_other _ _ _ _ (fun e => own_ne HO5.out HS4.out (by decide) (by rw [hq, e]))), hl4, hs4, ⟨HF.out.os, HF.out.tape, HF.out.output, by rw [size_setRow]; exact HF.out.size, fun q hq _ => (setRow_other _ _ _ _ (by omega)).trans (HF.out.block q hq (fun h => h))⟩⟩
    · by_cases hb : to0.size ≤ 600
      · have hma : (if (600 : Int) < (fr0.size : Int) then (600 : Int) else (fr0.size : Int)) = 600 := if_pos (by omega)
        have hxa : (600 : Int) ≤ (fr0.size : Int) := by omega
        have hya : 600 ≤ fr0.size := by omega
        have hmb : (if (600 : Int) < (to0.size : Int) then (600 : Int) else (to0.size : Int)) = (to0.size : Int) := if_neg (by omega)
        have hxb : (0 : Int) ≤ (to0.size : Int) := by omega
        clear ha hb
        refine region_lone (fun W' => PktAt W' w.heap.size k V tx (.slice A l.length c)) [14] (by kernel_rfl) ?_
        refine take_one 0 hS rfl (by kernel_rfl) rfl ?_
        apply Exists.intro
        refine And.intro (fun W' hS' => ?y0) (And.intro (fun _ _ _ h => h) ?_)
        case y0 => have d0 := hS'; go_simp; rfl
        refine take_one 1 hS rfl (by kernel_rfl) rfl ?_
        apply Exists.intro
        refine And.intro (fun W' hS' => ?y1) (And.intro (fun _ _ _ h => h) ?_)
        case y1 => have d0 := hS'; go_simp; rfl
        refine take_one 2 hS rfl (by kernel_rfl) rfl ?_
        apply Exists.intro
        refine And.intro (fun W' hS' => ?y2) (And.intro (fun _ _ _ h => h) ?_)
        case y2 => have d0 := hS'; go_simp; rfl
        refine take_one 3 hS rfl (by kernel_rfl) rfl ?_
        apply Exists.intro
        refine And.intro (fun W' hS' => ?y3) (And.intro (fun _ _ _ h => h) ?_)
        case y3 => have d0 := hS'; go_simp; rfl
        refine take_one 4 hS rfl (by kernel_rfl) rfl ?_
        apply Exists.intro
        refine And.intro (fun W' hS' => ?y4) (And.intro (fun _ _ _ h => h) ?_)
        case y4 => have d0 := hS'; go_simp; rfl
        refine take_one 5 hS rfl (by kernel_rfl) rfl ?_
        apply Exists.intro
        refine And.intro (fun W' hS' => ?y5) (And.intro (fun _ _ _ h => h) ?_)
        case y5 => have d0 := hS'; go_simp; rfl
        refine take_one 6 hS rfl (by kernel_rfl) rfl ?_
        apply Exists.intro
        refine And.intro (fun W' hS' => ?y6) (And.intro (fun _ _ _ h => h) ?_)
        case y6 => have d0 := hS'; go_simp; rfl
        refine take_one 7 hS rfl (by kernel_rfl) rfl ?_
        apply Exists.intro
        refine And.intro (fun W' hS' => ?y7) (And.intro (fun _ _ _ h => h) ?_)
        case y7 => have d0 := hS'; go_simp; rfl
        try go_simp
        refine take_one 8 hS rfl (by kernel_rfl) rfl ?_
        apply Exists.intro
        refine And.intro (fun W' hS' => ?y8) (And.intro (fun _ _ _ h => h) ?_)
        case y8 => have d0 := hS'; go_simp; rfl
        refine take_one 9 hS rfl (by kernel_rfl) rfl ?_
        apply Exists.intro
        refine And.intro (fun W' hS' => ?y9) (And.intro (fun _ _ _ h => h) ?_)
        case y9 => have d0 := hS'; go_simp; rfl
        refine take_one 10 hS rfl (by kernel_rfl) rfl ?_
        apply Exists.intro
        refine And.intro (fun W' hS' => ?y10) (And.intro (fun _ _ _ h => h) ?_)
        case y10 => have d0 := hS'; obtain ⟨g0, g1, g2, g3, g4, g5, g6, g7, g8⟩ := d0.cells9; go_simp; rfl
        refine only_one 11 rfl (by kernel_rfl) rfl ?_
        go_simp
        refine HCT.out.mono ?_
        unfold CutPost pk
        rintro e w4 ⟨tx', A', l', c', rfl, ho4, htx4, hl4, hs4, hC4⟩
        have hS4 : PktAt w4 w.heap.size k V tx (.slice A l.length c) := hS.keep hC4 (fun h => h)
        refine ⟨hS4, ?_⟩
        refine take_one 12 hS4 rfl (by kernel_rfl) rfl ?_
        apply Exists.intro
        refine And.intro (fun W' hS' => ?y12) (And.intro (fun _ _ _ h => h) ?_)
        case y12 => have d0 := hS'; go_simp; rfl
        refine take_one 13 hS4 rfl (by kernel_rfl) rfl ?_
        apply Exists.intro
        refine And.intro (fun W' hS' => ?y13) (And.intro (fun _ _ _ h => h) ?_)
        case y13 => have d0 := hS'; go_simp; rfl
        try go_simp
        refine only_one 14 rfl (by kernel_rfl) rfl ?_
        refine wp_store_row 26 (.tmp 5) (.tmp 26) rfl w.heap.size #[.int .i64 k, .int .i64 (V 1), .int .i64 (V 2), .int .i64 (V 3), .int .i64 (V 4), .int .i64 (V 5), .int .i64 (V 6), .string tx', .slice A' l'.length c'] rfl rfl 26 _ hS4 infoP rfl (by simp [Value.oneCell']) ?_
        refine ⟨fun h => absurd (List.mem_singleton.2 rfl) h, ?_⟩
        try go_simp
        refine all_done (by kernel_rfl) ?_ _
        have hF := HC.out.trans (hd.trans hC4)
        have HO5 := Lib.hid (own_lower (base' := w.heap.size) ho4 (by have := HC.out.size; exact this))
        have HS4 := Lib.hid hS4
        have HF := Lib.hid hF
        clear hS hS4 hd ho4 hC4 hF
        go_wp2_with fail
        go_meet
        exact ⟨(fr0.extract 0 600), to0, tx', A', l', c', rfl, rfl, setRow_heap _ _ _ _ _ _ HS4.out, own_move HO5.out (fun q hq => setRow_other _ _ _ _ (fun e => own_ne HO5.out HS4.out (by decide) (by rw [hq, e]))), hl4, hs4, ⟨HF.out.os, HF.out.tape, HF.out.output, by rw [size_setRow]; exact HF.out.size, fun q hq _ => (setRow_other _ _ _ _ (by omega)).trans (HF.out.block q hq (fun h => h))⟩⟩
      · have hma : (if (600 : Int) < (fr0.size : Int) then (600 : Int) else (fr0.size : Int)) = 600 := if_pos (by omega)
        have hxa : (600 : Int) ≤ (fr0.size : Int) := by omega
        have hya : 600 ≤ fr0.size := by omega
        have hmb : (if (600 : Int) < (to0.size : Int) then (600 : Int) else (to0.size : Int)) = 600 := if_pos (by omega)
        have hxb : (600 : Int) ≤ (to0.size : Int) := by omega
        have hyb : 600 ≤ to0.size := by omega
        clear ha hb
        refine region_lone (fun W' => PktAt W' w.heap.size k V tx (.slice A l.length c)) [14] (by kernel_rfl) ?_
        refine take_one 0 hS rfl (by kernel_rfl) rfl ?_
        apply Exists.intro
        refine And.intro (fun W' hS' => ?y0) (And.intro (fun _ _ _ h => h) ?_)
        case y0 => have d0 := hS'; go_simp; rfl
        refine take_one 1 hS rfl (by kernel_rfl) rfl ?_
        apply Exists.intro
        refine And.intro (fun W' hS' => ?y1) (And.intro (fun _ _ _ h => h) ?_)
        case y1 => have d0 := hS'; go_simp; rfl
        refine take_one 2 hS rfl (by kernel_rfl) rfl ?_
        apply Exists.intro
        refine And.intro (fun W' hS' => ?y2) (And.intro (fun _ _ _ h => h) ?_)
        case y2 => have d0 := hS'; go_simp; rfl
        refine take_one 3 hS rfl (by kernel_rfl) rfl ?_
        apply Exists.intro
        refine And.intro (fun W' hS' => ?y3) (And.intro (fun _ _ _ h => h) ?_)
        case y3 => have d0 := hS'; go_simp; rfl
        refine take_one 4 hS rfl (by kernel_rfl) rfl ?_
        apply Exists.intro
        refine And.intro (fun W' hS' => ?y4) (And.intro (fun _ _ _ h => h) ?_)
        case y4 => have d0 := hS'; go_simp; rfl
        refine take_one 5 hS rfl (by kernel_rfl) rfl ?_
        apply Exists.intro
        refine And.intro (fun W' hS' => ?y5) (And.intro (fun _ _ _ h => h) ?_)
        case y5 => have d0 := hS'; go_simp; rfl
        refine take_one 6 hS rfl (by kernel_rfl) rfl ?_
        apply Exists.intro
        refine And.intro (fun W' hS' => ?y6) (And.intro (fun _ _ _ h => h) ?_)
        case y6 => have d0 := hS'; go_simp; rfl
        refine take_one 7 hS rfl (by kernel_rfl) rfl ?_
        apply Exists.intro
        refine And.intro (fun W' hS' => ?y7) (And.intro (fun _ _ _ h => h) ?_)
        case y7 => have d0 := hS'; go_simp; rfl
        try go_simp
        refine take_one 8 hS rfl (by kernel_rfl) rfl ?_
        apply Exists.intro
        refine And.intro (fun W' hS' => ?y8) (And.intro (fun _ _ _ h => h) ?_)
        case y8 => have d0 := hS'; go_simp; rfl
        refine take_one 9 hS rfl (by kernel_rfl) rfl ?_
        apply Exists.intro
        refine And.intro (fun W' hS' => ?y9) (And.intro (fun _ _ _ h => h) ?_)
        case y9 => have d0 := hS'; go_simp; rfl
        refine take_one 10 hS rfl (by kernel_rfl) rfl ?_
        apply Exists.intro
        refine And.intro (fun W' hS' => ?y10) (And.intro (fun _ _ _ h => h) ?_)
        case y10 => have d0 := hS'; obtain ⟨g0, g1, g2, g3, g4, g5, g6, g7, g8⟩ := d0.cells9; go_simp; rfl
        refine only_one 11 rfl (by kernel_rfl) rfl ?_
        go_simp
        refine HCT.out.mono ?_
        unfold CutPost pk
        rintro e w4 ⟨tx', A', l', c', rfl, ho4, htx4, hl4, hs4, hC4⟩
        have hS4 : PktAt w4 w.heap.size k V tx (.slice A l.length c) := hS.keep hC4 (fun h => h)
        refine ⟨hS4, ?_⟩
        refine take_one 12 hS4 rfl (by kernel_rfl) rfl ?_
        apply Exists.intro
        refine And.intro (fun W' hS' => ?y12) (And.intro (fun _ _ _ h => h) ?_)
        case y12 => have d0 := hS'; go_simp; rfl
        refine take_one 13 hS4 rfl (by kernel_rfl) rfl ?_
        apply Exists.intro
        refine And.intro (fun W' hS' => ?y13) (And.intro (fun _ _ _ h => h) ?_)
        case y13 => have d0 := hS'; go_simp; rfl
        try go_simp
        refine only_one 14 rfl (by kernel_rfl) rfl ?_
        refine wp_store_row 26 (.tmp 5) (.tmp 26) rfl w.heap.size #[.int .i64 k, .int .i64 (V 1), .int .i64 (V 2), .int .i64 (V 3), .int .i64 (V 4), .int .i64 (V 5), .int .i64 (V 6), .string tx', .slice A' l'.length c'] rfl rfl 26 _ hS4 infoP rfl (by simp [Value.oneCell']) ?_
        refine ⟨fun h => absurd (List.mem_singleton.2 rfl) h, ?_⟩
        try go_simp
        refine all_done (by kernel_rfl) ?_ _
        have hF := HC.out.trans (hd.trans hC4)
        have HO5 := Lib.hid (own_lower (base' := w.heap.size) ho4 (by have := HC.out.size; exact this))
        have HS4 := Lib.hid hS4
        have HF := Lib.hid hF
        clear hS hS4 hd ho4 hC4 hF
        go_wp2_with fail
        go_meet
        exact ⟨(fr0.extract 0 600), (to0.extract 0 600), tx', A', l', c', rfl, rfl, setRow_heap _ _ _ _ _ _ HS4.out, own_move HO5.out (fun q hq => setRow_other _ _ _ _ (fun e => own_ne HO5.out HS4.out (by decide) (by rw [hq, e]))), hl4, hs4, ⟨HF.out.os, HF.out.tape, HF.out.output, by rw [size_setRow]; exact HF.out.size, fun q hq _ => (setRow_other _ _ _ _ (by omega)).trans (HF.out.block q hq (fun h => h))⟩⟩
  case rest =>
    obtain ⟨f1, t1, tx', A', l', c', rfl, rfl, hP, hO, hl20, hs2, hC⟩ := hcut
    have hcap := own_cap hO
    have HP2 := Lib.hid hP
    have HO2 := Lib.hid hO
    have HC2 := Lib.hid hC
    clear hP hO hC HP HC HL HSS
    have HDF := Lib.hid (diff_some wc f1 t1 (HW.out.chg HC2.out))
    have HPL := Lib.hid (diffP_len f1 t1)
    obtain ⟨D, hD⟩ : ∃ D, diffP f1 t1 = D := ⟨_, rfl⟩
    rw [hD] at HDF HPL
    have HD := Lib.hid hD
    clear hD
    obtain ⟨dk, dV, dx, dl, de⟩ := D
    go_wp2_with fail
    refine HDF.out.mono ?_
    unfold DiffPost pk
    simp only
    rintro e w3 ⟨A3, c3, rfl, hc3, hL3, hN3, hC3⟩
    have hal3 := (Chg.refl (fun _ => False) w3).alloc (.cells #[.int .i64 dk, .int .i64 (dV 1), .int .i64 (dV 2), .int .i64 (dV 3), .int .i64 (dV 4), .int .i64 (dV 5), .int .i64 (dV 6), .string dx, .slice A3 dl.length c3] 26)
    have hT3 := hC3.trans hal3
    have HA4 : Hid (PktAt (w3.alloc (.cells #[.int .i64 dk, .int .i64 (dV 1), .int .i64 (dV 2), .int .i64 (dV 3), .int .i64 (dV 4), .int .i64 (dV 5), .int .i64 (dV 6), .string dx, .slice A3 dl.length c3] 26)) w3.heap.size dk dV dx (.slice A3 dl.length c3)) := Lib.hid (heap_new w3 _)
    have HLA4 := Lib.hid (hL3.chg hal3)
    have HP4 := Lib.hid (HP2.out.keep hT3 (fun h => h))
    have HO4 := Lib.hid (own_chg HO2.out hT3 (fun _ _ h => h))
    have HC4 := Lib.hid (HC2.out.trans hT3)
    have HRD := Lib.hid (rdiff_some (w3.alloc (.cells #[.int .i64 dk, .int .i64 (dV 1), .int .i64 (dV 2), .int .i64 (dV 3), .int .i64 (dV 4), .int .i64 (dV 5), .int .i64 (dV 6), .string dx, .slice A3 dl.length c3] 26)) f1 t1)
    rw [HD.out] at HRD
    clear hal3 hT3 hL3 hN3 hC3 HP2 HO2 HC2 HDF
    go_wp2_with fail
    refine HRD.out.mono ?_
    unfold RDiffPost pk
    simp only
    rintro e w5 ⟨A5, c5, rfl, hL5, hC5⟩
    have hal5 := (Chg.refl (fun _ => False) w5).alloc (.cells #[.int .i64 dk, .int .i64 (dV 1), .int .i64 (dV 2), .int .i64 (dV 3), .int .i64 (dV 4), .int .i64 (dV 5), .int .i64 (dV 6), .string dx, .slice A5 dl.length c5] 26)
    have hT5 := hC5.trans hal5
    have HB6 : Hid (PktAt (w5.alloc (.cells #[.int .i64 dk, .int .i64 (dV 1), .int .i64 (dV 2), .int .i64 (dV 3), .int .i64 (dV 4), .int .i64 (dV 5), .int .i64 (dV 6), .string dx, .slice A5 dl.length c5] 26)) w5.heap.size dk dV dx (.slice A5 dl.length c5)) := Lib.hid (heap_new w5 _)
    have HLB6 := Lib.hid (hL5.chg hal5)
    have HA6 := Lib.hid (HA4.out.keep hT5 (fun h => h))
    have HLA6 := Lib.hid (HLA4.out.chg hT5)
    have HP6 := Lib.hid (HP4.out.keep hT5 (fun h => h))
    have HO6 := Lib.hid (own_chg HO4.out hT5 (fun _ _ h => h))
    have HC6 := Lib.hid (HC4.out.trans hT5)
    clear hal5 hT5 hL5 hC5 HA4 HLA4 HP4 HO4 HC4 HRD
    go_upto_region 4 with fail
    generalize w5.alloc (.cells #[.int .i64 dk, .int .i64 (dV 1), .int .i64 (dV 2), .int .i64 (dV 3), .int .i64 (dV 4), .int .i64 (dV 5), .int .i64 (dV 6), .string dx, .slice A5 dl.length c5] 26) = w6 at *
    generalize w5.heap.size = PB at *
    generalize w3.heap.size = PA at *
    obtain ⟨q0, q1, q2, q3, q4, q5, q6, q7, q8⟩ := HP6.out.cells9
    have HAP := Lib.hid (apply_some w6 f1 k (V 1) (V 2) (V 3) (V 4) (V 5) (V 6) tx' A' l' c' (HW.out.chg HC6.out) (own_lns HO6.out) hcap (by omega) (by omega))
    obtain ⟨XS, hXS⟩ : ∃ XS, applyS f1 k (V 1) (V 2) (V 3) (V 4) (V 5) (V 6) tx' l' = XS := ⟨_, rfl⟩
    obtain ⟨XE, hXE⟩ : ∃ XE, applyE f1 k (V 1) (V 2) (V 3) (V 4) (V 5) (V 6) tx' l' = XE := ⟨_, rfl⟩
    rw [hXS, hXE] at HAP
    have HXS := Lib.hid hXS
    have HXE := Lib.hid hXE
    clear hXS hXE
    go_wp2_with fail
    refine HAP.out.mono ?_
    unfold ApplyPost
    rintro e w7 ⟨rfl, hC7⟩
    have HC7 := Lib.hid (HC6.out.trans hC7)
    have HP7 := Lib.hid (HP6.out.keep hC7 (fun h => h))
    have HO7 := Lib.hid (own_chg HO6.out hC7 (fun _ _ h => h))
    have HA7 := Lib.hid (HA6.out.keep hC7 (fun h => h))
    have HB7 := Lib.hid (HB6.out.keep hC7 (fun h => h))
    have HLA7 := Lib.hid (HLA6.out.chg hC7)
    have HLB7 := Lib.hid (HLB6.out.chg hC7)
    clear hC7 HAP q0 q1 q2 q3 q4 q5 q6 q7 q8 HC6 HP6 HO6 HA6 HB6 HLA6 HLB6
    obtain ⟨q0, q1, q2, q3, q4, q5, q6, q7, q8⟩ := HP7.out.cells9
    have HRA := Lib.hid (rapply_some w7 f1 k (V 1) (V 2) (V 3) (V 4) (V 5) (V 6) tx' A' l' c' (own_lns HO7.out) hcap (by omega) (by omega))
    rw [HXS.out, HXE.out] at HRA
    go_wp2_with fail
    refine HRA.out.mono ?_
    unfold ApplyPost
    rintro e w8 ⟨rfl, hC8⟩
    have HC8 := Lib.hid (HC7.out.trans hC8)
    have hA8 := HA7.out.keep hC8 (fun h => h)
    have hB8 := HB7.out.keep hC8 (fun h => h)
    have HLA8 := Lib.hid (HLA7.out.chg hC8)
    have HLB8 := Lib.hid (HLB7.out.chg hC8)
    clear hC8 HRA q0 q1 q2 q3 q4 q5 q6 q7 q8 HC7 HP7 HO7 HA7 HB7 HLA7 HLB7
    obtain ⟨g0, g1, g2, g3, g4, g5, g6, g7, g8⟩ := hA8.cells9
    obtain ⟨h0, h1, h2, h3, h4, h5, h6, h7, h8⟩ := hB8.cells9
    have hdl : dl.length ≤ 1000 := HPL.out
    have hsm := rsame_some w8 dk dV dx A3 dl c3 dk dV dx A5 dl c5 HLA8.out HLB8.out (by omega) (by omega)
    rw [sameF_refl] at hsm
    have HSM := Lib.hid hsm
    clear hsm hA8 hB8
    go_wp2_with fail
    refine HSM.out.mono ?_
    rintro e w9 ⟨rfl, hC9⟩
    have HC9 := Lib.hid (HC8.out.trans hC9)
    clear hC9 HSM g0 g1 g2 g3 g4 g5 g6 g7 g8 h0 h1 h2 h3 h4 h5 h6 h7 h8
    go_wp2_with fail
    refine (works_some w9 (HW.out.chg HC9.out)).mono ?_
    rintro e w10 ⟨rfl, hC10⟩
    have HC10 := Lib.hid (HC9.out.trans hC10)
    clear hC10
    go_wp2_with fail
    go_ret
    exact ⟨rfl, HC10.out⟩
theorem PushPatches_calls (fr0 to0 : ByteArray) (k : Int) (V : Nat → Int) (tx : ByteArray) (A : Option Addr) (l : List ByteArray) (c : Nat) (w : World) (hW : WOk w) (hfr : fr0.size ≤ 140737488351232) (hto : to0.size ≤ 140737488351232) (hl : Lns w A l) (hL : l.length ≤ 9223372036854775807) (hss : ∀ s ∈ l, s.size ≤ 9223372036854775807) :
    Calls Tryd.prog 4 #[.string fr0, .string to0, .agg (pk k V tx (.slice A l.length c))] w fun e w' => e = .returned (.bool true) ∧ Chg (fun _ => False) w w' :=
  patches_any w fr0 to0 k V tx A l c hW hl hL hss (by omega) (by omega)
end Go.Proofs.YteiedafdakffeaaDoor
