/- push: the law PushBack, walked: it returns true at every input. -/
import Derived.Test.YteiedafdakffeaaDoorPuJ
namespace Go.Proofs.YteiedafdakffeaaDoor
set_option linter.unusedVariables false
set_option linter.unusedSimpArgs false
open Go Go.RowKit Go.Proofs
open Go.Proofs.YteiedafdakffeaaDoorW.PrintWords (Kd ReadsInt ReadsOf own_move print_drop_of print_take_of gate_dst gate_store bytesOf bytesOf_length)
set_option maxRecDepth 100000 in
set_option maxHeartbeats 8000000 in
theorem back_any (w : World) (kd n0 n1 n2 n3 n4 n5 : Int) (tx0 : ByteArray) (A : Option Addr) (L : List ByteArray) (c : Nat) (hW : WOk w) (hl : Lns w A L) (hs : ∀ s ∈ L, s.size ≤ 9223372036854775807) (hL : L.length ≤ 9223372036854775807)
    (hk : I64 kd) (h0 : I64 n0) (h1 : I64 n1) (h2 : I64 n2) (h3 : I64 n3) (h4 : I64 n4) (h5 : I64 n5) :
    Calls Tryd.prog 9 #[.agg (seedC kd n0 n1 n2 n3 n4 n5 tx0 (.slice A L.length c))] w fun e w' => e = .returned (.bool true) ∧ Chg (fun _ => False) w w' := by
  have hal := (Chg.refl (fun _ => False) w).alloc (.cells (seedC kd n0 n1 n2 n3 n4 n5 tx0 (.slice A L.length c)) 44)
  have hsd := heap_new w (.cells (seedC kd n0 n1 n2 n3 n4 n5 tx0 (.slice A L.length c)) 44)
  have hwk := works_some (w.alloc (.cells (seedC kd n0 n1 n2 n3 n4 n5 tx0 (.slice A L.length c)) 44)) (hW.chg hal)
  have HWK := Lib.hid hwk
  have HAL := Lib.hid hal
  have HSD := Lib.hid hsd
  have HL := Lib.hid hl
  have HS := Lib.hid hs
  have HW := Lib.hid hW
  clear hwk hal hsd hl hs hW
  unfold seedC at *
  go_enter Tryd.func9, Tryd.ntmps9
  go_wp2_with fail
  refine HWK.out.mono ?_
  rintro e w2 ⟨rfl, hC2⟩
  have HC2 := Lib.hid (HAL.out.trans hC2)
  have hsd2 := hC2.keep HSD.out (fun h => h)
  have q0 : w2.cell? ⟨w.heap.size, 0, none⟩ = some (.int .i64 kd) := cell_of_heap hsd2 0
  have q1 : w2.cell? ⟨w.heap.size, 1, none⟩ = some (.int .i64 n0) := cell_of_heap hsd2 1
  have q2 : w2.cell? ⟨w.heap.size, 2, none⟩ = some (.int .i64 n1) := cell_of_heap hsd2 2
  have q3 : w2.cell? ⟨w.heap.size, 3, none⟩ = some (.int .i64 n2) := cell_of_heap hsd2 3
  have q4 : w2.cell? ⟨w.heap.size, 4, none⟩ = some (.int .i64 n3) := cell_of_heap hsd2 4
  have q5 : w2.cell? ⟨w.heap.size, 5, none⟩ = some (.int .i64 n4) := cell_of_heap hsd2 5
  have q6 : w2.cell? ⟨w.heap.size, 6, none⟩ = some (.int .i64 n5) := cell_of_heap hsd2 6
  have q7 : w2.cell? ⟨w.heap.size, 7, none⟩ = some (.string tx0) := cell_of_heap hsd2 7
  have q8 : w2.cell? ⟨w.heap.size, 8, none⟩ = some (.slice A L.length c) := cell_of_heap hsd2 8
  have HMD := Lib.hid (made_some w2 kd n0 n1 n2 n3 n4 n5 tx0 A L c (HL.out.chg HC2.out) HS.out hL hk h0 h1 h2 h3 h4 h5)
  clear hC2 hsd2 HWK HAL HSD
  go_wp2_with fail
  refine HMD.out.mono ?_
  rintro e w3 ⟨k, V, tx, v, l, rfl, hck, ho, hC3⟩
  obtain ⟨A3, c3, rfl, hl3⟩ := own_lines ho
  have HC3 := Lib.hid (HC2.out.trans hC3)
  have hal3 := (Chg.refl (fun _ => False) w3).alloc (.cells (pk k V tx (.slice A3 l.length c3)) 26)
  have hp3 : PktAt (w3.alloc (.cells (pk k V tx (.slice A3 l.length c3)) 26)) w3.heap.size k V tx (.slice A3 l.length c3) := heap_new w3 _
  obtain ⟨⟨hk1, hk5⟩, hbt, hbf, hbs, hbn, _, _, _⟩ := check_bounds hck
  have hby := bytes_ok (w3.alloc (.cells (pk k V tx (.slice A3 l.length c3)) 26)) k (V 1) (V 2) (V 3) (V 4) (V 5) (V 6) tx A3 l c3 (hl3.chg hal3) hbn hbs hbt hk1 hk5 hck
  have HBY := Lib.hid hby
  have HCK := Lib.hid hck
  have HP3 := Lib.hid hp3
  have HAL3 := Lib.hid (HC3.out.trans hal3)
  have HLL := Lib.hid (hl3.chg hal3)
  clear hC3 ho hl3 hal3 hp3 hby hck q0 q1 q2 q3 q4 q5 q6 q7 q8 HMD HC2 HC3 hk1 hk5
  unfold pk at *
  go_wp2_with fail
  refine HBY.out.mono ?_
  rintro e w4 ⟨v4, rfl, ho4, hC4⟩
  obtain ⟨A4, c4, rfl, hc4, hR4⟩ := own_bytes ho4
  have HC4 := Lib.hid (HAL3.out.trans hC4)
  have HP4 := Lib.hid (HP3.out.keep hC4 (fun h => h))
  have HLL4 := Lib.hid (HLL.out.chg hC4)
  have HPS := Lib.hid (parse_some w4 A4 _ c4 hR4 hc4 (bys_push k (V 1) (V 2) (V 3) (V 4) (V 5) (V 6) tx l))
  clear ho4 hR4 hC4 HBY HAL3 HP3 HLL
  go_wp2_with fail
  refine HPS.out.mono ?_
  intro e w5 hps
  obtain ⟨v5, rfl, ho5, hC5⟩ := parse_back HCK.out hps
  obtain ⟨A5, c5, rfl, hl5⟩ := own_lines ho5
  simp only at *
  have HC5 := Lib.hid (HC4.out.trans hC5)
  have hal5 := (Chg.refl (fun _ => False) w5).alloc (.cells (pk k V tx (.slice A5 l.length c5)) 26)
  have hp5 : PktAt (w5.alloc (.cells (pk k V tx (.slice A5 l.length c5)) 26)) w3.heap.size k V tx (.slice A3 l.length c3) := heap_alloc (HP4.out.keep hC5 (fun h => h))
  have hq5 : PktAt (w5.alloc (.cells (pk k V tx (.slice A5 l.length c5)) 26)) w5.heap.size k V tx (.slice A5 l.length c5) := heap_new w5 _
  have hlp5 : Lns (w5.alloc (.cells (pk k V tx (.slice A5 l.length c5)) 26)) A3 l := (HLL4.out.chg hC5).chg hal5
  have hlq5 : Lns (w5.alloc (.cells (pk k V tx (.slice A5 l.length c5)) 26)) A5 l := hl5.chg hal5
  have HAL5 := Lib.hid (HC5.out.trans hal5)
  have HPP := Lib.hid hp5
  have HQQ := Lib.hid hq5
  have HLP := Lib.hid hlp5
  have HLQ := Lib.hid hlq5
  clear hal5 hp5 hq5 hlp5 hlq5 hl5 ho5 hC5 hps HC4 HP4 HLL4 HPS HC5
  unfold pk at HAL5 HPP HQQ HLP HLQ
  go_upto_region 6 with fail
  generalize w5.alloc (.cells #[.int .i64 k, .int .i64 (V 1), .int .i64 (V 2), .int .i64 (V 3), .int .i64 (V 4), .int .i64 (V 5), .int .i64 (V 6), .string tx, .slice A5 l.length c5] 26) = w6 at *
  generalize w5.heap.size = Q at *
  generalize w3.heap.size = P at *
  have hS : PktAt w6.drew P k V tx (.slice A3 l.length c3) ∧ PktAt w6.drew Q k V tx (.slice A5 l.length c5) := ⟨HPP.out, HQQ.out⟩
  refine region_lone (fun W' => PktAt W' P k V tx (.slice A3 l.length c3) ∧ PktAt W' Q k V tx (.slice A5 l.length c5)) [] (by kernel_rfl) ?_
  refine take_one 0 hS rfl (by kernel_rfl) rfl ?_
  apply Exists.intro
  refine And.intro (fun W' hS' => ?y0) (And.intro (fun _ _ _ h => h) ?_)
  case y0 => obtain ⟨d0, d1⟩ := hS'; obtain ⟨g0, g1, g2, g3, g4, g5, g6, g7, g8⟩ := d0.cells9; obtain ⟨h0, h1, h2, h3, h4, h5, h6, h7, h8⟩ := d1.cells9; go_simp; rfl
  refine only_one 1 rfl (by kernel_rfl) rfl ?_
  go_simp
  have hck0 : checkF k (V 1) (V 2) (V 3) (V 4) (V 5) (V 6) tx l = 0 := HCK.out
  have hd := (Chg.refl (fun _ => False) w6).drew
  have hch := check_all w6.drew k (V 1) (V 2) (V 3) (V 4) (V 5) (V 6) tx A3 l c3 (HLP.out.chg hd) (by omega) (by omega)
  rw [hck0] at hch
  refine hch.mono ?_
  rintro e w7 ⟨rfl, hC7⟩
  have hS7 : PktAt w7 P k V tx (.slice A3 l.length c3) ∧ PktAt w7 Q k V tx (.slice A5 l.length c5) := ⟨(HPP.out.keep hd (fun h => h)).keep hC7 (fun h => h), (HQQ.out.keep hd (fun h => h)).keep hC7 (fun h => h)⟩
  have hT7 := hd.trans hC7
  refine ⟨hS7, ?_⟩
  refine take_one 2 hS7 rfl (by kernel_rfl) rfl ?_
  apply Exists.intro
  refine And.intro (fun W' hS' => ?y2) (And.intro (fun _ _ _ h => h) ?_)
  case y2 => obtain ⟨d0, d1⟩ := hS'; go_simp; rfl
  refine take_one 3 hS7 rfl (by kernel_rfl) rfl ?_
  apply Exists.intro
  refine And.intro (fun W' hS' => ?y3) (And.intro (fun _ _ _ h => h) ?_)
  case y3 => obtain ⟨d0, d1⟩ := hS'; go_simp; rfl
  go_simp
  refine take_one 4 hS7 rfl (by kernel_rfl) (by kernel_rfl) ?_
  apply Exists.intro
  refine And.intro (fun W' hS' => ?y4) (And.intro (fun _ _ _ h => h) ?_)
  case y4 => obtain ⟨d0, d1⟩ := hS'; go_simp; rfl
  refine take_one 5 hS7 rfl (by kernel_rfl) (by kernel_rfl) ?_
  apply Exists.intro
  refine And.intro (fun W' hS' => ?y5) (And.intro (fun _ _ _ h => h) ?_)
  case y5 => obtain ⟨d0, d1⟩ := hS'; go_simp; rfl
  refine take_one 6 hS7 rfl (by kernel_rfl) (by kernel_rfl) ?_
  apply Exists.intro
  refine And.intro (fun W' hS' => ?y6) (And.intro (fun _ _ _ h => h) ?_)
  case y6 => obtain ⟨d0, d1⟩ := hS'; go_simp; rfl
  refine take_one 7 hS7 rfl (by kernel_rfl) (by kernel_rfl) ?_
  apply Exists.intro
  refine And.intro (fun W' hS' => ?y7) (And.intro (fun _ _ _ h => h) ?_)
  case y7 => obtain ⟨d0, d1⟩ := hS'; go_simp; rfl
  refine take_one 8 hS7 rfl (by kernel_rfl) (by kernel_rfl) ?_
  apply Exists.intro
  refine And.intro (fun W' hS' => ?y8) (And.intro (fun _ _ _ h => h) ?_)
  case y8 => obtain ⟨d0, d1⟩ := hS'; go_simp; rfl
  refine take_one 9 hS7 rfl (by kernel_rfl) (by kernel_rfl) ?_
  apply Exists.intro
  refine And.intro (fun W' hS' => ?y9) (And.intro (fun _ _ _ h => h) ?_)
  case y9 => obtain ⟨d0, d1⟩ := hS'; go_simp; rfl
  refine take_one 10 hS7 rfl (by kernel_rfl) (by kernel_rfl) ?_
  apply Exists.intro
  refine And.intro (fun W' hS' => ?y10) (And.intro (fun _ _ _ h => h) ?_)
  case y10 => obtain ⟨d0, d1⟩ := hS'; go_simp; rfl
  refine take_one 11 hS7 rfl (by kernel_rfl) (by kernel_rfl) ?_
  apply Exists.intro
  refine And.intro (fun W' hS' => ?y11) (And.intro (fun _ _ _ h => h) ?_)
  case y11 => obtain ⟨d0, d1⟩ := hS'; go_simp; rfl
  refine take_one 12 hS7 rfl (by kernel_rfl) (by kernel_rfl) ?_
  apply Exists.intro
  refine And.intro (fun W' hS' => ?y12) (And.intro (fun _ _ _ h => h) ?_)
  case y12 => obtain ⟨d0, d1⟩ := hS'; obtain ⟨g0, g1, g2, g3, g4, g5, g6, g7, g8⟩ := d0.cells9; obtain ⟨h0, h1, h2, h3, h4, h5, h6, h7, h8⟩ := d1.cells9; go_simp; rfl
  refine take_one 13 hS7 rfl (by kernel_rfl) (by kernel_rfl) ?_
  apply Exists.intro
  refine And.intro (fun W' hS' => ?y13) (And.intro (fun _ _ _ h => h) ?_)
  case y13 => obtain ⟨d0, d1⟩ := hS'; obtain ⟨g0, g1, g2, g3, g4, g5, g6, g7, g8⟩ := d0.cells9; obtain ⟨h0, h1, h2, h3, h4, h5, h6, h7, h8⟩ := d1.cells9; go_simp; rfl
  refine only_one 14 rfl (by kernel_rfl) (by kernel_rfl) ?_
  go_simp
  have hsm := same_some w7 k V tx A3 l c3 k V tx A5 l c5 (HLP.out.chg hT7) (HLQ.out.chg hT7) (by omega) (by omega)
  rw [sameF_refl] at hsm
  refine hsm.mono ?_
  rintro e w8 ⟨rfl, hC8⟩
  have hS8 : PktAt w8 P k V tx (.slice A3 l.length c3) ∧ PktAt w8 Q k V tx (.slice A5 l.length c5) := ⟨hS7.1.keep hC8 (fun h => h), hS7.2.keep hC8 (fun h => h)⟩
  have hT8 := hT7.trans hC8
  refine ⟨hS8, ?_⟩
  refine take_one 15 hS8 rfl (by kernel_rfl) (by kernel_rfl) ?_
  apply Exists.intro
  refine And.intro (fun W' hS' => ?y15) (And.intro (fun _ _ _ h => h) ?_)
  case y15 => obtain ⟨d0, d1⟩ := hS'; go_simp; rfl
  refine take_one 16 hS8 rfl (by kernel_rfl) (by kernel_rfl) ?_
  apply Exists.intro
  refine And.intro (fun W' hS' => ?y16) (And.intro (fun _ _ _ h => h) ?_)
  case y16 => obtain ⟨d0, d1⟩ := hS'; go_simp; rfl
  refine take_one 17 hS8 rfl (by kernel_rfl) (by kernel_rfl) ?_
  apply Exists.intro
  refine And.intro (fun W' hS' => ?y17) (And.intro (fun _ _ _ h => h) ?_)
  case y17 => obtain ⟨d0, d1⟩ := hS'; obtain ⟨g0, g1, g2, g3, g4, g5, g6, g7, g8⟩ := d0.cells9; obtain ⟨h0, h1, h2, h3, h4, h5, h6, h7, h8⟩ := d1.cells9; go_simp; rfl
  refine take_one 18 hS8 rfl (by kernel_rfl) (by kernel_rfl) ?_
  apply Exists.intro
  refine And.intro (fun W' hS' => ?y18) (And.intro (fun _ _ _ h => h) ?_)
  case y18 => obtain ⟨d0, d1⟩ := hS'; obtain ⟨g0, g1, g2, g3, g4, g5, g6, g7, g8⟩ := d0.cells9; obtain ⟨h0, h1, h2, h3, h4, h5, h6, h7, h8⟩ := d1.cells9; go_simp; rfl
  refine only_one 19 rfl (by kernel_rfl) (by kernel_rfl) ?_
  go_simp
  refine (copy_some w8 k V tx A3 l c3 (HLP.out.chg hT8) (by omega)).mono ?_
  rintro e w9 ⟨v9, rfl, ho9, hC9⟩
  obtain ⟨A9, c9, rfl, hl9⟩ := own_lines ho9
  have hS9 : PktAt w9 P k V tx (.slice A3 l.length c3) ∧ PktAt w9 Q k V tx (.slice A5 l.length c5) := ⟨hS8.1.keep hC9 (fun h => h), hS8.2.keep hC9 (fun h => h)⟩
  have hT9 := hT8.trans hC9
  refine ⟨hS9, ?_⟩
  refine only_one 20 rfl (by kernel_rfl) (by kernel_rfl) ?_
  go_simp
  have hsm9 := same_some w9 k V tx A5 l c5 k V tx A9 l c9 (HLQ.out.chg hT9) hl9 (by omega) (by omega)
  rw [sameF_refl] at hsm9
  refine hsm9.mono ?_
  rintro e w10 ⟨rfl, hC10⟩
  have hS10 : PktAt w10 P k V tx (.slice A3 l.length c3) ∧ PktAt w10 Q k V tx (.slice A5 l.length c5) := ⟨hS9.1.keep hC10 (fun h => h), hS9.2.keep hC10 (fun h => h)⟩
  refine ⟨hS10, ?_⟩
  refine take_one 21 hS10 rfl (by kernel_rfl) (by kernel_rfl) ?_
  apply Exists.intro
  refine And.intro (fun W' hS' => ?y21) (And.intro (fun _ _ _ h => h) ?_)
  case y21 => obtain ⟨d0, d1⟩ := hS'; go_simp; rfl
  refine take_one 22 hS10 rfl (by kernel_rfl) rfl ?_
  apply Exists.intro
  refine And.intro (fun W' hS' => ?y22) (And.intro (fun _ _ _ h => h) ?_)
  case y22 => obtain ⟨d0, d1⟩ := hS'; go_simp; rfl
  refine all_done (by kernel_rfl) ?_ _
  have HF := Lib.hid (HAL5.out.trans (hT9.trans hC10))
  clear hS hS7 hS8 hS9 hS10 hch hsm hsm9 hC7 hC8 hC9 hC10 hT7 hT8 hT9 hd ho9 hl9 hck0
  go_wp2_with fail
  go_ret
  exact ⟨rfl, HF.out⟩
theorem PushBack_calls (kd n0 n1 n2 n3 n4 n5 : Int) (tx0 : ByteArray) (A : Option Addr) (L : List ByteArray) (c : Nat) (w : World) (hW : WOk w) (hl : Lns w A L) (hs : ∀ s ∈ L, s.size ≤ 9223372036854775807) (hL : L.length ≤ 9223372036854775807)
    (hk : I64 kd) (h0 : I64 n0) (h1 : I64 n1) (h2 : I64 n2) (h3 : I64 n3) (h4 : I64 n4) (h5 : I64 n5) :
    Calls Tryd.prog 9 #[.agg (seedC kd n0 n1 n2 n3 n4 n5 tx0 (.slice A L.length c))] w fun e w' => e = .returned (.bool true) ∧ Chg (fun _ => False) w w' :=
  back_any w kd n0 n1 n2 n3 n4 n5 tx0 A L c hW hl hs hL hk h0 h1 h2 h3 h4 h5
end Go.Proofs.YteiedafdakffeaaDoor
