/- push: the law PushAgain, walked: it returns true at every input. -/
import Derived.Test.YteiedafdakffeaaDoorPuF
import Derived.Test.YteiedafdakffeaaDoorPuG
namespace Go.Proofs.YteiedafdakffeaaDoor
set_option linter.unusedVariables false
set_option linter.unusedSimpArgs false
open Go Go.RowKit Go.Proofs
open Go.Proofs.YteiedafdakffeaaDoorW.PrintWords (Kd ReadsInt ReadsOf own_move print_drop_of print_take_of gate_dst gate_store bytesOf bytesOf_length)
attribute [local go_sem] Go.Proofs.YteiedafdakffeaaDoorW.PrintMore.min2_int Go.Proofs.YteiedafdakffeaaDoorW.PrintMore.min_two
theorem sameZero : sameF 0 zeroV ByteArray.empty [] 0 zeroV ByteArray.empty [] = true := by kernel_rfl
set_option maxRecDepth 100000 in
set_option maxHeartbeats 8000000 in
theorem again_any (w : World) (A : Option Addr) (c n : Nat) (l : List Int) (hW : WOk w) (hR : ReadsInt w .u8 A l.length l) (hc : l.length ≤ c) (hb : Bys l) (hl : l.length ≤ 140737488351232) (hn : (if 2000 < l.length then 2000 else l.length) = n) :
    Calls Tryd.prog 5 #[.slice A l.length c] w fun e w' => e = .returned (.bool true) ∧ Chg (fun _ => False) w w' := by
  obtain ⟨i0, hi, hz0, hz1, hz2⟩ := info_parts info5
  have hnl : n ≤ l.length := by rw [← hn]; split <;> omega
  obtain ⟨hcut, hA, hC⟩ := print_take_of (P := Tryd.prog) (Value.int .u8) (0 : Int) 22 5 .i64 Tryd.underlying22 hi hz1 A c l (n : Int) (by omega) (by omega) hc
  rw [Int.toNat_natCast] at hcut hA hC
  have hRb := hA w hR
  have hbb : Bys (l.take n) := fun x hx => hb x (List.mem_of_mem_take hx)
  have hnI : (if (2000 : Int) < (l.length : Int) then (2000 : Int) else (l.length : Int)) = (n : Int) := by rw [← hn]; split <;> split <;> omega
  have hpar := parse_some w A (l.take n) c hRb hC hbb
  have hinv := parse_inv (l.take n) hbb
  have herr := parse_err (l.take n)
  generalize l.take n = b at *
  obtain ⟨p, hpp⟩ : ∃ p, parseP b = p := ⟨_, rfl⟩
  rw [hpp] at hpar hinv herr
  have HPAR := Lib.hid hpar
  have HINV := Lib.hid hinv
  have HERR := Lib.hid herr
  have HRB := Lib.hid hRb
  have HW := Lib.hid hW
  clear hpar hinv herr hRb hW hpp hR hb hA hbb hi hz0 hz1 hz2 hn
  obtain ⟨N, hN⟩ : ∃ N : Int, (n : Int) = N := ⟨_, rfl⟩
  rw [hN] at hcut hnI
  have HBL : Hid (b.length = b.length) := Lib.hid rfl
  by_cases hlt : 2000 < l.length
  · obtain rfl : N = 2000 := by rw [← hnI, if_pos (by omega)]
    clear hnI hN hnl
    go_enter Tryd.func5, Tryd.ntmps5
    go_wp2_with fail
    refine HPAR.out.mono ?_
    rintro e w2 ⟨v, rfl, ho, hC2⟩
    obtain ⟨A2, c2, rfl, hL2⟩ := own_lines ho
    have HO2 := Lib.hid ho
    have HL2 := Lib.hid hL2
    have HC2 := Lib.hid hC2
    clear ho hL2 hC2 HPAR
    obtain ⟨k, V, tx, pl, pe⟩ := p
    simp only at *
    have hal := (Chg.refl (fun _ => False) w2).alloc (.cells #[.int .i64 k, .int .i64 (V 1), .int .i64 (V 2), .int .i64 (V 3), .int .i64 (V 4), .int .i64 (V 5), .int .i64 (V 6), .string tx, .slice A2 pl.length c2] 26)
    by_cases he : pe = 0
    · subst he
      obtain ⟨hck, hpb⟩ := HINV.out rfl
      obtain ⟨⟨hk1, hk5⟩, hbt, hbf, hbs, hbn, _, _, _⟩ := check_bounds hck
      have hp2 := heap_new w2 (.cells #[.int .i64 k, .int .i64 (V 1), .int .i64 (V 2), .int .i64 (V 3), .int .i64 (V 4), .int .i64 (V 5), .int .i64 (V 6), .string tx, .slice A2 pl.length c2] 26)
      have hby := bytes_ok (w2.alloc (.cells #[.int .i64 k, .int .i64 (V 1), .int .i64 (V 2), .int .i64 (V 3), .int .i64 (V 4), .int .i64 (V 5), .int .i64 (V 6), .string tx, .slice A2 pl.length c2] 26)) k (V 1) (V 2) (V 3) (V 4) (V 5) (V 6) tx A2 pl c2 (HL2.out.chg hal) hbn hbs hbt hk1 hk5 hck
      rw [hpb] at hby
      have HBY := Lib.hid hby
      have HCK := Lib.hid hck
      have HP2 := Lib.hid hp2
      have HAL := Lib.hid (HC2.out.trans hal)
      have HLL := Lib.hid (HL2.out.chg hal)
      clear hck hpb hby hp2 hal HINV HERR HL2 HO2 HC2 hk1 hk5
      go_wp2_with fail
      refine HBY.out.mono ?_
      rintro e w3 ⟨v3, rfl, ho3, hC3⟩
      obtain ⟨A3, c3, rfl, hc3, hR3⟩ := own_bytes ho3
      have HC3 := Lib.hid (HAL.out.trans hC3)
      have HR3 := Lib.hid hR3
      have HP3 := Lib.hid (hC3.keep HP2.out (fun h => h))
      have HLL3 := Lib.hid (HLL.out.chg hC3)
      have HEQ := Lib.hid (eqBytes_some w3 A A3 b b c c3 (reads_keep HRB.out HC3.out) hR3)
      clear ho3 hR3 hC3 HBY HAL HP2 HLL
      go_wp2_with fail
      refine HEQ.out.mono ?_
      rw [beq_self_eq_true]
      rintro e w4 ⟨rfl, rfl⟩
      have hch := check_all w4 k (V 1) (V 2) (V 3) (V 4) (V 5) (V 6) tx A2 pl c2 HLL3.out (by omega) (by omega)
      have hckk : checkF k (V 1) (V 2) (V 3) (V 4) (V 5) (V 6) tx pl = 0 := HCK.out
      rw [hckk] at hch
      have HCH := Lib.hid hch
      clear hch hckk HEQ
      have g0 : w4.cell? ⟨w2.heap.size, 0, none⟩ = some (.int .i64 k) := cell_of_heap HP3.out 0
      have g1 : w4.cell? ⟨w2.heap.size, 1, none⟩ = some (.int .i64 (V 1)) := cell_of_heap HP3.out 1
      have g2 : w4.cell? ⟨w2.heap.size, 2, none⟩ = some (.int .i64 (V 2)) := cell_of_heap HP3.out 2
      have g3 : w4.cell? ⟨w2.heap.size, 3, none⟩ = some (.int .i64 (V 3)) := cell_of_heap HP3.out 3
      have g4 : w4.cell? ⟨w2.heap.size, 4, none⟩ = some (.int .i64 (V 4)) := cell_of_heap HP3.out 4
      have g5 : w4.cell? ⟨w2.heap.size, 5, none⟩ = some (.int .i64 (V 5)) := cell_of_heap HP3.out 5
      have g6 : w4.cell? ⟨w2.heap.size, 6, none⟩ = some (.int .i64 (V 6)) := cell_of_heap HP3.out 6
      have g7 : w4.cell? ⟨w2.heap.size, 7, none⟩ = some (.string tx) := cell_of_heap HP3.out 7
      have g8 : w4.cell? ⟨w2.heap.size, 8, none⟩ = some (.slice A2 pl.length c2) := cell_of_heap HP3.out 8
      go_wp2_with fail
      refine HCH.out.mono ?_
      rintro e w5 ⟨rfl, hC5⟩
      have HC5 := Lib.hid (HC3.out.trans hC5)
      have HWK := Lib.hid (works_some w5 (HW.out.chg HC5.out))
      clear hC5 HCH HC3 g0 g1 g2 g3 g4 g5 g6 g7 g8
      go_wp2_with fail
      refine HWK.out.mono ?_
      rintro e w6 ⟨rfl, hC6⟩
      have HC6 := Lib.hid (HC5.out.trans hC6)
      clear hC6
      go_wp2_with fail
      go_ret
      exact ⟨rfl, HC6.out⟩
    · have hx := HERR.out he
      unfold noPkt at hx
      simp only [Pkt.mk.injEq, and_true] at hx
      obtain ⟨rfl, rfl, rfl, rfl⟩ := hx
      have hsm := same_some (w2.alloc (.cells #[.int .i64 0, .int .i64 (zeroV 1), .int .i64 (zeroV 2), .int .i64 (zeroV 3), .int .i64 (zeroV 4), .int .i64 (zeroV 5), .int .i64 (zeroV 6), .string ByteArray.empty, .slice A2 ([] : List ByteArray).length c2] 26)) 0 zeroV ByteArray.empty A2 [] c2 0 zeroV ByteArray.empty none [] 0 (fun i hi => by simp at hi) (fun i hi => by simp at hi) (by simp) (by simp)
      rw [sameZero] at hsm
      have HSM := Lib.hid hsm
      have hpe : (pe != 0) = true := bne_iff_ne.2 he
      have HAL := Lib.hid (HC2.out.trans hal)
      clear hsm hal he HERR HINV HO2 HL2 HC2
      go_wp2_with fail
      refine HSM.out.mono ?_
      rintro e w5 ⟨rfl, hC5⟩
      have HC5 := Lib.hid (HAL.out.trans hC5)
      have HWK := Lib.hid (works_some w5 (HW.out.chg HC5.out))
      clear hC5 HSM HAL
      go_wp2_with fail
      refine HWK.out.mono ?_
      rintro e w6 ⟨rfl, hC6⟩
      have HC6 := Lib.hid (HC5.out.trans hC6)
      clear hC6
      go_wp2_with fail
      go_ret
      exact ⟨rfl, HC6.out⟩
  · obtain rfl : N = (l.length : Int) := by rw [← hnI, if_neg (by omega)]
    clear hnI hN hnl
    go_enter Tryd.func5, Tryd.ntmps5
    go_wp2_with fail
    refine HPAR.out.mono ?_
    rintro e w2 ⟨v, rfl, ho, hC2⟩
    obtain ⟨A2, c2, rfl, hL2⟩ := own_lines ho
    have HO2 := Lib.hid ho
    have HL2 := Lib.hid hL2
    have HC2 := Lib.hid hC2
    clear ho hL2 hC2 HPAR
    obtain ⟨k, V, tx, pl, pe⟩ := p
    simp only at *
    have hal := (Chg.refl (fun _ => False) w2).alloc (.cells #[.int .i64 k, .int .i64 (V 1), .int .i64 (V 2), .int .i64 (V 3), .int .i64 (V 4), .int .i64 (V 5), .int .i64 (V 6), .string tx, .slice A2 pl.length c2] 26)
    by_cases he : pe = 0
    · subst he
      obtain ⟨hck, hpb⟩ := HINV.out rfl
      obtain ⟨⟨hk1, hk5⟩, hbt, hbf, hbs, hbn, _, _, _⟩ := check_bounds hck
      have hp2 := heap_new w2 (.cells #[.int .i64 k, .int .i64 (V 1), .int .i64 (V 2), .int .i64 (V 3), .int .i64 (V 4), .int .i64 (V 5), .int .i64 (V 6), .string tx, .slice A2 pl.length c2] 26)
      have hby := bytes_ok (w2.alloc (.cells #[.int .i64 k, .int .i64 (V 1), .int .i64 (V 2), .int .i64 (V 3), .int .i64 (V 4), .int .i64 (V 5), .int .i64 (V 6), .string tx, .slice A2 pl.length c2] 26)) k (V 1) (V 2) (V 3) (V 4) (V 5) (V 6) tx A2 pl c2 (HL2.out.chg hal) hbn hbs hbt hk1 hk5 hck
      rw [hpb] at hby
      have HBY := Lib.hid hby
      have HCK := Lib.hid hck
      have HP2 := Lib.hid hp2
      have HAL := Lib.hid (HC2.out.trans hal)
      have HLL := Lib.hid (HL2.out.chg hal)
      clear hck hpb hby hp2 hal HINV HERR HL2 HO2 HC2 hk1 hk5
      go_wp2_with fail
      refine HBY.out.mono ?_
      rintro e w3 ⟨v3, rfl, ho3, hC3⟩
      obtain ⟨A3, c3, rfl, hc3, hR3⟩ := own_bytes ho3
      have HC3 := Lib.hid (HAL.out.trans hC3)
      have HR3 := Lib.hid hR3
      have HP3 := Lib.hid (hC3.keep HP2.out (fun h => h))
      have HLL3 := Lib.hid (HLL.out.chg hC3)
      have HEQ := Lib.hid (eqBytes_some w3 A A3 b b c c3 (reads_keep HRB.out HC3.out) hR3)
      clear ho3 hR3 hC3 HBY HAL HP2 HLL
      go_wp2_with fail
      refine HEQ.out.mono ?_
      rw [beq_self_eq_true]
      rintro e w4 ⟨rfl, rfl⟩
      have hch := check_all w4 k (V 1) (V 2) (V 3) (V 4) (V 5) (V 6) tx A2 pl c2 HLL3.out (by omega) (by omega)
      have hckk : checkF k (V 1) (V 2) (V 3) (V 4) (V 5) (V 6) tx pl = 0 := HCK.out
      rw [hckk] at hch
      have HCH := Lib.hid hch
      clear hch hckk HEQ
      have g0 : w4.cell? ⟨w2.heap.size, 0, none⟩ = some (.int .i64 k) := cell_of_heap HP3.out 0
      have g1 : w4.cell? ⟨w2.heap.size, 1, none⟩ = some (.int .i64 (V 1)) := cell_of_heap HP3.out 1
      have g2 : w4.cell? ⟨w2.heap.size, 2, none⟩ = some (.int .i64 (V 2)) := cell_of_heap HP3.out 2
      have g3 : w4.cell? ⟨w2.heap.size, 3, none⟩ = some (.int .i64 (V 3)) := cell_of_heap HP3.out 3
      have g4 : w4.cell? ⟨w2.heap.size, 4, none⟩ = some (.int .i64 (V 4)) := cell_of_heap HP3.out 4
      have g5 : w4.cell? ⟨w2.heap.size, 5, none⟩ = some (.int .i64 (V 5)) := cell_of_heap HP3.out 5
      have g6 : w4.cell? ⟨w2.heap.size, 6, none⟩ = some (.int .i64 (V 6)) := cell_of_heap HP3.out 6
      have g7 : w4.cell? ⟨w2.heap.size, 7, none⟩ = some (.string tx) := cell_of_heap HP3.out 7
      have g8 : w4.cell? ⟨w2.heap.size, 8, none⟩ = some (.slice A2 pl.length c2) := cell_of_heap HP3.out 8
      go_wp2_with fail
      refine HCH.out.mono ?_
      rintro e w5 ⟨rfl, hC5⟩
      have HC5 := Lib.hid (HC3.out.trans hC5)
      have HWK := Lib.hid (works_some w5 (HW.out.chg HC5.out))
      clear hC5 HCH HC3 g0 g1 g2 g3 g4 g5 g6 g7 g8
      go_wp2_with fail
      refine HWK.out.mono ?_
      rintro e w6 ⟨rfl, hC6⟩
      have HC6 := Lib.hid (HC5.out.trans hC6)
      clear hC6
      go_wp2_with fail
      go_ret
      exact ⟨rfl, HC6.out⟩
    · have hx := HERR.out he
      unfold noPkt at hx
      simp only [Pkt.mk.injEq, and_true] at hx
      obtain ⟨rfl, rfl, rfl, rfl⟩ := hx
      have hsm := same_some (w2.alloc (.cells #[.int .i64 0, .int .i64 (zeroV 1), .int .i64 (zeroV 2), .int .i64 (zeroV 3), .int .i64 (zeroV 4), .int .i64 (zeroV 5), .int .i64 (zeroV 6), .string ByteArray.empty, .slice A2 ([] : List ByteArray).length c2] 26)) 0 zeroV ByteArray.empty A2 [] c2 0 zeroV ByteArray.empty none [] 0 (fun i hi => by simp at hi) (fun i hi => by simp at hi) (by simp) (by simp)
      rw [sameZero] at hsm
      have HSM := Lib.hid hsm
      have hpe : (pe != 0) = true := bne_iff_ne.2 he
      have HAL := Lib.hid (HC2.out.trans hal)
      clear hsm hal he HERR HINV HO2 HL2 HC2
      go_wp2_with fail
      refine HSM.out.mono ?_
      rintro e w5 ⟨rfl, hC5⟩
      have HC5 := Lib.hid (HAL.out.trans hC5)
      have HWK := Lib.hid (works_some w5 (HW.out.chg HC5.out))
      clear hC5 HSM HAL
      go_wp2_with fail
      refine HWK.out.mono ?_
      rintro e w6 ⟨rfl, hC6⟩
      have HC6 := Lib.hid (HC5.out.trans hC6)
      clear hC6
      go_wp2_with fail
      go_ret
      exact ⟨rfl, HC6.out⟩
theorem PushAgain_calls (A : Option Addr) (c : Nat) (l : List Int) (w : World) (hW : WOk w) (hR : ReadsInt w .u8 A l.length l) (hc : l.length ≤ c) (hb : Bys l) (hl : l.length ≤ 140737488351232) :
    Calls Tryd.prog 5 #[.slice A l.length c] w fun e w' => e = .returned (.bool true) ∧ Chg (fun _ => False) w w' := again_any w A c _ l hW hR hc hb hl rfl
end Go.Proofs.YteiedafdakffeaaDoor
