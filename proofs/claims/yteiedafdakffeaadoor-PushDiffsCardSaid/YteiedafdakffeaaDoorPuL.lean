/- push: the document's cursor: take, number, text; within, Same. -/
import Derived.Test.YteiedafdakffeaaDoorPuK
namespace Go.Proofs.YteiedafdakffeaaDoor
set_option linter.unusedVariables false
set_option linter.unusedSimpArgs false
open Go Go.RowKit Go.Proofs
open Go.Proofs.YteiedafdakffeaaDoorW.PrintWords (Kd bytesOf bytesOf_length ReadsInt ReadsOf print_take_of print_drop_of)
/-- the cursor in block C: what is left (bytes of world w0), and the error -/
def RCur (w0 w : World) (C : Nat) (b : List Int) (e : Int) : Prop :=
  ∃ A cap, w.heap[C]? = some (.cells #[.slice A b.length cap, .int .i64 e] 70 (0, 0)) ∧ b.length ≤ cap ∧ ReadsInt w0 .u8 A b.length b
set_option maxRecDepth 100000 in
set_option maxHeartbeats 4000000 in
theorem rtake_some (w0 w : World) (C : Nat) (b : List Int) (e : Int) (n : Nat) (hn : n ≤ 9223372036854775807) (hcur : RCur w0 w C b e) :
    Calls Tryd.prog 69 #[.pointer (some ⟨C, 0, none⟩), .int .i64 n] w fun en w' => ∃ A1 c1, en = .returned (.slice A1 (takeL b e n).length c1) ∧ (takeL b e n).length ≤ c1 ∧ ReadsInt w0 .u8 A1 (takeL b e n).length (takeL b e n) ∧ RCur w0 w' C (takeR b e n) (takeE b e n) ∧ Chg (fun k => k = C) w w' := by
  obtain ⟨A, cap, hH, hcap, hR⟩ := hcur
  have hmx : b.length ≤ 9223372036854775807 := hR.2.1
  have c0 : w.cell? ⟨C, 0, none⟩ = some (.slice A b.length cap) := cell_of_heap hH 0
  have c1 : w.cell? ⟨C, 1, none⟩ = some (.int .i64 e) := cell_of_heap hH 1
  have hf := fun i => free_of_heap hH i
  have f0 := hf 0
  have f1 := hf 1
  clear hf
  have HH := Lib.hid hH
  have HR := Lib.hid hR
  by_cases he : e = 0
  · subst he
    by_cases hle : n ≤ b.length
    · have e1 : takeL b 0 n = b.take n := by unfold takeL; rw [if_pos rfl, if_pos hle]
      have e2 : takeR b 0 n = b.drop n := by unfold takeR; rw [if_pos rfl, if_pos hle]
      have e3 : takeE b 0 n = 0 := by unfold takeE; rw [if_pos rfl, if_pos hle]
      rw [e1, e2, e3]
      obtain ⟨i0, hi, hz0, hz1, hz2⟩ := info_parts info5
      obtain ⟨hcut, hA, hC⟩ := print_take_of (P := Tryd.prog) (Value.int .u8) (0 : Int) 22 5 .i64 Tryd.underlying22 hi hz1 A cap b (n : Int) (by omega) (by omega) hcap
      obtain ⟨A', hcut2, hA2, hC2⟩ := print_drop_of (P := Tryd.prog) (Value.int .u8) (0 : Int) 22 5 .i64 Tryd.underlying22 hi hz1 A cap b (n : Int) (by omega) (by omega) hcap
      rw [Int.toNat_natCast] at hcut hA hC hcut2 hA2 hC2
      have HA := Lib.hid (hA w0 HR.out)
      have HA2 := Lib.hid (hA2 w0 HR.out)
      have HC := Lib.hid hC
      have HC2 := Lib.hid hC2
      clear hA hA2 hC hC2 e1 e2 e3 hH hR hi hz0 hz1 hz2
      go_enter Tryd.func69, Tryd.ntmps69
      go_wp2_with fail
      go_ret
      have hCh : Chg (fun k => k = C) w (w.setCell ⟨C, 0, none⟩ (.slice A' (b.length - n) (cap - n))) := (Chg.refl (fun k => k = C) w).setCell (p := ⟨C, 0, none⟩) (.inl rfl) _
      refine ⟨A, cap, by rw [show (b.take n).length = n by rw [List.length_take]; omega]; rfl, HC.out, HA.out, ⟨A', cap - n, ?_, HC2.out, HA2.out⟩, hCh⟩
      rw [heap_setCell_cells HH.out, List.length_drop]
      rfl
    · have e1 : takeL b 0 n = [] := by unfold takeL; rw [if_pos rfl, if_neg hle]
      have e2 : takeR b 0 n = b := by unfold takeR; rw [if_pos rfl, if_neg hle]
      have e3 : takeE b 0 n = 3 := by unfold takeE; rw [if_pos rfl, if_neg hle]
      rw [e1, e2, e3]
      clear e1 e2 e3 hH hR
      go_enter Tryd.func69, Tryd.ntmps69
      go_wp2_with fail
      go_ret
      have hCh : Chg (fun k => k = C) w (w.setCell ⟨C, 1, none⟩ (.int .i64 3)) := (Chg.refl (fun k => k = C) w).setCell (p := ⟨C, 1, none⟩) (.inl rfl) _
      refine ⟨none, 0, rfl, Nat.le_refl _, ⟨rfl, by simp, fun h => absurd h (by simp)⟩, ⟨A, cap, ?_, hcap, HR.out⟩, hCh⟩
      rw [heap_setCell_cells HH.out]
      rfl
  · have e1 : takeL b e n = [] := by unfold takeL; rw [if_neg he]
    have e2 : takeR b e n = b := by unfold takeR; rw [if_neg he]
    have e3 : takeE b e n = e := by unfold takeE; rw [if_neg he]
    rw [e1, e2, e3]
    have h1 : (e == 0) = false := beq_eq_false_iff_ne.2 he
    have h2 : (e != 0) = true := bne_iff_ne.2 he
    clear e1 e2 e3 hH hR he
    go_enter Tryd.func69, Tryd.ntmps69
    go_wp2_with fail
    go_ret
    exact ⟨none, 0, rfl, Nat.le_refl _, ⟨rfl, by simp, fun h => absurd h (by simp)⟩, ⟨A, cap, HH.out, hcap, HR.out⟩, Chg.refl _ _⟩
theorem RCur.setE {w0 w : World} {C : Nat} {b : List Int} {e : Int} (h : RCur w0 w C b e) (x : Int) : RCur w0 (w.setCell ⟨C, 1, none⟩ (.int .i64 x)) C b x := by
  obtain ⟨A, cap, hH, hcap, hR⟩ := h
  refine ⟨A, cap, ?_, hcap, hR⟩
  rw [heap_setCell_cells hH]
  rfl
theorem RCur.keep {w0 w w' : World} {S : Nat → Prop} {C : Nat} {b : List Int} {e : Int} (h : RCur w0 w C b e) (hC : Chg S w w') (hS : ¬ S C) : RCur w0 w' C b e := by
  obtain ⟨A, cap, hH, hcap, hR⟩ := h
  exact ⟨A, cap, hC.keep hH hS, hcap, hR⟩
set_option maxRecDepth 100000 in
set_option maxHeartbeats 4000000 in
theorem rnumber_some (w0 w : World) (C : Nat) (b : List Int) (e : Int) (n : Nat) (most : Int) (hn : n ≤ 7) (h0 : Chg (fun _ => False) w0 w) (hC0 : w0.heap.size ≤ C) (hcur : RCur w0 w C b e) (hb : ∀ x ∈ b, 0 ≤ x ∧ x ≤ 255) :
    Calls Tryd.prog 39 #[.pointer (some ⟨C, 0, none⟩), .int .i64 n, .int .i64 most] w fun en w' => en = .returned (.int .i64 (numOf (takeL b e n))) ∧ RCur w0 w' C (takeR b e n) (limE (numOf (takeL b e n)) most (takeE b e n)) ∧ Chg (fun k => k = C) w w' := by
  have ht := rtake_some w0 w C b e n (by omega) hcur
  have hLb : ∀ x ∈ takeL b e n, 0 ≤ x ∧ x ≤ 255 := fun x hx => hb x (takeL_sub hx)
  have hLl : (takeL b e n).length ≤ 7 := Nat.le_trans (takeL_len b e n) hn
  generalize takeL b e n = L at *
  generalize takeR b e n = R1 at *
  generalize takeE b e n = E1 at *
  have HT := Lib.hid ht
  have H0 := Lib.hid h0
  clear h0
  have HLB := Lib.hid hLb
  clear ht hcur hLb hb
  go_enter Tryd.func39, Tryd.ntmps39
  go_wp2_with fail
  refine HT.out.mono ?_
  rintro en w2 ⟨A1, c1, rfl, hc1, hR0, hC, hCh⟩
  have hR := reads_keep hR0 (H0.out.trans' hCh (fun i h1 h2 => by omega))
  have HC := Lib.hid hC
  have HR := Lib.hid hR
  clear hR0
  have HCH := Lib.hid hCh
  clear HT hC hR hCh
  go_wp2_with fail
  go_loop [7, 9] (fun s4 i => ∃ j : Nat, j ≤ L.length ∧ i = .int .i64 j ∧ s4 = .int .i64 (numOf (L.take j))) (fun _ i => L.length - (intOf i).toNat)
  case atStart => exact ⟨0, by omega, rfl, rfl⟩
  case round =>
    obtain ⟨j, hj, rfl, rfl⟩ := hrel
    by_cases hlt : j < L.length
    · obtain ⟨ad, rfl, hcell⟩ := HR.out.2.2 (by omega)
      have cj := hcell j hlt
      have hx : L.getD j 0 = L[j] := by simp [List.getD, hlt]
      have hxb := HLB.out L[j] (List.getElem_mem hlt)
      have hts : L.take (j + 1) = L.take j ++ [L[j]] := by rw [List.take_add_one, List.getElem?_eq_getElem hlt]; rfl
      have h6 := numOf_lt6 (L.take j) (fun x hx => HLB.out x (List.mem_of_mem_take hx)) (by rw [List.length_take]; omega)
      have hor := or_byte (numOf (L.take j)) L[j] h6.1 h6.2 hxb.1 hxb.2
      have hns := numOf_snoc (L.take j) L[j]
      rw [← hts] at hns
      rw [hx] at cj
      rw [← hns] at hor
      have hsp : ad.spot = none := (show (ad.add 0).spot = ad.spot by simp [Addr.add]).symm.trans (World.cell?_spot (hcell 0 (by omega)))
      obtain ⟨g, p, s⟩ := ad
      simp at hsp
      subst hsp
      have ea : (⟨g, p, none⟩ : Addr).add j = ⟨g, p + j, none⟩ := by
        unfold Addr.add
        by_cases hj : j = 0
        · subst hj; simp
        · simp [hj]
      rw [ea] at cj
      clear hcell hx hts hns ea
      generalize L[j] = x at *
      generalize hNN : numOf (L.take (j + 1)) = N1 at *
      have HNN := Lib.hid hNN
      clear hNN
      generalize hN : numOf (L.take j) = N at *
      have hN1 : wrap64 (N * 256) = N * 256 := by unfold wrap64; omega
      go_wp2_with fail
      go_round
      case rel => exact ⟨j + 1, by omega, by go_num, by rw [HNN.out]⟩
      case measure => simp [intOf] <;> omega
    · obtain rfl : j = L.length := by omega
      rw [List.take_length]
      obtain ⟨A2, cap2, hH2, hcap2, hR2⟩ := HC.out
      have q1 : w2.cell? ⟨C, 1, none⟩ = some (.int .i64 E1) := cell_of_heap hH2 1
      have q2 := free_of_heap hH2 1
      clear hH2 hcap2 hR2
      by_cases hE : E1 = 0
      · subst hE
        by_cases hM : most < numOf L
        · have e1 := Lib.hid (show limE (numOf L) most 0 = 5 by unfold limE; rw [if_pos rfl, if_pos hM])
          go_wp2_with fail
          go_ret
          exact ⟨rfl, by rw [e1.out]; exact HC.out.setE 5, HCH.out.trans ((Chg.refl (fun k => k = C) w2).setCell (p := ⟨C, 1, none⟩) (.inl rfl) _)⟩
        · have e1 := Lib.hid (show limE (numOf L) most 0 = 0 by unfold limE; rw [if_pos rfl, if_neg hM])
          go_wp2_with fail
          go_ret
          exact ⟨rfl, by rw [e1.out]; exact HC.out, HCH.out⟩
      · have e1 := Lib.hid (show limE (numOf L) most E1 = E1 by unfold limE; rw [if_neg hE])
        have g1 : (E1 == 0) = false := beq_eq_false_iff_ne.2 hE
        clear hE
        go_wp2_with fail
        go_ret
        exact ⟨rfl, by rw [e1.out]; exact HC.out, HCH.out⟩
set_option maxRecDepth 100000 in
set_option maxHeartbeats 4000000 in
theorem rtext_some (w0 w : World) (C : Nat) (b : List Int) (e : Int) (h0 : Chg (fun _ => False) w0 w) (hC0 : w0.heap.size ≤ C) (hcur : RCur w0 w C b e) (hb : ∀ x ∈ b, 0 ≤ x ∧ x ≤ 255) :
    Calls Tryd.prog 42 #[.pointer (some ⟨C, 0, none⟩)] w fun en w' => en = .returned (.string (textV b e)) ∧ RCur w0 w' C (textRB b e) (textRE b e) ∧ Chg (fun k => k = C) w w' := by
  have hn := rnumber_some w0 w C b e 3 65536 (by omega) h0 hC0 hcur hb
  have hlt := numOf_lt7 (takeL b e 3) (fun x hx => hb x (takeL_sub hx)) (Nat.le_trans (takeL_len b e 3) (by omega))
  have HN := Lib.hid hn
  have H0 := Lib.hid h0
  clear h0
  have HLT := Lib.hid hlt
  clear hn hlt hb hcur
  have HV : Hid (textV b e = strOfNums (takeL (takeR b e 3) (limE (numOf (takeL b e 3)) 65536 (takeE b e 3)) (numOf (takeL b e 3)).toNat)) := Lib.hid rfl
  have HRB : Hid (textRB b e = takeR (takeR b e 3) (limE (numOf (takeL b e 3)) 65536 (takeE b e 3)) (numOf (takeL b e 3)).toNat) := Lib.hid rfl
  have HRE : Hid (textRE b e = takeE (takeR b e 3) (limE (numOf (takeL b e 3)) 65536 (takeE b e 3)) (numOf (takeL b e 3)).toNat) := Lib.hid rfl
  generalize numOf (takeL b e 3) = N at *
  obtain ⟨m, rfl⟩ := Int.eq_ofNat_of_zero_le HLT.out.1
  have hm : m < 72057594037927936 := by have := HLT.out.2; omega
  rw [Int.toNat_natCast] at HV HRB HRE
  generalize takeE b e 3 = E1 at *
  generalize takeR b e 3 = R1 at *
  go_enter Tryd.func42, Tryd.ntmps42
  go_wp2_with fail
  refine HN.out.mono ?_
  rintro en w2 ⟨rfl, hC2, hCh2⟩
  have HCH2 := Lib.hid hCh2
  have htk := rtake_some w0 w2 C R1 (limE (m : Int) 65536 E1) m (by omega) hC2
  have HTK := Lib.hid htk
  have HCH3 := Lib.hid HCH2.out
  clear HN hC2 hCh2 htk HCH2
  go_wp2_with fail
  refine HTK.out.mono ?_
  rintro en w4 ⟨A1, c1, rfl, hc1, hR0, hC4, hCh4⟩
  have hR := reads_keep hR0 (H0.out.trans' (HCH3.out.trans hCh4) (fun i h1 h2 => by omega))
  clear hR0
  have hconv := Kd.C_string (P := Tryd.prog) (A := A1) (c := c1) Tryd.underlying22 Tryd.underlying5 Tryd.underlying9 (Kd.C_of_reads (d := (0 : Int)) (h1 := fun _ => rfl) hR)
  have HC4 := Lib.hid hC4
  have HCH4 := Lib.hid (HCH3.out.trans hCh4)
  clear HTK hR hC4 hCh4 HCH3
  go_wp2_with fail
  go_ret
  exact ⟨by rw [HV.out]; rfl, by rw [HRB.out, HRE.out]; exact HC4.out, HCH4.out⟩
end Go.Proofs.YteiedafdakffeaaDoor
