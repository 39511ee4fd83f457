/- push: the law PushReads, walked: it returns true at every input. -/
import Derived.Test.YteiedafdakffeaaDoorPuW
import Derived.Test.YteiedafdakffeaaDoorLawPushAgain
namespace Go.Proofs.YteiedafdakffeaaDoor
set_option linter.unusedVariables false
set_option linter.unusedSimpArgs false
open Go Go.RowKit Go.Proofs
open Go.Proofs.YteiedafdakffeaaDoorW.PrintWords (Kd ReadsInt ReadsOf own_move print_drop_of print_take_of gate_dst gate_store bytesOf bytesOf_length)
attribute [local go_sem] Go.Proofs.YteiedafdakffeaaDoorW.PrintMore.min2_int Go.Proofs.YteiedafdakffeaaDoorW.PrintMore.min_two
/-- a row of bytes in block g, whatever they are -/
def InRow (w : World) (g n : Nat) : Prop := ∃ cur : Array Value, w.heap[g]? = some (.cells cur 5 (0, 0)) ∧ ∀ i, i < n → ∃ x : Int, cur[i]? = some (.int .u8 x)
theorem InRow.at {w : World} {g n : Nat} (h : InRow w g n) (j : Nat) (hj : j < n) : ∃ x : Int, w.cell? ⟨g, j, none⟩ = some (.int .u8 x) ∧ w.frozen? ⟨g, j, none⟩ = false := by
  obtain ⟨cur, hg, hc⟩ := h
  obtain ⟨x, hx⟩ := hc j hj
  exact ⟨x, (cell_of_heap hg j).trans hx, free_of_heap hg j⟩
theorem InRow.set {w : World} {g n : Nat} (h : InRow w g n) (j : Nat) (x : Int) : InRow (w.setCell ⟨g, j, none⟩ (.int .u8 x)) g n := by
  obtain ⟨cur, hg, hc⟩ := h
  refine ⟨_, heap_setCell_cells hg j _, fun i hi => ?_⟩
  obtain ⟨y, hy⟩ := hc i hi
  have hil : i < cur.size := (Array.getElem?_eq_some_iff.1 hy).1
  by_cases e : j = i
  · subst e
    exact ⟨x, by rw [Array.getElem?_setIfInBounds_self_of_lt hil]⟩
  · exact ⟨y, by rw [Array.getElem?_setIfInBounds_ne e]; exact hy⟩
theorem in_row {W : World} {base : Nat} {A : Option Addr} {n c : Nat} {l : List Int} (h : W.ownsRow base 5 1 (.slice A n c) n (u8s l)) (hl : l.length = n) (h0 : 0 < n) : ∃ g, A = some ⟨g, 0, none⟩ ∧ base ≤ g ∧ InRow W g n := by
  obtain ⟨h1, h2⟩ := h
  rcases h2 with h2 | ⟨g, cap, cur, hv, hg, hh, hcs, hx⟩
  · exfalso
    have h3 := h2.2
    omega
  · cases hv
    refine ⟨g, rfl, hg, cur, hh, fun i hi => ?_⟩
    have hil : i < l.length := by omega
    have h3 : (List.take (n * 1) cur.toList)[i]? = (u8s l)[i]? := by rw [hx.2.2]
    rw [List.getElem?_take_of_lt (by omega)] at h3
    refine ⟨l[i], ?_⟩
    rw [← Array.getElem?_toList, h3]
    unfold u8s
    rw [List.getElem?_map, List.getElem?_eq_getElem hil]
    rfl
theorem parse_len (b : List Int) (hb : Bys b) : (parseP b).l.length ≤ 1000 := by
  rcases parse_shape b with h | h
  · rw [h]; simp [noPkt]
  · obtain ⟨hck, _⟩ := parse_inv b hb h
    obtain ⟨_, _, _, _, hn, _⟩ := check_bounds hck
    exact hn
set_option maxRecDepth 100000 in
set_option maxHeartbeats 8000000 in
theorem reads_any (w : World) (A : Option Addr) (c n : Nat) (l : List Int) (hW : WOk w) (hR : ReadsInt w .u8 A l.length l) (hc : l.length ≤ c) (hb : Bys l) (hl : l.length ≤ 140737488351232) (hn : (if 2000 < l.length then 2000 else l.length) = n) :
    Calls Tryd.prog 3 #[.slice A l.length c] w fun e w' => e = .returned (.bool true) ∧ Chg (fun _ => False) w w' := by
  obtain ⟨i0, hi, hz0, hz1, hz2⟩ := info_parts info5
  have hnl : n ≤ l.length := by rw [← hn]; split <;> omega
  obtain ⟨hcut, hA, hC⟩ := print_take_of (P := Tryd.prog) (Value.int .u8) (0 : Int) 22 5 .i64 Tryd.underlying22 hi hz1 A c l (n : Int) (by omega) (by omega) hc
  rw [Int.toNat_natCast] at hcut hA hC
  have hRb := hA w hR
  have hbb : Bys (l.take n) := fun x hx => hb x (List.mem_of_mem_take hx)
  have hnI : (if (2000 : Int) < (l.length : Int) then (2000 : Int) else (l.length : Int)) = (n : Int) := by rw [← hn]; split <;> split <;> omega
  have hbn : (l.take n).length ≤ 140737488351232 := by rw [List.length_take]; omega
  generalize l.take n = b at *
  have hcb := copyB_any w A b c hRb hbn
  have HCB := Lib.hid hcb
  have HBB := Lib.hid hbb
  have HW := Lib.hid hW
  have HPL := Lib.hid (parse_len b hbb)
  clear hcb hbb hRb hW hR hb hA hi hz0 hz1 hz2 hn hC
  obtain ⟨N, hN⟩ : ∃ N : Int, (n : Int) = N := ⟨_, rfl⟩
  rw [hN] at hcut hnI
  go_enter Tryd.func3, Tryd.ntmps3
  go_upto_region 1 with fail
  go_cut [3] from 10 to 15 (fun s W => ∃ A1 c1, s = .slice A1 b.length c1 ∧ W.ownsRow w.heap.size 5 1 (.slice A1 b.length c1) b.length (u8s b) ∧ Chg (fun _ => False) w W)
  case first =>
    by_cases hlt : 2000 < l.length
    · obtain rfl : N = 2000 := by rw [← hnI, if_pos (by omega)]
      clear hnI hN hnl
      go_wp2_with fail
      refine HCB.out.mono ?_
      rintro e w2 ⟨v, rfl, ho, hC2⟩
      obtain ⟨A2, c2, rfl, _, _⟩ := own_bytes ho
      have HO2 := Lib.hid ho
      have HC2 := Lib.hid hC2
      clear ho hC2 HCB
      go_wp2_with fail
      go_meet
      exact ⟨A2, c2, rfl, HO2.out, HC2.out⟩
    · obtain rfl : N = (l.length : Int) := by rw [← hnI, if_neg (by omega)]
      clear hnI hN hnl
      go_wp2_with fail
      refine HCB.out.mono ?_
      rintro e w2 ⟨v, rfl, ho, hC2⟩
      obtain ⟨A2, c2, rfl, _, _⟩ := own_bytes ho
      have HO2 := Lib.hid ho
      have HC2 := Lib.hid hC2
      clear ho hC2 HCB
      go_wp2_with fail
      go_meet
      exact ⟨A2, c2, rfl, HO2.out, HC2.out⟩
  case rest =>
    obtain ⟨A1, c1, rfl, ho1, hC1⟩ := hcut
    obtain ⟨A1', c1', he1, hc1, hR1⟩ := own_bytes ho1
    cases he1
    have hcb2 := copyB_any wc A1 b c1 hR1 (by omega)
    have HCB2 := Lib.hid hcb2
    have HO1 := Lib.hid ho1
    have HC1 := Lib.hid hC1
    have HR1 := Lib.hid hR1
    clear ho1 hR1 hC1 hcb2 HCB hcut hnI hN hnl
    go_wp2_with fail
    refine HCB2.out.mono ?_
    rintro e w2 ⟨v2, rfl, ho2, hC2⟩
    obtain ⟨A2, c2, rfl, hc2, hR2⟩ := own_bytes ho2
    have HO2 := Lib.hid ho2
    have HC2 := Lib.hid (HC1.out.trans hC2)
    have HR2 := Lib.hid hR2
    have ho12 : w2.ownsRow w.heap.size 5 1 (.slice A1 b.length c1) b.length (u8s b) := own_chg HO1.out hC2 (fun _ _ h => h)
    have HO12 := Lib.hid ho12
    have HR12 := Lib.hid (reads_keep HR1.out hC2)
    clear ho2 hC2 hR2 ho12 HCB2 HO1 HR1 HC1
    have HPA := Lib.hid (parse_some w2 A1 b c1 HR12.out hc1 HBB.out)
    obtain ⟨p, hp⟩ : ∃ p, parseP b = p := ⟨_, rfl⟩
    rw [hp] at HPA HPL
    have HPP := Lib.hid hp
    clear hp
    obtain ⟨k, V, tx, pl, pe⟩ := p
    go_wp2_with fail
    refine HPA.out.mono ?_
    unfold ParsePost
    simp only
    rintro e w3 ⟨v3, rfl, ho3, hC3⟩
    obtain ⟨A3, c3, rfl, hL3⟩ := own_lines ho3
    have HO3 := Lib.hid ho3
    have HC3 := Lib.hid hC3
    clear ho3 hC3 HPA hL3
    have hal := (Chg.refl (fun _ => False) w3).alloc (.cells #[.int .i64 k, .int .i64 (V 1), .int .i64 (V 2), .int .i64 (V 3), .int .i64 (V 4), .int .i64 (V 5), .int .i64 (V 6), .string tx, .slice A3 pl.length c3] 26)
    have hp4 := heap_new w3 (.cells #[.int .i64 k, .int .i64 (V 1), .int .i64 (V 2), .int .i64 (V 3), .int .i64 (V 4), .int .i64 (V 5), .int .i64 (V 6), .string tx, .slice A3 pl.length c3] 26)
    have HT4 := Lib.hid (HC3.out.trans hal)
    have HP4 := Lib.hid hp4
    have HO4 := Lib.hid (own_chg HO3.out hal (fun _ _ h => h))
    have HRP := Lib.hid (rparse_some (w3.alloc (.cells #[.int .i64 k, .int .i64 (V 1), .int .i64 (V 2), .int .i64 (V 3), .int .i64 (V 4), .int .i64 (V 5), .int .i64 (V 6), .string tx, .slice A3 pl.length c3] 26)) A2 b c2 (reads_keep HR2.out HT4.out) hc2 HBB.out)
    rw [HPP.out] at HRP
    clear hal hp4 HO3 HC3
    go_wp2_with fail
    refine HRP.out.mono ?_
    unfold ParsePost
    simp only
    rintro e w5 ⟨v5, rfl, ho5, hC5⟩
    obtain ⟨A5, c5, rfl, hL5⟩ := own_lines ho5
    have hal5 := (Chg.refl (fun _ => False) w5).alloc (.cells #[.int .i64 k, .int .i64 (V 1), .int .i64 (V 2), .int .i64 (V 3), .int .i64 (V 4), .int .i64 (V 5), .int .i64 (V 6), .string tx, .slice A5 pl.length c5] 26)
    have hq6 := heap_new w5 (.cells #[.int .i64 k, .int .i64 (V 1), .int .i64 (V 2), .int .i64 (V 3), .int .i64 (V 4), .int .i64 (V 5), .int .i64 (V 6), .string tx, .slice A5 pl.length c5] 26)
    have hT5 := hC5.trans hal5
    have HP6 := Lib.hid (hT5.keep HP4.out (fun h => h))
    have HQ6 := Lib.hid hq6
    have HPO6 := Lib.hid (own_chg HO4.out hT5 (fun _ _ h => h))
    have HQO6 := Lib.hid (own_chg ho5 hal5 (fun _ _ h => h))
    have HIN6 := Lib.hid (own_chg (own_chg HO12.out HT4.out (fun _ _ h => h)) hT5 (fun _ _ h => h))
    have HT6 := Lib.hid ((HC2.out.trans HT4.out).trans hT5)
    clear hT5 hq6 hal5 hL5 ho5 hC5 HRP HP4 HO4 HO12 HT4 HC2 HO2 HR2 HR12
    go_upto_block 0 with fail
    generalize hw6 : w5.alloc (.cells #[.int .i64 k, .int .i64 (V 1), .int .i64 (V 2), .int .i64 (V 3), .int .i64 (V 4), .int .i64 (V 5), .int .i64 (V 6), .string tx, .slice A5 pl.length c5] 26) = w6 at *
    clear hw6
    generalize w5.heap.size = Q at *
    generalize w3.heap.size = P at *
    go_cut [9] from 28 to 41 (fun _ W => Chg (fun i => (Value.slice A1 b.length c1).ownBlock = some i) w6 W)
    case first =>
      by_cases h0 : 0 < b.length
      · obtain ⟨g, rfl, hg, hin⟩ := in_row HIN6.out rfl h0
        have HIN := Lib.hid hin
        clear hin
        go_wp2_with fail
        go_loopw [9] (fun i wr => ∃ j : Nat, j ≤ b.length ∧ i = .int .i64 j ∧ InRow wr g b.length ∧ Chg (fun i => (Value.slice (some ⟨g, 0, none⟩) b.length c1).ownBlock = some i) w6 wr) (fun i _ => b.length - (intOf i).toNat)
        case atStart => exact ⟨0, by omega, rfl, HIN.out, Chg.refl _ _⟩
        case round =>
          obtain ⟨j, hj, rfl, hin, hCh⟩ := hrel
          have HINJ := Lib.hid hin
          have HCHJ := Lib.hid hCh
          clear hCh
          by_cases hlt : j < b.length
          · obtain ⟨x, hx, hf⟩ := hin.at j hlt
            clear hin
            go_wp2_with fail
            go_roundw
            case rel => exact ⟨j + 1, by omega, by go_num, HINJ.out.set j _, HCHJ.out.setCell (p := ⟨g, j, none⟩) (.inl rfl) _⟩
            case measure => simp [intOf] <;> omega
          · clear hin
            go_wp2_with fail
            go_meet
            exact HCHJ.out
      · have hd : decide (0 < b.length) = false := decide_eq_false h0
        have hd' : decide ((0 : Int) < (b.length : Int)) = false := decide_eq_false (by omega)
        clear h0
        go_wp2_with fail
        go_loop [9] (fun i => i = .int .i64 0) (fun _ => 0)
        case atStart => rfl
        case round =>
          subst hrel
          go_wp2_with fail
          go_meet
          exact Chg.refl _ _
    case rest =>
      have hne : ∀ {X : Nat} {cs : Array Value} {t : TypeId}, w6.heap[X]? = some (.cells cs t (0, 0)) → t ≠ 5 → ¬ (Value.slice A1 b.length c1).ownBlock = some X := fun h ht e => own_ne HIN6.out h ht e
      have hP7 : PktAt wc P k V tx (.slice A3 pl.length c3) := hcut.keep HP6.out (hne HP6.out (by decide))
      have hQ7 : PktAt wc Q k V tx (.slice A5 pl.length c5) := hcut.keep HQ6.out (hne HQ6.out (by decide))
      have hr : ∀ {v : Value} {xs : List Value} {m base : Nat}, w6.ownsRow base 9 1 v m xs → wc.ownsRow base 9 1 v m xs := fun ho => own_chg ho hcut (fun i hi e => by
        obtain ⟨cells, hc⟩ := Go.Proofs.YteiedafdakffeaaDoorW.PrintWords.own_typed ho i hi
        exact hne hc (by decide) e)
      obtain ⟨A3', c3', he3, hL3⟩ := own_lines (hr HPO6.out)
      cases he3
      obtain ⟨A5', c5', he5, hL5⟩ := own_lines (hr HQO6.out)
      cases he5
      have hpl := HPL.out
      try simp only at hpl
      have HL3 := Lib.hid hL3
      have HL5 := Lib.hid hL5
      have HT7 : Hid (Chg (fun _ => False) w wc) := Lib.hid (HT6.out.trans' hcut (fun i h1 h2 => by have := own_block HIN6.out h2; omega))
      have HPS := Lib.hid hP7
      have HQS := Lib.hid hQ7
      clear hP7 hQ7 hne hr hL3 hL5 hcut HPO6 HQO6 HP6 HQ6 HIN6
      obtain ⟨g0, g1, g2, g3, g4, g5, g6, g7, g8⟩ := HPS.out.cells9
      obtain ⟨h0, h1, h2, h3, h4, h5, h6, h7, h8⟩ := HQS.out.cells9
      have hsm := rsame_some wc k V tx A3 pl c3 k V tx A5 pl c5 HL3.out HL5.out (by omega) (by omega)
      rw [sameF_refl] at hsm
      have HSM := Lib.hid hsm
      clear hsm
      go_wp2_with fail
      refine HSM.out.mono ?_
      rintro e w8 ⟨rfl, hC8⟩
      have HT8 := Lib.hid (HT7.out.trans hC8)
      clear hC8 HSM g0 g1 g2 g3 g4 g5 g6 g7 g8 h0 h1 h2 h3 h4 h5 h6 h7 h8
      go_wp2_with fail
      refine (works_some w8 (HW.out.chg HT8.out)).mono ?_
      rintro e w9 ⟨rfl, hC9⟩
      have HT9 := Lib.hid (HT8.out.trans hC9)
      clear hC9
      go_wp2_with fail
      go_ret
      exact ⟨rfl, HT9.out⟩
theorem PushReads_calls (A : Option Addr) (c : Nat) (l : List Int) (w : World) (hW : WOk w) (hR : ReadsInt w .u8 A l.length l) (hc : l.length ≤ c) (hb : Bys l) (hl : l.length ≤ 140737488351232) :
    Calls Tryd.prog 3 #[.slice A l.length c] w fun e w' => e = .returned (.bool true) ∧ Chg (fun _ => False) w w' := reads_any w A c _ l hW hR hc hb hl rfl
end Go.Proofs.YteiedafdakffeaaDoor
