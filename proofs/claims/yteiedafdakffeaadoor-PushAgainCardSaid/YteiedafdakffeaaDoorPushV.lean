/- push: Diff, walked. -/
import Derived.Test.YteiedafdakffeaaDoorPushU
namespace Go.Proofs.YteiedafdakffeaaDoor
set_option linter.unusedVariables false
set_option linter.unusedSimpArgs false
open Go Go.RowKit Go.Proofs Go.Shelf Go.Sort
open Go.Proofs.YteiedafdakffeaaDoorW.PrintWords (Kd ReadsOf own_move print_drop_of gate_dst gate_store)
theorem WOk.chg {w w' : World} (h : WOk w) (hC : Chg (fun _ => False) w w') : WOk w' := by
  obtain ⟨m, hm⟩ := h.len
  exact ⟨⟨m, hC.cell hm (fun h => h)⟩⟩
theorem lines_long (w : World) (s : ByteArray) (hW : WOk w) (h : s.size > 65536) : Calls Tryd.prog 45 #[.string s] w fun e w' => e = .returned (.tuple #[.slice none 0 0, .int .i64 5]) ∧ Chg (fun _ => False) w w' := by
  go_enter Tryd.func45, Tryd.ntmps45
  go_wp2
  go_ret2
  exact ⟨rfl, Chg.refl _ _⟩
theorem lines_fits (w : World) (s : ByteArray) (hW : WOk w) (h : ¬ s.size > 65536) : Calls Tryd.prog 45 #[.string s] w fun e w' => ∃ v, e = .returned (.tuple #[v, .int .i64 0]) ∧ w'.ownsRow w.heap.size 9 1 v (lnsOf s).length ((lnsOf s).map Value.string) ∧ Chg (fun _ => False) w w' := by
  have := lines_any s w hW
  rw [if_neg h, if_neg h] at this
  refine this.mono ?_
  rintro e w' ⟨v, rfl, hr, hB⟩
  exact ⟨v, rfl, own_of_R hr, Below.chg hB (Nat.le_refl _) _⟩
theorem own_chg {W W' : World} {S : Nat → Prop} {base : Nat} {e : TypeId} {size : Nat} {v : Value} {n : Nat} {xs : List Value} (h : W.ownsRow base e size v n xs) (hC : Chg S W W') (hS : ∀ k, v.ownBlock = some k → ¬ S k) : W'.ownsRow base e size v n xs :=
  own_move h (fun q hq => hC.block q (by obtain ⟨c, t, f, hc⟩ := own_cells h hq; exact lt_of_heap hc) (hS q hq))
set_option maxRecDepth 100000 in
set_option maxHeartbeats 4000000 in
theorem diff_some (w : World) (s t : ByteArray) (hW : WOk w) : Calls Tryd.prog 17 #[.string s, .string t] w (DiffPost w (diffP s t)) := by
  have hal := (Chg.refl (fun _ => False) w).alloc (.cells zeroPkt 26)
  have hp : (w.alloc (.cells zeroPkt 26)).heap[w.heap.size]? = some (.cells zeroPkt 26 (0, 0)) := heap_new _ _
  have hW1 := hW.chg hal
  have hz1 : (w.alloc (.cells zeroPkt 26)).heap.size = w.heap.size + 1 := by simp
  obtain ⟨PP, hPP⟩ : ∃ PP, diffP s t = PP := ⟨_, rfl⟩
  rw [hPP]
  have HPP := Lib.hid hPP
  have HAL := Lib.hid hal
  have HP := Lib.hid hp
  clear hPP hal hp
  by_cases hs : s.size > 65536
  · have HE : Hid (PP = noPkt 5) := Lib.hid (by rw [← HPP.out]; unfold diffP; rw [if_pos hs])
    have HL := Lib.hid (lines_long _ s hW1 hs)
    clear hs hW hW1
    go_enter Tryd.func17, Tryd.ntmps17
    go_wp2_with fail
    refine HL.out.mono ?_
    rintro e w2 ⟨rfl, hC2⟩
    have HP2 := Lib.hid (hC2.keep HP.out (fun h => h))
    have HC2 := Lib.hid (HAL.out.trans hC2)
    clear hC2 HL
    go_wp2_with ((with_reducible refine gate_store (t := 26) (p := 4) (v := .tmp 18) rfl ?_); refine wpList_store_row rfl 26 (.tmp 4) (.tmp 18) rfl w.heap.size zeroPkt rfl rfl 26 _ HP2.out infoP rfl zeroPkt_all ?_)
    go_wp2_with fail
    rw [HE.out]
    exact bodyPost_ret (results17 _ _ w.heap.size zeroPkt (0, 0) 5 rfl rfl (setRow_heap _ _ _ _ _ _ HP2.out) rfl) rfl (diff_no w.heap.size 5 HC2.out (Nat.le_refl _))
  · have HL := Lib.hid (lines_fits _ s hW1 hs)
    have hla := lnsOf_len s
    have hW1' := Lib.hid hW1
    by_cases ht : t.size > 65536
    · have HE : Hid (PP = noPkt 5) := Lib.hid (by rw [← HPP.out]; unfold diffP; rw [if_neg hs, if_pos ht])
      have HT := Lib.hid ht
      clear hs hW hW1 ht
      go_enter Tryd.func17, Tryd.ntmps17
      go_wp2_with fail
      refine HL.out.mono ?_
      rintro e w2 ⟨v, rfl, ho, hC2⟩
      have HL2 := Lib.hid (lines_long w2 t (hW1'.out.chg hC2) HT.out)
      have HP2 := Lib.hid (hC2.keep HP.out (fun h => h))
      have HC2 := Lib.hid (HAL.out.trans hC2)
      clear hC2 HL ho
      go_wp2_with fail
      refine HL2.out.mono ?_
      rintro e w3 ⟨rfl, hC3⟩
      have HP3 := Lib.hid (HP2.out |> fun h => hC3.keep h (fun h => h))
      have HC3 := Lib.hid (HC2.out.trans hC3)
      clear hC3 HL2
      go_wp2_with ((with_reducible refine gate_store (t := 26) (p := 4) (v := .tmp 27) rfl ?_); refine wpList_store_row rfl 26 (.tmp 4) (.tmp 27) rfl w.heap.size zeroPkt rfl rfl 26 _ HP3.out infoP rfl zeroPkt_all ?_)
      go_wp2_with fail
      rw [HE.out]
      exact bodyPost_ret (results17 _ _ w.heap.size zeroPkt (0, 0) 5 rfl rfl (setRow_heap _ _ _ _ _ _ HP3.out) rfl) rfl (diff_no w.heap.size 5 HC3.out (Nat.le_refl _))
    · have HE : Hid (PP = if 1000 < (diffL (lnsOf s) (lnsOf t)).length then noPkt 5 else ⟨2, diffV (diffH (lnsOf s) (lnsOf t)) (diffT (lnsOf s) (lnsOf t)), ByteArray.empty, diffL (lnsOf s) (lnsOf t), 0⟩) := Lib.hid (by rw [← HPP.out]; unfold diffP; rw [if_neg hs, if_neg ht])
      have HT := Lib.hid ht
      have hlb := lnsOf_len t
      have hla2 : (lnsOf s).length ≤ 70000 := by omega
      have hlb2 : (lnsOf t).length ≤ 70000 := by omega
      clear hs hW hW1 ht HPP hla hlb
      have HLB : Hid (∀ W, WOk W → Calls Tryd.prog 45 #[.string t] W fun e w' => ∃ v, e = .returned (.tuple #[v, .int .i64 0]) ∧ w'.ownsRow W.heap.size 9 1 v (lnsOf t).length ((lnsOf t).map Value.string) ∧ Chg (fun _ => False) W w') := Lib.hid fun W hW => lines_fits W t hW HT.out
      generalize lnsOf s = a at *
      generalize lnsOf t = b at *
      go_enter Tryd.func17, Tryd.ntmps17
      go_wp2_with fail
      refine HL.out.mono ?_
      rintro e w2 ⟨va, rfl, hoa, hC2⟩
      have hWw2 := hW1'.out.chg hC2
      have HL2 := Lib.hid (HLB.out w2 hWw2)
      have HP2 := Lib.hid (hC2.keep HP.out (fun h => h))
      have HC2 := Lib.hid (HAL.out.trans hC2)
      have HOA := Lib.hid hoa
      have hsz2 := hC2.size
      clear hC2 HL hoa hWw2 HLB
      go_wp2_with fail
      refine HL2.out.mono ?_
      rintro e w3 ⟨vb, rfl, hob, hC3⟩
      have HP3 := Lib.hid (hC3.keep HP2.out (fun h => h))
      have HC3 := Lib.hid (HC2.out.trans hC3)
      have hsz3 := hC3.size
      obtain ⟨Aa, ca, rfl, hLa⟩ := own_lines HOA.out
      obtain ⟨Ab, cb, rfl, hLb⟩ := own_lines hob
      have HLA := Lib.hid (hLa.chg hC3)
      have HLBB := Lib.hid hLb
      have hca : a.length ≤ ca := by
        rcases HOA.out.2 with ⟨h1, h2⟩ | ⟨g', cap', cur, hv, hg', hh, r1, r2, r3, r4⟩
        · have : a = [] := by simpa using h2
          subst this; exact Nat.zero_le _
        · cases hv; exact r1
      have hcb : b.length ≤ cb := by
        rcases hob.2 with ⟨h1, h2⟩ | ⟨g', cap', cur, hv, hg', hh, r1, r2, r3, r4⟩
        · have : b = [] := by simpa using h2
          subst this; exact Nat.zero_le _
        · cases hv; exact r1
      have HK := Lib.hid (alike_some w3 Aa Ab a b ca cb (hLa.chg hC3) hLb (by omega) (by omega))
      obtain ⟨n, hn⟩ : ∃ n, alikeN a b = n := ⟨_, rfl⟩
      have hhl := alikeN_le a b
      have HDA : Hid ((a.drop n).reverse = diffA a b) := Lib.hid (by rw [← hn]; rfl)
      have HDB : Hid ((b.drop n).reverse = diffB a b) := Lib.hid (by rw [← hn]; rfl)
      have HDH : Hid (diffH a b = n) := Lib.hid (by rw [← hn]; rfl)
      rw [hn] at HK hhl
      clear hn
      obtain ⟨i9, hi9, hz90, hz91, hz92⟩ := info_parts info9
      obtain ⟨A1, hcut1, hA1, hcc1⟩ := print_drop_of (P := Tryd.prog) Value.string ByteArray.empty 24 9 .i64 Tryd.underlying24 hi9 hz91 Aa ca a (n : Int) (by omega) (by omega) hca
      obtain ⟨B1, hcut2, hB1, hcc2⟩ := print_drop_of (P := Tryd.prog) Value.string ByteArray.empty 24 9 .i64 Tryd.underlying24 hi9 hz91 Ab cb b (n : Int) (by omega) (by omega) hcb
      rw [Int.toNat_natCast] at hcut1 hA1 hcc1 hcut2 hB1 hcc2
      have HLA1 := Lib.hid (lns_of_reads (hA1 w3 (reads_of_lns (HLA.out) (by omega))))
      have HLB1 := Lib.hid (lns_of_reads (hB1 w3 (reads_of_lns (HLBB.out) (by omega))))
      have hda : (a.drop n).length ≤ 70000 := by rw [List.length_drop]; omega
      have hdb : (b.drop n).length ≤ 70000 := by rw [List.length_drop]; omega
      generalize a.drop n = la at *
      generalize b.drop n = lb at *
      clear hC3 HL2 hob hLa hLb HOA HP2 HC2 hA1 hB1
      go_wp2_with fail
      refine HK.out.mono ?_
      rintro e w4 ⟨rfl, hC4⟩
      have HP4 := Lib.hid (hC4.keep HP3.out (fun h => h))
      have HC4 := Lib.hid (HC3.out.trans hC4)
      have HLA2 := Lib.hid (HLA1.out.chg hC4)
      have HLB2 := Lib.hid (HLB1.out.chg hC4)
      have hsz4 := hC4.size
      clear hC4 HK HC3 HP3 HLA HLBB HLA1 HLB1 hi9 hz90 hz91 hz92
      go_upto_region 8 with fail
      go_cut [6, 7] from 32 to 39 (fun s6 s7 W => W.ownsRow w4.heap.size 9 1 s6 la.length (la.map Value.string) ∧ W.ownsRow w4.heap.size 9 1 s7 lb.length (lb.map Value.string) ∧ (∀ k, s6.ownBlock = some k → s7.ownBlock ≠ some k) ∧ W.heap[w.heap.size]? = some (.cells zeroPkt 26 (0, 0)) ∧ Chg (fun _ => False) w W)
      case first =>
        refine region_lone (fun _ => True) [] (by kernel_rfl) ?_
        refine take_one 0 trivial rfl (by kernel_rfl) rfl ?_
        apply Exists.intro
        refine And.intro (fun W' hS' => ?y0) (And.intro (fun _ _ _ h => h) ?_)
        case y0 => go_simp; rfl
        refine take_one 1 trivial rfl (by kernel_rfl) rfl ?_
        apply Exists.intro
        refine And.intro (fun W' hS' => ?y1) (And.intro (fun _ _ _ h => h) ?_)
        case y1 => go_simp; rfl
        refine take_one 2 trivial rfl (by kernel_rfl) rfl ?_
        apply Exists.intro
        refine And.intro (fun W' hS' => ?y2) (And.intro (fun _ _ _ h => h) ?_)
        case y2 => go_simp; rfl
        refine take_one 4 trivial rfl (by kernel_rfl) rfl ?_
        apply Exists.intro
        refine And.intro (fun W' hS' => ?y4) (And.intro (fun _ _ _ h => h) ?_)
        case y4 => go_simp; rfl
        refine take_one 5 trivial rfl (by kernel_rfl) rfl ?_
        apply Exists.intro
        refine And.intro (fun W' hS' => ?y5) (And.intro (fun _ _ _ h => h) ?_)
        case y5 => go_simp; rfl
        refine take_one 6 trivial rfl (by kernel_rfl) rfl ?_
        apply Exists.intro
        refine And.intro (fun W' hS' => ?y6) (And.intro (fun _ _ _ h => h) ?_)
        case y6 => go_simp; rfl
        refine only_one 3 rfl (by kernel_rfl) rfl ?_
        go_simp
        have hd := (Chg.refl (fun _ => False) w4).drew
        refine (clone_some w4.drew A1 la (ca - n) (HLA2.out.chg hd) (by omega)).mono ?_
        rintro e w5 ⟨v5, rfl, ho5, hC5⟩
        refine only_one 7 rfl (by kernel_rfl) rfl ?_
        go_simp
        refine (clone_some w5 B1 lb (cb - n) (HLB2.out.chg (hd.trans hC5)) (by omega)).mono ?_
        rintro e w6 ⟨v6, rfl, ho6, hC6⟩
        refine take_one 8 trivial rfl (by kernel_rfl) rfl ?_
        apply Exists.intro
        refine And.intro (fun W' hS' => ?y8) (And.intro (fun _ _ _ h => h) ?_)
        case y8 => go_simp; rfl
        refine take_one 9 trivial rfl (by kernel_rfl) rfl ?_
        apply Exists.intro
        refine And.intro (fun W' hS' => ?y9) (And.intro (fun _ _ _ h => h) ?_)
        case y9 => go_simp; rfl
        refine all_done (by kernel_rfl) ?_ _
        go_simp
        go_wp2_with fail
        go_meet
        have hs5 : w4.heap.size ≤ w5.heap.size := hC5.size
        exact ⟨own_chg ho5 hC6 (fun _ _ h => h), own_lower ho6 (by omega), fun k h1 h2 => by
          obtain ⟨c, t, f, hc⟩ := own_cells ho5 h1
          have := lt_of_heap hc
          have := own_block ho6 h2
          omega, hC6.keep (hC5.keep (w := w4.drew) HP4.out (fun h => h)) (fun h => h), HC4.out.trans (hd.trans (hC5.trans hC6))⟩
      case rest =>
        obtain ⟨ho6, ho7, hne, hP, hC⟩ := hcut
        have HV7 := Lib.hid hne
        have hr6 := rev_own wc w4.heap.size u6 la ho6 (by omega)
        have HR6 := Lib.hid hr6
        have HO6 := Lib.hid ho6
        have HO7 := Lib.hid ho7
        have HP := Lib.hid hP
        have HC := Lib.hid hC
        have hszc := hC.size
        clear ho6 ho7 hP hC hr6 hne HP4 HC4 HLA2 HLB2 hcut1 hcut2
        go_wp2_with fail
        refine HR6.out.mono ?_
        rintro e w8 ⟨rfl, ho8, hC8⟩
        rw [HDA.out] at ho8
        have ho7' := own_chg HO7.out hC8 (fun q h1 h2 => HV7.out q h2 h1)
        have hlda : (diffA a b).length ≤ 70000 := by rw [← HDA.out, List.length_reverse]; exact hda
        have hldb : (diffB a b).length ≤ 70000 := by rw [← HDB.out, List.length_reverse]; exact hdb
        have HR7 := Lib.hid (rev_own w8 w4.heap.size u7 lb ho7' (by omega))
        have HO8 := Lib.hid ho8
        have HP8 := Lib.hid (hC8.keep HP.out (own_ne HO6.out HP.out (by decide)))
        have HC8 := Lib.hid (HC.out.trans' hC8 (fun q h1 h2 => by have := own_block HO6.out h2; omega))
        have HO7' := Lib.hid ho7'
        clear ho8 ho7' hC8 HR6 HO6 HO7 HP HC
        go_wp2_with fail
        refine HR7.out.mono ?_
        rintro e w9 ⟨rfl, ho9, hC9⟩
        rw [HDB.out] at ho9
        have ho8' := own_chg HO8.out hC9 (fun q h1 h2 => HV7.out q h1 h2)
        have HP9 := Lib.hid (hC9.keep HP8.out (own_ne HO7'.out HP8.out (by decide)))
        have HC9 := Lib.hid (HC8.out.trans' hC9 (fun q h1 h2 => by have := own_block HO7'.out h2; omega))
        clear hC9 HR7 HO8 HO7' HP8 HC8
        have hDT : Hid (diffT a b = alikeN (diffA a b) (diffB a b)) := Lib.hid rfl
        have hDL : Hid (diffL a b = ((diffB a b).drop (diffT a b)).reverse) := Lib.hid rfl
        generalize diffA a b = ra at *
        generalize diffB a b = rb at *
        obtain ⟨Ar, car, rfl, hLar⟩ := own_lines ho8'
        have HK := Lib.hid (fun (Bs : Option Addr) (d : Nat) (h : Lns w9 Bs rb) => alike_some w9 Ar Bs ra rb car d hLar h (by omega) (by omega))
        clear hLar ho8'
        obtain ⟨Abr, cbr, rfl, hLbr⟩ := own_lines ho9
        have HK2 := Lib.hid (HK.out Abr cbr hLbr)
        have hle := (alikeN_le ra rb).2
        obtain ⟨m, hmm⟩ : ∃ m, alikeN ra rb = m := ⟨_, rfl⟩
        rw [hmm] at HK2 hDT hle
        clear HK hLbr hmm
        have HDL : Hid (diffL a b = (rb.drop m).reverse) := Lib.hid (by rw [hDL.out, hDT.out])
        clear hDL
        go_wp2_with fail
        refine HK2.out.mono ?_
        rintro e w10 ⟨rfl, hC10⟩
        have ho10 := own_chg ho9 hC10 (fun _ _ h => h)
        obtain ⟨X, cx, hcut, hcx, hrv⟩ := rev_tail w10 w4.heap.size Abr cbr rb m ho10 hle (by omega)
        have HRV := Lib.hid hrv
        have hlx : (rb.drop m).length ≤ 70000 := by rw [List.length_drop]; omega
        have HP10 := Lib.hid (hC10.keep HP9.out (fun h => h))
        have HC10 := Lib.hid (HC9.out.trans hC10)
        have HO10 := Lib.hid ho10
        have HDL2 : Hid ((rb.drop m).reverse.length = (rb.drop m).length) := Lib.hid (by rw [List.length_reverse])
        clear ho9 ho10 hC10 HK2 hrv HP9 HC9 hle
        generalize rb.drop m = lx at *
        go_wp2_with fail
        refine HRV.out.mono ?_
        rintro e w11 ⟨rfl, hL11, hN11, hC11⟩
        have HL11 := Lib.hid hL11
        have HN11 := Lib.hid hN11
        have HP11 := Lib.hid (hC11.keep HP10.out (own_ne HO10.out HP10.out (by decide)))
        have HC11 := Lib.hid (HC10.out.trans' hC11 (fun q h1 h2 => by have := own_block HO10.out h2; omega))
        clear hL11 hN11 hC11 HRV HP10 HC10 HO10
        by_cases hbig : 1000 < lx.length
        · have HE2 : Hid (PP = noPkt 5) := Lib.hid (by rw [HE.out, if_pos (by rw [HDL.out, HDL2.out]; exact hbig)])
          go_wp2_with ((with_reducible refine gate_store (t := 26) (p := 4) (v := .tmp 55) rfl ?_); refine wpList_store_row rfl 26 (.tmp 4) (.tmp 55) rfl w.heap.size zeroPkt rfl rfl 26 _ HP11.out infoP rfl zeroPkt_all ?_)
          go_wp2_with fail
          rw [HE2.out]
          exact bodyPost_ret (results17 _ _ w.heap.size zeroPkt (0, 0) 5 rfl rfl (setRow_heap _ _ _ _ _ _ HP11.out) rfl) rfl (diff_no w.heap.size 5 HC11.out (Nat.le_refl _))
        · have HE2 : Hid (PP = ⟨2, diffV n m, ByteArray.empty, lx.reverse, 0⟩) := Lib.hid (by rw [HE.out, if_neg (by rw [HDL.out, HDL2.out]; exact hbig), HDL.out, HDH.out, hDT.out])
          go_wp2_with ((with_reducible refine gate_store (t := 26) (p := 4) (v := .tmp 59) rfl ?_); refine wpList_store_row rfl 26 (.tmp 4) (.tmp 59) rfl w.heap.size _ rfl rfl 26 _ HP11.out infoP rfl (by simp [Value.oneCell']) ?_)
          go_wp2_with fail
          rw [HE2.out]
          have h9 := HC11.out
          refine bodyPost_ret (results17 _ _ w.heap.size _ (0, 0) 0 rfl rfl (setRow_heap _ _ _ _ _ _ HP11.out) rfl) rfl ⟨X, cx, by rw [HDL2.out]; rfl, by rw [HDL2.out]; exact hcx, ?_, ?_, ⟨h9.os, h9.tape, h9.output, by rw [size_setRow]; exact h9.size, fun q hq _ => (setRow_other _ _ _ _ (by omega)).trans (h9.block q hq (fun h => h))⟩⟩
          · exact HN11.out.lns HL11.out (by have := hsz2; have := hsz3; have := hsz4; omega) _
          · exact HN11.out.setRow (by have := hsz2; have := hsz3; have := hsz4; omega) _ _ (by have := hsz2; have := hsz3; have := hsz4; omega)
end Go.Proofs.YteiedafdakffeaaDoor
