/- push: Parse. -/
import Derived.Test.YteiedafdakffeaaDoorPushO
import Derived.Outline
namespace Go.Proofs.YteiedafdakffeaaDoor
set_option linter.unusedVariables false
set_option linter.unusedSimpArgs false
open Go Go.RowKit
open Go.Proofs.YteiedafdakffeaaDoorW.PrintWords (Kd bytesOf bytesOf_length ReadsInt ReadsOf gate_store gate_dst own_move)
set_option maxRecDepth 100000 in
set_option maxHeartbeats 4000000 in
theorem parse_some (w : World) (A : Option Addr) (b : List Int) (cap : Nat) (hR : ReadsInt w .u8 A b.length b) (hcap : b.length ≤ cap) (hb : ∀ x ∈ b, 0 ≤ x ∧ x ≤ 255) :
    Calls Tryd.prog 12 #[.slice A b.length cap] w (ParsePost w (parseP b)) := by
  have hC0 := ((Chg.refl (fun _ => False) w).alloc (.cells #[.int .i64 0, .int .i64 0, .int .i64 0, .int .i64 0, .int .i64 0, .int .i64 0, .int .i64 0, .string ByteArray.empty, .slice none 0 0] 26)).alloc (.cells #[.slice A b.length cap, .int .i64 0] 57)
  have hcur : CurAt w ((w.alloc (.cells #[.int .i64 0, .int .i64 0, .int .i64 0, .int .i64 0, .int .i64 0, .int .i64 0, .int .i64 0, .string ByteArray.empty, .slice none 0 0] 26)).alloc (.cells #[.slice A b.length cap, .int .i64 0] 57)) (w.heap.size + 1) b 0 :=
    ⟨A, cap, heap_new1 _ _ _, hcap, hR⟩
  have hpk : PktAt ((w.alloc (.cells #[.int .i64 0, .int .i64 0, .int .i64 0, .int .i64 0, .int .i64 0, .int .i64 0, .int .i64 0, .string ByteArray.empty, .slice none 0 0] 26)).alloc (.cells #[.slice A b.length cap, .int .i64 0] 57)) w.heap.size 0 zeroV ByteArray.empty (.slice none 0 0) :=
    heap_alloc (heap_new _ _)
  have hnum := number_some w _ _ b 0 1 (by omega) hC0 (by omega) hcur hb
  have HB := Lib.hid hb
  have HNUM := Lib.hid hnum
  have HPK := Lib.hid hpk
  have HC0 := Lib.hid hC0
  clear hb hnum hpk hC0 hcur hR hcap
  have HPAR : Hid (parseP b = if takeE b 0 1 = 0 then if 1 ≤ numOf (takeL b 0 1) ∧ numOf (takeL b 0 1) ≤ 5 then textP (numOf (takeL b 0 1)) (fieldsS (ownOf (numOf (takeL b 0 1))) (zeroV, takeR b 0 1, 0) 6) else noPkt 4 else noPkt (takeE b 0 1)) := Lib.hid rfl
  generalize hPP : parseP b = PP at *
  clear hPP
  have HB1 : Hid (∀ x ∈ takeR b 0 1, 0 ≤ x ∧ x ≤ 255) := Lib.hid fun x hx => HB.out x (takeR_sub hx)
  go_enter Tryd.func12, Tryd.ntmps12
  go_wp2_with fail
  refine HNUM.out.mono ?_
  rintro en w2 ⟨rfl, hC2, hCh2⟩
  have hsz2 := hCh2.size
  have hp2 := HPK.out.keep hCh2 (by simp)
  have HC1 := Lib.hid (HC0.out.trans' hCh2 (fun i h1 h2 => by omega))
  generalize numOf (takeL b 0 1) = k at *
  generalize takeR b 0 1 = b1 at *
  generalize takeE b 0 1 = e1 at *
  have HP2 := Lib.hid hp2
  have c0 : w2.cell? ⟨w.heap.size, 0, none⟩ = some (.int .i64 0) := cell_of_heap HP2.out 0
  have f0 := free_of_heap HP2.out 0
  have hst := (Chg.refl (fun k => k = w.heap.size) w2).setCell (p := ⟨w.heap.size, 0, none⟩) (.inl rfl) (.int .i64 k)
  have HP3 := Lib.hid (hp2.setK k)
  have HC3 : Hid (CurAt w _ _ _ _) := Lib.hid (hC2.keep hst (by simp))
  have HCH3 := Lib.hid (HC1.out.trans' hst (fun i h1 h2 => by omega))
  clear hp2 hC2 hCh2 HC1 hst HNUM HPK HC0
  go_upto_region 3 with fail
  clear c0 f0 HP2
  generalize w2.setCell ⟨w.heap.size, 0, none⟩ (.int .i64 k) = w3 at *
  obtain ⟨Ac, capc, hHc, hcapc, hRc⟩ := HC3.out
  have c1 : w3.cell? ⟨w.heap.size + 1, 1, none⟩ = some (.int .i64 e1) := cell_of_heap hHc 1
  clear hHc hcapc hRc
  by_cases he : e1 = 0
  · subst he
    have HPAR2 : Hid (PP = if 1 ≤ k ∧ k ≤ 5 then textP k (fieldsS (ownOf k) (zeroV, b1, 0) 6) else noPkt 4) := Lib.hid (by rw [HPAR.out, if_pos rfl])
    clear HPAR
    have c0 : w3.cell? ⟨w.heap.size, 0, none⟩ = some (.int .i64 k) := cell_of_heap HP3.out 0
    by_cases hkn : 1 ≤ k ∧ k ≤ 5
    · have hk := known_some k
      have hkk : (decide (1 ≤ k) && decide (k ≤ 5)) = true := by rw [decide_eq_true hkn.1, decide_eq_true hkn.2]; rfl
      rw [hkk] at hk
      have HK := Lib.hid hk
      have HPAR3 : Hid (PP = textP k (fieldsS (ownOf k) (zeroV, b1, 0) 6)) := Lib.hid (by rw [HPAR2.out, if_pos hkn])
      have HKN := Lib.hid hkn
      clear hk hkk hkn HPAR2
      go_wp2_with fail
      refine (HK.out _).mono ?_
      rintro e w4 ⟨rfl, rfl⟩
      clear HK
      go_upto_region 7 with fail
      clear c0 c1
      have hidx := index_kinds k HKN.out.1 HKN.out.2
      go_cut [5] from 25 to 34 (fun s5 W => s5 = .int .i64 (ownOf k) ∧ PktAt W w.heap.size k zeroV ByteArray.empty (.slice none 0 0) ∧ CurAt w W (w.heap.size + 1) b1 0 ∧ Chg (fun _ => False) w W)
      case first =>
        have hS : w4.drew.cell? ⟨w.heap.size, 0, none⟩ = some (.int .i64 k) := cell_of_heap HP3.out 0
        refine region_lone (fun W' => W'.cell? ⟨w.heap.size, 0, none⟩ = some (.int .i64 k)) [] (by kernel_rfl) ?_
        refine take_one 1 hS rfl (by kernel_rfl) rfl ?_
        apply Exists.intro
        refine And.intro (fun W' hS' => ?y1) (And.intro (fun _ _ _ h => h) ?_)
        case y1 => go_simp; rfl
        refine take_one 2 hS rfl (by kernel_rfl) rfl ?_
        apply Exists.intro
        refine And.intro (fun W' hS' => ?y2) (And.intro (fun _ _ _ h => h) ?_)
        case y2 => go_simp; rfl
        refine only_one 0 rfl (by kernel_rfl) rfl ?_
        go_simp
        refine (kinds_some _).mono ?_
        rintro e w5 ⟨rfl, hC5⟩
        have hS5 := hC5.cell hS (fun h => h)
        refine ⟨hS5, ?_⟩
        unfold kindsV
        refine take_one 3 hS5 rfl (by kernel_rfl) rfl ?_
        apply Exists.intro
        refine And.intro (fun W' hS' => ?y3) (And.intro (fun _ _ _ h => h) ?_)
        case y3 => go_simp; rfl
        refine take_one 4 hS5 rfl (by kernel_rfl) rfl ?_
        apply Exists.intro
        refine And.intro (fun W' hS' => ?y4) (And.intro (fun _ _ _ h => h) ?_)
        case y4 => go_simp; rfl
        go_simp
        refine all_done (by kernel_rfl) ?_ _
        go_wp2_with fail
        go_meet
        have hd := (Chg.refl (fun _ => False) w4).drew
        exact ⟨rfl, HP3.out.keep (hd.trans hC5) (fun h => h), HC3.out.keep (hd.trans hC5) (fun h => h), HCH3.out.trans (hd.trans hC5)⟩
      case rest =>
        obtain ⟨rfl, hP, hC, hCh⟩ := hcut
        have hfs := fields_some wc w.heap.size k (zeroV 1) (zeroV 2) (zeroV 3) (zeroV 4) (zeroV 5) (zeroV 6) (.string ByteArray.empty) (.slice none 0 0) hP
        have HFS := Lib.hid hfs
        have HP := Lib.hid hP
        have HC := Lib.hid hC
        have HCH := Lib.hid hCh
        have hlP := hP.lt
        have hlC := hC.lt
        clear hidx hP hC hCh hfs HC3 HCH3 HP3
        go_wp2_with fail
        refine HFS.out.mono ?_
        rintro e w6 ⟨g, rfl, hgs, hg, hC6⟩
        clear HFS
        have HG := Lib.hid hg
        have HP6 := Lib.hid (HP.out.keep hC6 (fun h => h))
        have HC6 := Lib.hid (HC.out.keep hC6 (fun h => h))
        have HCH6 := Lib.hid (HCH.out.trans hC6)
        have hsz6 := hC6.size
        clear HP HC HCH hg hC6
        go_upto_block 1 with fail
        go_cut [7, 37] from 38 to 51 (fun _ _ W => PktAt W w.heap.size k (fieldsS (ownOf k) (zeroV, b1, 0) 6).1 ByteArray.empty (.slice none 0 0) ∧ CurAt w W (w.heap.size + 1) (fieldsS (ownOf k) (zeroV, b1, 0) 6).2.1 (fieldsS (ownOf k) (zeroV, b1, 0) 6).2.2 ∧ Chg (fun _ => False) w W)
        case first =>
          go_wp2_with fail
          go_loopw [7, 37] (fun _ i wr => ∃ j : Nat, j ≤ 6 ∧ i = .int .i64 j ∧ PktAt wr w.heap.size k (fieldsS (ownOf k) (zeroV, b1, 0) j).1 ByteArray.empty (.slice none 0 0) ∧ CurAt w wr (w.heap.size + 1) (fieldsS (ownOf k) (zeroV, b1, 0) j).2.1 (fieldsS (ownOf k) (zeroV, b1, 0) j).2.2 ∧ wr.heap[g]? = some (.cells (fieldCells w.heap.size (leastOf k) (fromOf k (zeroV 1))) 66 (0, 0)) ∧ Chg (fun _ => False) w wr) (fun _ i _ => 6 - (intOf i).toNat)
          case atStart => exact ⟨0, by omega, rfl, HP6.out, HC6.out, HG.out, HCH6.out⟩
          case round =>
            obtain ⟨j, hj, rfl, hP, hC, hg, hCh⟩ := hrel
            by_cases hlt : j < 6
            · obtain ⟨f1, f2, f3, f4⟩ := fieldCells_at w.heap.size (leastOf k) (fromOf k (zeroV 1)) j hlt
              obtain ⟨p1, p2⟩ := fieldAt_place (leastOf k) (fromOf k (zeroV 1)) j
              have c1 : wr.cell? ⟨g, j * 4, none⟩ = some (.int .i64 (fieldAt (leastOf k) (fromOf k (zeroV 1)) j).2.1) := (cell_of_heap hg _).trans f1
              have c2 : wr.cell? ⟨g, j * 4 + 1, none⟩ = some (.pointer (some ⟨w.heap.size, (fieldAt (leastOf k) (fromOf k (zeroV 1)) j).1, none⟩)) := (cell_of_heap hg _).trans f2
              have c3 : wr.cell? ⟨g, j * 4 + 2, none⟩ = some (.int .i64 (fieldAt (leastOf k) (fromOf k (zeroV 1)) j).2.2.1) := (cell_of_heap hg _).trans f3
              have c4 : wr.cell? ⟨g, j * 4 + 3, none⟩ = some (.int .i64 (fieldAt (leastOf k) (fromOf k (zeroV 1)) j).2.2.2) := (cell_of_heap hg _).trans f4
              have hfx : fieldsS (ownOf k) (zeroV, b1, 0) (j + 1) = fieldS (ownOf k) j (fieldsS (ownOf k) (zeroV, b1, 0) j) := rfl
              have ef1 : (fieldAt 0 0 j).1 = (fieldAt (leastOf k) (fromOf k (zeroV 1)) j).1 := by
                have : j = 0 ∨ j = 1 ∨ j = 2 ∨ j = 3 ∨ j = 4 ∨ j = 5 := by omega
                rcases this with rfl | rfl | rfl | rfl | rfl | rfl <;> rfl
              have ef2 : (fieldAt 0 0 j).2.1 = (fieldAt (leastOf k) (fromOf k (zeroV 1)) j).2.1 := by
                have : j = 0 ∨ j = 1 ∨ j = 2 ∨ j = 3 ∨ j = 4 ∨ j = 5 := by omega
                rcases this with rfl | rfl | rfl | rfl | rfl | rfl <;> rfl
              have hbs : ∀ x ∈ (fieldsS (ownOf k) (zeroV, b1, 0) j).2.1, 0 ≤ x ∧ x ≤ 255 := fun x hx => HB1.out x (sub_fieldsS _ _ _ _ hx)
              generalize hs2 : fieldsS (ownOf k) (zeroV, b1, 0) (j + 1) = s2 at *
              have HS2 := Lib.hid hs2
              clear hs2
              generalize fieldsS (ownOf k) (zeroV, b1, 0) j = s1 at *
              have HX : Hid (s2 = if bits .and .i64 (ownOf k) (fieldAt (leastOf k) (fromOf k (zeroV 1)) j).2.1 = 0 then s1 else (setV s1.1 (fieldAt (leastOf k) (fromOf k (zeroV 1)) j).1 (numOf (takeL s1.2.1 s1.2.2 7)), takeR s1.2.1 s1.2.2 7, takeE s1.2.1 s1.2.2 7)) := Lib.hid (by rw [hfx]; unfold fieldS; rw [ef1, ef2])
              clear hfx ef1 ef2
              have HPJ := Lib.hid hP
              have HCJ := Lib.hid hC
              have HGJ := Lib.hid hg
              have HCHJ := Lib.hid hCh
              have HBS := Lib.hid hbs
              have hszJ := hCh.size
              clear hP hC hg hCh hbs f1 f2 f3 f4
              generalize (fieldAt (leastOf k) (fromOf k (zeroV 1)) j).1 = q at *
              generalize (fieldAt (leastOf k) (fromOf k (zeroV 1)) j).2.1 = x1 at *
              generalize (fieldAt (leastOf k) (fromOf k (zeroV 1)) j).2.2.1 = x2 at *
              generalize (fieldAt (leastOf k) (fromOf k (zeroV 1)) j).2.2.2 = x3 at *
              by_cases hz : bits .and .i64 (ownOf k) x1 = 0
              · have hz2 : (bits .and .i64 (ownOf k) x1 != 0) = false := by rw [hz]; rfl
                have HY : Hid (s2 = s1) := Lib.hid (by rw [HX.out, if_pos hz])
                have hal := (Chg.refl (fun _ => False) wr).alloc (.cells #[.int .i64 x1, .pointer (some ⟨w.heap.size, q, none⟩), .int .i64 x2, .int .i64 x3] 66)
                have HAL := Lib.hid hal
                clear hz hal
                go_wp2_with fail
                go_roundw
                case rel => exact ⟨j + 1, by omega, by go_num, by rw [HS2.out, HY.out]; exact HPJ.out.keep HAL.out (fun h => h), by rw [HS2.out, HY.out]; exact HCJ.out.keep HAL.out (fun h => h), heap_alloc HGJ.out, HCHJ.out.alloc _⟩
                case measure => simp [intOf] <;> omega
              · have hz2 : (bits .and .i64 (ownOf k) x1 != 0) = true := bne_iff_ne.2 hz
                have HY : Hid (s2 = (setV s1.1 q (numOf (takeL s1.2.1 s1.2.2 7)), takeR s1.2.1 s1.2.2 7, takeE s1.2.1 s1.2.2 7)) := Lib.hid (by rw [HX.out, if_neg hz])
                have hal := (Chg.refl (fun _ => False) wr).alloc (.cells #[.int .i64 x1, .pointer (some ⟨w.heap.size, q, none⟩), .int .i64 x2, .int .i64 x3] 66)
                have HAL := Lib.hid hal
                clear hz hal
                go_wp2_with fail
                have hSx : (wr.alloc (.cells #[.int .i64 x1, .pointer (some ⟨w.heap.size, q, none⟩), .int .i64 x2, .int .i64 x3] 66)).drew.cell? ⟨wr.heap.size, 1, none⟩ = some (.pointer (some ⟨w.heap.size, q, none⟩)) := cell_of_heap (heap_alloc_new wr _) 1
                have hpl := HPJ.out.lt
                have hcl := HCJ.out.lt
                refine region_lone (fun W' => W'.cell? ⟨wr.heap.size, 1, none⟩ = some (.pointer (some ⟨w.heap.size, q, none⟩))) [] (by kernel_rfl) ?_
                refine take_one 0 hSx rfl (by kernel_rfl) rfl ?_
                apply Exists.intro
                refine And.intro (fun W' hS' => ?y0) (And.intro (fun _ _ _ h => h) ?_)
                case y0 => go_simp; rfl
                refine take_one 1 hSx rfl (by kernel_rfl) rfl ?_
                apply Exists.intro
                refine And.intro (fun W' hS' => ?y1) (And.intro (fun _ _ _ h => h) ?_)
                case y1 => go_simp; rfl
                refine take_one 2 hSx rfl (by kernel_rfl) rfl ?_
                apply Exists.intro
                refine And.intro (fun W' hS' => ?y2) (And.intro (fun _ _ _ h => h) ?_)
                case y2 => go_simp; rfl
                refine only_one 3 rfl (by kernel_rfl) rfl ?_
                go_simp
                have hd := HAL.out.drew
                refine (number_some w _ (w.heap.size + 1) s1.2.1 s1.2.2 7 (by omega) (HCHJ.out.trans hd) (by omega) (HCJ.out.keep hd (fun h => h)) HBS.out).mono ?_
                rintro e w8 ⟨rfl, hC8, hCh8⟩
                have hS8 := hCh8.cell hSx (by simp; omega)
                have hP8 := (HPJ.out.keep hd (fun h => h)).keep hCh8 (by simp)
                have hCh9 := (HCHJ.out.trans hd).trans' hCh8 (fun i h1 h2 => by omega)
                have hg8 := hCh8.keep (w := (wr.alloc (.cells #[.int .i64 x1, .pointer (some ⟨w.heap.size, q, none⟩), .int .i64 x2, .int .i64 x3] 66)).drew) (heap_alloc HGJ.out) (by omega)
                refine ⟨hS8, ?_⟩
                have cq := hP8.cellN q p1 p2
                have fq := hP8.free q
                refine take_one 4 hS8 rfl (by kernel_rfl) rfl ?_
                apply Exists.intro
                refine And.intro (fun W' hS' => ?y4) (And.intro (fun _ _ _ h => h) ?_)
                case y4 => go_simp; rfl
                refine only_one 5 rfl (by kernel_rfl) rfl ?_
                go_simp
                have hst := (Chg.refl (fun k => k = w.heap.size) w8).setCell (p := ⟨w.heap.size, q, none⟩) (.inl rfl) (.int .i64 (numOf (takeL s1.2.1 s1.2.2 7)))
                refine ⟨by kernel_rfl, ?_⟩
                have HP9 := Lib.hid (hP8.setN q (numOf (takeL s1.2.1 s1.2.2 7)) p1 p2)
                have HC9 := Lib.hid (hC8.keep hst (by simp))
                have HG9 := Lib.hid (heap_setCell hg8 (a := ⟨w.heap.size, q, none⟩) (by simp; omega) (.int .i64 (numOf (takeL s1.2.1 s1.2.2 7))))
                have HCH9 := Lib.hid (hCh9.trans' hst (fun i h1 h2 => by omega))
                clear cq fq hS8 hC8 hCh8 hP8 hCh9 hg8 hst hd hSx
                go_wp2_with fail
                go_roundw
                case rel => exact ⟨j + 1, by omega, by go_num, by rw [HS2.out, HY.out]; exact HP9.out, by rw [HS2.out, HY.out]; exact HC9.out, HG9.out, HCH9.out⟩
                case measure => simp [intOf] <;> omega
            · obtain rfl : j = 6 := by omega
              have HPJ := Lib.hid hP
              have HCJ := Lib.hid hC
              have HCHJ := Lib.hid hCh
              clear hP hC hg hCh
              go_wp2_with fail
              go_meet
              exact ⟨HPJ.out, HCJ.out, HCHJ.out⟩
        case rest =>
          obtain ⟨hP, hC, hCh⟩ := hcut
          have hbs : ∀ x ∈ (fieldsS (ownOf k) (zeroV, b1, 0) 6).2.1, 0 ≤ x ∧ x ≤ 255 := fun x hx => HB1.out x (sub_fieldsS _ _ _ _ hx)
          have HB2 := Lib.hid hbs
          clear hbs
          obtain ⟨s2, hs2⟩ : ∃ s, fieldsS (ownOf k) (zeroV, b1, 0) 6 = s := ⟨_, rfl⟩
          rw [hs2] at hP hC HB2 HPAR3
          clear hs2
          have HP := Lib.hid hP
          have HC := Lib.hid hC
          have HCH := Lib.hid hCh
          have b64 := bits64 k HKN.out.1 HKN.out.2
          have b128 := bits128 k HKN.out.1 HKN.out.2
          clear hP hC hCh HP6 HC6 HG HCH6 hsz6 hgs hlP hlC
          go_upto_if 54 with fail
          go_cut [54] from 55 to 57 (fun _ W => PktAt W w.heap.size k s2.1 (if k = 1 then textV s2.2.1 s2.2.2 else ByteArray.empty) (.slice none 0 0) ∧ CurAt w W (w.heap.size + 1) (if k = 1 then textRB s2.2.1 s2.2.2 else s2.2.1) (if k = 1 then textRE s2.2.1 s2.2.2 else s2.2.2) ∧ Chg (fun _ => False) w W)
          case first =>
            by_cases hk1 : k = 1
            · have hkb : (k == 1) = true := beq_iff_eq.2 hk1
              have HK1 := Lib.hid hk1
              clear hk1 b64
              have htx := text_some w wc (w.heap.size + 1) s2.2.1 s2.2.2 HCH.out (by omega) HC.out HB2.out
              have HTX := Lib.hid htx
              clear htx
              go_wp2_with fail
              refine HTX.out.mono ?_
              rintro e w7 ⟨rfl, hC7, hCh7⟩
              have hP7 := HP.out.keep hCh7 (by simp)
              have c7 : w7.cell? ⟨w.heap.size, 7, none⟩ = some (.string ByteArray.empty) := cell_of_heap hP7 7
              have f7 := hP7.free 7
              have hst := (Chg.refl (fun k => k = w.heap.size) w7).setCell (p := ⟨w.heap.size, 7, none⟩) (.inl rfl) (.string (textV s2.2.1 s2.2.2))
              have HP8 := Lib.hid (hP7.setT (textV s2.2.1 s2.2.2))
              have HC8 := Lib.hid (hC7.keep hst (by simp))
              have hszc := HCH.out.size
              have HCH8 := Lib.hid ((HCH.out.trans' hCh7 (fun i h1 h2 => by omega)).trans' hst (fun i h1 h2 => by omega))
              clear HTX hC7 hCh7 hP7 hst
              go_wp2_with fail
              go_meet
              exact ⟨by rw [if_pos HK1.out]; exact HP8.out, by rw [if_pos HK1.out, if_pos HK1.out]; exact HC8.out, HCH8.out⟩
            · have hkb : (k == 1) = false := beq_eq_false_iff_ne.2 hk1
              have HK1 := Lib.hid hk1
              clear hk1 b64
              go_wp2_with fail
              go_meet
              exact ⟨by rw [if_neg HK1.out]; exact HP.out, by rw [if_neg HK1.out, if_neg HK1.out]; exact HC.out, HCH.out⟩
          case rest =>
            obtain ⟨hP, hC, hCh⟩ := hcut
            have HPAR4 : Hid (PP = linesP k s2.1 (if k = 1 then textV s2.2.1 s2.2.2 else ByteArray.empty) (if k = 1 then textRB s2.2.1 s2.2.2 else s2.2.1) (if k = 1 then textRE s2.2.1 s2.2.2 else s2.2.2)) := Lib.hid (by
              rw [HPAR3.out]
              unfold textP
              by_cases h : k = 1
              · simp only [if_pos h]
              · simp only [if_neg h])
            have hb3 : ∀ x ∈ (if k = 1 then textRB s2.2.1 s2.2.2 else s2.2.1), 0 ≤ x ∧ x ≤ 255 := fun x hx => by
              split at hx
              · exact HB2.out x (textRB_sub hx)
              · exact HB2.out x hx
            have HB3 := Lib.hid hb3
            clear hb3 HPAR3 HB2
            generalize (if k = 1 then textV s2.2.1 s2.2.2 else ByteArray.empty) = tx at *
            generalize (if k = 1 then textRB s2.2.1 s2.2.2 else s2.2.1) = b3 at *
            generalize (if k = 1 then textRE s2.2.1 s2.2.2 else s2.2.2) = e3 at *
            obtain ⟨V, hV⟩ : ∃ V, s2.1 = V := ⟨_, rfl⟩
            rw [hV] at hP HPAR4
            have HP := Lib.hid hP
            have HC := Lib.hid hC
            have HCH := Lib.hid hCh
            have hszc := hCh.size
            clear hP hC hCh hV
            go_upto_if 60 with fail
            go_cut [60] from 61 to 79 (fun _ W => ∃ v r, r = (if k = 2 then linesS (numN b3 e3 2) (takeR b3 e3 2) (limE (numOf (takeL b3 e3 2)) 1000 (takeE b3 e3 2)) else ([], b3, e3)) ∧ PktAt W w.heap.size k V tx v ∧ W.ownsRow w.heap.size 9 1 v r.1.length (r.1.map Value.string) ∧ CurAt w W (w.heap.size + 1) r.2.1 r.2.2 ∧ r.1.length ≤ 70000 ∧ sizes r.1 ≤ 65536 * 70000 ∧ Chg (fun _ => False) w W)
            case first =>
              by_cases hk2 : k = 2
              · have hkb : (k == 2) = true := beq_iff_eq.2 hk2
                have HK2 := Lib.hid hk2
                clear hk2 b128
                have hnu := number_some w wc (w.heap.size + 1) b3 e3 2 (by omega) HCH.out (by omega) HC.out HB3.out
                have hlt := numOf_lt6 (takeL b3 e3 2) (fun x hx => HB3.out x (takeL_sub hx)) (Nat.le_trans (takeL_len _ _ _) (by omega))
                have hlt2 := (numOf_lt (takeL b3 e3 2) (fun x hx => HB3.out x (takeL_sub hx))).2
                have hpw : (256 : Int) ^ (takeL b3 e3 2).length ≤ 65536 := by
                  have := takeL_len b3 e3 2
                  have : (takeL b3 e3 2).length = 0 ∨ (takeL b3 e3 2).length = 1 ∨ (takeL b3 e3 2).length = 2 := by omega
                  rcases this with h | h | h <;> rw [h] <;> decide
                have HR : Hid (∃ r, r = (if k = 2 then linesS (numN b3 e3 2) (takeR b3 e3 2) (limE (numOf (takeL b3 e3 2)) 1000 (takeE b3 e3 2)) else ([], b3, e3)) ∧ r = linesS (numOf (takeL b3 e3 2)).toNat (takeR b3 e3 2) (limE (numOf (takeL b3 e3 2)) 1000 (takeE b3 e3 2))) := Lib.hid ⟨_, rfl, by rw [if_pos HK2.out]; rfl⟩
                have HB4 : Hid (∀ x ∈ takeR b3 e3 2, 0 ≤ x ∧ x ≤ 255) := Lib.hid fun x hx => HB3.out x (takeR_sub hx)
                have HNU := Lib.hid hnu
                clear hnu
                generalize (if k = 2 then linesS (numN b3 e3 2) (takeR b3 e3 2) (limE (numOf (takeL b3 e3 2)) 1000 (takeE b3 e3 2)) else ([], b3, e3)) = RR at *
                generalize numOf (takeL b3 e3 2) = N at *
                obtain ⟨m, rfl⟩ := Int.eq_ofNat_of_zero_le hlt.1
                have hm : m ≤ 65535 := by omega
                generalize takeR b3 e3 2 = b4 at *
                generalize takeE b3 e3 2 = e4 at *
                rw [Int.toNat_natCast] at HR
                clear hlt hlt2 hpw
                go_wp2_with fail
                refine HNU.out.mono ?_
                rintro e w7 ⟨rfl, hC7, hCh7⟩
                have hlim := limit_some w w7 (w.heap.size + 1) b4 e4 (m : Int) 1000 hC7
                have HLIM := Lib.hid hlim
                have HP7 := Lib.hid (HP.out.keep hCh7 (by simp))
                have HCH7 := Lib.hid (HCH.out.trans' hCh7 (fun i h1 h2 => by omega))
                clear HNU hC7 hCh7 hlim
                go_wp2_with fail
                refine HLIM.out.mono ?_
                rintro e w8 ⟨rfl, hC8, hCh8⟩
                have HP8 := Lib.hid (HP7.out.keep hCh8 (by simp))
                have HCH8 := Lib.hid (HCH7.out.trans' hCh8 (fun i h1 h2 => by omega))
                have HC8 := Lib.hid hC8
                clear HLIM hC8 hCh8 HP7 HCH7
                generalize limE (m : Int) 1000 e4 = e5 at *
                have HR2 : Hid (RR = linesS m b4 e5) := Lib.hid (by obtain ⟨r, h1, h2⟩ := HR.out; exact h1.symm.trans h2)
                clear HR
                go_wp2_with fail
                obtain ⟨i9, hi9, hz90, hz91, hz92⟩ := info_parts info9
                go_loopw [65] (fun i wr => ∃ (j : Nat) (acc : List ByteArray) (v : Value) (b : List Int) (e : Int), j ≤ m ∧ i = .int .i64 j ∧ PktAt wr w.heap.size k V tx v ∧ wr.ownsRow w.heap.size 9 1 v acc.length (acc.map Value.string) ∧ CurAt w wr (w.heap.size + 1) b e ∧ RR = (acc ++ (linesS (m - j) b e).1, (linesS (m - j) b e).2) ∧ acc.length = j ∧ sizes acc ≤ 65536 * j ∧ (∀ x ∈ b, 0 ≤ x ∧ x ≤ 255) ∧ Chg (fun _ => False) w wr) (fun i _ => m - (intOf i).toNat)
                case atStart => exact ⟨0, [], .slice none 0 0, b4, e5, by omega, rfl, HP8.out, World.ownsRow_nil _ _ _ _, HC8.out, by rw [HR2.out]; rfl, rfl, by simp [sizes], HB4.out, HCH8.out⟩
                case round =>
                  obtain ⟨j, acc, v, b, e, hj, rfl, hP, hO, hC, hRR, hal, hsz, hbb, hCh⟩ := hrel
                  by_cases hlt : j < m
                  · have hmj : m - j = (m - (j + 1)) + 1 := by omega
                    rw [hmj, linesS_succ] at hRR
                    have htx := text_some
                    have HBB := Lib.hid hbb
                    have HPJ := Lib.hid hP
                    have HOJ := Lib.hid hO
                    have HCJ := Lib.hid hC
                    have HCHJ := Lib.hid hCh
                    have hszJ := hCh.size
                    have HRR := Lib.hid hRR
                    have HAL := Lib.hid hal
                    have hvs := textV_size b e
                    obtain ⟨va, vn, vc, rfl⟩ := own_slice hO
                    clear hP hO hC hRR hbb hCh hmj htx hal
                    go_wp2_with fail
                    have cS : wr.drew.cell? ⟨w.heap.size, 8, none⟩ = some (.slice va vn vc) := cell_of_heap HPJ.out 8
                    refine region_lone (fun W' => W'.cell? ⟨w.heap.size, 8, none⟩ = some (.slice va vn vc)) [7] (by kernel_rfl) ?_
                    refine take_one 0 cS rfl (by kernel_rfl) rfl ?_
                    apply Exists.intro
                    refine And.intro (fun W' hS' => ?y0) (And.intro (fun _ _ _ h => h) ?_)
                    case y0 => go_simp; rfl
                    refine take_one 1 cS rfl (by kernel_rfl) rfl ?_
                    apply Exists.intro
                    refine And.intro (fun W' hS' => ?y1) (And.intro (fun _ _ _ h => h) ?_)
                    case y1 => go_simp; rfl
                    refine take_one 2 cS rfl (by kernel_rfl) rfl ?_
                    apply Exists.intro
                    refine And.intro (fun W' hS' => ?y2) (And.intro (fun _ _ _ h => h) ?_)
                    case y2 => go_simp; rfl
                    refine only_one 3 rfl (by kernel_rfl) rfl ?_
                    go_simp
                    have hd := (Chg.refl (fun _ => False) wr).drew
                    refine (text_some w _ (w.heap.size + 1) b e (HCHJ.out.trans hd) (by omega) (HCJ.out.keep hd (fun h => h)) HBB.out).mono ?_
                    rintro en w9 ⟨rfl, hC9, hCh9⟩
                    have hP9 := (HPJ.out.keep hd (fun h => h)).keep hCh9 (by simp)
                    have hCH9 := (HCHJ.out.trans hd).trans' hCh9 (fun i h1 h2 => by omega)
                    have hO9 : w9.ownsRow w.heap.size 9 1 (.slice va vn vc) acc.length (acc.map Value.string) := own_move HOJ.out (fun q hq => hCh9.block q (by obtain ⟨c, t, f, hc⟩ := own_cells HOJ.out hq; exact lt_of_heap hc) (fun e => by obtain ⟨c, hc⟩ := HCJ.out.heap; exact own_ne HOJ.out hc (by decide) (by rw [hq, e])))
                    refine ⟨cell_of_heap hP9 8, ?_⟩
                    refine only_one 4 rfl (by kernel_rfl) rfl ?_
                    go_simp
                    refine ⟨cell_of_heap (heap_alloc hP9) 8, ?_⟩
                    refine only_one 5 rfl (by kernel_rfl) rfl ?_
                    refine wp_append (.tmp 68) (.tmp 71) 24 rfl w.heap.size 9 i9 (.string ByteArray.empty) 1 16 Tryd.underlying24 hi9 hz90 hz91 hz92 rfl (by decide) (.slice va vn vc) acc.length (acc.map Value.string) rfl (hO9.alloc _) ⟨w9.heap.size, 0, none⟩ 1 1 [.string (textV b e)] rfl rfl (cell_one_new _ _ _) (by simp [Value.oneCell']) ?_ ?_ ?_ ?_
                    · unfold maxLen; have := HAL.out; omega
                    · have := HAL.out; omega
                    · have := hCH9.size; simp; omega
                    intro v' w10 hO10 hg10
                    obtain ⟨va', vn', vc', rfl⟩ := own_slice hO10
                    have hP10 : PktAt w10 w.heap.size k V tx (.slice va vn vc) := grown_keep hg10 (heap_alloc hP9) (own_ne hO9 hP9 (by decide))
                    have hC10 : CurAt w w10 (w.heap.size + 1) (textRB b e) (textRE b e) := by
                      obtain ⟨c, hc⟩ := hC9.heap
                      refine hC9.move ?_
                      rw [hc]
                      exact grown_keep hg10 (heap_alloc hc) (own_ne hO9 hc (by decide))
                    have hCH10 := (hCH9.alloc (.cells #[.string (textV b e)] 9)).grown hg10 (fun q hq => .inr (own_block hO9 hq))
                    refine ⟨fun _ => cell_of_heap hP10 8, ?_⟩
                    refine take_one 6 (cell_of_heap hP10 8) rfl (by kernel_rfl) rfl ?_
                    apply Exists.intro
                    refine And.intro (fun W' hS' => ?y6) (And.intro (fun _ _ _ h => h) ?_)
                    case y6 => go_simp; rfl
                    have c8 : w10.cell? ⟨w.heap.size, 8, none⟩ = some (.slice va vn vc) := cell_of_heap hP10 8
                    have f8 := hP10.free 8
                    refine only_one 7 rfl (by kernel_rfl) rfl ?_
                    go_simp
                    refine ⟨by kernel_rfl, ?_⟩
                    have hst := (Chg.refl (fun k => k = w.heap.size) w10).setCell (p := ⟨w.heap.size, 8, none⟩) (.inl rfl) (.slice va' vn' vc')
                    have HP11 := Lib.hid (hP10.setL (.slice va' vn' vc'))
                    have HC11 := Lib.hid (hC10.keep hst (by simp))
                    have HO11 : Hid ((w10.setCell ⟨w.heap.size, 8, none⟩ (.slice va' vn' vc')).ownsRow w.heap.size 9 1 (.slice va' vn' vc') (acc ++ [textV b e]).length ((acc ++ [textV b e]).map Value.string)) := Lib.hid (by
                      rw [List.length_append, List.map_append]
                      exact own_move hO10 (fun q hq => hst.block q (by obtain ⟨c, t, f, hc⟩ := own_cells hO10 hq; exact lt_of_heap hc) (fun e => own_ne hO10 hP10 (by decide) (by rw [hq, e]))))
                    have HCH11 := Lib.hid (hCH10.trans' hst (fun i h1 h2 => by omega))
                    have c11 := HC11.out.cellE
                    clear hst c8 f8 hCH10 hC10 hP10 hO10 hg10 hP9 hCH9 hO9 hC9 hCh9 hd cS
                    generalize w10.setCell ⟨w.heap.size, 8, none⟩ (.slice va' vn' vc') = w11 at *
                    have HRB : Hid (∀ x ∈ textRB b e, 0 ≤ x ∧ x ≤ 255) := Lib.hid fun x hx => HBB.out x (textRB_sub hx)
                    have HLN : Hid ((acc ++ [textV b e]).length = j + 1) := Lib.hid (by rw [List.length_append, HAL.out]; rfl)
                    have hsn := sizes_snoc acc (textV b e)
                    have hsz2 : sizes (acc ++ [textV b e]) ≤ 65536 * (j + 1) := by omega
                    have HSZ := Lib.hid hsz2
                    clear hsn hsz2 hvs
                    by_cases he : textRE b e = 0
                    · have HY : Hid (RR = ((acc ++ [textV b e]) ++ (linesS (m - (j + 1)) (textRB b e) (textRE b e)).1, (linesS (m - (j + 1)) (textRB b e) (textRE b e)).2)) := Lib.hid (by rw [HRR.out, if_pos he]; simp)
                      clear HRR
                      generalize textRE b e = e9 at *
                      subst he
                      go_wp2_with fail
                      go_roundw
                      case rel => exact ⟨j + 1, acc ++ [textV b e], _, textRB b e, 0, by omega, by go_num, HP11.out, HO11.out, HC11.out, HY.out, HLN.out, HSZ.out, HRB.out, HCH11.out⟩
                      case measure => simp [intOf] <;> omega
                    · have HY : Hid (RR = (acc ++ [textV b e], textRB b e, textRE b e)) := Lib.hid (by rw [HRR.out, if_neg he])
                      have heb : (textRE b e != 0) = true := bne_iff_ne.2 he
                      clear HRR he
                      go_wp2_with fail
                      go_meet
                      exact ⟨_, (acc ++ [textV b e], textRB b e, textRE b e), HY.out.symm, HP11.out, HO11.out, HC11.out, by have := HLN.out; simp at this ⊢; omega, by have := HSZ.out; simp; omega, HCH11.out⟩
                  · obtain rfl : j = m := by omega
                    rw [Nat.sub_self] at hRR
                    have HE : Hid (RR = (acc, b, e)) := Lib.hid (by rw [hRR]; simp [linesS])
                    have HPJ := Lib.hid hP
                    have HOJ := Lib.hid hO
                    have HCJ := Lib.hid hC
                    have HCHJ := Lib.hid hCh
                    have HAL := Lib.hid hal
                    clear hP hO hC hCh hRR hbb hal
                    go_wp2_with fail
                    go_meet
                    exact ⟨v, (acc, b, e), HE.out.symm, HPJ.out, HOJ.out, HCJ.out, by have := HAL.out; simp; omega, by simp; omega, HCHJ.out⟩
              · have hkb : (k == 2) = false := beq_eq_false_iff_ne.2 hk2
                have HK2 := Lib.hid hk2
                clear hk2 b128
                go_wp2_with fail
                go_meet
                exact ⟨.slice none 0 0, _, (if_neg HK2.out).symm, HP.out, World.ownsRow_nil _ _ _ _, HC.out, by simp, by simp [sizes], HCH.out⟩
            case rest =>
              obtain ⟨v, r, hr, hP, hO, hC, hl1, hl2, hCh⟩ := hcut
              have HPAR5 : Hid (PP = endP k V tx r) := Lib.hid (by rw [HPAR4.out, linesP, hr])
              clear hr HPAR4 b64 b128 HP HC HCH hszc
              have c1 := hC.cellE
              obtain ⟨Ab, capb, c0⟩ := hC.cellB
              obtain ⟨l, b, e⟩ := r
              simp only at *
              have HP := Lib.hid hP
              have HO := Lib.hid hO
              have HCH := Lib.hid hCh
              have hszc := hCh.size
              clear hP hC hCh hO
              by_cases he : e = 0
              · subst he
                by_cases hbl : 0 < b.length
                · have HE : Hid (PP = noPkt 4) := Lib.hid (by rw [HPAR5.out]; unfold endP; rw [if_pos rfl, if_pos hbl])
                  clear HPAR5
                  go_wp2_with ((with_reducible refine gate_store (t := 26) (p := 2) (v := .tmp 101) rfl ?_); refine wpList_store_row rfl 26 (.tmp 2) (.tmp 101) rfl w.heap.size zeroPkt rfl rfl 26 _ HP.out infoP rfl zeroPkt_all ?_)
                  go_wp2_with fail
                  rw [HE.out]
                  exact bodyPost_ret (results12 _ _ w.heap.size 26 zeroPkt (0, 0) 4 rfl rfl (setRow_heap _ _ _ _ _ _ HP.out) rfl) rfl (post_no w.heap.size 4 HCH.out (Nat.le_refl _))
                · obtain ⟨Al, capl, rfl, hLn⟩ := own_lines HO.out
                  have hch := check_all wc k (V 1) (V 2) (V 3) (V 4) (V 5) (V 6) tx Al l capl hLn (by omega) (by omega)
                  have HPAR6 : Hid (PP = if checkP k V tx l = 0 then ⟨k, V, tx, l, 0⟩ else noPkt 4) := Lib.hid (by rw [HPAR5.out]; unfold endP; rw [if_pos rfl, if_neg hbl])
                  have HCK := Lib.hid hch
                  have hcp : checkP k V tx l = checkF k (V 1) (V 2) (V 3) (V 4) (V 5) (V 6) tx l := rfl
                  rw [← hcp] at HCK
                  clear HPAR5 hch hcp
                  have hbz : b = [] := by cases b with | nil => rfl | cons x t => simp at hbl
                  subst hbz
                  clear hbl
                  go_wp2_with ((with_reducible refine gate_dst (N := 98) rfl ?_); refine wpList_load_row rfl 26 (.tmp 2) rfl w.heap.size rfl 26 _ (0, 0) _ HP.out Tryd.underlying26 rfl infoP ?_)
                  refine HCK.out.mono ?_
                  rintro en w9 ⟨rfl, hC9⟩
                  have HP9 := Lib.hid (HP.out.keep hC9 (fun h => h))
                  have HO9 := Lib.hid (own_move HO.out (fun q hq => hC9.block q (by obtain ⟨c, t, f, hc⟩ := own_cells HO.out hq; exact lt_of_heap hc) (fun e => e)))
                  have HCH9 := Lib.hid (HCH.out.trans hC9)
                  clear hC9 HCK HP HO HCH
                  by_cases hck : checkP k V tx l = 0
                  · have HE : Hid (PP = ⟨k, V, tx, l, 0⟩) := Lib.hid (by rw [HPAR6.out, if_pos hck])
                    have hcb : (checkP k V tx l != 0) = false := by rw [hck]; rfl
                    clear HPAR6 hck
                    go_wp2_with (first | ((with_reducible refine gate_dst (N := 102) rfl ?_); refine wpList_load_row rfl 26 (.tmp 2) rfl w.heap.size rfl 26 _ (0, 0) _ HP9.out Tryd.underlying26 rfl infoP ?_) | ((with_reducible refine gate_store (t := 26) (p := 2) (v := .tmp 102) rfl ?_); refine wpList_store_row rfl 26 (.tmp 2) (.tmp 102) rfl w.heap.size _ rfl rfl 26 _ HP9.out infoP rfl (by simp [Value.oneCell']) ?_))
                    go_wp2_with fail
                    rw [HE.out]
                    refine bodyPost_ret (results12 _ _ w.heap.size 26 _ (0, 0) 0 rfl rfl (setRow_heap _ _ _ _ _ _ HP9.out) rfl) rfl ⟨_, rfl, own_move HO9.out (fun q _ => setRow_same HP9.out q), ?_⟩
                    have h9 := HCH9.out
                    exact ⟨h9.os, h9.tape, h9.output, by rw [size_setRow]; exact h9.size, fun q hq _ => (setRow_same HP9.out q).trans (h9.block q hq (fun h => h))⟩
                  · have HE : Hid (PP = noPkt 4) := Lib.hid (by rw [HPAR6.out, if_neg hck])
                    have hcb : (checkP k V tx l != 0) = true := bne_iff_ne.2 hck
                    clear HPAR6 hck
                    go_wp2_with ((with_reducible refine gate_store (t := 26) (p := 2) (v := .tmp 101) rfl ?_); refine wpList_store_row rfl 26 (.tmp 2) (.tmp 101) rfl w.heap.size zeroPkt rfl rfl 26 _ HP9.out infoP rfl zeroPkt_all ?_)
                    go_wp2_with fail
                    rw [HE.out]
                    exact bodyPost_ret (results12 _ _ w.heap.size 26 zeroPkt (0, 0) 4 rfl rfl (setRow_heap _ _ _ _ _ _ HP9.out) rfl) rfl (post_no w.heap.size 4 HCH9.out (Nat.le_refl _))
              · have HE : Hid (PP = noPkt e) := Lib.hid (by rw [HPAR5.out]; unfold endP; rw [if_neg he])
                have heb : (e != 0) = true := bne_iff_ne.2 he
                clear HPAR5 he
                go_wp2_with ((with_reducible refine gate_store (t := 26) (p := 2) (v := .tmp 86) rfl ?_); refine wpList_store_row rfl 26 (.tmp 2) (.tmp 86) rfl w.heap.size zeroPkt rfl rfl 26 _ HP.out infoP rfl zeroPkt_all ?_)
                go_wp2_with fail
                rw [HE.out]
                exact bodyPost_ret (results12 _ _ w.heap.size 26 zeroPkt (0, 0) e rfl rfl (setRow_heap _ _ _ _ _ _ HP.out) rfl) rfl (post_no w.heap.size e HCH.out (Nat.le_refl _))
    · have hk := known_some k
      have hkk : (decide (1 ≤ k) && decide (k ≤ 5)) = false := by
        by_cases h1 : 1 ≤ k
        · rw [decide_eq_true h1, decide_eq_false (by omega)]; rfl
        · rw [decide_eq_false h1]; rfl
      rw [hkk] at hk
      have HK := Lib.hid hk
      have HE : Hid (PP = noPkt 4) := Lib.hid (by rw [HPAR2.out, if_neg hkn])
      clear hk hkk hkn HPAR2
      go_wp2_with fail
      refine (HK.out _).mono ?_
      rintro e w4 ⟨rfl, rfl⟩
      clear HK
      go_wp2_with ((with_reducible refine gate_store (t := 26) (p := 2) (v := .tmp 30) rfl ?_); refine wpList_store_row rfl 26 (.tmp 2) (.tmp 30) rfl w.heap.size zeroPkt rfl rfl 26 _ HP3.out infoP rfl zeroPkt_all ?_)
      go_wp2_with fail
      rw [HE.out]
      exact bodyPost_ret (results12 _ _ w.heap.size 26 zeroPkt (0, 0) 4 rfl rfl (setRow_heap _ _ _ _ _ _ HP3.out) rfl) rfl (post_no w.heap.size 4 HCH3.out (Nat.le_refl _))
  · have hb1 : (e1 != 0) = true := bne_iff_ne.2 he
    have HE : Hid (PP = noPkt e1) := Lib.hid (by rw [HPAR.out, if_neg he])
    clear he HPAR
    go_wp2_with ((with_reducible refine gate_store (t := 26) (p := 2) (v := .tmp 20) rfl ?_); refine wpList_store_row rfl 26 (.tmp 2) (.tmp 20) rfl w.heap.size zeroPkt rfl rfl 26 _ HP3.out infoP rfl zeroPkt_all ?_)
    go_wp2_with fail
    rw [HE.out]
    exact bodyPost_ret (results12 _ _ w.heap.size 26 zeroPkt (0, 0) e1 rfl rfl (setRow_heap _ _ _ _ _ _ HP3.out) rfl) rfl (post_no w.heap.size e1 HCH3.out (Nat.le_refl _))
end Go.Proofs.YteiedafdakffeaaDoor
