/- push: the document's Parse tells what push's does. -/
import Derived.Test.YteiedafdakffeaaDoorPuU
import Derived.Test.YteiedafdakffeaaDoorPuV
namespace Go.Proofs.YteiedafdakffeaaDoor
set_option linter.unusedVariables false
set_option linter.unusedSimpArgs false
open Go Go.RowKit Go.Proofs
open Go.Proofs.YteiedafdakffeaaDoorW.PrintWords (Kd bytesOf bytesOf_length ReadsInt ReadsOf gate_store gate_dst own_move)
set_option maxRecDepth 100000 in
set_option maxHeartbeats 8000000 in
theorem rparse_some (w : World) (A : Option Addr) (b : List Int) (cap : Nat) (hR : ReadsInt w .u8 A b.length b) (hcap : b.length ≤ cap) (hb : ∀ x ∈ b, 0 ≤ x ∧ x ≤ 255) :
    Calls Tryd.prog 13 #[.slice A b.length cap] w (ParsePost w (parseP b)) := by
  have hC0 := (((Chg.refl (fun _ => False) w).alloc (.cells #[.int .i64 0, .int .i64 0, .int .i64 0, .int .i64 0, .int .i64 0, .int .i64 0, .int .i64 0, .string ByteArray.empty, .slice none 0 0] 26)).alloc (.cells #[.slice A b.length cap, .int .i64 0] 70)).alloc (.cells #[.int .i64 0, .int .i64 0, .int .i64 0, .int .i64 0, .int .i64 0, .int .i64 0, .int .i64 0, .string ByteArray.empty, .slice none 0 0] 26)
  have hcur : RCur w (((w.alloc (.cells #[.int .i64 0, .int .i64 0, .int .i64 0, .int .i64 0, .int .i64 0, .int .i64 0, .int .i64 0, .string ByteArray.empty, .slice none 0 0] 26)).alloc (.cells #[.slice A b.length cap, .int .i64 0] 70)).alloc (.cells #[.int .i64 0, .int .i64 0, .int .i64 0, .int .i64 0, .int .i64 0, .int .i64 0, .int .i64 0, .string ByteArray.empty, .slice none 0 0] 26)) (w.heap.size + 1) b 0 := ⟨A, cap, heap_alloc (heap_new1 _ _ _), hcap, hR⟩
  have hres : PktAt (((w.alloc (.cells #[.int .i64 0, .int .i64 0, .int .i64 0, .int .i64 0, .int .i64 0, .int .i64 0, .int .i64 0, .string ByteArray.empty, .slice none 0 0] 26)).alloc (.cells #[.slice A b.length cap, .int .i64 0] 70)).alloc (.cells #[.int .i64 0, .int .i64 0, .int .i64 0, .int .i64 0, .int .i64 0, .int .i64 0, .int .i64 0, .string ByteArray.empty, .slice none 0 0] 26)) w.heap.size 0 zeroV ByteArray.empty (.slice none 0 0) := heap_alloc (heap_alloc (heap_new _ _))
  have hpk : PktAt (((w.alloc (.cells #[.int .i64 0, .int .i64 0, .int .i64 0, .int .i64 0, .int .i64 0, .int .i64 0, .int .i64 0, .string ByteArray.empty, .slice none 0 0] 26)).alloc (.cells #[.slice A b.length cap, .int .i64 0] 70)).alloc (.cells #[.int .i64 0, .int .i64 0, .int .i64 0, .int .i64 0, .int .i64 0, .int .i64 0, .int .i64 0, .string ByteArray.empty, .slice none 0 0] 26)) (w.heap.size + 1 + 1) 0 zeroV ByteArray.empty (.slice none 0 0) := by
    have e : ((w.alloc (.cells #[.int .i64 0, .int .i64 0, .int .i64 0, .int .i64 0, .int .i64 0, .int .i64 0, .int .i64 0, .string ByteArray.empty, .slice none 0 0] 26)).alloc (.cells #[.slice A b.length cap, .int .i64 0] 70)).heap.size = w.heap.size + 1 + 1 := by simp
    rw [← e]
    exact heap_new _ _
  have hnum := rnumber_some w _ _ b 0 1 255 (by omega) hC0 (by omega) hcur hb
  have h1b := num1_le b 0 hb
  rw [limE_le h1b.2] at hnum
  have HB := Lib.hid hb
  have HNUM := Lib.hid hnum
  have HPK := Lib.hid hpk
  have HRES := Lib.hid hres
  have HC0 := Lib.hid hC0
  clear hb hnum hpk hres hC0 hcur hR hcap
  obtain ⟨q, hq⟩ : ∃ q, q = ((takeE b 0 1 == 0) && !(decide (1 ≤ numOf (takeL b 0 1)) && decide (numOf (takeL b 0 1) ≤ 5))) := ⟨_, rfl⟩
  have HPAR := Lib.hid (rparse_at b q _ _ _ rfl rfl rfl hq)
  have HQ := Lib.hid hq
  clear hq
  generalize hPP : parseP b = PP at *
  clear hPP
  have HB1 : Hid (∀ x ∈ takeR b 0 1, 0 ≤ x ∧ x ≤ 255) := Lib.hid fun x hx => HB.out x (takeR_sub hx)
  go_enter Tryd.func13, Tryd.ntmps13
  go_wp2_with fail
  refine HNUM.out.mono ?_
  rintro en w2 ⟨rfl, hC2, hCh2⟩
  have hsz2 := hCh2.size
  have hp2 := HPK.out.keep hCh2 (by simp)
  have hr2 := HRES.out.keep hCh2 (by simp)
  have HC1 := Lib.hid (HC0.out.trans' hCh2 (fun i h1 h2 => by omega))
  generalize numOf (takeL b 0 1) = k at *
  generalize takeR b 0 1 = b1 at *
  generalize takeE b 0 1 = e1 at *
  have c0 : w2.cell? ⟨w.heap.size + 1 + 1, 0, none⟩ = some (.int .i64 0) := cell_of_heap hp2 0
  have f0 := free_of_heap hp2 0
  have hst := (Chg.refl (fun k => k = w.heap.size + 1 + 1) w2).setCell (p := ⟨w.heap.size + 1 + 1, 0, none⟩) (.inl rfl) (.int .i64 k)
  have HP3 := Lib.hid (hp2.setK k)
  have HR3 := Lib.hid (hr2.keep hst (fun (h : w.heap.size = w.heap.size + 1 + 1) => by omega))
  have HC3 : Hid (RCur w _ _ _ _) := Lib.hid (hC2.keep hst (by simp))
  have HCH3 := Lib.hid (HC1.out.trans' hst (fun i h1 h2 => by omega))
  clear hp2 hr2 hC2 hCh2 HC1 hst HNUM HPK HRES HC0 hsz2
  go_upto_region 4 with fail
  clear c0 f0
  generalize w2.setCell ⟨w.heap.size + 1 + 1, 0, none⟩ (.int .i64 k) = w3 at *
  go_cut [27] from 17 to 26 (fun s W => s = .bool q ∧ W = w3)
  case first =>
    have c1 := HC3.out.cellE
    have c0 : w3.cell? ⟨w.heap.size + 1 + 1, 0, none⟩ = some (.int .i64 k) := cell_of_heap HP3.out 0
    by_cases he : e1 = 0
    · subst he
      have HQ2 : Hid (q = !(decide (1 ≤ k) && decide (k ≤ 5))) := Lib.hid (by rw [HQ.out]; rfl)
      obtain ⟨r, hr⟩ : ∃ r, wi k 1 5 = r := ⟨_, rfl⟩
      have HRW := Lib.hid hr
      have HQ3 : Hid (q = !r) := Lib.hid (by rw [HQ2.out, ← hr]; rfl)
      clear hr
      go_wp2_with fail
      refine (win _ k 1 5 r HRW.out).mono ?_
      rintro e w4 ⟨rfl, rfl⟩
      go_wp2_with fail
      go_meet
      exact ⟨by rw [HQ3.out], rfl⟩
    · have heb : (e1 == 0) = false := beq_eq_false_iff_ne.2 he
      have HQ2 : Hid (q = false) := Lib.hid (by rw [HQ.out, heb]; rfl)
      clear he
      go_wp2_with fail
      go_meet
      exact ⟨by rw [HQ2.out], rfl⟩
  case rest =>
    obtain ⟨rfl, rfl⟩ := hcut
    cases q
    case true =>
      have HE : Hid (PP = noPkt 4) := Lib.hid (HPAR.out.1 rfl)
      clear HPAR HQ
      go_wp2_with ((with_reducible refine gate_store (t := 26) (p := 2) (v := .tmp 28) rfl ?_); refine wpList_store_row rfl 26 (.tmp 2) (.tmp 28) rfl w.heap.size zeroPkt rfl rfl 26 _ HR3.out infoP rfl zeroPkt_all ?_)
      go_wp2_with fail
      rw [HE.out]
      exact bodyPost_ret (results13 _ _ w.heap.size zeroPkt (0, 0) 4 rfl rfl (setRow_heap _ _ _ _ _ _ HR3.out) rfl) rfl (post_no w.heap.size 4 HCH3.out (Nat.le_refl _))
    case false =>
      have HPAR2 : Hid (PP = textP k (rfS (rfieldsL k) (zeroV, b1, e1)) ∧ (e1 = 0 → 1 ≤ k ∧ k ≤ 5)) := Lib.hid (HPAR.out.2 rfl)
      clear HPAR HQ
      have c0 : wc.cell? ⟨w.heap.size + 1 + 1, 0, none⟩ = some (.int .i64 k) := cell_of_heap HP3.out 0
      have hal := (Chg.refl (fun _ => False) wc).alloc (.cells #[.int .i64 0, .int .i64 0, .int .i64 0, .int .i64 0, .int .i64 0, .int .i64 0] 42)
      have ha4 : AllAt (wc.alloc (.cells #[.int .i64 0, .int .i64 0, .int .i64 0, .int .i64 0, .int .i64 0, .int .i64 0] 42)) wc.heap.size zeroV := heap_new _ _
      have HP4 := Lib.hid (HP3.out.keep hal (fun h => h))
      have HR4 := Lib.hid (HR3.out.keep hal (fun h => h))
      have HC4 := Lib.hid (HC3.out.keep hal (fun h => h))
      have HCH4 := Lib.hid (HCH3.out.trans hal)
      have hBsz : w.heap.size + 1 + 1 < wc.heap.size := HP3.out.lt
      have HA4 := Lib.hid ha4
      have hsB : wc.heap.size < (wc.alloc (.cells #[.int .i64 0, .int .i64 0, .int .i64 0, .int .i64 0, .int .i64 0, .int .i64 0] 42)).heap.size := by simp
      clear hal ha4 HP3 HR3 HC3 HCH3
      go_upto_region 7 with fail
      generalize wc.alloc (.cells #[.int .i64 0, .int .i64 0, .int .i64 0, .int .i64 0, .int .i64 0, .int .i64 0] 42) = w4 at *
      generalize wc.heap.size = B at *
      clear c0
      have c0 : w4.cell? ⟨w.heap.size + 1 + 1, 0, none⟩ = some (.int .i64 k) := cell_of_heap HP4.out 0
      go_wp2_with fail
      refine (rfields_some _ k).mono ?_
      rintro e w5 ⟨rfl, hF5, hC5⟩
      have HF5 := Lib.hid hF5
      have HP5 := Lib.hid (HP4.out.keep hC5 (fun h => h))
      have HR5 := Lib.hid (HR4.out.keep hC5 (fun h => h))
      have HC5 := Lib.hid (HC4.out.keep hC5 (fun h => h))
      have HA5 := Lib.hid (HA4.out.keep hC5 (fun h => h))
      have HCH5 := Lib.hid (HCH4.out.trans hC5)
      have hsz5 := hC5.size
      clear hF5 hC5 HP4 HR4 HC4 HA4 HCH4 c0
      generalize w4.heap.size = F at *
      have hlen5 := rfields_len k
      have HAT := Lib.hid (rfields_at k)
      go_upto_block 0 with fail
      go_cut [8] from 32 to 44 (fun _ W => PktAt W (w.heap.size + 1 + 1) k zeroV ByteArray.empty (.slice none 0 0) ∧ PktAt W w.heap.size 0 zeroV ByteArray.empty (.slice none 0 0) ∧ RCur w W (w.heap.size + 1) (rfS (rfieldsL k) (zeroV, b1, e1)).2.1 (rfS (rfieldsL k) (zeroV, b1, e1)).2.2 ∧ AllAt W B (rfS (rfieldsL k) (zeroV, b1, e1)).1 ∧ Chg (fun _ => False) w W)
      case first =>
        go_wp2_with fail
        go_loopw [8] (fun i wr => ∃ j : Nat, j ≤ (rfieldsL k).length ∧ i = .int .i64 j ∧ PktAt wr (w.heap.size + 1 + 1) k zeroV ByteArray.empty (.slice none 0 0) ∧ PktAt wr w.heap.size 0 zeroV ByteArray.empty (.slice none 0 0) ∧ RCur w wr (w.heap.size + 1) (rfS ((rfieldsL k).take j) (zeroV, b1, e1)).2.1 (rfS ((rfieldsL k).take j) (zeroV, b1, e1)).2.2 ∧ AllAt wr B (rfS ((rfieldsL k).take j) (zeroV, b1, e1)).1 ∧ wr.heap[F]? = some (.cells ((rfieldsL k).map (Value.int .i64)).toArray 3 (0, 0)) ∧ Chg (fun _ => False) w wr) (fun i _ => (rfieldsL k).length - (intOf i).toNat)
        case atStart => exact ⟨0, by omega, rfl, HP5.out, HR5.out, HC5.out, HA5.out, HF5.out, HCH5.out⟩
        case round =>
          obtain ⟨j, hj, rfl, hP, hRr, hC, hAl, hF, hCh⟩ := hrel
          have HPJ := Lib.hid hP
          have HRJ := Lib.hid hRr
          have HCJ := Lib.hid hC
          have HAJ := Lib.hid hAl
          have HFJ := Lib.hid hF
          have HCHJ := Lib.hid hCh
          have hszJ := hCh.size
          have hlC := hC.lt
          clear hP hRr hC hAl hF hCh
          by_cases hlt : j < (rfieldsL k).length
          · obtain ⟨qn, hqn, hqe⟩ := HAT.out j hlt
            have hST := rfS_take (rfieldsL k) (zeroV, b1, e1) j hlt
            rw [hqe] at hST
            have hcF : wr.cell? ⟨F, j, none⟩ = some (.int .i64 (qn : Int)) := by
              rw [cell_of_heap HFJ.out j]
              simp [hlt, hqe]
            have hbs : ∀ x ∈ (rfS ((rfieldsL k).take j) (zeroV, b1, e1)).2.1, 0 ≤ x ∧ x ≤ 255 := fun x hx => HB1.out x (rfS_sub _ _ x hx)
            generalize hs2 : rfS ((rfieldsL k).take (j + 1)) (zeroV, b1, e1) = s2 at *
            have HS2 := Lib.hid hs2
            clear hs2 hqe
            generalize rfS ((rfieldsL k).take j) (zeroV, b1, e1) = s1 at *
            have HY : Hid (s2 = (setV s1.1 (qn + 1) (numOf (takeL s1.2.1 s1.2.2 7)), takeR s1.2.1 s1.2.2 7, takeE s1.2.1 s1.2.2 7)) := Lib.hid (by rw [hST]; unfold rfStep; rw [Int.toNat_natCast])
            have HBS := Lib.hid hbs
            clear hST hbs
            go_upto_region 11 with fail
            have hS : wr.drew.cell? ⟨F, j, none⟩ = some (.int .i64 (qn : Int)) := hcF
            have hq0 : (0 : Int) ≤ (qn : Int) := by omega
            have hq6 : (qn : Int) < 6 := by omega
            have hj0 : (0 : Int) ≤ (j : Int) := by omega
            have hjl : (j : Int) < ((rfieldsL k).length : Int) := by omega
            refine region_lone (fun W' => W'.cell? ⟨F, j, none⟩ = some (.int .i64 (qn : Int))) [] (by kernel_rfl) ?_
            refine take_one 0 hS rfl (by kernel_rfl) rfl ?_
            apply Exists.intro
            refine And.intro (fun W' hS' => ?y0) (And.intro (fun _ _ _ h => h) ?_)
            case y0 => go_simp; rfl
            refine take_one 1 hS rfl (by kernel_rfl) rfl ?_
            apply Exists.intro
            refine And.intro (fun W' hS' => ?y1) (And.intro (fun _ _ _ h => h) ?_)
            case y1 => go_simp; rfl
            refine take_one 2 hS rfl (by kernel_rfl) rfl ?_
            apply Exists.intro
            refine And.intro (fun W' hS' => ?y2) (And.intro (fun _ _ _ h => h) ?_)
            case y2 => go_simp; rfl
            refine take_one 3 hS rfl (by kernel_rfl) rfl ?_
            apply Exists.intro
            refine And.intro (fun W' hS' => ?y3) (And.intro (fun _ _ _ h => h) ?_)
            case y3 => go_simp; rfl
            refine take_one 4 hS rfl (by kernel_rfl) rfl ?_
            apply Exists.intro
            refine And.intro (fun W' hS' => ?y4) (And.intro (fun _ _ _ h => h) ?_)
            case y4 => go_simp; rfl
            refine only_one 5 rfl (by kernel_rfl) rfl ?_
            go_simp
            have hd := (Chg.refl (fun _ => False) wr).drew
            have hn7 := rnumber_some w wr.drew (w.heap.size + 1) s1.2.1 s1.2.2 7 72057594037927936 (by omega) (HCHJ.out.trans hd) (by omega) (HCJ.out.keep hd (fun h => h)) HBS.out
            rw [limE_le (num7_le _ _ HBS.out)] at hn7
            refine hn7.mono ?_
            rintro en w8 ⟨rfl, hC8, hCh8⟩
            have hS8 := hCh8.cell hS (fun (h : F = w.heap.size + 1) => by omega)
            have hP8 := (HPJ.out.keep hd (fun h => h)).keep hCh8 (by simp)
            have hR8 := (HRJ.out.keep hd (fun h => h)).keep hCh8 (fun (h : w.heap.size = w.heap.size + 1) => by omega)
            have hA8 := (HAJ.out.keep hd (fun h => h)).keep hCh8 (fun (h : B = w.heap.size + 1) => by omega)
            have hF8 := hCh8.keep (w := wr.drew) HFJ.out (by omega)
            have hCh9 := (HCHJ.out.trans hd).trans' hCh8 (fun i h1 h2 => by omega)
            refine ⟨hS8, ?_⟩
            refine take_one 6 hS8 rfl (by kernel_rfl) rfl ?_
            apply Exists.intro
            refine And.intro (fun W' hS' => ?y6) (And.intro (fun _ _ _ h => h) ?_)
            case y6 => go_simp; rfl
            have cq := hA8.cellN qn hqn
            have fq : w8.frozen? ⟨B, qn, none⟩ = false := free_of_heap hA8 qn
            refine only_one 7 rfl (by kernel_rfl) rfl ?_
            go_simp
            have hst := (Chg.refl (fun i => i = B) w8).setCell (p := ⟨B, qn, none⟩) (.inl rfl) (.int .i64 (numOf (takeL s1.2.1 s1.2.2 7)))
            refine ⟨by kernel_rfl, ?_⟩
            have HP9 := Lib.hid (hP8.keep hst (fun (h : w.heap.size + 1 + 1 = B) => by omega))
            have HR9 := Lib.hid (hR8.keep hst (fun (h : w.heap.size = B) => by omega))
            have HC9 := Lib.hid (hC8.keep hst (fun (h : w.heap.size + 1 = B) => by omega))
            have HA9 := Lib.hid (hA8.setN qn hqn (numOf (takeL s1.2.1 s1.2.2 7)))
            have HF9 := Lib.hid (hst.keep hF8 (fun (h : F = B) => by omega))
            have HCH9 := Lib.hid (hCh9.trans' hst (fun i h1 h2 => by omega))
            clear cq fq hS8 hC8 hCh8 hP8 hR8 hA8 hF8 hCh9 hst hd hS hcF
            go_wp2_with fail
            go_roundw
            case rel => exact ⟨j + 1, by omega, by go_num, HP9.out, HR9.out, by rw [HS2.out, HY.out]; exact HC9.out, by rw [HS2.out, HY.out]; exact HA9.out, HF9.out, HCH9.out⟩
            case measure => simp [intOf] <;> omega
          · obtain rfl : j = (rfieldsL k).length := by omega
            rw [List.take_length] at HCJ HAJ
            go_wp2_with fail
            go_meet
            exact ⟨HPJ.out, HRJ.out, HCJ.out, HAJ.out, HCHJ.out⟩
      case rest =>
        obtain ⟨hP, hRr, hC, hAl, hCh⟩ := hcut
        have hbs : ∀ x ∈ (rfS (rfieldsL k) (zeroV, b1, e1)).2.1, 0 ≤ x ∧ x ≤ 255 := fun x hx => HB1.out x (rfS_sub _ _ x hx)
        have HB2 := Lib.hid hbs
        clear hbs
        obtain ⟨s2, hs2⟩ : ∃ s, rfS (rfieldsL k) (zeroV, b1, e1) = s := ⟨_, rfl⟩
        rw [hs2] at hC hAl HB2 HPAR2
        clear hs2
        have HP := Lib.hid hP
        have HRR := Lib.hid hRr
        have HC := Lib.hid hC
        have HA := Lib.hid hAl
        have HCH := Lib.hid hCh
        have hszc := hCh.size
        have hlB := lt_of_heap hAl
        clear hP hRr hC hAl hCh HP5 HR5 HC5 HA5 HF5 HCH5 HAT hlen5 hsz5 hsB
        have hne1 : ¬ (B = w.heap.size + 1 + 1) := by omega
        have hne2 : ¬ (w.heap.size + 1 + 1 = B) := by omega
        obtain ⟨a0, a1, a2, a3, a4, a5⟩ := HA.out.cells6
        obtain ⟨p0, p1, p2, p3, p4, p5, p6, p7, p8⟩ := HP.out.cells9
        have f1 := HP.out.free 1
        have f2 := HP.out.free 2
        have f3 := HP.out.free 3
        have f4 := HP.out.free 4
        have f5 := HP.out.free 5
        have f6 := HP.out.free 6
        obtain ⟨V, hV⟩ : ∃ V, s2.1 = V := ⟨_, rfl⟩
        rw [hV] at a0 a1 a2 a3 a4 a5
        go_upto_region 18 with fail
        have hsp := ((((((Chg.refl (fun i => i = w.heap.size + 1 + 1) wc).setCell (p := ⟨w.heap.size + 1 + 1, 1, none⟩) (.inl rfl) (.int .i64 (V 1))).setCell (p := ⟨w.heap.size + 1 + 1, 2, none⟩) (.inl rfl) (.int .i64 (V 2))).setCell (p := ⟨w.heap.size + 1 + 1, 3, none⟩) (.inl rfl) (.int .i64 (V 3))).setCell (p := ⟨w.heap.size + 1 + 1, 4, none⟩) (.inl rfl) (.int .i64 (V 4))).setCell (p := ⟨w.heap.size + 1 + 1, 5, none⟩) (.inl rfl) (.int .i64 (V 5))).setCell (p := ⟨w.heap.size + 1 + 1, 6, none⟩) (.inl rfl) (.int .i64 (V 6))
        have HP7 := Lib.hid (PktAt.ext (V' := V) ((((((HP.out.setN 1 (V 1) (by omega) (by omega)).setN 2 (V 2) (by omega) (by omega)).setN 3 (V 3) (by omega) (by omega)).setN 4 (V 4) (by omega) (by omega)).setN 5 (V 5) (by omega) (by omega)).setN 6 (V 6) (by omega) (by omega)) rfl rfl rfl rfl rfl rfl)
        have HR7 := Lib.hid (HRR.out.keep hsp (fun (h : w.heap.size = w.heap.size + 1 + 1) => by omega))
        have HC7 := Lib.hid (HC.out.keep hsp (fun (h : w.heap.size + 1 = w.heap.size + 1 + 1) => by omega))
        have HCH7 := Lib.hid (HCH.out.trans' hsp (fun i h1 h2 => by omega))
        clear hsp a0 a1 a2 a3 a4 a5 p0 p1 p2 p3 p4 p5 p6 p7 p8 f1 f2 f3 f4 f5 f6 HP HRR HC HA HCH hszc hlB hne1 hne2
        generalize ((((((wc.setCell ⟨w.heap.size + 1 + 1, 1, none⟩ (.int .i64 (V 1))).setCell ⟨w.heap.size + 1 + 1, 2, none⟩ (.int .i64 (V 2))).setCell ⟨w.heap.size + 1 + 1, 3, none⟩ (.int .i64 (V 3))).setCell ⟨w.heap.size + 1 + 1, 4, none⟩ (.int .i64 (V 4))).setCell ⟨w.heap.size + 1 + 1, 5, none⟩ (.int .i64 (V 5))).setCell ⟨w.heap.size + 1 + 1, 6, none⟩ (.int .i64 (V 6))) = w7 at *
        have c0 : w7.cell? ⟨w.heap.size + 1 + 1, 0, none⟩ = some (.int .i64 k) := cell_of_heap HP7.out 0
        have HPAR3 := Lib.hid HPAR2.out.1
        clear HPAR2
        unfold textP at HPAR3
        rw [hV] at HPAR3
        clear hV
        go_upto_if 65 with fail
        go_cut [65] from 66 to 68 (fun _ W => PktAt W (w.heap.size + 1 + 1) k V (if k = 1 then textV s2.2.1 s2.2.2 else ByteArray.empty) (.slice none 0 0) ∧ PktAt W w.heap.size 0 zeroV ByteArray.empty (.slice none 0 0) ∧ RCur w W (w.heap.size + 1) (if k = 1 then textRB s2.2.1 s2.2.2 else s2.2.1) (if k = 1 then textRE s2.2.1 s2.2.2 else s2.2.2) ∧ Chg (fun _ => False) w W)
        case first =>
          by_cases hk1 : k = 1
          · have hkb : (k == 1) = true := beq_iff_eq.2 hk1
            have HK1 := Lib.hid hk1
            clear hk1
            have htx := rtext_some w w7 (w.heap.size + 1) s2.2.1 s2.2.2 HCH7.out (by omega) HC7.out HB2.out
            have HTX := Lib.hid htx
            clear htx
            go_wp2_with fail
            refine HTX.out.mono ?_
            rintro e w8 ⟨rfl, hC8, hCh8⟩
            have hP8 := HP7.out.keep hCh8 (fun (h : w.heap.size + 1 + 1 = w.heap.size + 1) => by omega)
            have hR8 := HR7.out.keep hCh8 (fun (h : w.heap.size = w.heap.size + 1) => by omega)
            have c7 : w8.cell? ⟨w.heap.size + 1 + 1, 7, none⟩ = some (.string ByteArray.empty) := cell_of_heap hP8 7
            have f7 := hP8.free 7
            have hst := (Chg.refl (fun k => k = w.heap.size + 1 + 1) w8).setCell (p := ⟨w.heap.size + 1 + 1, 7, none⟩) (.inl rfl) (.string (textV s2.2.1 s2.2.2))
            have HP9 := Lib.hid (hP8.setT (textV s2.2.1 s2.2.2))
            have HR9 := Lib.hid (hR8.keep hst (fun (h : w.heap.size = w.heap.size + 1 + 1) => by omega))
            have HC9 := Lib.hid (hC8.keep hst (fun (h : w.heap.size + 1 = w.heap.size + 1 + 1) => by omega))
            have hszc := HCH7.out.size
            have HCH9 := Lib.hid ((HCH7.out.trans' hCh8 (fun i h1 h2 => by omega)).trans' hst (fun i h1 h2 => by omega))
            clear HTX hC8 hCh8 hP8 hR8 hst c0
            go_wp2_with fail
            go_meet
            exact ⟨by rw [if_pos HK1.out]; exact HP9.out, HR9.out, by rw [if_pos HK1.out, if_pos HK1.out]; exact HC9.out, HCH9.out⟩
          · have hkb : (k == 1) = false := beq_eq_false_iff_ne.2 hk1
            have HK1 := Lib.hid hk1
            clear hk1
            go_wp2_with fail
            go_meet
            exact ⟨by rw [if_neg HK1.out]; exact HP7.out, HR7.out, by rw [if_neg HK1.out, if_neg HK1.out]; exact HC7.out, HCH7.out⟩
        case rest =>
          obtain ⟨hP, hRr, hC, hCh⟩ := hcut
          have HPAR4 : Hid (PP = linesP k V (if k = 1 then textV s2.2.1 s2.2.2 else ByteArray.empty) (if k = 1 then textRB s2.2.1 s2.2.2 else s2.2.1) (if k = 1 then textRE s2.2.1 s2.2.2 else s2.2.2)) := Lib.hid (by
            rw [HPAR3.out]
            by_cases h : k = 1
            · simp only [if_pos h]
            · simp only [if_neg h])
          have hb3 : ∀ x ∈ (if k = 1 then textRB s2.2.1 s2.2.2 else s2.2.1), 0 ≤ x ∧ x ≤ 255 := fun x hx => by
            split at hx
            · exact HB2.out x (textRB_sub hx)
            · exact HB2.out x hx
          have HB3 := Lib.hid hb3
          clear hb3 HPAR3 HB2 HP7 HR7 HC7 HCH7 c0
          generalize (if k = 1 then textV s2.2.1 s2.2.2 else ByteArray.empty) = tx at *
          generalize (if k = 1 then textRB s2.2.1 s2.2.2 else s2.2.1) = b3 at *
          generalize (if k = 1 then textRE s2.2.1 s2.2.2 else s2.2.2) = e3 at *
          unfold linesP at HPAR4
          have c0 : wc.cell? ⟨w.heap.size + 1 + 1, 0, none⟩ = some (.int .i64 k) := cell_of_heap hP 0
          have HP := Lib.hid hP
          have HRR := Lib.hid hRr
          have HC := Lib.hid hC
          have HCH := Lib.hid hCh
          have hszc := hCh.size
          clear hP hC hCh hRr
          go_upto_if 71 with fail
          go_cut [9, 10, 71] from 72 to 92 (fun _ _ _ W => ∃ v l b e, PP = endP k V tx (l, b, e) ∧ PktAt W (w.heap.size + 1 + 1) k V tx v ∧ PktAt W w.heap.size 0 zeroV ByteArray.empty (.slice none 0 0) ∧ W.ownsRow w.heap.size 9 1 v l.length (l.map Value.string) ∧ RCur w W (w.heap.size + 1) b e ∧ l.length ≤ 70000 ∧ sizes l ≤ 65536 * 70000 ∧ Chg (fun _ => False) w W)
          case first =>
            by_cases hk2 : k = 2
            · have hkb : (k == 2) = true := beq_iff_eq.2 hk2
              have HK2 := Lib.hid hk2
              clear hk2
              have hnu := rnumber_some w wc (w.heap.size + 1) b3 e3 2 1000 (by omega) HCH.out (by omega) HC.out HB3.out
              have hn2 := num2_le b3 e3 HB3.out
              have HR : Hid (PP = endP k V tx (linesS (numOf (takeL b3 e3 2)).toNat (takeR b3 e3 2) (limE (numOf (takeL b3 e3 2)) 1000 (takeE b3 e3 2)))) := Lib.hid (by rw [HPAR4.out, if_pos HK2.out]; rfl)
              have HB4 : Hid (∀ x ∈ takeR b3 e3 2, 0 ≤ x ∧ x ≤ 255) := Lib.hid fun x hx => HB3.out x (takeR_sub hx)
              have HNU := Lib.hid hnu
              clear hnu HPAR4
              generalize numOf (takeL b3 e3 2) = N at *
              obtain ⟨m, rfl⟩ := Int.eq_ofNat_of_zero_le hn2.1
              have hm : m ≤ 65535 := by omega
              generalize takeR b3 e3 2 = b4 at *
              generalize limE (m : Int) 1000 (takeE b3 e3 2) = e5 at *
              rw [Int.toNat_natCast] at HR
              clear hn2
              go_wp2_with fail
              refine HNU.out.mono ?_
              rintro e w8 ⟨rfl, hC8, hCh8⟩
              have HP8 := Lib.hid (HP.out.keep hCh8 (fun (h : w.heap.size + 1 + 1 = w.heap.size + 1) => by omega))
              have HR8 := Lib.hid (HRR.out.keep hCh8 (fun (h : w.heap.size = w.heap.size + 1) => by omega))
              have HCH8 := Lib.hid (HCH.out.trans' hCh8 (fun i h1 h2 => by omega))
              have HC8 := Lib.hid hC8
              clear HNU hC8 hCh8 c0
              go_wp2_with fail
              obtain ⟨i9, hi9, hz90, hz91, hz92⟩ := info_parts info9
              go_loopw [10] (fun i wr => ∃ (j : Nat) (acc : List ByteArray) (v : Value) (b : List Int) (e : Int), j ≤ m ∧ i = .int .i64 j ∧ PktAt wr (w.heap.size + 1 + 1) k V tx v ∧ PktAt wr w.heap.size 0 zeroV ByteArray.empty (.slice none 0 0) ∧ wr.ownsRow w.heap.size 9 1 v acc.length (acc.map Value.string) ∧ RCur w wr (w.heap.size + 1) b e ∧ PP = endP k V tx (acc ++ (linesS (m - j) b e).1, (linesS (m - j) b e).2) ∧ acc.length = j ∧ sizes acc ≤ 65536 * j ∧ (∀ x ∈ b, 0 ≤ x ∧ x ≤ 255) ∧ Chg (fun _ => False) w wr) (fun i _ => m - (intOf i).toNat)
              case atStart => exact ⟨0, [], (.slice none 0 0), b4, e5, by omega, rfl, HP8.out, HR8.out, World.ownsRow_nil _ _ _ _, HC8.out, by rw [HR.out]; rfl, rfl, by simp [sizes], HB4.out, HCH8.out⟩
              case round =>
                obtain ⟨j, acc, v, b, e, hj, rfl, hP, hRr, hO, hC, hPP, hal, hsz, hbb, hCh⟩ := hrel
                have c1 := hC.cellE
                by_cases hlt : j < m
                · by_cases he : e = 0
                  · subst he
                    have hmj : m - j = (m - (j + 1)) + 1 := by omega
                    rw [hmj] at hPP
                    have HBB := Lib.hid hbb
                    have HPJ := Lib.hid hP
                    have HRJ := Lib.hid hRr
                    have HOJ := Lib.hid hO
                    have HCJ := Lib.hid hC
                    have HCHJ := Lib.hid hCh
                    have hszJ := hCh.size
                    have HPPJ := Lib.hid hPP
                    have HAL := Lib.hid hal
                    have hvs := textV_size b 0
                    obtain ⟨va, vn, vc, rfl⟩ := own_slice hO
                    clear hP hRr hO hC hPP hbb hCh hmj hal
                    go_upto_region 25 with fail
                    have cS : wr.drew.cell? ⟨w.heap.size + 1 + 1, 8, none⟩ = some (.slice va vn vc) := cell_of_heap HPJ.out 8
                    refine region_lone (fun W' => W'.cell? ⟨w.heap.size + 1 + 1, 8, none⟩ = some (.slice va vn vc)) [7] (by kernel_rfl) ?_
                    refine take_one 0 cS rfl (by kernel_rfl) rfl ?_
                    apply Exists.intro
                    refine And.intro (fun W' hS' => ?y0) (And.intro (fun _ _ _ h => h) ?_)
                    case y0 => go_simp; rfl
                    refine take_one 1 cS rfl (by kernel_rfl) rfl ?_
                    apply Exists.intro
                    refine And.intro (fun W' hS' => ?y1) (And.intro (fun _ _ _ h => h) ?_)
                    case y1 => go_simp; rfl
                    refine take_one 2 cS rfl (by kernel_rfl) rfl ?_
                    apply Exists.intro
                    refine And.intro (fun W' hS' => ?y2) (And.intro (fun _ _ _ h => h) ?_)
                    case y2 => go_simp; rfl
                    refine only_one 3 rfl (by kernel_rfl) rfl ?_
                    go_simp
                    have hd := (Chg.refl (fun _ => False) wr).drew
                    refine (rtext_some w _ (w.heap.size + 1) b 0 (HCHJ.out.trans hd) (by omega) (HCJ.out.keep hd (fun h => h)) HBB.out).mono ?_
                    rintro en w9 ⟨rfl, hC9, hCh9⟩
                    have hP9 := (HPJ.out.keep hd (fun h => h)).keep hCh9 (fun (h : w.heap.size + 1 + 1 = w.heap.size + 1) => by omega)
                    have hR9 := (HRJ.out.keep hd (fun h => h)).keep hCh9 (fun (h : w.heap.size = w.heap.size + 1) => by omega)
                    have hCH9 := (HCHJ.out.trans hd).trans' hCh9 (fun i h1 h2 => by omega)
                    have hO9 : w9.ownsRow w.heap.size 9 1 (.slice va vn vc) acc.length (acc.map Value.string) := own_move HOJ.out (fun q hq => hCh9.block q (by obtain ⟨c, t, f, hc⟩ := own_cells HOJ.out hq; exact lt_of_heap hc) (fun e => by obtain ⟨c, hc⟩ := HCJ.out.heap; exact own_ne HOJ.out hc (by decide) (by rw [hq, e])))
                    refine ⟨cell_of_heap hP9 8, ?_⟩
                    refine only_one 4 rfl (by kernel_rfl) rfl ?_
                    go_simp
                    refine ⟨cell_of_heap (heap_alloc hP9) 8, ?_⟩
                    refine only_one 5 rfl (by kernel_rfl) rfl ?_
                    refine wp_append (.tmp 87) (.tmp 90) 24 rfl w.heap.size 9 i9 (.string ByteArray.empty) 1 16 Tryd.underlying24 hi9 hz90 hz91 hz92 rfl (by decide) (.slice va vn vc) acc.length (acc.map Value.string) rfl (hO9.alloc _) ⟨w9.heap.size, 0, none⟩ 1 1 [.string (textV b 0)] rfl rfl (cell_one_new _ _ _) (by simp [Value.oneCell']) ?_ ?_ ?_ ?_
                    · unfold maxLen; have := HAL.out; omega
                    · have := HAL.out; omega
                    · have := hCH9.size; simp; omega
                    intro v' w10 hO10 hg10
                    obtain ⟨va', vn', vc', rfl⟩ := own_slice hO10
                    have hP10 : PktAt w10 (w.heap.size + 1 + 1) k V tx (.slice va vn vc) := grown_keep hg10 (heap_alloc hP9) (own_ne hO9 hP9 (by decide))
                    have hR10 : PktAt w10 w.heap.size 0 zeroV ByteArray.empty (.slice none 0 0) := grown_keep hg10 (heap_alloc hR9) (own_ne hO9 hR9 (by decide))
                    have hC10 : RCur w w10 (w.heap.size + 1) (textRB b 0) (textRE b 0) := by
                      obtain ⟨c, hc⟩ := hC9.heap
                      refine hC9.move ?_
                      rw [hc]
                      exact grown_keep hg10 (heap_alloc hc) (own_ne hO9 hc (by decide))
                    have hCH10 := (hCH9.alloc (.cells #[.string (textV b 0)] 9)).grown hg10 (fun q hq => .inr (own_block hO9 hq))
                    refine ⟨fun _ => cell_of_heap hP10 8, ?_⟩
                    refine take_one 6 (cell_of_heap hP10 8) rfl (by kernel_rfl) rfl ?_
                    apply Exists.intro
                    refine And.intro (fun W' hS' => ?y6) (And.intro (fun _ _ _ h => h) ?_)
                    case y6 => go_simp; rfl
                    have c8 : w10.cell? ⟨w.heap.size + 1 + 1, 8, none⟩ = some (.slice va vn vc) := cell_of_heap hP10 8
                    have f8 := hP10.free 8
                    refine only_one 7 rfl (by kernel_rfl) rfl ?_
                    go_simp
                    refine ⟨by kernel_rfl, ?_⟩
                    have hst := (Chg.refl (fun k => k = w.heap.size + 1 + 1) w10).setCell (p := ⟨w.heap.size + 1 + 1, 8, none⟩) (.inl rfl) (.slice va' vn' vc')
                    have HP11 := Lib.hid (hP10.setL (.slice va' vn' vc'))
                    have HR11 := Lib.hid (hR10.keep hst (fun (h : w.heap.size = w.heap.size + 1 + 1) => by omega))
                    have HC11 := Lib.hid (hC10.keep hst (fun (h : w.heap.size + 1 = w.heap.size + 1 + 1) => by omega))
                    have HO11 : Hid ((w10.setCell ⟨w.heap.size + 1 + 1, 8, none⟩ (.slice va' vn' vc')).ownsRow w.heap.size 9 1 (.slice va' vn' vc') (acc ++ [textV b 0]).length ((acc ++ [textV b 0]).map Value.string)) := Lib.hid (by
                      rw [List.length_append, List.map_append]
                      exact own_move hO10 (fun q hq => hst.block q (by obtain ⟨c, t, f, hc⟩ := own_cells hO10 hq; exact lt_of_heap hc) (fun e => own_ne hO10 hP10 (by decide) (by rw [hq, e]))))
                    have HCH11 := Lib.hid (hCH10.trans' hst (fun i h1 h2 => by omega))
                    clear hst c8 f8 hCH10 hC10 hP10 hR10 hO10 hg10 hP9 hR9 hCH9 hO9 hC9 hCh9 hd cS c1
                    generalize w10.setCell ⟨w.heap.size + 1 + 1, 8, none⟩ (.slice va' vn' vc') = w11 at *
                    have HRB : Hid (∀ x ∈ textRB b 0, 0 ≤ x ∧ x ≤ 255) := Lib.hid fun x hx => HBB.out x (textRB_sub hx)
                    have HLN : Hid ((acc ++ [textV b 0]).length = j + 1) := Lib.hid (by rw [List.length_append, HAL.out]; rfl)
                    have hsn := sizes_snoc acc (textV b 0)
                    have hsz2 : sizes (acc ++ [textV b 0]) ≤ 65536 * (j + 1) := by omega
                    have HSZ := Lib.hid hsz2
                    clear hsn hsz2 hvs
                    have HY : Hid (PP = endP k V tx ((acc ++ [textV b 0]) ++ (linesS (m - (j + 1)) (textRB b 0) (textRE b 0)).1, (linesS (m - (j + 1)) (textRB b 0) (textRE b 0)).2)) := Lib.hid (HPPJ.out.trans (lines_step k V tx acc (m - (j + 1)) b 0))
                    clear HPPJ
                    go_wp2_with fail
                    go_roundw
                    case rel => exact ⟨j + 1, acc ++ [textV b 0], _, textRB b 0, textRE b 0, by omega, by go_num, HP11.out, HR11.out, HO11.out, HC11.out, HY.out, HLN.out, HSZ.out, HRB.out, HCH11.out⟩
                    case measure => simp [intOf] <;> omega
                  · have HE : Hid (PP = endP k V tx (acc, b, e)) := Lib.hid (hPP.trans (lines_end k V tx acc (m - j) b e he))
                    have heb : (e == 0) = false := beq_eq_false_iff_ne.2 he
                    have HPJ := Lib.hid hP
                    have HRJ := Lib.hid hRr
                    have HOJ := Lib.hid hO
                    have HCJ := Lib.hid hC
                    have HCHJ := Lib.hid hCh
                    have HAL := Lib.hid hal
                    clear hP hRr hO hC hPP hbb hCh hal he
                    go_wp2_with fail
                    go_meet
                    exact ⟨v, acc, b, e, HE.out, HPJ.out, HRJ.out, HOJ.out, HCJ.out, by have := HAL.out; omega, by omega, HCHJ.out⟩
                · obtain rfl : j = m := by omega
                  rw [Nat.sub_self] at hPP
                  have HE : Hid (PP = endP k V tx (acc, b, e)) := Lib.hid (by rw [hPP]; simp [linesS])
                  have HPJ := Lib.hid hP
                  have HRJ := Lib.hid hRr
                  have HOJ := Lib.hid hO
                  have HCJ := Lib.hid hC
                  have HCHJ := Lib.hid hCh
                  have HAL := Lib.hid hal
                  clear hP hRr hO hC hPP hbb hCh hal
                  go_wp2_with fail
                  go_meet
                  exact ⟨v, acc, b, e, HE.out, HPJ.out, HRJ.out, HOJ.out, HCJ.out, by have := HAL.out; omega, by omega, HCHJ.out⟩
            · have hkb : (k == 2) = false := beq_eq_false_iff_ne.2 hk2
              have HE : Hid (PP = endP k V tx ([], b3, e3)) := Lib.hid (by rw [HPAR4.out, if_neg hk2])
              clear hk2 HPAR4
              go_wp2_with fail
              go_meet
              exact ⟨(.slice none 0 0), [], b3, e3, HE.out, HP.out, HRR.out, World.ownsRow_nil _ _ _ _, HC.out, by simp, by simp [sizes], HCH.out⟩
          case rest =>
            obtain ⟨v, l, b, e, hPP, hP, hRr, hO, hC, hl1, hl2, hCh⟩ := hcut
            have HPAR5 := Lib.hid hPP
            clear hPP HPAR4 HP HRR HC HCH hszc c0 HB3
            have c1 := hC.cellE
            have HCURC : Hid (∃ cs t fr, wc.heap[w.heap.size + 1]? = some (.cells cs t fr)) := Lib.hid (by obtain ⟨c, h⟩ := hC.heap; exact ⟨_, _, _, h⟩)
            obtain ⟨Ab, capb, c0⟩ := hC.cellB
            obtain ⟨Al, ln, capl, rfl⟩ := own_slice hO
            obtain ⟨Al', capl', he0, hLn⟩ := own_lines hO
            cases he0
            obtain ⟨q0, q1, q2, q3, q4, q5, q6, q7, q8⟩ := hP.cells9
            have HP := Lib.hid hP
            have HRR := Lib.hid hRr
            have HO := Lib.hid hO
            have HCH := Lib.hid hCh
            have HLN := Lib.hid hLn
            have hszc := hCh.size
            clear hP hC hCh hO hRr hLn
            by_cases he : e = 0
            · subst he
              by_cases hbl : 0 < b.length
              · have HE : Hid (PP = noPkt 4) := Lib.hid (by rw [HPAR5.out]; unfold endP; rw [if_pos rfl, if_pos hbl])
                clear HPAR5
                go_wp2_with ((with_reducible refine gate_store (t := 26) (p := 2) (v := .tmp 114) rfl ?_); refine wpList_store_row rfl 26 (.tmp 2) (.tmp 114) rfl w.heap.size zeroPkt rfl rfl 26 _ HRR.out infoP rfl zeroPkt_all ?_)
                go_wp2_with fail
                rw [HE.out]
                exact bodyPost_ret (results13 _ _ w.heap.size zeroPkt (0, 0) 4 rfl rfl (setRow_heap _ _ _ _ _ _ HRR.out) rfl) rfl (post_no w.heap.size 4 HCH.out (Nat.le_refl _))
              · have hch := rcheck_some wc k V tx Al l capl HLN.out (by omega) (by omega)
                unfold pk at hch
                have HPAR6 : Hid (PP = if checkP k V tx l = 0 then ⟨k, V, tx, l, 0⟩ else noPkt 4) := Lib.hid (by rw [HPAR5.out]; unfold endP; rw [if_pos rfl, if_neg hbl])
                have HCK := Lib.hid hch
                clear HPAR5 hch
                have hbz : b = [] := by cases b with | nil => rfl | cons x t => simp at hbl
                subst hbz
                clear hbl
                go_wp2_with fail
                refine HCK.out.mono ?_
                rintro en w9 ⟨rfl, hC9⟩
                have HP9 := Lib.hid (HP.out.keep hC9 (fun h => h))
                have HR9 := Lib.hid (HRR.out.keep hC9 (fun h => h))
                have HO9 := Lib.hid (own_chg HO.out hC9 (fun _ _ h => h))
                have HCH9 := Lib.hid (HCH.out.trans hC9)
                clear hC9 HCK HP HO HCH HRR q0 q1 q2 q3 q4 q5 q6 q7 q8 HLN c0 c1
                by_cases hck : checkP k V tx l = 0
                · have HE : Hid (PP = ⟨k, V, tx, l, 0⟩) := Lib.hid (by rw [HPAR6.out, if_pos hck])
                  have hcb : (checkP k V tx l != 0) = false := by rw [hck]; rfl
                  clear HPAR6 hck
                  go_wp2_with (first | ((with_reducible refine gate_dst (N := 115) rfl ?_); refine wpList_load_row rfl 26 (.tmp 5) rfl (w.heap.size + 1 + 1) rfl 26 _ (0, 0) _ HP9.out Tryd.underlying26 rfl infoP ?_) | ((with_reducible refine gate_store (t := 26) (p := 2) (v := .tmp 115) rfl ?_); refine wpList_store_row rfl 26 (.tmp 2) (.tmp 115) rfl w.heap.size _ rfl rfl 26 _ HR9.out infoP rfl (by simp [Value.oneCell']) ?_))
                  go_wp2_with fail
                  rw [HE.out]
                  refine bodyPost_ret (results13 _ _ w.heap.size _ (0, 0) 0 rfl rfl (setRow_heap _ _ _ _ _ _ HR9.out) rfl) rfl ⟨_, rfl, own_move HO9.out (fun q hq => setRow_other _ _ _ _ (fun e => own_ne HO9.out HR9.out (by decide) (by rw [hq, e]))), ?_⟩
                  have h9 := HCH9.out
                  exact ⟨h9.os, h9.tape, h9.output, by rw [size_setRow]; exact h9.size, fun q hq _ => (setRow_other _ _ _ _ (by omega)).trans (h9.block q hq (fun h => h))⟩
                · have HE : Hid (PP = noPkt 4) := Lib.hid (by rw [HPAR6.out, if_neg hck])
                  have hcb : (checkP k V tx l != 0) = true := bne_iff_ne.2 hck
                  clear HPAR6 hck
                  go_wp2_with ((with_reducible refine gate_store (t := 26) (p := 2) (v := .tmp 114) rfl ?_); refine wpList_store_row rfl 26 (.tmp 2) (.tmp 114) rfl w.heap.size zeroPkt rfl rfl 26 _ HR9.out infoP rfl zeroPkt_all ?_)
                  go_wp2_with fail
                  rw [HE.out]
                  exact bodyPost_ret (results13 _ _ w.heap.size zeroPkt (0, 0) 4 rfl rfl (setRow_heap _ _ _ _ _ _ HR9.out) rfl) rfl (post_no w.heap.size 4 HCH9.out (Nat.le_refl _))
            · have HE : Hid (PP = noPkt e) := Lib.hid (by rw [HPAR5.out]; unfold endP; rw [if_neg he])
              have heb : (e != 0) = true := bne_iff_ne.2 he
              clear HPAR5 he
              go_upto_region 27 with fail
              have hS : wc.drew.cell? ⟨w.heap.size + 1, 1, none⟩ = some (.int .i64 e) := c1
              have hRd : PktAt wc.drew w.heap.size 0 zeroV ByteArray.empty (.slice none 0 0) := HRR.out
              have HCHd := Lib.hid HCH.out.drew
              refine region_lone (fun W' => W'.cell? ⟨w.heap.size + 1, 1, none⟩ = some (.int .i64 e)) [] (by kernel_rfl) ?_
              refine take_one 0 hS rfl (by kernel_rfl) rfl ?_
              apply Exists.intro
              refine And.intro (fun W' hS' => ?y0) (And.intro (fun _ _ _ h => h) ?_)
              case y0 => go_simp; rfl
              refine take_one 1 hS rfl (by kernel_rfl) rfl ?_
              apply Exists.intro
              refine And.intro (fun W' hS' => ?y1) (And.intro (fun _ _ _ h => h) ?_)
              case y1 => go_simp; rfl
              refine take_one 2 hS rfl (by kernel_rfl) rfl ?_
              apply Exists.intro
              refine And.intro (fun W' hS' => ?y2) (And.intro (fun _ _ _ h => h) ?_)
              case y2 => go_simp; rfl
              refine take_one 3 hS rfl (by kernel_rfl) rfl ?_
              apply Exists.intro
              refine And.intro (fun W' hS' => ?y3) (And.intro (fun _ _ _ h => h) ?_)
              case y3 => go_simp; rfl
              refine take_one 4 hS rfl (by kernel_rfl) rfl ?_
              apply Exists.intro
              refine And.intro (fun W' hS' => ?y4) (And.intro (fun _ _ _ h => h) ?_)
              case y4 => go_simp; rfl
              go_simp
              refine only_one 5 rfl (by kernel_rfl) rfl ?_
              refine wp_store_row 26 (.tmp 2) (.tmp 98) rfl w.heap.size zeroPkt rfl rfl 26 _ hRd infoP rfl zeroPkt_all ?_
              have hS2 : (wc.drew.setRow w.heap.size zeroPkt).cell? ⟨w.heap.size + 1, 1, none⟩ = some (.int .i64 e) := by
                obtain ⟨cs, t, fr, hcs⟩ : ∃ cs t fr, wc.heap[w.heap.size + 1]? = some (.cells cs t fr) := HCURC.out
                have h1 : (wc.drew.setRow w.heap.size zeroPkt).heap[w.heap.size + 1]? = some (.cells cs t fr) := (setRow_other _ _ _ _ (by omega)).trans hcs
                rw [cell_of_heap h1, ← cell_of_heap hcs]
                exact c1
              refine ⟨fun _ => hS2, ?_⟩
              go_simp
              refine take_one 6 hS2 rfl (by kernel_rfl) rfl ?_
              apply Exists.intro
              refine And.intro (fun W' hS' => ?y6) (And.intro (fun _ _ _ h => h) ?_)
              case y6 => go_simp; rfl
              refine all_done (by kernel_rfl) ?_ _
              go_wp2_with fail
              rw [HE.out]
              exact bodyPost_ret (results13 _ _ w.heap.size zeroPkt (0, 0) e rfl rfl (setRow_heap _ _ _ _ _ _ hRd) rfl) rfl (post_no w.heap.size e HCHd.out (Nat.le_refl _))
end Go.Proofs.YteiedafdakffeaaDoor
