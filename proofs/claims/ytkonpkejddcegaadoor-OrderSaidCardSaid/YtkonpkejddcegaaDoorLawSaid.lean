/- OrderSaid: the walk. -/
import Derived.Test.YtkonpkejddcegaaDoorSaidStep
namespace Go.Proofs.YtkonpkejddcegaaDoor
set_option linter.unusedVariables false
set_option linter.unusedSimpArgs false
open Go Go.RowKit Go.Proofs Go.Shelf
set_option maxHeartbeats 4000000 in
set_option maxRecDepth 8000 in
theorem said_ok (w : World) (many : Int) (v : Value) (L : List (Int × Int)) (hT : TabOk w) (hg : 0 < w.heap.size) (hL : InPairs w v L) (hB : InB L) (hm1 : -9223372036854775808 ≤ many) (hm2 : many ≤ 9223372036854775807) :
    Calls Tryd.prog 7 #[.int .i64 many, v] w (BoolPost w true) := by
  have hmd := made_any w many v L hT hg hL hB hm1 hm2
  have hmn := fun (W : World) (hC : Chg (fun _ => False) w W) => made_nil W many (hT.chg hC (fun h => h)) (Nat.lt_of_lt_of_le hg hC.size) hm1 hm2
  have hwk := fun (W : World) (hC : Chg (fun _ => False) w W) => works_ok W (hT.chg hC (fun h => h)) (Nat.lt_of_lt_of_le hg hC.size)
  have hTT := fun (W : World) (hC : Chg (fun _ => False) w W) => hT.chg hC (fun h => h)
  obtain ⟨sa, sc, rfl, _⟩ := hL
  have HM := Lib.hid hmd
  have HN := Lib.hid hmn
  have HW := Lib.hid hwk
  have HT := Lib.hid hTT
  have hpo := mkTo_po (nOf many) L 40
  obtain ⟨n1, n2⟩ := nOf_bd many
  have hcl2 := mkTo_len (nOf many) L 40
  have htl := took_list (nOf many) n1 L 40
  generalize hTK : (mkTo (nOf many) L 40).2 = C at *
  generalize hR : (mkTo (nOf many) L 40).1 = R at *
  generalize nOf many = n at *
  have HRR := Lib.hid hR
  have HP := Lib.hid hpo
  have HTL := Lib.hid htl
  clear hpo hmd hmn hwk hTT hT hB hR htl
  go_enter Tryd.func7, Tryd.ntmps7
  go_wp2_with fail
  refine HM.out.mono ?_
  rintro e w2 ⟨b, bu, bd, vt, rfl, hb, hbu, hbd, hO, hrow, hC⟩
  rw [hTK] at hrow
  obtain ⟨s1, cap1, rfl, hpa⟩ := pairs_at hrow
  have HPA0 := Lib.hid hpa
  rw [HRR.out] at hO
  have HO := Lib.hid hO
  have HC2 := Lib.hid hC
  have hlt0 := hO.lt
  clear hO hC HM hrow hpa
  go_wp2_with fail
  refine (HN.out _ HC2.out).mono ?_
  rintro e w3 ⟨p, pu, pd, vt2, rfl, hp, hpu, hpd, hOp, hC⟩
  have hO := HO.out.keep fun j c t f hj e => hC.keep e (fun h => h)
  have HO3 := Lib.hid hO
  have HC3 := Lib.hid (HC2.out.trans hC)
  have HOp := Lib.hid hOp
  have hlt1 := hOp.lt
  have hMa := many_some hO
  unfold optr at hMa
  have HC23 := Lib.hid hC
  clear hO hC hOp HO HC2
  go_wp2_with fail
  refine hMa.mono ?_
  rintro e w' ⟨rfl, rfl⟩
  clear hMa
  go_wp2_with fail
  go_loopw [10] (fun i wr => ∃ (k : Nat) (P : Nat → Nat → Bool), k ≤ C.length ∧ i = .int .i64 ((k : Int) - 1) ∧ IsOrd wr p pu pd n n n P (flp P) ∧ Least n (Tk C k) P ∧ Chg (fun k => k = pu ∨ k = pd) w3 wr) (fun i _ => ((intOf i) + 1).toNat)
  case atStart => exact ⟨C.length, idR, by omega, by go_num, HOp.out, Least.id n _ (fun i j ⟨q, h1, h2, _⟩ => by omega), Chg.refl _ _⟩
  case round =>
    obtain ⟨k, P, hk, rfl, hQ, hI, hC⟩ := hrel
    cases k with
    | succ k =>
      have hlt : k < C.length := by omega
      have ei : ((k + 1 : Nat) : Int) - 1 = (k : Int) := by omega
      rw [ei]
      obtain ⟨g, rfl, hgb, e1, e2⟩ := HPA0.out k hlt
      have hgl := lt_of_cell e1
      simp at hgl
      have hCr := HC23.out.trans' hC (fun i hi h => by omega)
      have c1 := hCr.cell e1 (fun h => h)
      have c2 := hCr.cell e2 (fun h => h)
      obtain ⟨st1, st2, st3⟩ := HTL.out.step hlt hI
      obtain ⟨la, lb, ne⟩ := HTL.out.ok k hlt
      have had := add_any (w := wr.drew) (hQ.keep fun _ _ _ _ _ e => e) ((HT.out _ HC3.out).chg (hC.drew) (fun h => by omega)) ((C.getD k (0, 0)).1 : Nat) ((C.getD k (0, 0)).2 : Nat) (by omega) (by omega) (by omega)
      unfold AddPost at had
      rw [st2] at had
      have hOr := HO3.out.keep fun j c t f hj e => hC.keep e (show ¬ (j = pu ∨ j = pd) by omega)
      have hat := at_to (hOr.keep (w' := wr.drew) fun _ _ _ _ _ e => e) _ _ la lb true st1
      have HST := Lib.hid st3
      have HHC := Lib.hid hC
      clear st1 st2 st3 hI hQ hC ne la lb hCr e1 e2 hOr
      generalize (C.getD k (0, 0)).1 = x at *
      generalize (C.getD k (0, 0)).2 = y at *
      unfold optr at had
      go_wp2_with fail
      have hS : wr.drew.cell? ⟨g, k * 2, none⟩ = some (.int .i64 (x : Int)) ∧ wr.drew.cell? ⟨g, k * 2 + 1, none⟩ = some (.int .i64 (y : Int)) := ⟨c1, c2⟩
      refine region_lone (fun W' => W'.cell? ⟨g, k * 2, none⟩ = some (.int .i64 (x : Int)) ∧ W'.cell? ⟨g, k * 2 + 1, none⟩ = some (.int .i64 (y : Int))) [] (by kernel_rfl) ?_
      refine take_one 0 hS rfl (by kernel_rfl) rfl ?_
      apply Exists.intro
      refine And.intro (fun W' hS' => ?y0) (And.intro (fun _ _ _ h => h) ?_)
      case y0 => obtain ⟨d1, d2⟩ := hS'; go_simp; rfl
      refine take_one 1 hS rfl (by kernel_rfl) rfl ?_
      apply Exists.intro
      refine And.intro (fun W' hS' => ?y1) (And.intro (fun _ _ _ h => h) ?_)
      case y1 => obtain ⟨d1, d2⟩ := hS'; go_simp; rfl
      refine take_one 2 hS rfl (by kernel_rfl) rfl ?_
      apply Exists.intro
      refine And.intro (fun W' hS' => ?y2) (And.intro (fun _ _ _ h => h) ?_)
      case y2 => obtain ⟨d1, d2⟩ := hS'; go_simp; rfl
      refine take_one 3 hS rfl (by kernel_rfl) rfl ?_
      apply Exists.intro
      refine And.intro (fun W' hS' => ?y3) (And.intro (fun _ _ _ h => h) ?_)
      case y3 => obtain ⟨d1, d2⟩ := hS'; go_simp; rfl
      refine take_one 4 hS rfl (by kernel_rfl) rfl ?_
      apply Exists.intro
      refine And.intro (fun W' hS' => ?y4) (And.intro (fun _ _ _ h => h) ?_)
      case y4 => obtain ⟨d1, d2⟩ := hS'; go_simp; rfl
      refine take_one 5 hS rfl (by kernel_rfl) rfl ?_
      apply Exists.intro
      refine And.intro (fun W' hS' => ?y5) (And.intro (fun _ _ _ h => h) ?_)
      case y5 => obtain ⟨d1, d2⟩ := hS'; go_simp; rfl
      refine take_one 6 hS rfl (by kernel_rfl) rfl ?_
      apply Exists.intro
      refine And.intro (fun W' hS' => ?y6) (And.intro (fun _ _ _ h => h) ?_)
      case y6 => obtain ⟨d1, d2⟩ := hS'; go_simp; rfl
      refine take_one 7 hS rfl (by kernel_rfl) rfl ?_
      apply Exists.intro
      refine And.intro (fun W' hS' => ?y7) (And.intro (fun _ _ _ h => h) ?_)
      case y7 => obtain ⟨d1, d2⟩ := hS'; go_simp; rfl
      refine take_one 8 hS rfl (by kernel_rfl) rfl ?_
      apply Exists.intro
      refine And.intro (fun W' hS' => ?y8) (And.intro (fun _ _ _ h => h) ?_)
      case y8 => obtain ⟨d1, d2⟩ := hS'; go_simp; rfl
      refine take_one 9 hS rfl (by kernel_rfl) rfl ?_
      apply Exists.intro
      refine And.intro (fun W' hS' => ?y9) (And.intro (fun _ _ _ h => h) ?_)
      case y9 => obtain ⟨d1, d2⟩ := hS'; go_simp; rfl
      refine take_one 10 hS rfl (by kernel_rfl) rfl ?_
      apply Exists.intro
      refine And.intro (fun W' hS' => ?y10) (And.intro (fun _ _ _ h => h) ?_)
      case y10 => obtain ⟨d1, d2⟩ := hS'; go_simp; rfl
      go_simp
      refine only_one 11 rfl (by kernel_rfl) (by kernel_rfl) ?_
      go_simp
      refine hat.mono ?_
      rintro e w' ⟨rfl, rfl⟩
      refine ⟨hS, ?_⟩
      refine take_one 12 hS rfl (by kernel_rfl) (by kernel_rfl) ?_
      apply Exists.intro
      refine And.intro (fun W' hS' => ?y12) (And.intro (fun _ _ _ h => h) ?_)
      case y12 => obtain ⟨d1, d2⟩ := hS'; go_simp; rfl
      refine take_one 13 hS rfl (by kernel_rfl) (by kernel_rfl) ?_
      apply Exists.intro
      refine And.intro (fun W' hS' => ?y13) (And.intro (fun _ _ _ h => h) ?_)
      case y13 => obtain ⟨d1, d2⟩ := hS'; go_simp; rfl
      go_simp
      refine take_one 14 hS rfl (by kernel_rfl) (by kernel_rfl) ?_
      apply Exists.intro
      refine And.intro (fun W' hS' => ?y14) (And.intro (fun _ _ _ h => h) ?_)
      case y14 => obtain ⟨d1, d2⟩ := hS'; go_simp; rfl
      refine take_one 15 hS rfl (by kernel_rfl) (by kernel_rfl) ?_
      apply Exists.intro
      refine And.intro (fun W' hS' => ?y15) (And.intro (fun _ _ _ h => h) ?_)
      case y15 => obtain ⟨d1, d2⟩ := hS'; go_simp; rfl
      refine take_one 16 hS rfl (by kernel_rfl) (by kernel_rfl) ?_
      apply Exists.intro
      refine And.intro (fun W' hS' => ?y16) (And.intro (fun _ _ _ h => h) ?_)
      case y16 => obtain ⟨d1, d2⟩ := hS'; go_simp; rfl
      refine take_one 17 hS rfl (by kernel_rfl) (by kernel_rfl) ?_
      apply Exists.intro
      refine And.intro (fun W' hS' => ?y17) (And.intro (fun _ _ _ h => h) ?_)
      case y17 => obtain ⟨d1, d2⟩ := hS'; go_simp; rfl
      refine take_one 18 hS rfl (by kernel_rfl) (by kernel_rfl) ?_
      apply Exists.intro
      refine And.intro (fun W' hS' => ?y18) (And.intro (fun _ _ _ h => h) ?_)
      case y18 => obtain ⟨d1, d2⟩ := hS'; go_simp; rfl
      refine take_one 19 hS rfl (by kernel_rfl) (by kernel_rfl) ?_
      apply Exists.intro
      refine And.intro (fun W' hS' => ?y19) (And.intro (fun _ _ _ h => h) ?_)
      case y19 => obtain ⟨d1, d2⟩ := hS'; go_simp; rfl
      refine take_one 20 hS rfl (by kernel_rfl) (by kernel_rfl) ?_
      apply Exists.intro
      refine And.intro (fun W' hS' => ?y20) (And.intro (fun _ _ _ h => h) ?_)
      case y20 => obtain ⟨d1, d2⟩ := hS'; go_simp; rfl
      refine take_one 21 hS rfl (by kernel_rfl) (by kernel_rfl) ?_
      apply Exists.intro
      refine And.intro (fun W' hS' => ?y21) (And.intro (fun _ _ _ h => h) ?_)
      case y21 => obtain ⟨d1, d2⟩ := hS'; go_simp; rfl
      refine take_one 22 hS rfl (by kernel_rfl) (by kernel_rfl) ?_
      apply Exists.intro
      refine And.intro (fun W' hS' => ?y22) (And.intro (fun _ _ _ h => h) ?_)
      case y22 => obtain ⟨d1, d2⟩ := hS'; go_simp; rfl
      refine take_one 23 hS rfl (by kernel_rfl) (by kernel_rfl) ?_
      apply Exists.intro
      refine And.intro (fun W' hS' => ?y23) (And.intro (fun _ _ _ h => h) ?_)
      case y23 => obtain ⟨d1, d2⟩ := hS'; go_simp; rfl
      refine take_one 24 hS rfl (by kernel_rfl) (by kernel_rfl) ?_
      apply Exists.intro
      refine And.intro (fun W' hS' => ?y24) (And.intro (fun _ _ _ h => h) ?_)
      case y24 => obtain ⟨d1, d2⟩ := hS'; go_simp; rfl
      go_simp
      refine only_one 25 rfl (by kernel_rfl) (by kernel_rfl) ?_
      go_simp
      refine had.mono ?_
      rintro e w5 ⟨rfl, hO5, hC5⟩
      have hS5 : w5.cell? ⟨g, k * 2, none⟩ = some (.int .i64 (x : Int)) ∧ w5.cell? ⟨g, k * 2 + 1, none⟩ = some (.int .i64 (y : Int)) := ⟨hC5.cell hS.1 (show ¬ (g = pu ∨ g = pd) by omega), hC5.cell hS.2 (show ¬ (g = pu ∨ g = pd) by omega)⟩
      refine ⟨hS5, ?_⟩
      go_simp
      refine take_one 26 hS5 rfl (by kernel_rfl) (by kernel_rfl) ?_
      apply Exists.intro
      refine And.intro (fun W' hS' => ?y26) (And.intro (fun _ _ _ h => h) ?_)
      case y26 => obtain ⟨d1, d2⟩ := hS'; go_simp; rfl
      refine take_one 27 hS5 rfl (by kernel_rfl) (by kernel_rfl) ?_
      apply Exists.intro
      refine And.intro (fun W' hS' => ?y27) (And.intro (fun _ _ _ h => h) ?_)
      case y27 => obtain ⟨d1, d2⟩ := hS'; go_simp; rfl
      refine all_done (by kernel_rfl) ?_ _
      clear had hat hS hS5 c1 c2
      go_wp2
      go_roundw
      case rel => exact ⟨k, _, by omega, by go_num, hO5, HST.out, HHC.out.drew.trans hC5⟩
      case measure => simp [intOf] <;> omega
    | zero =>
      have ei : ((0 : Nat) : Int) - 1 = -1 := rfl
      rw [ei]
      have heq := HTL.out.least.eq hI
      have hOr := HO3.out.keep fun j c t f hj e => hC.keep e (show ¬ (j = pu ∨ j = pd) by omega)
      have HOr := Lib.hid hOr
      have HQr := Lib.hid hQ
      have HCw := Lib.hid (HC3.out.trans' hC fun i hi h => by omega)
      have HEQ := Lib.hid heq
      clear heq hI hQ hC hOr
      go_wp2_with fail
      go_loopw [11] (fun i wq => ∃ a : Nat, a ≤ n ∧ i = .int .i64 a ∧ Chg (fun _ => False) wr wq) (fun i _ => n - (intOf i).toNat)
      case atStart => exact ⟨0, by omega, rfl, Chg.refl _ _⟩
      case round =>
        obtain ⟨a, ha, rfl, hCa⟩ := hrel
        by_cases hlt2 : a < n
        · have HCa := Lib.hid hCa
          clear hCa
          go_wp2_with fail
          go_loopw [12] (fun i wq => ∃ c : Nat, c ≤ n ∧ i = .int .i64 c ∧ Chg (fun _ => False) wr wq) (fun i _ => n - (intOf i).toNat)
          case atStart => exact ⟨0, by omega, rfl, Chg.refl _ _⟩
          case round =>
            obtain ⟨c, hc, rfl, hCq⟩ := hrel
            by_cases hlt3 : c < n
            · have hcp := copy_some (HOr.out.keep fun j c t f hj e => (HCa.out.trans hCq).keep e (fun h => h))
              unfold optr at hcp
              have HCq1 := Lib.hid hCq
              have HCq := Lib.hid (HCa.out.trans hCq)
              clear hCq
              go_wp2_with fail
              refine hcp.mono ?_
              rintro e w6 ⟨q, qu, qd, cu', cd', rfl, hq, hqu, hqd, hOq, hC6⟩
              have ho6 := HOr.out.keep fun j c t f hj e => (HCq.out.trans hC6).keep e (fun h => h)
              have hp6 := HQr.out.keep fun j c t f hj e => (HCq.out.trans hC6).keep e (fun h => h)
              have j1 := at_nat ho6 a c hlt2 hlt3
              have j2 := at_nat hp6 a c hlt2 hlt3
              rw [HEQ.out a c hlt2 hlt3] at j2
              have hs1 := HCw.out.size
              have hs2 := HCq.out.size
              have hs3 := HCq1.out.size
              have had := add_any (w := w6) hOq (HT.out _ (HCw.out.trans (HCq.out.trans hC6))) (a : Nat) (c : Nat) (by omega) (by omega) (by omega)
              have hE : addE n R (a : Nat) (c : Nat) = if R c a = true then 20 else 0 := by
                unfold addE inB
                rw [if_pos (by omega)]
                simp
              unfold AddPost at had
              unfold optr at had
              rw [hE] at had
              have had2 : Calls Tryd.prog 13 #[.pointer (some ⟨q, 0, none⟩), .int .i64 (a : Int), .int .i64 (c : Int)] w6 fun e w' => e = .returned (.int .i64 (if R c a = true then 20 else 0)) ∧ Chg (fun k => k = qu ∨ k = qd) w6 w' := had.mono fun e w' ⟨h1, _, h3⟩ => ⟨h1, h3⟩
              have HC6 := Lib.hid hC6
              clear hcp had hE ho6 hp6 hOq hC6
              have j3 := fun w7 (hC7 : Chg (fun k => k = qu ∨ k = qd) w6 w7) => at_nat (HOr.out.keep (w' := w7) fun j c t f hj e => ((HCq.out.trans HC6.out).trans' hC7 (fun i hi h => by omega)).keep e (fun h => h)) c a hlt3 hlt2
              have hfin := fun w7 (hC7 : Chg (fun k => k = qu ∨ k = qd) w6 w7) => (HCq1.out.trans HC6.out).trans' hC7 (fun i hi h => by omega)
              have J3 := Lib.hid j3
              have HF := Lib.hid hfin
              clear j3 hfin
              generalize R a c = z at *
              have hzz : (z != z) = false := by cases z <;> rfl
              cases hy : R c a
              all_goals
                rw [hy] at had2
                rw [hy] at J3
                go_wp2_with fail
                refine j1.mono ?_
                rintro e w' ⟨rfl, rfl⟩
                go_wp2_with fail
                refine j2.mono ?_
                rintro e w' ⟨rfl, rfl⟩
                clear j1 j2
                go_wp2_with fail
                refine had2.mono ?_
                rintro e w7 ⟨rfl, hC7⟩
                have j3 := J3.out w7 hC7
                have HF7 := Lib.hid (HF.out w7 hC7)
                clear had2 hC7
                go_wp2_with fail
                refine j3.mono ?_
                rintro e w' ⟨rfl, rfl⟩
                clear j3
                go_wp2
                go_roundw
                case rel => exact ⟨c + 1, by omega, by go_num, HF7.out⟩
                case measure => simp [intOf] <;> omega
            · have HCb := Lib.hid (HCa.out.trans hCq)
              clear hCq
              go_wp2
              go_roundw
              case rel => exact ⟨a + 1, by omega, by go_num, HCb.out⟩
              case measure => simp [intOf] <;> omega
        · have hk := HW.out _ (HCw.out.trans hCa)
          have HCz := Lib.hid (HCw.out.trans hCa)
          clear hCa
          go_wp2_with fail
          refine hk.mono ?_
          rintro e w9 ⟨rfl, hC⟩
          have HC9 := Lib.hid hC
          clear hC hk
          go_wp2
          go_ret
          exact ⟨rfl, HCz.out.trans HC9.out⟩
end Go.Proofs.YtkonpkejddcegaaDoor
