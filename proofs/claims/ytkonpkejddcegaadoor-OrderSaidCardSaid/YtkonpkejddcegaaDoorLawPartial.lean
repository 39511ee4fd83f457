/- OrderPartial: the walk. -/
import Derived.Test.YtkonpkejddcegaaDoorOrdMade
namespace Go.Proofs.YtkonpkejddcegaaDoor
set_option linter.unusedVariables false
set_option linter.unusedSimpArgs false
open Go Go.RowKit Go.Proofs Go.Shelf
theorem at_nat {w : World} {b bu bd cu cd n : Nat} {R D : Nat → Nat → Bool} (h : IsOrd w b bu bd cu cd n R D) (x y : Nat) (hx : x < n) (hy : y < n) :
    Calls Tryd.prog 11 #[.pointer (some ⟨b, 0, none⟩), .int .i64 (x : Int), .int .i64 (y : Int)] w fun e w' => e = .returned (.bool (R x y)) ∧ w = w' := by
  have h1 := atMost_some h x y
  have e : atM n R x y = R x y := by
    unfold atM
    rw [decide_eq_true (by omega : (0 : Int) ≤ x ∧ (x : Int) < n), decide_eq_true (by omega : (0 : Int) ≤ y ∧ (y : Int) < n)]
    simp
  rw [e] at h1
  exact h1
theorem at_to {w : World} {b bu bd cu cd n : Nat} {R D : Nat → Nat → Bool} (h : IsOrd w b bu bd cu cd n R D) (x y : Nat) (hx : x < n) (hy : y < n) (r : Bool) (hr : R x y = r) :
    Calls Tryd.prog 11 #[.pointer (some ⟨b, 0, none⟩), .int .i64 (x : Int), .int .i64 (y : Int)] w fun e w' => e = .returned (.bool r) ∧ w = w' := by
  rw [← hr]; exact at_nat h x y hx hy
set_option maxHeartbeats 4000000 in
theorem partial_ok (w : World) (many : Int) (v : Value) (L : List (Int × Int)) (hT : TabOk w) (hg : 0 < w.heap.size) (hL : InPairs w v L) (hB : InB L) (hm1 : -9223372036854775808 ≤ many) (hm2 : many ≤ 9223372036854775807) :
    Calls Tryd.prog 3 #[.int .i64 many, v] w (BoolPost w true) := by
  have hw := works_ok w hT hg
  have hmd := fun (W : World) (hC : Chg (fun _ => False) w W) => made_any W many v L (hT.chg hC (fun h => h)) (Nat.lt_of_lt_of_le hg hC.size) (by
    obtain ⟨a, cap, e, hc⟩ := hL
    refine ⟨a, cap, e, fun i hi => ?_⟩
    obtain ⟨g, o, ea, c1, c2⟩ := hc i hi
    exact ⟨g, o, ea, hC.cell c1 (fun h => h), hC.cell c2 (fun h => h)⟩) hB hm1 hm2
  obtain ⟨sa, sc, rfl, _⟩ := hL
  have HW := Lib.hid hw
  have HM := Lib.hid hmd
  have hpo := mkTo_po (nOf many) L 40
  obtain ⟨n1, n2⟩ := nOf_bd many
  generalize hR : (mkTo (nOf many) L 40).1 = R at *
  generalize nOf many = n at *
  have HP := Lib.hid hpo
  have HRR := Lib.hid hR
  clear hw hmd hT hB hpo hR
  go_enter Tryd.func3, Tryd.ntmps3
  go_wp2_with fail
  refine HW.out.mono ?_
  rintro e w1 ⟨rfl, hC⟩
  have HC1 := Lib.hid hC
  clear hC
  go_wp2_with fail
  refine (HM.out _ HC1.out).mono ?_
  rintro e w2 ⟨b, bu, bd, vt, rfl, hb, hbu, hbd, hO, _, hC⟩
  rw [HRR.out] at hO
  have HO := Lib.hid hO
  have HC2 := Lib.hid (HC1.out.trans hC)
  clear hO hC
  have hMa := many_some HO.out
  unfold optr at hMa
  go_wp2_with fail
  refine hMa.mono ?_
  rintro e w' ⟨rfl, rfl⟩
  clear hMa
  go_wp2_with fail
  go_loop [8] (fun i => ∃ k : Nat, k ≤ n ∧ i = .int .i64 k) (fun i => n - (intOf i).toNat)
  case atStart => exact ⟨0, by omega, rfl⟩
  case round =>
    obtain ⟨a, ha, rfl⟩ := hrel
    by_cases hlt : a < n
    · have h1 := at_to HO.out a a hlt hlt true (HP.out.rfl' a hlt)
      go_wp2_with fail
      refine h1.mono ?_
      clear h1
      rintro e w' ⟨rfl, rfl⟩
      go_wp2_with fail
      go_loop [9] (fun i => ∃ k : Nat, k ≤ n ∧ i = .int .i64 k) (fun i => n - (intOf i).toNat)
      case atStart => exact ⟨0, by omega, rfl⟩
      case round =>
        obtain ⟨c, hc, rfl⟩ := hrel
        by_cases hlt2 : c < n
        · by_cases hne : a = c
          · have hb0 : ((a : Int) != (c : Int)) = false := by rw [hne]; simp
            have Hac : Hid (R a c = true) := Lib.hid (by rw [← hne]; exact HP.out.rfl' a hlt)
            clear hne
            go_wp2_with fail
            go_loop [10] (fun i => ∃ k : Nat, k ≤ n ∧ i = .int .i64 k) (fun i => n - (intOf i).toNat)
            case atStart => exact ⟨0, by omega, rfl⟩
            case round =>
              obtain ⟨d, hd, rfl⟩ := hrel
              by_cases hlt3 : d < n
              · have j1 := at_to HO.out a c hlt hlt2 true Hac.out
                cases hcd : R c d with
                | false =>
                  have j2 := at_to HO.out c d hlt2 hlt3 false hcd
                  clear hcd
                  go_wp2_with fail
                  refine j1.mono ?_
                  rintro e w' ⟨rfl, rfl⟩
                  go_wp2_with fail
                  refine j2.mono ?_
                  rintro e w' ⟨rfl, rfl⟩
                  clear j1 j2
                  go_wp2
                  go_round
                  case rel => exact ⟨d + 1, by omega, by go_num⟩
                  case measure => simp [intOf]; omega
                | true =>
                  have j2 := at_to HO.out c d hlt2 hlt3 true hcd
                  have j3 := at_to HO.out a d hlt hlt3 true (HP.out.trans' a c d hlt hlt2 hlt3 Hac.out hcd)
                  clear hcd
                  go_wp2_with fail
                  refine j1.mono ?_
                  rintro e w' ⟨rfl, rfl⟩
                  go_wp2_with fail
                  refine j2.mono ?_
                  rintro e w' ⟨rfl, rfl⟩
                  go_wp2_with fail
                  refine j3.mono ?_
                  rintro e w' ⟨rfl, rfl⟩
                  clear j1 j2 j3
                  go_wp2
                  go_round
                  case rel => exact ⟨d + 1, by omega, by go_num⟩
                  case measure => simp [intOf]; omega
              · go_wp2
                go_round
                case rel => exact ⟨c + 1, by omega, by go_num⟩
                case measure => simp [intOf]; omega
          · have hb0 : ((a : Int) != (c : Int)) = true := by rw [bne_iff_ne]; omega
            cases hac : R a c with
            | false =>
              have Hac := Lib.hid hac
              have g1 := at_to HO.out a c hlt hlt2 false hac
              clear hac hne
              go_wp2_with fail
              refine g1.mono ?_
              rintro e w' ⟨rfl, rfl⟩
              clear g1
              go_wp2_with fail
              go_loop [10] (fun i => ∃ k : Nat, k ≤ n ∧ i = .int .i64 k) (fun i => n - (intOf i).toNat)
              case atStart => exact ⟨0, by omega, rfl⟩
              case round =>
                obtain ⟨d, hd, rfl⟩ := hrel
                by_cases hlt3 : d < n
                · have j1 := at_to HO.out a c hlt hlt2 false Hac.out
                  go_wp2_with fail
                  refine j1.mono ?_
                  rintro e w' ⟨rfl, rfl⟩
                  clear j1
                  go_wp2
                  go_round
                  case rel => exact ⟨d + 1, by omega, by go_num⟩
                  case measure => simp [intOf]; omega
                · go_wp2
                  go_round
                  case rel => exact ⟨c + 1, by omega, by go_num⟩
                  case measure => simp [intOf]; omega
            | true =>
              have Hac := Lib.hid hac
              have hca : R c a = false := by
                cases h : R c a with
                | false => rfl
                | true => exact absurd (HP.out.anti a c hlt hlt2 hac h) hne
              have g1 := at_to HO.out a c hlt hlt2 true hac
              have g2 := at_to HO.out c a hlt2 hlt false hca
              clear hac hca hne
              go_wp2_with fail
              refine g1.mono ?_
              rintro e w' ⟨rfl, rfl⟩
              go_wp2_with fail
              refine g2.mono ?_
              rintro e w' ⟨rfl, rfl⟩
              clear g1 g2
              go_wp2_with fail
              go_loop [10] (fun i => ∃ k : Nat, k ≤ n ∧ i = .int .i64 k) (fun i => n - (intOf i).toNat)
              case atStart => exact ⟨0, by omega, rfl⟩
              case round =>
                obtain ⟨d, hd, rfl⟩ := hrel
                by_cases hlt3 : d < n
                · have j1 := at_to HO.out a c hlt hlt2 true Hac.out
                  cases hcd : R c d with
                  | false =>
                    have j2 := at_to HO.out c d hlt2 hlt3 false hcd
                    clear hcd
                    go_wp2_with fail
                    refine j1.mono ?_
                    rintro e w' ⟨rfl, rfl⟩
                    go_wp2_with fail
                    refine j2.mono ?_
                    rintro e w' ⟨rfl, rfl⟩
                    clear j1 j2
                    go_wp2
                    go_round
                    case rel => exact ⟨d + 1, by omega, by go_num⟩
                    case measure => simp [intOf]; omega
                  | true =>
                    have j2 := at_to HO.out c d hlt2 hlt3 true hcd
                    have j3 := at_to HO.out a d hlt hlt3 true (HP.out.trans' a c d hlt hlt2 hlt3 Hac.out hcd)
                    clear hcd
                    go_wp2_with fail
                    refine j1.mono ?_
                    rintro e w' ⟨rfl, rfl⟩
                    go_wp2_with fail
                    refine j2.mono ?_
                    rintro e w' ⟨rfl, rfl⟩
                    go_wp2_with fail
                    refine j3.mono ?_
                    rintro e w' ⟨rfl, rfl⟩
                    clear j1 j2 j3
                    go_wp2
                    go_round
                    case rel => exact ⟨d + 1, by omega, by go_num⟩
                    case measure => simp [intOf]; omega
                · go_wp2
                  go_round
                  case rel => exact ⟨c + 1, by omega, by go_num⟩
                  case measure => simp [intOf]; omega
        · go_wp2
          go_round
          case rel => exact ⟨a + 1, by omega, by go_num⟩
          case measure => simp [intOf]; omega
    · go_wp2
      go_ret
      exact ⟨rfl, HC2.out⟩
end Go.Proofs.YtkonpkejddcegaaDoor
