/- OrderWays: the walk. -/
import Derived.Test.YtkonpkejddcegaaDoorLawPartial
namespace Go.Proofs.YtkonpkejddcegaaDoor
set_option linter.unusedVariables false
set_option linter.unusedSimpArgs false
open Go Go.RowKit Go.Proofs Go.Shelf
theorem ints_at {w : World} {v : Value} {l : List Nat} (h : HasInts w v l) : ∃ a cap, v = .slice a l.length cap ∧ ∀ i, i < l.length → ∃ g, a = some ⟨g, 0, none⟩ ∧ w.cell? ⟨g, i, none⟩ = some (.int .i64 (l.getD i 0 : Nat)) := by
  rcases h with ⟨rfl, rfl⟩ | ⟨g, cap, rfl, hc⟩
  · exact ⟨none, 0, rfl, fun i hi => by cases hi⟩
  · exact ⟨_, cap, rfl, fun i hi => ⟨g, rfl, hc i hi⟩⟩
theorem els_step (p : Nat → Bool) (q : Nat) : (els (q + 1) p).length = (els q p).length + (if p q = true then 1 else 0) := by
  unfold els
  rw [List.range_succ, List.filter_append, List.length_append]
  by_cases h : p q = true <;> simp [h]
theorem els_at (n q : Nat) (p : Nat → Bool) (hq : q < n) :
    (p q = true ∧ (els q p).length < (els n p).length ∧ (els n p).getD (els q p).length 0 = q ∧ (els (q + 1) p).length = (els q p).length + 1) ∨
    (p q = false ∧ (els (q + 1) p).length = (els q p).length ∧ ((els q p).length < (els n p).length → (els n p).getD (els q p).length 0 ≠ q)) := by
  have hs := els_step p q
  cases hp : p q with
  | true =>
    left
    obtain ⟨r, hr⟩ := els_split n p q hq hp
    rw [hr]
    refine ⟨rfl, by simp, by simp [List.getD], by simpa [hp] using hs⟩
  | false =>
    right
    refine ⟨rfl, by simpa [hp] using hs, fun hk e => ?_⟩
    have hm : (els n p).getD (els q p).length 0 ∈ els n p := by
      simp only [List.getD, List.getElem?_eq_getElem hk, Option.getD_some]
      exact List.getElem_mem hk
    rw [e] at hm
    have := (mem_els.1 hm).2
    rw [hp] at this
    cases this
theorem rowOf_nat (n : Nat) (U : Nat → Nat → Bool) (a : Nat) (h : a < n) : rowOf n U (a : Int) = els n (U a) := by
  unfold rowOf
  rw [if_pos ⟨by omega, by omega⟩]
  rfl
set_option maxHeartbeats 4000000 in
set_option maxRecDepth 8000 in
theorem ways_ok (w : World) (many : Int) (v : Value) (L : List (Int × Int)) (hT : TabOk w) (hg : 0 < w.heap.size) (hL : InPairs w v L) (hB : InB L) (hm1 : -9223372036854775808 ≤ many) (hm2 : many ≤ 9223372036854775807) :
    Calls Tryd.prog 6 #[.int .i64 many, v] w (BoolPost w true) := by
  have hmd := made_any w many v L hT hg hL hB hm1 hm2
  have hwk := fun (W : World) (hC : Chg (fun _ => False) w W) => works_ok W (hT.chg hC (fun h => h)) (Nat.lt_of_lt_of_le hg hC.size)
  have hTT := fun (W : World) (hC : Chg (fun _ => False) w W) => hT.chg hC (fun h => h)
  obtain ⟨sa, sc, rfl, _⟩ := hL
  have HM := Lib.hid hmd
  have HW := Lib.hid hwk
  have HT := Lib.hid hTT
  obtain ⟨n1, n2⟩ := nOf_bd many
  generalize hR : (mkTo (nOf many) L 40).1 = R at *
  generalize nOf many = n at *
  have HRR := Lib.hid hR
  clear hmd hwk hTT hT hB hR
  go_enter Tryd.func6, Tryd.ntmps6
  go_wp2_with fail
  refine HM.out.mono ?_
  rintro e w2 ⟨b, bu, bd, vt, rfl, hb, hbu, hbd, hO, _, hC⟩
  rw [HRR.out] at hO
  have HO := Lib.hid hO
  have HC2 := Lib.hid hC
  clear hO hC HM
  have hMa := many_some HO.out
  unfold optr at hMa
  go_wp2_with fail
  refine hMa.mono ?_
  rintro e w' ⟨rfl, rfl⟩
  clear hMa
  go_wp2_with fail
  have hlt0 := HO.out.lt
  go_loopw [8] (fun i wr => ∃ k : Nat, k ≤ n ∧ i = .int .i64 k ∧ IsOrd wr b bu bd n n n R (flp R) ∧ Chg (fun _ => False) w wr) (fun i _ => n - (intOf i).toNat)
  case atStart => exact ⟨0, by omega, rfl, HO.out, HC2.out⟩
  case round =>
    obtain ⟨a, ha, rfl, hO3, hC3⟩ := hrel
    clear HO HC2
    by_cases hlt : a < n
    · have hu := up_some hO3 (HT.out _ hC3) (a : Int)
      rw [rowOf_nat n R a hlt] at hu
      have HO3 := Lib.hid hO3
      have HC3 := Lib.hid hC3
      clear hO3 hC3
      unfold optr at hu
      go_wp2_with fail
      refine hu.mono ?_
      rintro e w3 ⟨v1, rfl, hv1, hC4⟩
      have hO4 := HO3.out.keep fun j c t f hj e => hC4.keep e (fun h => h)
      have hC5 := HC3.out.trans hC4
      have hd := down_some hO4 (HT.out _ hC5) (a : Int)
      rw [rowOf_nat n (flp R) a hlt] at hd
      unfold optr at hd
      have H1 := own_ints hv1
      have HO4 := Lib.hid hO4
      have HC5 := Lib.hid hC5
      clear hu hO4 hC4 hC5 hv1 HO3 HC3
      obtain ⟨s1, cap1, rfl, hc1⟩ := ints_at H1
      have Hc1 := Lib.hid hc1
      clear H1 hc1
      go_wp2_with fail
      refine hd.mono ?_
      rintro e w4 ⟨v2, rfl, hv2, hC6⟩
      have hO5 := HO4.out.keep fun j c t f hj e => hC6.keep e (fun h => h)
      have hC7 := HC5.out.trans hC6
      have hc1 : ∀ i, i < (els n (R a)).length → ∃ g, s1 = some ⟨g, 0, none⟩ ∧ w4.cell? ⟨g, i, none⟩ = some (.int .i64 ((els n (R a)).getD i 0 : Nat)) := fun i hi => by
        obtain ⟨g, e, c⟩ := Hc1.out i hi
        exact ⟨g, e, hC6.cell c (fun h => h)⟩
      have H2 := own_ints hv2
      obtain ⟨s2, cap2, rfl, hc2⟩ := ints_at H2
      have Hc2 := Lib.hid hc2
      have Hc3 := Lib.hid hc1
      have HO5 := Lib.hid hO5
      have HC7 := Lib.hid hC7
      clear hd hO5 hC6 hC7 hv2 HO4 HC5 hc1 hc2 H2 Hc1
      have hl1 := els_length n (R a)
      have hl2 := els_length n (flp R a)
      go_wp2_with fail
      go_loop [11, 12, 13] (fun k j i => ∃ q : Nat, q ≤ n ∧ i = .int .i64 q ∧ k = .int .i64 ((els q (R a)).length : Nat) ∧ j = .int .i64 ((els q (flp R a)).length : Nat)) (fun _ _ i => n - (intOf i).toNat)
      case atStart => exact ⟨0, by omega, rfl, rfl, rfl⟩
      case round =>
        obtain ⟨q, hq, rfl, rfl, rfl⟩ := hrel
        by_cases hlt2 : q < n
        · have t1 := els_at n q (R a) hlt2
          have t2 := els_at n q (flp R a) hlt2
          have x1 := Hc3.out (els q (R a)).length
          have x2 := Hc2.out (els q (flp R a)).length
          have g1 := at_nat HO5.out a q hlt hlt2
          have g2 := at_nat HO5.out q a hlt2 hlt
          have e2 : flp R a q = R q a := rfl
          rw [e2] at t2
          have l1 := els_length q (R a)
          have l2 := els_length q (flp R a)
          generalize hz1 : (els q (R a)).length = k1 at *
          generalize hz2 : (els q (flp R a)).length = k2 at *
          generalize hz3 : (els n (R a)).length = m1 at *
          generalize hz4 : (els n (flp R a)).length = m2 at *
          generalize hz5 : (els n (R a)).getD k1 0 = d1 at *
          generalize hz6 : (els n (flp R a)).getD k2 0 = d2 at *
          have Hz : Hid ((els (q + 1) (R a)).length = k1 + (if R a q = true then 1 else 0) ∧ (els (q + 1) (flp R a)).length = k2 + (if R q a = true then 1 else 0)) := Lib.hid ⟨by rw [← hz1]; exact els_step _ _, by rw [← hz2]; exact els_step _ _⟩
          clear hz1 hz2 hz3 hz4 hz5 hz6 e2
          rcases t1 with ⟨y1, z1, u1, _⟩ | ⟨y1, _, u1⟩
          · obtain ⟨p1, rfl, c1⟩ := x1 z1
            rw [u1] at c1
            clear x1 u1
            rw [y1] at g1 Hz
            rcases t2 with ⟨y2, z2, u2, _⟩ | ⟨y2, _, u2⟩
            · obtain ⟨p2, rfl, c2⟩ := x2 z2
              rw [u2] at c2
              clear x2 u2
              rw [y2] at g2 Hz
              go_wp2_with fail
              refine g1.mono ?_
              rintro e w' ⟨rfl, rfl⟩
              go_wp2_with fail
              refine g2.mono ?_
              rintro e w' ⟨rfl, rfl⟩
              clear g1 g2
              go_wp2
              go_round
              case rel => exact ⟨q + 1, by omega, by go_num, by rw [Hz.out.1]; go_num, by rw [Hz.out.2]; go_num⟩
              case measure => simp [intOf]; omega
            · rw [y2] at g2 Hz
              by_cases z2 : k2 < m2
              · obtain ⟨p2, rfl, c2⟩ := x2 z2
                have b2 : ((d2 : Int) == (q : Int)) = false := by rw [beq_eq_false_iff_ne]; have := u2 z2; omega
                clear x2 u2
                go_wp2_with fail
                refine g1.mono ?_
                rintro e w' ⟨rfl, rfl⟩
                go_wp2_with fail
                refine g2.mono ?_
                rintro e w' ⟨rfl, rfl⟩
                clear g1 g2
                go_wp2
                go_round
                case rel => exact ⟨q + 1, by omega, by go_num, by rw [Hz.out.1]; go_num, by rw [Hz.out.2]; go_num⟩
                case measure => simp [intOf]; omega
              · clear x2 u2
                go_wp2_with fail
                refine g1.mono ?_
                rintro e w' ⟨rfl, rfl⟩
                go_wp2_with fail
                refine g2.mono ?_
                rintro e w' ⟨rfl, rfl⟩
                clear g1 g2
                go_wp2
                go_round
                case rel => exact ⟨q + 1, by omega, by go_num, by rw [Hz.out.1]; go_num, by rw [Hz.out.2]; go_num⟩
                case measure => simp [intOf]; omega
          · rw [y1] at g1 Hz
            by_cases z1 : k1 < m1
            · obtain ⟨p1, rfl, c1⟩ := x1 z1
              have b1 : ((d1 : Int) == (q : Int)) = false := by rw [beq_eq_false_iff_ne]; have := u1 z1; omega
              clear x1 u1
              rcases t2 with ⟨y2, z2, u2, _⟩ | ⟨y2, _, u2⟩
              · obtain ⟨p2, rfl, c2⟩ := x2 z2
                rw [u2] at c2
                clear x2 u2
                rw [y2] at g2 Hz
                go_wp2_with fail
                refine g1.mono ?_
                rintro e w' ⟨rfl, rfl⟩
                go_wp2_with fail
                refine g2.mono ?_
                rintro e w' ⟨rfl, rfl⟩
                clear g1 g2
                go_wp2
                go_round
                case rel => exact ⟨q + 1, by omega, by go_num, by rw [Hz.out.1]; go_num, by rw [Hz.out.2]; go_num⟩
                case measure => simp [intOf]; omega
              · rw [y2] at g2 Hz
                by_cases z2 : k2 < m2
                · obtain ⟨p2, rfl, c2⟩ := x2 z2
                  have b2 : ((d2 : Int) == (q : Int)) = false := by rw [beq_eq_false_iff_ne]; have := u2 z2; omega
                  clear x2 u2
                  go_wp2_with fail
                  refine g1.mono ?_
                  rintro e w' ⟨rfl, rfl⟩
                  go_wp2_with fail
                  refine g2.mono ?_
                  rintro e w' ⟨rfl, rfl⟩
                  clear g1 g2
                  go_wp2
                  go_round
                  case rel => exact ⟨q + 1, by omega, by go_num, by rw [Hz.out.1]; go_num, by rw [Hz.out.2]; go_num⟩
                  case measure => simp [intOf]; omega
                · clear x2 u2
                  go_wp2_with fail
                  refine g1.mono ?_
                  rintro e w' ⟨rfl, rfl⟩
                  go_wp2_with fail
                  refine g2.mono ?_
                  rintro e w' ⟨rfl, rfl⟩
                  clear g1 g2
                  go_wp2
                  go_round
                  case rel => exact ⟨q + 1, by omega, by go_num, by rw [Hz.out.1]; go_num, by rw [Hz.out.2]; go_num⟩
                  case measure => simp [intOf]; omega
            · clear x1 u1
              rcases t2 with ⟨y2, z2, u2, _⟩ | ⟨y2, _, u2⟩
              · obtain ⟨p2, rfl, c2⟩ := x2 z2
                rw [u2] at c2
                clear x2 u2
                rw [y2] at g2 Hz
                go_wp2_with fail
                refine g1.mono ?_
                rintro e w' ⟨rfl, rfl⟩
                go_wp2_with fail
                refine g2.mono ?_
                rintro e w' ⟨rfl, rfl⟩
                clear g1 g2
                go_wp2
                go_round
                case rel => exact ⟨q + 1, by omega, by go_num, by rw [Hz.out.1]; go_num, by rw [Hz.out.2]; go_num⟩
                case measure => simp [intOf]; omega
              · rw [y2] at g2 Hz
                by_cases z2 : k2 < m2
                · obtain ⟨p2, rfl, c2⟩ := x2 z2
                  have b2 : ((d2 : Int) == (q : Int)) = false := by rw [beq_eq_false_iff_ne]; have := u2 z2; omega
                  clear x2 u2
                  go_wp2_with fail
                  refine g1.mono ?_
                  rintro e w' ⟨rfl, rfl⟩
                  go_wp2_with fail
                  refine g2.mono ?_
                  rintro e w' ⟨rfl, rfl⟩
                  clear g1 g2
                  go_wp2
                  go_round
                  case rel => exact ⟨q + 1, by omega, by go_num, by rw [Hz.out.1]; go_num, by rw [Hz.out.2]; go_num⟩
                  case measure => simp [intOf]; omega
                · clear x2 u2
                  go_wp2_with fail
                  refine g1.mono ?_
                  rintro e w' ⟨rfl, rfl⟩
                  go_wp2_with fail
                  refine g2.mono ?_
                  rintro e w' ⟨rfl, rfl⟩
                  clear g1 g2
                  go_wp2
                  go_round
                  case rel => exact ⟨q + 1, by omega, by go_num, by rw [Hz.out.1]; go_num, by rw [Hz.out.2]; go_num⟩
                  case measure => simp [intOf]; omega
        · have e1 : (els q (R a)).length = (els n (R a)).length := by rw [show q = n by omega]
          have e2 : (els q (flp R a)).length = (els n (flp R a)).length := by rw [show q = n by omega]
          clear Hc2 Hc3
          rw [e1, e2]
          clear e1 e2
          generalize (els n (R a)).length = m1 at *
          generalize (els n (flp R a)).length = m2 at *
          go_wp2
          go_roundw
          case rel => exact ⟨a + 1, by omega, by go_num, HO5.out, HC7.out⟩
          case measure => simp [intOf]; omega
    · have hk := HW.out _ hC3
      have HC3 := Lib.hid hC3
      clear hO3 hC3
      go_wp2_with fail
      refine hk.mono ?_
      rintro e w9 ⟨rfl, hC⟩
      have HC9 := Lib.hid hC
      clear hC hk
      go_wp2
      go_ret
      exact ⟨rfl, HC3.out.trans HC9.out⟩
end Go.Proofs.YtkonpkejddcegaaDoor
