/- fuse: the law FuseRests, walked: it returns true at every input. -/
import Derived.Test.YtbihefbjojlncaaFsOne
namespace Go.Proofs.Ytbihefbjojlncaa
set_option linter.unusedVariables false
set_option linter.unusedSimpArgs false
open Go Go.RowKit
set_option maxRecDepth 100000 in
set_option maxHeartbeats 8000000 in
theorem rests_any (w : World) (x0 x1 a0 m0 : Int) (hx0 : I64 x0) (hx1 : I64 x1) (ha : I64 a0) (hm : I64 m0) :
    Calls Try.prog 5 #[.agg #[.int .i64 x0, .int .i64 x1], .int .i64 a0, .int .i64 m0] w fun e w' => e = .returned (.bool true) ∧ Chg (fun _ => False) w w' := by
  have hal := (Chg.refl (fun _ => False) w).alloc (.cells #[.int .i64 x0, .int .i64 x1] 44)
  have hc0 : (w.alloc (.cells #[.int .i64 x0, .int .i64 x1] 44)).cell? ⟨w.heap.size, 0, none⟩ = some (.int .i64 x0) := cell_of_heap (heap_new w _) 0
  have hc1 : (w.alloc (.cells #[.int .i64 x0, .int .i64 x1] 44)).cell? ⟨w.heap.size, 1, none⟩ = some (.int .i64 x1) := cell_of_heap (heap_new w _) 1
  have u0 := Int.emod_nonneg x0 (show (5 : Int) ≠ 0 by omega)
  have u1 := Int.emod_lt_of_pos x0 (show (0 : Int) < 5 by omega)
  have v0 := Int.emod_nonneg x1 (show (12 : Int) ≠ 0 by omega)
  have v1 := Int.emod_lt_of_pos x1 (show (0 : Int) < 12 by omega)
  have w1 : IntKind.i64.wrap (1 + x0 % 5) = 1 + x0 % 5 := IntWalk.i64_in _ ⟨by omega, by omega⟩
  have w2 : IntKind.i64.wrap (1 + x1 % 12) = 1 + x1 % 12 := IntWalk.i64_in _ ⟨by omega, by omega⟩
  have HX0 := Lib.hid hx0
  have HX1 := Lib.hid hx1
  have HA := Lib.hid ha
  have HM := Lib.hid hm
  clear hx0 hx1 ha hm
  go_enter Try.func5, Try.ntmps5
  go_upto_region 1 with fail
  generalize w.alloc (.cells #[.int .i64 x0, .int .i64 x1] 44) = wa at *
  go_quiet ((go_at_call 11; exact Calls.quiet_of_same (bring_some _ _ _ (by omega) (by omega) (by first | exact HX0.out.1 | exact HX1.out.1) (by first | exact HX0.out.2 | exact HX1.out.2))))
  have hal2 := hal.drewN nq
  generalize wa.drewN nq = wb at *
  clear hal hc0 hc1 w1 w2
  obtain ⟨most, hmo⟩ : ∃ m, 1 + x0 % 5 = m := ⟨_, rfl⟩
  obtain ⟨rest, hre⟩ : ∃ m, 1 + x1 % 12 = m := ⟨_, rfl⟩
  simp only [hmo, hre]
  have mo0 : 1 ≤ most ∧ most ≤ 5 := by omega
  have re0 : 1 ≤ rest ∧ rest ≤ 12 := by omega
  clear hmo hre u0 v0 u1 v1 HX0 HX1
  have hs9 := sp_bounds a0
  have tk0 := Int.emod_nonneg a0 (show (1000 : Int) ≠ 0 by omega)
  have tk1 := Int.emod_lt_of_pos a0 (show (0 : Int) < 1000 by omega)
  have tm0 := Int.emod_nonneg m0 (show (21 : Int) ≠ 0 by omega)
  have tm1 := Int.emod_lt_of_pos m0 (show (0 : Int) < 21 by omega)
  have hsp := fun W => spot_agg W a0 _ _ HA.out rfl rfl
  have hbt := fun W => bringE W a0 1000 _ HA.out (by omega) (by omega) rfl
  have hbm := fun W => bringE W m0 21 _ HM.out (by omega) (by omega) rfl
  generalize spD a0 = d at *
  generalize spL a0 = l at *
  generalize a0 % 1000 = tk at *
  generalize m0 % 21 = tm at *
  clear HA HM
  have hd : I64 d := i64_small (by omega) (by omega)
  have hl : I64 l := i64_small (by omega) (by omega)
  go_wp2_with (first
    | (go_at_call 9; refine (new_some _ most rest (by omega) (by omega)).mono ?_; rintro e w0 ⟨X0, rfl, hB0, hC0, hU0⟩)
    | (go_at_call 18; refine (hsp _).mono ?_; rintro e w1 ⟨rfl, hC1⟩)
    | (go_at_call 11; refine (hbt _).mono ?_; rintro e w2 ⟨rfl, rfl⟩))
  have hs0 := WS.make d l (hB0.chg hC1 (fun _ _ x => x)) ((hal2.trans hC0).trans hC1) (fun i hi => Nat.le_trans hal2.size (hU0 i hi))
  rw [One_new most rest d l] at hs0
  have hlt : w0.heap.size ≤ w2.heap.size := hC1.size
  generalize X0.b = p at *
  generalize hB : w2.heap.size = B at *
  generalize w2.alloc (.cells #[.int .i64 d, .int .i64 l] 32) = W0 at *
  clear hB0 hC0 hU0 hC1 hsp hbt hlt hal2 hB w2 wb
  go_loopw [13] (fun i wr => ∃ (k now x : Int) (X : FX) (n : Nat), i = .int .i64 k ∧ 0 ≤ k ∧ k ≤ most ∧ 0 ≤ now ∧ now ≤ tk ∧ x = (if k = most then (tk + rest) * 4 + 1 else 4 * k) ∧ WS w wr B d l p X (One most rest d l now x) n ∧ (n : Int) ≤ 2 * k)
    (fun i _ => (most - intOf i).toNat)
  case atStart => exact ⟨0, 0, 0, X0, 0, rfl, by omega, by omega, by omega, by omega, by rw [if_neg (by omega)]; rfl, hs0, by omega⟩
  case round =>
    obtain ⟨k, now, x, X, n, rfl, k0, k1, n0, n1, hx, hs, hn⟩ := hrel
    clear hs0
    have hb := hs.box
    have c0 := hs.c0
    have c1 := hs.c1
    by_cases hlt : k < most
    · have HX : x = 4 * k := by rw [hx, if_neg (by omega)]
      clear hx
      have ha : (One most rest d l now x).ask d l tk = (One most rest d l tk x, 0) := askO (may_small ⟨hs9.1, hs9.2.1⟩ hs9.2.2 tk0 (by omega)) (by omega) (by rw [if_pos (by omega)])
      obtain ⟨x', hx'⟩ : ∃ y, (if x % 4 = 1 then x else if false = true then 0 else if x % 4 = 0 ∧ x / 4 + 1 < most then (x / 4 + 1) * 4 else (tk + rest) * 4 + 1) = y := ⟨_, rfl⟩
      have hdd : (One most rest d l tk x).did d l false tk = (One most rest d l tk x', 0) := didO (may_small ⟨hs9.1, hs9.2.1⟩ hs9.2.2 tk0 (by omega)) (by omega) hx'
      have HX2 : x' = (if k + 1 = most then (tk + rest) * 4 + 1 else 4 * (k + 1)) := by
        rw [← hx', if_neg (by omega), if_neg (by decide)]
        by_cases e : k + 1 = most
        · rw [if_pos e, if_neg (by omega)]
        · rw [if_neg e, if_pos (by omega)]
          omega
      have HA := Lib.hid ha
      have HD := Lib.hid hdd
      have hw3 : IntKind.i64.wrap (k + 1) = k + 1 := IntWalk.i64_in _ ⟨by omega, by omega⟩
      clear ha hdd hx' HX
      go_wp2_with (first
        | (go_at_call 14; refine (askE hb hs.hp (by omega) HA.out).mono ?_; rintro e w1 ⟨X1, rfl, hB1, hW1⟩; have hs1 := hs.went hW1 hB1; have c10 := hs1.c0; have c11 := hs1.c1; clear c0 c1)
        | (go_at_call 12; refine (didE hB1 hs1.hp (by omega) HD.out).mono ?_; rintro e w2 ⟨X2, rfl, hB2, hW2⟩; have hs2 := hs1.went hW2 hB2))
      go_roundw
      case rel => exact ⟨k + 1, tk, x', X2, n + 1 + 1, by go_num, by omega, by omega, by omega, by omega, HX2, hs2, by omega⟩
      case measure => simp [intOf]; omega
    · have hkm : k = most := by omega
      rw [if_pos hkm] at hx
      clear c0 c1
      have hge : ¬ k < most := hlt
      go_wp2_with (first
        | (go_at_call 11; refine (hbm _).mono ?_; rintro e w3 ⟨rfl, rfl⟩))
      have hs3 := hs
      clear hb hs hbm
      generalize w3 = W3 at *
      go_loopw [12, 14, 15] (fun a b c wr => ∃ (t j now x : Int) (X : FX) (n : Nat), a = .int .i64 t ∧ b = .int .i64 j ∧ -1 ≤ j ∧ j ≤ tm ∧ tk ≤ t ∧ t ≤ 1000 + 12 * (tm - j) ∧ 0 ≤ now ∧ now ≤ t ∧ x = (if j = -1 then 0 else (t + rest) * 4 + 1) ∧ WS w wr B d l p X (One most rest d l now x) n ∧ (n : Int) ≤ 10 + 20 * (tm - j))
        (fun _ b _ _ => (intOf b + 1).toNat)
      case atStart => exact ⟨tk, tm, now, x, X, n, rfl, rfl, by omega, by omega, by omega, by omega, by omega, by omega, by rw [if_neg (by omega)]; exact hx, hs3, by omega⟩
      case round =>
        obtain ⟨t, j, nw, y, Y, m, rfl, rfl, j0, j1, t0, t1, w0, w1, hy, hr, hm⟩ := hrel
        clear hs3
        by_cases hj : 0 ≤ j
        · rw [if_neg (by omega)] at hy
          go_upto_block 4 with fail
          generalize wr = wo at *
          go_wp2_with fail
          go_loopw [15] (fun a wr => ∃ (i now' : Int) (X' : FX) (n' : Nat), a = .int .i64 i ∧ 0 ≤ i ∧ i ≤ rest ∧ 0 ≤ now' ∧ now' ≤ t + i ∧ WS w wr B d l p X' (One most rest d l now' y) n' ∧ (n' : Int) ≤ m + i)
            (fun a _ => (rest - intOf a).toNat)
          case atStart => exact ⟨0, nw, Y, m, rfl, by omega, by omega, by omega, by omega, hr, by omega⟩
          case round =>
            obtain ⟨i, no, Z, q, rfl, i0, i1, n0', n1', hz, hq⟩ := hrel
            clear hr
            have hb := hz.box
            have c0 := hz.c0
            have c1 := hz.c1
            by_cases hi : i < rest
            · have ha : (One most rest d l no y).ask d l (t + i) = (One most rest d l (t + i) y, 170) := askO (may_small ⟨hs9.1, hs9.2.1⟩ hs9.2.2 (by omega) (by omega)) (by omega) (by rw [if_neg (by omega), if_pos (by omega)])
              have HA := Lib.hid ha
              have hw3 : IntKind.i64.wrap (i + 1) = i + 1 := IntWalk.i64_in _ ⟨by omega, by omega⟩
              have hw4 : IntKind.i64.wrap (t + i) = t + i := IntWalk.i64_in _ ⟨by omega, by omega⟩
              clear ha hy
              go_wp2_with (first
                | (go_at_call 14; refine (askE hb hz.hp (by omega) HA.out).mono ?_; rintro e w1 ⟨X1, rfl, hB1, hW1⟩; have hs1 := hz.went hW1 hB1; clear c0 c1))
              go_roundw
              case rel => exact ⟨i + 1, t + i, X1, q + 1, by go_num, by omega, by omega, by omega, by omega, hs1, by omega⟩
              case measure => simp [intOf]; omega
            · have hir : i = rest := by omega
              subst hir
              have a1 : (One most i d l no y).ask d l (t + i) = (One most i d l (t + i) ((t + i + i) * 4 + 2), 0) := askO (may_small ⟨hs9.1, hs9.2.1⟩ hs9.2.2 (by omega) (by omega)) (by omega) (by rw [if_neg (by omega), if_neg (by omega)])
              have a2 : (One most i d l (t + i) ((t + i + i) * 4 + 2)).ask d l (t + i) = (One most i d l (t + i) ((t + i + i) * 4 + 2), 170) := askO (may_small ⟨hs9.1, hs9.2.1⟩ hs9.2.2 (by omega) (by omega)) (by omega) (by rw [if_neg (by omega), if_pos (by omega)])
              obtain ⟨y', hy'⟩ : ∃ z, (if j = 0 then 0 else (t + i + i) * 4 + 1) = z := ⟨_, rfl⟩
              have a3 : (One most i d l (t + i) ((t + i + i) * 4 + 2)).did d l (decide (j = 0)) (t + i) = (One most i d l (t + i) y', 0) := didO (may_small ⟨hs9.1, hs9.2.1⟩ hs9.2.2 (by omega) (by omega)) (by omega) (by
                rw [if_neg (by omega), ← hy']
                by_cases e : j = 0
                · rw [if_pos e, if_pos (by simpa using e)]
                · rw [if_neg e, if_neg (by simpa using e), if_neg (by omega)])
              have HA1 := Lib.hid a1
              have HA2 := Lib.hid a2
              have HA3 := Lib.hid a3
              have hye : y' = (if j - 1 = -1 then 0 else (t + i + i) * 4 + 1) := by
                rw [← hy']
                by_cases e : j = 0
                · rw [if_pos e, if_pos (by omega)]
                · rw [if_neg e, if_neg (by omega)]
              have HY := Lib.hid hye
              have hw4 : IntKind.i64.wrap (t + i) = t + i := IntWalk.i64_in _ ⟨by omega, by omega⟩
              have hw5 : IntKind.i64.wrap (j - 1) = j - 1 := IntWalk.i64_in _ ⟨by omega, by omega⟩
              have tk1' : True := trivial
              clear a1 a2 a3 hy hy' hye
              go_wp2_with (first
                | (go_at_call 14; have _t := tk1'; clear _t tk1'; refine (askE hb hz.hp (by omega) HA1.out).mono ?_; rintro e w1 ⟨X1, rfl, hB1, hW1⟩; have hs1 := hz.went hW1 hB1; have c10 := hs1.c0; have c11 := hs1.c1; clear c0 c1; have tk2' : True := trivial)
                | (go_at_call 14; have _t := tk2'; clear _t tk2'; refine (askE hB1 hs1.hp (by omega) HA2.out).mono ?_; rintro e w2 ⟨X2, rfl, hB2, hW2⟩; have hs2 := hs1.went hW2 hB2; have c20 := hs2.c0; have c21 := hs2.c1; clear c10 c11)
                | (go_at_call 12; refine (didE hB2 hs2.hp (by omega) HA3.out).mono ?_; rintro e w3 ⟨X3, rfl, hB3, hW3⟩; have hs3 := hs2.went hW3 hB3; clear c20 c21))
              go_roundw
              case rel => exact ⟨t + i, j - 1, t + i, y', X3, q + 1 + 1 + 1, by go_num, by go_num, by omega, by omega, by omega, by omega, by omega, by omega, HY.out, hs3, by omega⟩
              case measure => simp [intOf]; omega
        · rw [if_pos (by omega)] at hy
          subst hy
          have hb := hr.box
          have c0 := hr.c0
          have c1 := hr.c1
          have a1 : (One most rest d l nw 0).ask d l t = (One most rest d l t 0, 0) := askO (may_small ⟨hs9.1, hs9.2.1⟩ hs9.2.2 (by omega) (by omega)) (by omega) (by rw [if_pos (by omega)])
          have a2 : (One most rest d l t 0).ask d l t = (One most rest d l t 0, 0) := askO (may_small ⟨hs9.1, hs9.2.1⟩ hs9.2.2 (by omega) (by omega)) (by omega) (by rw [if_pos (by omega)])
          have s3 : (One most rest d l t 0).state d l = (0, 0, 0) := stateO (by rw [if_pos (by omega)]; rfl)
          have HA1 := Lib.hid a1
          have HA2 := Lib.hid a2
          have HS3 := Lib.hid s3
          have tk1' : True := trivial
          clear a1 a2 s3
          go_wp2_with (first
            | (go_at_call 14; have _t := tk1'; clear _t tk1'; refine (askE hb hr.hp (by omega) HA1.out).mono ?_; rintro e w1 ⟨X1, rfl, hB1, hW1⟩; have hs1 := hr.went hW1 hB1; have c10 := hs1.c0; have c11 := hs1.c1; clear c0 c1; have tk2' : True := trivial)
            | (go_at_call 14; have _t := tk2'; clear _t tk2'; refine (askE hB1 hs1.hp (by omega) HA2.out).mono ?_; rintro e w2 ⟨X2, rfl, hB2, hW2⟩; have hs2 := hs1.went hW2 hB2; have c20 := hs2.c0; have c21 := hs2.c1; clear c10 c11)
            | (go_at_call 21; refine (stands_yes hB2 hs2.hp hd hl HS3.out).mono ?_; rintro e w3 ⟨rfl, hC3⟩; have hs3 := hs2.same hC3)
            | (go_at_call 17; refine (works_some _).mono ?_; rintro e w4 ⟨rfl, hC4⟩))
          go_ret
          exact ⟨rfl, hs3.chg.trans hC4⟩
end Go.Proofs.Ytbihefbjojlncaa
