/- The laws' helpers: a chain's pairs; the lattice of a chain. -/
import Derived.Test.YtfmacnkjhboefaaDoorLatLaw1
import Derived.Lib.AppendZeros
namespace Go.Proofs.YtfmacnkjhboefaaDoor
set_option linter.unusedVariables false
set_option linter.unusedSimpArgs false
open Go Go.RowKit Go.Proofs Go.Shelf Go.Sort
theorem chainL_len (n : Nat) : (chainL n).length = n := by simp [chainL]
theorem chainL_succ (k : Nat) : chainL (k + 1) = chainL k ++ [(k, k + 1)] := by simp [chainL, List.range_succ]
theorem chainL_get (n i : Nat) (h : i < n) : (chainL n).getD i (0, 0) = (i, i + 1) := by simp [chainL, List.getD, h]
/-- what an append of one pair leaves -/
theorem pair_grown {w wr w1 : World} {l : List (Nat × Nat)} {a b : Nat} {v v' : Value} (hC : Chg (fun _ => False) w wr) (hR : wr.ownsRow w.heap.size 24 2 v l.length (prs l)) {o : Obj}
    (hown : w1.ownsRow w.heap.size 24 2 v' (l.length + 1) (prs l ++ [.int .i64 (a : Int), .int .i64 (b : Int)])) (hg : (wr.alloc o).grownBy w1 v.ownBlock) :
    Chg (fun _ => False) w w1 ∧ w1.ownsRow w.heap.size 24 2 v' (l ++ [(a, b)]).length (prs (l ++ [(a, b)])) := by
  refine ⟨(hC.alloc _).grown hg (fun j e => .inr (own_block hR e)), ?_⟩
  rw [prs_snoc, List.length_append]
  exact hown
set_option maxRecDepth 100000 in
set_option maxHeartbeats 4000000 in
theorem pairs0_any (n : Nat) (hn : n ≤ 8) (w : World) : Calls Tryd.prog 10 #[.agg #[.int .i64 0, .int .i64 n, .int .i64 0]] w fun e w' =>
    ∃ v, e = .returned (.tuple #[.int .i64 (((n % 8 + 2 : Nat)) : Int), v]) ∧ InPairs w' v (toP (chainL (n % 8 + 1))) ∧ Chg (fun _ => False) w w' := by
  obtain ⟨i0, hi, hz0, hz1, hz2⟩ := info_parts infoPair
  have hb8 := fun W => bring_any W (n : Int) 8 (by omega) (by omega) (by omega) (by omega)
  have hb5 := fun W => bring_any W (0 : Int) 5 (by omega) (by omega) (by omega) (by omega)
  have e8 : (n : Int) % 8 = ((n % 8 : Nat) : Int) := by omega
  have hq8 : n % 8 < 8 := by omega
  simp only [e8] at hb8
  generalize n % 8 = q at *
  have t1 : True := trivial
  have t2 : True := trivial
  have hbx := heap_new w (.cells #[.int .i64 0, .int .i64 n, .int .i64 0] 31)
  have z0 := cell_of_heap hbx 0
  have z1 := cell_of_heap hbx 1
  simp only [List.getElem?_toArray, List.getElem?_cons_zero, List.getElem?_cons_succ] at z0 z1
  have hal := (Chg.refl (fun _ => False) w).alloc (.cells #[.int .i64 0, .int .i64 n, .int .i64 0] 31)
  have hsz : (w.alloc (.cells #[.int .i64 0, .int .i64 n, .int .i64 0] 31)).heap.size = w.heap.size + 1 := by simp
  have HA := Lib.hid hal
  have HSZ := Lib.hid hsz
  clear e8 hbx hal hsz hn
  go_enter Tryd.func10, Tryd.ntmps10
  go_upto_block 1 with (first | (go_at_call 4; have _t := t1; clear _t t1; refine (hb8 _).mono ?_; rintro e w' ⟨rfl, rfl⟩) | (go_at_call 4; have _t := t2; clear _t t2; refine (hb5 _).mono ?_; rintro e w' ⟨rfl, rfl⟩))
  clear z0 z1 hb8 hb5 HSZ
  generalize w.alloc (.cells #[.int .i64 0, .int .i64 n, .int .i64 0] 31) = w1 at *
  go_wp2_with fail
  go_loopw [5, 6] (fun t i wr => ∃ k : Nat, k ≤ q + 1 ∧ i = .int .i64 k ∧ wr.ownsRow w1.heap.size 24 2 t (chainL k).length (prs (chainL k)) ∧ Chg (fun _ => False) w1 wr) (fun _ i _ => q + 1 - (intOf i).toNat)
  case atStart => exact ⟨0, by omega, rfl, World.ownsRow_nil _ _ _ _, Chg.refl _ _⟩
  case round =>
    obtain ⟨k, k0, rfl, hR, hC⟩ := hrel
    obtain ⟨A, l, c, rfl⟩ := own_slice hR
    by_cases hk : k ≤ q
    · have hw3 : IntKind.i64.wrap ((k : Int) + 1) = k + 1 := IntWalk.i64_in _ ⟨by omega, by omega⟩
      have hsz := hC.size
      have HR := Lib.hid hR
      have HC := Lib.hid hC
      have hl := chainL_len k
      have HL := Lib.hid hl
      clear hR hC hl
      go_wp2_with (at_builtin; refine wpList_append_own_at _ rfl _ _ 23 rfl w1.heap.size 24 i0 (.agg #[.int .i64 0, .int .i64 0]) 2 16 Tryd.underlying23 hi hz0 hz1 hz2 rfl (by decide) _ _ _ rfl (HR.out.alloc _) ⟨wr.heap.size, 0, none⟩ 1 1 [.int .i64 (k : Int), .int .i64 ((k : Int) + 1)] rfl rfl (two_new _ _ _ _) ?c2 ?c3 ?c4 ?c5 ?_)
      case c2 => simp [Value.oneCell']
      case c3 => rw [HL.out]; unfold maxLen; omega
      case c4 => rw [HL.out]; omega
      case c5 => simp; omega
      intro v' w2 hown' hgrow hnil hat
      have R := pair_grown (a := k) (b := k + 1) HC.out HR.out (by simpa using hown') hgrow
      rw [← chainL_succ] at R
      have HN := Lib.hid R
      clear hgrow hnil hat hown' R
      go_wp2_with fail
      go_roundw
      case rel => exact ⟨k + 1, by omega, by go_num, HN.out.2, HN.out.1⟩
      case measure => simp [intOf]; omega
    · have hkn : k = q + 1 := by omega
      have HN := Lib.hid hkn
      clear hkn
      have hw4 : IntKind.i64.wrap ((q : Int) + 2) = q + 2 := IntWalk.i64_in _ ⟨by omega, by omega⟩
      go_wp2_with fail
      go_ret2
      refine ⟨_, rfl, ?_, HA.out.trans hC⟩
      rw [← HN.out]
      exact own_pairs hR
set_option maxRecDepth 100000 in
set_option maxHeartbeats 8000000 in
theorem made0_any (n : Nat) (hn : n ≤ 8) (w : World) (hT : TabOk w) : Calls Tryd.prog 7 #[.agg #[.int .i64 0, .int .i64 n, .int .i64 0]] w fun e w' =>
    ∃ la, e = .returned (.pointer (some ⟨la, 0, none⟩)) ∧ Chg (fun _ => False) w w' := by
  obtain ⟨i0, hi, hz0, hz1, hz2⟩ := info_parts infoPair
  have hbx := heap_new w (.cells #[.int .i64 0, .int .i64 n, .int .i64 0] 31)
  have z0 := cell_of_heap hbx 0
  have z1 := cell_of_heap hbx 1
  have z2 := cell_of_heap hbx 2
  simp only [List.getElem?_toArray, List.getElem?_cons_zero, List.getElem?_cons_succ] at z0 z1 z2
  have hal := (Chg.refl (fun _ => False) w).alloc (.cells #[.int .i64 0, .int .i64 n, .int .i64 0] 31)
  have hp := pairs0_any n hn
  have hchk := chain_yes (n % 8) (by omega)
  have hq8 : n % 8 < 8 := by omega
  generalize n % 8 = q at *
  have hname := names_any (q + 2) (by omega)
  have hb := fun W => bring_any W (0 : Int) (q + 2 : Nat) (by omega) (by omega) (by omega) (by omega)
  rw [Int.zero_emod] at hb
  have HA := Lib.hid hal
  have HT := Lib.hid hT
  have HCHK := Lib.hid hchk
  have hbs : w.heap.size < (w.alloc (.cells #[.int .i64 0, .int .i64 n, .int .i64 0] 31)).heap.size := by simp
  clear hbx hal hT hchk hn
  go_enter Tryd.func7, Tryd.ntmps7
  go_upto_block 0 with (first | (go_at_call 10; refine (hp _).mono ?_; rintro e w2 ⟨vp, rfl, hP2, hC2⟩; obtain ⟨pa, pc, rfl, hpc⟩ := hP2; have y2 := hC2.cell z2 (fun x => x)) | (go_at_call 4; refine (hb _).mono ?_; rintro e w3 ⟨rfl, rfl⟩))
  --MADE
  go_wp2_with fail
  have HB0 := Lib.hid y2
  go_loopw [5, 7] (fun t i wr => ∃ k : Nat, k ≤ q + 1 ∧ i = .int .i64 k ∧ wr.ownsRow w2.heap.size 24 2 t (chainL k).length (prs (chainL k)) ∧ Chg (fun _ => False) w2 wr) (fun _ i _ => q + 1 - (intOf i).toNat)
  case atStart => exact ⟨0, by omega, rfl, World.ownsRow_nil _ _ _ _, Chg.refl _ _⟩
  case round =>
    obtain ⟨k, k0, rfl, hR, hC⟩ := hrel
    obtain ⟨A, l, c, rfl⟩ := own_slice hR
    have hlen : (toP (chainL (q + 1))).length = q + 1 := by simp [toP, chainL]
    by_cases hk : k < q + 1
    · obtain ⟨g, o, rfl, x0, x1⟩ := hpc k (by rw [hlen]; exact hk)
      rw [toP_get _ k (by rw [chainL_len]; exact hk), chainL_get _ k hk] at x0 x1
      simp only [Int.natCast_add, Int.cast_ofNat_Int] at x0 x1
      have d0' := hC.cell x0 (fun x => x)
      have d1' := hC.cell x1 (fun x => x)
      have hw3 : IntKind.i64.wrap ((k : Int) + 1) = k + 1 := IntWalk.i64_in _ ⟨by omega, by omega⟩
      have hm1 : (k : Int).tmod ((q : Int) + 2) = k := by rw [Int.tmod_eq_emod_of_nonneg (by omega), Int.emod_eq_of_lt (by omega) (by omega)]
      have hm2 : ((k : Int) + 1).tmod ((q : Int) + 2) = k + 1 := by rw [Int.tmod_eq_emod_of_nonneg (by omega), Int.emod_eq_of_lt (by omega) (by omega)]
      have hkq : (k : Int) < q + 1 := by omega
      have hw0 : IntKind.i64.wrap (k : Int) = k := IntWalk.i64_in _ ⟨by omega, by omega⟩
      have hq2 : ¬ ((q : Int) + 2 = 0) := by omega
      have hsz := hC.size
      have HRz := Lib.hid (own_keep (W' := wr.drew) hR (fun _ _ _ _ _ h => h))
      have HC := Lib.hid hC
      have HPC := Lib.hid x0
      have HPC2 := Lib.hid x1
      have hl := chainL_len k
      have HL := Lib.hid hl
      clear hR hC hl x0 x1
      rw [hlen]
      have HLEN := Lib.hid hlen
      clear hlen
      go_upto_region 7 with fail
      refine region_lone (fun (W' : World) => W'.cell? ⟨g, o + k * 2, none⟩ = some (.int .i64 (k : Int)) ∧ W'.cell? ⟨g, o + k * 2 + 1, none⟩ = some (.int .i64 ((k : Int) + 1))) [] (by kernel_rfl) ?_
      have hSz : (fun (W' : World) => W'.cell? ⟨g, o + k * 2, none⟩ = some (.int .i64 (k : Int)) ∧ W'.cell? ⟨g, o + k * 2 + 1, none⟩ = some (.int .i64 ((k : Int) + 1))) wr.drew := ⟨d0', d1'⟩
      refine take_one 0 hSz rfl (by kernel_rfl) rfl ?_
      apply Exists.intro
      refine And.intro (fun W' hS' => ?y0) (And.intro (fun _ _ _ h => h) ?_)
      case y0 => obtain ⟨d0, d1⟩ := hS'; go_simp; rfl
      refine take_one 1 hSz rfl (by kernel_rfl) rfl ?_
      apply Exists.intro
      refine And.intro (fun W' hS' => ?y1) (And.intro (fun _ _ _ h => h) ?_)
      case y1 => obtain ⟨d0, d1⟩ := hS'; go_simp; rfl
      refine take_one 2 hSz rfl (by kernel_rfl) rfl ?_
      apply Exists.intro
      refine And.intro (fun W' hS' => ?y2) (And.intro (fun _ _ _ h => h) ?_)
      case y2 => obtain ⟨d0, d1⟩ := hS'; go_simp; rfl
      refine take_one 3 hSz rfl (by kernel_rfl) rfl ?_
      apply Exists.intro
      refine And.intro (fun W' hS' => ?y3) (And.intro (fun _ _ _ h => h) ?_)
      case y3 => obtain ⟨d0, d1⟩ := hS'; go_simp; rfl
      refine take_one 4 hSz rfl (by kernel_rfl) rfl ?_
      apply Exists.intro
      refine And.intro (fun W' hS' => ?y4) (And.intro (fun _ _ _ h => h) ?_)
      case y4 => obtain ⟨d0, d1⟩ := hS'; go_simp; rfl
      refine take_one 5 hSz rfl (by kernel_rfl) rfl ?_
      apply Exists.intro
      refine And.intro (fun W' hS' => ?y5) (And.intro (fun _ _ _ h => h) ?_)
      case y5 => obtain ⟨d0, d1⟩ := hS'; go_simp; rfl
      refine take_one 6 hSz rfl (by kernel_rfl) rfl ?_
      apply Exists.intro
      refine And.intro (fun W' hS' => ?y6) (And.intro (fun _ _ _ h => h) ?_)
      case y6 => obtain ⟨d0, d1⟩ := hS'; go_simp; rfl
      refine take_one 7 hSz rfl (by kernel_rfl) rfl ?_
      apply Exists.intro
      refine And.intro (fun W' hS' => ?y7) (And.intro (fun _ _ _ h => h) ?_)
      case y7 => obtain ⟨d0, d1⟩ := hS'; go_simp; rfl
      try go_simp
      refine take_one 8 hSz rfl (by kernel_rfl) rfl ?_
      apply Exists.intro
      refine And.intro (fun W' hS' => ?y8) (And.intro (fun _ _ _ h => h) ?_)
      case y8 => obtain ⟨d0, d1⟩ := hS'; go_simp; rfl
      refine take_one 9 hSz rfl (by kernel_rfl) rfl ?_
      apply Exists.intro
      refine And.intro (fun W' hS' => ?y9) (And.intro (fun _ _ _ h => h) ?_)
      case y9 => obtain ⟨d0, d1⟩ := hS'; go_simp; rfl
      refine take_one 10 hSz rfl (by kernel_rfl) rfl ?_
      apply Exists.intro
      refine And.intro (fun W' hS' => ?y10) (And.intro (fun _ _ _ h => h) ?_)
      case y10 => obtain ⟨d0, d1⟩ := hS'; go_simp; rfl
      refine take_one 11 hSz rfl (by kernel_rfl) rfl ?_
      apply Exists.intro
      refine And.intro (fun W' hS' => ?y11) (And.intro (fun _ _ _ h => h) ?_)
      case y11 => obtain ⟨d0, d1⟩ := hS'; go_simp; rfl
      refine take_one 12 hSz rfl (by kernel_rfl) rfl ?_
      apply Exists.intro
      refine And.intro (fun W' hS' => ?y12) (And.intro (fun _ _ _ h => h) ?_)
      case y12 => obtain ⟨d0, d1⟩ := hS'; go_simp; rfl
      refine take_one 13 hSz rfl (by kernel_rfl) rfl ?_
      apply Exists.intro
      refine And.intro (fun W' hS' => ?y13) (And.intro (fun _ _ _ h => h) ?_)
      case y13 => obtain ⟨d0, d1⟩ := hS'; go_simp; rfl
      refine take_one 14 hSz rfl (by kernel_rfl) rfl ?_
      apply Exists.intro
      refine And.intro (fun W' hS' => ?y14) (And.intro (fun _ _ _ h => h) ?_)
      case y14 => obtain ⟨d0, d1⟩ := hS'; go_simp; rfl
      refine take_one 15 hSz rfl (by kernel_rfl) rfl ?_
      apply Exists.intro
      refine And.intro (fun W' hS' => ?y15) (And.intro (fun _ _ _ h => h) ?_)
      case y15 => obtain ⟨d0, d1⟩ := hS'; go_simp; rfl
      try go_simp
      refine take_one 16 hSz rfl (by kernel_rfl) rfl ?_
      apply Exists.intro
      refine And.intro (fun W' hS' => ?y16) (And.intro (fun _ _ _ h => h) ?_)
      case y16 => obtain ⟨d0, d1⟩ := hS'; go_simp; rfl
      refine take_one 17 hSz rfl (by kernel_rfl) rfl ?_
      apply Exists.intro
      refine And.intro (fun W' hS' => ?y17) (And.intro (fun _ _ _ h => h) ?_)
      case y17 => obtain ⟨d0, d1⟩ := hS'; go_simp; rfl
      refine take_one 18 hSz rfl (by kernel_rfl) rfl ?_
      apply Exists.intro
      refine And.intro (fun W' hS' => ?y18) (And.intro (fun _ _ _ h => h) ?_)
      case y18 => obtain ⟨d0, d1⟩ := hS'; go_simp; rfl
      refine take_one 19 hSz rfl (by kernel_rfl) rfl ?_
      apply Exists.intro
      refine And.intro (fun W' hS' => ?y19) (And.intro (fun _ _ _ h => h) ?_)
      case y19 => obtain ⟨d0, d1⟩ := hS'; go_simp; rfl
      refine only_one 20 rfl (by kernel_rfl) rfl ?_
      try go_simp
      have hS20 : (fun (W' : World) => W'.cell? ⟨g, o + k * 2, none⟩ = some (.int .i64 (k : Int)) ∧ W'.cell? ⟨g, o + k * 2 + 1, none⟩ = some (.int .i64 ((k : Int) + 1))) (wr.drew.alloc (.cells #[.int .i64 (k : Int), .int .i64 ((k : Int) + 1)] 24)) := ⟨cell_alloc hSz.1 _, cell_alloc hSz.2 _⟩
      refine ⟨hS20, ?_⟩
      refine only_one 21 rfl (by kernel_rfl) rfl ?_
      obtain ⟨v', w3, hr, hown', hgrow, hnil, hat⟩ := run_append_own_at (P := Tryd.prog) (wr.drew.alloc (.cells #[.int .i64 (k : Int), .int .i64 ((k : Int) + 1)] 24)) w2.heap.size 23 23 24 i0 (.agg #[.int .i64 0, .int .i64 0]) 2 16 Tryd.underlying23 hi hz0 hz1 hz2 rfl (by decide) _ _ _ (HRz.out.alloc _) ⟨wr.heap.size, 0, none⟩ 1 1 [.int .i64 (k : Int), .int .i64 ((k : Int) + 1)] rfl (two_new _ _ _ _) (by simp [Value.oneCell']) (by rw [HL.out]; unfold maxLen; omega) (by rw [HL.out]; omega) (by simp; omega)
      refine Lib.wp_append_run _ (.tmp 25) (.tmp 45) 23 23 rfl _ _ rfl rfl v' w3 hr ?_
      have R := pair_grown (a := k) (b := k + 1) HC.out.drew HRz.out (by simpa using hown') hgrow
      rw [← chainL_succ] at R
      have hS21 : (fun (W' : World) => W'.cell? ⟨g, o + k * 2, none⟩ = some (.int .i64 (k : Int)) ∧ W'.cell? ⟨g, o + k * 2 + 1, none⟩ = some (.int .i64 ((k : Int) + 1))) w3 := ⟨(R.1.cell (HPC.out) (fun x => x)), R.1.cell HPC2.out (fun x => x)⟩
      refine ⟨fun _ => hS21, ?_⟩
      refine take_one 22 hS21 rfl (by kernel_rfl) rfl ?_
      apply Exists.intro
      refine And.intro (fun W' hS' => ?y22) (And.intro (fun _ _ _ h => h) ?_)
      case y22 => obtain ⟨d0, d1⟩ := hS'; go_simp; rfl
      try go_simp
      refine all_done (by kernel_rfl) ?_ _
      clear hSz hS20 hS21 hnil hat hgrow hown' hr d0' d1'
      have HN := Lib.hid R
      clear R
      go_wp2_with fail
      go_roundw
      case rel => exact ⟨k + 1, by omega, by go_num, HN.out.2, HN.out.1⟩
      case measure => simp [intOf]; omega
    · have hkn : k = q + 1 := by omega
      rw [hlen]
      rw [hkn] at hR
      have HR := Lib.hid hR
      have hk2 : ¬ (k : Int) < q + 1 := by omega
      clear hR hkn hk y2
      have hsz := hC.size
      have hC2' := HA.out.trans hC2
      have HC := Lib.hid (hC2'.trans hC)
      have t1 : True := trivial
      have hfin := fun (vn : Value) (w4 : World) (hN : InStrs w4 vn (namesL (q + 2))) (hC4 : Chg (fun _ => False) wr w4) =>
        make_any hN (own_pairs (own_keep HR.out (fun _ _ _ _ _ h => hC4.keep h (fun x => x)))) (by simp [toP, chainL]; omega) (by rw [namesL_len]; omega) (HT.out.chg (HC.out.trans hC4) (fun x => x))
      have hE : makeE (namesL (q + 2)) (toP (chainL (q + 1))) = 0 := by
        rw [makeE_eval ⟨by rw [namesL_len]; omega, by rw [namesL_len]; omega⟩ (names_fine _ (by omega)) (by
          intro p hp
          rw [namesL_len]
          unfold chainL at hp
          obtain ⟨i, hi, rfl⟩ := List.mem_map.1 hp
          have := List.mem_range.1 hi
          exact ⟨by simp only; omega, by simp only; omega⟩), namesL_len]
        exact HCHK.out
      have HE := Lib.hid hE
      clear hC hE hpc
      go_wp2_with (first
        | (go_at_call 6; refine (hname _).mono ?_; rintro e w4 ⟨vn, rfl, hN4, hC4⟩; have hmk := hfin vn w4 hN4 hC4; obtain ⟨na, nc, rfl, _⟩ := hN4)
        | (go_at_call 9; refine hmk.mono ?_; rintro e w5 ⟨hC5, ⟨h1, _⟩ | ⟨_, _, la, rfl, hL5⟩⟩; exact absurd HE.out h1; have hmany := lMany hL5; rw [namesL_len] at hmany; unfold latp at hmany)
        | (go_at_call 11; refine hmany.mono ?_; rintro e w6 ⟨rfl, rfl⟩))
      go_ret
      exact ⟨la, rfl, (HC.out.trans hC4).trans hC5⟩
end Go.Proofs.YtfmacnkjhboefaaDoor
