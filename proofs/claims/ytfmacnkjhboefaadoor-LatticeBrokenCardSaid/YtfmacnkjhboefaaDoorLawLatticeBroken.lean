/- LatticeBroken, walked: it returns true at every input. -/
import Derived.Test.YtfmacnkjhboefaaDoorLatWorks
namespace Go.Proofs.YtfmacnkjhboefaaDoor
set_option linter.unusedVariables false
set_option linter.unusedSimpArgs false
open Go Go.RowKit Go.Proofs Go.Shelf Go.Sort
theorem own_keep1 {W W' : World} {base : Nat} {e : TypeId} {size : Nat} {v : Value} {n : Nat} {xs : List Value} (h : W.ownsRow base e size v n xs)
    (hk : ∀ k c t f, v.ownBlock = some k → W.heap[k]? = some (.cells c t f) → W'.heap[k]? = some (.cells c t f)) : W'.ownsRow base e size v n xs := by
  obtain ⟨h1, h2⟩ := h
  refine ⟨h1, ?_⟩
  rcases h2 with h2 | ⟨g, cap, cur, hv, hg, hh, r⟩
  · exact .inl h2
  · exact .inr ⟨g, cap, cur, hv, hg, hk _ _ _ _ (by rw [hv]; rfl) hh, r⟩
theorem own_take {W : World} {base : Nat} {e : TypeId} {A : Option Addr} {n c : Nat} {xs : List Value} (h : W.ownsRow base e 2 (.slice A (n + 1) c) (n + 1) xs) : W.ownsRow base e 2 (.slice A n c) n (xs.take (n * 2)) := by
  obtain ⟨h1, h2⟩ := h
  refine ⟨by rw [List.length_take, h1]; omega, ?_⟩
  rcases h2 with ⟨_, h0⟩ | ⟨g, cap, cur, hv, hg, hh, q1, q2, q3, q4⟩
  · omega
  · cases hv
    exact .inr ⟨g, c, cur, rfl, hg, hh, by omega, q2, q3, by rw [← q4, List.take_take, Nat.min_eq_left (by omega)]⟩
def Dis (v u : Value) : Prop := ∀ j, v.ownBlock = some j → u.ownBlock = some j → False
theorem roofL_succ (k : Nat) : roofL (k + 1) = roofL k ++ [(0, k + 1)] := by simp [roofL, List.range_succ]
theorem floorL_succ (k : Nat) : floorL (k + 1) = floorL k ++ [(k + 1, 0)] := by simp [floorL, List.range_succ]
theorem roofL_len (k : Nat) : (roofL k).length = k := by simp [roofL]
theorem floorL_len (k : Nat) : (floorL k).length = k := by simp [floorL]
def rndTo (n k : Nat) : List (Nat × Nat) := (List.range k).map fun i => (i, (i + 1) % n)
theorem rndTo_succ (n k : Nat) : rndTo n (k + 1) = rndTo n k ++ [(k, (k + 1) % n)] := by simp [rndTo, List.range_succ]
theorem rndTo_len (n k : Nat) : (rndTo n k).length = k := by simp [rndTo]
theorem prs_take (n : Nat) (l : List (Nat × Nat)) : (prs l).take (n * 2) = prs (l.take n) := by
  induction l generalizing n with
  | nil => simp [prs]
  | cons x l ih =>
    cases n with
    | zero => simp [prs]
    | succ n =>
      have e : prs (x :: l) = .int .i64 (x.1 : Int) :: .int .i64 (x.2 : Int) :: prs l := rfl
      rw [e, show (n + 1) * 2 = n * 2 + 1 + 1 by omega, List.take_succ_cons, List.take_succ_cons, ih, List.take_succ_cons]
      rfl
theorem rnd_chain (n : Nat) : (rndTo (n + 1) (n + 1)).take n = chainL n := by
  unfold rndTo chainL
  rw [List.range_succ, List.map_append, List.take_left' (by simp)]
  refine List.map_congr_left fun i hi => ?_
  have := List.mem_range.1 hi
  rw [Nat.mod_eq_of_lt (by omega)]
/-- a pair is put behind one row, beside another one -/
theorem pair_two {w wr w1 : World} {l m : List (Nat × Nat)} {a b : Nat} {v v' u : Value} (hC : Chg (fun _ => False) w wr) (hR : wr.ownsRow w.heap.size 24 2 v l.length (prs l)) (hU : wr.ownsRow w.heap.size 24 2 u m.length (prs m)) (hd : Dis v u) {o : Obj}
    (hown : w1.ownsRow w.heap.size 24 2 v' (l.length + 1) (prs l ++ [.int .i64 (a : Int), .int .i64 (b : Int)])) (hg : (wr.alloc o).grownBy w1 v.ownBlock) (hat : v'.ownBlock = v.ownBlock ∨ v'.ownBlock = some (wr.heap.size + 1)) :
    Chg (fun _ => False) w w1 ∧ w1.ownsRow w.heap.size 24 2 v' (l ++ [(a, b)]).length (prs (l ++ [(a, b)])) ∧ w1.ownsRow w.heap.size 24 2 u m.length (prs m) ∧ Dis v' u := by
  obtain ⟨h1, h2⟩ := pair_grown hC hR hown hg
  refine ⟨h1, h2, own_keep1 hU fun k c t f hk hh => grown_keep hg (heap_alloc hh) (fun e => hd k e hk), fun j hj hu => ?_⟩
  rcases hat with h | h
  · exact hd j (h ▸ hj) hu
  · rw [h] at hj
    obtain ⟨c, t, f, hc⟩ := own_cells hU hu
    have := lt_of_heap hc
    cases hj
    omega
theorem InStrs.chg' {w w' : World} {v : Value} {L : List (List UInt8)} (h : InStrs w v L) (hc : Chg (fun _ => False) w w') : InStrs w' v L := h.chg hc
/-- fails, of so many names -/
theorem fails_names {w W : World} (hT : TabOk w) (hC : Chg (fun _ => False) w W) {n : Nat} (hn : 1 ≤ n ∧ n ≤ 10) {vn vp : Value} (hN : InStrs W vn (namesL n)) {P : List (Nat × Nat)} (hP : InPairs W vp (toP P)) (hl : P.length ≤ 1000) (hp : ∀ p ∈ P, p.1 < n ∧ p.2 < n) {want : Int} (hw : want ≠ 0) (hc : checkE n P = want) :
    Calls Tryd.prog 5 #[vn, vp, .int .i64 want] W fun e w' => e = .returned (.bool true) ∧ Chg (fun _ => False) W w' := by
  have hE : makeE (namesL n) (toP P) = want := by
    rw [makeE_eval (by rw [namesL_len]; exact hn) (names_fine n (by omega)) (by rw [namesL_len]; exact hp), namesL_len]; exact hc
  refine (fails_any hN hP (by simp [toP]; omega) (by rw [namesL_len]; omega) (hT.chg hC (fun x => x)) want hw).mono ?_
  rintro e w' ⟨rfl, hC'⟩
  rw [hE]
  exact ⟨by simp, hC'⟩
theorem rnd_in (m : Nat) : ∀ p ∈ rndTo (m + 1) (m + 1), p.1 < m + 1 ∧ p.2 < m + 1 := by
  intro p hp
  obtain ⟨i, hi, rfl⟩ := List.mem_map.1 hp
  have := List.mem_range.1 hi
  exact ⟨this, Nat.mod_lt _ (by omega)⟩
theorem chain_in (m : Nat) (hm : 1 ≤ m) : ∀ p ∈ chainL m ++ [(1, 1)], p.1 < m + 1 ∧ p.2 < m + 1 := by
  intro p hp
  rcases List.mem_append.1 hp with hp | hp
  · obtain ⟨i, hi, rfl⟩ := List.mem_map.1 hp
    have := List.mem_range.1 hi
    exact ⟨by simp only; omega, by simp only; omega⟩
  · obtain rfl : p = (1, 1) := by simpa using hp
    exact ⟨by simp only; omega, by simp only; omega⟩
theorem roof_in (n : Nat) : ∀ p ∈ roofL n, p.1 < n + 1 ∧ p.2 < n + 1 := by
  intro p hp
  obtain ⟨i, hi, rfl⟩ := List.mem_map.1 hp
  have := List.mem_range.1 hi
  exact ⟨by simp only; omega, by simp only; omega⟩
theorem floor_in (n : Nat) : ∀ p ∈ floorL n, p.1 < n + 1 ∧ p.2 < n + 1 := by
  intro p hp
  obtain ⟨i, hi, rfl⟩ := List.mem_map.1 hp
  have := List.mem_range.1 hi
  exact ⟨by simp only; omega, by simp only; omega⟩
set_option maxRecDepth 100000 in
set_option maxHeartbeats 32000000 in
theorem latticeBroken_walk (w : World) (many : Int) (hm1 : -9223372036854775808 ≤ many) (hm2 : many ≤ 9223372036854775807) (hT : TabOk w) :
    Calls Tryd.prog 3 #[.int .i64 many] w fun e w' => e = .returned (.bool true) ∧ Chg (fun _ => False) w w' := by
  obtain ⟨i0, hi, hz0, hz1, hz2⟩ := info_parts infoPair
  have hb := bring_any w many 7 (by omega) (by omega) hm1 hm2
  have k1 := Int.emod_nonneg many (by omega : (7 : Int) ≠ 0)
  have k2 := Int.emod_lt_of_pos many (by omega : (0 : Int) < 7)
  obtain ⟨q, hq⟩ := Int.eq_ofNat_of_zero_le k1
  rw [hq] at hb
  have hq7 : q < 7 := by omega
  have HT := Lib.hid hT
  clear k1 k2 hq hm1 hm2 hT
  obtain ⟨n, hn⟩ : ∃ n, n = q + 2 := ⟨_, rfl⟩
  have hqn : (2 : Int) + q = n := by omega
  have hn2 : 2 ≤ n := by omega
  have hn8 : n ≤ 8 := by omega
  have HQN := Lib.hid hqn
  clear hqn
  go_enter Tryd.func3, Tryd.ntmps3
  go_upto_block 0 with (first | (go_at_call 4; refine hb.mono ?_; rintro e w ⟨rfl, rfl⟩))
  rw [HQN.out]
  clear hb HQN hn
  go_wp2_with fail
  go_loopw [4, 5, 6] (fun t u i wr => ∃ k : Nat, k ≤ n ∧ i = .int .i64 ((k : Int) + 1) ∧ wr.ownsRow w.heap.size 24 2 t (roofL k).length (prs (roofL k)) ∧ wr.ownsRow w.heap.size 24 2 u (floorL k).length (prs (floorL k)) ∧ Dis t u ∧ Chg (fun _ => False) w wr) (fun _ _ i _ => n + 1 - (intOf i).toNat)
  case atStart => exact ⟨0, by omega, rfl, World.ownsRow_nil _ _ _ _, World.ownsRow_nil _ _ _ _, (fun j hj => by cases hj), Chg.refl _ _⟩
  case round =>
    obtain ⟨k, k0, rfl, hR, hU, hd, hC⟩ := hrel
    obtain ⟨A, l, c, rfl⟩ := own_slice hR
    obtain ⟨A', l', c', rfl⟩ := own_slice hU
    by_cases hk : k < n
    · have hw3 : IntKind.i64.wrap ((k : Int) + 1 + 1) = (k : Int) + 1 + 1 := IntWalk.i64_in _ ⟨by omega, by omega⟩
      have hle : (k : Int) + 1 ≤ n := by omega
      have hsz := hC.size
      have HR := Lib.hid hR
      have HU := Lib.hid hU
      have HD := Lib.hid hd
      have HC := Lib.hid hC
      have HL := Lib.hid (roofL_len k)
      have HL' := Lib.hid (floorL_len k)
      clear hR hU hd hC
      go_upto_region 7 with (at_builtin; refine wpList_append_own_at _ rfl _ _ 23 rfl w.heap.size 24 i0 (.agg #[.int .i64 0, .int .i64 0]) 2 16 Tryd.underlying23 hi hz0 hz1 hz2 rfl (by decide) _ _ _ rfl (HR.out.alloc _) ⟨wr.heap.size, 0, none⟩ 1 1 [.int .i64 0, .int .i64 ((k : Int) + 1)] rfl rfl (two_new _ _ _ _) ?c2 ?c3 ?c4 ?c5 ?_)
      case c2 => simp [Value.oneCell']
      case c3 => rw [HL.out]; unfold maxLen; omega
      case c4 => rw [HL.out]; omega
      case c5 => simp; omega
      intro v' w1 hown' hgrow hnil hat
      have R := pair_two (a := 0) (b := k + 1) HC.out HR.out HU.out HD.out (by simpa using hown') hgrow hat
      rw [← roofL_succ] at R
      obtain ⟨B1, l1, c1, rfl⟩ := own_slice R.2.1
      have H1 := Lib.hid R
      have hsz1 := R.1.size
      clear hgrow hnil hat hown' R
      go_upto_region 5 with (at_builtin; refine wpList_append_own_at _ rfl _ _ 23 rfl w.heap.size 24 i0 (.agg #[.int .i64 0, .int .i64 0]) 2 16 Tryd.underlying23 hi hz0 hz1 hz2 rfl (by decide) _ _ _ rfl (H1.out.2.2.1.alloc _) ⟨w1.heap.size, 0, none⟩ 1 1 [.int .i64 ((k : Int) + 1), .int .i64 0] rfl rfl (two_new _ _ _ _) ?d2 ?d3 ?d4 ?d5 ?_)
      case d2 => simp [Value.oneCell']
      case d3 => rw [HL'.out]; unfold maxLen; omega
      case d4 => rw [HL'.out]; omega
      case d5 => simp; omega
      intro v2 w2 hown' hgrow hnil hat
      have R := pair_two (a := k + 1) (b := 0) H1.out.1 H1.out.2.2.1 H1.out.2.1 (fun j a b => H1.out.2.2.2 j b a) (by simpa using hown') hgrow hat
      rw [← floorL_succ] at R
      have H2 := Lib.hid R
      clear hgrow hnil hat hown' R
      go_wp2_with fail
      go_roundw
      case rel => exact ⟨k + 1, by omega, by go_num, H2.out.2.2.1, H2.out.2.1, (fun j a b => H2.out.2.2.2 j b a), H2.out.1⟩
      case measure => simp [intOf]; omega
    · have hkn : k = n := by omega
      rw [hkn] at hR hU
      have HR := Lib.hid hR
      have HU := Lib.hid hU
      have hle : ¬ (k : Int) + 1 ≤ n := by omega
      have HC := Lib.hid hC
      clear hR hU hd hkn hk hC
      go_upto_region 9 with fail
      have hC0 := HC.out.alloc (.cells #[.int .i64 0, .int .i64 1, .int .i64 0, .int .i64 2, .int .i64 1, .int .i64 3, .int .i64 1, .int .i64 4, .int .i64 2, .int .i64 3, .int .i64 2, .int .i64 4, .int .i64 3, .int .i64 5, .int .i64 4, .int .i64 5] 24)
      have hP3 := lit_pairs wr [(0, 1), (0, 2), (1, 3), (1, 4), (2, 3), (2, 4), (3, 5), (4, 5)] 24 (0, 0) 8
      have hP1 := (own_pairs HR.out).chg ((Chg.refl (fun _ => False) wr).alloc (.cells #[.int .i64 0, .int .i64 1, .int .i64 0, .int .i64 2, .int .i64 1, .int .i64 3, .int .i64 1, .int .i64 4, .int .i64 2, .int .i64 3, .int .i64 2, .int .i64 4, .int .i64 3, .int .i64 5, .int .i64 4, .int .i64 5] 24))
      have hP2 := (own_pairs HU.out).chg ((Chg.refl (fun _ => False) wr).alloc (.cells #[.int .i64 0, .int .i64 1, .int .i64 0, .int .i64 2, .int .i64 1, .int .i64 3, .int .i64 1, .int .i64 4, .int .i64 2, .int .i64 3, .int .i64 2, .int .i64 4, .int .i64 3, .int .i64 5, .int .i64 4, .int .i64 5] 24))
      change InPairs (wr.alloc (.cells #[.int .i64 0, .int .i64 1, .int .i64 0, .int .i64 2, .int .i64 1, .int .i64 3, .int .i64 1, .int .i64 4, .int .i64 2, .int .i64 3, .int .i64 2, .int .i64 4, .int .i64 3, .int .i64 5, .int .i64 4, .int .i64 5] 24)) (.slice (some ⟨wr.heap.size, 0, none⟩) 8 8) _ at hP3
      generalize (wr.alloc (.cells #[.int .i64 0, .int .i64 1, .int .i64 0, .int .i64 2, .int .i64 1, .int .i64 3, .int .i64 1, .int .i64 4, .int .i64 2, .int .i64 3, .int .i64 2, .int .i64 4, .int .i64 3, .int .i64 5, .int .i64 4, .int .i64 5] 24)) = wa at *
      have HP1 := Lib.hid hP1
      have HP2 := Lib.hid hP2
      have HP3 := Lib.hid hP3
      have HC0 := Lib.hid hC0
      clear hP1 hP2 hP3 hC0 HR HU HC
      generalize wr.heap.size = B3 at *
      have hnm := fun (W : World) => names_any (n + 1) (by omega) W
      have hnm6 := fun (W : World) => names_any 6 (by omega) W
      have hw5 : IntKind.i64.wrap ((n : Int) + 1) = n + 1 := IntWalk.i64_in _ ⟨by omega, by omega⟩
      have t1 : True := trivial
      have t2 : True := trivial
      have t3 : True := trivial
      have s1 : True := trivial
      have s2 : True := trivial
      have s3 : True := trivial
      go_upto_region 11 with (first
        | (go_at_call 6; have _t := t1; clear _t t1; refine (hnm _).mono ?_; rintro e w1 ⟨vn1, rfl, hN1, hD1⟩)
        | (go_at_call 5; have _t := s1; clear _t s1; refine (fails_names (n := n + 1) HT.out (HC0.out.trans hD1) (by omega) hN1 (HP1.out.chg hD1) (by rw [roofL_len]; omega) (roof_in n) (by decide) (roof_no n (by omega) (by omega))).mono ?_; rintro e w2 ⟨rfl, hD2⟩)
        | (go_at_call 6; have _t := t2; clear _t t2; refine (hnm _).mono ?_; rintro e w3 ⟨vn3, rfl, hN3, hD3⟩; have E3 := (hD1.trans hD2).trans hD3)
        | (go_at_call 5; have _t := s2; clear _t s2; refine (fails_names (n := n + 1) HT.out (HC0.out.trans E3) (by omega) hN3 (HP2.out.chg E3) (by rw [floorL_len]; omega) (floor_in n) (by decide) (floor_no n (by omega) (by omega))).mono ?_; rintro e w4 ⟨rfl, hD4⟩)
        | (go_at_call 6; have _t := t3; clear _t t3; refine (hnm6 _).mono ?_; rintro e w5 ⟨vn5, rfl, hN5, hD5⟩; have E5 := (E3.trans hD4).trans hD5)
        | (go_at_call 5; have _t := s3; clear _t s3; refine (fails_names (n := 6) HT.out (HC0.out.trans E5) (by omega) hN5 (HP3.out.chg E5) (by decide) (by decide) (by decide) two_no).mono ?_; rintro e w6 ⟨rfl, hD6⟩))
      have hC6 := (HC0.out.trans E5).trans hD6
      clear hD1 hD2 hD3 hD4 hD5 hD6 E3 E5 hN1 hN3 hN5 HP1 HP2 HP3 HC0 hnm hnm6
      have hmd := made0_any n (by omega) w6 (HT.out.chg hC6 (fun x => x))
      go_upto_block 2 with (first | (go_at_call 7; refine hmd.mono ?_; rintro e w7 ⟨la, rfl, hD7⟩))
      have hC7 := hC6.trans hD7
      clear hC6 hD7 hmd
      go_wp2_with fail
      go_loopw [9, 10] (fun t i wr => ∃ k : Nat, k ≤ n ∧ i = .int .i64 (k : Int) ∧ wr.ownsRow w7.heap.size 24 2 t (rndTo n k).length (prs (rndTo n k)) ∧ Chg (fun _ => False) w7 wr) (fun _ i _ => n + 1 - (intOf i).toNat)
      case atStart => exact ⟨0, by omega, rfl, World.ownsRow_nil _ _ _ _, Chg.refl _ _⟩
      case round =>
        obtain ⟨k, k0, rfl, hR, hC⟩ := hrel
        obtain ⟨A, l, c, rfl⟩ := own_slice hR
        by_cases hk : k < n
        · have hw3 : IntKind.i64.wrap ((k : Int) + 1) = (k : Int) + 1 := IntWalk.i64_in _ ⟨by omega, by omega⟩
          have hmod : ((k : Int) + 1).tmod n = (((k + 1) % n : Nat) : Int) := by rw [Int.tmod_eq_emod_of_nonneg (by omega), Int.natCast_emod, Int.natCast_add]; rfl
          have hn0 : ¬ (n : Int) = 0 := by omega
          have hsz := hC.size
          have HR := Lib.hid hR
          have HC := Lib.hid hC
          have HL := Lib.hid (rndTo_len n k)
          clear hR hC
          generalize hy : (k + 1) % n = y at *
          have HY := Lib.hid hy
          clear hy
          go_wp2_with (at_builtin; refine wpList_append_own_at _ rfl _ _ 23 rfl w7.heap.size 24 i0 (.agg #[.int .i64 0, .int .i64 0]) 2 16 Tryd.underlying23 hi hz0 hz1 hz2 rfl (by decide) _ _ _ rfl (HR.out.alloc _) ⟨wr.heap.size, 0, none⟩ 1 1 [.int .i64 (k : Int), .int .i64 (y : Int)] rfl rfl (two_new _ _ _ _) ?e2 ?e3 ?e4 ?e5 ?_)
          case e2 => simp [Value.oneCell']
          case e3 => rw [HL.out]; unfold maxLen; omega
          case e4 => rw [HL.out]; omega
          case e5 => simp; omega
          intro v' w8 hown' hgrow hnil hat
          have R := pair_grown (a := k) (b := y) HC.out HR.out (by simpa using hown') hgrow
          rw [← HY.out, ← rndTo_succ] at R
          have H1 := Lib.hid R
          clear hgrow hnil hat hown' R
          go_wp2_with fail
          go_roundw
          case rel => exact ⟨k + 1, by omega, by go_num, H1.out.2, H1.out.1⟩
          case measure => simp [intOf]; omega
        · have hkn : k = n := by omega
          rw [hkn] at hR
          have hlc : n = l ∧ n ≤ c := by
            rcases hR.2 with ⟨e, h0⟩ | ⟨g, cap, cur, e, _, _, h, _⟩
            · rw [rndTo_len] at h0; omega
            · cases e
              exact ⟨(rndTo_len n n).symm, by rw [rndTo_len] at h; exact h⟩
          obtain ⟨hl, hcap⟩ := hlc
          subst hl
          have hkl : ¬ (k : Int) < n := by omega
          have HR := Lib.hid hR
          have HC := Lib.hid (hC7.trans hC)
          have HSZ := Lib.hid hC.size
          have HSZ7 := Lib.hid hC7.size
          clear hR hkn hk hC hC7
          obtain ⟨m, rfl⟩ : ∃ m, n = m + 1 := ⟨n - 1, by omega⟩
          have hwm : IntKind.i64.wrap ((m : Int) + 1 - 1) = m := by rw [show (m : Int) + 1 - 1 = m by omega]; exact IntWalk.i64_in _ ⟨by omega, by omega⟩
          have hwm2 : IntKind.i64.wrap (m : Int) = m := IntWalk.i64_in _ ⟨by omega, by omega⟩
          have hmc : (m : Int) ≤ c := by omega
          have hm0 : ¬ (m : Int) < 0 := by omega
          have hnm := fun (W : World) => names_own (m + 1) (by omega) W
          have hwk := fun (W : World) (hW : Chg (fun _ => False) w W) => works_some W (HT.out.chg hW (fun x => x))
          go_upto_region 19 with fail
          refine region_lone (fun (_ : World) => True) [] (by kernel_rfl) ?_
          have hSz : (fun (_ : World) => True) wr.drew := trivial
          have hCz := HC.out.drew
          have HSZ := Lib.hid (show w7.heap.size ≤ wr.drew.heap.size from HSZ.out)
          have HRz := Lib.hid (own_keep (W' := wr.drew) HR.out (fun _ _ _ _ _ h => h))
          refine take_one 0 hSz rfl (by kernel_rfl) rfl ?_
          apply Exists.intro
          refine And.intro (fun W' hS' => ?y0) (And.intro (fun _ _ _ h => h) ?_)
          case y0 => have _d := hS'; go_simp; rfl
          refine take_one 2 hSz rfl (by kernel_rfl) rfl ?_
          apply Exists.intro
          refine And.intro (fun W' hS' => ?y2) (And.intro (fun _ _ _ h => h) ?_)
          case y2 => have _d := hS'; go_simp; rfl
          refine only_one 1 rfl (by kernel_rfl) rfl ?_
          try go_simp
          refine (hnm _).mono ?_
          rintro e1 x1 ⟨vn7, rfl, hN1, hE1⟩
          have hC1 := hCz.trans hE1
          try refine ⟨trivial, ?_⟩
          refine only_one 3 rfl (by kernel_rfl) rfl ?_
          try go_simp
          refine (fails_names (n := m + 1) HT.out hC1 (by omega) (own_strs hN1) ((own_pairs HRz.out).chg hE1) (by rw [rndTo_len]; omega) (rnd_in m) (by decide) (round_no (m + 1) (by omega) (by omega))).mono ?_
          rintro e3 x3 ⟨rfl, hE3⟩
          have hC3 := hC1.trans hE3
          have hr3 := own_keep HRz.out (fun k c t f _ hk => (hE1.trans hE3).keep hk (fun x => x))
          rw [rndTo_len] at hr3
          have HR3 := Lib.hid hr3
          clear hr3
          try refine ⟨trivial, ?_⟩
          refine take_one 4 trivial rfl (by kernel_rfl) rfl ?_
          apply Exists.intro
          refine And.intro (fun W' hS' => ?y4) (And.intro (fun _ _ _ h => h) ?_)
          case y4 => have _d := hS'; go_simp; rfl
          try go_simp
          refine take_one 5 trivial rfl (by kernel_rfl) (by kernel_rfl) ?_
          apply Exists.intro
          refine And.intro (fun W' hS' => ?y5) (And.intro (fun _ _ _ h => h) ?_)
          case y5 => have _d := hS'; go_simp; rfl
          refine take_one 7 trivial rfl (by kernel_rfl) (by kernel_rfl) ?_
          apply Exists.intro
          refine And.intro (fun W' hS' => ?y7) (And.intro (fun _ _ _ h => h) ?_)
          case y7 => have _d := hS'; go_simp; rfl
          refine take_one 8 trivial rfl (by kernel_rfl) (by kernel_rfl) ?_
          apply Exists.intro
          refine And.intro (fun W' hS' => ?y8) (And.intro (fun _ _ _ h => h) ?_)
          case y8 => have _d := hS'; go_simp; rfl
          refine take_one 9 trivial rfl (by kernel_rfl) (by kernel_rfl) ?_
          apply Exists.intro
          refine And.intro (fun W' hS' => ?y9) (And.intro (fun _ _ _ h => h) ?_)
          case y9 => have _d := hS'; go_simp; rfl
          refine take_one 10 trivial rfl (by kernel_rfl) (by kernel_rfl) ?_
          apply Exists.intro
          refine And.intro (fun W' hS' => ?y10) (And.intro (fun _ _ _ h => h) ?_)
          case y10 => have _d := hS'; go_simp; rfl
          refine take_one 11 trivial rfl (by kernel_rfl) (by kernel_rfl) ?_
          apply Exists.intro
          refine And.intro (fun W' hS' => ?y11) (And.intro (fun _ _ _ h => h) ?_)
          case y11 => have _d := hS'; go_simp; rfl
          refine one_of_two 6 12 rfl rfl (by kernel_rfl) (by kernel_rfl) (by kernel_rfl) ?_ ?_
          · try go_simp
            refine (hnm _).mono ?_
            rintro e6 x6 ⟨vn8, rfl, hN6, hE6⟩
            try refine ⟨trivial, ?_⟩
            refine only_one 12 rfl (by kernel_rfl) (by kernel_rfl) ?_
            try go_simp
            have hX : Chg (fun _ => False) x3 (x6.alloc (.cells #[.int .i64 1, .int .i64 1] 24)) := hE6.alloc _
            have hNX := own_keep hN6 (W' := x6.alloc (.cells #[.int .i64 1, .int .i64 1] 24)) (fun k c t f _ hk => heap_alloc hk)
            have hcX := two_new x6 (.int .i64 1) (.int .i64 1) 24
            have hgX : x3.heap.size ≤ x6.heap.size := hE6.size
            generalize (x6.alloc (.cells #[.int .i64 1, .int .i64 1] 24)) = xX at *
            generalize x6.heap.size = gB at *
            try refine ⟨trivial, ?_⟩
            refine only_one 13 rfl (by kernel_rfl) (by kernel_rfl) ?_
            have hRX := own_take (own_keep HR3.out (fun k c t f _ hk => hX.keep hk (fun x => x)) : xX.ownsRow w7.heap.size 24 2 (.slice A (m + 1) c) (m + 1) (prs (rndTo (m + 1) (m + 1))))
            rw [prs_take, rnd_chain] at hRX
            obtain ⟨v', x13, hr, hown', hgrow, hnil, hat⟩ := run_append_own_at (P := Tryd.prog) xX w7.heap.size 23 23 24 i0 (.agg #[.int .i64 0, .int .i64 0]) 2 16 Tryd.underlying23 hi hz0 hz1 hz2 rfl (by decide) _ _ _ hRX ⟨gB, 0, none⟩ 1 1 [.int .i64 1, .int .i64 1] rfl hcX (by simp [Value.oneCell']) (by unfold maxLen; omega) (by omega) (by have := hX.size; have := hE3.size; have := hE1.size; have := HSZ.out; omega)
            refine Lib.wp_append_run _ (.tmp 87) (.tmp 89) 23 23 rfl _ _ rfl rfl v' x13 hr ?_
            have hC13 : Chg (fun _ => False) w x13 := (hC3.trans hX).grown hgrow (fun j e => .inr (by have := own_block hRX e; have := HSZ7.out; omega))
            have hP13 : InPairs x13 v' (toP (chainL m ++ [(1, 1)])) := own_pairs (by rw [prs_snoc, List.length_append, chainL_len]; exact hown')
            have hN13 : InStrs x13 vn8 (namesL (m + 1)) := own_strs (own_keep1 hNX fun k c t f hk hh => grown_keep hgrow hh (fun e => by
              have h1 := own_block hNX hk
              obtain ⟨c', t', f', h2⟩ := own_cells HR3.out (k := k) (by rw [← e]; cases A <;> rfl)
              have := lt_of_heap h2
              omega))
            refine ⟨fun _ => trivial, ?_⟩
            refine only_one 14 rfl (by kernel_rfl) (by kernel_rfl) ?_
            try go_simp
            refine (fails_names (n := m + 1) HT.out hC13 (by omega) hN13 hP13 (by rw [List.length_append, chainL_len]; simp; omega) (chain_in m (by omega)) (by decide) (by have := round_no2 (m + 1) (by omega) (by omega); rwa [Nat.add_sub_cancel] at this)).mono ?_
            rintro e14 x14 ⟨rfl, hE14⟩
            try refine ⟨trivial, ?_⟩
            refine take_one 15 trivial rfl (by kernel_rfl) rfl ?_
            apply Exists.intro
            refine And.intro (fun W' hS' => ?ya15) (And.intro (fun _ _ _ h => h) ?_)
            case ya15 => have _d := hS'; go_simp; rfl
            refine take_one 16 trivial rfl (by kernel_rfl) rfl ?_
            apply Exists.intro
            refine And.intro (fun W' hS' => ?ya16) (And.intro (fun _ _ _ h => h) ?_)
            case ya16 => have _d := hS'; go_simp; rfl
            try go_simp
            refine only_one 17 rfl (by kernel_rfl) (by kernel_rfl) ?_
            try go_simp
            refine (hwk _ (hC13.trans hE14)).mono ?_
            rintro e17 x17 ⟨rfl, hE17⟩
            try refine ⟨trivial, ?_⟩
            refine take_one 18 trivial rfl (by kernel_rfl) rfl ?_
            apply Exists.intro
            refine And.intro (fun W' hS' => ?ya18) (And.intro (fun _ _ _ h => h) ?_)
            case ya18 => have _d := hS'; go_simp; rfl
            refine take_one 19 trivial rfl (by kernel_rfl) rfl ?_
            apply Exists.intro
            refine And.intro (fun W' hS' => ?ya19) (And.intro (fun _ _ _ h => h) ?_)
            case ya19 => have _d := hS'; go_simp; rfl
            try go_simp
            refine all_done (by kernel_rfl) ?_ _
            go_wp2_with fail
            go_ret
            exact ⟨rfl, (hC13.trans hE14).trans hE17⟩
          · try go_simp
            try refine ⟨trivial, ?_⟩
            refine only_one 6 rfl (by kernel_rfl) (by kernel_rfl) ?_
            try go_simp
            have hcY := two_new x3 (.int .i64 1) (.int .i64 1) 24
            have hY : Chg (fun _ => False) x3 (x3.alloc (.cells #[.int .i64 1, .int .i64 1] 24)) := (Chg.refl _ _).alloc _
            refine (hnm _).mono ?_
            rintro e6 xX ⟨vn8, rfl, hN6, hE6⟩
            have hX := hY.trans hE6
            have hNX := own_mono hN6 hY.size
            have hcX : ∀ j u, [Value.int .i64 1, .int .i64 1][j]? = some u → xX.cell? ((⟨x3.heap.size, 0, none⟩ : Addr).add j) = some u := fun j u hj => hE6.cell (hcY j u hj) (fun x => x)
            generalize hgB : x3.heap.size = gB at hcX ⊢
            try refine ⟨trivial, ?_⟩
            refine only_one 13 rfl (by kernel_rfl) (by kernel_rfl) ?_
            have hRX := own_take (own_keep HR3.out (fun k c t f _ hk => hX.keep hk (fun x => x)) : xX.ownsRow w7.heap.size 24 2 (.slice A (m + 1) c) (m + 1) (prs (rndTo (m + 1) (m + 1))))
            rw [prs_take, rnd_chain] at hRX
            obtain ⟨v', x13, hr, hown', hgrow, hnil, hat⟩ := run_append_own_at (P := Tryd.prog) xX w7.heap.size 23 23 24 i0 (.agg #[.int .i64 0, .int .i64 0]) 2 16 Tryd.underlying23 hi hz0 hz1 hz2 rfl (by decide) _ _ _ hRX ⟨gB, 0, none⟩ 1 1 [.int .i64 1, .int .i64 1] rfl hcX (by simp [Value.oneCell']) (by unfold maxLen; omega) (by omega) (by have := hX.size; have := hE3.size; have := hE1.size; have := HSZ.out; omega)
            refine Lib.wp_append_run _ (.tmp 87) (.tmp 89) 23 23 rfl _ _ rfl rfl v' x13 hr ?_
            have hC13 : Chg (fun _ => False) w x13 := (hC3.trans hX).grown hgrow (fun j e => .inr (by have := own_block hRX e; have := HSZ7.out; omega))
            have hP13 : InPairs x13 v' (toP (chainL m ++ [(1, 1)])) := own_pairs (by rw [prs_snoc, List.length_append, chainL_len]; exact hown')
            have hN13 : InStrs x13 vn8 (namesL (m + 1)) := own_strs (own_keep1 hNX fun k c t f hk hh => grown_keep hgrow hh (fun e => by
              have h1 := own_block hNX hk
              obtain ⟨c', t', f', h2⟩ := own_cells HR3.out (k := k) (by rw [← e]; cases A <;> rfl)
              have := lt_of_heap h2
              omega))
            refine ⟨fun _ => trivial, ?_⟩
            refine only_one 14 rfl (by kernel_rfl) (by kernel_rfl) ?_
            try go_simp
            refine (fails_names (n := m + 1) HT.out hC13 (by omega) hN13 hP13 (by rw [List.length_append, chainL_len]; simp; omega) (chain_in m (by omega)) (by decide) (by have := round_no2 (m + 1) (by omega) (by omega); rwa [Nat.add_sub_cancel] at this)).mono ?_
            rintro e14 x14 ⟨rfl, hE14⟩
            try refine ⟨trivial, ?_⟩
            refine take_one 15 trivial rfl (by kernel_rfl) rfl ?_
            apply Exists.intro
            refine And.intro (fun W' hS' => ?yb15) (And.intro (fun _ _ _ h => h) ?_)
            case yb15 => have _d := hS'; go_simp; rfl
            refine take_one 16 trivial rfl (by kernel_rfl) rfl ?_
            apply Exists.intro
            refine And.intro (fun W' hS' => ?yb16) (And.intro (fun _ _ _ h => h) ?_)
            case yb16 => have _d := hS'; go_simp; rfl
            try go_simp
            refine only_one 17 rfl (by kernel_rfl) (by kernel_rfl) ?_
            try go_simp
            refine (hwk _ (hC13.trans hE14)).mono ?_
            rintro e17 x17 ⟨rfl, hE17⟩
            try refine ⟨trivial, ?_⟩
            refine take_one 18 trivial rfl (by kernel_rfl) rfl ?_
            apply Exists.intro
            refine And.intro (fun W' hS' => ?yb18) (And.intro (fun _ _ _ h => h) ?_)
            case yb18 => have _d := hS'; go_simp; rfl
            refine take_one 19 trivial rfl (by kernel_rfl) rfl ?_
            apply Exists.intro
            refine And.intro (fun W' hS' => ?yb19) (And.intro (fun _ _ _ h => h) ?_)
            case yb19 => have _d := hS'; go_simp; rfl
            try go_simp
            refine all_done (by kernel_rfl) ?_ _
            go_wp2_with fail
            go_ret
            exact ⟨rfl, (hC13.trans hE14).trans hE17⟩
end Go.Proofs.YtfmacnkjhboefaaDoor
