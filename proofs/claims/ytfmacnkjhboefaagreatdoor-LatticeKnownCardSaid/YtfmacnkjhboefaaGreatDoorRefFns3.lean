/- The document's lattice: Find, Decode; JoinAll of both. -/
import Derived.Test.YtfmacnkjhboefaaGreatDoorRefFns2
namespace Go.Proofs.YtfmacnkjhboefaaGreatDoor
set_option linter.unusedVariables false
set_option linter.unusedSimpArgs false
open Go Go.RowKit Go.Proofs Go.Shelf Go.Sort
theorem findL_hit {N : List (List UInt8)} {s : List UInt8} {k : Nat} (hk : k < N.length) (h : N.getD k [] = s) (hne : ∀ j, j < k → N.getD j [] ≠ s) : findL N s = k := by
  have hg : ∀ j, j < N.length → (N.map bs).getD j ByteArray.empty = bs (N.getD j []) := fun j hj => by simp [List.getD, hj]
  have := Lib.idxOfS_hit (N.map bs) (N.map bs).length k (bs s) (by simpa using hk) (Nat.le_refl _) (by rw [hg k hk, h]) (fun j hj e => by
    rw [hg j (by omega)] at e
    exact hne j hj (bs_inj e))
  rw [List.take_length] at this
  exact this
theorem findL_none {N : List (List UInt8)} {s : List UInt8} (hne : ∀ j, j < N.length → N.getD j [] ≠ s) : findL N s = -1 := by
  have hg : ∀ j, j < N.length → (N.map bs).getD j ByteArray.empty = bs (N.getD j []) := fun j hj => by simp [List.getD, hj]
  have := Lib.idxOfS_miss (N.map bs) (N.map bs).length (bs s) (fun j hj e => by
    have hj' : j < N.length := by simpa using hj
    rw [hg j hj'] at e
    exact hne j hj' (bs_inj e))
  rw [List.take_length] at this
  exact this
set_option maxRecDepth 100000 in
set_option maxHeartbeats 8000000 in
theorem rFind {w : World} {la bo : Nat} {N : List (List UInt8)} {R : Nat → Nat → Bool} (h : RefV w la bo N R) (s : List UInt8) :
    Calls Tryz.prog 10 #[refp la, .string (bs s)] w fun e w' => e = .returned (.tuple #[.int .i64 (max (findL N s) 0), .bool (decide (0 ≤ findL N s))]) ∧ w' = w := by
  obtain ⟨g, cap, z0, hN⟩ := h.nam
  obtain ⟨n1, n10⟩ := h.n10
  have HN := Lib.hid hN
  obtain ⟨ra, hra⟩ : ∃ ra, max (findL N s) 0 = ra := ⟨_, rfl⟩
  obtain ⟨rb, hrb⟩ : ∃ rb, decide (0 ≤ findL N s) = rb := ⟨_, rfl⟩
  rw [hra, hrb]
  have HA := Lib.hid hra
  have HB := Lib.hid hrb
  obtain ⟨t, ht⟩ : ∃ t, bs s = t := ⟨_, rfl⟩
  rw [ht]
  have HT := Lib.hid ht
  clear h hN hra hrb ht
  unfold refp
  go_enter Tryz.func10, Tryz.ntmps10
  go_wp2_with fail
  go_loop [6] (fun i => ∃ k : Nat, i = .int .i64 k ∧ k ≤ N.length ∧ Hid (∀ j, j < k → N.getD j [] ≠ s)) (fun i => N.length - (intOf i).toNat)
  case atStart => exact ⟨0, rfl, by omega, Lib.hid (fun j h => by omega)⟩
  case round =>
    obtain ⟨k, rfl, k0, HK⟩ := hrel
    by_cases hk : k < N.length
    · have hw3 : IntKind.i64.wrap ((k : Int) + 1) = k + 1 := IntWalk.i64_in _ ⟨by omega, by omega⟩
      have z1 := HN.out k hk
      have hbq := beq_bs (N.getD k []) s
      rw [HT.out] at hbq
      obtain ⟨r, hr⟩ : ∃ r, decide (N.getD k [] = s) = r := ⟨_, rfl⟩
      rw [hr] at hbq
      have H1 := Lib.hid hr
      clear hr
      generalize bs (N.getD k []) = u at *
      cases r with
      | true =>
        have hf := findL_hit hk (of_decide_eq_true H1.out) HK.out
        have HF := Lib.hid hf
        clear hf
        go_wp2_with fail
        go_ret2
        exact ⟨by rw [← HA.out, ← HB.out, HF.out, show max (k : Int) 0 = k by omega, decide_eq_true (show (0 : Int) ≤ k by omega)]; rfl, rfl⟩
      | false =>
        go_wp2_with fail
        go_round
        case rel => exact ⟨k + 1, by go_num, by omega, Lib.hid (fun j hj => by
          by_cases e : j = k
          · subst e; exact of_decide_eq_false H1.out
          · exact HK.out j (by omega))⟩
        case measure => simp [intOf]; omega
    · have hf := findL_none (N := N) (s := s) (fun j hj => HK.out j (by omega))
      have HF := Lib.hid hf
      clear hf
      go_wp2_with fail
      go_ret2
      exact ⟨by rw [← HA.out, ← HB.out, HF.out]; rfl, rfl⟩
theorem RefV.same {w W : World} {la bo : Nat} {N : List (List UInt8)} {R : Nat → Nat → Bool} (h : RefV w la bo N R) (hw : Chg (fun _ => False) w W) (his : ∀ x : Int, Calls Tryz.prog 35 #[.pointer (some ⟨bo, 0, none⟩), .int .i64 x] W fun e w' => e = .returned (.bool (decide (inB N.length x))) ∧ w' = W) : RefV W la bo N R := by
  obtain ⟨g, cap, z0, hN⟩ := h.nam
  exact ⟨hw.cell h.ord (fun x => x), hw.cell h.many (fun x => x), h.n10, fun i j hi hj => hw.cell (h.le i j hi hj) (fun x => x), fun i j hi hj => hw.cell (h.jn i j hi hj) (fun x => x), fun i j hi hj => hw.cell (h.mt i j hi hj) (fun x => x), ⟨g, cap, hw.cell z0 (fun x => x), fun i hi => hw.cell (hN i hi) (fun x => x)⟩, h.po, his, fun W' hW' x y => h.at' W' (hw.trans hW') x y⟩
set_option maxRecDepth 100000 in
set_option maxHeartbeats 8000000 in
theorem rDecode {w : World} {base la : Nat} {N : List (List UInt8)} {R : Nat → Nat → Bool} (h : IsRef w base la N R) (code : Int) :
    Calls Tryz.prog 12 #[refp la, .int .i64 code] w fun e w' => e = .returned (.tuple #[.int .i64 (lDecA N.length R code), .int .i64 (lDecE N.length R code)]) ∧ Chg (fun _ => False) w w' := by
  have hc := fun (W : World) (hW : Chg (fun _ => False) w W) (a : Int) => (by
    obtain ⟨bo, hv⟩ := (h.same hW).v
    exact rCode hv a : Calls Tryz.prog 40 #[refp la, .int .i64 a] W fun e w' => e = .returned (.int .i64 (lCode N.length R a)) ∧ Chg (fun _ => False) W w')
  obtain ⟨bo, hv⟩ := h.v
  have z1 := hv.ord
  have z2 := hv.many
  obtain ⟨n1, n10⟩ := hv.n10
  have Z1 := Lib.hid z1
  have Z2 := Lib.hid z2
  have HC := Lib.hid hc
  obtain ⟨ra, hra⟩ : ∃ ra, lDecA N.length R code = ra := ⟨_, rfl⟩
  obtain ⟨re, hre⟩ : ∃ re, lDecE N.length R code = re := ⟨_, rfl⟩
  rw [hra, hre]
  have HA := Lib.hid hra
  have HE := Lib.hid hre
  clear h hv hra hre hc
  unfold refp at *
  go_enter Tryz.func12, Tryz.ntmps12
  go_wp2_with fail
  go_loopw [6] (fun i wr => ∃ k : Nat, i = .int .i64 k ∧ k ≤ N.length ∧ Chg (fun _ => False) w wr ∧ Hid (∀ j : Nat, j < k → lCode N.length R j ≠ code)) (fun i _ => N.length - (intOf i).toNat)
  case atStart => exact ⟨0, rfl, by omega, Chg.refl _ _, Lib.hid (fun j hj => by omega)⟩
  case round =>
    clear z1 z2
    obtain ⟨k, rfl, k0, hC, HK⟩ := hrel
    have z1 := hC.cell Z1.out (fun x => x)
    have z2 := hC.cell Z2.out (fun x => x)
    by_cases hk : k < N.length
    · have hw3 : IntKind.i64.wrap ((k : Int) + 1) = k + 1 := IntWalk.i64_in _ ⟨by omega, by omega⟩
      have hck := HC.out wr hC (k : Int)
      obtain ⟨q, hq⟩ : ∃ q, lCode N.length R k = q := ⟨_, rfl⟩
      rw [hq] at hck
      have HQ := Lib.hid hq
      clear hq
      by_cases he : q = code
      · have hd := lDec_hit hk (by rw [HQ.out]; exact he) HK.out
        have hda : lDecA N.length R code = k := by unfold lDecA; rw [hd]; omega
        have hde : lDecE N.length R code = 0 := by unfold lDecE; rw [hd, if_pos (by omega)]
        have HDA := Lib.hid hda
        have HDE := Lib.hid hde
        clear hd hda hde
        go_wp2_with (first | (go_at_call 40; refine hck.mono ?_; rintro e w2 ⟨rfl, hC2⟩))
        go_ret2
        exact ⟨by rw [← HA.out, ← HE.out, HDA.out, HDE.out]; rfl, hC.trans hC2⟩
      · have heb : (q == code) = false := by rw [beq_eq_false_iff_ne]; exact he
        have HNE := Lib.hid he
        clear he
        go_wp2_with (first | (go_at_call 40; refine hck.mono ?_; rintro e w2 ⟨rfl, hC2⟩))
        go_roundw
        case rel => exact ⟨k + 1, by go_num, by omega, hC.trans hC2, Lib.hid (fun j hj => by
          by_cases e : j = k
          · subst e; rw [HQ.out]; exact HNE.out
          · exact HK.out j (by omega))⟩
        case measure => simp [intOf]; omega
    · have hkn : k = N.length := by omega
      have hd := lDec_none (n := N.length) (R := R) (code := code) (fun j hj => HK.out j (by omega))
      have hda : lDecA N.length R code = 0 := by unfold lDecA; rw [hd]; rfl
      have hde : lDecE N.length R code = 4 := by unfold lDecE; rw [hd]; rfl
      have HDA := Lib.hid hda
      have HDE := Lib.hid hde
      clear hd hda hde hkn
      go_wp2_with fail
      go_ret2
      exact ⟨by rw [← HA.out, ← HE.out, HDA.out, HDE.out]; rfl, hC⟩
/-- the join of all -/
def lJoinAll (n : Nat) (R : Nat → Nat → Bool) (L : List Int) : Int := L.foldl (lJoin n R) (lastF n R 0 n)
theorem lJoinAll_take (n : Nat) (R : Nat → Nat → Bool) (L : List Int) (k : Nat) (hk : k < L.length) : lJoinAll n R (L.take (k + 1)) = lJoin n R (lJoinAll n R (L.take k)) (L.getD k 0) := by
  unfold lJoinAll
  rw [List.take_succ_eq_append_getElem hk, List.foldl_append]
  simp [List.getD, hk]
set_option maxRecDepth 100000 in
set_option maxHeartbeats 8000000 in
theorem lJoinAllA {w : World} {base la : Nat} {N : List (List UInt8)} {R : Nat → Nat → Bool} (h : IsLat w base la N R) (hn10 : N.length ≤ 10) {v : Value} {L : List Int} (hI : HasInts w v L) (hl : L.length ≤ 1000) :
    Calls Tryz.prog 22 #[latp la, v] w fun e w' => e = .returned (.int .i64 (lJoinAll N.length R L)) ∧ w' = w := by
  have hlo := lLow h
  have hjo := fun x y => lJoinA h hn10 x y
  obtain ⟨A, c, rfl⟩ := hI.slice
  have HI := Lib.hid hI
  obtain ⟨r0, hr0⟩ : ∃ r0, lJoinAll N.length R L = r0 := ⟨_, rfl⟩
  rw [hr0]
  have HR := Lib.hid hr0
  have h00 : lastF N.length R 0 N.length = lJoinAll N.length R (L.take 0) := rfl
  rw [h00] at hlo
  have HJ := Lib.hid hjo
  clear h hI hr0 h00 hjo
  unfold latp at *
  go_enter Tryz.func22, Tryz.ntmps22
  go_wp2_with (first | (go_at_call 16; refine hlo.mono ?_; rintro e w ⟨rfl, rfl⟩))
  go_loop [5, 12] (fun t i => ∃ k : Nat, i = .int .i64 k ∧ k ≤ L.length ∧ t = .int .i64 (lJoinAll N.length R (L.take k))) (fun _ i => L.length - (intOf i).toNat)
  case atStart => exact ⟨0, rfl, by omega, rfl⟩
  case round =>
    obtain ⟨k, rfl, k0, rfl⟩ := hrel
    by_cases hk : k < L.length
    · have hw3 : IntKind.i64.wrap ((k : Int) + 1) = k + 1 := IntWalk.i64_in _ ⟨by omega, by omega⟩
      rcases HI.out with ⟨e0, e1⟩ | ⟨g1, cap1, e0, hcells⟩
      · rw [e1] at hk; simp at hk
      · cases e0
        have c0 := hcells k hk
        have hst := lJoinAll_take N.length R L k hk
        have hj := HJ.out (lJoinAll N.length R (L.take k)) (L.getD k 0)
        rw [← hst] at hj
        have HST := Lib.hid hst
        clear hcells hst
        generalize hz1 : lJoinAll N.length R (L.take (k + 1)) = z1 at *
        generalize lJoinAll N.length R (L.take k) = z0 at *
        generalize L.getD k 0 = y at *
        have HZ := Lib.hid hz1
        clear hz1
        go_wp2_with (first | (go_at_call 18; refine hj.mono ?_; rintro e w ⟨rfl, rfl⟩))
        go_round
        case rel => exact ⟨k + 1, by go_num, by omega, by rw [HZ.out]⟩
        case measure => simp [intOf]; omega
    · have hkn : k = L.length := by omega
      have HN := Lib.hid hkn
      clear hkn
      go_wp2_with fail
      go_ret
      exact ⟨by rw [HN.out, List.take_length, HR.out]; rfl, rfl⟩
set_option maxRecDepth 100000 in
set_option maxHeartbeats 8000000 in
theorem rJoinAll {w : World} {la bo : Nat} {N : List (List UInt8)} {R : Nat → Nat → Bool} (h : RefV w la bo N R) {v : Value} {L : List Int} (hI : HasInts w v L) (hl : L.length ≤ 1000) :
    Calls Tryz.prog 47 #[refp la, v] w fun e w' => e = .returned (.int .i64 (lJoinAll N.length R L)) ∧ w' = w := by
  have hlo := rLow h
  have hjo := fun x y => rJoin h x y
  obtain ⟨A, c, rfl⟩ := hI.slice
  have HI := Lib.hid hI
  obtain ⟨r0, hr0⟩ : ∃ r0, lJoinAll N.length R L = r0 := ⟨_, rfl⟩
  rw [hr0]
  have HR := Lib.hid hr0
  have h00 : lastF N.length R 0 N.length = lJoinAll N.length R (L.take 0) := rfl
  rw [h00] at hlo
  have HJ := Lib.hid hjo
  clear h hI hr0 h00 hjo
  unfold refp at *
  go_enter Tryz.func47, Tryz.ntmps47
  go_wp2_with (first | (go_at_call 41; refine hlo.mono ?_; rintro e w ⟨rfl, rfl⟩))
  go_loop [5, 6] (fun t i => ∃ k : Nat, i = .int .i64 k ∧ k ≤ L.length ∧ t = .int .i64 (lJoinAll N.length R (L.take k))) (fun _ i => L.length - (intOf i).toNat)
  case atStart => exact ⟨0, rfl, by omega, rfl⟩
  case round =>
    obtain ⟨k, rfl, k0, rfl⟩ := hrel
    by_cases hk : k < L.length
    · have hw3 : IntKind.i64.wrap ((k : Int) + 1) = k + 1 := IntWalk.i64_in _ ⟨by omega, by omega⟩
      rcases HI.out with ⟨e0, e1⟩ | ⟨g1, cap1, e0, hcells⟩
      · rw [e1] at hk; simp at hk
      · cases e0
        have c0 := hcells k hk
        have hst := lJoinAll_take N.length R L k hk
        have hj := HJ.out (lJoinAll N.length R (L.take k)) (L.getD k 0)
        rw [← hst] at hj
        have HST := Lib.hid hst
        clear hcells hst
        generalize hz1 : lJoinAll N.length R (L.take (k + 1)) = z1 at *
        generalize lJoinAll N.length R (L.take k) = z0 at *
        generalize L.getD k 0 = y at *
        have HZ := Lib.hid hz1
        clear hz1
        go_wp2_with (first | (go_at_call 45; refine hj.mono ?_; rintro e w ⟨rfl, rfl⟩))
        go_round
        case rel => exact ⟨k + 1, by go_num, by omega, by rw [HZ.out]⟩
        case measure => simp [intOf]; omega
    · have hkn : k = L.length := by omega
      have HN := Lib.hid hkn
      clear hkn
      go_wp2_with fail
      go_ret
      exact ⟨by rw [HN.out, List.take_length, HR.out]; rfl, rfl⟩
end Go.Proofs.YtfmacnkjhboefaaGreatDoor
