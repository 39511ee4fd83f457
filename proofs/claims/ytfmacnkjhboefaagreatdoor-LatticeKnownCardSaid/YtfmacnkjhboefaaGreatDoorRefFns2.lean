/- The document's lattice: Down, Code, Decode, Find; JoinAll of both. -/
import Derived.Test.YtfmacnkjhboefaaGreatDoorRefFns
namespace Go.Proofs.YtfmacnkjhboefaaGreatDoor
set_option linter.unusedVariables false
set_option linter.unusedSimpArgs false
open Go Go.RowKit Go.Proofs Go.Shelf Go.Sort
theorem nints_snoc (l : List Nat) (a : Nat) : nints (l ++ [a]) = nints l ++ [.int .i64 (a : Int)] := by simp [nints]
theorem els_succ (k : Nat) (p : Nat → Bool) : els (k + 1) p = if p k = true then els k p ++ [k] else els k p := by
  unfold els
  rw [List.range_succ, List.filter_append]
  by_cases h : p k = true <;> simp [h]
theorem down_row {n : Nat} {R : Nat → Nat → Bool} (x : Int) : els n (fun b => atM n R (b : Int) x) = rowOf n (flp R) x := by
  unfold rowOf
  by_cases hx : 0 ≤ x ∧ x < n
  · rw [if_pos hx]
    unfold els
    refine List.filter_congr fun b hb => ?_
    obtain ⟨a, rfl⟩ := Int.eq_ofNat_of_zero_le hx.1
    rw [atM_nat (List.mem_range.1 hb) (by omega)]
    rfl
  · rw [if_neg hx]
    unfold els
    rw [List.filter_eq_nil_iff]
    intro b hb
    unfold atM
    rw [decide_eq_false hx]
    simp
set_option maxRecDepth 100000 in
set_option maxHeartbeats 8000000 in
theorem rDown {w : World} {la bo : Nat} {N : List (List UInt8)} {R : Nat → Nat → Bool} (h : RefV w la bo N R) (x : Int) :
    Calls Tryz.prog 65 #[refp bo, .int .i64 x] w fun e w' => ∃ v, e = .returned v ∧ HasInts w' v (toI (rowOf N.length (flp R) x)) ∧ Chg (fun _ => False) w w' := by
  obtain ⟨i0, hi, hz0, hz1, hz2⟩ := info_parts infoInt
  obtain ⟨n1, n10⟩ := h.n10
  have hat := h.at'
  have hmany := h.many
  have HM := Lib.hid hmany
  rw [← down_row]
  generalize hn : N.length = n at *
  have HAT := Lib.hid hat
  have HN := Lib.hid hn
  clear h hat hmany hn
  unfold refp
  go_enter Tryz.func65, Tryz.ntmps65
  go_upto_block 0 with fail
  go_wp2_with fail
  go_loopw [5, 6] (fun t i wr => ∃ k : Nat, k ≤ n ∧ i = .int .i64 k ∧ wr.ownsRow w.heap.size 3 1 t (els k (fun b => atM n R (b : Int) x)).length (nints (els k (fun b => atM n R (b : Int) x))) ∧ Chg (fun _ => False) w wr) (fun _ i _ => n - (intOf i).toNat)
  case atStart => exact ⟨0, by omega, rfl, World.ownsRow_nil _ _ _ _, Chg.refl _ _⟩
  case round =>
    obtain ⟨k, k0, rfl, hR, hC⟩ := hrel
    obtain ⟨A, l, c, rfl⟩ := own_slice hR
    have z1 := hC.cell HM.out (fun x => x)
    by_cases hk : k < n
    · have hw3 : IntKind.i64.wrap ((k : Int) + 1) = k + 1 := IntWalk.i64_in _ ⟨by omega, by omega⟩
      have ha := HAT.out wr hC (k : Int) x
      have hs := els_succ k (fun b => atM n R (b : Int) x)
      have hlen := els_length k (fun b => atM n R (b : Int) x)
      obtain ⟨r, hr⟩ : ∃ r, atM n R (k : Int) x = r := ⟨_, rfl⟩
      rw [hr] at ha
      simp only [hr] at hs
      have HS := Lib.hid hs
      have HR := Lib.hid hR
      have HC := Lib.hid hC
      clear hr hs hR hC
      cases r with
      | true =>
        go_upto_region 6 with (first | (go_at_call 62; refine ha.mono ?_; rintro e w2 ⟨rfl, hC2⟩))
        have hC2' := HC.out.trans hC2
        have hsz := hC2'.size
        have HR2 := Lib.hid (own_keep (W' := w2) HR.out (fun k c t f _ hk => hC2.keep hk (fun x => x)))
        go_wp2_with (at_builtin; refine wpList_append_own_at _ rfl _ _ 42 rfl w.heap.size 3 i0 (.int .i64 0) 1 8 Tryz.underlying42 hi hz0 hz1 hz2 rfl (by decide) _ _ _ rfl (HR2.out.alloc _) ⟨w2.heap.size, 0, none⟩ 1 1 [.int .i64 (k : Int)] rfl rfl (one_new _ _ _) ?c2 ?c3 ?c4 ?c5 ?_)
        case c2 => intro u hu; simp at hu; subst hu; rfl
        case c3 => unfold maxLen; omega
        case c4 => omega
        case c5 => simp; omega
        intro v' w3 hown' hgrow hnil hat'
        have hC3 : Chg (fun _ => False) w w3 := (hC2'.alloc _).grown hgrow (fun j e => .inr (own_block HR2.out e))
        have HN3 := Lib.hid hown'
        obtain ⟨A3, l3, c3, rfl⟩ := own_slice hown'
        clear hown' hgrow hnil hat'
        go_wp2_with fail
        go_roundw
        case rel =>
          refine ⟨k + 1, by omega, by go_num, ?_, hC3⟩
          have hs := HS.out
          simp only [if_true] at hs
          rw [hs, nints_snoc, List.length_append]
          exact HN3.out
        case measure => simp [intOf]; omega
      | false =>
        go_wp2_with (first | (go_at_call 62; refine ha.mono ?_; rintro e w2 ⟨rfl, hC2⟩))
        go_roundw
        case rel =>
          refine ⟨k + 1, by omega, by go_num, ?_, HC.out.trans hC2⟩
          have hs := HS.out
          simp only [Bool.false_eq_true, if_false] at hs
          rw [hs]
          exact own_keep HR.out (fun k c t f _ hk => hC2.keep hk (fun x => x))
        case measure => simp [intOf]; omega
    · have hkn : k = n := by omega
      rw [hkn] at hR
      have HR := Lib.hid hR
      clear hR hkn
      go_wp2_with fail
      go_ret
      exact ⟨_, rfl, own_ints HR.out, hC⟩
def sumL (l : List Nat) : Nat := l.foldl (fun x b => x + 2 ^ b) 0
theorem sumL_els (n : Nat) (p : Nat → Bool) : sumL (els n p) = msk n p ∧ msk n p < 2 ^ n := by
  refine ⟨?_, msk_lt n p⟩
  induction n with
  | zero => rfl
  | succ n ih =>
    rw [els_succ]
    have hm : msk (n + 1) p = msk n p + if p n = true then 2 ^ n else 0 := by
      have hlt := msk_lt n p
      symm
      refine eq_mk (n + 1) _ p fun j => ?_
      by_cases hp : p n = true
      · rw [if_pos hp]
        by_cases hj : j = n
        · subst hj
          rw [Nat.add_comm, Nat.testBit_two_pow_add_eq, msk_bit]
          simp [hp]
        · by_cases hjn : j < n
          · rw [Nat.add_comm, Nat.testBit_two_pow_add_gt hjn, msk_bit]
            have : j < n + 1 := by omega
            simp [hjn, this]
          · have h1 : ¬ j < n + 1 := by omega
            have h2 : msk n p + 2 ^ n < 2 ^ j := by
              have : 2 ^ (n + 1) ≤ 2 ^ j := Nat.pow_le_pow_right (by omega) (by omega)
              rw [Nat.pow_succ] at this
              omega
            rw [Nat.testBit_lt_two_pow h2]
            simp [h1]
      · rw [if_neg hp, Nat.add_zero, msk_bit]
        by_cases hj : j = n
        · subst hj
          simp [hp]
        · by_cases hjn : j < n
          · have : j < n + 1 := by omega
            simp [hjn, this]
          · have h1 : ¬ j < n + 1 := by omega
            simp [hjn, h1]
    rw [hm]
    by_cases hp : p n = true
    · rw [if_pos hp, if_pos hp, ← ih]
      unfold sumL
      rw [List.foldl_append]
      rfl
    · rw [if_neg hp, if_neg hp, Nat.add_zero]
      exact ih
theorem sumL_take (l : List Nat) (k : Nat) (hk : k < l.length) : sumL (l.take (k + 1)) = sumL (l.take k) + 2 ^ (l.getD k 0) := by
  unfold sumL
  rw [List.take_succ_eq_append_getElem hk, List.foldl_append]
  simp [List.getD, hk]
theorem sumL_mono (l : List Nat) (k : Nat) : sumL (l.take k) ≤ sumL l := by
  have key : ∀ (m : List Nat) (x : Nat), x ≤ m.foldl (fun x b => x + 2 ^ b) x := by
    intro m
    induction m with
    | nil => intro x; exact Nat.le_refl _
    | cons a m ih => intro x; rw [List.foldl_cons]; exact Nat.le_trans (Nat.le_add_right _ _) (ih _)
  unfold sumL
  have h := key (l.drop k) ((l.take k).foldl (fun x b => x + 2 ^ b) 0)
  rw [← List.foldl_append, List.take_append_drop] at h
  exact h
set_option maxRecDepth 100000 in
set_option maxHeartbeats 8000000 in
theorem rCode {w : World} {la bo : Nat} {N : List (List UInt8)} {R : Nat → Nat → Bool} (h : RefV w la bo N R) (x : Int) :
    Calls Tryz.prog 40 #[refp la, .int .i64 x] w fun e w' => e = .returned (.int .i64 (lCode N.length R x)) ∧ Chg (fun _ => False) w w' := by
  have hd := rDown h x
  have z1 := h.ord
  obtain ⟨n1, n10⟩ := h.n10
  have hval : lCode N.length R x = (sumL (rowOf N.length (flp R) x) : Nat) := by
    unfold lCode rowOf
    by_cases hx : inB N.length x
    · rw [if_pos hx, if_pos (show 0 ≤ x ∧ x < (N.length : Int) from hx), (sumL_els _ _).1]
    · rw [if_neg hx, if_neg (show ¬ (0 ≤ x ∧ x < (N.length : Int)) from hx)]; rfl
  have hbig : sumL (rowOf N.length (flp R) x) < 1024 := by
    unfold rowOf
    split
    · rw [(sumL_els _ _).1]
      exact Nat.lt_of_lt_of_le (sumL_els _ _).2 (Nat.pow_le_pow_right (by omega) n10 : 2 ^ N.length ≤ 2 ^ 10)
    · decide
  have hmem : ∀ y ∈ rowOf N.length (flp R) x, y < 10 := by
    unfold rowOf
    split
    · intro y hy; have := (mem_els.1 hy).1; omega
    · intro y hy; cases hy
  have hlen := rowOf_len N.length (flp R) x
  rw [toI_len] at hlen
  rw [hval]
  generalize rowOf N.length (flp R) x = l at *
  have HM := Lib.hid hmem
  clear h hmem hval
  unfold refp at *
  go_enter Tryz.func40, Tryz.ntmps40
  go_upto_block 0 with (first | (go_at_call 65; refine hd.mono ?_; rintro e w1 ⟨v1, rfl, hI, hC⟩; obtain ⟨A1, c1, rfl⟩ := hI.slice; rw [toI_len]))
  have HI := Lib.hid hI
  clear hI hd
  go_wp2_with fail
  go_loop [5, 7] (fun t i => ∃ k : Nat, k ≤ l.length ∧ i = .int .i64 k ∧ t = .int .i64 (sumL (l.take k) : Nat)) (fun _ i => l.length - (intOf i).toNat)
  case atStart => exact ⟨0, by omega, rfl, rfl⟩
  case round =>
    obtain ⟨k, k0, rfl, rfl⟩ := hrel
    by_cases hk : k < l.length
    · have hw3 : IntKind.i64.wrap ((k : Int) + 1) = k + 1 := IntWalk.i64_in _ ⟨by omega, by omega⟩
      rcases HI.out with ⟨e0, e1⟩ | ⟨g1, cap1, e0, hcells⟩
      · have : l.length = 0 := by rw [← toI_len, e1]; rfl
        omega
      · cases e0
        have c0 := hcells k (by rw [toI_len]; exact hk)
        have e2 : (toI l).getD k 0 = ((l.getD k 0 : Nat) : Int) := by simp [toI, List.getD, hk]
        rw [e2] at c0
        have hy := HM.out (l.getD k 0) (by rw [List.getD_eq_getElem?_getD, List.getElem?_eq_getElem hk]; exact List.getElem_mem hk)
        have hst := sumL_take l k hk
        have hle := sumL_mono l (k + 1)
        clear hcells e2
        generalize l.getD k 0 = y at *
        have hsh := shl_i64 y (by omega)
        have h2y : 2 ^ y ≤ 2 ^ 9 := Nat.pow_le_pow_right (by omega) (by omega)
        obtain ⟨q1, hq1⟩ : ∃ q1, sumL (l.take k) = q1 := ⟨_, rfl⟩
        rw [hq1] at hst ⊢
        have hor : IntKind.i64.wrap ((q1 : Nat) + (2 : Int) ^ y) = ((q1 + 2 ^ y : Nat) : Int) := by
          rw [show ((2 : Int) ^ y) = ((2 ^ y : Nat) : Int) by simp]
          generalize 2 ^ y = z at *
          rw [IntWalk.i64_in _ ⟨by omega, by omega⟩]
          simp
        have hor2 : IntKind.i64.wrap ((q1 : Nat) + ((2 ^ y : Nat) : Int)) = ((q1 + 2 ^ y : Nat) : Int) := by
          generalize 2 ^ y = z at *
          rw [IntWalk.i64_in _ ⟨by omega, by omega⟩]
          simp
        have HST := Lib.hid hst
        have hy0 : ¬ (y : Int) < 0 := by omega
        clear hst hq1 h2y hle
        generalize hq2 : q1 + 2 ^ y = q2 at hor hor2
        have HQ2 := Lib.hid hq2
        clear hq2
        go_wp2_with fail
        go_round
        case rel => exact ⟨k + 1, by omega, by go_num, by rw [HST.out, HQ2.out]⟩
        case measure => simp [intOf]; omega
    · have hkn : k = l.length := by omega
      have HN := Lib.hid hkn
      clear hkn
      go_wp2_with fail
      go_ret
      exact ⟨by rw [HN.out, List.take_length]; rfl, hC⟩
end Go.Proofs.YtfmacnkjhboefaaGreatDoor
