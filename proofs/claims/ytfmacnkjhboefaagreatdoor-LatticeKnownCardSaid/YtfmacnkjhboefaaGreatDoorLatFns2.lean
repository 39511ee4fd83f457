/- lattice: Name, Find, Code, Decode. -/
import Derived.Test.YtfmacnkjhboefaaGreatDoorLatFns
namespace Go.Proofs.YtfmacnkjhboefaaGreatDoor
set_option linter.unusedVariables false
set_option linter.unusedSimpArgs false
open Go Go.RowKit Go.Proofs Go.Shelf Go.Sort
theorem lNameA {w : World} {base la : Nat} {N : List (List UInt8)} {R : Nat → Nat → Bool} (h : IsLat w base la N R) (x : Int) :
    Calls Tryz.prog 23 #[latp la, .int .i64 x] w fun e w' => e = .returned (.string (bs (lName N x))) ∧ w' = w := by
  have hx := lIs h x
  obtain ⟨b, bu, bd, cu, cd, g, cap, _, hO, hn, hL, hN, hg⟩ := h
  by_cases hp : inB N.length x
  · have e : lName N x = N.getD x.toNat [] := by unfold lName; rw [if_pos hp]
    rw [e]
    rw [decide_eq_true hp] at hx
    obtain ⟨a, rfl⟩ := Int.eq_ofNat_of_zero_le hp.1
    have ha : a < N.length := by have := hp.2; omega
    have z := hN a ha
    have z0 := hL.names
    simp only [Int.toNat_natCast]
    generalize bs (N.getD a []) = s at *
    clear e hO hL hN hg hp
    unfold latp at *
    go_enter Tryz.func23, Tryz.ntmps23
    go_wp2_with (first | (go_at_call 48; refine hx.mono ?_; rintro e w' ⟨rfl, rfl⟩))
    go_ret
    exact ⟨rfl, rfl⟩
  · have e : lName N x = [] := by unfold lName; rw [if_neg hp]
    rw [e]
    rw [decide_eq_false hp] at hx
    clear e hO hL hN hg hp
    unfold latp at *
    go_enter Tryz.func23, Tryz.ntmps23
    go_wp2_with (first | (go_at_call 48; refine hx.mono ?_; rintro e w' ⟨rfl, rfl⟩))
    go_ret
    exact ⟨rfl, rfl⟩
theorem mx2 (k k' : IntKind) (x y : Int) : Builtin.max2 (.int k x) (.int k' y) = pure (.int k (if x < y then y else x)) := by simp only [Builtin.max2, gt_iff_lt]
theorem mxs (ats : Array TypeId) (ty : TypeId) (a b : Value) : Builtin.max_ ats ty #[a, b] = (Builtin.max2 a b >>= fun s => pure s) := by simp only [Builtin.max_, List.foldlM_cons, List.foldlM_nil]
attribute [local go_sem] mx2 mxs
/-- where a text stands in a list -/
def findL (N : List (List UInt8)) (s : List UInt8) : Int := Lib.idxOfS (N.map bs) (bs s)
theorem lFind {w : World} {base la : Nat} {N : List (List UInt8)} {R : Nat → Nat → Bool} (h : IsLat w base la N R) (hl : N.length ≤ 10) (s : List UInt8) :
    Calls Tryz.prog 9 #[latp la, .string (bs s)] w fun e w' => e = .returned (.tuple #[.int .i64 (max (findL N s) 0), .bool (decide (0 ≤ findL N s))]) ∧ w' = w := by
  obtain ⟨b, bu, bd, cu, cd, g, cap, _, hO, hn, hL, hN, hg⟩ := h
  have hi := Tryz.slices_Index_string g 0 N.length cap (N.map bs) (bs s) w (by simp) (by omega) (fun j hj => by
    simp at hj
    rw [Nat.zero_add, hN j hj]
    simp [List.getD, hj])
  rw [List.take_of_length_le (by simp)] at hi
  have z0 := hL.names
  unfold findL
  generalize Lib.idxOfS (N.map bs) (bs s) = k at *
  generalize bs s = t at *
  clear hO hL hN hg
  unfold latp
  by_cases hk : k < 0
  · have e1 : max k 0 = 0 := by omega
    have e2 : decide (0 ≤ k) = false := decide_eq_false (by omega)
    rw [e1]
    clear e1 e2
    go_enter Tryz.func9, Tryz.ntmps9
    go_wp2_with (first | (go_at_call 39; refine hi.mono ?_; rintro e w' ⟨rfl, rfl⟩))
    go_ret2
    exact ⟨rfl, rfl⟩
  · have e1 : max k 0 = k := by omega
    have e2 : decide (0 ≤ k) = true := decide_eq_true (by omega)
    rw [e1, e2]
    have hk2 : 0 ≤ k := by omega
    clear e1 e2
    go_enter Tryz.func9, Tryz.ntmps9
    go_wp2_with (first | (go_at_call 39; refine hi.mono ?_; rintro e w' ⟨rfl, rfl⟩))
    go_ret2
    exact ⟨rfl, rfl⟩
theorem i64_or_nat (a b : Nat) (ha : a < 4611686018427387904) (hb : b < 4611686018427387904) : bits .or .i64 (a : Int) (b : Int) = ((a ||| b : Nat) : Int) := by
  have hx : a ||| b < 2 ^ 62 := Nat.or_lt_two_pow (by omega) (by omega)
  have h1 : (BitVec.ofInt 64 (a : Int)).toNat = a := by
    rw [BitVec.ofInt_natCast, BitVec.toNat_ofNat]; exact Nat.mod_eq_of_lt (by omega)
  have h2 : (BitVec.ofInt 64 (b : Int)).toNat = b := by
    rw [BitVec.ofInt_natCast, BitVec.toNat_ofNat]; exact Nat.mod_eq_of_lt (by omega)
  show IntKind.i64.wrap ((BitVec.ofInt 64 (a : Int) ||| BitVec.ofInt 64 (b : Int)).toNat : Int) = _
  rw [BitVec.toNat_or, h1, h2]
  exact IntWalk.i64_in _ ⟨by omega, by omega⟩
def orL (l : List Nat) : Nat := l.foldl (fun x b => x ||| 2 ^ b) 0
theorem orL_bit (l : List Nat) (j : Nat) : (orL l).testBit j = decide (j ∈ l) := by
  have key : ∀ (l : List Nat) (x : Nat), (l.foldl (fun x b => x ||| 2 ^ b) x).testBit j = (x.testBit j || decide (j ∈ l)) := by
    intro l
    induction l with
    | nil => intro x; simp
    | cons a l ih =>
      intro x
      rw [List.foldl_cons, ih, Nat.testBit_or, Nat.testBit_two_pow]
      by_cases e : a = j
      · subst e; simp
      · have : ¬ j = a := fun h => e h.symm
        simp [e, this]
  unfold orL
  rw [key]
  simp
theorem orL_els (n : Nat) (p : Nat → Bool) : orL (els n p) = msk n p := by
  refine eq_mk n _ p fun j => ?_
  rw [orL_bit, Bool.eq_iff_iff, decide_eq_true_eq, mem_els]
  simp
theorem orL_lt (l : List Nat) (h : ∀ x ∈ l, x < 10) : orL l < 1024 := by
  have : ∀ (l : List Nat), (∀ x ∈ l, x < 10) → ∀ x, x < 2 ^ 10 → l.foldl (fun x b => x ||| 2 ^ b) x < 2 ^ 10 := by
    intro l
    induction l with
    | nil => intro _ x h; exact h
    | cons a l ih =>
      intro h x hx
      rw [List.foldl_cons]
      exact ih (fun y hy => h y (by simp [hy])) _ (Nat.or_lt_two_pow hx (Nat.pow_lt_pow_right (by omega) (h a (by simp))))
  exact this l h 0 (by decide)
theorem shl_i64 (k : Nat) (hk : k < 10) : IntKind.i64.wrap (2 ^ k) = ((2 ^ k : Nat) : Int) := by
  have h : 2 ^ k ≤ 2 ^ 9 := Nat.pow_le_pow_right (by omega) (by omega)
  rw [show ((2 : Int) ^ k) = ((2 ^ k : Nat) : Int) by simp]
  generalize 2 ^ k = q at *
  exact IntWalk.i64_in _ ⟨by omega, by omega⟩
theorem rowOf_mem {n : Nat} {U : Nat → Nat → Bool} {a : Nat} (h : a < n) : ∀ x ∈ rowOf n U a, x < n := by
  rw [rowOf_nat h]; exact fun x hx => (mem_els.1 hx).1
set_option maxHeartbeats 4000000 in
theorem lCodeA {w : World} {base la : Nat} {N : List (List UInt8)} {R : Nat → Nat → Bool} (h : IsLat w base la N R) (hT : TabOk w) (hl : N.length ≤ 10) (x : Int) :
    Calls Tryz.prog 19 #[latp la, .int .i64 x] w fun e w' => e = .returned (.int .i64 (lCode N.length R x)) ∧ Chg (fun _ => False) w w' := by
  have hx := lIs h x
  obtain ⟨b, bu, bd, cu, cd, g, cap, _, hO, hn, hL, hN, hg⟩ := h
  by_cases hp : inB N.length x
  · have e : lCode N.length R x = (msk N.length (flp R x.toNat) : Nat) := by unfold lCode; rw [if_pos hp]
    rw [e]
    rw [decide_eq_true hp] at hx
    obtain ⟨a, rfl⟩ := Int.eq_ofNat_of_zero_le hp.1
    have ha : a < N.length := by have := hp.2; omega
    have hd := down_ints hO hT (a : Int)
    have z0 := hL.ord
    have hmem := rowOf_mem (U := flp R) ha
    have hlen := rowOf_len N.length (flp R) a
    have hmsk : msk N.length (flp R a) = orL (rowOf N.length (flp R) a) := by rw [rowOf_nat ha, orL_els]
    simp only [Int.toNat_natCast]
    rw [hmsk]
    generalize rowOf N.length (flp R) a = l at *
    rw [toI_len] at hlen
    have HM := Lib.hid hmem
    clear e hO hL hN hg hp hmsk hmem
    unfold latp optr at *
    go_enter Tryz.func19, Tryz.ntmps19
    go_upto_block 0 with (first | (go_at_call 48; refine hx.mono ?_; rintro e w' ⟨rfl, rfl⟩) | (go_at_call 49; refine hd.mono ?_; rintro e w1 ⟨v1, rfl, hI, hC⟩; obtain ⟨A1, c1, rfl⟩ := hI.slice; rw [toI_len]))
    have HI := Lib.hid hI
    clear hI hx hd
    go_wp2_with fail
    go_loop [4, 18] (fun t i => ∃ k : Nat, k ≤ l.length ∧ i = .int .i64 k ∧ t = .int .i64 (orL (l.take k) : Nat)) (fun _ i => l.length - (intOf i).toNat)
    case atStart => exact ⟨0, by omega, rfl, rfl⟩
    case round =>
      obtain ⟨k, k0, rfl, rfl⟩ := hrel
      by_cases hk : k < l.length
      · have hw3 : IntKind.i64.wrap ((k : Int) + 1) = k + 1 := IntWalk.i64_in _ ⟨by omega, by omega⟩
        rcases HI.out with ⟨e0, e1⟩ | ⟨g1, cap1, e0, hcells⟩
        · have : l.length = 0 := by rw [← toI_len, e1]; rfl
          omega
        · cases e0
          have c0 := hcells k (by rw [toI_len]; exact hk)
          have e2 : (toI l).getD k 0 = ((l.getD k 0 : Nat) : Int) := by simp [toI, List.getD, hk]
          rw [e2] at c0
          have hy := HM.out (l.getD k 0) (by simp [List.getD, hk])
          have hst : orL (l.take (k + 1)) = orL (l.take k) ||| 2 ^ (l.getD k 0) := by
            rw [List.take_succ_eq_append_getElem hk]
            unfold orL
            rw [List.foldl_append]
            simp [List.getD, hk]
          have hlt := orL_lt (l.take k) (fun x hx => Nat.lt_of_lt_of_le (HM.out x (List.mem_of_mem_take hx)) hl)
          clear hcells e2
          generalize l.getD k 0 = y at *
          have hsh := shl_i64 y (by omega)
          have h2y : 2 ^ y ≤ 2 ^ 9 := Nat.pow_le_pow_right (by omega) (by omega)
          obtain ⟨q1, hq1⟩ : ∃ q1, orL (l.take k) = q1 := ⟨_, rfl⟩
          rw [hq1] at hst hlt
          have hor : bits BinOp.or .i64 ((q1 : Nat) : Int) ((2 : Int) ^ y) = ((q1 ||| 2 ^ y : Nat) : Int) := by
            rw [show ((2 : Int) ^ y) = ((2 ^ y : Nat) : Int) by simp]
            exact i64_or_nat _ _ (by omega) (by omega)
          have hor2 : bits BinOp.or .i64 ((q1 : Nat) : Int) ((2 ^ y : Nat) : Int) = ((q1 ||| 2 ^ y : Nat) : Int) := i64_or_nat _ _ (by omega) (by omega)
          rw [hq1]
          have HST := Lib.hid hst
          clear hq1
          have hy0 : ¬ (y : Int) < 0 := by omega
          clear hst h2y
          generalize hq2 : q1 ||| 2 ^ y = q2 at hor hor2
          have HQ2 := Lib.hid hq2
          clear hq2
          go_wp2_with fail
          go_round
          case rel => exact ⟨k + 1, by omega, by go_num, by rw [HST.out, HQ2.out]⟩
          case measure => simp [intOf]; omega
      · have hkn : k = l.length := by omega
        have HN := Lib.hid hkn
        clear hkn
        go_wp2_with fail
        go_ret
        exact ⟨by rw [HN.out, List.take_length]; rfl, hC⟩
  · have e : lCode N.length R x = 0 := by unfold lCode; rw [if_neg hp]
    rw [e]
    rw [decide_eq_false hp] at hx
    clear e hO hL hN hg hp
    unfold latp at *
    go_enter Tryz.func19, Tryz.ntmps19
    go_wp2_with (first | (go_at_call 48; refine hx.mono ?_; rintro e w' ⟨rfl, rfl⟩))
    go_ret
    exact ⟨rfl, Chg.refl _ _⟩
/-- which label has a code -/
def lDec (n : Nat) (R : Nat → Nat → Bool) (code : Int) : Int := match (List.range n).find? (fun (a : Nat) => lCode n R (a : Int) == code) with
  | some a => (a : Int)
  | none => -1
def lDecA (n : Nat) (R : Nat → Nat → Bool) (code : Int) : Int := max (lDec n R code) 0
def lDecE (n : Nat) (R : Nat → Nat → Bool) (code : Int) : Int := if 0 ≤ lDec n R code then 0 else 4
theorem lDec_hit {n : Nat} {R : Nat → Nat → Bool} {code : Int} {k : Nat} (hk : k < n) (h : lCode n R k = code) (hn : ∀ j : Nat, j < k → lCode n R j ≠ code) : lDec n R code = k := by
  unfold lDec
  have : (List.range n).find? (fun (a : Nat) => lCode n R (a : Int) == code) = some k := by
    rw [List.find?_eq_some_iff_getElem]
    refine ⟨by simpa using h, k, by simpa using hk, by simp, fun j hj => ?_⟩
    have := hn j hj
    simpa using this
  rw [this]
theorem lDec_none {n : Nat} {R : Nat → Nat → Bool} {code : Int} (hn : ∀ j : Nat, j < n → lCode n R j ≠ code) : lDec n R code = -1 := by
  unfold lDec
  have : (List.range n).find? (fun (a : Nat) => lCode n R (a : Int) == code) = none := by
    rw [List.find?_eq_none]
    intro a ha
    have := hn a (List.mem_range.1 ha)
    simpa using this
  rw [this]
set_option maxHeartbeats 4000000 in
theorem lDecodeA {w : World} {base la : Nat} {N : List (List UInt8)} {R : Nat → Nat → Bool} (h : IsLat w base la N R) (hT : TabOk w) (hl : N.length ≤ 10) (code : Int) :
    Calls Tryz.prog 11 #[latp la, .int .i64 code] w fun e w' => e = .returned (.tuple #[.int .i64 (lDecA N.length R code), .int .i64 (lDecE N.length R code)]) ∧ Chg (fun _ => False) w w' := by
  have hm := lMany h
  have hc := fun (W : World) (hW : Chg (fun _ => False) w W) (a : Int) => lCodeA (h.same hW) (hT.chg hW (fun x => x)) hl a
  obtain ⟨ra, hra⟩ : ∃ ra, lDecA N.length R code = ra := ⟨_, rfl⟩
  obtain ⟨re, hre⟩ : ∃ re, lDecE N.length R code = re := ⟨_, rfl⟩
  rw [hra, hre]
  have HA := Lib.hid hra
  have HE := Lib.hid hre
  clear h hT hra hre
  unfold latp at *
  go_enter Tryz.func11, Tryz.ntmps11
  go_wp2_with (first | (go_at_call 15; refine hm.mono ?_; rintro e w ⟨rfl, rfl⟩))
  go_loopw [9] (fun i wr => ∃ k : Nat, i = .int .i64 k ∧ k ≤ N.length ∧ Chg (fun _ => False) w wr ∧ Hid (∀ j : Nat, j < k → lCode N.length R j ≠ code)) (fun i _ => N.length - (intOf i).toNat)
  case atStart => exact ⟨0, rfl, by omega, Chg.refl _ _, Lib.hid (fun j hj => by omega)⟩
  case round =>
    obtain ⟨k, rfl, k0, hC, HK⟩ := hrel
    by_cases hk : k < N.length
    · have hw3 : IntKind.i64.wrap ((k : Int) + 1) = k + 1 := IntWalk.i64_in _ ⟨by omega, by omega⟩
      have hck := hc wr hC (k : Int)
      obtain ⟨q, hq⟩ : ∃ q, lCode N.length R k = q := ⟨_, rfl⟩
      rw [hq] at hck
      have HQ := Lib.hid hq
      clear hq hc
      by_cases he : q = code
      · have hd := lDec_hit hk (by rw [HQ.out]; exact he) HK.out
        have hda : lDecA N.length R code = k := by unfold lDecA; rw [hd]; omega
        have hde : lDecE N.length R code = 0 := by unfold lDecE; rw [hd, if_pos (by omega)]
        have HDA := Lib.hid hda
        have HDE := Lib.hid hde
        clear hd hda hde
        go_wp2_with (first | (go_at_call 19; refine hck.mono ?_; rintro e w2 ⟨rfl, hC2⟩))
        go_ret2
        exact ⟨by rw [← HA.out, ← HE.out, HDA.out, HDE.out]; rfl, hC.trans hC2⟩
      · have heb : (q == code) = false := by rw [beq_eq_false_iff_ne]; exact he
        have HNE := Lib.hid he
        clear he
        go_wp2_with (first | (go_at_call 19; refine hck.mono ?_; rintro e w2 ⟨rfl, hC2⟩))
        go_roundw
        case rel => exact ⟨k + 1, by go_num, by omega, hC.trans hC2, Lib.hid (fun j hj => by
          by_cases e : j = k
          · subst e; rw [HQ.out]; exact HNE.out
          · exact HK.out j (by omega))⟩
        case measure => simp [intOf]; omega
    · have hkn : k = N.length := by omega
      have hd := lDec_none (n := N.length) (R := R) (code := code) (fun j hj => HK.out j (by omega))
      have hda : lDecA N.length R code = 0 := by unfold lDecA; rw [hd]; rfl
      have hde : lDecE N.length R code = 4 := by unfold lDecE; rw [hd]; rfl
      have HDA := Lib.hid hda
      have HDE := Lib.hid hde
      clear hd hda hde hkn
      go_wp2_with fail
      go_ret2
      exact ⟨by rw [← HA.out, ← HE.out, HDA.out, HDE.out]; rfl, hC⟩
end Go.Proofs.YtfmacnkjhboefaaGreatDoor
