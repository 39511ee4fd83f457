/- lattice: Name, Find, Code, Decode. -/
import Derived.Test.YtfhmmekamommcaaGreatDoorLatFns
namespace Go.Proofs.YtfhmmekamommcaaGreatDoor
set_option linter.unusedVariables false
set_option linter.unusedSimpArgs false
open Go Go.RowKit Go.Proofs Go.Shelf Go.Sort
theorem lNameA {w : World} {base la : Nat} {N : List (List UInt8)} {R : Nat → Nat → Bool} (h : IsLat w base la N R) (x : Int) :
    Calls Tryz.prog 18 #[latp la, .int .i64 x] w fun e w' => e = .returned (.string (bs (lName N x))) ∧ w' = w := by
  have hx := lIs h x
  obtain ⟨b, bu, bd, cu, cd, g, cap, _, hO, hn, hL, hN, hg⟩ := h
  by_cases hp : inB N.length x
  · have e : lName N x = N.getD x.toNat [] := by unfold lName; rw [if_pos hp]
    rw [e]
    rw [decide_eq_true hp] at hx
    obtain ⟨a, rfl⟩ := Int.eq_ofNat_of_zero_le hp.1
    have ha : a < N.length := by have := hp.2; omega
    have z := hN a ha
    have z0 := hL.names
    simp only [Int.toNat_natCast]
    generalize bs (N.getD a []) = s at *
    clear e hO hL hN hg hp
    unfold latp at *
    go_enter Tryz.func18, Tryz.ntmps18
    go_wp2_with (first | (go_at_call 60; refine hx.mono ?_; rintro e w' ⟨rfl, rfl⟩))
    go_ret
    exact ⟨rfl, rfl⟩
  · have e : lName N x = [] := by unfold lName; rw [if_neg hp]
    rw [e]
    rw [decide_eq_false hp] at hx
    clear e hO hL hN hg hp
    unfold latp at *
    go_enter Tryz.func18, Tryz.ntmps18
    go_wp2_with (first | (go_at_call 60; refine hx.mono ?_; rintro e w' ⟨rfl, rfl⟩))
    go_ret
    exact ⟨rfl, rfl⟩
theorem mx2 (k k' : IntKind) (x y : Int) : Builtin.max2 (.int k x) (.int k' y) = pure (.int k (if x < y then y else x)) := by simp only [Builtin.max2, gt_iff_lt]
theorem mxs (ats : Array TypeId) (ty : TypeId) (a b : Value) : Builtin.max_ ats ty #[a, b] = (Builtin.max2 a b >>= fun s => pure s) := by simp only [Builtin.max_, List.foldlM_cons, List.foldlM_nil]
attribute [local go_sem] mx2 mxs
/-- where a text stands in a list -/
def findL (N : List (List UInt8)) (s : List UInt8) : Int := Lib.idxOfS (N.map bs) (bs s)
theorem lFind {w : World} {base la : Nat} {N : List (List UInt8)} {R : Nat → Nat → Bool} (h : IsLat w base la N R) (hl : N.length ≤ 10) (s : List UInt8) :
    Calls Tryz.prog 17 #[latp la, .string (bs s)] w fun e w' => e = .returned (.tuple #[.int .i64 (max (findL N s) 0), .bool (decide (0 ≤ findL N s))]) ∧ w' = w := by
  obtain ⟨b, bu, bd, cu, cd, g, cap, _, hO, hn, hL, hN, hg⟩ := h
  have hi := Tryz.slices_Index_string g 0 N.length cap (N.map bs) (bs s) w (by simp) (by omega) (fun j hj => by
    simp at hj
    rw [Nat.zero_add, hN j hj]
    simp [List.getD, hj])
  rw [List.take_of_length_le (by simp)] at hi
  have z0 := hL.names
  unfold findL
  generalize Lib.idxOfS (N.map bs) (bs s) = k at *
  generalize bs s = t at *
  clear hO hL hN hg
  unfold latp
  by_cases hk : k < 0
  · have e1 : max k 0 = 0 := by omega
    have e2 : decide (0 ≤ k) = false := decide_eq_false (by omega)
    rw [e1]
    clear e1 e2
    go_enter Tryz.func17, Tryz.ntmps17
    go_wp2_with (first | (go_at_call 59; refine hi.mono ?_; rintro e w' ⟨rfl, rfl⟩))
    go_ret2
    exact ⟨rfl, rfl⟩
  · have e1 : max k 0 = k := by omega
    have e2 : decide (0 ≤ k) = true := decide_eq_true (by omega)
    rw [e1, e2]
    have hk2 : 0 ≤ k := by omega
    clear e1 e2
    go_enter Tryz.func17, Tryz.ntmps17
    go_wp2_with (first | (go_at_call 59; refine hi.mono ?_; rintro e w' ⟨rfl, rfl⟩))
    go_ret2
    exact ⟨rfl, rfl⟩
theorem i64_or_nat (a b : Nat) (ha : a < 4611686018427387904) (hb : b < 4611686018427387904) : bits .or .i64 (a : Int) (b : Int) = ((a ||| b : Nat) : Int) := by
  have hx : a ||| b < 2 ^ 62 := Nat.or_lt_two_pow (by omega) (by omega)
  have h1 : (BitVec.ofInt 64 (a : Int)).toNat = a := by
    rw [BitVec.ofInt_natCast, BitVec.toNat_ofNat]; exact Nat.mod_eq_of_lt (by omega)
  have h2 : (BitVec.ofInt 64 (b : Int)).toNat = b := by
    rw [BitVec.ofInt_natCast, BitVec.toNat_ofNat]; exact Nat.mod_eq_of_lt (by omega)
  show IntKind.i64.wrap ((BitVec.ofInt 64 (a : Int) ||| BitVec.ofInt 64 (b : Int)).toNat : Int) = _
  rw [BitVec.toNat_or, h1, h2]
  exact IntWalk.i64_in _ ⟨by omega, by omega⟩
def orL (l : List Nat) : Nat := l.foldl (fun x b => x ||| 2 ^ b) 0
theorem orL_bit (l : List Nat) (j : Nat) : (orL l).testBit j = decide (j ∈ l) := by
  have key : ∀ (l : List Nat) (x : Nat), (l.foldl (fun x b => x ||| 2 ^ b) x).testBit j = (x.testBit j || decide (j ∈ l)) := by
    intro l
    induction l with
    | nil => intro x; simp
    | cons a l ih =>
      intro x
      rw [List.foldl_cons, ih, Nat.testBit_or, Nat.testBit_two_pow]
      by_cases e : a = j
      · subst e; simp
      · have : ¬ j = a := fun h => e h.symm
        simp [e, this]
  unfold orL
  rw [key]
  simp
theorem orL_els (n : Nat) (p : Nat → Bool) : orL (els n p) = msk n p := by
  refine eq_mk n _ p fun j => ?_
  rw [orL_bit, Bool.eq_iff_iff, decide_eq_true_eq, mem_els]
  simp
theorem orL_lt (l : List Nat) (h : ∀ x ∈ l, x < 10) : orL l < 1024 := by
  have : ∀ (l : List Nat), (∀ x ∈ l, x < 10) → ∀ x, x < 2 ^ 10 → l.foldl (fun x b => x ||| 2 ^ b) x < 2 ^ 10 := by
    intro l
    induction l with
    | nil => intro _ x h; exact h
    | cons a l ih =>
      intro h x hx
      rw [List.foldl_cons]
      exact ih (fun y hy => h y (by simp [hy])) _ (Nat.or_lt_two_pow hx (Nat.pow_lt_pow_right (by omega) (h a (by simp))))
  exact this l h 0 (by decide)
theorem shl_i64 (k : Nat) (hk : k < 10) : IntKind.i64.wrap (2 ^ k) = ((2 ^ k : Nat) : Int) := by
  have h : 2 ^ k ≤ 2 ^ 9 := Nat.pow_le_pow_right (by omega) (by omega)
  rw [show ((2 : Int) ^ k) = ((2 ^ k : Nat) : Int) by simp]
  generalize 2 ^ k = q at *
  exact IntWalk.i64_in _ ⟨by omega, by omega⟩
theorem rowOf_mem {n : Nat} {U : Nat → Nat → Bool} {a : Nat} (h : a < n) : ∀ x ∈ rowOf n U a, x < n := by
  rw [rowOf_nat h]; exact fun x hx => (mem_els.1 hx).1
/-- which label has a code -/
def lDec (n : Nat) (R : Nat → Nat → Bool) (code : Int) : Int := match (List.range n).find? (fun (a : Nat) => lCode n R (a : Int) == code) with
  | some a => (a : Int)
  | none => -1
def lDecA (n : Nat) (R : Nat → Nat → Bool) (code : Int) : Int := max (lDec n R code) 0
def lDecE (n : Nat) (R : Nat → Nat → Bool) (code : Int) : Int := if 0 ≤ lDec n R code then 0 else 4
theorem lDec_hit {n : Nat} {R : Nat → Nat → Bool} {code : Int} {k : Nat} (hk : k < n) (h : lCode n R k = code) (hn : ∀ j : Nat, j < k → lCode n R j ≠ code) : lDec n R code = k := by
  unfold lDec
  have : (List.range n).find? (fun (a : Nat) => lCode n R (a : Int) == code) = some k := by
    rw [List.find?_eq_some_iff_getElem]
    refine ⟨by simpa using h, k, by simpa using hk, by simp, fun j hj => ?_⟩
    have := hn j hj
    simpa using this
  rw [this]
theorem lDec_none {n : Nat} {R : Nat → Nat → Bool} {code : Int} (hn : ∀ j : Nat, j < n → lCode n R j ≠ code) : lDec n R code = -1 := by
  unfold lDec
  have : (List.range n).find? (fun (a : Nat) => lCode n R (a : Int) == code) = none := by
    rw [List.find?_eq_none]
    intro a ha
    have := hn a (List.mem_range.1 ha)
    simpa using this
  rw [this]
end Go.Proofs.YtfhmmekamommcaaGreatDoor
