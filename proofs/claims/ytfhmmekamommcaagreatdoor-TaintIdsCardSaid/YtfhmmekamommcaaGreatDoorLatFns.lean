/- lattice: what a lattice that stands answers. -/
import Derived.Test.YtfhmmekamommcaaGreatDoorLatMake
namespace Go.Proofs.YtfhmmekamommcaaGreatDoor
set_option linter.unusedVariables false
set_option linter.unusedSimpArgs false
open Go Go.RowKit Go.Proofs Go.Shelf Go.Sort
theorem IsLat.chg {w w' : World} {base la : Nat} {N : List (List UInt8)} {R : Nat → Nat → Bool} {S : Nat → Prop} (h : IsLat w base la N R) (hc : Chg S w w') (hS : ∀ k, base ≤ k → ¬ S k) : IsLat w' base la N R := by
  obtain ⟨b, bu, bd, cu, cd, g, cap, ⟨h1, h2, h3, h4, h5⟩, hO, hn, hL, hN, hg⟩ := h
  exact ⟨b, bu, bd, cu, cd, g, cap, ⟨h1, h2, h3, h4, h5⟩, hO.chg hc (fun k hk => by rcases hk with rfl | rfl | rfl; exact hS _ h2; exact hS _ h3; exact hS _ h4), hn, hL.chg hc (hS _ h1), fun i hi => hc.cell (hN i hi) (hS _ h5), hg⟩
theorem IsLat.same {w w' : World} {base la : Nat} {N : List (List UInt8)} {R : Nat → Nat → Bool} (h : IsLat w base la N R) (hc : Chg (fun _ => False) w w') : IsLat w' base la N R := h.chg hc (fun _ _ x => x)
theorem IsLat.mono {w : World} {base base' la : Nat} {N : List (List UInt8)} {R : Nat → Nat → Bool} (h : IsLat w base la N R) (hb : base' ≤ base) : IsLat w base' la N R := by
  obtain ⟨b, bu, bd, cu, cd, g, cap, ⟨h1, h2, h3, h4, h5⟩, r⟩ := h
  exact ⟨b, bu, bd, cu, cd, g, cap, ⟨by omega, by omega, by omega, by omega, by omega⟩, r⟩
/-- what a lattice answers -/
def lJoin (n : Nat) (R : Nat → Nat → Bool) (a b : Int) : Int := if inB n a ∧ inB n b then joinD n R a.toNat b.toNat else lastF n (flp R) 0 n
def lMeet (n : Nat) (R : Nat → Nat → Bool) (a b : Int) : Int := if inB n a ∧ inB n b then meetD n R a.toNat b.toNat else lastF n R 0 n
def lName (N : List (List UInt8)) (a : Int) : List UInt8 := if inB N.length a then N.getD a.toNat [] else []
def lCode (n : Nat) (R : Nat → Nat → Bool) (a : Int) : Int := if inB n a then (msk n (flp R a.toNat) : Nat) else 0
theorem lMany {w : World} {base la : Nat} {N : List (List UInt8)} {R : Nat → Nat → Bool} (h : IsLat w base la N R) :
    Calls Tryz.prog 44 #[latp la] w fun e w' => e = .returned (.int .i64 N.length) ∧ w' = w := by
  obtain ⟨b, bu, bd, cu, cd, g, cap, _, hO, hn, hL, hN, hg⟩ := h
  exact lmany_some hL.names
theorem lHigh {w : World} {base la : Nat} {N : List (List UInt8)} {R : Nat → Nat → Bool} (h : IsLat w base la N R) :
    Calls Tryz.prog 61 #[latp la] w fun e w' => e = .returned (.int .i64 (lastF N.length (flp R) 0 N.length)) ∧ w' = w := by
  obtain ⟨b, bu, bd, cu, cd, g, cap, _, hO, hn, hL, hN, hg⟩ := h
  exact lhigh_some hL.high
theorem lIs {w : World} {base la : Nat} {N : List (List UInt8)} {R : Nat → Nat → Bool} (h : IsLat w base la N R) (a : Int) :
    Calls Tryz.prog 60 #[latp la, .int .i64 a] w fun e w' => e = .returned (.bool (decide (inB N.length a))) ∧ w' = w := by
  obtain ⟨b, bu, bd, cu, cd, g, cap, _, hO, hn, hL, hN, hg⟩ := h
  exact lis_some hL.names a
theorem lLeq {w : World} {base la : Nat} {N : List (List UInt8)} {R : Nat → Nat → Bool} (h : IsLat w base la N R) (x y : Int) :
    Calls Tryz.prog 37 #[latp la, .int .i64 x, .int .i64 y] w fun e w' => e = .returned (.bool (atM N.length R x y)) ∧ w' = w := by
  have hx := lIs h x
  have hy := lIs h y
  obtain ⟨b, bu, bd, cu, cd, g, cap, _, hO, hn, hL, hN, hg⟩ := h
  have hat := atMost_some hO x y
  have ho := hL.ord
  have e : atM N.length R x y = (decide (inB N.length x) && (decide (inB N.length y) && atM N.length R x y)) := by
    unfold atM inB
    generalize decide (0 ≤ x ∧ x < N.length) = p
    generalize decide (0 ≤ y ∧ y < N.length) = q
    cases p <;> cases q <;> simp
  rw [e]
  generalize atM N.length R x y = r at *
  generalize decide (inB N.length x) = p at *
  generalize decide (inB N.length y) = q at *
  clear e hO hn hL hN hg
  unfold latp optr at *
  have t1 : True := trivial
  have t2 : True := trivial
  cases p with
  | false =>
    go_enter Tryz.func37, Tryz.ntmps37
    go_wp2_with (first | (go_at_call 60; refine hx.mono ?_; rintro e w' ⟨rfl, rfl⟩))
    go_ret
    exact ⟨rfl, rfl⟩
  | true =>
    cases q with
    | false =>
      go_enter Tryz.func37, Tryz.ntmps37
      go_wp2_with (first | (go_at_call 60; have _t := t1; clear _t t1; refine hx.mono ?_; rintro e w' ⟨rfl, rfl⟩) | (go_at_call 60; have _t := t2; clear _t t2; refine hy.mono ?_; rintro e w' ⟨rfl, rfl⟩))
      go_ret
      exact ⟨by simp, rfl⟩
    | true =>
      go_enter Tryz.func37, Tryz.ntmps37
      go_wp2_with (first | (go_at_call 60; have _t := t1; clear _t t1; refine hx.mono ?_; rintro e w' ⟨rfl, rfl⟩) | (go_at_call 60; have _t := t2; clear _t t2; refine hy.mono ?_; rintro e w' ⟨rfl, rfl⟩) | (go_at_call 73; refine hat.mono ?_; rintro e w' ⟨rfl, rfl⟩))
      go_ret
      exact ⟨by simp, rfl⟩
theorem lJoinA {w : World} {base la : Nat} {N : List (List UInt8)} {R : Nat → Nat → Bool} (h : IsLat w base la N R) (hn10 : N.length ≤ 10) (x y : Int) :
    Calls Tryz.prog 19 #[latp la, .int .i64 x, .int .i64 y] w fun e w' => e = .returned (.int .i64 (lJoin N.length R x y)) ∧ w' = w := by
  have hx := lIs h x
  have hy := lIs h y
  have hh := lHigh h
  obtain ⟨b, bu, bd, cu, cd, g, cap, _, hO, hn, hL, hN, hg⟩ := h
  have t1 : True := trivial
  have t2 : True := trivial
  by_cases hp : inB N.length x
  · by_cases hq : inB N.length y
    · have e : lJoin N.length R x y = joinD N.length R x.toNat y.toNat := by unfold lJoin; rw [if_pos ⟨hp, hq⟩]
      rw [e]
      rw [decide_eq_true hp] at hx
      rw [decide_eq_true hq] at hy
      obtain ⟨a, rfl⟩ := Int.eq_ofNat_of_zero_le hp.1
      obtain ⟨b2, rfl⟩ := Int.eq_ofNat_of_zero_le hq.1
      have ha : a < N.length := by have := hp.2; omega
      have hb : b2 < N.length := by have := hq.2; omega
      have z := hL.jn a b2 (by omega) (by omega)
      have e2 : tabJ N.length (joinD N.length R) (fun _ _ => 0) N.length 0 a b2 = joinD N.length R a b2 := by unfold tabJ; rw [if_pos (by omega)]
      rw [e2] at z
      simp only [Int.toNat_natCast]
      have hk10 : (a : Int) < 10 := by omega
      have hq10 : (b2 : Int) < 10 := by omega
      generalize joinD N.length R a b2 = r at *
      clear e e2 hO hL hN hg hh hp hq
      unfold latp at *
      go_enter Tryz.func19, Tryz.ntmps19
      go_wp2_with (first | (go_at_call 60; have _t := t1; clear _t t1; refine hx.mono ?_; rintro e w' ⟨rfl, rfl⟩) | (go_at_call 60; have _t := t2; clear _t t2; refine hy.mono ?_; rintro e w' ⟨rfl, rfl⟩))
      go_ret
      exact ⟨rfl, rfl⟩
    · have e : lJoin N.length R x y = lastF N.length (flp R) 0 N.length := by unfold lJoin; rw [if_neg (fun h => hq h.2)]
      rw [e]
      rw [decide_eq_true hp] at hx
      rw [decide_eq_false hq] at hy
      clear e hp hq hO hL hN
      generalize lastF N.length (flp R) 0 N.length = r at *
      unfold latp at *
      go_enter Tryz.func19, Tryz.ntmps19
      go_wp2_with (first | (go_at_call 60; have _t := t1; clear _t t1; refine hx.mono ?_; rintro e w' ⟨rfl, rfl⟩) | (go_at_call 60; have _t := t2; clear _t t2; refine hy.mono ?_; rintro e w' ⟨rfl, rfl⟩) | (go_at_call 61; refine hh.mono ?_; rintro e w' ⟨rfl, rfl⟩))
      go_ret
      exact ⟨rfl, rfl⟩
  · have e : lJoin N.length R x y = lastF N.length (flp R) 0 N.length := by unfold lJoin; rw [if_neg (fun h => hp h.1)]
    rw [e]
    rw [decide_eq_false hp] at hx
    clear e hp hO hL hN hy
    generalize lastF N.length (flp R) 0 N.length = r at *
    unfold latp at *
    go_enter Tryz.func19, Tryz.ntmps19
    go_wp2_with (first | (go_at_call 60; refine hx.mono ?_; rintro e w' ⟨rfl, rfl⟩) | (go_at_call 61; refine hh.mono ?_; rintro e w' ⟨rfl, rfl⟩))
    go_ret
    exact ⟨rfl, rfl⟩
end Go.Proofs.YtfhmmekamommcaaGreatDoor
