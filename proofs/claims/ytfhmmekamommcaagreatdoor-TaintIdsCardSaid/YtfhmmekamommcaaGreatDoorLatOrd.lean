/- Add, of all numbers (as Ord11, without the orders' lines). -/
import Derived.Test.YtfhmmekamommcaaGreatDoorOrd6
namespace Go.Proofs.YtfhmmekamommcaaGreatDoor
set_option linter.unusedVariables false
set_option linter.unusedSimpArgs false
open Go Go.RowKit Go.Proofs Go.Shelf
theorem mem_els {n : Nat} {p : Nat → Bool} {x : Nat} : x ∈ els n p ↔ x < n ∧ p x = true := by
  simp [els]
def inB (n : Nat) (x : Int) : Prop := 0 ≤ x ∧ x < n
instance (n : Nat) (x : Int) : Decidable (inB n x) := by unfold inB; infer_instance
def flp (R : Nat → Nat → Bool) : Nat → Nat → Bool := fun i j => R j i
/-- what Add says -/
def addE (n : Nat) (R : Nat → Nat → Bool) (x y : Int) : Int := if inB n x ∧ inB n y then (if R y.toNat x.toNat then 20 else 0) else 9
/-- the order behind it -/
def addR (n : Nat) (R : Nat → Nat → Bool) (x y : Int) : Nat → Nat → Bool :=
  if (inB n x ∧ inB n y) ∧ R y.toNat x.toNat = false then fun i j => R i j || (R i x.toNat && R y.toNat j) else R
def AddPost (w : World) (b bu bd cu cd n : Nat) (R : Nat → Nat → Bool) (x y : Int) (e : Ending) (w' : World) : Prop :=
  e = .returned (.int .i64 (addE n R x y)) ∧ IsOrd w' b bu bd cu cd n (addR n R x y) (flp (addR n R x y)) ∧ Chg (fun k => k = bu ∨ k = bd) w w'
theorem add_range {w : World} {b bu bd cu cd n : Nat} {U D : Nat → Nat → Bool} (h : IsOrd w b bu bd cu cd n U D) (x y : Int) (hr : ¬ (inB n x ∧ inB n y)) :
    Calls Tryz.prog 51 #[optr b, .int .i64 x, .int .i64 y] w fun e w' => e = .returned (.int .i64 9) ∧ w' = w.alloc (.cells #[optr b] 55) := by
  have hW : IsOrd (w.alloc (.cells #[optr b] 55)) b bu bd cu cd n U D := h.keep fun k c t f _ e => heap_alloc e
  have hM := many_some hW
  have hI1 := is_some hW x
  have hI2 := is_some hW y
  have a3 : ((n : Int) == 0) = false := by rw [beq_eq_false_iff_ne]; have := h.n1; omega
  unfold optr at *
  by_cases hx : inB n x
  · have hy : ¬ inB n y := fun h => hr ⟨hx, h⟩
    have e1 : decide (0 ≤ x ∧ x < n) = true := decide_eq_true hx
    have e2 : decide (0 ≤ y ∧ y < n) = false := decide_eq_false hy
    rw [e1] at hI1
    rw [e2] at hI2
    clear e1 e2 hx hy hr h hW
    go_enter Tryz.func51, Tryz.ntmps51
    go_wp2_with fail
    refine hM.mono ?_
    rintro e w' ⟨rfl, rfl⟩
    go_wp2_with fail
    refine hI1.mono ?_
    rintro e w' ⟨rfl, rfl⟩
    go_wp2_with fail
    refine hI2.mono ?_
    rintro e w' ⟨rfl, rfl⟩
    clear hM hI1 hI2
    go_wp2
    go_ret
    exact ⟨rfl, rfl⟩
  · have e1 : decide (0 ≤ x ∧ x < n) = false := decide_eq_false hx
    rw [e1] at hI1
    clear e1 hx hr h hW hI2
    go_enter Tryz.func51, Tryz.ntmps51
    go_wp2_with fail
    refine hM.mono ?_
    rintro e w' ⟨rfl, rfl⟩
    go_wp2_with fail
    refine hI1.mono ?_
    rintro e w' ⟨rfl, rfl⟩
    clear hM hI1
    go_wp2
    go_ret
    exact ⟨rfl, rfl⟩
theorem add_cycle {w : World} {b bu bd cu cd n : Nat} {U D : Nat → Nat → Bool} (h : IsOrd w b bu bd cu cd n U D) (x y : Nat) (hx : x < n) (hy : y < n) (hr : U y x = true) :
    Calls Tryz.prog 51 #[optr b, .int .i64 (x : Int), .int .i64 (y : Int)] w fun e w' => e = .returned (.int .i64 20) ∧ w' = w.alloc (.cells #[optr b] 55) := by
  have hW : IsOrd (w.alloc (.cells #[optr b] 55)) b bu bd cu cd n U D := h.keep fun k c t f _ e => heap_alloc e
  have hM := many_some hW
  have hI1 := is_some hW x
  have hI2 := is_some hW y
  have hn := h.n16
  have hHas := has_any (w.alloc (.cells #[optr b] 55)) (msk n (U y)) x (msk_lt16 n _ hn) (by omega)
  have e4 : (msk n (U y)).testBit x = true := by rw [msk_bit]; simp [hr, hx]
  rw [e4] at hHas
  have a3 : ((n : Int) == 0) = false := by rw [beq_eq_false_iff_ne]; have := h.n1; omega
  have e1 : decide (0 ≤ (x : Int) ∧ (x : Int) < n) = true := decide_eq_true (by omega)
  have e2 : decide (0 ≤ (y : Int) ∧ (y : Int) < n) = true := decide_eq_true (by omega)
  rw [e1] at hI1
  rw [e2] at hI2
  have c0 := cell_of_heap (heap_new w (.cells #[optr b] 55)) 0
  have c1 := hW.up
  have c2 := hW.hu y hy
  unfold optr at *
  simp at c0
  clear e1 e2 e4 hr h hW
  go_enter Tryz.func51, Tryz.ntmps51
  go_wp2_with fail
  refine hM.mono ?_
  rintro e w' ⟨rfl, rfl⟩
  go_wp2_with fail
  refine hI1.mono ?_
  rintro e w' ⟨rfl, rfl⟩
  go_wp2_with fail
  refine hI2.mono ?_
  rintro e w' ⟨rfl, rfl⟩
  go_wp2_with fail
  refine hHas.mono ?_
  rintro e w' ⟨rfl, rfl⟩
  clear hM hI1 hI2 hHas
  go_wp2
  go_ret
  exact ⟨rfl, rfl⟩
theorem mem_els_iff (n : Nat) (p : Nat → Bool) (x : Nat) (h : x < n) : decide (x ∈ els n p) = p x := by
  rw [Bool.eq_iff_iff, decide_eq_true_eq, mem_els]
  simp [h]
theorem add_any {w : World} {b bu bd cu cd n : Nat} {R : Nat → Nat → Bool} (h : IsOrd w b bu bd cu cd n R (flp R)) (hT : TabOk w) (x y : Int)
    (h1 : b ≠ 1) (h2 : bu ≠ 1) (h3 : bd ≠ 1) :
    Calls Tryz.prog 51 #[optr b, .int .i64 x, .int .i64 y] w (AddPost w b bu bd cu cd n R x y) := by
  by_cases hr : inB n x ∧ inB n y
  · obtain ⟨x, rfl⟩ := Int.eq_ofNat_of_zero_le hr.1.1
    obtain ⟨y, rfl⟩ := Int.eq_ofNat_of_zero_le hr.2.1
    have hx : x < n := by have := hr.1.2; omega
    have hy : y < n := by have := hr.2.2; omega
    cases hc : R y x with
    | true =>
      refine (add_cycle h x y hx hy hc).mono ?_
      rintro e w' ⟨rfl, rfl⟩
      have e1 : addE n R x y = 20 := by unfold addE; rw [if_pos hr]; simp [hc]
      have e2 : addR n R x y = R := by unfold addR; rw [if_neg (by simp [hc])]
      refine ⟨by rw [e1], ?_, (Chg.refl _ _).alloc _⟩
      rw [e2]
      exact h.keep fun k c t f _ e => heap_alloc e
    | false =>
      refine (add_ok h hT x y hx hy hc h1 h2 h3).mono ?_
      rintro e w' ⟨rfl, hO, hC⟩
      have e1 : addE n R x y = 0 := by unfold addE; rw [if_pos hr]; simp [hc]
      have e2 : addR n R x y = fun i j => R i j || (R i x && R y j) := by unfold addR; rw [if_pos ⟨hr, by simpa using hc⟩]; rfl
      refine ⟨by rw [e1], ?_, hC⟩
      rw [e2]
      refine hO.congr (fun i j hi hj => ?_) (fun i j hi hj => ?_)
      · simp only [upd, mem_els_iff n _ i hi, flp]
      · simp only [upd, mem_els_iff n _ i hi, flp]
        rw [Bool.and_comm]
  · refine (add_range h x y hr).mono ?_
    rintro e w' ⟨rfl, rfl⟩
    have e1 : addE n R x y = 9 := by unfold addE; rw [if_neg hr]
    have e2 : addR n R x y = R := by unfold addR; rw [if_neg (fun h => hr h.1)]
    refine ⟨by rw [e1], ?_, (Chg.refl _ _).alloc _⟩
    rw [e2]
    exact h.keep fun k c t f _ e => heap_alloc e
end Go.Proofs.YtfhmmekamommcaaGreatDoor
