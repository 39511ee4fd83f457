/- Walks of package order: what only reads. -/
import Derived.Test.YtfhmmekamommcaaGreatDoorProg
import Derived.WalkKit
import Derived.Deep.QuietTactic
import Derived.BigQuiet
import Derived.Lib.Hide
import Derived.Below
import Derived.WalkLawsBesides
import Derived.WalkSpells
import Derived.Test.YtfhmmekamommcaaGreatDoorOrdMask
import Derived.Test.YtfhmmekamommcaaGreatDoorFrame
namespace Go.Proofs.YtfhmmekamommcaaGreatDoor
set_option linter.unusedVariables false
set_option linter.unusedSimpArgs false
open Go Go.RowKit Go.Proofs
/-- pointer to an order block -/
def optr (b : Nat) : Value := .pointer (some ⟨b, 0, none⟩)
/-- an order of n things lies in blocks b, bu, bd: row i of the first one is the mask of U i, of the second one that of D i -/
structure IsOrd (w : World) (b bu bd cu cd n : Nat) (U D : Nat → Nat → Bool) : Prop where
  hb : w.heap[b]? = some (.cells #[.slice (some ⟨bu, 0, none⟩) n cu, .slice (some ⟨bd, 0, none⟩) n cd] 152 (0, 0))
  hU : ∃ xs : Array Value, w.heap[bu]? = some (.cells xs 153 (0, 0)) ∧ ∀ i, i < n → xs[i]? = some (.int .u32 (msk n (U i) : Nat))
  hD : ∃ xs : Array Value, w.heap[bd]? = some (.cells xs 153 (0, 0)) ∧ ∀ i, i < n → xs[i]? = some (.int .u32 (msk n (D i) : Nat))
  n1 : 1 ≤ n
  n16 : n ≤ 16
  ne1 : b ≠ bu
  ne2 : b ≠ bd
  ne3 : bu ≠ bd
theorem IsOrd.up {w : World} {b bu bd cu cd n : Nat} {U D : Nat → Nat → Bool} (h : IsOrd w b bu bd cu cd n U D) : w.cell? ⟨b, 0, none⟩ = some (.slice (some ⟨bu, 0, none⟩) n cu) := cell_of_heap h.hb 0
theorem IsOrd.dn {w : World} {b bu bd cu cd n : Nat} {U D : Nat → Nat → Bool} (h : IsOrd w b bu bd cu cd n U D) : w.cell? ⟨b, 1, none⟩ = some (.slice (some ⟨bd, 0, none⟩) n cd) := cell_of_heap h.hb 1
theorem IsOrd.hu {w : World} {b bu bd cu cd n : Nat} {U D : Nat → Nat → Bool} (h : IsOrd w b bu bd cu cd n U D) (i : Nat) (hi : i < n) : w.cell? ⟨bu, i, none⟩ = some (.int .u32 (msk n (U i) : Nat)) := by
  obtain ⟨xs, h1, h2⟩ := h.hU; exact (cell_of_heap h1 i).trans (h2 i hi)
theorem IsOrd.hd {w : World} {b bu bd cu cd n : Nat} {U D : Nat → Nat → Bool} (h : IsOrd w b bu bd cu cd n U D) (i : Nat) (hi : i < n) : w.cell? ⟨bd, i, none⟩ = some (.int .u32 (msk n (D i) : Nat)) := by
  obtain ⟨xs, h1, h2⟩ := h.hD; exact (cell_of_heap h1 i).trans (h2 i hi)
theorem IsOrd.fu {w : World} {b bu bd cu cd n : Nat} {U D : Nat → Nat → Bool} (h : IsOrd w b bu bd cu cd n U D) (i : Nat) : w.frozen? ⟨bu, i, none⟩ = false := by
  obtain ⟨xs, h1, h2⟩ := h.hU; exact free_of_heap h1 i
theorem IsOrd.fd {w : World} {b bu bd cu cd n : Nat} {U D : Nat → Nat → Bool} (h : IsOrd w b bu bd cu cd n U D) (i : Nat) : w.frozen? ⟨bd, i, none⟩ = false := by
  obtain ⟨xs, h1, h2⟩ := h.hD; exact free_of_heap h1 i
/-- another world in which the three blocks lie as they lay -/
theorem IsOrd.keep {w w' : World} {b bu bd cu cd n : Nat} {U D : Nat → Nat → Bool} (h : IsOrd w b bu bd cu cd n U D)
    (hk : ∀ k c t f, (k = b ∨ k = bu ∨ k = bd) → w.heap[k]? = some (.cells c t f) → w'.heap[k]? = some (.cells c t f)) : IsOrd w' b bu bd cu cd n U D := by
  obtain ⟨xs, h1, h2⟩ := h.hU
  obtain ⟨ys, h3, h4⟩ := h.hD
  exact ⟨hk _ _ _ _ (.inl rfl) h.hb, ⟨xs, hk _ _ _ _ (.inr (.inl rfl)) h1, h2⟩, ⟨ys, hk _ _ _ _ (.inr (.inr rfl)) h3, h4⟩, h.n1, h.n16, h.ne1, h.ne2, h.ne3⟩
theorem IsOrd.chg {S : Nat → Prop} {w w' : World} {b bu bd cu cd n : Nat} {U D : Nat → Nat → Bool} (h : IsOrd w b bu bd cu cd n U D) (hc : Chg S w w') (hS : ∀ k, k = b ∨ k = bu ∨ k = bd → ¬ S k) : IsOrd w' b bu bd cu cd n U D :=
  h.keep fun k c t f hk e => hc.keep e (hS k hk)
theorem IsOrd.lt {w : World} {b bu bd cu cd n : Nat} {U D : Nat → Nat → Bool} (h : IsOrd w b bu bd cu cd n U D) : b < w.heap.size ∧ bu < w.heap.size ∧ bd < w.heap.size := by
  obtain ⟨xs, h1, h2⟩ := h.hU
  obtain ⟨ys, h3, h4⟩ := h.hD
  exact ⟨lt_of_heap h.hb, lt_of_heap h1, lt_of_heap h3⟩
theorem IsOrd.congr {w : World} {b bu bd cu cd n : Nat} {U D U' D' : Nat → Nat → Bool} (h : IsOrd w b bu bd cu cd n U D) (hU : ∀ i j, i < n → j < n → U i j = U' i j) (hD : ∀ i j, i < n → j < n → D i j = D' i j) : IsOrd w b bu bd cu cd n U' D' := by
  obtain ⟨xs, h1, h2⟩ := h.hU
  obtain ⟨ys, h3, h4⟩ := h.hD
  exact ⟨h.hb, ⟨xs, h1, fun i hi => by rw [h2 i hi, msk_congr n _ _ (fun j hj => hU i j hi hj)]⟩, ⟨ys, h3, fun i hi => by rw [h4 i hi, msk_congr n _ _ (fun j hj => hD i j hi hj)]⟩, h.n1, h.n16, h.ne1, h.ne2, h.ne3⟩
theorem IsOrd.setU {w : World} {b bu bd cu cd n : Nat} {U D : Nat → Nat → Bool} (h : IsOrd w b bu bd cu cd n U D) (z : Nat) (p : Nat → Bool) :
    IsOrd (w.setCell ⟨bu, z, none⟩ (.int .u32 (msk n p : Nat))) b bu bd cu cd n (fun i j => if i = z then p j else U i j) D := by
  obtain ⟨xs, h1, h2⟩ := h.hU
  obtain ⟨ys, h3, h4⟩ := h.hD
  refine ⟨heap_setCell h.hb h.ne1 _, ⟨_, heap_setCell_cells h1 _ _, fun i hi => ?_⟩, ⟨ys, heap_setCell h3 (Ne.symm h.ne3) _, h4⟩, h.n1, h.n16, h.ne1, h.ne2, h.ne3⟩
  by_cases e : i = z
  · subst e
    have hlt : i < xs.size := (Array.getElem?_eq_some_iff.1 (h2 i hi)).1
    simp [hlt]
  · rw [Array.getElem?_setIfInBounds_ne (fun x => e x.symm), h2 i hi]
    simp [e]
theorem IsOrd.setD {w : World} {b bu bd cu cd n : Nat} {U D : Nat → Nat → Bool} (h : IsOrd w b bu bd cu cd n U D) (z : Nat) (p : Nat → Bool) :
    IsOrd (w.setCell ⟨bd, z, none⟩ (.int .u32 (msk n p : Nat))) b bu bd cu cd n U (fun i j => if i = z then p j else D i j) := by
  obtain ⟨xs, h1, h2⟩ := h.hU
  obtain ⟨ys, h3, h4⟩ := h.hD
  refine ⟨heap_setCell h.hb h.ne2 _, ⟨xs, heap_setCell h1 h.ne3 _, h2⟩, ⟨_, heap_setCell_cells h3 _ _, fun i hi => ?_⟩, h.n1, h.n16, h.ne1, h.ne2, h.ne3⟩
  by_cases e : i = z
  · subst e
    have hlt : i < ys.size := (Array.getElem?_eq_some_iff.1 (h4 i hi)).1
    simp [hlt]
  · rw [Array.getElem?_setIfInBounds_ne (fun x => e x.symm), h4 i hi]
    simp [e]
theorem IsOrd.drew {w : World} {b bu bd cu cd n : Nat} {U D : Nat → Nat → Bool} (h : IsOrd w b bu bd cu cd n U D) : IsOrd w.drew b bu bd cu cd n U D := h.keep fun _ _ _ _ _ e => e
theorem many_some {w : World} {b bu bd cu cd n : Nat} {R D : Nat → Nat → Bool} (h : IsOrd w b bu bd cu cd n R D) :
    Calls Tryz.prog 89 #[optr b] w fun e w' => e = .returned (.int .i64 n) ∧ w = w' := by
  have h1 := h.up
  unfold optr
  go_enter Tryz.func89, Tryz.ntmps89
  go_wp2
  go_ret
  exact ⟨rfl, rfl⟩
theorem is_some {w : World} {b bu bd cu cd n : Nat} {R D : Nat → Nat → Bool} (h : IsOrd w b bu bd cu cd n R D) (a : Int) :
    Calls Tryz.prog 90 #[optr b, .int .i64 a] w fun e w' => e = .returned (.bool (decide (0 ≤ a ∧ a < n))) ∧ w = w' := by
  unfold optr
  by_cases h0 : 0 ≤ a
  · go_enter Tryz.func90, Tryz.ntmps90
    go_wp2_with (go_at_call 89; refine (many_some h).mono ?_; rintro e w' ⟨rfl, rfl⟩)
    go_ret
    exact ⟨by simp [h0], rfl⟩
  · go_enter Tryz.func90, Tryz.ntmps90
    go_wp2_with (go_at_call 89; refine (many_some h).mono ?_; rintro e w' ⟨rfl, rfl⟩)
    go_ret
    exact ⟨by simp; omega, rfl⟩
theorem bit_eq (m a : Nat) (hm : m < 65536) : (bits BinOp.and IntKind.u32 ((m : Int) / 2 ^ a) 1 == 1) = m.testBit a := by
  have e1 : ((m : Int) / 2 ^ a) = ((m / 2 ^ a : Nat) : Int) := by
    rw [Int.natCast_ediv]; simp
  have hlt : m / 2 ^ a < 4294967296 := Nat.lt_of_le_of_lt (Nat.div_le_self _ _) (by omega)
  have e2 := u32_and_nat (m / 2 ^ a) 1 hlt (by omega)
  rw [e1]
  have e3 : bits BinOp.and IntKind.u32 ((m / 2 ^ a : Nat) : Int) 1 = ((m / 2 ^ a &&& 1 : Nat) : Int) := e2
  rw [e3, Nat.and_one_is_mod, Nat.testBit_eq_decide_div_mod_eq]
  rcases Nat.mod_two_eq_zero_or_one (m / 2 ^ a) with h | h <;> rw [h] <;> rfl
theorem has_any (w : World) (m a : Nat) (hs : m < 65536) (ha : a < 16) :
    Calls Tryz.prog 91 #[.int .u32 (m : Int), .int .i64 (a : Int)] w fun e w' => e = .returned (.bool (m.testBit a)) ∧ w = w' := by
  rw [← bit_eq m a hs]
  go_enter Tryz.func91, Tryz.ntmps91
  go_wp2
  go_ret
  exact ⟨rfl, rfl⟩
/-- what AtMost says -/
def atM (n : Nat) (R : Nat → Nat → Bool) (a b : Int) : Bool := decide (0 ≤ a ∧ a < n) && (decide (0 ≤ b ∧ b < n) && R a.toNat b.toNat)
theorem atMost_some {w : World} {b bu bd cu cd n : Nat} {R D : Nat → Nat → Bool} (h : IsOrd w b bu bd cu cd n R D) (x y : Int) :
    Calls Tryz.prog 73 #[optr b, .int .i64 x, .int .i64 y] w fun e w' => e = .returned (.bool (atM n R x y)) ∧ w = w' := by
  have h1 := h.up
  have h16 := h.n16
  have hI := fun a => is_some h a
  unfold optr at *
  by_cases hx : 0 ≤ x ∧ x < n
  · by_cases hy : 0 ≤ y ∧ y < n
    · obtain ⟨x, rfl⟩ := Int.eq_ofNat_of_zero_le hx.1
      obtain ⟨y, rfl⟩ := Int.eq_ofNat_of_zero_le hy.1
      have hc := h.hu x (by omega)
      have hm := msk_lt16 n (R x) h16
      have hr : (msk n (R x)).testBit y = atM n R x y := by rw [msk_bit]; unfold atM; rw [decide_eq_true hx, decide_eq_true hy, decide_eq_true (by omega : y < n)]; simp
      have HR := Lib.hid hr
      have e1 : decide (0 ≤ (x : Int) ∧ (x : Int) < n) = true := decide_eq_true hx
      have e2 : decide (0 ≤ (y : Int) ∧ (y : Int) < n) = true := decide_eq_true hy
      have hI1 := hI x
      have hI2 := hI y
      rw [e1] at hI1
      rw [e2] at hI2
      obtain ⟨hx1, hx2⟩ := hx
      obtain ⟨hy1, hy2⟩ := hy
      clear hr e1 e2 hI
      go_enter Tryz.func73, Tryz.ntmps73
      go_wp2_with fail
      refine hI1.mono ?_
      rintro e w' ⟨rfl, rfl⟩
      go_wp2_with fail
      refine hI2.mono ?_
      rintro e w' ⟨rfl, rfl⟩
      go_wp2_with fail
      refine (has_any _ _ _ hm (by omega)).mono ?_
      rintro e w' ⟨rfl, rfl⟩
      go_wp2
      go_ret
      exact ⟨by rw [HR.out]; rfl, rfl⟩
    · have hr : atM n R x y = false := by unfold atM; rw [decide_eq_false hy]; simp
      have e1 : decide (0 ≤ x ∧ x < n) = true := decide_eq_true hx
      have e2 : decide (0 ≤ y ∧ y < n) = false := decide_eq_false hy
      have hI1 := hI x
      have hI2 := hI y
      rw [e1] at hI1
      rw [e2] at hI2
      rw [hr]
      clear hx hy hr e1 e2 hI
      go_enter Tryz.func73, Tryz.ntmps73
      go_wp2_with fail
      refine hI1.mono ?_
      rintro e w' ⟨rfl, rfl⟩
      go_wp2_with fail
      refine hI2.mono ?_
      rintro e w' ⟨rfl, rfl⟩
      go_wp2
      go_ret
      exact ⟨rfl, rfl⟩
  · have hr : atM n R x y = false := by unfold atM; rw [decide_eq_false hx]; simp
    have e1 : decide (0 ≤ x ∧ x < n) = false := decide_eq_false hx
    have hI1 := hI x
    rw [e1] at hI1
    rw [hr]
    clear hx hr e1 hI
    go_enter Tryz.func73, Tryz.ntmps73
    go_wp2_with fail
    refine hI1.mono ?_
    rintro e w' ⟨rfl, rfl⟩
    go_wp2
    go_ret
    exact ⟨rfl, rfl⟩
theorem all_any (w : World) (m : Int) :
    Calls Tryz.prog 92 #[.int .u32 m] w fun e w' => e = .returned (.func (.func 112) #[] #[.pointer (some ⟨w.heap.size, 0, none⟩)]) ∧ w' = w.alloc (.cells #[.int .u32 m] 153) := by
  go_enter Tryz.func92, Tryz.ntmps92
  go_wp2
  go_ret
  exact ⟨rfl, rfl⟩
end Go.Proofs.YtfhmmekamommcaaGreatDoor
