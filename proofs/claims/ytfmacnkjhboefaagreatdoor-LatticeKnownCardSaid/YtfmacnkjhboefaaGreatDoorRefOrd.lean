/- The document's order: Is, New, AtMost, Add, Down. -/
import Derived.Test.YtfmacnkjhboefaaGreatDoorRefLeast
import Derived.Test.YtfmacnkjhboefaaGreatDoorLatLaw1
namespace Go.Proofs.YtfmacnkjhboefaaGreatDoor
set_option linter.unusedVariables false
set_option linter.unusedSimpArgs false
open Go Go.RowKit Go.Proofs Go.Shelf Go.Sort
/-- the document's order: how many things, and the pairs that were taken -/
structure RefO (w : World) (B base n : Nat) (P : List (Nat × Nat)) : Prop where
  row : ∃ v, w.heap[B]? = some (.cells #[.int .i64 n, v] 89 (0, 0)) ∧ w.ownsRow base 41 2 v P.length (prs P)
  inn : ∀ p ∈ P, p.1 < n ∧ p.2 < n
  n16 : 1 ≤ n ∧ n ≤ 10
  len : P.length ≤ 1000
theorem RefO.chg {w w' : World} {B base n : Nat} {P : List (Nat × Nat)} {S : Nat → Prop} (h : RefO w B base n P) (hc : Chg S w w') (hS : ¬ S B) (hS2 : ∀ k, base ≤ k → ¬ S k) : RefO w' B base n P := by
  obtain ⟨v, hb, hr⟩ := h.row
  exact ⟨⟨v, hc.keep hb hS, own_keep hr fun k c t f hk hh => hc.keep hh (hS2 k hk)⟩, h.inn, h.n16, h.len⟩
theorem RefO.same {w w' : World} {B base n : Nat} {P : List (Nat × Nat)} (h : RefO w B base n P) (hc : Chg (fun _ => False) w w') : RefO w' B base n P := h.chg hc (fun x => x) (fun _ _ x => x)
def refp (B : Nat) : Value := .pointer (some ⟨B, 0, none⟩)
theorem RefO.cells {w : World} {B base n : Nat} {P : List (Nat × Nat)} (h : RefO w B base n P) : w.cell? ⟨B, 0, none⟩ = some (.int .i64 n) ∧ ∃ A c, w.cell? ⟨B, 1, none⟩ = some (.slice A P.length c) ∧
    ∀ i, i < P.length → ∃ g, A = some ⟨g, 0, none⟩ ∧ w.cell? ⟨g, i * 2, none⟩ = some (.int .i64 ((P.getD i (0, 0)).1 : Nat)) ∧ w.cell? ⟨g, i * 2 + 1, none⟩ = some (.int .i64 ((P.getD i (0, 0)).2 : Nat)) := by
  obtain ⟨v, hb, hr⟩ := h.row
  refine ⟨cell_of_heap hb 0, ?_⟩
  obtain ⟨A, c, hv, hL⟩ := own_pairs hr
  have e : (toP P).length = P.length := by simp [toP]
  rw [e] at hv hL
  refine ⟨A, c, by rw [cell_of_heap hb]; rw [hv]; rfl, fun i hi => ?_⟩
  obtain ⟨g, o, ha, h1, h2⟩ := hL i hi
  rcases hr.2 with ⟨e2, h0⟩ | ⟨g', cap, cur, e2, _⟩
  · omega
  · rw [hv, ha] at e2
    cases e2
    rw [toP_get P i hi, Nat.zero_add] at h1 h2
    exact ⟨_, ha, h1, h2⟩
theorem refis_some {w : World} {B base n : Nat} {P : List (Nat × Nat)} (h : RefO w B base n P) (x : Int) :
    Calls Tryz.prog 35 #[refp B, .int .i64 x] w fun e w' => e = .returned (.bool (decide (inB n x))) ∧ w' = w := by
  have h0 := h.cells.1
  unfold refp
  by_cases hx : 0 ≤ x
  · have e : decide (inB n x) = decide (x < n) := by unfold inB; simp [hx]
    rw [e]
    clear e h
    go_enter Tryz.func35, Tryz.ntmps35
    go_wp2_with fail
    go_ret
    exact ⟨rfl, rfl⟩
  · have e : decide (inB n x) = false := by unfold inB; simp [hx]
    rw [e]
    clear e h
    go_enter Tryz.func35, Tryz.ntmps35
    go_wp2_with fail
    go_ret
    exact ⟨rfl, rfl⟩
theorem refonew_some (n : Nat) (h : 1 ≤ n ∧ n ≤ 10) (w : World) :
    Calls Tryz.prog 34 #[.int .i64 n] w fun e w' => ∃ B, e = .returned (.tuple #[refp B, .int .i64 0]) ∧ RefO w' B (w.heap.size + 1) n [] ∧ w.heap.size ≤ B ∧ B < w.heap.size + 1 ∧ Chg (fun _ => False) w w' := by
  have h1 : ¬ (n : Int) < 1 := by omega
  have h2 : (n : Int) ≤ 16 := by omega
  unfold refp
  go_enter Tryz.func34, Tryz.ntmps34
  go_wp2_with fail
  go_ret2
  exact ⟨_, rfl, ⟨⟨_, heap_new w _, World.ownsRow_nil _ _ _ _⟩, (fun p hp => by cases hp), h, by simp⟩, Nat.le_refl _, by omega, (Chg.refl _ _).alloc _⟩
/-- the row of what was come to -/
def hadC (h : Nat → Bool) : Array Value := ((List.range 16).map fun j => Value.bool (h j)).toArray
theorem hadC_get (h : Nat → Bool) (j : Nat) (hj : j < 16) : (hadC h)[j]? = some (.bool (h j)) := by simp [hadC, hj]
theorem hadC_set (h : Nat → Bool) (i : Nat) : (hadC h).setIfInBounds i (.bool true) = hadC (fun j => h j || decide (j = i)) := by
  apply Array.ext_getElem?
  intro j
  by_cases hj : j < 16
  · rw [hadC_get _ j hj]
    by_cases e : i = j
    · subst e
      rw [Array.getElem?_setIfInBounds_self, if_pos (by simp [hadC]; exact hj)]
      simp
    · rw [Array.getElem?_setIfInBounds_ne e, hadC_get _ j hj]
      have : ¬ j = i := fun h => e h.symm
      simp [this]
  · rw [Array.getElem?_eq_none (by simp [hadC]; omega), Array.getElem?_eq_none (by simp [hadC]; omega)]
/-- what AtMost tells -/
def refM (n : Nat) (P : List (Nat × Nat)) (x y : Int) : Bool := decide (inB n x) && (decide (inB n y) && reach n P x.toNat y.toNat)
theorem iterH_at (P : List (Nat × Nat)) (h : Nat → Bool) (k q : Nat) (hq : q < P.length) : (P.take (q + 1)).foldl hstep (iterH P h k) = hstep ((P.take q).foldl hstep (iterH P h k)) (P.getD q (0, 0)) := by
  rw [List.take_succ_eq_append_getElem hq, List.foldl_append]
  simp [List.getD, hq]
set_option maxRecDepth 100000 in
set_option maxHeartbeats 8000000 in
theorem refatmost_in {w : World} {B base n : Nat} {P : List (Nat × Nat)} (h : RefO w B base n P) (a b : Nat) (ha : a < n) (hb : b < n) :
    Calls Tryz.prog 62 #[refp B, .int .i64 (a : Int), .int .i64 (b : Int)] w fun e w' => e = .returned (.bool (reach n P a b)) ∧ Chg (fun _ => False) w w' := by
  have hi1 := fun (W : World) (hW : Chg (fun _ => False) w W) => refis_some (h.same hW) (a : Int)
  have hi2 := fun (W : World) (hW : Chg (fun _ => False) w W) => refis_some (h.same hW) (b : Int)
  rw [decide_eq_true (show inB n (a : Int) from ⟨by omega, by omega⟩)] at hi1
  rw [decide_eq_true (show inB n (b : Int) from ⟨by omega, by omega⟩)] at hi2
  have t1 : True := trivial
  have t2 : True := trivial
  have hn := h.n16
  have hlen := h.len
  have HH := Lib.hid h
  clear h
  unfold refp at *
  go_enter Tryz.func62, Tryz.ntmps62
  go_upto_region 4 with (first | (go_at_call 35; have _t := t1; clear _t t1; refine (hi1 _ (Chg.refl _ _)).mono ?_; rintro e w ⟨rfl, rfl⟩) | (go_at_call 35; have _t := t2; clear _t t2; refine (hi2 _ (Chg.refl _ _)).mono ?_; rintro e w ⟨rfl, rfl⟩))
  have hb0 : (w.alloc (.cells #[.bool false, .bool false, .bool false, .bool false, .bool false, .bool false, .bool false, .bool false, .bool false, .bool false, .bool false, .bool false, .bool false, .bool false, .bool false, .bool false] 113)).heap[w.heap.size]? = some (.cells (hadC (fun _ => false)) 113 (0, 0)) := heap_new w _
  have hC0 := (Chg.refl (fun _ => False) w).alloc (.cells #[.bool false, .bool false, .bool false, .bool false, .bool false, .bool false, .bool false, .bool false, .bool false, .bool false, .bool false, .bool false, .bool false, .bool false, .bool false, .bool false] 113)
  generalize hz : w.heap.size = Bh at *
  generalize (w.alloc (.cells #[.bool false, .bool false, .bool false, .bool false, .bool false, .bool false, .bool false, .bool false, .bool false, .bool false, .bool false, .bool false, .bool false, .bool false, .bool false, .bool false] 113)) = w1 at *
  have x0 : w1.cell? ⟨Bh, a, none⟩ = some (.bool false) := by rw [cell_of_heap hb0, hadC_get _ a (by omega)]
  have x1 := free_of_heap hb0 a
  have ha16 : (a : Int) < 16 := by omega
  have ha0 : ¬ (a : Int) < 0 := by omega
  go_upto_region 5 with fail
  have hb1 := heap_setCell_cells hb0 a (.bool true)
  rw [hadC_set] at hb1
  have hC1 := hC0.setCell (p := ⟨Bh, a, none⟩) (.inr (by rw [hz]; exact Nat.le_refl _)) (.bool true)
  have hst : (fun j => false || decide (j = a)) = iterH P (fun j => decide (j = a)) 0 := by funext j; simp [iterH]
  rw [hst] at hb1
  clear hb0 hC0 x0 x1 hst
  generalize w1.setCell ⟨Bh, a, none⟩ (.bool true) = w2 at *
  have HB := Lib.hid hb1
  have HC := Lib.hid hC1
  have HI1 := HH.out.inn
  have HI := Lib.hid HI1
  obtain ⟨n1, n2⟩ := hn
  clear hb1 hC1 hi1 hi2 HI1
  have hBw : w.heap.size ≤ Bh := by omega
  go_wp2_with fail
  go_loopw [8] (fun i wr => ∃ k : Nat, i = .int .i64 k ∧ k ≤ n ∧ wr.heap[Bh]? = some (.cells (hadC (iterH P (fun j => decide (j = a)) k)) 113 (0, 0)) ∧ Chg (fun _ => False) w wr) (fun i _ => n - (intOf i).toNat)
  case atStart => exact ⟨0, rfl, by omega, HB.out, HC.out⟩
  case round =>
    clear HB HC
    obtain ⟨k, rfl, k0, hB, hC⟩ := hrel
    have hcl := (HH.out.same hC).cells
    obtain ⟨z0, A, c, z1, z2⟩ := hcl
    by_cases hk : k < n
    · have hw3 : IntKind.i64.wrap ((k : Int) + 1) = k + 1 := IntWalk.i64_in _ ⟨by omega, by omega⟩
      have HB := Lib.hid hB
      have HC := Lib.hid hC
      clear hB hC z1 z2
      go_upto_block 2 with fail
      clear z0
      go_wp2_with fail
      go_loopw [9] (fun i wr => ∃ q : Nat, i = .int .i64 q ∧ q ≤ P.length ∧ wr.heap[Bh]? = some (.cells (hadC ((P.take q).foldl hstep (iterH P (fun j => decide (j = a)) k))) 113 (0, 0)) ∧ Chg (fun _ => False) w wr) (fun i _ => P.length - (intOf i).toNat)
      case atStart => exact ⟨0, rfl, by omega, by simpa using HB.out, HC.out⟩
      case round =>
        clear HB HC
        obtain ⟨q, rfl, q0, hB, hC⟩ := hrel
        obtain ⟨z0, A, c, z1, z2⟩ := (HH.out.same hC).cells
        by_cases hq : q < P.length
        · have hw4 : IntKind.i64.wrap ((q : Int) + 1) = q + 1 := IntWalk.i64_in _ ⟨by omega, by omega⟩
          obtain ⟨g, rfl, y1, y2⟩ := z2 q hq
          have hin := HI.out (P.getD q (0, 0)) (by simp [List.getD, hq])
          have hstep' := iterH_at P (fun j => decide (j = a)) k q hq
          have HST := Lib.hid hstep'
          clear z2 hstep'
          generalize hp1 : (P.getD q (0, 0)).1 = x at *
          generalize hp2 : (P.getD q (0, 0)).2 = y at *
          have HP1 := Lib.hid hp1
          have HP2 := Lib.hid hp2
          clear hp1 hp2
          obtain ⟨hx, hy⟩ := hin
          obtain ⟨h, hh⟩ : ∃ h, (P.take q).foldl hstep (iterH P (fun j => decide (j = a)) k) = h := ⟨_, rfl⟩
          rw [hh] at hB
          have v0 : wr.cell? ⟨Bh, x, none⟩ = some (.bool (h x)) := by rw [cell_of_heap hB, hadC_get _ x (by omega)]
          have v1 : wr.cell? ⟨Bh, y, none⟩ = some (.bool (h y)) := by rw [cell_of_heap hB, hadC_get _ y (by omega)]
          have v2 := free_of_heap hB y
          have hx16 : (x : Int) < 16 := by omega
          have hx0 : ¬ (x : Int) < 0 := by omega
          have hy16 : (y : Int) < 16 := by omega
          have hy0 : ¬ (y : Int) < 0 := by omega
          have HH2 := Lib.hid hh
          have HB := Lib.hid hB
          have HC := Lib.hid hC
          clear hh hB hC
          obtain ⟨r, hr⟩ : ∃ r, h x = r := ⟨_, rfl⟩
          rw [hr] at v0
          have HR := Lib.hid hr
          clear hr
          cases r with
          | true =>
            go_wp2_with fail
            go_roundw
            case rel =>
              refine ⟨q + 1, by go_num, by omega, ?_, HC.out.setCell (p := ⟨Bh, y, none⟩) (.inr (by omega)) _⟩
              rw [HST.out, HH2.out]
              have := heap_setCell_cells HB.out y (.bool true)
              rw [hadC_set] at this
              have e : hstep h (P.getD q (0, 0)) = fun j => h j || decide (j = y) := by
                funext j; unfold hstep; rw [HP1.out, HP2.out, HR.out, Bool.true_and]
              rw [e]
              exact this
            case measure => simp [intOf]; omega
          | false =>
            go_wp2_with fail
            go_roundw
            case rel =>
              refine ⟨q + 1, by go_num, by omega, ?_, HC.out⟩
              rw [HST.out, HH2.out]
              have e : hstep h (P.getD q (0, 0)) = h := by
                funext j; unfold hstep; rw [HP1.out, HR.out, Bool.false_and, Bool.or_false]
              rw [e]
              exact HB.out
            case measure => simp [intOf]; omega
        · have hqn : q = P.length := by omega
          have HQ := Lib.hid hqn
          have HB := Lib.hid hB
          clear hqn hB z2
          go_wp2_with fail
          go_roundw
          case rel =>
            refine ⟨k + 1, by go_num, by omega, ?_, hC⟩
            have := HB.out
            rw [HQ.out, List.take_length] at this
            exact this
          case measure => simp [intOf]; omega
    · have hkn : k = n := by omega
      have v0 : wr.cell? ⟨Bh, b, none⟩ = some (.bool (iterH P (fun j => decide (j = a)) k b)) := by rw [cell_of_heap hB, hadC_get _ b (by omega)]
      rw [hkn] at v0
      have hb16 : (b : Int) < 16 := by omega
      have hb0' : ¬ (b : Int) < 0 := by omega
      change wr.cell? ⟨Bh, b, none⟩ = some (.bool (reach n P a b)) at v0
      clear z1 z2 hB hkn
      obtain ⟨r, hr⟩ : ∃ r, reach n P a b = r := ⟨_, rfl⟩
      rw [hr] at v0
      have HR := Lib.hid hr
      clear hr
      go_wp2_with fail
      go_ret
      exact ⟨by rw [HR.out]; rfl, hC⟩
theorem refatmost_out {w : World} {B base n : Nat} {P : List (Nat × Nat)} (h : RefO w B base n P) (x y : Int) (hr : ¬ (inB n x ∧ inB n y)) :
    Calls Tryz.prog 62 #[refp B, .int .i64 x, .int .i64 y] w fun e w' => e = .returned (.bool false) ∧ w' = w := by
  have hi1 := refis_some h x
  have hi2 := refis_some h y
  have t1 : True := trivial
  have t2 : True := trivial
  unfold refp at *
  by_cases hx : inB n x
  · have hy : ¬ inB n y := fun e => hr ⟨hx, e⟩
    rw [decide_eq_true hx] at hi1
    rw [decide_eq_false hy] at hi2
    clear hx hy hr h
    go_enter Tryz.func62, Tryz.ntmps62
    go_wp2_with (first | (go_at_call 35; have _t := t1; clear _t t1; refine hi1.mono ?_; rintro e w ⟨rfl, rfl⟩) | (go_at_call 35; have _t := t2; clear _t t2; refine hi2.mono ?_; rintro e w ⟨rfl, rfl⟩))
    go_ret
    exact ⟨rfl, rfl⟩
  · rw [decide_eq_false hx] at hi1
    clear hx hr h hi2
    go_enter Tryz.func62, Tryz.ntmps62
    go_wp2_with (first | (go_at_call 35; refine hi1.mono ?_; rintro e w ⟨rfl, rfl⟩))
    go_ret
    exact ⟨rfl, rfl⟩
/-- AtMost tells the order -/
theorem refatmost_any {w : World} {B base n : Nat} {P : List (Nat × Nat)} {R : Nat → Nat → Bool} (h : RefO w B base n P) (hL : Least n (fun i j => (i, j) ∈ P) R) (x y : Int) :
    Calls Tryz.prog 62 #[refp B, .int .i64 x, .int .i64 y] w fun e w' => e = .returned (.bool (atM n R x y)) ∧ Chg (fun _ => False) w w' := by
  by_cases hr : inB n x ∧ inB n y
  · obtain ⟨a, rfl⟩ := Int.eq_ofNat_of_zero_le hr.1.1
    obtain ⟨b, rfl⟩ := Int.eq_ofNat_of_zero_le hr.2.1
    have ha : a < n := by have := hr.1.2; omega
    have hb : b < n := by have := hr.2.2; omega
    have e : atM n R a b = reach n P a b := by rw [atM_nat ha hb, reach_eq h.inn hL ha hb]
    rw [e]
    exact refatmost_in h a b ha hb
  · have e : atM n R x y = false := by
      unfold atM
      by_cases hx : inB n x
      · have hy : ¬ inB n y := fun e => hr ⟨hx, e⟩
        unfold inB at hy
        rw [decide_eq_false hy]; simp
      · unfold inB at hx
        rw [decide_eq_false hx]; simp
    rw [e]
    exact (refatmost_out h x y hr).mono fun e w' ⟨h1, h2⟩ => ⟨h1, by rw [h2]; exact Chg.refl _ _⟩
def RefAddPost (w : World) (B base n : Nat) (P : List (Nat × Nat)) (R : Nat → Nat → Bool) (x y : Int) (e : Ending) (w' : World) : Prop :=
  e = .returned (.int .i64 (addE n R x y)) ∧ ∃ P', RefO w' B base n P' ∧ Least n (fun i j => (i, j) ∈ P') (addR n R x y) ∧ P'.length ≤ P.length + 1 ∧ Chg (fun k => k = B ∨ base ≤ k) w w'
set_option maxRecDepth 100000 in
set_option maxHeartbeats 8000000 in
theorem refadd_any {w : World} {B base n : Nat} {P : List (Nat × Nat)} {R : Nat → Nat → Bool} (h : RefO w B base n P) (hL : Least n (fun i j => (i, j) ∈ P) R) (hlen : P.length < 1000) (hbase : base ≤ w.heap.size) (hBb : B < base) (x y : Int) :
    Calls Tryz.prog 36 #[refp B, .int .i64 x, .int .i64 y] w (RefAddPost w B base n P R x y) := by
  have hi1 := refis_some h x
  have hi2 := refis_some h y
  have hat := refatmost_any h hL y x
  have t1 : True := trivial
  have t2 : True := trivial
  by_cases hr : inB n x ∧ inB n y
  · rw [decide_eq_true hr.1] at hi1
    rw [decide_eq_true hr.2] at hi2
    obtain ⟨a, rfl⟩ := Int.eq_ofNat_of_zero_le hr.1.1
    obtain ⟨b, rfl⟩ := Int.eq_ofNat_of_zero_le hr.2.1
    have ha : a < n := by have := hr.1.2; omega
    have hb : b < n := by have := hr.2.2; omega
    rw [atM_nat hb ha] at hat
    cases hc : R b a with
    | true =>
      have e1 : addE n R a b = 20 := by unfold addE; rw [if_pos hr]; simp [hc]
      have e2 : addR n R a b = R := by unfold addR; rw [if_neg (by simp [hc])]
      rw [hc] at hat
      have HH := Lib.hid h
      have HL := Lib.hid hL
      have HE1 := Lib.hid e1
      have HE2 := Lib.hid e2
      clear h hL e1 e2 hc hr
      unfold refp at *
      go_enter Tryz.func36, Tryz.ntmps36
      go_wp2_with (first | (go_at_call 35; have _t := t1; clear _t t1; refine hi1.mono ?_; rintro e w ⟨rfl, rfl⟩) | (go_at_call 35; have _t := t2; clear _t t2; refine hi2.mono ?_; rintro e w ⟨rfl, rfl⟩) | (go_at_call 62; refine hat.mono ?_; rintro e w2 ⟨rfl, hC2⟩))
      go_ret
      exact ⟨by rw [HE1.out]; rfl, P, HH.out.same hC2, by rw [HE2.out]; exact HL.out, by omega, hC2.mono (fun _ _ e => e.elim)⟩
    | false =>
      obtain ⟨e1, hL'⟩ := hL.add (S' := fun i j => (i, j) ∈ P ++ [(a, b)]) ha hb hc (fun i j => by simp)
      rw [hc] at hat
      have HH := Lib.hid h
      have HE1 := Lib.hid e1
      have HL := Lib.hid hL'
      obtain ⟨i0, hi, hz0, hz1, hz2⟩ := info_parts infoPair
      clear h hL hL' e1 hc hr
      unfold refp at *
      go_enter Tryz.func36, Tryz.ntmps36
      go_upto_region 5 with (first | (go_at_call 35; have _t := t1; clear _t t1; refine hi1.mono ?_; rintro e w ⟨rfl, rfl⟩) | (go_at_call 35; have _t := t2; clear _t t2; refine hi2.mono ?_; rintro e w ⟨rfl, rfl⟩) | (go_at_call 62; refine hat.mono ?_; rintro e w2 ⟨rfl, hC2⟩))
      have HH2 := Lib.hid (HH.out.same hC2)
      have hsz := hC2.size
      obtain ⟨v, hb2, hr2⟩ := HH2.out.row
      have HB2 := Lib.hid hb2
      have HR2 := Lib.hid hr2
      obtain ⟨A, l, c, rfl⟩ := own_slice hr2
      have z1 := cell_of_heap hb2 1
      have z2 := free_of_heap hb2 1
      simp only [List.getElem?_toArray, List.getElem?_cons_zero, List.getElem?_cons_succ] at z1
      clear hb2 hr2
      go_wp2_with (at_builtin; refine wpList_append_own_at _ rfl _ _ 23 rfl base 41 i0 (.agg #[.int .i64 0, .int .i64 0]) 2 16 Tryz.underlying23 hi hz0 hz1 hz2 rfl (by decide) _ _ _ rfl (HR2.out.alloc _) ⟨w2.heap.size, 0, none⟩ 1 1 [.int .i64 (a : Int), .int .i64 (b : Int)] rfl rfl (two_new _ _ _ _) ?c2 ?c3 ?c4 ?c5 ?_)
      case c2 => simp [Value.oneCell']
      case c3 => unfold maxLen; omega
      case c4 => omega
      case c5 => simp; omega
      intro v' w3 hown' hgrow hnil hat'
      have hb3 := grown_other HR2.out hgrow HB2.out (by decide)
      have hC3 : Chg (fun k => k = B ∨ base ≤ k) w w3 := (Chg.mono hC2 (S' := fun k => k = B ∨ base ≤ k) (fun _ _ e => e.elim)).trans (((Chg.refl _ w2).alloc _).grown hgrow (fun j e => .inl (.inr (own_block HR2.out e))))
      obtain ⟨A3, l3, c3, rfl⟩ := own_slice hown'
      have HB3 := Lib.hid hb3
      have HN := Lib.hid hown'
      have z3 := cell_of_heap hb3 1
      have z4 := free_of_heap hb3 1
      simp only [List.getElem?_toArray, List.getElem?_cons_zero, List.getElem?_cons_succ] at z3
      clear hown' hgrow hnil hat' hb3 z1 z2
      go_wp2_with fail
      go_ret
      refine ⟨by rw [HE1.out]; rfl, P ++ [(a, b)], ⟨⟨.slice A3 l3 c3, ?_, ?_⟩, ?_, HH.out.n16, ?_⟩, HL.out, by simp, hC3.setCell (p := ⟨B, 1, none⟩) (.inl (.inl rfl)) _⟩
      · exact heap_setCell_cells HB3.out 1 (.slice A3 l3 c3)
      · rw [prs_snoc, List.length_append]
        refine own_keep HN.out fun k c' t f hk hh => heap_setCell hh (by show k ≠ B; omega) _
      · intro p hp
        rcases List.mem_append.1 hp with hp | hp
        · exact HH.out.inn p hp
        · obtain rfl : p = (a, b) := by simpa using hp
          exact ⟨ha, hb⟩
      · simp; omega
  · have e1 : addE n R x y = 9 := by unfold addE; rw [if_neg hr]
    have e2 : addR n R x y = R := by unfold addR; rw [if_neg (fun h => hr h.1)]
    have HH := Lib.hid h
    have HL := Lib.hid hL
    have HE1 := Lib.hid e1
    have HE2 := Lib.hid e2
    clear h hL e1 e2 hat
    unfold refp at *
    by_cases hx : inB n x
    · have hy : ¬ inB n y := fun e => hr ⟨hx, e⟩
      rw [decide_eq_true hx] at hi1
      rw [decide_eq_false hy] at hi2
      clear hx hy hr
      go_enter Tryz.func36, Tryz.ntmps36
      go_wp2_with (first | (go_at_call 35; have _t := t1; clear _t t1; refine hi1.mono ?_; rintro e w ⟨rfl, rfl⟩) | (go_at_call 35; have _t := t2; clear _t t2; refine hi2.mono ?_; rintro e w ⟨rfl, rfl⟩))
      go_ret
      exact ⟨by rw [HE1.out]; rfl, P, HH.out, by rw [HE2.out]; exact HL.out, by omega, Chg.refl _ _⟩
    · rw [decide_eq_false hx] at hi1
      clear hx hr hi2
      go_enter Tryz.func36, Tryz.ntmps36
      go_wp2_with (first | (go_at_call 35; refine hi1.mono ?_; rintro e w ⟨rfl, rfl⟩))
      go_ret
      exact ⟨by rw [HE1.out]; rfl, P, HH.out, by rw [HE2.out]; exact HL.out, by omega, Chg.refl _ _⟩
end Go.Proofs.YtfmacnkjhboefaaGreatDoor
