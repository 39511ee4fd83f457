/- The document's lattice: what it answers. -/
import Derived.Test.YtfmacnkjhboefaaGreatDoorRefMake
import Derived.Test.YtfmacnkjhboefaaGreatDoorLatFns2
namespace Go.Proofs.YtfmacnkjhboefaaGreatDoor
set_option linter.unusedVariables false
set_option linter.unusedSimpArgs false
open Go Go.RowKit Go.Proofs Go.Shelf Go.Sort
/-- the document's lattice, as it is read -/
structure RefV (w : World) (la bo : Nat) (N : List (List UInt8)) (R : Nat → Nat → Bool) : Prop where
  ord : w.cell? ⟨la, 1, none⟩ = some (.pointer (some ⟨bo, 0, none⟩))
  many : w.cell? ⟨bo, 0, none⟩ = some (.int .i64 N.length)
  n10 : 1 ≤ N.length ∧ N.length ≤ 10
  le : ∀ i j, i < N.length → j < N.length → w.cell? ⟨la, 2 + i * 10 + j, none⟩ = some (.bool (R i j))
  jn : ∀ i j, i < N.length → j < N.length → w.cell? ⟨la, 102 + i * 10 + j, none⟩ = some (.int .i64 (joinD N.length R i j))
  mt : ∀ i j, i < N.length → j < N.length → w.cell? ⟨la, 202 + i * 10 + j, none⟩ = some (.int .i64 (meetD N.length R i j))
  nam : ∃ g cap, w.cell? ⟨la, 0, none⟩ = some (.slice (some ⟨g, 0, none⟩) N.length cap) ∧ ∀ i, i < N.length → w.cell? ⟨g, i, none⟩ = some (.string (bs (N.getD i [])))
  po : PO N.length R
  is : ∀ x : Int, Calls Tryz.prog 35 #[.pointer (some ⟨bo, 0, none⟩), .int .i64 x] w fun e w' => e = .returned (.bool (decide (inB N.length x))) ∧ w' = w
  at' : ∀ W : World, Chg (fun _ => False) w W → ∀ x y : Int, Calls Tryz.prog 62 #[.pointer (some ⟨bo, 0, none⟩), .int .i64 x, .int .i64 y] W fun e w' => e = .returned (.bool (atM N.length R x y)) ∧ Chg (fun _ => False) W w'
theorem IsRef.v {w : World} {base la : Nat} {N : List (List UInt8)} {R : Nat → Nat → Bool} (h : IsRef w base la N R) : ∃ bo, RefV w la bo N R := by
  obtain ⟨bo, bs', Pd, g, cap, _, hO, hL, hC, hN⟩ := h
  have n10 := hO.n16
  refine ⟨bo, hC.ord, hO.cells.1, n10, fun i j hi hj => ?_, fun i j hi hj => ?_, fun i j hi hj => ?_, ⟨g, cap, hC.nam, hN⟩, hL.po, fun x => refis_some hO x, fun W hW x y => refatmost_any (hO.same hW) hL x y⟩
  · rw [hC.leAt i j (by omega) (by omega)]; unfold tabB; rw [if_pos (by omega)]
  · rw [hC.jnAt i j (by omega) (by omega)]; unfold tabJ; rw [if_pos (by omega)]
  · rw [hC.mtAt i j (by omega) (by omega)]; unfold tabJ; rw [if_pos (by omega)]
theorem IsRef.chg {w w' : World} {base la : Nat} {N : List (List UInt8)} {R : Nat → Nat → Bool} {S : Nat → Prop} (h : IsRef w base la N R) (hc : Chg S w w') (hS : ∀ k, base ≤ k → ¬ S k) : IsRef w' base la N R := by
  obtain ⟨bo, bs', Pd, g, cap, ⟨h1, h2, h3, h4⟩, hO, hL, hC, hN⟩ := h
  exact ⟨bo, bs', Pd, g, cap, ⟨h1, h2, h3, h4⟩, hO.chg hc (hS _ h2) (fun k hk => hS _ (Nat.le_trans h3 hk)), hL, hC.keep (hc.block _ hC.lt (hS _ h1)), fun i hi => hc.cell (hN i hi) (hS _ h4)⟩
theorem IsRef.same {w w' : World} {base la : Nat} {N : List (List UInt8)} {R : Nat → Nat → Bool} (h : IsRef w base la N R) (hc : Chg (fun _ => False) w w') : IsRef w' base la N R := h.chg hc (fun _ _ x => x)
theorem els_full (n : Nat) (p : Nat → Bool) : (els n p).length = n ↔ ∀ j, j < n → p j = true := by
  unfold els
  constructor
  · intro h j hj
    have := List.length_filter_eq_length_iff.1 (by rw [h, List.length_range] : ((List.range n).filter p).length = (List.range n).length)
    exact this j (List.mem_range.2 hj)
  · intro h
    rw [List.filter_eq_self.2 (fun j hj => h j (List.mem_range.1 hj)), List.length_range]
/-- the last one is the first one where there is but one -/
theorem lastF_hit {n : Nat} {R : Nat → Nat → Bool} (h : PO n R) {a : Nat} (ha : a < n) (hr : ∀ j, j < n → R a j = true) : lastF n R 0 n = a := by
  have key : ∀ k, k ≤ n → lastF n R 0 k = if a < k then (a : Int) else 0 := by
    intro k
    induction k with
    | zero => intro _; rfl
    | succ k ih =>
      intro hk
      rw [lastF_succ, ih (by omega)]
      by_cases e : k = a
      · subst e
        rw [if_pos ((els_full n _).2 hr), if_pos (by omega)]
      · rw [if_neg (fun hf => e (by
          have h1 := (els_full n _).1 hf a ha
          exact h.anti k a (by omega) ha h1 (hr k (by omega))))]
        by_cases h2 : a < k
        · rw [if_pos h2, if_pos (by omega)]
        · rw [if_neg h2, if_neg (by omega)]
  rw [key n (Nat.le_refl _), if_pos ha]
theorem lastF_none {n : Nat} {R : Nat → Nat → Bool} (hr : ∀ a, a < n → ∃ j, j < n ∧ R a j = false) : lastF n R 0 n = 0 := by
  have key : ∀ k, k ≤ n → lastF n R 0 k = 0 := by
    intro k
    induction k with
    | zero => intro _; rfl
    | succ k ih =>
      intro hk
      rw [lastF_succ, ih (by omega), if_neg]
      intro hf
      obtain ⟨j, hj, e⟩ := hr k (by omega)
      rw [(els_full n _).1 hf j hj] at e
      cases e
  exact key n (Nat.le_refl _)
theorem PO.flp {n : Nat} {R : Nat → Nat → Bool} (h : PO n R) : PO n (flp R) := ⟨h.rfl', fun i j k hi hj hk h1 h2 => h.trans' k j i hk hj hi h2 h1, fun i j hi hj h1 h2 => h.anti i j hi hj h2 h1⟩
set_option maxRecDepth 100000 in
set_option maxHeartbeats 8000000 in
theorem rLow {w : World} {la bo : Nat} {N : List (List UInt8)} {R : Nat → Nat → Bool} (h : RefV w la bo N R) :
    Calls Tryz.prog 41 #[refp la] w fun e w' => e = .returned (.int .i64 (lastF N.length R 0 N.length)) ∧ w' = w := by
  have z1 := h.ord
  have z2 := h.many
  obtain ⟨n1, n10⟩ := h.n10
  have HH := Lib.hid h
  obtain ⟨r, hr⟩ : ∃ r, lastF N.length R 0 N.length = r := ⟨_, rfl⟩
  rw [hr]
  have HR := Lib.hid hr
  generalize hn : N.length = n at *
  have HN := Lib.hid hn
  clear h hr hn
  unfold refp at *
  go_enter Tryz.func41, Tryz.ntmps41
  go_wp2_with fail
  go_loop [3] (fun i => ∃ c : Nat, i = .int .i64 c ∧ c ≤ n ∧ Hid (∀ a, a < c → ∃ j, j < n ∧ R a j = false)) (fun i => n - (intOf i).toNat)
  case atStart => exact ⟨0, rfl, by omega, Lib.hid (fun j h => by omega)⟩
  case round =>
    obtain ⟨a, rfl, c0, HK⟩ := hrel
    by_cases ha : a < n
    · have hw3 : IntKind.i64.wrap ((a : Int) + 1) = a + 1 := IntWalk.i64_in _ ⟨by omega, by omega⟩
      have ha10 : (a : Int) < 10 := by omega
      have ha0 : ¬ (a : Int) < 0 := by omega
      go_wp2_with fail
      go_loop [4, 5] (fun t i => ∃ (d : Nat) (l : Bool), i = .int .i64 d ∧ d ≤ n ∧ t = .bool l ∧ Hid (l = (List.range d).all fun j => R a j)) (fun _ i => n - (intOf i).toNat)
      case atStart => exact ⟨0, true, rfl, by omega, rfl, Lib.hid (by simp)⟩
      case round =>
        obtain ⟨j, l, rfl, d0, rfl, HL⟩ := hrel
        by_cases hd : j < n
        · have hw4 : IntKind.i64.wrap ((j : Int) + 1) = j + 1 := IntWalk.i64_in _ ⟨by omega, by omega⟩
          have hd10 : (j : Int) < 10 := by omega
          have hd0 : ¬ (j : Int) < 0 := by omega
          have y1 := HH.out.le a j (by rw [HN.out]; omega) (by rw [HN.out]; omega)
          obtain ⟨q, hq⟩ : ∃ q, R a j = q := ⟨_, rfl⟩
          rw [hq] at y1
          have G := Lib.hid hq
          clear hq
          cases l with
          | true =>
            go_wp2_with fail
            go_round
            case rel => exact ⟨j + 1, q, by go_num, by omega, rfl, Lib.hid (by rw [all_range_succ, ← HL.out, Bool.true_and]; exact G.out.symm)⟩
            case measure => simp [intOf]; omega
          | false =>
            go_wp2_with fail
            go_round
            case rel => exact ⟨j + 1, false, by go_num, by omega, rfl, Lib.hid (by rw [all_range_succ, ← HL.out, Bool.false_and])⟩
            case measure => simp [intOf]; omega
        · have hdn : j = n := by omega
          have HD := Lib.hid hdn
          clear hdn
          cases l with
          | true =>
            have hall : ∀ j, j < n → R a j = true := fun i hi => by
              have := HL.out
              rw [HD.out] at this
              exact List.all_eq_true.1 this.symm i (List.mem_range.2 hi)
            have hres : lastF n R 0 n = a := lastF_hit (by rw [← HN.out]; exact HH.out.po) ha hall
            have HRES := Lib.hid hres
            clear hall hres
            go_wp2_with fail
            go_ret
            exact ⟨by rw [← HR.out, HRES.out]; rfl, rfl⟩
          | false =>
            have hno : ∃ j, j < n ∧ R a j = false := by
              have := HL.out
              rw [HD.out] at this
              obtain ⟨i, hi, e⟩ := List.all_eq_false.1 this.symm
              exact ⟨i, List.mem_range.1 hi, by simpa using e⟩
            have HNO := Lib.hid hno
            clear hno
            go_wp2_with fail
            go_round
            case rel => exact ⟨a + 1, by go_num, by omega, Lib.hid (fun i hi => by
              by_cases e : i = a
              · subst e; exact HNO.out
              · exact HK.out i (by omega))⟩
            case measure => simp [intOf]; omega
    · have han : a = n := by omega
      have hres : lastF n R 0 n = 0 := lastF_none (fun i hi => HK.out i (by omega))
      have HRES := Lib.hid hres
      clear hres han
      go_wp2_with fail
      go_ret
      exact ⟨by rw [← HR.out, HRES.out]; rfl, rfl⟩
set_option maxRecDepth 100000 in
set_option maxHeartbeats 8000000 in
theorem rHigh {w : World} {la bo : Nat} {N : List (List UInt8)} {R : Nat → Nat → Bool} (h : RefV w la bo N R) :
    Calls Tryz.prog 42 #[refp la] w fun e w' => e = .returned (.int .i64 (lastF N.length (flp R) 0 N.length)) ∧ w' = w := by
  have z1 := h.ord
  have z2 := h.many
  obtain ⟨n1, n10⟩ := h.n10
  have HH := Lib.hid h
  obtain ⟨r, hr⟩ : ∃ r, lastF N.length (flp R) 0 N.length = r := ⟨_, rfl⟩
  rw [hr]
  have HR := Lib.hid hr
  generalize hn : N.length = n at *
  have HN := Lib.hid hn
  clear h hr hn
  unfold refp at *
  go_enter Tryz.func42, Tryz.ntmps42
  go_wp2_with fail
  go_loop [3] (fun i => ∃ c : Nat, i = .int .i64 c ∧ c ≤ n ∧ Hid (∀ a, a < c → ∃ j, j < n ∧ R j a = false)) (fun i => n - (intOf i).toNat)
  case atStart => exact ⟨0, rfl, by omega, Lib.hid (fun j h => by omega)⟩
  case round =>
    obtain ⟨a, rfl, c0, HK⟩ := hrel
    by_cases ha : a < n
    · have hw3 : IntKind.i64.wrap ((a : Int) + 1) = a + 1 := IntWalk.i64_in _ ⟨by omega, by omega⟩
      have ha10 : (a : Int) < 10 := by omega
      have ha0 : ¬ (a : Int) < 0 := by omega
      go_wp2_with fail
      go_loop [4, 5] (fun t i => ∃ (d : Nat) (l : Bool), i = .int .i64 d ∧ d ≤ n ∧ t = .bool l ∧ Hid (l = (List.range d).all fun j => R j a)) (fun _ i => n - (intOf i).toNat)
      case atStart => exact ⟨0, true, rfl, by omega, rfl, Lib.hid (by simp)⟩
      case round =>
        obtain ⟨j, l, rfl, d0, rfl, HL⟩ := hrel
        by_cases hd : j < n
        · have hw4 : IntKind.i64.wrap ((j : Int) + 1) = j + 1 := IntWalk.i64_in _ ⟨by omega, by omega⟩
          have hd10 : (j : Int) < 10 := by omega
          have hd0 : ¬ (j : Int) < 0 := by omega
          have y1 := HH.out.le j a (by rw [HN.out]; omega) (by rw [HN.out]; omega)
          obtain ⟨q, hq⟩ : ∃ q, R j a = q := ⟨_, rfl⟩
          rw [hq] at y1
          have G := Lib.hid hq
          clear hq
          cases l with
          | true =>
            go_wp2_with fail
            go_round
            case rel => exact ⟨j + 1, q, by go_num, by omega, rfl, Lib.hid (by rw [all_range_succ, ← HL.out, Bool.true_and]; exact G.out.symm)⟩
            case measure => simp [intOf]; omega
          | false =>
            go_wp2_with fail
            go_round
            case rel => exact ⟨j + 1, false, by go_num, by omega, rfl, Lib.hid (by rw [all_range_succ, ← HL.out, Bool.false_and])⟩
            case measure => simp [intOf]; omega
        · have hdn : j = n := by omega
          have HD := Lib.hid hdn
          clear hdn
          cases l with
          | true =>
            have hall : ∀ j, j < n → R j a = true := fun i hi => by
              have := HL.out
              rw [HD.out] at this
              exact List.all_eq_true.1 this.symm i (List.mem_range.2 hi)
            have hres : lastF n (flp R) 0 n = a := lastF_hit (by rw [← HN.out]; exact HH.out.po.flp) ha hall
            have HRES := Lib.hid hres
            clear hall hres
            go_wp2_with fail
            go_ret
            exact ⟨by rw [← HR.out, HRES.out]; rfl, rfl⟩
          | false =>
            have hno : ∃ j, j < n ∧ R j a = false := by
              have := HL.out
              rw [HD.out] at this
              obtain ⟨i, hi, e⟩ := List.all_eq_false.1 this.symm
              exact ⟨i, List.mem_range.1 hi, by simpa using e⟩
            have HNO := Lib.hid hno
            clear hno
            go_wp2_with fail
            go_round
            case rel => exact ⟨a + 1, by go_num, by omega, Lib.hid (fun i hi => by
              by_cases e : i = a
              · subst e; exact HNO.out
              · exact HK.out i (by omega))⟩
            case measure => simp [intOf]; omega
    · have han : a = n := by omega
      have hres : lastF n (flp R) 0 n = 0 := lastF_none (fun i hi => HK.out i (by omega))
      have HRES := Lib.hid hres
      clear hres han
      go_wp2_with fail
      go_ret
      exact ⟨by rw [← HR.out, HRES.out]; rfl, rfl⟩
theorem rIs {w : World} {la bo : Nat} {N : List (List UInt8)} {R : Nat → Nat → Bool} (h : RefV w la bo N R) (x : Int) :
    Calls Tryz.prog 66 #[refp la, .int .i64 x] w fun e w' => e = .returned (.bool (decide (inB N.length x))) ∧ w' = w := by
  have z1 := h.ord
  have hi := h.is x
  generalize decide (inB N.length x) = r at *
  clear h
  unfold refp
  go_enter Tryz.func66, Tryz.ntmps66
  go_wp2_with (first | (go_at_call 35; refine hi.mono ?_; rintro e w ⟨rfl, rfl⟩))
  go_ret
  exact ⟨rfl, rfl⟩
theorem rName {w : World} {la bo : Nat} {N : List (List UInt8)} {R : Nat → Nat → Bool} (h : RefV w la bo N R) (x : Int) :
    Calls Tryz.prog 43 #[refp la, .int .i64 x] w fun e w' => e = .returned (.string (bs (lName N x))) ∧ w' = w := by
  have hx := rIs h x
  obtain ⟨g, cap, z0, hN⟩ := h.nam
  by_cases hp : inB N.length x
  · have e : lName N x = N.getD x.toNat [] := by unfold lName; rw [if_pos hp]
    rw [e]
    rw [decide_eq_true hp] at hx
    obtain ⟨a, rfl⟩ := Int.eq_ofNat_of_zero_le hp.1
    have ha : a < N.length := by have := hp.2; omega
    have z := hN a ha
    simp only [Int.toNat_natCast]
    generalize bs (N.getD a []) = s at *
    clear e hN hp h
    unfold refp at *
    go_enter Tryz.func43, Tryz.ntmps43
    go_wp2_with (first | (go_at_call 66; refine hx.mono ?_; rintro e w ⟨rfl, rfl⟩))
    go_ret
    exact ⟨rfl, rfl⟩
  · have e : lName N x = [] := by unfold lName; rw [if_neg hp]
    rw [e]
    rw [decide_eq_false hp] at hx
    clear e hN hp h
    unfold refp at *
    go_enter Tryz.func43, Tryz.ntmps43
    go_wp2_with (first | (go_at_call 66; refine hx.mono ?_; rintro e w ⟨rfl, rfl⟩))
    go_ret
    exact ⟨rfl, rfl⟩
theorem rLeq {w : World} {la bo : Nat} {N : List (List UInt8)} {R : Nat → Nat → Bool} (h : RefV w la bo N R) (x y : Int) :
    Calls Tryz.prog 44 #[refp la, .int .i64 x, .int .i64 y] w fun e w' => e = .returned (.bool (atM N.length R x y)) ∧ w' = w := by
  have hx := rIs h x
  have hy := rIs h y
  have t1 : True := trivial
  have t2 : True := trivial
  obtain ⟨n1, n10⟩ := h.n10
  by_cases hp : inB N.length x
  · by_cases hq : inB N.length y
    · rw [decide_eq_true hp] at hx
      rw [decide_eq_true hq] at hy
      obtain ⟨a, rfl⟩ := Int.eq_ofNat_of_zero_le hp.1
      obtain ⟨b, rfl⟩ := Int.eq_ofNat_of_zero_le hq.1
      have ha : a < N.length := by have := hp.2; omega
      have hb : b < N.length := by have := hq.2; omega
      have z := h.le a b ha hb
      rw [atM_nat ha hb]
      have hk10 : (a : Int) < 10 := by omega
      have hq10 : (b : Int) < 10 := by omega
      generalize R a b = r at *
      clear h hp hq
      unfold refp at *
      go_enter Tryz.func44, Tryz.ntmps44
      go_wp2_with (first | (go_at_call 66; have _t := t1; clear _t t1; refine hx.mono ?_; rintro e w ⟨rfl, rfl⟩) | (go_at_call 66; have _t := t2; clear _t t2; refine hy.mono ?_; rintro e w ⟨rfl, rfl⟩))
      go_ret
      exact ⟨rfl, rfl⟩
    · have e : atM N.length R x y = false := by unfold atM; unfold inB at hq; rw [decide_eq_false hq]; simp
      rw [e]
      rw [decide_eq_true hp] at hx
      rw [decide_eq_false hq] at hy
      clear e h hp hq
      unfold refp at *
      go_enter Tryz.func44, Tryz.ntmps44
      go_wp2_with (first | (go_at_call 66; have _t := t1; clear _t t1; refine hx.mono ?_; rintro e w ⟨rfl, rfl⟩) | (go_at_call 66; have _t := t2; clear _t t2; refine hy.mono ?_; rintro e w ⟨rfl, rfl⟩))
      go_ret
      exact ⟨rfl, rfl⟩
  · have e : atM N.length R x y = false := by unfold atM; unfold inB at hp; rw [decide_eq_false hp]; simp
    rw [e]
    rw [decide_eq_false hp] at hx
    clear e h hp hy
    unfold refp at *
    go_enter Tryz.func44, Tryz.ntmps44
    go_wp2_with (first | (go_at_call 66; refine hx.mono ?_; rintro e w ⟨rfl, rfl⟩))
    go_ret
    exact ⟨rfl, rfl⟩
theorem rJoin {w : World} {la bo : Nat} {N : List (List UInt8)} {R : Nat → Nat → Bool} (h : RefV w la bo N R) (x y : Int) :
    Calls Tryz.prog 45 #[refp la, .int .i64 x, .int .i64 y] w fun e w' => e = .returned (.int .i64 (lJoin N.length R x y)) ∧ w' = w := by
  have hx := rIs h x
  have hy := rIs h y
  have hh := rHigh h
  have t1 : True := trivial
  have t2 : True := trivial
  obtain ⟨n1, n10⟩ := h.n10
  by_cases hp : inB N.length x
  · by_cases hq : inB N.length y
    · have e : lJoin N.length R x y = joinD N.length R x.toNat y.toNat := by unfold lJoin; rw [if_pos ⟨hp, hq⟩]
      rw [e]
      rw [decide_eq_true hp] at hx
      rw [decide_eq_true hq] at hy
      obtain ⟨a, rfl⟩ := Int.eq_ofNat_of_zero_le hp.1
      obtain ⟨b, rfl⟩ := Int.eq_ofNat_of_zero_le hq.1
      have ha : a < N.length := by have := hp.2; omega
      have hb : b < N.length := by have := hq.2; omega
      have z := h.jn a b ha hb
      simp only [Int.toNat_natCast]
      have hk10 : (a : Int) < 10 := by omega
      have hq10 : (b : Int) < 10 := by omega
      generalize joinD N.length R a b = r at *
      clear h hp hq e hh
      unfold refp at *
      go_enter Tryz.func45, Tryz.ntmps45
      go_wp2_with (first | (go_at_call 66; have _t := t1; clear _t t1; refine hx.mono ?_; rintro e w ⟨rfl, rfl⟩) | (go_at_call 66; have _t := t2; clear _t t2; refine hy.mono ?_; rintro e w ⟨rfl, rfl⟩))
      go_ret
      exact ⟨rfl, rfl⟩
    · have e : lJoin N.length R x y = lastF N.length (flp R) 0 N.length := by unfold lJoin; rw [if_neg (fun h => hq h.2)]
      rw [e]
      rw [decide_eq_true hp] at hx
      rw [decide_eq_false hq] at hy
      clear e h hp hq
      generalize lastF N.length (flp R) 0 N.length = r at *
      unfold refp at *
      go_enter Tryz.func45, Tryz.ntmps45
      go_wp2_with (first | (go_at_call 66; have _t := t1; clear _t t1; refine hx.mono ?_; rintro e w ⟨rfl, rfl⟩) | (go_at_call 66; have _t := t2; clear _t t2; refine hy.mono ?_; rintro e w ⟨rfl, rfl⟩) | (go_at_call 42; refine hh.mono ?_; rintro e w ⟨rfl, rfl⟩))
      go_ret
      exact ⟨rfl, rfl⟩
  · have e : lJoin N.length R x y = lastF N.length (flp R) 0 N.length := by unfold lJoin; rw [if_neg (fun h => hp h.1)]
    rw [e]
    rw [decide_eq_false hp] at hx
    clear e h hp hy
    generalize lastF N.length (flp R) 0 N.length = r at *
    unfold refp at *
    go_enter Tryz.func45, Tryz.ntmps45
    go_wp2_with (first | (go_at_call 66; refine hx.mono ?_; rintro e w ⟨rfl, rfl⟩) | (go_at_call 42; refine hh.mono ?_; rintro e w ⟨rfl, rfl⟩))
    go_ret
    exact ⟨rfl, rfl⟩
theorem rMeet {w : World} {la bo : Nat} {N : List (List UInt8)} {R : Nat → Nat → Bool} (h : RefV w la bo N R) (x y : Int) :
    Calls Tryz.prog 46 #[refp la, .int .i64 x, .int .i64 y] w fun e w' => e = .returned (.int .i64 (lMeet N.length R x y)) ∧ w' = w := by
  have hx := rIs h x
  have hy := rIs h y
  have hh := rLow h
  have t1 : True := trivial
  have t2 : True := trivial
  obtain ⟨n1, n10⟩ := h.n10
  by_cases hp : inB N.length x
  · by_cases hq : inB N.length y
    · have e : lMeet N.length R x y = meetD N.length R x.toNat y.toNat := by unfold lMeet; rw [if_pos ⟨hp, hq⟩]
      rw [e]
      rw [decide_eq_true hp] at hx
      rw [decide_eq_true hq] at hy
      obtain ⟨a, rfl⟩ := Int.eq_ofNat_of_zero_le hp.1
      obtain ⟨b, rfl⟩ := Int.eq_ofNat_of_zero_le hq.1
      have ha : a < N.length := by have := hp.2; omega
      have hb : b < N.length := by have := hq.2; omega
      have z := h.mt a b ha hb
      simp only [Int.toNat_natCast]
      have hk10 : (a : Int) < 10 := by omega
      have hq10 : (b : Int) < 10 := by omega
      generalize meetD N.length R a b = r at *
      clear h hp hq e hh
      unfold refp at *
      go_enter Tryz.func46, Tryz.ntmps46
      go_wp2_with (first | (go_at_call 66; have _t := t1; clear _t t1; refine hx.mono ?_; rintro e w ⟨rfl, rfl⟩) | (go_at_call 66; have _t := t2; clear _t t2; refine hy.mono ?_; rintro e w ⟨rfl, rfl⟩))
      go_ret
      exact ⟨rfl, rfl⟩
    · have e : lMeet N.length R x y = lastF N.length R 0 N.length := by unfold lMeet; rw [if_neg (fun h => hq h.2)]
      rw [e]
      rw [decide_eq_true hp] at hx
      rw [decide_eq_false hq] at hy
      clear e h hp hq
      generalize lastF N.length R 0 N.length = r at *
      unfold refp at *
      go_enter Tryz.func46, Tryz.ntmps46
      go_wp2_with (first | (go_at_call 66; have _t := t1; clear _t t1; refine hx.mono ?_; rintro e w ⟨rfl, rfl⟩) | (go_at_call 66; have _t := t2; clear _t t2; refine hy.mono ?_; rintro e w ⟨rfl, rfl⟩) | (go_at_call 41; refine hh.mono ?_; rintro e w ⟨rfl, rfl⟩))
      go_ret
      exact ⟨rfl, rfl⟩
  · have e : lMeet N.length R x y = lastF N.length R 0 N.length := by unfold lMeet; rw [if_neg (fun h => hp h.1)]
    rw [e]
    rw [decide_eq_false hp] at hx
    clear e h hp hy
    generalize lastF N.length R 0 N.length = r at *
    unfold refp at *
    go_enter Tryz.func46, Tryz.ntmps46
    go_wp2_with (first | (go_at_call 66; refine hx.mono ?_; rintro e w ⟨rfl, rfl⟩) | (go_at_call 41; refine hh.mono ?_; rintro e w ⟨rfl, rfl⟩))
    go_ret
    exact ⟨rfl, rfl⟩
end Go.Proofs.YtfmacnkjhboefaaGreatDoor
