/- lattice: tables, whole. -/
import Derived.Test.YtfhmmekamommcaaGreatDoorLatTables
import Derived.Test.YtfhmmekamommcaaGreatDoorLatPO
namespace Go.Proofs.YtfhmmekamommcaaGreatDoor
set_option linter.unusedVariables false
set_option linter.unusedSimpArgs false
open Go Go.RowKit Go.Proofs Go.Shelf Go.Sort
set_option maxRecDepth 100000 in
set_option maxHeartbeats 4000000 in
theorem tables_any {w : World} {la b bu bd cu cd n : Nat} {R : Nat → Nat → Bool} {A : Option Addr} {c : Nat} {lo hi : Int} {J0 M0 : Nat → Nat → Int}
    (hO : IsOrd w b bu bd cu cd n R (flp R)) (hT : TabOk w) (hr : ∀ a, a < n → R a a = true) (hn : n ≤ 10)
    (hL : LatRaw w la (.slice A n c) (optr b) J0 M0 lo hi 0 0) (n2 : b ≠ la ∧ bu ≠ la ∧ bd ≠ la) (n3 : 1 ≠ la) :
    Calls Tryz.prog 93 #[.pointer (some ⟨la, 0, none⟩)] w fun e w' => e = .returned (.tuple #[]) ∧
      LatRaw w' la (.slice A n c) (optr b) (tabJ n (joinD n R) J0 n 0) (tabJ n (meetD n R) M0 n 0) (lastF n R lo n) (lastF n (flp R) hi n) 1 0 ∧ Chg (fun k => k = la) w w' := by
  have hlt := hL.lt
  have hal := (Chg.refl (fun k => k = la) w).alloc (.cells #[.pointer (some ⟨la, 0, none⟩)] 23)
  have hbox := heap_new w (.cells #[.pointer (some ⟨la, 0, none⟩)] 23)
  have hL1 := hL.keep (w' := w.alloc (.cells #[.pointer (some ⟨la, 0, none⟩)] 23)) (Below.heap_alloc w _ _ hlt)
  have hO1 := hO.keep (w' := w.alloc (.cells #[.pointer (some ⟨la, 0, none⟩)] 23)) (fun k c t f _ e => heap_alloc e)
  have hT1 := hT.alloc (.cells #[.pointer (some ⟨la, 0, none⟩)] 23)
  have HC0 := Lib.hid hal
  generalize hw1 : w.alloc (.cells #[.pointer (some ⟨la, 0, none⟩)] 23) = w1 at *
  generalize hB : w.heap.size = B at *
  have hL2 := hL1.setSt 1
  have hc2 : Chg (fun k => k = la) w1 (w1.setCell ⟨la, 3, none⟩ (.int .i32 1)) := (Chg.refl (fun k => k = la) w1).setCell (p := ⟨la, 3, none⟩) (.inl rfl) _
  have hO2 := hO1.chg hc2 (fun k hk e => by rcases hk with rfl | rfl | rfl; exact n2.1 e; exact n2.2.1 e; exact n2.2.2 e)
  have hT2 := hT1.chg hc2 n3
  have hf := tables1_any (w := w1.setCell ⟨la, 3, none⟩ (.int .i32 1)) (Bl := B) hO2 hT2 hr hn (cell_of_heap (hc2.keep hbox (by show ¬ B = la; omega)) 0) hL2 (by omega) n2 n3
  have hd := do_gen la 2 ⟨B, 0, none⟩ w1 _ hL1.done hL1.stat (hL1.free 3) hf (fun W h => ⟨h.1.done, h.1.stat, h.1.free 2, h.1.free 3⟩)
  have HC2 := Lib.hid hc2
  have hW1 : w.alloc (.cells #[.pointer (some ⟨la, 0, none⟩)] 23) = w1 := hw1
  clear hO hT hr hL hal hbox hL1 hO1 hT1 hL2 hO2 hT2 hf hc2 hw1
  go_enter Tryz.func93, Tryz.ntmps93
  go_upto_region 1 with fail
  try rw [hW1]
  try rw [hB]
  have hbx : w1.cell? ⟨B, 0, none⟩ = some (.pointer (some ⟨la, 0, none⟩)) := by
    rw [← hW1, ← hB]; exact cell_of_heap (heap_new w _) 0
  clear hW1 hB
  go_wp2_with (first | (go_at_call 114; refine hd.mono ?_; rintro e w2 ⟨rfl, wq, ⟨hLq, hCq⟩, rfl⟩))
  go_end0
  have hLd := hLq.keep (w' := wq.drew) rfl
  exact ⟨rfl, (hLd.setDn 1).setSt 0, (((HC0.out.trans HC2.out).trans hCq).drew.setCell (.inl rfl) _).setCell (.inl rfl) _⟩
/-- has each two a join and a meet? -/
def wholeB (n : Nat) (J M : Nat → Nat → Int) : Bool := (List.range n).all fun a => (List.range n).all fun b => !decide (J a b < 0) && !decide (M a b < 0)
theorem wholeB_no {n : Nat} {J M : Nat → Nat → Int} {a b : Nat} (ha : a < n) (hb : b < n) (h : J a b < 0 ∨ M a b < 0) : wholeB n J M = false := by
  rw [Bool.eq_false_iff]
  intro hw
  unfold wholeB at hw
  have := List.all_eq_true.1 (List.all_eq_true.1 hw a (List.mem_range.2 ha)) b (List.mem_range.2 hb)
  simp at this
  omega
theorem wholeB_yes {n : Nat} {J M : Nat → Nat → Int} (h : ∀ i j, i < n → j < n → 0 ≤ J i j ∧ 0 ≤ M i j) : wholeB n J M = true := by
  unfold wholeB
  refine List.all_eq_true.2 fun a ha => List.all_eq_true.2 fun b hb => ?_
  have := h a b (List.mem_range.1 ha) (List.mem_range.1 hb)
  simp
  omega
theorem wholeB_spec {n : Nat} {J M : Nat → Nat → Int} (h : wholeB n J M = true) : ∀ i j, i < n → j < n → 0 ≤ J i j ∧ 0 ≤ M i j := by
  intro i j hi hj
  rcases Int.lt_or_le (J i j) 0 with h1 | h1
  · rw [wholeB_no hi hj (.inl h1)] at h; cases h
  · rcases Int.lt_or_le (M i j) 0 with h2 | h2
    · rw [wholeB_no hi hj (.inr h2)] at h; cases h
    · exact ⟨h1, h2⟩
set_option maxRecDepth 100000 in
set_option maxHeartbeats 8000000 in
theorem whole_any {w : World} {la b bu bd cu cd n : Nat} {R : Nat → Nat → Bool} {A : Option Addr} {c : Nat} {lo hi : Int} {J0 M0 : Nat → Nat → Int}
    (hO : IsOrd w b bu bd cu cd n R (flp R)) (hT : TabOk w) (hr : ∀ a, a < n → R a a = true) (hn : n ≤ 10)
    (hL : LatRaw w la (.slice A n c) (optr b) J0 M0 lo hi 0 0) (n2 : b ≠ la ∧ bu ≠ la ∧ bd ≠ la) (n3 : 1 ≠ la) :
    Calls Tryz.prog 53 #[.pointer (some ⟨la, 0, none⟩)] w fun e w' => e = .returned (.bool (wholeB n (joinD n R) (meetD n R))) ∧
      LatRaw w' la (.slice A n c) (optr b) (tabJ n (joinD n R) J0 n 0) (tabJ n (meetD n R) M0 n 0) (lastF n R lo n) (lastF n (flp R) hi n) 1 0 ∧ Chg (fun k => k = la) w w' := by
  have ht := tables_any hO hT hr hn hL n2 n3
  obtain ⟨r, hr⟩ : ∃ r, wholeB n (joinD n R) (meetD n R) = r := ⟨_, rfl⟩
  rw [hr]
  have HR := Lib.hid hr
  clear hO hT hL n2 n3 hr
  go_enter Tryz.func53, Tryz.ntmps53
  go_upto_region 2 with (first | (go_at_call 93; refine ht.mono ?_; rintro e w1 ⟨rfl, hL1, hC1⟩))
  have HJ : ∀ i j, i < n → j < n → tabJ n (joinD n R) J0 n 0 i j = joinD n R i j := fun i j h1 h2 => by unfold tabJ; rw [if_pos (by omega)]
  have HM : ∀ i j, i < n → j < n → tabJ n (meetD n R) M0 n 0 i j = meetD n R i j := fun i j h1 h2 => by unfold tabJ; rw [if_pos (by omega)]
  have hq0 := hL1.names
  have HL := Lib.hid hL1
  have HC := Lib.hid hC1
  clear ht hL1 hC1
  go_wp2_with fail
  go_loop [12] (fun a => ∃ k : Nat, a = .int .i64 k ∧ k ≤ n ∧ Hid (∀ i j, i < k → j < n → 0 ≤ joinD n R i j ∧ 0 ≤ meetD n R i j)) (fun a => n - (intOf a).toNat)
  case atStart => exact ⟨0, rfl, by omega, Lib.hid (fun i j h => by omega)⟩
  case round =>
    obtain ⟨k, rfl, k0, HK⟩ := hrel
    by_cases hk : k < n
    · have hw3 : IntKind.i64.wrap ((k : Int) + 1) = k + 1 := IntWalk.i64_in _ ⟨by omega, by omega⟩
      go_wp2_with fail
      go_loop [20] (fun a => ∃ q : Nat, a = .int .i64 q ∧ q ≤ n ∧ Hid (∀ j, j < q → 0 ≤ joinD n R k j ∧ 0 ≤ meetD n R k j)) (fun a => n - (intOf a).toNat)
      case atStart => exact ⟨0, rfl, by omega, Lib.hid (fun j h => by omega)⟩
      case round =>
        obtain ⟨q, rfl, q0, HQ⟩ := hrel
        by_cases hq : q < n
        · have hw4 : IntKind.i64.wrap ((q : Int) + 1) = q + 1 := IntWalk.i64_in _ ⟨by omega, by omega⟩
          have x0 := HL.out.jn k q (by omega) (by omega)
          have x1 := HL.out.mt k q (by omega) (by omega)
          rw [HJ k q hk hq] at x0
          rw [HM k q hk hq] at x1
          have hk10 : (k : Int) < 10 := by omega
          have hq10 : (q : Int) < 10 := by omega
          have hk00 : ¬ (k : Int) < 0 := by omega
          have hq00 : ¬ (q : Int) < 0 := by omega
          obtain ⟨x, hx⟩ : ∃ x, joinD n R k q = x := ⟨_, rfl⟩
          obtain ⟨y, hy⟩ : ∃ y, meetD n R k q = y := ⟨_, rfl⟩
          rw [hx] at x0
          rw [hy] at x1
          have HX := Lib.hid hx
          have HY := Lib.hid hy
          clear hx hy
          by_cases c0 : x < 0
          · have hno := wholeB_no (J := joinD n R) (M := meetD n R) hk hq (.inl (by rw [HX.out]; exact c0))
            have HNO := Lib.hid hno
            clear hno
            go_wp2_with fail
            go_ret
            exact ⟨by rw [← HR.out, HNO.out]; rfl, HL.out, HC.out⟩
          · by_cases c1 : y < 0
            · have hno := wholeB_no (J := joinD n R) (M := meetD n R) hk hq (.inr (by rw [HY.out]; exact c1))
              have HNO := Lib.hid hno
              clear hno
              go_wp2_with fail
              go_ret
              exact ⟨by rw [← HR.out, HNO.out]; rfl, HL.out, HC.out⟩
            · go_wp2_with fail
              go_round
              case rel => exact ⟨q + 1, by go_num, by omega, Lib.hid (fun j hj => by
                by_cases e : j = q
                · subst e; rw [HX.out, HY.out]; omega
                · exact HQ.out j (by omega))⟩
              case measure => simp [intOf]; omega
        · have hqn : q = n := by omega
          have HN := Lib.hid hqn
          clear hqn
          go_wp2_with fail
          go_round
          case rel => exact ⟨k + 1, by go_num, by omega, Lib.hid (fun i j hi hj => by
            by_cases e : i = k
            · subst e; exact HQ.out j (by rw [HN.out]; exact hj)
            · exact HK.out i j (by omega) hj)⟩
          case measure => simp [intOf]; omega
    · have hkn : k = n := by omega
      have HN := Lib.hid hkn
      clear hkn
      go_wp2_with fail
      go_ret
      exact ⟨by rw [← HR.out, wholeB_yes (fun i j hi hj => HK.out i j (by rw [HN.out]; exact hi) hj)]; rfl, HL.out, HC.out⟩
end Go.Proofs.YtfhmmekamommcaaGreatDoor
