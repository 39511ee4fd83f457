/- Do both lattices stand alike? (same) -/
import Derived.Test.YtfmacnkjhboefaaGreatDoorRefFns3
import Derived.Test.YtfmacnkjhboefaaGreatDoorLatWorks
namespace Go.Proofs.YtfmacnkjhboefaaGreatDoor
set_option linter.unusedVariables false
set_option linter.unusedSimpArgs false
open Go Go.RowKit Go.Proofs Go.Shelf Go.Sort
section
variable {w : World} {base la : Nat} {N : List (List UInt8)} {R : Nat → Nat → Bool}
theorem IsRef.name (h : IsRef w base la N R) (x : Int) : Calls Tryz.prog 43 #[refp la, .int .i64 x] w fun e w' => e = .returned (.string (bs (lName N x))) ∧ w' = w := by
  obtain ⟨bo, hv⟩ := h.v; exact rName hv x
theorem IsRef.code (h : IsRef w base la N R) (x : Int) : Calls Tryz.prog 40 #[refp la, .int .i64 x] w fun e w' => e = .returned (.int .i64 (lCode N.length R x)) ∧ Chg (fun _ => False) w w' := by
  obtain ⟨bo, hv⟩ := h.v; exact rCode hv x
theorem IsRef.leq (h : IsRef w base la N R) (x y : Int) : Calls Tryz.prog 44 #[refp la, .int .i64 x, .int .i64 y] w fun e w' => e = .returned (.bool (atM N.length R x y)) ∧ w' = w := by
  obtain ⟨bo, hv⟩ := h.v; exact rLeq hv x y
theorem IsRef.join (h : IsRef w base la N R) (x y : Int) : Calls Tryz.prog 45 #[refp la, .int .i64 x, .int .i64 y] w fun e w' => e = .returned (.int .i64 (lJoin N.length R x y)) ∧ w' = w := by
  obtain ⟨bo, hv⟩ := h.v; exact rJoin hv x y
theorem IsRef.meet (h : IsRef w base la N R) (x y : Int) : Calls Tryz.prog 46 #[refp la, .int .i64 x, .int .i64 y] w fun e w' => e = .returned (.int .i64 (lMeet N.length R x y)) ∧ w' = w := by
  obtain ⟨bo, hv⟩ := h.v; exact rMeet hv x y
theorem IsRef.low (h : IsRef w base la N R) : Calls Tryz.prog 41 #[refp la] w fun e w' => e = .returned (.int .i64 (lastF N.length R 0 N.length)) ∧ w' = w := by
  obtain ⟨bo, hv⟩ := h.v; exact rLow hv
theorem IsRef.high (h : IsRef w base la N R) : Calls Tryz.prog 42 #[refp la] w fun e w' => e = .returned (.int .i64 (lastF N.length (flp R) 0 N.length)) ∧ w' = w := by
  obtain ⟨bo, hv⟩ := h.v; exact rHigh hv
theorem IsRef.find (h : IsRef w base la N R) (s : List UInt8) : Calls Tryz.prog 10 #[refp la, .string (bs s)] w fun e w' => e = .returned (.tuple #[.int .i64 (max (findL N s) 0), .bool (decide (0 ≤ findL N s))]) ∧ w' = w := by
  obtain ⟨bo, hv⟩ := h.v; exact rFind hv s
theorem IsRef.joinAll (h : IsRef w base la N R) {v : Value} {L : List Int} (hI : HasInts w v L) (hl : L.length ≤ 1000) : Calls Tryz.prog 47 #[refp la, v] w fun e w' => e = .returned (.int .i64 (lJoinAll N.length R L)) ∧ w' = w := by
  obtain ⟨bo, hv⟩ := h.v; exact rJoinAll hv hI hl
end
theorem lit_three (w : World) (x y z : Int) (t : TypeId) : HasInts (w.alloc (.cells #[.int .i64 x, .int .i64 y, .int .i64 z] t)) (.slice (some ⟨w.heap.size, 0, none⟩) 3 3) [x, y, z] := by
  refine .inr ⟨_, 3, rfl, fun i hi => ?_⟩
  rw [cell_of_heap (heap_new w _)]
  match i, hi with
  | 0, _ => rfl
  | 1, _ => rfl
  | 2, _ => rfl
set_option maxRecDepth 100000 in
set_option maxHeartbeats 32000000 in
theorem same_some {w : World} {base base2 la la2 : Nat} {N : List (List UInt8)} {R : Nat → Nat → Bool} (hL : IsLat w base la N R) (hR : IsRef w base2 la2 N R) (hT : TabOk w) :
    Calls Tryz.prog 13 #[latp la, refp la2] w fun e w' => e = .returned (.bool true) ∧ Chg (fun _ => False) w w' := by
  obtain ⟨bo, hv⟩ := hR.v
  obtain ⟨n1, n10⟩ := hv.n10
  have z1 := hv.ord
  have z2 := hv.many
  have q1 := fun k => lMany (hL.same ((Chg.refl _ w).drewN k))
  have q2 := fun k => lLow (hL.same ((Chg.refl _ w).drewN k))
  have q3 := fun k => (hR.same ((Chg.refl _ w).drewN k)).low
  have q4 := fun k => lHigh (hL.same ((Chg.refl _ w).drewN k))
  have q5 := fun k => (hR.same ((Chg.refl _ w).drewN k)).high
  generalize lastF N.length R 0 N.length = xl at *
  generalize lastF N.length (flp R) 0 N.length = xh at *
  have HL := Lib.hid hL
  have HR := Lib.hid hR
  have HT := Lib.hid hT
  clear hv hL hR hT
  unfold latp refp at *
  go_enter Tryz.func13, Tryz.ntmps13
  go_upto_region 2 with fail
  go_quiet (first
    | (go_at_call 15; exact Calls.quiet_of_same (q1 _))
    | (go_at_call 16; exact Calls.quiet_of_same (q2 _))
    | (go_at_call 41; exact Calls.quiet_of_same (q3 _))
    | (go_at_call 17; exact Calls.quiet_of_same (q4 _))
    | (go_at_call 42; exact Calls.quiet_of_same (q5 _)))
  have HC0 := Lib.hid ((Chg.refl (fun _ => False) w).drewN nq)
  clear q1 q2 q3 q4 q5 z1 z2
  generalize hn : N.length = n at *
  have HN := Lib.hid hn
  go_wp2_with fail
  clear hn
  go_loopw [6] (fun i wr => ∃ k : Nat, i = .int .i64 ((k : Int) - 1) ∧ k ≤ n + 2 ∧ Chg (fun _ => False) w wr) (fun i _ => n + 2 - (intOf i + 1).toNat)
  case atStart => exact ⟨0, rfl, by omega, HC0.out⟩
  case round =>
    clear HC0
    obtain ⟨k, rfl, k0, hC⟩ := hrel
    by_cases hk : k < n + 2
    · have hle : (k : Int) - 1 ≤ n := by omega
      have hw3 : IntKind.i64.wrap ((k : Int) - 1 + 1) = ((k + 1 : Nat) : Int) - 1 := by rw [IntWalk.i64_in _ ⟨by omega, by omega⟩]; omega
      obtain ⟨x, hx⟩ : ∃ x : Int, (k : Int) - 1 = x := ⟨_, rfl⟩
      rw [hx] at hle hw3 ⊢
      have HX := Lib.hid hx
      clear hx
      have e1 := fun (W : World) (hW : Chg (fun _ => False) w W) => lDecodeA (HL.out.same hW) (HT.out.chg hW (fun x => x)) (by rw [HN.out]; omega) x
      have e2 := fun (W : World) (hW : Chg (fun _ => False) w W) => rDecode (HR.out.same hW) x
      have e3 := fun (W : World) (hW : Chg (fun _ => False) w W) => lNameA (HL.out.same hW) x
      have e4 := fun (W : World) (hW : Chg (fun _ => False) w W) => (HR.out.same hW).name x
      have e5 := fun (W : World) (hW : Chg (fun _ => False) w W) => lCodeA (HL.out.same hW) (HT.out.chg hW (fun x => x)) (by rw [HN.out]; omega) x
      have e6 := fun (W : World) (hW : Chg (fun _ => False) w W) => (HR.out.same hW).code x
      generalize lDecA N.length R x = u1 at *
      generalize lDecE N.length R x = u2 at *
      generalize lName N x = u3 at *
      generalize lCode N.length R x = u4 at *
      generalize bs u3 = u5 at *
      have t1 : True := trivial
      have t2 : True := trivial
      unfold latp refp at *
      go_upto_block 2 with (first
        | (go_at_call 11; refine (e1 _ hC).mono ?_; rintro e w1 ⟨rfl, hD1⟩; have hC1 := hC.trans hD1)
        | (go_at_call 12; refine (e2 _ hC1).mono ?_; rintro e w2 ⟨rfl, hD2⟩; have hC2 := hC1.trans hD2)
        | (go_at_call 23; refine (e3 _ hC2).mono ?_; rintro e w2 ⟨rfl, rfl⟩)
        | (go_at_call 43; refine (e4 _ hC2).mono ?_; rintro e w2 ⟨rfl, rfl⟩)
        | (go_at_call 19; refine (e5 _ hC2).mono ?_; rintro e w5 ⟨rfl, hD5⟩; have hC5 := hC2.trans hD5)
        | (go_at_call 40; refine (e6 _ hC5).mono ?_; rintro e w6 ⟨rfl, hD6⟩; have hC6 := hC5.trans hD6))
      clear e1 e2 e3 e4 e5 e6 hD1 hD2 hD5 hD6 hC1 hC2 hC5 hC
      have HC6 := Lib.hid hC6
      clear hC6
      go_wp2_with fail
      go_loopw [11] (fun i wr => ∃ q : Nat, i = .int .i64 ((q : Int) - 1) ∧ q ≤ n + 2 ∧ Chg (fun _ => False) w wr) (fun i _ => n + 2 - (intOf i + 1).toNat)
      case atStart => exact ⟨0, rfl, by omega, HC6.out⟩
      case round =>
        clear HC6
        obtain ⟨q, rfl, q0, hC⟩ := hrel
        by_cases hq : q < n + 2
        · have hle2 : (q : Int) - 1 ≤ n := by omega
          have hw4 : IntKind.i64.wrap ((q : Int) - 1 + 1) = ((q + 1 : Nat) : Int) - 1 := by rw [IntWalk.i64_in _ ⟨by omega, by omega⟩]; omega
          obtain ⟨y, hy⟩ : ∃ y : Int, (q : Int) - 1 = y := ⟨_, rfl⟩
          rw [hy] at hle2 hw4 ⊢
          have HY := Lib.hid hy
          clear hy
          have e1 := lLeq (HL.out.same hC) x y
          have e2 := (HR.out.same hC).leq x y
          have e3 := lJoinA (HL.out.same hC) (by rw [HN.out]; omega) x y
          have e4 := (HR.out.same hC).join x y
          have e5 := lMeetA (HL.out.same hC) (by rw [HN.out]; omega) x y
          have e6 := (HR.out.same hC).meet x y
          have e7 := lJoinAllA (HL.out.same (hC.alloc (.cells #[.int .i64 x, .int .i64 y, .int .i64 0] 33))) (by rw [HN.out]; omega) (lit_three wr x y 0 33) (by simp)
          have e8 := (HR.out.same ((hC.alloc (.cells #[.int .i64 x, .int .i64 y, .int .i64 0] 33)).alloc (.cells #[.int .i64 x, .int .i64 y, .int .i64 0] 33))).joinAll (lit_three (wr.alloc (.cells #[.int .i64 x, .int .i64 y, .int .i64 0] 33)) x y 0 33) (by simp)
          rw [World.size_alloc] at e8
          generalize atM N.length R x y = v1 at *
          generalize lJoin N.length R x y = v2 at *
          generalize lMeet N.length R x y = v3 at *
          generalize lJoinAll N.length R [x, y, 0] = v4 at *
          unfold latp refp at *
          go_wp2_with (first
            | (go_at_call 20; refine e1.mono ?_; rintro e wr ⟨rfl, rfl⟩)
            | (go_at_call 44; refine e2.mono ?_; rintro e wr ⟨rfl, rfl⟩)
            | (go_at_call 18; refine e3.mono ?_; rintro e wr ⟨rfl, rfl⟩)
            | (go_at_call 45; refine e4.mono ?_; rintro e wr ⟨rfl, rfl⟩)
            | (go_at_call 21; refine e5.mono ?_; rintro e wr ⟨rfl, rfl⟩)
            | (go_at_call 46; refine e6.mono ?_; rintro e wr ⟨rfl, rfl⟩)
            | (go_at_call 22; refine e7.mono ?_; rintro e w7 ⟨rfl, rfl⟩)
            | (go_at_call 47; refine e8.mono ?_; rintro e w8 ⟨rfl, rfl⟩))
          go_roundw
          case rel => exact ⟨q + 1, by first | rfl | go_num | (congr 1; omega), by omega, (hC.alloc _).alloc _⟩
          case measure => have := HY.out; simp [intOf]; omega
        · have hle2 : ¬ (q : Int) - 1 ≤ n := by omega
          go_wp2_with fail
          go_roundw
          case rel => exact ⟨k + 1, by first | rfl | go_num | (congr 1; omega), by omega, hC⟩
          case measure => have := HX.out; simp [intOf]; omega
    · have hle : ¬ (k : Int) - 1 ≤ n := by omega
      go_wp2_with fail
      go_ret
      exact ⟨rfl, hC⟩
end Go.Proofs.YtfmacnkjhboefaaGreatDoor
