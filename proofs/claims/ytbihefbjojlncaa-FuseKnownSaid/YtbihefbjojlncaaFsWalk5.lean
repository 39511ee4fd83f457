/- fuse: Did. -/
import Derived.Test.YtbihefbjojlncaaFsWalk4
namespace Go.Proofs.Ytbihefbjojlncaa
set_option linter.unusedVariables false
set_option linter.unusedSimpArgs false
open Go Go.RowKit
set_option maxRecDepth 100000 in
set_option maxHeartbeats 4000000 in
theorem did_no (w : World) (X : FX) (S : FS) (n : Nat) (d l t : Int) (well : Bool) (h : BoxAt w X S n) (hm : mayAt d l t = false) :
    Calls Try.prog 12 #[.pointer (some ⟨X.b, 0, none⟩), spotV d l, .bool well, .int .i64 t] w fun e w' =>
      e = .returned (.int .i64 9) ∧ Chg (fun _ => False) w w' := by
  have hat := at_no (w.alloc (.cells #[.int .i64 d, .int .i64 l] 32)) X S n d l t (h.alloc _) hm
  have hc0 : (w.alloc (.cells #[.int .i64 d, .int .i64 l] 32)).cell? ⟨w.heap.size, 0, none⟩ = some (.int .i64 d) := cell_of_heap (heap_new w _) 0
  have hc1 : (w.alloc (.cells #[.int .i64 d, .int .i64 l] 32)).cell? ⟨w.heap.size, 1, none⟩ = some (.int .i64 l) := cell_of_heap (heap_new w _) 1
  have hG := (Chg.refl (fun _ => False) w).alloc (.cells #[.int .i64 d, .int .i64 l] 32)
  unfold spotV at hat
  unfold spotV
  go_enter Try.func12, Try.ntmps12
  go_wp2_with (first | (go_at_call 24; refine hat.mono ?_; rintro e w1 ⟨rfl, hC1⟩))
  go_ret
  exact ⟨rfl, hG.trans hC1⟩
set_option maxRecDepth 100000 in
set_option maxHeartbeats 4000000 in
theorem did_may (w : World) (X : FX) (S : FS) (n : Nat) (d l t : Int) (well : Bool) (h : BoxAt w X S n) (hn : n < 1000000) (hm : mayAt d l t = true) :
    Calls Try.prog 12 #[.pointer (some ⟨X.b, 0, none⟩), spotV d l, .bool well, .int .i64 t] w fun e w' =>
      ∃ X', e = .returned (.int .i64 0) ∧ BoxAt w' X' ((S.tick t).did1 d l well) (n + 1) ∧ Went w w' X X' := by
  have hat := at_some (w.alloc (.cells #[.int .i64 d, .int .i64 l] 32)) X S n d l t (h.alloc _) hn hm
  have hc0 : (w.alloc (.cells #[.int .i64 d, .int .i64 l] 32)).cell? ⟨w.heap.size, 0, none⟩ = some (.int .i64 d) := cell_of_heap (heap_new w _) 0
  have hc1 : (w.alloc (.cells #[.int .i64 d, .int .i64 l] 32)).cell? ⟨w.heap.size, 1, none⟩ = some (.int .i64 l) := cell_of_heap (heap_new w _) 1
  have hok := (h.ok.tick (mayAt_iff.1 hm).2.1)
  have hnn := hok.num d l
  have hnow := hok.now
  have hrest := hok.rest
  have hmost := hok.most
  unfold spotV at hat
  unfold spotV
  have hnow' : max S.now t = (S.tick t).now := rfl
  rw [hnow'] at hat
  generalize S.tick t = S1 at *
  obtain ⟨st, hst⟩ : ∃ st, S1.N d l % 4 = st := ⟨_, rfl⟩
  obtain ⟨un, hun⟩ : ∃ un, S1.N d l / 4 = un := ⟨_, rfl⟩
  have hst0 : 0 ≤ st ∧ st < 4 := by omega
  have hun0 : 0 ≤ un ∧ un ≤ 4503599628370496 := by omega
  have hun2 : st = 0 → un < 1000 := by omega
  have HE : S1.did1 d l well = if st = 1 then S1 else if well then S1.set d l 0 else if st = 0 ∧ un + 1 < S1.most then S1.set d l ((un + 1) * 4) else S1.set d l ((S1.now + S1.rest) * 4 + 1) := by unfold FS.did1; rw [hst, hun]
  have HST := Lib.hid hst
  have HUN := Lib.hid hun
  have HNN := Lib.hid hnn
  have HU2 := Lib.hid hun2
  clear hst hun hnn hnow' hun2
  have hw1 : IntKind.i64.wrap (S1.now + S1.rest) = S1.now + S1.rest := IntWalk.i64_in _ ⟨by omega, by omega⟩
  have his : ∀ (W : World) (Y : FX) (k : Nat), BoxAt W Y S1 (n + 1) → Y.F d l = some k → Calls Try.prog 25 #[.pointer (some ⟨k, 0, none⟩)] W fun e w' => e = .returned (.tuple #[.int .i64 (S1.N d l), .int .i64 st, .int .i64 un]) ∧ w' = W :=
    fun W Y k hb hk => is_some' W k _ st un (hb.numC hk) HNN.out.1 HNN.out.2.1 HST.out HUN.out
  by_cases c1 : st = 1
  · rw [HE, if_pos c1]
    go_enter Try.func12, Try.ntmps12
    go_wp2_with (first | (go_at_call 24; refine hat.mono ?_; rintro e w1 ⟨X1, k1, rfl, hk1, hB1, hW1⟩; have hrc := hB1.restC; have hmc := hB1.mostC; rw [hW1.b] at hrc hmc))
    refine wp_loop_rounds 1 ?_; rw [rounds_succ]
    go_upto_region 5 with (first | (go_at_call 25; refine (his _ X1 k1 hB1 hk1).mono ?_; rintro e w2 ⟨rfl, rfl⟩))
    go_quiet (fail)
    have hB2 := hB1.drewN nq
    have hW2 := hW1.drewN nq
    have hmc2 : (w2.drewN nq).cell? ⟨X.b, 0, none⟩ = some (.int .i64 S1.most) := hmc
    clear hB1 hW1 hrc hmc
    generalize w2.drewN nq = w3 at *
    go_wp2_with fail
    go_ret
    exact ⟨X1, rfl, hB2, hW2.alloc_first⟩
  · rw [HE, if_neg c1]
    cases well
    · rw [if_neg (by decide)]
      by_cases c3 : st = 0
      · have hu9 := HU2.out c3
        have hw2 : IntKind.i64.wrap (un + 1) = un + 1 := IntWalk.i64_in _ ⟨by omega, by omega⟩
        by_cases c2 : un + 1 < S1.most
        · rw [if_pos ⟨c3, c2⟩]
          go_enter Try.func12, Try.ntmps12
          go_wp2_with (first | (go_at_call 24; refine hat.mono ?_; rintro e w1 ⟨X1, k1, rfl, hk1, hB1, hW1⟩; have hrc := hB1.restC; have hmc := hB1.mostC; rw [hW1.b] at hrc hmc))
          refine wp_loop_rounds 1 ?_; rw [rounds_succ]
          go_upto_region 5 with (first | (go_at_call 25; refine (his _ X1 k1 hB1 hk1).mono ?_; rintro e w2 ⟨rfl, rfl⟩))
          go_quiet (fail)
          have hB2 := hB1.drewN nq
          have hW2 := hW1.drewN nq
          have hmc2 : (w2.drewN nq).cell? ⟨X.b, 0, none⟩ = some (.int .i64 S1.most) := hmc
          clear hB1 hW1 hrc hmc
          generalize w2.drewN nq = w3 at *
          go_wp2_with (first | (go_at_call 26; refine (turn_some _ k1 _ 0 _ (hB2.numC hk1) (hB2.numF hk1) (by omega) (by omega)).mono ?_; rintro e w2 ⟨rfl, rfl⟩))
          go_ret
          have e0 : (un + 1) * 4 + 0 = (un + 1) * 4 := by omega
          rw [← e0]
          exact ⟨X1, rfl, hB2.setNum hk1 (by omega) (by omega) (by omega), hW2.alloc_first.trans ⟨rfl, (Chg.refl _ _).setCell (.inl (.inr (.inr ⟨d, l, hk1⟩))) _, fun _ h => .inl h⟩⟩
        · rw [if_neg (fun x => c2 x.2)]
          go_enter Try.func12, Try.ntmps12
          go_wp2_with (first | (go_at_call 24; refine hat.mono ?_; rintro e w1 ⟨X1, k1, rfl, hk1, hB1, hW1⟩; have hrc := hB1.restC; have hmc := hB1.mostC; rw [hW1.b] at hrc hmc))
          refine wp_loop_rounds 1 ?_; rw [rounds_succ]
          go_upto_region 5 with (first | (go_at_call 25; refine (his _ X1 k1 hB1 hk1).mono ?_; rintro e w2 ⟨rfl, rfl⟩))
          go_quiet (fail)
          have hB2 := hB1.drewN nq
          have hW2 := hW1.drewN nq
          have hmc2 : (w2.drewN nq).cell? ⟨X.b, 0, none⟩ = some (.int .i64 S1.most) := hmc
          clear hB1 hW1 hrc hmc
          generalize w2.drewN nq = w3 at *
          go_wp2_with (first | (go_at_call 26; refine (turn_some _ k1 _ 1 _ (hB2.numC hk1) (hB2.numF hk1) (by omega) (by omega)).mono ?_; rintro e w2 ⟨rfl, rfl⟩))
          go_ret
          exact ⟨X1, rfl, hB2.setNum hk1 (by omega) (by omega) (by omega), hW2.alloc_first.trans ⟨rfl, (Chg.refl _ _).setCell (.inl (.inr (.inr ⟨d, l, hk1⟩))) _, fun _ h => .inl h⟩⟩
      · rw [if_neg (fun x => c3 x.1)]
        go_enter Try.func12, Try.ntmps12
        go_wp2_with (first | (go_at_call 24; refine hat.mono ?_; rintro e w1 ⟨X1, k1, rfl, hk1, hB1, hW1⟩; have hrc := hB1.restC; have hmc := hB1.mostC; rw [hW1.b] at hrc hmc))
        refine wp_loop_rounds 1 ?_; rw [rounds_succ]
        go_upto_region 5 with (first | (go_at_call 25; refine (his _ X1 k1 hB1 hk1).mono ?_; rintro e w2 ⟨rfl, rfl⟩))
        go_quiet (fail)
        have hB2 := hB1.drewN nq
        have hW2 := hW1.drewN nq
        have hmc2 : (w2.drewN nq).cell? ⟨X.b, 0, none⟩ = some (.int .i64 S1.most) := hmc
        clear hB1 hW1 hrc hmc
        generalize w2.drewN nq = w3 at *
        go_wp2_with (first | (go_at_call 26; refine (turn_some _ k1 _ 1 _ (hB2.numC hk1) (hB2.numF hk1) (by omega) (by omega)).mono ?_; rintro e w2 ⟨rfl, rfl⟩))
        go_ret
        exact ⟨X1, rfl, hB2.setNum hk1 (by omega) (by omega) (by omega), hW2.alloc_first.trans ⟨rfl, (Chg.refl _ _).setCell (.inl (.inr (.inr ⟨d, l, hk1⟩))) _, fun _ h => .inl h⟩⟩
    · rw [if_pos rfl]
      go_enter Try.func12, Try.ntmps12
      go_wp2_with (first | (go_at_call 24; refine hat.mono ?_; rintro e w1 ⟨X1, k1, rfl, hk1, hB1, hW1⟩; have hrc := hB1.restC; have hmc := hB1.mostC; rw [hW1.b] at hrc hmc))
      refine wp_loop_rounds 1 ?_; rw [rounds_succ]
      go_upto_region 5 with (first | (go_at_call 25; refine (his _ X1 k1 hB1 hk1).mono ?_; rintro e w2 ⟨rfl, rfl⟩))
      go_quiet (fail)
      have hB2 := hB1.drewN nq
      have hW2 := hW1.drewN nq
      have hmc2 : (w2.drewN nq).cell? ⟨X.b, 0, none⟩ = some (.int .i64 S1.most) := hmc
      clear hB1 hW1 hrc hmc
      generalize w2.drewN nq = w3 at *
      go_wp2_with (first | (go_at_call 26; refine (turn_some _ k1 _ 0 _ (hB2.numC hk1) (hB2.numF hk1) (by omega) (by omega)).mono ?_; rintro e w2 ⟨rfl, rfl⟩))
      go_ret
      have e0 : (0 : Int) = 0 * 4 + 0 := by omega
      rw [e0]
      exact ⟨X1, rfl, hB2.setNum hk1 (by omega) (by omega) (by omega), hW2.alloc_first.trans ⟨rfl, (Chg.refl _ _).setCell (.inl (.inr (.inr ⟨d, l, hk1⟩))) _, fun _ h => .inl h⟩⟩
end Go.Proofs.Ytbihefbjojlncaa
