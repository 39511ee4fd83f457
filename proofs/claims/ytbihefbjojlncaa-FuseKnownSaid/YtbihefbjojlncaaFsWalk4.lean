/- fuse: Ask. -/
import Derived.Test.YtbihefbjojlncaaFsWalk3
namespace Go.Proofs.Ytbihefbjojlncaa
set_option linter.unusedVariables false
set_option linter.unusedSimpArgs false
open Go Go.RowKit
theorem Went.alloc_first {w w' : World} {o : Obj} {X X' : FX} (h : Went (w.alloc o) w' X X') : Went w w' X X' :=
  ⟨h.b, ((Chg.refl _ w).alloc o).trans' h.chg (fun _ _ hs => hs), fun i hi => (h.new i hi).imp id (fun x => by simp at x; omega)⟩
theorem is_some' (w : World) (k : Nat) (n st un : Int) (h : w.cell? ⟨k, 0, none⟩ = some (.int .i64 n)) (h0 : 0 ≤ n) (h1 : n ≤ 18014398513481987) (hs : n % 4 = st) (hu : n / 4 = un) :
    Calls Try.prog 25 #[.pointer (some ⟨k, 0, none⟩)] w fun e w' => e = .returned (.tuple #[.int .i64 n, .int .i64 st, .int .i64 un]) ∧ w' = w := by
  subst hs hu
  exact is_some w k n h h0 h1
set_option maxRecDepth 100000 in
set_option maxHeartbeats 4000000 in
theorem ask_no (w : World) (X : FX) (S : FS) (n : Nat) (d l t : Int) (h : BoxAt w X S n) (hm : mayAt d l t = false) :
    Calls Try.prog 14 #[.pointer (some ⟨X.b, 0, none⟩), spotV d l, .int .i64 t] w fun e w' =>
      e = .returned (.int .i64 9) ∧ Chg (fun _ => False) w w' := by
  have hat := at_no (w.alloc (.cells #[.int .i64 d, .int .i64 l] 32)) X S n d l t (h.alloc _) hm
  have hc0 : (w.alloc (.cells #[.int .i64 d, .int .i64 l] 32)).cell? ⟨w.heap.size, 0, none⟩ = some (.int .i64 d) := cell_of_heap (heap_new w _) 0
  have hc1 : (w.alloc (.cells #[.int .i64 d, .int .i64 l] 32)).cell? ⟨w.heap.size, 1, none⟩ = some (.int .i64 l) := cell_of_heap (heap_new w _) 1
  have hG := (Chg.refl (fun _ => False) w).alloc (.cells #[.int .i64 d, .int .i64 l] 32)
  unfold spotV at hat
  unfold spotV
  go_enter Try.func14, Try.ntmps14
  go_wp2_with (first | (go_at_call 24; refine hat.mono ?_; rintro e w1 ⟨rfl, hC1⟩))
  go_ret
  exact ⟨rfl, hG.trans hC1⟩
set_option maxRecDepth 100000 in
set_option maxHeartbeats 4000000 in
theorem ask_may (w : World) (X : FX) (S : FS) (n : Nat) (d l t : Int) (h : BoxAt w X S n) (hn : n < 1000000) (hm : mayAt d l t = true) :
    Calls Try.prog 14 #[.pointer (some ⟨X.b, 0, none⟩), spotV d l, .int .i64 t] w fun e w' =>
      ∃ X', e = .returned (.int .i64 ((S.tick t).ask1 d l).2) ∧ BoxAt w' X' ((S.tick t).ask1 d l).1 (n + 1) ∧ Went w w' X X' := by
  have hat := at_some (w.alloc (.cells #[.int .i64 d, .int .i64 l] 32)) X S n d l t (h.alloc _) hn hm
  have hc0 : (w.alloc (.cells #[.int .i64 d, .int .i64 l] 32)).cell? ⟨w.heap.size, 0, none⟩ = some (.int .i64 d) := cell_of_heap (heap_new w _) 0
  have hc1 : (w.alloc (.cells #[.int .i64 d, .int .i64 l] 32)).cell? ⟨w.heap.size, 1, none⟩ = some (.int .i64 l) := cell_of_heap (heap_new w _) 1
  have hok := (h.ok.tick (mayAt_iff.1 hm).2.1)
  have hnn := hok.num d l
  have hnow := hok.now
  have hrest := hok.rest
  unfold spotV at hat
  unfold spotV
  have hnow' : max S.now t = (S.tick t).now := rfl
  rw [hnow'] at hat
  generalize S.tick t = S1 at *
  obtain ⟨st, hst⟩ : ∃ st, S1.N d l % 4 = st := ⟨_, rfl⟩
  obtain ⟨un, hun⟩ : ∃ un, S1.N d l / 4 = un := ⟨_, rfl⟩
  have hst0 : 0 ≤ st ∧ st < 4 := by omega
  have hun0 : 0 ≤ un ∧ un ≤ 4503599628370496 := by omega
  have hun1 : S1.N d l = un * 4 + st := by omega
  have HE : S1.ask1 d l = if st = 0 then (S1, 0) else if S1.now < un then (S1, 170) else (S1.set d l ((S1.now + S1.rest) * 4 + 2), 0) := by unfold FS.ask1; rw [hst, hun]
  have HST := Lib.hid hst
  have HUN := Lib.hid hun
  have HU1 := Lib.hid hun1
  have HNN := Lib.hid hnn
  clear hst hun hun1 hnn hnow'
  have his : ∀ (W : World) (Y : FX) (k : Nat), BoxAt W Y S1 (n + 1) → Y.F d l = some k → Calls Try.prog 25 #[.pointer (some ⟨k, 0, none⟩)] W fun e w' => e = .returned (.tuple #[.int .i64 (S1.N d l), .int .i64 st, .int .i64 un]) ∧ w' = W :=
    fun W Y k hb hk => is_some' W k _ st un (hb.numC hk) HNN.out.1 HNN.out.2.1 HST.out HUN.out
  by_cases c1 : st = 0
  · rw [HE, if_pos c1]
    go_enter Try.func14, Try.ntmps14
    go_wp2_with (first | (go_at_call 24; refine hat.mono ?_; rintro e w1 ⟨X1, k1, rfl, hk1, hB1, hW1⟩))
    refine wp_loop_rounds 1 ?_; rw [rounds_succ]
    go_wp2_with (first | (go_at_call 25; refine (his _ X1 k1 hB1 hk1).mono ?_; rintro e w2 ⟨rfl, rfl⟩))
    go_ret
    exact ⟨X1, rfl, hB1, hW1.alloc_first⟩
  · rw [HE, if_neg c1]
    by_cases c2 : S1.now < un
    · rw [if_pos c2]
      go_enter Try.func14, Try.ntmps14
      go_wp2_with (first | (go_at_call 24; refine hat.mono ?_; rintro e w1 ⟨X1, k1, rfl, hk1, hB1, hW1⟩))
      refine wp_loop_rounds 1 ?_; rw [rounds_succ]
      go_wp2_with (first | (go_at_call 25; refine (his _ X1 k1 hB1 hk1).mono ?_; rintro e w2 ⟨rfl, rfl⟩))
      go_ret
      exact ⟨X1, rfl, hB1, hW1.alloc_first⟩
    · rw [if_neg c2]
      have hw1 : IntKind.i64.wrap (S1.now + S1.rest) = S1.now + S1.rest := IntWalk.i64_in _ ⟨by omega, by omega⟩
      go_enter Try.func14, Try.ntmps14
      go_wp2_with (first | (go_at_call 24; refine hat.mono ?_; rintro e w1 ⟨X1, k1, rfl, hk1, hB1, hW1⟩; have hrc := hB1.restC; rw [hW1.b] at hrc))
      refine wp_loop_rounds 1 ?_; rw [rounds_succ]
      go_wp2_with (first | (go_at_call 25; refine (his _ X1 k1 hB1 hk1).mono ?_; rintro e w2 ⟨rfl, rfl⟩) | (go_at_call 26; refine (turn_some _ k1 _ 2 _ (hB1.numC hk1) (hB1.numF hk1) (by omega) (by omega)).mono ?_; rintro e w2 ⟨rfl, rfl⟩))
      go_ret
      refine ⟨X1, rfl, hB1.setNum hk1 (by omega) (by omega) (by omega), hW1.alloc_first.trans ⟨rfl, (Chg.refl _ _).setCell (.inl (.inr (.inr ⟨d, l, hk1⟩))) _, fun _ h => .inl h⟩⟩
end Go.Proofs.Ytbihefbjojlncaa
