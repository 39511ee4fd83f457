/- fuse: State. -/
import Derived.Test.YtbihefbjojlncaaFsWalk5
namespace Go.Proofs.Ytbihefbjojlncaa
set_option linter.unusedVariables false
set_option linter.unusedSimpArgs false
open Go Go.RowKit
set_option maxRecDepth 100000 in
set_option maxHeartbeats 4000000 in
theorem state_some (w : World) (X : FX) (S : FS) (n : Nat) (d l : Int) (h : BoxAt w X S n) (hd : I64 d) (hl : I64 l) :
    Calls Try.prog 20 #[.pointer (some ⟨X.b, 0, none⟩), spotV d l] w fun e w' =>
      e = .returned (.tuple #[.int .i64 (S.state d l).1, .int .i64 (S.state d l).2.1, .int .i64 (S.state d l).2.2]) ∧ Chg (fun _ => False) w w' := by
  have hB := h.alloc (.cells #[.int .i64 d, .int .i64 l] 32)
  have hc0 : (w.alloc (.cells #[.int .i64 d, .int .i64 l] 32)).cell? ⟨w.heap.size, 0, none⟩ = some (.int .i64 d) := cell_of_heap (heap_new w _) 0
  have hc1 : (w.alloc (.cells #[.int .i64 d, .int .i64 l] 32)).cell? ⟨w.heap.size, 1, none⟩ = some (.int .i64 l) := cell_of_heap (heap_new w _) 1
  have hG := (Chg.refl (fun _ => False) w).alloc (.cells #[.int .i64 d, .int .i64 l] 32)
  have hnn := h.num d l
  cases hk : X.F d l with
  | none =>
    have hz := h.none0 _ _ hk
    have hE : S.state d l = (0, 0, 0) := by unfold FS.state; rw [hz]; rfl
    rw [hE]
    unfold spotV
    go_enter Try.func20, Try.ntmps20
    go_upto_region 1 with fail
    generalize w.alloc (.cells #[.int .i64 d, .int .i64 l] 32) = w1 at *
    have hmc := hB.mapC
    have hlk : ∀ j, (Instr.lookup 66 (.map (some X.m)) (.agg #[.int .i64 d, .int .i64 l]) false).run Try.prog (w1.drewN j) = .ok (ptrV (X.F d l)) (w1.drewN j) := fun j => (hB.drewN j).look hd hl
    rw [hk] at hlk
    unfold ptrV at hlk
    go_quiet (go_at_call 32 <;> refine Calls.quiet_of_same (none_no _ X.b X.m (hB.drewN _).mapC))
    go_wp2_with fail
    go_ret3
    exact ⟨rfl, hG.drewN _⟩
  | some k =>
    obtain ⟨st, hst⟩ : ∃ st, S.N d l % 4 = st := ⟨_, rfl⟩
    obtain ⟨un, hun⟩ : ∃ un, S.N d l / 4 = un := ⟨_, rfl⟩
    have hE : S.state d l = if st = 0 then (0, un, 0) else (st, 0, un) := by unfold FS.state; rw [hst, hun]
    rw [hE]
    have HST := Lib.hid hst
    have HUN := Lib.hid hun
    clear hst hun
    unfold spotV
    go_enter Try.func20, Try.ntmps20
    go_upto_region 1 with fail
    generalize w.alloc (.cells #[.int .i64 d, .int .i64 l] 32) = w1 at *
    have hmc := hB.mapC
    have hlk : ∀ j, (Instr.lookup 66 (.map (some X.m)) (.agg #[.int .i64 d, .int .i64 l]) false).run Try.prog (w1.drewN j) = .ok (ptrV (X.F d l)) (w1.drewN j) := fun j => (hB.drewN j).look hd hl
    rw [hk] at hlk
    unfold ptrV at hlk
    go_quiet (go_at_call 32 <;> refine Calls.quiet_of_same (none_no _ X.b X.m (hB.drewN _).mapC))
    have hB2 := hB.drewN nq
    have hc2 : (w1.drewN nq).cell? ⟨w.heap.size, 0, none⟩ = some (.int .i64 d) := hc0
    have hc3 : (w1.drewN nq).cell? ⟨w.heap.size, 1, none⟩ = some (.int .i64 l) := hc1
    have hG2 := hG.drewN nq
    clear hlk hmc hB hc0 hc1 hG
    go_upto_region 3 with fail
    generalize w1.drewN nq = w2 at *
    have hmc := hB2.mapC
    have hlk : ∀ j, (Instr.lookup 66 (.map (some X.m)) (.agg #[.int .i64 d, .int .i64 l]) false).run Try.prog (w2.drewN j) = .ok (.pointer (some ⟨k, 0, none⟩)) (w2.drewN j) := fun j => by
      have := (hB2.drewN j).look hd hl
      rw [hk] at this
      exact this
    have his : ∀ j, Calls Try.prog 25 #[.pointer (some ⟨k, 0, none⟩)] (w2.drewN j) fun e w' => e = .returned (.tuple #[.int .i64 (S.N d l), .int .i64 st, .int .i64 un]) ∧ w' = w2.drewN j :=
      fun j => is_some' _ k _ st un ((hB2.drewN j).numC hk) hnn.1 hnn.2.1 HST.out HUN.out
    go_quiet (go_at_call 25 <;> refine Calls.quiet_of_same (his _))
    by_cases c1 : st = 0
    · go_wp2_with fail
      go_ret3
      exact ⟨by first | rfl | simp [c1], hG2.drewN _⟩
    · go_wp2_with fail
      go_ret3
      exact ⟨by first | rfl | simp [c1], hG2.drewN _⟩
end Go.Proofs.Ytbihefbjojlncaa
