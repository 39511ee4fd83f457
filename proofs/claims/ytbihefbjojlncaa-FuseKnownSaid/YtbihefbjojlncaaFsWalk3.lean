/- fuse: at beyond what may be; Ask. -/
import Derived.Test.YtbihefbjojlncaaFsWalk2
namespace Go.Proofs.Ytbihefbjojlncaa
set_option linter.unusedVariables false
set_option linter.unusedSimpArgs false
open Go Go.RowKit
/-- at, of a spot and a tick that may be -/
theorem at_some (w : World) (X : FX) (S : FS) (n : Nat) (d l t : Int) (h : BoxAt w X S n) (hn : n < 1000000) (hm : mayAt d l t = true) :
    Calls Try.prog 24 #[.pointer (some ⟨X.b, 0, none⟩), spotV d l, .int .i64 t] w fun e w' =>
      ∃ X' k, e = .returned (.tuple #[.pointer (some ⟨k, 0, none⟩), .int .i64 (max S.now t), .int .i64 0]) ∧ X'.F d l = some k ∧ BoxAt w' X' (S.tick t) (n + 1) ∧ Went w w' X X' := by
  cases hk : X.F d l with
  | none => exact at_new w X S n d l t h hn hm hk
  | some k => exact (at_old w X S n d l t k h hm hk).mono fun e w' ⟨he, hb, hw⟩ => ⟨X, k, he, hk, hb.mono (by omega), hw⟩
set_option maxRecDepth 100000 in
set_option maxHeartbeats 4000000 in
/-- at, of one that may not -/
theorem at_no (w : World) (X : FX) (S : FS) (n : Nat) (d l t : Int) (h : BoxAt w X S n) (hm : mayAt d l t = false) :
    Calls Try.prog 24 #[.pointer (some ⟨X.b, 0, none⟩), spotV d l, .int .i64 t] w fun e w' =>
      e = .returned (.tuple #[.pointer none, .int .i64 0, .int .i64 9]) ∧ Chg (fun _ => False) w w' := by
  have hmn : ¬ (0 ≤ t ∧ t ≤ 4503599627370496 ∧ 0 ≤ d ∧ d ≤ 1000 ∧ 0 ≤ l ∧ l ≤ 9) := fun x => by rw [mayAt_iff.2 x] at hm; cases hm
  have h1 := (h.alloc (.cells #[.int .i64 d, .int .i64 l] 32)).mapC
  have hc0 : (w.alloc (.cells #[.int .i64 d, .int .i64 l] 32)).cell? ⟨w.heap.size, 0, none⟩ = some (.int .i64 d) := cell_of_heap (heap_new w _) 0
  have hc1 : (w.alloc (.cells #[.int .i64 d, .int .i64 l] 32)).cell? ⟨w.heap.size, 1, none⟩ = some (.int .i64 l) := cell_of_heap (heap_new w _) 1
  have hG := (Chg.refl (fun _ => False) w).alloc (.cells #[.int .i64 d, .int .i64 l] 32)
  by_cases x0 : t < 0
  · go_enter Try.func24, Try.ntmps24
    unfold spotV
    go_wp2_with (first | (go_at_call 32; refine (none_no _ X.b X.m h1).mono ?_; rintro e w' ⟨rfl, rfl⟩))
    go_ret3
    exact ⟨rfl, hG⟩
  by_cases x1 : 4503599627370496 < t
  · go_enter Try.func24, Try.ntmps24
    unfold spotV
    go_wp2_with (first | (go_at_call 32; refine (none_no _ X.b X.m h1).mono ?_; rintro e w' ⟨rfl, rfl⟩))
    go_ret3
    exact ⟨rfl, hG⟩
  by_cases x2 : d < 0
  · go_enter Try.func24, Try.ntmps24
    unfold spotV
    go_wp2_with (first | (go_at_call 32; refine (none_no _ X.b X.m h1).mono ?_; rintro e w' ⟨rfl, rfl⟩))
    go_ret3
    exact ⟨rfl, hG⟩
  by_cases x3 : 1000 < d
  · go_enter Try.func24, Try.ntmps24
    unfold spotV
    go_wp2_with (first | (go_at_call 32; refine (none_no _ X.b X.m h1).mono ?_; rintro e w' ⟨rfl, rfl⟩))
    go_ret3
    exact ⟨rfl, hG⟩
  by_cases x4 : l < 0
  · go_enter Try.func24, Try.ntmps24
    unfold spotV
    go_wp2_with (first | (go_at_call 32; refine (none_no _ X.b X.m h1).mono ?_; rintro e w' ⟨rfl, rfl⟩))
    go_ret3
    exact ⟨rfl, hG⟩
  have x5 : 9 < l := by omega
  go_enter Try.func24, Try.ntmps24
  unfold spotV
  go_wp2_with (first | (go_at_call 32; refine (none_no _ X.b X.m h1).mono ?_; rintro e w' ⟨rfl, rfl⟩))
  go_ret3
  exact ⟨rfl, hG⟩
end Go.Proofs.Ytbihefbjojlncaa
