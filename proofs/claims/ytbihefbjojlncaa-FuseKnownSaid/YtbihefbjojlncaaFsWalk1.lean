/- fuse: the atomic number, is, turn, none, Tick, New. -/
import Derived.Test.YtbihefbjojlncaaFsBox
import Derived.Test.YtbihefbjojlncaaInRound
import Derived.ProofKit
import Derived.Stop.Joined
import Derived.Laws.LoneSync
import Derived.Laws.EntriesVeiled
import Derived.Lib.Hide
import Derived.WalkKit
import Derived.WalkLawsBesides
import Derived.WalkSpells
import Derived.Maps.OwnOps
import Derived.Deep.QuietTactic
import Derived.BigQuiet
import Derived.StillTailTactics
namespace Go.Proofs.Ytbihefbjojlncaa
set_option linter.unusedVariables false
set_option linter.unusedSimpArgs false
open Go Go.RowKit
theorem load_some (w : World) (b o : Nat) (n : Int) (h : w.cell? ⟨b, o, none⟩ = some (.int .i64 n)) :
    Calls Try.prog 33 #[.pointer (some ⟨b, o, none⟩)] w fun e w' => e = .returned (.int .i64 n) ∧ w' = w := by
  have hld := run_call_load (P := Try.prog) Try.func41 (by kernel_rfl) (by kernel_rfl) (by kernel_rfl) .i64 (by kernel_rfl) h
  go_enter Try.func33, Try.ntmps33
  go_wp2
  go_ret
  exact ⟨rfl, rfl⟩
theorem cas_hit (w : World) (b o : Nat) (n x : Int) (h : w.cell? ⟨b, o, none⟩ = some (.int .i64 n)) (hf : w.frozen? ⟨b, o, none⟩ = false) :
    Calls Try.prog 39 #[.pointer (some ⟨b, o, none⟩), .int .i64 n, .int .i64 x] w fun e w' => e = .returned (.bool true) ∧ w' = w.setCell ⟨b, o, none⟩ (.int .i64 x) := by
  have hcas := run_call_cas_hit (P := Try.prog) Try.func46 (by kernel_rfl) (by kernel_rfl) (by kernel_rfl) .i64 (by kernel_rfl) (y := x) h hf
  go_enter Try.func39, Try.ntmps39
  go_wp2
  go_ret
  exact ⟨rfl, rfl⟩
/-- none: of a box that is one -/
theorem none_no (w : World) (b m : Nat) (h : w.cell? ⟨b, 3, none⟩ = some (.map (some m))) :
    Calls Try.prog 32 #[.pointer (some ⟨b, 0, none⟩)] w fun e w' => e = .returned (.bool false) ∧ w' = w := by
  have q30 : ∀ (w : World) (r : Option Nat), (binOp .eql 66 (.map r) (.map none)).run Try.prog w = .ok (.bool r.isNone) w := fun w r => run_eql_map_nil w _ _ _ r Try.underlying66
  go_enter Try.func32, Try.ntmps32
  go_wp2
  go_ret
  exact ⟨rfl, rfl⟩
theorem rem4 (n : Int) (h : 0 ≤ n) : n.tmod 4 = n % 4 := Int.tmod_eq_emod_of_nonneg h
theorem quo4 (n : Int) (h : 0 ≤ n) : n.tdiv 4 = n / 4 := Int.tdiv_eq_ediv_of_nonneg h
set_option maxHeartbeats 1000000 in
/-- is: what a fuse is -/
theorem is_some (w : World) (k : Nat) (n : Int) (h : w.cell? ⟨k, 0, none⟩ = some (.int .i64 n)) (h0 : 0 ≤ n) (h1 : n ≤ 18014398513481987) :
    Calls Try.prog 25 #[.pointer (some ⟨k, 0, none⟩)] w fun e w' => e = .returned (.tuple #[.int .i64 n, .int .i64 (n % 4), .int .i64 (n / 4)]) ∧ w' = w := by
  have r1 := Lib.hid (rem4 n h0)
  have r2 := Lib.hid (quo4 n h0)
  have b1 : 0 ≤ n.tmod 4 ∧ n.tmod 4 < 4 := by rw [rem4 n h0]; omega
  have b2 : 0 ≤ n.tdiv 4 ∧ n.tdiv 4 ≤ 4503599628370496 := by rw [quo4 n h0]; omega
  have w1 : IntKind.i64.wrap (n.tmod 4) = n.tmod 4 := IntWalk.i64_in _ ⟨by omega, by omega⟩
  have w2 : IntKind.i64.wrap (n.tdiv 4) = n.tdiv 4 := IntWalk.i64_in _ ⟨by omega, by omega⟩
  go_enter Try.func25, Try.ntmps25
  go_wp2_with (first | (go_at_call 33; refine (load_some _ _ _ n (by assumption)).mono ?_; rintro e w' ⟨rfl, rfl⟩))
  go_ret3
  exact ⟨by rw [← r1.out, ← r2.out]; rfl, rfl⟩
/-- turn: it was still so -/
theorem turn_some (w : World) (k : Nat) (n st x : Int) (h : w.cell? ⟨k, 0, none⟩ = some (.int .i64 n)) (hf : w.frozen? ⟨k, 0, none⟩ = false) (h0 : 0 ≤ st ∧ st ≤ 2) (h1 : 0 ≤ x ∧ x ≤ 4503599628370496) :
    Calls Try.prog 26 #[.pointer (some ⟨k, 0, none⟩), .int .i64 n, .int .i64 st, .int .i64 x] w fun e w' => e = .returned (.bool true) ∧ w' = w.setCell ⟨k, 0, none⟩ (.int .i64 (x * 4 + st)) := by
  have w1 : IntKind.i64.wrap (x * 4) = x * 4 := IntWalk.i64_in _ ⟨by omega, by omega⟩
  have w2 : IntKind.i64.wrap (x * 4 + st) = x * 4 + st := IntWalk.i64_in _ ⟨by omega, by omega⟩
  go_enter Try.func26, Try.ntmps26
  go_wp2_with (first | (go_at_call 39; refine (cas_hit _ _ _ n _ (by assumption) (by assumption)).mono ?_; rintro e w' ⟨rfl, rfl⟩))
  go_ret
  exact ⟨rfl, rfl⟩
theorem tick_some (w : World) (b m : Nat) (t : Int) (h : w.cell? ⟨b, 3, none⟩ = some (.map (some m))) (h2 : w.cell? ⟨b, 2, none⟩ = some (.int .i64 t)) :
    Calls Try.prog 23 #[.pointer (some ⟨b, 0, none⟩)] w fun e w' => e = .returned (.int .i64 t) ∧ w' = w := by
  go_enter Try.func23, Try.ntmps23
  go_wp2_with (first | (go_at_call 32; refine (none_no _ b m (by assumption)).mono ?_; rintro e w' ⟨rfl, rfl⟩) | (go_at_call 33; refine (load_some _ _ _ t (by assumption)).mono ?_; rintro e w' ⟨rfl, rfl⟩))
  go_ret
  exact ⟨rfl, rfl⟩
/-- New -/
theorem new_no (w : World) (most rest : Int) (h : ¬ (1 ≤ most ∧ most ≤ 1000 ∧ 1 ≤ rest ∧ rest ≤ 1000000)) :
    Calls Try.prog 9 #[.int .i64 most, .int .i64 rest] w fun e w' => e = .returned (.tuple #[.pointer none, .int .i64 2]) ∧ w' = w := by
  by_cases h1 : most < 1
  · go_enter Try.func9, Try.ntmps9
    go_wp2
    go_ret2
    exact ⟨rfl, rfl⟩
  by_cases h2 : 1000 < most
  · go_enter Try.func9, Try.ntmps9
    go_wp2
    go_ret2
    exact ⟨rfl, rfl⟩
  by_cases h3 : rest < 1
  · go_enter Try.func9, Try.ntmps9
    go_wp2
    go_ret2
    exact ⟨rfl, rfl⟩
  have h4 : 1000000 < rest := by omega
  go_enter Try.func9, Try.ntmps9
  go_wp2
  go_ret2
  exact ⟨rfl, rfl⟩
theorem new_some (w : World) (most rest : Int) (h : 1 ≤ most ∧ most ≤ 1000) (h' : 1 ≤ rest ∧ rest ≤ 1000000) :
    Calls Try.prog 9 #[.int .i64 most, .int .i64 rest] w fun e w' => ∃ X : FX, e = .returned (.tuple #[.pointer (some ⟨X.b, 0, none⟩), .int .i64 0]) ∧ BoxAt w' X (FS.new most rest) 0 ∧ Chg (fun _ => False) w w' ∧ ∀ i, X.Own i → w.heap.size ≤ i := by
  have h1 : ¬ most < 1 := by omega
  have h2 : ¬ 1000 < most := by omega
  have h3 : ¬ rest < 1 := by omega
  have h4 : ¬ 1000000 < rest := by omega
  have hmm := @run_makeMap Try.prog
  have hb : ∀ W : World, Sem.run Try.prog (Instr.build 68 #[(0, Value.int .i64 most), (1, Value.int .i64 rest), (3, Value.map (some w.heap.size))]) W = .ok (.agg #[.int .i64 most, .int .i64 rest, .int .i64 0, .map (some w.heap.size)]) W := fun W => run_build W _ _ _ (by kernel_rfl)
  go_enter Try.func9, Try.ntmps9
  go_wp2
  go_ret2
  refine ⟨⟨w.heap.size + 1, w.heap.size, fun _ _ => none⟩, by simp, ⟨FS.new_ok h h', ?_, ⟨.map [], ?_, fun _ _ _ _ => rfl, fun kl hk => by cases hk⟩, fun _ _ _ hf => (by cases hf), fun _ _ _ => rfl, fun _ _ _ _ _ hf => (by cases hf), fun _ _ _ hf => (by cases hf)⟩, ((Chg.refl _ _).alloc _).alloc _, ?_⟩
  · exact heap_new1 _ _ _
  · exact (World.ownsMap_made w _ _ _).alloc _
  · rintro i (rfl | rfl | ⟨_, _, hf⟩)
    · simp
    · simp
    · cases hf
end Go.Proofs.Ytbihefbjojlncaa
