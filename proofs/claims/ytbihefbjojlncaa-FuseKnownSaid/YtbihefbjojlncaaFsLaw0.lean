/- fuse: what the laws' own helpers answer: Bring, spot, does, stands. -/
import Derived.Test.YtbihefbjojlncaaFsSpots
import Derived.Laws.Tables
import Derived.Laws.Rows
namespace Go.Proofs.Ytbihefbjojlncaa
set_option linter.unusedVariables false
set_option linter.unusedSimpArgs false
open Go Go.RowKit
theorem tmod_neg {i n : Int} (hn : 0 < n) (h : i.tmod n < 0) : i.tmod n + n = i % n := by
  rw [Int.tmod_eq_emod] at h ⊢
  have := Int.emod_nonneg i (show n ≠ 0 by omega)
  split at h
  · omega
  · rename_i hc
    rw [if_neg hc]
    have : (n.natAbs : Int) = n := by omega
    omega
theorem tmod_pos {i n : Int} (hn : 0 < n) (h : ¬ i.tmod n < 0) : i.tmod n = i % n := by
  rw [Int.tmod_eq_emod] at h ⊢
  have h1 := Int.emod_lt_of_pos i hn
  split at h
  · rename_i hc; rw [if_pos hc]; omega
  · have : (n.natAbs : Int) = n := by omega
    omega
set_option maxRecDepth 100000 in
set_option maxHeartbeats 4000000 in
theorem bring_some (w : World) (i n : Int) (hn : 1 ≤ n) (hn2 : n ≤ 4611686018427387904) (hi : -9223372036854775808 ≤ i) (hi2 : i ≤ 9223372036854775807) :
    Calls Try.prog 11 #[.int .i64 i, .int .i64 n] w fun e w' => e = .returned (.int .i64 (i % n)) ∧ w' = w := by
  have h1 := Int.tmod_lt_of_pos i (show 0 < n by omega)
  have h2 : -n < i.tmod n := Int.lt_tmod_of_pos i (show 0 < n by omega)
  by_cases hneg : i.tmod n < 0
  · have he := tmod_neg (show 0 < n by omega) hneg
    have HE := Lib.hid he
    have hw : IntKind.i64.wrap (i.tmod n) = i.tmod n := IntWalk.i64_in _ ⟨by omega, by omega⟩
    have hw2 : IntKind.i64.wrap (i.tmod n + n) = i.tmod n + n := IntWalk.i64_in _ ⟨by omega, by omega⟩
    clear he
    go_enter Try.func11, Try.ntmps11
    go_wp2
    go_ret
    exact ⟨by rw [← HE.out]; rfl, rfl⟩
  · have he := tmod_pos (show 0 < n by omega) hneg
    have HE := Lib.hid he
    have hw : IntKind.i64.wrap (i.tmod n) = i.tmod n := IntWalk.i64_in _ ⟨by omega, by omega⟩
    clear he
    go_enter Try.func11, Try.ntmps11
    go_wp2
    go_ret
    exact ⟨by rw [← HE.out]; rfl, rfl⟩
theorem askE {w : World} {X : FX} {S S' : FS} {n p : Nat} {d l t r : Int} (h : BoxAt w X S n) (hp : X.b = p) (hn : n < 1000000) (he : S.ask d l t = (S', r)) :
    Calls Try.prog 14 #[.pointer (some ⟨p, 0, none⟩), spotV d l, .int .i64 t] w fun e w' => ∃ X', e = .returned (.int .i64 r) ∧ BoxAt w' X' S' (n + 1) ∧ Went w w' X X' := by
  subst hp
  unfold FS.ask at he
  cases hm : mayAt d l t
  · rw [hm] at he
    cases he
    exact (ask_no w X S n d l t h hm).mono fun e w' ⟨h1, h2⟩ => ⟨X, h1, (h.chg h2 (fun _ _ x => x)).mono (by omega), ⟨rfl, h2.mono (fun _ _ x => x.elim), fun _ x => .inl x⟩⟩
  · rw [hm, if_pos rfl] at he
    have := ask_may w X S n d l t h hn hm
    rw [he] at this
    exact this
theorem didE {w : World} {X : FX} {S S' : FS} {n p : Nat} {d l t r : Int} {well : Bool} (h : BoxAt w X S n) (hp : X.b = p) (hn : n < 1000000) (he : S.did d l well t = (S', r)) :
    Calls Try.prog 12 #[.pointer (some ⟨p, 0, none⟩), spotV d l, .bool well, .int .i64 t] w fun e w' => ∃ X', e = .returned (.int .i64 r) ∧ BoxAt w' X' S' (n + 1) ∧ Went w w' X X' := by
  subst hp
  unfold FS.did at he
  cases hm : mayAt d l t
  · rw [hm] at he
    cases he
    exact (did_no w X S n d l t well h hm).mono fun e w' ⟨h1, h2⟩ => ⟨X, h1, (h.chg h2 (fun _ _ x => x)).mono (by omega), ⟨rfl, h2.mono (fun _ _ x => x.elim), fun _ x => .inl x⟩⟩
  · rw [hm, if_pos rfl] at he
    have := did_may w X S n d l t well h hn hm
    cases he
    exact this
/-- one of nine spots -/
def spD (i : Int) : Int := i % 9 / 3
def spL (i : Int) : Int := i % 9 % 3
theorem sp_bounds (i : Int) : 0 ≤ spD i ∧ spD i ≤ 2 ∧ 0 ≤ spL i ∧ spL i ≤ 2 := by unfold spD spL; omega
set_option maxRecDepth 100000 in
set_option maxHeartbeats 4000000 in
theorem spot_some (w : World) (i : Int) (hi : I64 i) :
    Calls Try.prog 18 #[.int .i64 i] w fun e w' => e = .returned (spotV (spD i) (spL i)) ∧ Chg (fun _ => False) w w' := by
  have hb := bring_some (w.alloc (.cells #[.int .i64 0, .int .i64 0] 32)) i 9 (by omega) (by omega) hi.1 hi.2
  have hsp := sp_bounds i
  obtain ⟨k, hk⟩ : ∃ k, i % 9 = k := ⟨_, rfl⟩
  have hk0 : 0 ≤ k ∧ k < 9 := by omega
  have e1 : spD i = k / 3 := by unfold spD; rw [hk]
  have e2 : spL i = k % 3 := by unfold spL; rw [hk]
  rw [hk] at hb
  have t1 : k.tdiv 3 = k / 3 := Int.tdiv_eq_ediv_of_nonneg hk0.1
  have t2 : k.tmod 3 = k % 3 := Int.tmod_eq_emod_of_nonneg hk0.1
  have hq := Lib.hid (t1.trans e1.symm)
  have hr := Lib.hid (t2.trans e2.symm)
  have w1 : IntKind.i64.wrap (k.tdiv 3) = k.tdiv 3 := IntWalk.i64_in _ ⟨by omega, by omega⟩
  have w2 : IntKind.i64.wrap (k.tmod 3) = k.tmod 3 := IntWalk.i64_in _ ⟨by omega, by omega⟩
  have hbd : ∀ W : World, Sem.run Try.prog (Instr.build 32 #[(0, Value.int .i64 (k.tdiv 3)), (1, Value.int .i64 (k.tmod 3))]) W = .ok (.agg #[.int .i64 (k.tdiv 3), .int .i64 (k.tmod 3)]) W := fun W => run_build W _ _ _ (by kernel_rfl)
  clear hk t1 t2 e1 e2
  go_enter Try.func18, Try.ntmps18
  go_wp2_with (first | (go_at_call 11; refine hb.mono ?_; rintro e w' ⟨rfl, rfl⟩))
  have hr2 : k % 3 = spL i := by
    have := hr.out
    rw [Int.tmod_eq_emod_of_nonneg hk0.1] at this
    exact this
  refine bodyPost_ret (results_cell_row rfl _ _ w.heap.size 32 _ (0, 0) _ rfl (heap_alloc_new _ _) Try.underlying32 rfl (by kernel_rfl)) rfl ?_
  exact ⟨by rw [← hq.out, ← hr2]; rfl, (Chg.refl _ _).alloc _⟩
/-- a call, at a tick -/
def doesF (S : FS) (s what t : Int) : FS × Int := if what % 5 < 2 then S.ask (spD s) (spL s) t else S.did (spD s) (spL s) (decide (what % 5 = 2)) t
def callV (s what on : Int) : Value := .agg #[.int .i64 s, .int .i64 what, .int .i64 on]
set_option maxRecDepth 100000 in
set_option maxHeartbeats 4000000 in
theorem does_some {w : World} {X : FX} {S S' : FS} {n p : Nat} {s what on t r : Int} (h : BoxAt w X S n) (hp : X.b = p) (hn : n < 1000000) (hs : I64 s) (hw : I64 what) (he : doesF S s what t = (S', r)) :
    Calls Try.prog 19 #[.pointer (some ⟨p, 0, none⟩), callV s what on, .int .i64 t] w fun e w' => ∃ X', e = .returned (.int .i64 r) ∧ BoxAt w' X' S' (n + 1) ∧ Went w w' X X' := by
  subst hp
  have hB := h.alloc (.cells #[.int .i64 s, .int .i64 what, .int .i64 on] 48)
  have hc0 : (w.alloc (.cells #[.int .i64 s, .int .i64 what, .int .i64 on] 48)).cell? ⟨w.heap.size, 0, none⟩ = some (.int .i64 s) := cell_of_heap (heap_new w _) 0
  have hc1 : (w.alloc (.cells #[.int .i64 s, .int .i64 what, .int .i64 on] 48)).cell? ⟨w.heap.size, 1, none⟩ = some (.int .i64 what) := cell_of_heap (heap_new w _) 1
  have hG := (Chg.refl (fun _ => False) w).alloc (.cells #[.int .i64 s, .int .i64 what, .int .i64 on] 48)
  have hbr := bring_some (w.alloc (.cells #[.int .i64 s, .int .i64 what, .int .i64 on] 48)) what 5 (by omega) (by omega) hw.1 hw.2
  have hsp := spot_some (w.alloc (.cells #[.int .i64 s, .int .i64 what, .int .i64 on] 48)) s hs
  unfold doesF at he
  obtain ⟨k, hk⟩ : ∃ k, what % 5 = k := ⟨_, rfl⟩
  have hk0 : 0 ≤ k ∧ k < 5 := by omega
  rw [hk] at he hbr
  clear hk
  unfold callV
  by_cases c1 : k < 2
  · rw [if_pos c1] at he
    have HE := Lib.hid he
    clear he
    go_enter Try.func19, Try.ntmps19
    go_wp2_with (first
      | (go_at_call 11; refine hbr.mono ?_; rintro e w' ⟨rfl, rfl⟩)
      | (go_at_call 18; refine hsp.mono ?_; rintro e w1 ⟨rfl, hC1⟩)
      | (go_at_call 14; refine (askE (hB.chg hC1 (fun _ _ x => x)) rfl hn HE.out).mono ?_; rintro e w2 ⟨X2, rfl, hB2, hW2⟩))
    go_ret
    exact ⟨X2, rfl, hB2, hW2.b, (((hG.trans hC1).mono (fun _ _ x => x.elim)).trans' hW2.chg (fun _ _ h => h)), fun i hi => (hW2.new i hi).imp id (fun x => Nat.le_trans (hG.trans hC1).size x)⟩
  · rw [if_neg c1] at he
    have HE := Lib.hid he
    clear he
    go_enter Try.func19, Try.ntmps19
    go_wp2_with (first
      | (go_at_call 11; refine hbr.mono ?_; rintro e w' ⟨rfl, rfl⟩)
      | (go_at_call 18; refine hsp.mono ?_; rintro e w1 ⟨rfl, hC1⟩)
      | (go_at_call 12; refine (didE (hB.chg hC1 (fun _ _ x => x)) rfl hn HE.out).mono ?_; rintro e w2 ⟨X2, rfl, hB2, hW2⟩))
    go_ret
    exact ⟨X2, rfl, hB2, hW2.b, (((hG.trans hC1).mono (fun _ _ x => x.elim)).trans' hW2.chg (fun _ _ h => h)), fun i hi => (hW2.new i hi).imp id (fun x => Nat.le_trans (hG.trans hC1).size x)⟩
theorem stateE {w : World} {X : FX} {S : FS} {n p : Nat} {d l x y z : Int} (h : BoxAt w X S n) (hp : X.b = p) (hd : I64 d) (hl : I64 l) (he : S.state d l = (x, y, z)) :
    Calls Try.prog 20 #[.pointer (some ⟨p, 0, none⟩), spotV d l] w fun e w' => e = .returned (.tuple #[.int .i64 x, .int .i64 y, .int .i64 z]) ∧ Chg (fun _ => False) w w' := by
  subst hp
  have := state_some w X S n d l h hd hl
  rw [he] at this
  exact this
set_option maxRecDepth 100000 in
set_option maxHeartbeats 4000000 in
theorem stands_yes {w : World} {X : FX} {S : FS} {n p : Nat} {d l x y z : Int} (h : BoxAt w X S n) (hp : X.b = p) (hd : I64 d) (hl : I64 l) (he : S.state d l = (x, y, z)) :
    Calls Try.prog 21 #[.pointer (some ⟨p, 0, none⟩), spotV d l, .int .i64 x, .int .i64 y, .int .i64 z] w fun e w' => e = .returned (.bool true) ∧ Chg (fun _ => False) w w' := by
  subst hp
  have hB := h.alloc (.cells #[.int .i64 d, .int .i64 l] 32)
  have hc0 : (w.alloc (.cells #[.int .i64 d, .int .i64 l] 32)).cell? ⟨w.heap.size, 0, none⟩ = some (.int .i64 d) := cell_of_heap (heap_new w _) 0
  have hc1 : (w.alloc (.cells #[.int .i64 d, .int .i64 l] 32)).cell? ⟨w.heap.size, 1, none⟩ = some (.int .i64 l) := cell_of_heap (heap_new w _) 1
  have hG := (Chg.refl (fun _ => False) w).alloc (.cells #[.int .i64 d, .int .i64 l] 32)
  have hst := stateE hB rfl hd hl he
  unfold spotV at hst
  unfold spotV
  go_enter Try.func21, Try.ntmps21
  go_wp2_with (first | (go_at_call 20; refine hst.mono ?_; rintro e w1 ⟨rfl, hC1⟩))
  go_ret
  exact ⟨by simp, hG.trans hC1⟩
theorem tickE {w : World} {X : FX} {S : FS} {n p : Nat} {t : Int} (h : BoxAt w X S n) (hp : X.b = p) (ht : S.now = t) :
    Calls Try.prog 23 #[.pointer (some ⟨p, 0, none⟩)] w fun e w' => e = .returned (.int .i64 t) ∧ w' = w := by
  subst hp ht
  exact tick_some w X.b X.m _ h.mapC h.nowC
theorem spotsE {w : World} {X : FX} {S : FS} {n p : Nat} (h : BoxAt w X S n) (hp : X.b = p) (hs : S.still) :
    Calls Try.prog 22 #[.pointer (some ⟨p, 0, none⟩)] w fun e w' => e = .returned (.slice none 0 0) ∧ Chg (fun _ => False) w w' := by
  subst hp
  exact spots_still w X S n h hs
end Go.Proofs.Ytbihefbjojlncaa
