/- fuse: at, a spot's fuse and the tick. -/
import Derived.Test.YtbihefbjojlncaaFsWalk1
import Derived.Deep.CutBlock
import Derived.Deep.DeepCutAuto
namespace Go.Proofs.Ytbihefbjojlncaa
set_option linter.unusedVariables false
set_option linter.unusedSimpArgs false
open Go Go.RowKit
theorem BoxAt.look {w : World} {X : FX} {S : FS} {n : Nat} (h : BoxAt w X S n) {d l : Int} (hd : I64 d) (hl : I64 l) :
    (Instr.lookup 66 (.map (some X.m)) (spotV d l) false).run Try.prog w = .ok (ptrV (X.F d l)) w := by
  obtain ⟨D, hD, h1, _⟩ := h.map
  obtain ⟨v, ps, hr, hv⟩ := hD.lookup law Try.underlying66 (z := .pointer none) (by kernel_rfl) (zd := .nil) (zp := []) rfl (key_spot hd hl)
  rw [h1 d l hd hl] at hv
  rw [ptrE_inv hv] at hr
  exact hr
theorem BoxAt.nowC {w : World} {X : FX} {S : FS} {n : Nat} (h : BoxAt w X S n) : w.cell? ⟨X.b, 2, none⟩ = some (.int .i64 S.now) := cell_of_heap h.box 2
theorem BoxAt.restC {w : World} {X : FX} {S : FS} {n : Nat} (h : BoxAt w X S n) : w.cell? ⟨X.b, 1, none⟩ = some (.int .i64 S.rest) := cell_of_heap h.box 1
theorem BoxAt.mostC {w : World} {X : FX} {S : FS} {n : Nat} (h : BoxAt w X S n) : w.cell? ⟨X.b, 0, none⟩ = some (.int .i64 S.most) := cell_of_heap h.box 0
theorem BoxAt.mapC {w : World} {X : FX} {S : FS} {n : Nat} (h : BoxAt w X S n) : w.cell? ⟨X.b, 3, none⟩ = some (.map (some X.m)) := cell_of_heap h.box 3
theorem BoxAt.nowF {w : World} {X : FX} {S : FS} {n : Nat} (h : BoxAt w X S n) : w.frozen? ⟨X.b, 2, none⟩ = false := free_of_heap h.box 2
theorem BoxAt.numC {w : World} {X : FX} {S : FS} {n : Nat} (h : BoxAt w X S n) {d l : Int} {k : Nat} (hk : X.F d l = some k) : w.cell? ⟨k, 0, none⟩ = some (.int .i64 (S.N d l)) := cell_of_heap (h.fus _ _ _ hk) 0
theorem BoxAt.numF {w : World} {X : FX} {S : FS} {n : Nat} (h : BoxAt w X S n) {d l : Int} {k : Nat} (hk : X.F d l = some k) : w.frozen? ⟨k, 0, none⟩ = false := free_of_heap (h.fus _ _ _ hk) 0
set_option maxRecDepth 100000 in
set_option maxHeartbeats 4000000 in
theorem at_old (w : World) (X : FX) (S : FS) (n : Nat) (d l t : Int) (k : Nat) (h : BoxAt w X S n) (hm : mayAt d l t = true) (hk : X.F d l = some k) :
    Calls Try.prog 24 #[.pointer (some ⟨X.b, 0, none⟩), spotV d l, .int .i64 t] w fun e w' =>
      e = .returned (.tuple #[.pointer (some ⟨k, 0, none⟩), .int .i64 (max S.now t), .int .i64 0]) ∧ BoxAt w' X (S.tick t) n ∧ Went w w' X X := by
  obtain ⟨t0, t1, d0, d1, l0, l1⟩ := mayAt_iff.1 hm
  have hd : I64 d := by unfold I64; omega
  have hl : I64 l := by unfold I64; omega
  have h1 := h.alloc (.cells #[.int .i64 d, .int .i64 l] 32)
  have hc0 : (w.alloc (.cells #[.int .i64 d, .int .i64 l] 32)).cell? ⟨w.heap.size, 0, none⟩ = some (.int .i64 d) := cell_of_heap (heap_new w _) 0
  have hc1 : (w.alloc (.cells #[.int .i64 d, .int .i64 l] 32)).cell? ⟨w.heap.size, 1, none⟩ = some (.int .i64 l) := cell_of_heap (heap_new w _) 1
  have nb : w.heap.size ≠ X.b := fun e => by have := h.lt (i := X.b) (.inl rfl); omega
  have x0 : ¬ t < 0 := by omega
  have x1 : ¬ 4503599627370496 < t := by omega
  have x2 : ¬ d < 0 := by omega
  have x3 : ¬ 1000 < d := by omega
  have x4 : ¬ l < 0 := by omega
  have x5 : ¬ 9 < l := by omega
  have hmp := h.mapC
  go_enter Try.func24, Try.ntmps24
  unfold spotV
  go_upto_block 0 with (first | (go_at_call 32; refine (none_no _ X.b X.m h1.mapC).mono ?_; rintro e w' ⟨rfl, rfl⟩))
  go_cut [] from 9 to 54 (fun W => BoxAt W X (S.tick t) n ∧ Went w W X X ∧ W.cell? ⟨w.heap.size, 0, none⟩ = some (.int .i64 d) ∧ W.cell? ⟨w.heap.size, 1, none⟩ = some (.int .i64 l))
  case first =>
    by_cases ht : t ≤ S.now
    · go_wp2_with fail
      refine wp_loop_rounds 1 ?_; rw [rounds_succ]
      go_wp2_with (first | (go_at_call 33; refine (load_some _ _ _ S.now h1.nowC).mono ?_; rintro e w' ⟨rfl, rfl⟩))
      go_meet
      exact ⟨h1.stay ht, ⟨rfl, (Chg.refl _ _).alloc _, fun _ h => .inl h⟩, hc0, hc1⟩
    · go_wp2_with fail
      refine wp_loop_rounds 1 ?_; rw [rounds_succ]
      go_wp2_with (first | (go_at_call 33; refine (load_some _ _ _ S.now h1.nowC).mono ?_; rintro e w' ⟨rfl, rfl⟩) | (go_at_call 39; refine (cas_hit _ _ _ S.now t h1.nowC h1.nowF).mono ?_; rintro e w' ⟨rfl, rfl⟩))
      go_meet
      exact ⟨h1.setNow (by omega) t1, ⟨rfl, ((Chg.refl _ _).alloc _).setCell (.inl (.inl rfl)) _, fun _ h => .inl h⟩, cell_setCell hc0 (fun e => nb e.symm) _, cell_setCell hc1 (fun e => nb e.symm) _⟩
  case rest =>
    obtain ⟨B1, G1, c0, c1⟩ := hcut
    have hlk : ∀ j, (Instr.lookup 66 (.map (some X.m)) (.agg #[.int .i64 d, .int .i64 l]) false).run Try.prog (wc.drewN j) = .ok (.pointer (some ⟨k, 0, none⟩)) (wc.drewN j) := fun j => by
      have := (B1.drewN j).look hd hl
      rw [hk] at this
      exact this
    have hmc := B1.mapC
    have hfin : ∀ W, BoxAt W X (S.tick t) n → Calls Try.prog 23 #[.pointer (some ⟨X.b, 0, none⟩)] W fun e w' => e = .returned (.int .i64 (max S.now t)) ∧ w' = W := fun W hb => tick_some W X.b X.m _ hb.mapC hb.nowC
    go_upto_region 7 with fail
    go_quiet (fail)
    go_wp2_with (first | (go_at_call 23; refine (hfin _ (B1.drewN _)).mono ?_; rintro e w' ⟨rfl, rfl⟩))
    go_ret3
    exact ⟨rfl, B1.drewN _, G1.drewN _⟩
set_option maxRecDepth 100000 in
set_option maxHeartbeats 4000000 in
theorem at_new (w : World) (X : FX) (S : FS) (n : Nat) (d l t : Int) (h : BoxAt w X S n) (hn : n < 1000000) (hm : mayAt d l t = true) (hk : X.F d l = none) :
    Calls Try.prog 24 #[.pointer (some ⟨X.b, 0, none⟩), spotV d l, .int .i64 t] w fun e w' =>
      ∃ X' k, e = .returned (.tuple #[.pointer (some ⟨k, 0, none⟩), .int .i64 (max S.now t), .int .i64 0]) ∧ X'.F d l = some k ∧ BoxAt w' X' (S.tick t) (n + 1) ∧ Went w w' X X' := by
  obtain ⟨t0, t1, d0, d1, l0, l1⟩ := mayAt_iff.1 hm
  have hd : I64 d := by unfold I64; omega
  have hl : I64 l := by unfold I64; omega
  have h1 := h.alloc (.cells #[.int .i64 d, .int .i64 l] 32)
  have hc0 : (w.alloc (.cells #[.int .i64 d, .int .i64 l] 32)).cell? ⟨w.heap.size, 0, none⟩ = some (.int .i64 d) := cell_of_heap (heap_new w _) 0
  have hc1 : (w.alloc (.cells #[.int .i64 d, .int .i64 l] 32)).cell? ⟨w.heap.size, 1, none⟩ = some (.int .i64 l) := cell_of_heap (heap_new w _) 1
  have nb : w.heap.size ≠ X.b := fun e => by have := h.lt (i := X.b) (.inl rfl); omega
  have x0 : ¬ t < 0 := by omega
  have x1 : ¬ 4503599627370496 < t := by omega
  have x2 : ¬ d < 0 := by omega
  have x3 : ¬ 1000 < d := by omega
  have x4 : ¬ l < 0 := by omega
  have x5 : ¬ 9 < l := by omega
  have hmp := h.mapC
  go_enter Try.func24, Try.ntmps24
  unfold spotV
  go_upto_block 0 with (first | (go_at_call 32; refine (none_no _ X.b X.m h1.mapC).mono ?_; rintro e w' ⟨rfl, rfl⟩))
  go_cut [] from 9 to 54 (fun W => BoxAt W X (S.tick t) n ∧ Went w W X X ∧ W.cell? ⟨w.heap.size, 0, none⟩ = some (.int .i64 d) ∧ W.cell? ⟨w.heap.size, 1, none⟩ = some (.int .i64 l))
  case first =>
    by_cases ht : t ≤ S.now
    · go_wp2_with fail
      refine wp_loop_rounds 1 ?_; rw [rounds_succ]
      go_wp2_with (first | (go_at_call 33; refine (load_some _ _ _ S.now h1.nowC).mono ?_; rintro e w' ⟨rfl, rfl⟩))
      go_meet
      exact ⟨h1.stay ht, ⟨rfl, (Chg.refl _ _).alloc _, fun _ h => .inl h⟩, hc0, hc1⟩
    · go_wp2_with fail
      refine wp_loop_rounds 1 ?_; rw [rounds_succ]
      go_wp2_with (first | (go_at_call 33; refine (load_some _ _ _ S.now h1.nowC).mono ?_; rintro e w' ⟨rfl, rfl⟩) | (go_at_call 39; refine (cas_hit _ _ _ S.now t h1.nowC h1.nowF).mono ?_; rintro e w' ⟨rfl, rfl⟩))
      go_meet
      exact ⟨h1.setNow (by omega) t1, ⟨rfl, ((Chg.refl _ _).alloc _).setCell (.inl (.inl rfl)) _, fun _ h => .inl h⟩, cell_setCell hc0 (fun e => nb e.symm) _, cell_setCell hc1 (fun e => nb e.symm) _⟩
  case rest =>
    obtain ⟨B1, G1, c0, c1⟩ := hcut
    have hlk : ∀ j, (Instr.lookup 66 (.map (some X.m)) (.agg #[.int .i64 d, .int .i64 l]) false).run Try.prog (wc.drewN j) = .ok (.pointer none) (wc.drewN j) := fun j => by
      have := (B1.drewN j).look hd hl
      rw [hk] at this
      exact this
    have hmc := B1.mapC
    have hbd : ∀ W : World, Sem.run Try.prog (Instr.build 81 #[]) W = .ok (.agg #[.int .i64 0]) W := fun W => run_build W _ _ _ (by kernel_rfl)
    go_upto_region 7 with fail
    go_quiet (fail)
    have B2 := B1.drewN nq
    have G2 := G1.drewN nq
    have c2 : (wc.drewN nq).cell? ⟨w.heap.size, 0, none⟩ = some (.int .i64 d) := c0
    have c3 : (wc.drewN nq).cell? ⟨w.heap.size, 1, none⟩ = some (.int .i64 l) := c1
    have hmc2 := B2.mapC
    generalize wc.drewN nq = w2 at *
    go_upto_region 10 with fail
    obtain ⟨D, hD, g1, g2⟩ := B2.map
    have hI : Maps.IsMap D := by
      obtain ⟨es, _, _, _, _, e⟩ := hD
      exact ⟨_, e⟩
    have hD3 := hD.alloc (.cells #[.int .i64 0] 81)
    have mc3 := cell_alloc hmc2 (.cells #[.int .i64 0] 81)
    have c4 := cell_alloc c2 (.cells #[.int .i64 0] 81)
    have c5 := cell_alloc c3 (.cells #[.int .i64 0] 81)
    have hput := fun w' a b => B2.put (w' := w') ⟨d0, d1⟩ ⟨l0, l1⟩ hk g1 g2 hI a b
    have hsz3 : w2.heap.size < (w2.alloc (.cells #[.int .i64 0] 81)).heap.size := by simp
    generalize hw3 : w2.alloc (.cells #[.int .i64 0] 81) = w3 at *
    have HPUT := Lib.hid hput
    have HD3 := Lib.hid hD3
    clear hput hD3 g1 g2 hI hD B1
    go_still_tail 6, (by kernel_rfl)
    change wpList _ _ _ _ _ w3.drew
    refine wpList_mapUpdate_own (H := Unit) w3.drew rfl _ _ _ 66 rfl 32 69 law Try.underlying66 ptrE X.m n D rfl HD3.out.drew (by unfold maxLen; omega) _ _ (spotK d l) rfl rfl (key_spot hd hl) (.lit (.int .i64 w2.heap.size)) [] (ptrE_mk (some w2.heap.size)) ?_
    intro w4 hown4 hg4
    have B4 := HPUT.out w4 hown4 (by exact ⟨hg4.os, hg4.tape, hg4.output, hg4.size, hg4.block⟩)
    have G4 : Went w w4 X { X with F := setF X.F d l w2.heap.size } := by
      refine ⟨rfl, ?_, ?_⟩
      · refine Chg.grown (w := w3.drew) ?_ hg4 (fun k hk => by simp at hk; subst hk; exact .inl (.inr (.inl rfl)))
        rw [← hw3]
        exact (G2.chg.alloc _).drew
      · rintro i (rfl | rfl | ⟨a, b, hf⟩)
        · exact .inl (.inl rfl)
        · exact .inl (.inr (.inl rfl))
        · by_cases e : a = d ∧ b = l
          · obtain ⟨rfl, rfl⟩ := e
            simp only [setF_same, Option.some.injEq] at hf
            subst hf
            exact .inr G2.chg.size
          · simp only [setF_other e] at hf
            exact .inl (.inr (.inr ⟨a, b, hf⟩))
    have hfin : Calls Try.prog 23 #[.pointer (some ⟨X.b, 0, none⟩)] w4 fun e w' => e = .returned (.int .i64 (max S.now t)) ∧ w' = w4 := tick_some w4 X.b X.m _ B4.mapC B4.nowC
    go_wp2_with (first | (go_at_call 23; refine hfin.mono ?_; rintro e w' ⟨rfl, rfl⟩))
    go_ret3
    exact ⟨_, w2.heap.size, rfl, setF_same _ _ _ _, B4, G4⟩
end Go.Proofs.Ytbihefbjojlncaa
