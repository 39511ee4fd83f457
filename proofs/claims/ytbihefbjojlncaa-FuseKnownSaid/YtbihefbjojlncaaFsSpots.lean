/- fuse: Spots, where no fuse has failures or is blown: nil. -/
import Derived.Test.YtbihefbjojlncaaFsWalk6
import Derived.Maps.RangeWalk
namespace Go.Proofs.Ytbihefbjojlncaa
set_option linter.unusedVariables false
set_option linter.unusedSimpArgs false
open Go Go.RowKit
set_option maxRecDepth 100000 in
theorem len64_0 (w : World) : Calls Try.prog 56 #[.int .u64 0] w fun e w' => e = .returned (.int .i64 0) ∧ w' = w := by
  go_enter Try.func56, Try.ntmps56
  go_wp2
  go_ret
  exact ⟨by kernel_rfl, rfl⟩
theorem len_0 (w : World) : Calls Try.prog 43 #[.int .u64 0] w fun e w' => e = .returned (.int .i64 0) ∧ w' = w := by
  go_enter Try.func43, Try.ntmps43
  go_wp2_with (first | (go_at_call 56; refine (len64_0 _).mono ?_; rintro e w' ⟨rfl, rfl⟩))
  go_ret
  exact ⟨rfl, rfl⟩
theorem insert_nil (w : World) (f : Value) : Calls Try.prog 47 #[.slice none 0 0, .int .i64 0, .int .i64 0, f] w fun e w' => e = .returned (.tuple #[]) ∧ w' = w := by
  go_enter Try.func47, Try.ntmps47
  go_wp2
  refine wp_loop_rounds 1 ?_; rw [rounds_succ]
  go_wp2
  go_end0
  exact ⟨rfl, rfl⟩
theorem pdq_nil (w : World) (f : Value) : Calls Try.prog 42 #[.slice none 0 0, .int .i64 0, .int .i64 0, .int .i64 0, f] w fun e w' => e = .returned (.tuple #[]) ∧ w' = w := by
  go_enter Try.func42, Try.ntmps42
  go_wp2
  refine wp_loop_rounds 1 ?_; rw [rounds_succ]
  go_wp2_with (first | (go_at_call 47; refine (insert_nil _ _).mono ?_; rintro e w' ⟨rfl, rfl⟩))
  refine bodyPost_ret (results_none rfl _ _ _) rfl ?_
  exact ⟨rfl, rfl⟩
theorem sort_nil (w : World) (f : Value) : Calls Try.prog 34 #[.slice none 0 0, f] w fun e w' => e = .returned (.tuple #[]) ∧ w' = w := by
  go_enter Try.func34, Try.ntmps34
  go_wp2_with (first | (go_at_call 43; refine (len_0 _).mono ?_; rintro e w' ⟨rfl, rfl⟩) | (go_at_call 42; refine (pdq_nil _ _).mono ?_; rintro e w' ⟨rfl, rfl⟩))
  go_end0
  exact ⟨rfl, rfl⟩
theorem lits_int {t : TypeId} (ht : Try.prog.underlying t = some (.int .i64)) {m : Nat} {v : Value} {ls : List Lit} (h : Try.prog.keyLits (m + 1) t [v] = some ls) : ∃ n, v = .int .i64 n ∧ I64 n := by
  unfold Program.keyLits at h
  rw [ht] at h
  cases v with
  | int q n =>
    simp only at h
    split at h
    · rename_i hc
      obtain ⟨rfl, hw⟩ := hc
      exact ⟨n, rfl, i64_of hw⟩
    · cases h
  | _ => simp at h
set_option maxRecDepth 100000 in
/-- what reads as a spot's key is a spot -/
theorem key_inv {v : Value} {kl : Lit} (h : keyOf Try.prog 32 v = some kl) : ∃ x : Int × Int, v = spotV x.1 x.2 := by
  have c2 : Try.prog.cellsOf 32 = 2 := by kernel_rfl
  have c1 : Try.prog.cellsOf 3 = 1 := by kernel_rfl
  have cl : Try.prog.cellsOf 30 = 1 := by kernel_rfl
  obtain ⟨m, hm⟩ : ∃ m, Try.prog.types.size = m + 1 := ⟨_, Nat.sub_add_cancel (show 1 ≤ Try.prog.types.size from of_decide_eq_true (by kernel_rfl)) |>.symm⟩
  unfold keyOf at h
  rw [Try.underlying32] at h
  simp only at h
  split at h
  · rename_i hf
    obtain ⟨ls, hl, _⟩ := Option.map_eq_some_iff.1 h
    have hf2 : v.formed Try.prog 32 = true := by simp at hf; exact hf.2
    cases v with
    | agg cs =>
      simp [Value.formed, Try.underlying32, c2] at hf2
      obtain ⟨l⟩ := cs
      match l, hf2 with
      | [a, b], _ =>
        rw [hm] at hl
        unfold Program.keyLits at hl
        rw [Try.underlying32] at hl
        simp [Value.cells, c2, c1, cl] at hl
        obtain ⟨la, ha, hl⟩ := Option.bind_eq_some_iff.1 hl
        cases hb : Try.prog.keyLits (m + 1) 30 [b] with
        | none => simp [hb] at hl
        | some lb =>
          obtain ⟨x, rfl, _⟩ := lits_int Try.underlying3 ha
          obtain ⟨y, rfl, _⟩ := lits_int Try.underlying30 hb
          exact ⟨(x, y), rfl⟩
    | _ => simp [Value.formed, Try.underlying32] at hf2
  · cases h
set_option maxRecDepth 100000 in
set_option maxHeartbeats 4000000 in
theorem spots_still (w : World) (X : FX) (S : FS) (n : Nat) (h : BoxAt w X S n) (hs : S.still) :
    Calls Try.prog 22 #[.pointer (some ⟨X.b, 0, none⟩)] w fun e w' => e = .returned (.slice none 0 0) ∧ Chg (fun _ => False) w w' := by
  obtain ⟨D, hown, g1, g2⟩ := h.map
  have hmc := h.mapC
  go_enter Try.func22, Try.ntmps22
  go_wp2_with (first
    | (go_at_call 32; refine (none_no _ X.b X.m hmc).mono ?_; rintro e w' ⟨rfl, rfl⟩)
    | (at_range; refine wpList_range_own _ rfl _ 66 rfl 32 69 law Try.underlying66 _ X.m n _ rfl hown ?_; intro w0 hrg0 hg0 hs0))
  have hB0 : BoxAt w0 X S n := h.chg (K := fun _ => False) ⟨hg0.os, hg0.tape, hg0.output, hg0.size, fun i hi _ => hg0.block i hi (by simp)⟩ (fun _ _ x => x)
  have hC0 : Chg (fun _ => False) w' w0 := ⟨hg0.os, hg0.tape, hg0.output, hg0.size, fun i hi _ => hg0.block i hi (by simp)⟩
  have hOwn : ∀ i, X.Own i → i < w'.heap.size := fun i hi => h.lt hi
  go_frame
  go_loopw [2, 3, 4] (fun v _ _ wr => v = .slice none 0 0 ∧ ∃ (left : Lit → Bool) (cnt : Nat), wr.ranges Try.prog 32 ptrE X.m w'.heap.size n D left cnt ∧ BoxAt wr X S n ∧ Chg (fun _ => False) w' wr)
    (fun _ _ _ wr => wr.rangeLeft X.m w'.heap.size)
  case atStart => exact ⟨rfl, _, _, hrg0, hB0, hC0⟩
  case round =>
    obtain ⟨rfl, left, cnt, hrg, hB, hC⟩ := hrel
    go_wp2_with (first
      | (at_next; refine wpList_next_ranges _ rfl _ rfl 32 law ptrE (fun (x : Int × Int) => spotV x.1 x.2) (fun (v : Value) => v) (fun key kl hkl => key_inv hkl) (fun v y _ => ⟨v, rfl⟩) X.m w'.heap.size n _ _ _ rfl hrg ?_ ?_))
    · intro _ _
      go_wp2_with (first | (go_at_call 34; refine (sort_nil _ _).mono ?_; rintro e w2 ⟨rfl, rfl⟩))
      go_ret
      exact ⟨rfl, hC⟩
    · intro xa xb c kl yd yp w1 cnt1 hkey hlk hv hat hrg1 hlt hg1 hs1 hen
      have hhas := Maps.has_true_of_atKey hat
      obtain ⟨d, l, k, rfl, hF⟩ := g2 kl hhas
      have hr := hB.rng _ _ _ hF
      have hd : I64 d := by unfold I64; omega
      have hl : I64 l := by unfold I64; omega
      have hx := law.inj hkey (key_spot hd hl)
      have hyy := hat .nil
      rw [g1 d l hd hl, hF] at hyy
      subst hyy
      obtain rfl := ptrE_inv (o := some k) hv
      simp only [hx] at hen
      rw [hx]
      have hC1 : Chg (fun _ => False) w' w1 := ⟨hg1.os.trans hC.os, hg1.tape.trans hC.tape, hg1.output.trans hC.output, by have := hC.size; omega, fun i hi _ => (hg1.block i (Nat.lt_of_lt_of_le hi hC.size) (fun e => by simp at e; omega)).trans (hC.block i hi (fun x => x))⟩
      have hB1 : BoxAt w1 X S n := hB.keep fun i hi => hg1.block i (hB.lt hi) (fun e => by have := hOwn i hi; simp at e; omega)
      have hB2 := hB1.alloc (.cells #[.int .i64 d, .int .i64 l] 32)
      have hcell := hB2.numC hF
      rw [hs] at hcell
      unfold spotV at hen ⊢
      unfold ptrV at hen ⊢
      go_wp2_with (first | (go_at_call 33; refine (load_some _ _ _ 0 hcell).mono ?_; rintro e w2 ⟨rfl, rfl⟩))
      go_roundw
      case rel => exact ⟨rfl, _, cnt1, hrg1.alloc _, hB2, hC1.alloc _⟩
      case measure => rw [(hrg1.alloc _).left_eq, hrg.left_eq]; exact hlt
end Go.Proofs.Ytbihefbjojlncaa
