/- fuse: a spot stands alike in both, and so do the rows of spots. -/
import Derived.Test.YtbihefbjojlncaaFrFull
namespace Go.Proofs.Ytbihefbjojlncaa
set_option linter.unusedVariables false
set_option linter.unusedSimpArgs false
open Go Go.RowKit
theorem neq_no {a b : Int} (ha : I64 a) (hb : I64 b) (W : World) : (binOp .neq 32 (.agg #[.int .i64 a, .int .i64 b]) (.agg #[.int .i64 a, .int .i64 b])).run Try.prog W = .ok (.bool false) W := by
  obtain ⟨r, hr, hiff⟩ := run_equal_deep (P := Try.prog) W (m := 2) (by omega) (k := 32) (by kernel_rfl) (by rw [Try.underlying32]) (key_spot ha hb) (key_spot ha hb)
  rw [run_neq_struct]
  unfold Op.equal Op.maxDepth spotV at hr
  rw [hr, hiff.2 rfl]
  rfl
set_option maxRecDepth 100000 in
set_option maxHeartbeats 8000000 in
theorem same_yes {w : World} {X : FX} {S : FS} {n p b base : Nat} {L : List FE} {d l : Int} (hB : BoxAt w X S n) (hp : X.b = p) (hR : RefAt w b base S L) (hL : L.length < 100000) (hd : I64 d) (hl : I64 l) :
    Calls Try.prog 16 #[.pointer (some ⟨p, 0, none⟩), .pointer (some ⟨b, 0, none⟩), spotV d l] w fun e w' => e = .returned (.bool true) ∧ Chg (fun _ => False) w w' := by
  subst hp
  have hal := (Chg.refl (fun _ => False) w).alloc (.cells #[.int .i64 d, .int .i64 l] 32)
  have hB0 := hB.alloc (.cells #[.int .i64 d, .int .i64 l] 32)
  have hR0 := hR.same hal
  have c0 : (w.alloc (.cells #[.int .i64 d, .int .i64 l] 32)).cell? ⟨w.heap.size, 0, none⟩ = some (.int .i64 d) := cell_of_heap (heap_new w _) 0
  have c1 : (w.alloc (.cells #[.int .i64 d, .int .i64 l] 32)).cell? ⟨w.heap.size, 1, none⟩ = some (.int .i64 l) := cell_of_heap (heap_new w _) 1
  obtain ⟨x, y, z, hst⟩ : ∃ x y z, S.state d l = (x, y, z) := ⟨_, _, _, rfl⟩
  have hs1 := fun W hb => stateE (w := W) (X := X) (n := n) hb rfl hd hl hst
  have hs2 := fun W hr => refstateE (w := W) (b := b) (base := base) (L := L) hr hd hl hst
  obtain ⟨K, hK⟩ : ∃ K, L.map keyOfE = K := ⟨_, rfl⟩
  have hs3 := fun W hb => spots_full W X S n L hb hR.keys hL
  have hs4 := fun W hr => refspots_some W b base S L hr
  have hKr : ∀ x ∈ K, I64 x.1 ∧ I64 x.2 := fun x hx => by
    rw [← hK] at hx
    obtain ⟨e, he, rfl⟩ := List.mem_map.1 hx
    have := hR.keys.ent e he
    have k1 : I64 e.1 := by unfold I64; omega
    have k2 : I64 e.2.1 := by unfold I64; omega
    exact ⟨k1, k2⟩
  have hKl : K.length < 100000 := by rw [← hK]; simpa using hL
  rw [hK] at hs3 hs4
  have HKR := Lib.hid hKr
  clear hB hR hst hL hK hKr
  unfold spotV at hs1 hs2
  unfold spotV
  go_enter Try.func16, Try.ntmps16
  go_upto_region 2 with (first
    | (go_at_call 20; refine (hs1 _ hB0).mono ?_; rintro e w1 ⟨rfl, hC1⟩))
  have hB1 := hB0.chg hC1 (fun _ _ x => x)
  have hR1 := hR0.same hC1
  have d0 := hC1.cell c0 (fun x => x)
  have d1 := hC1.cell c1 (fun x => x)
  have hG1 := hal.trans hC1
  clear hs1 c0 c1 hB0 hR0 hal hC1
  go_upto_region 3 with (first
    | (go_at_call 30; refine (hs2 _ hR1).mono ?_; rintro e w2 ⟨rfl, hC2⟩))
  have hB2 := hB1.chg hC2 (fun _ _ x => x)
  have hR2 := hR1.same hC2
  have hG2 := hG1.trans hC2
  clear hs2 d0 d1 hB1 hR1 hG1 hC2
  go_upto_region 4 with (first
    | (go_at_call 22; refine (hs3 _ hB2).mono ?_; rintro e w3 ⟨v3, rfl, hS3, hC3⟩; have hR3 := hR2.same hC3)
    | (go_at_call 31; refine (hs4 _ hR3).mono ?_; rintro e w4 ⟨v4, rfl, hS4, hC4⟩))
  have hB4 := (hB2.chg hC3 (fun _ _ x => x)).chg hC4 (fun _ _ x => x)
  have hR4 := hR3.same hC4
  have hG4 := (hG2.trans hC3).trans hC4
  obtain ⟨A3, q3, rfl, r3⟩ := (hS3.same hC4).rows
  obtain ⟨A4, q4, rfl, r4⟩ := hS4.rows
  have t3 := hB4.mapC
  have t2 := hB4.nowC
  obtain ⟨v5, hb5, _⟩ := hR4.row
  have n5 := cell_of_heap hb5 2
  simp only [List.getElem?_toArray, List.getElem?_cons_zero, List.getElem?_cons_succ] at n5
  clear hs3 hs4 hB2 hR2 hR3 hG2 hC3 hC4 hS3 hS4 hb5
  go_quiet ((go_at_call 23; exact Calls.quiet_of_same (tick_some _ X.b X.m S.now t3 t2)))
  have hB5 := hB4.drewN nq
  have hG5 := hG4.drewN nq
  have s3 : ∀ k e, K[k]? = some e → ∃ g, A3 = some ⟨g, 0, none⟩ ∧ (w4.drewN nq).cell? ⟨g, k * 2, none⟩ = some (.int .i64 e.1) ∧ (w4.drewN nq).cell? ⟨g, k * 2 + 1, none⟩ = some (.int .i64 e.2) := r3
  have s4 : ∀ k e, K[k]? = some e → ∃ g, A4 = some ⟨g, 0, none⟩ ∧ (w4.drewN nq).cell? ⟨g, k * 2, none⟩ = some (.int .i64 e.1) ∧ (w4.drewN nq).cell? ⟨g, k * 2 + 1, none⟩ = some (.int .i64 e.2) := r4
  generalize w4.drewN nq = w5 at *
  clear r3 r4 t3 t2 n5 hB4 hR4 hG4
  go_upto_block 0 with fail
  go_wp2_with fail
  go_loopw [15] (fun a wr => ∃ k : Nat, a = .int .i64 k ∧ k ≤ K.length ∧ Chg (fun _ => False) w5 wr)
    (fun a _ => K.length - (intOf a).toNat)
  case atStart => exact ⟨0, rfl, by omega, Chg.refl _ _⟩
  case round =>
    obtain ⟨k, rfl, k0, hC⟩ := hrel
    by_cases hkl : k < K.length
    · obtain ⟨e, he⟩ : ∃ e, K[k]? = some e := ⟨_, List.getElem?_eq_getElem hkl⟩
      obtain ⟨g3, rfl, e30, e31⟩ := s3 k e he
      obtain ⟨g4, rfl, e40, e41⟩ := s4 k e he
      have f30 := hC.cell e30 (fun x => x)
      have f31 := hC.cell e31 (fun x => x)
      have f40 := hC.cell e40 (fun x => x)
      have f41 := hC.cell e41 (fun x => x)
      obtain ⟨q1, q2⟩ := HKR.out e (List.mem_of_getElem? he)
      have hq : ∀ W, (binOp .neq 32 (.agg #[.int .i64 e.1, .int .i64 e.2]) (.agg #[.int .i64 e.1, .int .i64 e.2])).run Try.prog W = .ok (.bool false) W := fun W => neq_no q1 q2 W
      have hw3 : IntKind.i64.wrap ((k : Int) + 1) = k + 1 := IntWalk.i64_in _ ⟨by omega, by omega⟩
      clear e30 e31 e40 e41 s3 s4
      go_upto_region 9 with fail
      go_quiet (fail)
      go_wp2_with fail
      go_roundw
      case rel => exact ⟨k + 1, by go_num, by omega, hC.drewN _⟩
      case measure => simp [intOf]; omega
    · have hke : k = K.length := by omega
      go_wp2_with fail
      go_ret
      exact ⟨rfl, hG5.trans hC⟩
end Go.Proofs.Ytbihefbjojlncaa
