/- fuse: the law FuseTicks, walked: it returns true at every input. -/
import Derived.Test.YtbihefbjojlncaaFsTwo
namespace Go.Proofs.Ytbihefbjojlncaa
set_option linter.unusedVariables false
set_option linter.unusedSimpArgs false
open Go Go.RowKit
theorem intsCell' {W : World} {A : Option Addr} {L : List Int} (h : InRows 1 intC W A L) {k : Nat} (hk : k < L.length) : ∃ g o, A = some ⟨g, o, none⟩ ∧ W.cell? ⟨g, o + k, none⟩ = some (.int .i64 (L.getD k 0)) := by
  obtain ⟨g, o, e, hc⟩ := h k (L.getD k 0) (by simp [List.getD, List.getElem?_eq_getElem hk])
  have := hc 0 (.int .i64 (L.getD k 0)) rfl
  simp at this
  exact ⟨g, o, e, this⟩
theorem getD_i64' {L : List Int} (h : ∀ c ∈ L, I64 c) {k : Nat} (hk : k < L.length) : I64 (L.getD k 0) := by
  simp only [List.getD, List.getElem?_eq_getElem hk, Option.getD_some]
  exact h _ (List.getElem_mem hk)
theorem askNo {T : FS} {d l t : Int} (h : mayAt d l t = false) : T.ask d l t = (T, 9) := by unfold FS.ask; rw [h]; rfl
theorem didNo {T : FS} {d l t : Int} {b : Bool} (h : mayAt d l t = false) : T.did d l b t = (T, 9) := by unfold FS.did; rw [h]; rfl
theorem ask9 {T : FS} {t' : Int} (h : T.N 9 0 = 0) (h0 : 0 ≤ t') (h1 : t' ≤ 4503599627370496) (hn : T.now ≤ t') : T.ask 9 0 t' = ({ T with now := t' }, 0) := by
  have hm : mayAt 9 0 t' = true := mayAt_iff.2 ⟨h0, h1, by omega, by omega, by omega, by omega⟩
  unfold FS.ask
  rw [hm, if_pos rfl]
  unfold FS.ask1
  have : (T.tick t').N 9 0 = 0 := h
  rw [this, if_pos (by decide)]
  have e : max T.now t' = t' := by omega
  unfold FS.tick
  rw [e]
set_option maxRecDepth 100000 in
set_option maxHeartbeats 16000000 in
theorem ticks_any (w : World) (A : Option Addr) (L : List (Int × Int × Int)) (cap : Nat) (B : Option Addr) (M : List Int) (cap' : Nat) (hL : InRows 3 callC w A L) (hG : ∀ c ∈ L, I64 c.1 ∧ I64 c.2.1 ∧ I64 c.2.2) (hN : L.length ≤ maxLen)
    (hM : InRows 1 intC w B M) (hH : ∀ c ∈ M, I64 c) (hO : M.length ≤ maxLen) :
    Calls Try.prog 7 #[.slice A L.length cap, .slice B M.length cap'] w fun e w' => e = .returned (.bool true) ∧ Chg (fun _ => False) w w' := by
  have hlen : L.length ≤ 9223372036854775807 := by unfold maxLen at hN; omega
  have hlem : M.length ≤ 9223372036854775807 := by unfold maxLen at hO; omega
  have HL := Lib.hid hL
  have HG := Lib.hid hG
  have HM := Lib.hid hM
  have HH := Lib.hid hH
  have hq9 : ∀ W : World, Sem.run Try.prog (Instr.build 32 #[(0, Value.int .i64 9)]) W = .ok (.agg #[.int .i64 9, .int .i64 0]) W := fun W => run_build W _ _ _ (by kernel_rfl)
  have hq1 : ∀ W : World, Sem.run Try.prog (Instr.build 32 #[(0, Value.int .i64 1)]) W = .ok (.agg #[.int .i64 1, .int .i64 0]) W := fun W => run_build W _ _ _ (by kernel_rfl)
  have hqm : ∀ W : World, Sem.run Try.prog (Instr.build 32 #[(0, Value.int .i64 (-1))]) W = .ok (.agg #[.int .i64 (-1), .int .i64 0]) W := fun W => run_build W _ _ _ (by kernel_rfl)
  have tk1 : True := trivial
  clear hL hG hN hM hH hO
  go_enter Try.func7, Try.ntmps7
  go_wp2_with (first
    | (go_at_call 9; have _t := tk1; clear _t tk1; refine (new_some _ 2 6 (by omega) (by omega)).mono ?_; rintro e w1 ⟨X0, rfl, hB0, hC0, hU0⟩; have tk2 : True := trivial)
    | (go_at_call 9; have _t := tk2; clear _t tk2; refine (new_some w1 2 6 (by omega) (by omega)).mono ?_; rintro e w2 ⟨Y0, rfl, hB1, hC1, hU1⟩))
  have hs0 := TB.make hC0 hB0 hU0 hB1 hC1 hU1
  generalize X0.b = p at *
  generalize Y0.b = q at *
  clear hB0 hC0 hU0 hB1 hC1 hU1 w1
  go_loopw [9, 10, 11, 12, 13, 14] (fun a b _ _ _ _ wr => ∃ (t : Int) (k : Nat) (X Y : FX) (S T : FS) (n m : Nat), a = .int .i64 t ∧ b = .int .i64 k ∧ k ≤ L.length ∧ k ≤ 60 ∧ 0 ≤ t ∧ t ≤ 4 * k ∧ TB w wr p q X Y S T n m ∧ Twin S T t ∧ T.N 9 0 = 0 ∧ n ≤ 5 * k ∧ m ≤ 5 * k)
    (fun _ b _ _ _ _ _ => L.length - (intOf b).toNat)
  case atStart => exact ⟨0, 0, X0, Y0, _, _, 0, 0, rfl, rfl, by omega, by omega, by omega, by omega, hs0, ⟨rfl, rfl, rfl, rfl, fun _ _ => rfl⟩, rfl, by omega, by omega⟩
  case round =>
    obtain ⟨t, k, X, Y, S, T, n, m, rfl, rfl, k0, k1, t0, t1, hs, hw, hn9, hn, hm⟩ := hrel
    clear hs0
    by_cases hk : k < L.length ∧ k < 60
    · obtain ⟨hk1, hk2⟩ := hk
      have hck : L[k]? = some (L[k]'hk1) := List.getElem?_eq_getElem hk1
      have hcg := HG.out _ (List.getElem_mem hk1)
      generalize L[k]'hk1 = c at *
      obtain ⟨cs, cw, co⟩ := c
      obtain ⟨gs, gw, go⟩ := hcg
      simp only at gs gw go
      obtain ⟨g, o, rfl, x0, x1, x2⟩ := callsCell (HL.out.chg hs.chg (fun _ x => x.elim)) hck
      simp only at x0 x1 x2
      have hbr := bringE wr co 4 _ go (by omega) (by omega) rfl
      have r0 := Int.emod_nonneg co (show (4 : Int) ≠ 0 by omega)
      have r1 := Int.emod_lt_of_pos co (show (0 : Int) < 4 by omega)
      generalize co % 4 = r at *
      have hw1 : IntKind.i64.wrap (t + r) = t + r := IntWalk.i64_in _ ⟨by omega, by omega⟩
      go_upto_if 51 with (first
        | (go_at_call 11; refine hbr.mono ?_; rintro e w4 ⟨rfl, hw4⟩; subst hw4))
      clear hbr
      generalize w4 = wo at *
      obtain ⟨t', ht'⟩ : ∃ z, t + r = z := ⟨_, rfl⟩
      have t2 : t ≤ t' ∧ t' ≤ t + 3 := by omega
      simp only [ht'] at *
      clear ht' r0 r1 hw1
      go_cut [11] from 48 to 59 (fun s W => ∃ e : Int, s = .int .i64 e ∧ 0 ≤ e ∧ e ≤ t' ∧ W = wo)
      case first =>
        by_cases hkm : k < M.length
        · obtain ⟨g2, o2, rfl, hcell⟩ := intsCell' (HM.out.chg hs.chg (fun _ x => x.elim)) hkm
          have hz := getD_i64' HH.out hkm
          have hbr := bringE wo (M.getD k 0) 9 _ hz (by omega) (by omega) rfl
          have r0 := Int.emod_nonneg (M.getD k 0) (show (9 : Int) ≠ 0 by omega)
          have r1 := Int.emod_lt_of_pos (M.getD k 0) (show (0 : Int) < 9 by omega)
          generalize hzz : M.getD k 0 = z at *
          generalize z % 9 = y at *
          have hw1 : IntKind.i64.wrap (t' - y) = t' - y := IntWalk.i64_in _ ⟨by omega, by omega⟩
          by_cases hy : 0 < t' - y
          · go_wp2_with (first
              | (go_at_call 11; refine hbr.mono ?_; rintro e w4 ⟨rfl, hw4⟩; subst hw4))
            go_meet
            exact ⟨t' - y, rfl, by omega, by omega, rfl⟩
          · go_wp2_with (first
              | (go_at_call 11; refine hbr.mono ?_; rintro e w4 ⟨rfl, hw4⟩; subst hw4))
            go_meet
            exact ⟨0, rfl, by omega, by omega, rfl⟩
        · go_wp2_with fail
          go_meet
          exact ⟨t', rfl, by omega, by omega, rfl⟩
      case rest =>
        obtain ⟨e, rfl, e0, e1, rfl⟩ := hcut
        obtain ⟨hans, htw⟩ := hw.does (what := cw) (s := cs) (t' := t') (e := e) t0 t2.1 (by omega) e0 e1
        have hA9 := ask9 hn9 (show 0 ≤ t' by omega) (by omega) (show T.now ≤ t' by have := hw.tn; omega)
        generalize hT1 : ({ T with now := t' } : FS) = T1 at *
        have hn91 : T1.N 9 0 = 0 := by rw [← hT1]; exact hn9
        obtain ⟨rr, hrr⟩ : ∃ z, (doesF S cs cw t').2 = z := ⟨_, rfl⟩
        have hD1 : doesF S cs cw t' = ((doesF S cs cw t').1, rr) := Prod.ext rfl hrr
        have hD2 : doesF T1 cs cw e = ((doesF T1 cs cw e).1, rr) := Prod.ext rfl (hans.symm.trans hrr)
        have hn92 : (doesF T1 cs cw e).1.N 9 0 = 0 := by rw [doesF_other (fun x => by have := sp_bounds cs; omega)]; exact hn91
        generalize (doesF S cs cw t').1 = S2 at *
        generalize (doesF T1 cs cw e).1 = T2 at *
        clear hrr hT1 hans hw hn91
        have HD1 := Lib.hid hD1
        have HD2 := Lib.hid hD2
        have HA9 := Lib.hid hA9
        have HTW := Lib.hid htw
        have HN9 := Lib.hid hn92
        have HCK := Lib.hid hck
        clear hD1 hD2 hA9 htw hn92 hck hn9
        have hs5 := hs.same (W' := wc.drew) ((Chg.refl _ _).drew)
        clear hs
        go_upto_region 13 with fail
        have keepS : ∀ {W : World}, Chg (fun _ => False) w W → (fun W' => W'.cell? ⟨g, o + k * 3, none⟩ = some (.int .i64 cs) ∧ W'.cell? ⟨g, o + k * 3 + 1, none⟩ = some (.int .i64 cw) ∧ W'.cell? ⟨g, o + k * 3 + 2, none⟩ = some (.int .i64 co)) W := fun {W} hc => by
          obtain ⟨g', o', e', z0, z1, z2⟩ := callsCell (HL.out.chg hc (fun _ x => x.elim)) (show L[k]? = some (cs, cw, co) from HCK.out)
          cases e'
          exact ⟨z0, z1, z2⟩
        have hS5 := keepS hs5.chg
        clear x0 x1 x2
        refine region_lone (fun W' => W'.cell? ⟨g, o + k * 3, none⟩ = some (.int .i64 cs) ∧ W'.cell? ⟨g, o + k * 3 + 1, none⟩ = some (.int .i64 cw) ∧ W'.cell? ⟨g, o + k * 3 + 2, none⟩ = some (.int .i64 co)) [] (by kernel_rfl) ?_
        refine take_one 0 hS5 rfl (by kernel_rfl) rfl ?_
        apply Exists.intro
        refine And.intro (fun W' hS' => ?y0) (And.intro (fun _ _ _ h => h) ?_)
        case y0 => obtain ⟨y0, y1, y2⟩ := hS'; go_simp; rfl
        refine take_one 1 hS5 rfl (by kernel_rfl) rfl ?_
        apply Exists.intro
        refine And.intro (fun W' hS' => ?y1) (And.intro (fun _ _ _ h => h) ?_)
        case y1 => obtain ⟨y0, y1, y2⟩ := hS'; go_simp; rfl
        refine take_one 2 hS5 rfl (by kernel_rfl) rfl ?_
        apply Exists.intro
        refine And.intro (fun W' hS' => ?y2) (And.intro (fun _ _ _ h => h) ?_)
        case y2 => obtain ⟨y0, y1, y2⟩ := hS'; go_simp; rfl
        refine only_one 3 rfl (by kernel_rfl) rfl ?_
        try go_simp
        refine (askE hs5.b hs5.hq (by omega) HA9.out).mono ?_
        rintro e3 w3 ⟨Y3, rfl, hB3, hW3⟩
        have hs3 := hs5.wentB hW3 hB3
        have hS3 := keepS hs3.chg
        refine ⟨hS3, ?_⟩
        refine take_one 4 hS3 rfl (by kernel_rfl) rfl ?_
        apply Exists.intro
        refine And.intro (fun W' hS' => ?y4) (And.intro (fun _ _ _ h => h) ?_)
        case y4 => obtain ⟨y0, y1, y2⟩ := hS'; go_simp; rfl
        refine take_one 5 hS3 rfl (by kernel_rfl) rfl ?_
        apply Exists.intro
        refine And.intro (fun W' hS' => ?y5) (And.intro (fun _ _ _ h => h) ?_)
        case y5 => obtain ⟨y0, y1, y2⟩ := hS'; go_simp; rfl
        try go_simp
        refine take_one 6 hS3 rfl (by kernel_rfl) (by kernel_rfl) ?_
        apply Exists.intro
        refine And.intro (fun W' hS' => ?y6) (And.intro (fun _ _ _ h => h) ?_)
        case y6 => obtain ⟨y0, y1, y2⟩ := hS'; go_simp; rfl
        refine take_one 7 hS3 rfl (by kernel_rfl) (by kernel_rfl) ?_
        apply Exists.intro
        refine And.intro (fun W' hS' => ?y7) (And.intro (fun _ _ _ h => h) ?_)
        case y7 => obtain ⟨y0, y1, y2⟩ := hS'; go_simp; rfl
        refine take_one 8 hS3 rfl (by kernel_rfl) (by kernel_rfl) ?_
        apply Exists.intro
        refine And.intro (fun W' hS' => ?y8) (And.intro (fun _ _ _ h => h) ?_)
        case y8 => obtain ⟨y0, y1, y2⟩ := hS'; go_simp; rfl
        refine take_one 9 hS3 rfl (by kernel_rfl) (by kernel_rfl) ?_
        apply Exists.intro
        refine And.intro (fun W' hS' => ?y9) (And.intro (fun _ _ _ h => h) ?_)
        case y9 => obtain ⟨y0, y1, y2⟩ := hS'; go_simp; rfl
        refine take_one 10 hS3 rfl (by kernel_rfl) (by kernel_rfl) ?_
        apply Exists.intro
        refine And.intro (fun W' hS' => ?y10) (And.intro (fun _ _ _ h => h) ?_)
        case y10 => obtain ⟨y0, y1, y2⟩ := hS'; go_simp; rfl
        refine take_one 11 hS3 rfl (by kernel_rfl) (by kernel_rfl) ?_
        apply Exists.intro
        refine And.intro (fun W' hS' => ?y11) (And.intro (fun _ _ _ h => h) ?_)
        case y11 => obtain ⟨y0, y1, y2⟩ := hS'; go_simp; rfl
        refine take_one 13 hS3 rfl (by kernel_rfl) (by kernel_rfl) ?_
        apply Exists.intro
        refine And.intro (fun W' hS' => ?y13) (And.intro (fun _ _ _ h => h) ?_)
        case y13 => obtain ⟨y0, y1, y2⟩ := hS'; go_simp; rfl
        refine take_one 14 hS3 rfl (by kernel_rfl) (by kernel_rfl) ?_
        apply Exists.intro
        refine And.intro (fun W' hS' => ?y14) (And.intro (fun _ _ _ h => h) ?_)
        case y14 => obtain ⟨y0, y1, y2⟩ := hS'; go_simp; rfl
        try go_simp
        refine take_one 15 hS3 rfl (by kernel_rfl) (by kernel_rfl) ?_
        apply Exists.intro
        refine And.intro (fun W' hS' => ?y15) (And.intro (fun _ _ _ h => h) ?_)
        case y15 => obtain ⟨y0, y1, y2⟩ := hS'; go_simp; rfl
        refine take_one 16 hS3 rfl (by kernel_rfl) (by kernel_rfl) ?_
        apply Exists.intro
        refine And.intro (fun W' hS' => ?y16) (And.intro (fun _ _ _ h => h) ?_)
        case y16 => obtain ⟨y0, y1, y2⟩ := hS'; go_simp; rfl
        refine take_one 17 hS3 rfl (by kernel_rfl) (by kernel_rfl) ?_
        apply Exists.intro
        refine And.intro (fun W' hS' => ?y17) (And.intro (fun _ _ _ h => h) ?_)
        case y17 => obtain ⟨y0, y1, y2⟩ := hS'; go_simp; rfl
        refine take_one 18 hS3 rfl (by kernel_rfl) (by kernel_rfl) ?_
        apply Exists.intro
        refine And.intro (fun W' hS' => ?y18) (And.intro (fun _ _ _ h => h) ?_)
        case y18 => obtain ⟨y0, y1, y2⟩ := hS'; go_simp; rfl
        refine only_one 12 rfl (by kernel_rfl) (by kernel_rfl) ?_
        try go_simp
        refine (does_some hs3.a hs3.hp (by omega) gs gw HD1.out).mono ?_
        rintro e12 w12 ⟨X12, rfl, hB12, hW12⟩
        have hs12 := hs3.wentA hW12 hB12
        have hS12 := keepS hs12.chg
        refine ⟨hS12, ?_⟩
        refine only_one 19 rfl (by kernel_rfl) (by kernel_rfl) ?_
        try go_simp
        refine (does_some hs12.b hs12.hq (by omega) gs gw HD2.out).mono ?_
        rintro e19 w19 ⟨Y19, rfl, hB19, hW19⟩
        have hs19 := hs12.wentB hW19 hB19
        have hS19 := keepS hs19.chg
        refine ⟨hS19, ?_⟩
        refine take_one 20 hS19 rfl (by kernel_rfl) (by kernel_rfl) ?_
        apply Exists.intro
        refine And.intro (fun W' hS' => ?y20) (And.intro (fun _ _ _ h => h) ?_)
        case y20 => obtain ⟨y0, y1, y2⟩ := hS'; go_simp; rfl
        refine take_one 21 hS19 rfl (by kernel_rfl) rfl ?_
        apply Exists.intro
        refine And.intro (fun W' hS' => ?y21) (And.intro (fun _ _ _ h => h) ?_)
        case y21 => obtain ⟨y0, y1, y2⟩ := hS'; go_simp; rfl
        refine take_one 22 hS19 rfl (by kernel_rfl) rfl ?_
        apply Exists.intro
        refine And.intro (fun W' hS' => ?y22) (And.intro (fun _ _ _ h => h) ?_)
        case y22 => obtain ⟨y0, y1, y2⟩ := hS'; go_simp; rfl
        try go_simp
        refine take_one 23 hS19 rfl (by kernel_rfl) (by kernel_rfl) ?_
        apply Exists.intro
        refine And.intro (fun W' hS' => ?y23) (And.intro (fun _ _ _ h => h) ?_)
        case y23 => obtain ⟨y0, y1, y2⟩ := hS'; go_simp; rfl
        refine take_one 25 hS19 rfl (by kernel_rfl) (by kernel_rfl) ?_
        apply Exists.intro
        refine And.intro (fun W' hS' => ?y25) (And.intro (fun _ _ _ h => h) ?_)
        case y25 => obtain ⟨y0, y1, y2⟩ := hS'; go_simp; rfl
        refine only_one 24 rfl (by kernel_rfl) (by kernel_rfl) ?_
        try go_simp
        refine (tickE hs19.a hs19.hp HTW.out.sn).mono ?_
        rintro e24 w24 ⟨rfl, rfl⟩
        have hs24 := hs19
        have hS24 := keepS hs24.chg
        refine ⟨hS24, ?_⟩
        refine take_one 26 hS24 rfl (by kernel_rfl) (by kernel_rfl) ?_
        apply Exists.intro
        refine And.intro (fun W' hS' => ?y26) (And.intro (fun _ _ _ h => h) ?_)
        case y26 => obtain ⟨y0, y1, y2⟩ := hS'; go_simp; rfl
        refine take_one 27 hS24 rfl (by kernel_rfl) rfl ?_
        apply Exists.intro
        refine And.intro (fun W' hS' => ?y27) (And.intro (fun _ _ _ h => h) ?_)
        case y27 => obtain ⟨y0, y1, y2⟩ := hS'; go_simp; rfl
        refine take_one 28 hS24 rfl (by kernel_rfl) rfl ?_
        apply Exists.intro
        refine And.intro (fun W' hS' => ?y28) (And.intro (fun _ _ _ h => h) ?_)
        case y28 => obtain ⟨y0, y1, y2⟩ := hS'; go_simp; rfl
        try go_simp
        refine take_one 29 hS24 rfl (by kernel_rfl) (by kernel_rfl) ?_
        apply Exists.intro
        refine And.intro (fun W' hS' => ?y29) (And.intro (fun _ _ _ h => h) ?_)
        case y29 => obtain ⟨y0, y1, y2⟩ := hS'; go_simp; rfl
        refine take_one 31 hS24 rfl (by kernel_rfl) (by kernel_rfl) ?_
        apply Exists.intro
        refine And.intro (fun W' hS' => ?y31) (And.intro (fun _ _ _ h => h) ?_)
        case y31 => obtain ⟨y0, y1, y2⟩ := hS'; go_simp; rfl
        refine only_one 30 rfl (by kernel_rfl) (by kernel_rfl) ?_
        try go_simp
        refine (tickE hs24.b hs24.hq HTW.out.tn).mono ?_
        rintro e30 w30 ⟨rfl, rfl⟩
        have hs30 := hs24
        have hS30 := keepS hs30.chg
        refine ⟨hS30, ?_⟩
        refine take_one 32 hS30 rfl (by kernel_rfl) (by kernel_rfl) ?_
        apply Exists.intro
        refine And.intro (fun W' hS' => ?y32) (And.intro (fun _ _ _ h => h) ?_)
        case y32 => obtain ⟨y0, y1, y2⟩ := hS'; go_simp; rfl
        refine take_one 33 hS30 rfl (by kernel_rfl) rfl ?_
        apply Exists.intro
        refine And.intro (fun W' hS' => ?y33) (And.intro (fun _ _ _ h => h) ?_)
        case y33 => obtain ⟨y0, y1, y2⟩ := hS'; go_simp; rfl
        try go_simp
        refine all_done (by kernel_rfl) ?_ _
        obtain ⟨x0, x1, x2⟩ := hS30
        clear hs3 hs5 hs12 hs19 hs24 hW3 hB3 hW12 hB12 hW19 hB19 hS3 hS5 hS12 hS19 hS24
        generalize w30 = w6 at *
        have h64 := sp_i64 cs
        obtain ⟨st, hst⟩ : ∃ z, S2.state (spD cs) (spL cs) = z := ⟨_, rfl⟩
        obtain ⟨sa, sb, sc⟩ := st
        have hst2 : T2.state (spD cs) (spL cs) = (sa, sb, sc) := by rw [← hst]; unfold FS.state; rw [HTW.out.num]
        have hsp := fun W => spot_agg W cs _ _ gs rfl rfl
        have hm1 : mayAt 1 0 (-1) = false := by decide
        have hm2 : mayAt (-1) 0 (t' + 50) = false := by unfold mayAt; simp
        have HST := Lib.hid hst
        have HST2 := Lib.hid hst2
        generalize spD cs = sd at *
        generalize spL cs = sl at *
        have hw1 : IntKind.i64.wrap (t' + 50) = t' + 50 := IntWalk.i64_in _ ⟨by omega, by omega⟩
        have hw2 : IntKind.i64.wrap ((k : Int) + 1) = k + 1 := IntWalk.i64_in _ ⟨by omega, by omega⟩
        have tk1 : True := trivial
        clear hst hst2
        go_wp2_with (first
          | (go_at_call 18; have _t := tk1; clear _t tk1; refine (hsp _).mono ?_; rintro e7 w7 ⟨rfl, hC7⟩; have hs7 := hs30.same hC7; have y0 := hC7.cell x0 (fun x => x); clear x0 x1 x2; have tk2 : True := trivial)
          | (go_at_call 20; refine (stateE hs7.a hs7.hp h64.1 h64.2 HST.out).mono ?_; rintro e8 w8 ⟨rfl, hC8⟩; have hs8 := hs7.same hC8; have z0 := hC8.cell y0 (fun x => x); clear y0)
          | (go_at_call 18; have _t := tk2; clear _t tk2; refine (hsp _).mono ?_; rintro e9 w9 ⟨rfl, hC9⟩; have hs9 := hs8.same hC9; clear z0)
          | (go_at_call 21; refine (stands_yes hs9.b hs9.hq h64.1 h64.2 HST2.out).mono ?_; rintro e10 w10 ⟨rfl, hC10⟩; have hs10 := hs9.same hC10)
          | (go_at_call 14; refine (askE hs10.b hs10.hq (by omega) (askNo hm1)).mono ?_; rintro e11 w11 ⟨Y11, rfl, hB11, hW11⟩; have hs11 := hs10.wentB hW11 hB11)
          | (go_at_call 12; refine (didE hs11.b hs11.hq (by omega) (didNo hm2)).mono ?_; rintro e12 w12 ⟨Y12, rfl, hB12, hW12⟩; have hs12 := hs11.wentB hW12 hB12))
        go_roundw
        case rel => exact ⟨t', k + 1, X12, Y12, S2, T2, n + 1, m + 1 + 1 + 1 + 1, by go_num, by go_num, by omega, by omega, by omega, by omega, hs12, HTW.out, HN9.out, by omega, by omega⟩
        case measure => simp [intOf]; omega
    · by_cases h1 : k < L.length
      · have h2 : ¬ k < 60 := fun h2 => hk ⟨h1, h2⟩
        go_wp2_with (first
          | (go_at_call 17; refine (works_some _).mono ?_; rintro e w6 ⟨rfl, hC2⟩))
        go_ret
        exact ⟨rfl, hs.chg.trans hC2⟩
      · go_wp2_with (first
          | (go_at_call 17; refine (works_some _).mono ?_; rintro e w6 ⟨rfl, hC2⟩))
        go_ret
        exact ⟨rfl, hs.chg.trans hC2⟩
end Go.Proofs.Ytbihefbjojlncaa
