/- fuse: the law FuseKeeps, walked: it returns true at every input. -/
import Derived.Test.YtbihefbjojlncaaFsRowIn
namespace Go.Proofs.Ytbihefbjojlncaa
set_option linter.unusedVariables false
set_option linter.unusedSimpArgs false
open Go Go.RowKit
theorem intsCell {W : World} {A : Option Addr} {L : List Int} (h : InRows 1 intC W A L) {k : Nat} (hk : k < L.length) : ∃ g o, A = some ⟨g, o, none⟩ ∧ W.cell? ⟨g, o + k, none⟩ = some (.int .i64 (L.getD k 0)) := by
  obtain ⟨g, o, e, hc⟩ := h k (L.getD k 0) (by simp [List.getD, List.getElem?_eq_getElem hk])
  have := hc 0 (.int .i64 (L.getD k 0)) rfl
  simp at this
  exact ⟨g, o, e, this⟩
theorem getD_i64 {L : List Int} (h : ∀ c ∈ L, I64 c) {k : Nat} (hk : k < L.length) : I64 (L.getD k 0) := by
  simp only [List.getD, List.getElem?_eq_getElem hk, Option.getD_some]
  exact h _ (List.getElem_mem hk)
set_option maxRecDepth 100000 in
set_option maxHeartbeats 8000000 in
theorem keeps_any (w : World) (mo : Int) (A : Option Addr) (L : List Int) (cap : Nat) (on : Int) (hmo : I64 mo) (hL : InRows 1 intC w A L) (hG : ∀ c ∈ L, I64 c) (hN : L.length ≤ maxLen) (hon : I64 on) :
    Calls Try.prog 6 #[.int .i64 mo, .slice A L.length cap, .int .i64 on] w fun e w' => e = .returned (.bool true) ∧ Chg (fun _ => False) w w' := by
  have hlen : L.length ≤ 9223372036854775807 := by unfold maxLen at hN; omega
  have u0 := Int.emod_nonneg mo (show (8 : Int) ≠ 0 by omega)
  have u1 := Int.emod_lt_of_pos mo (show (0 : Int) < 8 by omega)
  have v0 := Int.emod_nonneg on (show (5 : Int) ≠ 0 by omega)
  have v1 := Int.emod_lt_of_pos on (show (0 : Int) < 5 by omega)
  have hb1 := bringE w mo 8 _ hmo (by omega) (by omega) rfl
  have hb2 := bringE w on 5 _ hon (by omega) (by omega) rfl
  generalize on % 5 = s at *
  have w1 : IntKind.i64.wrap (1 + mo % 8) = 1 + mo % 8 := IntWalk.i64_in _ ⟨by omega, by omega⟩
  have hs64 : I64 s := i64_small (by omega) (by omega)
  have HL := Lib.hid hL
  have HG := Lib.hid hG
  have tk1 : True := trivial
  clear hL hG hN hmo hon
  go_enter Try.func6, Try.ntmps6
  go_upto_region 2 with (first
    | (go_at_call 11; have _t := tk1; clear _t tk1; refine hb1.mono ?_; rintro e w2 ⟨rfl, hw2⟩; subst hw2; have tk2 : True := trivial)
    | (go_at_call 11; have _t := tk2; clear _t tk2; refine hb2.mono ?_; rintro e w3 ⟨rfl, hw3⟩; subst hw3))
  obtain ⟨most, hmost⟩ : ∃ m, 1 + mo % 8 = m := ⟨_, rfl⟩
  simp only [hmost]
  have mo0 : 1 ≤ most ∧ most ≤ 8 := by omega
  clear hb1 hb2 w1 hmost u0 u1
  have hs9 := sp_bounds s
  have hsp := fun W => spot_agg W s _ _ hs64 rfl rfl
  generalize spD s = d at *
  generalize spL s = l at *
  have hd : I64 d := i64_small (by omega) (by omega)
  have hl : I64 l := i64_small (by omega) (by omega)
  clear hs64
  go_wp2_with (first
    | (go_at_call 9; refine (new_some _ most 3 (by omega) (by omega)).mono ?_; rintro e w0 ⟨X0, rfl, hB0, hC0, hU0⟩)
    | (go_at_call 18; refine (hsp _).mono ?_; rintro e w1 ⟨rfl, hC1⟩))
  have hs0 := WS.make d l (hB0.chg hC1 (fun _ _ x => x)) (hC0.trans hC1) hU0
  rw [One_new most 3 d l] at hs0
  generalize X0.b = p at *
  generalize hB : w1.heap.size = B at *
  generalize w1.alloc (.cells #[.int .i64 d, .int .i64 l] 32) = W0 at *
  clear hB0 hC0 hU0 hC1 hsp hB w1 w0
  go_loopw [10, 11, 12, 13, 14, 15] (fun a b _ _ _ _ wr => ∃ (t now : Int) (k : Nat) (X : FX) (n : Nat), a = .int .i64 t ∧ b = .int .i64 k ∧ k ≤ L.length ∧ k ≤ 40 ∧ 0 ≤ now ∧ now ≤ t ∧ t ≤ 40 * k ∧ WS w3 wr B d l p X (One most 3 d l now 0) n ∧ n ≤ 20 * k)
    (fun _ b _ _ _ _ _ => L.length - (intOf b).toNat)
  case atStart => exact ⟨0, 0, 0, X0, 0, rfl, rfl, by omega, by omega, by omega, by omega, by omega, hs0, by omega⟩
  case round =>
    obtain ⟨t, now, k, X, n, rfl, rfl, k0, k1, n0, n1, t1, hs, hn⟩ := hrel
    clear hs0
    by_cases hk : k < L.length ∧ k < 40
    · obtain ⟨hk1, hk2⟩ := hk
      obtain ⟨g, o, rfl, hcell⟩ := intsCell (HL.out.chg hs.chg (fun _ x => x.elim)) hk1
      have hz := getD_i64 HG.out hk1
      have hbr := bringE wr (L.getD k 0) most _ hz (by omega) (by omega) rfl
      have m0 := Int.emod_nonneg (L.getD k 0) (show most ≠ 0 by omega)
      have m1 := Int.emod_lt_of_pos (L.getD k 0) (show (0 : Int) < most by omega)
      generalize hzz : L.getD k 0 = z at *
      generalize z % most = f at *
      go_upto_block 2 with (first
        | (go_at_call 11; refine hbr.mono ?_; rintro e w4 ⟨rfl, rfl⟩))
      clear hbr hcell hz HL
      generalize hwz : w4 = wo at *
      clear hwz w4
      go_wp2_with fail
      go_loopw [10, 12] (fun a b wr => ∃ (t' now' j x : Int) (X' : FX) (n' : Nat), a = .int .i64 t' ∧ b = .int .i64 j ∧ 0 ≤ j ∧ j ≤ f ∧ x = 4 * (f - j) ∧ t ≤ t' ∧ t' ≤ t + 4 * (f - j) ∧ 0 ≤ now' ∧ now' ≤ t' ∧ WS w3 wr B d l p X' (One most 3 d l now' x) n' ∧ (n' : Int) ≤ n + 2 * (f - j))
        (fun _ b _ => (intOf b).toNat)
      case atStart => exact ⟨t, now, f, 0, X, n, rfl, rfl, by omega, by omega, by omega, by omega, by omega, by omega, by omega, hs, by omega⟩
      case round =>
        obtain ⟨t', no, j, x, Z, q, rfl, rfl, j0, j1, hx, t2, t3, n2, n3, hz, hq⟩ := hrel
        clear hs
        have hb := hz.box
        have c0 := hz.c0
        have c1 := hz.c1
        by_cases hj : 0 < j
        · have ha : (One most 3 d l no x).ask d l t' = (One most 3 d l t' x, 0) := askO (may_small ⟨hs9.1, hs9.2.1⟩ hs9.2.2 (by omega) (by omega)) (by omega) (by rw [if_pos (by omega)])
          have hdd : (One most 3 d l t' x).did d l false t' = (One most 3 d l t' (4 * (f - (j - 1))), 0) := didO (may_small ⟨hs9.1, hs9.2.1⟩ hs9.2.2 (by omega) (by omega)) (by omega) (by rw [if_neg (by omega), if_neg (by decide), if_pos (by omega)]; omega)
          have HA := Lib.hid ha
          have HD := Lib.hid hdd
          have hw3 : IntKind.i64.wrap (j - 1) = j - 1 := IntWalk.i64_in _ ⟨by omega, by omega⟩
          have hw4 : IntKind.i64.wrap (t' + s) = t' + s := IntWalk.i64_in _ ⟨by omega, by omega⟩
          clear ha hdd hx
          go_wp2_with (first
            | (go_at_call 14; refine (askE hb hz.hp (by omega) HA.out).mono ?_; rintro e w5 ⟨X1, rfl, hB1, hW1⟩; have hs1 := hz.went hW1 hB1; have c10 := hs1.c0; have c11 := hs1.c1; clear c0 c1)
            | (go_at_call 12; refine (didE hB1 hs1.hp (by omega) HD.out).mono ?_; rintro e w6 ⟨X2, rfl, hB2, hW2⟩; have hs2 := hs1.went hW2 hB2; clear c10 c11))
          go_roundw
          case rel => exact ⟨t' + s, t', j - 1, _, X2, q + 1 + 1, by go_num, by go_num, by omega, by omega, rfl, by omega, by omega, by omega, by omega, hs2, by omega⟩
          case measure => simp [intOf]; omega
        · have hj0 : j = 0 := by omega
          subst hj0
          have ht : (One most 3 d l no x).state d l = (0, f, 0) := stateO (by rw [if_pos (by omega)]; congr 2; omega)
          have hdd : (One most 3 d l no x).did d l true t' = (One most 3 d l t' 0, 0) := didO (may_small ⟨hs9.1, hs9.2.1⟩ hs9.2.2 (by omega) (by omega)) (by omega) (by rw [if_neg (by omega), if_pos rfl])
          have hu : (One most 3 d l t' 0).state d l = (0, 0, 0) := stateO (by rw [if_pos (by omega)]; rfl)
          have HT := Lib.hid ht
          have HD := Lib.hid hdd
          have HU := Lib.hid hu
          have hw3 : IntKind.i64.wrap ((k : Int) + 1) = k + 1 := IntWalk.i64_in _ ⟨by omega, by omega⟩
          clear ht hdd hu hx hj
          go_wp2_with (first
            | (go_at_call 20; refine (stateE hb hz.hp hd hl HT.out).mono ?_; rintro e w5 ⟨rfl, hC1⟩; have hs1 := hz.same hC1; have c10 := hs1.c0; have c11 := hs1.c1; have hB1 := hs1.box; clear c0 c1)
            | (go_at_call 12; refine (didE hB1 hs1.hp (by omega) HD.out).mono ?_; rintro e w6 ⟨X2, rfl, hB2, hW2⟩; have hs2 := hs1.went hW2 hB2; have c20 := hs2.c0; have c21 := hs2.c1; clear c10 c11)
            | (go_at_call 21; refine (stands_yes hB2 hs2.hp hd hl HU.out).mono ?_; rintro e w7 ⟨rfl, hC3⟩; have hs3 := hs2.same hC3))
          go_roundw
          case rel => exact ⟨t', t', k + 1, X2, q + 1, by go_num, by go_num, by omega, by omega, by omega, by omega, by omega, hs3, by omega⟩
          case measure => simp [intOf]; omega
    · have hb := hs.box
      have tk1 : True := trivial
      have hend : ∀ W, WS w3 W B d l p X (One most 3 d l now 0) n → Calls Try.prog 22 #[.pointer (some ⟨p, 0, none⟩)] W fun e w' => e = .returned (.slice none 0 0) ∧ Chg (fun _ => False) W w' := fun W hW => spotsE hW.box hW.hp One_still
      by_cases h1 : k < L.length
      · have h2 : ¬ k < 40 := fun h2 => hk ⟨h1, h2⟩
        go_wp2_with (first
          | (go_at_call 22; refine (hend _ hs).mono ?_; rintro e w5 ⟨rfl, hC1⟩)
          | (go_at_call 17; refine (works_some _).mono ?_; rintro e w6 ⟨rfl, hC2⟩))
        go_ret
        exact ⟨rfl, (hs.chg.trans hC1).trans hC2⟩
      · go_wp2_with (first
          | (go_at_call 22; refine (hend _ hs).mono ?_; rintro e w5 ⟨rfl, hC1⟩)
          | (go_at_call 17; refine (works_some _).mono ?_; rintro e w6 ⟨rfl, hC2⟩))
        go_ret
        exact ⟨rfl, (hs.chg.trans hC1).trans hC2⟩
end Go.Proofs.Ytbihefbjojlncaa
