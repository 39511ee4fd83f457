/- fuse: the law FuseApart, walked: it returns true at every input. -/
import Derived.Test.YtbihefbjojlncaaFsTwo
import Derived.Laws.StructEq
namespace Go.Proofs.Ytbihefbjojlncaa
set_option linter.unusedVariables false
set_option linter.unusedSimpArgs false
open Go Go.RowKit
/-- a guarded one that is not wanted -/
theorem skip_one {P : Program} {ops : Array Oper} {Q : Exit → Act → World → Prop} {S : World → Prop} {T : List Nat} (i : Nat) {oi : Oper} {fuel : Nat} {listed : Array Bool} {a : Act} {w : World} (hS : S w) (hi : ops[i]? = some oi)
    (hf : (Region.noSelect ops && (Region.free .any ops listed i && ((Region.ready .any ops listed).contains i && tailWaits ops T i))) = true)
    (hw : Region.wanted oi (yielded ops a.tmps) = false) (hQ : ∀ c a w, Q (.panic c) (a.put oi.dst undef) w → Q (.panic c) a w)
    (h : anyT P .any ops Q S T fuel (listed.setIfInBounds i true) (a.put oi.dst undef) w) : anyT P .any ops Q S T (fuel + 1) listed a w := by
  simp only [Bool.and_eq_true] at hf
  exact anyT_first hi hf.1 hQ (tailWaits_spec hf.2.2.2) fuel listed a w hf.2.1 (by simpa using hf.2.2.1) (.inr ⟨hw, rfl⟩) hS h
theorem eq_spot {a b c d : Int} (ha : I64 a) (hb : I64 b) (hc : I64 c) (hd : I64 d) (W : World) : ∃ r : Bool, (binOp .eql 32 (.agg #[.int .i64 a, .int .i64 b]) (.agg #[.int .i64 c, .int .i64 d])).run Try.prog W = .ok (.bool r) W ∧ (r = true ↔ a = c ∧ b = d) := by
  obtain ⟨r, hr, hiff⟩ := run_equal_deep (P := Try.prog) W (m := 2) (by omega) (k := 32) (by kernel_rfl) (by rw [Try.underlying32]) (key_spot ha hb) (key_spot hc hd)
  refine ⟨r, ?_, hiff.trans ⟨fun e => spotK_inj ha hb hc hd e, fun e => by rw [e.1, e.2]⟩⟩
  rw [run_eql_struct]
  unfold Op.equal Op.maxDepth spotV at hr
  rw [hr]
  rfl
structure TV (w W : World) (p q B : Nat) (sd sl : Int) (X Y : FX) (S T : FS) (n m : Nat) : Prop where
  tb : TB w W p q X Y S T n m
  c0 : W.cell? ⟨B, 0, none⟩ = some (.int .i64 sd)
  c1 : W.cell? ⟨B, 1, none⟩ = some (.int .i64 sl)
  na : ¬ X.Own B
  nb : ¬ Y.Own B
theorem TV.lt {w W : World} {p q B : Nat} {sd sl : Int} {X Y : FX} {S T : FS} {n m : Nat} (h : TV w W p q B sd sl X Y S T n m) : B < W.heap.size := World.block_lt_of_cell? W _ h.c0
theorem TV.wentA {w W W' : World} {p q B : Nat} {sd sl : Int} {X Y X' : FX} {S T S' : FS} {n m n' : Nat} (h : TV w W p q B sd sl X Y S T n m) (hw : Went W W' X X') (hb : BoxAt W' X' S' n') : TV w W' p q B sd sl X' Y S' T n' m :=
  ⟨h.tb.wentA hw hb, hw.chg.cell h.c0 h.na, hw.chg.cell h.c1 h.na, fun x => (hw.new _ x).elim h.na (fun y => by have := h.lt; omega), h.nb⟩
theorem TV.wentB {w W W' : World} {p q B : Nat} {sd sl : Int} {X Y Y' : FX} {S T T' : FS} {n m m' : Nat} (h : TV w W p q B sd sl X Y S T n m) (hw : Went W W' Y Y') (hb : BoxAt W' Y' T' m') : TV w W' p q B sd sl X Y' S T' n m' :=
  ⟨h.tb.wentB hw hb, hw.chg.cell h.c0 h.nb, hw.chg.cell h.c1 h.nb, h.na, fun x => (hw.new _ x).elim h.nb (fun y => by have := h.lt; omega)⟩
theorem TV.same {w W W' : World} {p q B : Nat} {sd sl : Int} {X Y : FX} {S T : FS} {n m : Nat} (h : TV w W p q B sd sl X Y S T n m) (hc : Chg (fun _ => False) W W') : TV w W' p q B sd sl X Y S T n m :=
  ⟨h.tb.same hc, hc.cell h.c0 (fun x => x), hc.cell h.c1 (fun x => x), h.na, h.nb⟩
theorem TV.make {w W : World} {p q : Nat} {X Y : FX} {S T : FS} {n m : Nat} (sd sl : Int) (h : TB w W p q X Y S T n m) : TV w (W.alloc (.cells #[.int .i64 sd, .int .i64 sl] 32)) p q W.heap.size sd sl X Y S T n m :=
  ⟨h.same ((Chg.refl _ _).alloc _), cell_of_heap (heap_new W _) 0, cell_of_heap (heap_new W _) 1, fun x => by have := h.a.lt x; omega, fun x => by have := h.b.lt x; omega⟩
set_option maxRecDepth 100000 in
set_option maxHeartbeats 16000000 in
theorem apart_any (w : World) (x0 x1 : Int) (A : Option Addr) (L : List (Int × Int × Int)) (cap : Nat) (wh : Int) (hx0 : I64 x0) (hx1 : I64 x1) (hL : InRows 3 callC w A L) (hG : ∀ c ∈ L, I64 c.1 ∧ I64 c.2.1 ∧ I64 c.2.2) (hN : L.length ≤ maxLen) (hwh : I64 wh) :
    Calls Try.prog 4 #[.agg #[.int .i64 x0, .int .i64 x1], .slice A L.length cap, .int .i64 wh] w fun e w' => e = .returned (.bool true) ∧ Chg (fun _ => False) w w' := by
  have hlen : L.length ≤ 9223372036854775807 := by unfold maxLen at hN; omega
  have hal := (Chg.refl (fun _ => False) w).alloc (.cells #[.int .i64 x0, .int .i64 x1] 44)
  have hc0 : (w.alloc (.cells #[.int .i64 x0, .int .i64 x1] 44)).cell? ⟨w.heap.size, 0, none⟩ = some (.int .i64 x0) := cell_of_heap (heap_new w _) 0
  have hc1 : (w.alloc (.cells #[.int .i64 x0, .int .i64 x1] 44)).cell? ⟨w.heap.size, 1, none⟩ = some (.int .i64 x1) := cell_of_heap (heap_new w _) 1
  have u0 := Int.emod_nonneg x0 (show (4 : Int) ≠ 0 by omega)
  have u1 := Int.emod_lt_of_pos x0 (show (0 : Int) < 4 by omega)
  have v0 := Int.emod_nonneg x1 (show (9 : Int) ≠ 0 by omega)
  have v1 := Int.emod_lt_of_pos x1 (show (0 : Int) < 9 by omega)
  have w1 : IntKind.i64.wrap (1 + x0 % 4) = 1 + x0 % 4 := IntWalk.i64_in _ ⟨by omega, by omega⟩
  have w2 : IntKind.i64.wrap (1 + x1 % 9) = 1 + x1 % 9 := IntWalk.i64_in _ ⟨by omega, by omega⟩
  have HX0 := Lib.hid hx0
  have HX1 := Lib.hid hx1
  have HL := Lib.hid hL
  have HG := Lib.hid hG
  have hsp := fun W => spot_agg W wh _ _ hwh rfl rfl
  have h64 := sp_i64 wh
  generalize spD wh = sd at *
  generalize spL wh = sl at *
  clear hx0 hx1 hL hG hN hwh
  go_enter Try.func4, Try.ntmps4
  go_upto_region 3 with (first
    | (go_at_call 17; refine (works_some _).mono ?_; rintro e w3 ⟨rfl, hC3⟩; have d0 := hC3.cell hc0 (fun x => x); have d1 := hC3.cell hc1 (fun x => x); have hal2 := hal.trans hC3; clear hc0 hc1 hal hC3))
  go_quiet ((go_at_call 11; exact Calls.quiet_of_same (bring_some _ _ _ (by omega) (by omega) (by first | exact HX0.out.1 | exact HX1.out.1) (by first | exact HX0.out.2 | exact HX1.out.2))))
  have hal3 := hal2.drewN nq
  generalize w3.drewN nq = wb at *
  clear d0 d1 hal2 w1 w2 w3
  obtain ⟨most, hmo⟩ : ∃ m, 1 + x0 % 4 = m := ⟨_, rfl⟩
  obtain ⟨rest, hre⟩ : ∃ m, 1 + x1 % 9 = m := ⟨_, rfl⟩
  simp only [hmo, hre]
  have mo0 : 1 ≤ most ∧ most ≤ 5 := by omega
  have re0 : 1 ≤ rest ∧ rest ≤ 12 := by omega
  clear hmo hre u0 v0 u1 v1 HX0 HX1
  have tk1 : True := trivial
  go_wp2_with (first
    | (go_at_call 9; have _t := tk1; clear _t tk1; refine (new_some _ most rest (by omega) (by omega)).mono ?_; rintro e w4 ⟨X0, rfl, hB0, hC0, hU0⟩; have tk2 : True := trivial)
    | (go_at_call 9; have _t := tk2; clear _t tk2; refine (new_some w4 most rest (by omega) (by omega)).mono ?_; rintro e w5 ⟨Y0, rfl, hB1, hC1, hU1⟩)
    | (go_at_call 18; refine (hsp _).mono ?_; rintro e w6 ⟨rfl, hC6⟩))
  have hs0 := TV.make sd sl ((TB.make (hal3.trans hC0) hB0 (fun i hi => Nat.le_trans hal3.size (hU0 i hi)) hB1 hC1 hU1).same hC6)
  generalize X0.b = p at *
  generalize Y0.b = q at *
  generalize hB : w6.heap.size = B at *
  generalize w6.alloc (.cells #[.int .i64 sd, .int .i64 sl] 32) = W0 at *
  clear hB0 hC0 hU0 hB1 hC1 hU1 hC6 hsp hal3 hB w4 w5 w6 wb
  go_loopw [14, 15, 16, 17, 18, 19] (fun a b _ _ _ _ wr => ∃ (t : Int) (k : Nat) (X Y : FX) (S T : FS) (n m : Nat), a = .int .i64 t ∧ b = .int .i64 k ∧ k ≤ L.length ∧ k ≤ 100 ∧ 0 ≤ t ∧ t ≤ 4 * k ∧ TV w wr p q B sd sl X Y S T n m ∧ Like S T sd sl ∧ S.now ≤ t ∧ T.now ≤ t ∧ n ≤ 5 * k ∧ m ≤ 5 * k)
    (fun _ b _ _ _ _ _ => L.length - (intOf b).toNat)
  case atStart => exact ⟨0, 0, X0, Y0, _, _, 0, 0, rfl, rfl, by omega, by omega, by omega, by omega, hs0, ⟨rfl, rfl, rfl⟩, by simp [FS.new], by simp [FS.new], by omega, by omega⟩
  case round =>
    obtain ⟨t, k, X, Y, S, T, n, m, rfl, rfl, k0, k1, t0, t1, hs, hlk, hsn, htn, hn, hm⟩ := hrel
    clear hs0
    by_cases hk : k < L.length ∧ k < 100
    · obtain ⟨hk1, hk2⟩ := hk
      have hck : L[k]? = some (L[k]'hk1) := List.getElem?_eq_getElem hk1
      have hcg := HG.out _ (List.getElem_mem hk1)
      generalize L[k]'hk1 = c at *
      obtain ⟨cs, cw, co⟩ := c
      obtain ⟨gs, gw, go⟩ := hcg
      simp only at gs gw go
      obtain ⟨g, o, rfl, x0, x1, x2⟩ := callsCell (HL.out.chg hs.tb.chg (fun _ x => x.elim)) hck
      simp only at x0 x1 x2
      have hbr := bringE wr co 4 _ go (by omega) (by omega) rfl
      have r0 := Int.emod_nonneg co (show (4 : Int) ≠ 0 by omega)
      have r1 := Int.emod_lt_of_pos co (show (0 : Int) < 4 by omega)
      generalize co % 4 = r at *
      have hw1 : IntKind.i64.wrap (t + r) = t + r := IntWalk.i64_in _ ⟨by omega, by omega⟩
      go_upto_region 13 with (first
        | (go_at_call 11; refine hbr.mono ?_; rintro e w4 ⟨rfl, hw4⟩; subst hw4))
      clear hbr
      obtain ⟨t', ht'⟩ : ∃ z, t + r = z := ⟨_, rfl⟩
      have t2 : t ≤ t' ∧ t' ≤ t + 3 := by omega
      simp only [ht'] at *
      clear ht' r0 r1 hw1
      have hmy := sp_may cs (t := t') (by omega) (by omega)
      have hnS : (doesF S cs cw t').1.now = t' := by rw [doesF_now hmy]; omega
      have hcase : (spD cs = sd ∧ spL cs = sl ∧ (doesF S cs cw t').2 = (doesF T cs cw t').2 ∧ Like (doesF S cs cw t').1 (doesF T cs cw t').1 sd sl ∧ (doesF T cs cw t').1.now = t') ∨
          (¬ (spD cs = sd ∧ spL cs = sl) ∧ Like (doesF S cs cw t').1 T sd sl) := by
        by_cases c : spD cs = sd ∧ spL cs = sl
        · obtain ⟨rfl, rfl⟩ := c
          obtain ⟨r1, r2⟩ := doesF_like (what := cw) hlk (t := t') (t' := t') rfl (fun _ => by omega)
          exact .inl ⟨rfl, rfl, r1, r2, by rw [doesF_now hmy]; omega⟩
        · refine .inr ⟨c, ?_, ?_, ?_⟩
          · rw [doesF_rest.2]; exact hlk.most
          · rw [doesF_rest.1]; exact hlk.rest
          · rw [doesF_other (fun x => c ⟨x.1.symm, x.2.symm⟩)]; exact hlk.num
      obtain ⟨rr, hrr⟩ : ∃ z, (doesF S cs cw t').2 = z := ⟨_, rfl⟩
      have hD1 : doesF S cs cw t' = ((doesF S cs cw t').1, rr) := Prod.ext rfl hrr
      rw [hrr] at hcase
      have hD2 : rr = (doesF T cs cw t').2 → doesF T cs cw t' = ((doesF T cs cw t').1, rr) := fun e => Prod.ext rfl e.symm
      generalize (doesF S cs cw t').1 = S2 at *
      generalize (doesF T cs cw t').1 = T2 at *
      have HD1 := Lib.hid hD1
      have HD2 := Lib.hid hD2
      have HCASE := Lib.hid hcase
      have HCK := Lib.hid hck
      have HNS := Lib.hid hnS
      clear hD1 hD2 hcase hck hlk hsn hrr hnS hmy
      have keepS : ∀ {W : World}, Chg (fun _ => False) w W → W.cell? ⟨g, o + k * 3, none⟩ = some (.int .i64 cs) ∧ W.cell? ⟨g, o + k * 3 + 1, none⟩ = some (.int .i64 cw) ∧ W.cell? ⟨g, o + k * 3 + 2, none⟩ = some (.int .i64 co) := fun {W} hc => by
        obtain ⟨g', o', e', z0, z1, z2⟩ := callsCell (HL.out.chg hc (fun _ x => x.elim)) (show L[k]? = some (cs, cw, co) from HCK.out)
        cases e'
        exact ⟨z0, z1, z2⟩
      go_upto_region 14 with (first
        | (go_at_call 19; refine (does_some hs.tb.a hs.tb.hp (by omega) gs gw HD1.out).mono ?_; rintro e5 w5 ⟨X5, rfl, hB5, hW5⟩; have hs5 := hs.wentA hW5 hB5; clear x0 x1 x2))
      clear hs hB5 hW5
      generalize w5 = wo at *
      go_cut [93] from 75 to 92 (fun s W => s = .bool false ∧ ∃ (Y' : FX) (T' : FS) (m' : Nat), TV w W p q B sd sl X5 Y' S2 T' (n + 1) m' ∧ Like S2 T' sd sl ∧ T'.now ≤ t' ∧ m' ≤ m + 1)
      case first =>
        have hs6 := hs5.same (W' := wo.drew) ((Chg.refl _ _).drew)
        clear hs5
        have hS6 : (fun (W' : World) => W'.cell? ⟨g, o + k * 3, none⟩ = some (.int .i64 cs) ∧ W'.cell? ⟨g, o + k * 3 + 1, none⟩ = some (.int .i64 cw) ∧ W'.cell? ⟨g, o + k * 3 + 2, none⟩ = some (.int .i64 co) ∧ W'.cell? ⟨B, 0, none⟩ = some (.int .i64 sd) ∧ W'.cell? ⟨B, 1, none⟩ = some (.int .i64 sl)) wo.drew := ⟨(keepS hs6.tb.chg).1, (keepS hs6.tb.chg).2.1, (keepS hs6.tb.chg).2.2, hs6.c0, hs6.c1⟩
        rcases HCASE.out with ⟨e1, e2, e3, e4, e5⟩ | ⟨e1, e2⟩
        · have hsp := fun W => spot_agg W cs sd sl gs e1 e2
          have heq : ∀ W, (binOp .eql 32 (.agg #[.int .i64 sd, .int .i64 sl]) (.agg #[.int .i64 sd, .int .i64 sl])).run Try.prog W = .ok (.bool true) W := fun W => by
            obtain ⟨r, hr, hi⟩ := eq_spot h64.1 h64.2 h64.1 h64.2 W
            rw [hr, hi.2 ⟨rfl, rfl⟩]
          have HD3 := Lib.hid (HD2.out e3)
          have HE4 := Lib.hid e4
          clear e1 e2 e3 e4
          refine region_lone (fun (W' : World) => W'.cell? ⟨g, o + k * 3, none⟩ = some (.int .i64 cs) ∧ W'.cell? ⟨g, o + k * 3 + 1, none⟩ = some (.int .i64 cw) ∧ W'.cell? ⟨g, o + k * 3 + 2, none⟩ = some (.int .i64 co) ∧ W'.cell? ⟨B, 0, none⟩ = some (.int .i64 sd) ∧ W'.cell? ⟨B, 1, none⟩ = some (.int .i64 sl)) [] (by kernel_rfl) ?_
          refine take_one 0 hS6 rfl (by kernel_rfl) rfl ?_
          apply Exists.intro
          refine And.intro (fun W' hS' => ?y0) (And.intro (fun _ _ _ h => h) ?_)
          case y0 => obtain ⟨y0, y1, y2, y3, y4⟩ := hS'; go_simp; rfl
          refine take_one 1 hS6 rfl (by kernel_rfl) rfl ?_
          apply Exists.intro
          refine And.intro (fun W' hS' => ?y1) (And.intro (fun _ _ _ h => h) ?_)
          case y1 => obtain ⟨y0, y1, y2, y3, y4⟩ := hS'; go_simp; rfl
          refine take_one 2 hS6 rfl (by kernel_rfl) rfl ?_
          apply Exists.intro
          refine And.intro (fun W' hS' => ?y2) (And.intro (fun _ _ _ h => h) ?_)
          case y2 => obtain ⟨y0, y1, y2, y3, y4⟩ := hS'; go_simp; rfl
          refine take_one 3 hS6 rfl (by kernel_rfl) rfl ?_
          apply Exists.intro
          refine And.intro (fun W' hS' => ?y3) (And.intro (fun _ _ _ h => h) ?_)
          case y3 => obtain ⟨y0, y1, y2, y3, y4⟩ := hS'; go_simp; rfl
          refine take_one 4 hS6 rfl (by kernel_rfl) rfl ?_
          apply Exists.intro
          refine And.intro (fun W' hS' => ?y4) (And.intro (fun _ _ _ h => h) ?_)
          case y4 => obtain ⟨y0, y1, y2, y3, y4⟩ := hS'; go_simp; rfl
          refine take_one 6 hS6 rfl (by kernel_rfl) rfl ?_
          apply Exists.intro
          refine And.intro (fun W' hS' => ?y6) (And.intro (fun _ _ _ h => h) ?_)
          case y6 => obtain ⟨y0, y1, y2, y3, y4⟩ := hS'; go_simp; rfl
          refine only_one 5 rfl (by kernel_rfl) rfl ?_
          try go_simp
          refine (hsp _).mono ?_
          rintro e7 w7 ⟨rfl, hC7⟩
          have hs7 := hs6.same hC7
          have hS7 : (fun (W' : World) => W'.cell? ⟨g, o + k * 3, none⟩ = some (.int .i64 cs) ∧ W'.cell? ⟨g, o + k * 3 + 1, none⟩ = some (.int .i64 cw) ∧ W'.cell? ⟨g, o + k * 3 + 2, none⟩ = some (.int .i64 co) ∧ W'.cell? ⟨B, 0, none⟩ = some (.int .i64 sd) ∧ W'.cell? ⟨B, 1, none⟩ = some (.int .i64 sl)) _ := ⟨(keepS hs7.tb.chg).1, (keepS hs7.tb.chg).2.1, (keepS hs7.tb.chg).2.2, hs7.c0, hs7.c1⟩
          refine ⟨hS7, ?_⟩
          refine take_one 7 hS7 rfl (by kernel_rfl) rfl ?_
          apply Exists.intro
          refine And.intro (fun W' hS' => ?y7) (And.intro (fun _ _ _ h => h) ?_)
          case y7 => obtain ⟨y0, y1, y2, y3, y4⟩ := hS'; go_simp; rfl
          refine take_one 8 hS7 rfl (by kernel_rfl) rfl ?_
          apply Exists.intro
          refine And.intro (fun W' hS' => ?y8) (And.intro (fun _ _ _ h => h) ?_)
          case y8 => obtain ⟨y0, y1, y2, y3, y4⟩ := hS'; go_simp; rfl
          try go_simp
          try go_simp
          refine take_one 9 hS7 rfl (by kernel_rfl) (by kernel_rfl) ?_
          apply Exists.intro
          refine And.intro (fun W' hS' => ?y9) (And.intro (fun _ _ _ h => h) ?_)
          case y9 => obtain ⟨y0, y1, y2, y3, y4⟩ := hS'; go_simp; rfl
          refine take_one 10 hS7 rfl (by kernel_rfl) (by kernel_rfl) ?_
          apply Exists.intro
          refine And.intro (fun W' hS' => ?y10) (And.intro (fun _ _ _ h => h) ?_)
          case y10 => obtain ⟨y0, y1, y2, y3, y4⟩ := hS'; go_simp; rfl
          refine take_one 11 hS7 rfl (by kernel_rfl) (by kernel_rfl) ?_
          apply Exists.intro
          refine And.intro (fun W' hS' => ?y11) (And.intro (fun _ _ _ h => h) ?_)
          case y11 => obtain ⟨y0, y1, y2, y3, y4⟩ := hS'; go_simp; rfl
          refine take_one 12 hS7 rfl (by kernel_rfl) (by kernel_rfl) ?_
          apply Exists.intro
          refine And.intro (fun W' hS' => ?y12) (And.intro (fun _ _ _ h => h) ?_)
          case y12 => obtain ⟨y0, y1, y2, y3, y4⟩ := hS'; go_simp; rfl
          refine take_one 13 hS7 rfl (by kernel_rfl) (by kernel_rfl) ?_
          apply Exists.intro
          refine And.intro (fun W' hS' => ?y13) (And.intro (fun _ _ _ h => h) ?_)
          case y13 => obtain ⟨y0, y1, y2, y3, y4⟩ := hS'; go_simp; rfl
          refine take_one 14 hS7 rfl (by kernel_rfl) (by kernel_rfl) ?_
          apply Exists.intro
          refine And.intro (fun W' hS' => ?y14) (And.intro (fun _ _ _ h => h) ?_)
          case y14 => obtain ⟨y0, y1, y2, y3, y4⟩ := hS'; go_simp; rfl
          refine take_one 16 hS7 rfl (by kernel_rfl) (by kernel_rfl) ?_
          apply Exists.intro
          refine And.intro (fun W' hS' => ?y16) (And.intro (fun _ _ _ h => h) ?_)
          case y16 => obtain ⟨y0, y1, y2, y3, y4⟩ := hS'; go_simp; rfl
          refine only_one 15 rfl (by kernel_rfl) (by kernel_rfl) ?_
          try go_simp
          refine (does_some hs7.tb.b hs7.tb.hq (by omega) gs gw HD3.out).mono ?_
          rintro e15 w15 ⟨Y15, rfl, hB15, hW15⟩
          have hs15 := hs7.wentB hW15 hB15
          have hS15 : (fun (W' : World) => W'.cell? ⟨g, o + k * 3, none⟩ = some (.int .i64 cs) ∧ W'.cell? ⟨g, o + k * 3 + 1, none⟩ = some (.int .i64 cw) ∧ W'.cell? ⟨g, o + k * 3 + 2, none⟩ = some (.int .i64 co) ∧ W'.cell? ⟨B, 0, none⟩ = some (.int .i64 sd) ∧ W'.cell? ⟨B, 1, none⟩ = some (.int .i64 sl)) _ := ⟨(keepS hs15.tb.chg).1, (keepS hs15.tb.chg).2.1, (keepS hs15.tb.chg).2.2, hs15.c0, hs15.c1⟩
          refine ⟨hS15, ?_⟩
          refine take_one 17 hS15 rfl (by kernel_rfl) (by kernel_rfl) ?_
          apply Exists.intro
          refine And.intro (fun W' hS' => ?y17) (And.intro (fun _ _ _ h => h) ?_)
          case y17 => obtain ⟨y0, y1, y2, y3, y4⟩ := hS'; go_simp; rfl
          try go_simp
          refine take_one 18 hS15 rfl (by kernel_rfl) rfl ?_
          apply Exists.intro
          refine And.intro (fun W' hS' => ?y18) (And.intro (fun _ _ _ h => h) ?_)
          case y18 => obtain ⟨y0, y1, y2, y3, y4⟩ := hS'; go_simp; rfl
          try go_simp
          refine all_done (by kernel_rfl) ?_ _
          go_wp2_with fail
          go_meet
          exact ⟨rfl, Y15, T2, m + 1, hs15, HE4.out, by omega, by omega⟩
        · have hsp := fun W => spot_agg W cs (spD cs) (spL cs) gs rfl rfl
          have heq : ∀ W, (binOp .eql 32 (.agg #[.int .i64 (spD cs), .int .i64 (spL cs)]) (.agg #[.int .i64 sd, .int .i64 sl])).run Try.prog W = .ok (.bool false) W := fun W => by
            obtain ⟨r, hr, hi⟩ := eq_spot (sp_i64 cs).1 (sp_i64 cs).2 h64.1 h64.2 W
            rw [hr]
            cases r
            · rfl
            · exact absurd (hi.1 rfl) e1
          generalize spD cs = cd at *
          generalize spL cs = cl at *
          have HE2 := Lib.hid e2
          clear e1 e2
          refine region_lone (fun (W' : World) => W'.cell? ⟨g, o + k * 3, none⟩ = some (.int .i64 cs) ∧ W'.cell? ⟨g, o + k * 3 + 1, none⟩ = some (.int .i64 cw) ∧ W'.cell? ⟨g, o + k * 3 + 2, none⟩ = some (.int .i64 co) ∧ W'.cell? ⟨B, 0, none⟩ = some (.int .i64 sd) ∧ W'.cell? ⟨B, 1, none⟩ = some (.int .i64 sl)) [] (by kernel_rfl) ?_
          refine take_one 0 hS6 rfl (by kernel_rfl) rfl ?_
          apply Exists.intro
          refine And.intro (fun W' hS' => ?n0) (And.intro (fun _ _ _ h => h) ?_)
          case n0 => obtain ⟨y0, y1, y2, y3, y4⟩ := hS'; go_simp; rfl
          refine take_one 1 hS6 rfl (by kernel_rfl) rfl ?_
          apply Exists.intro
          refine And.intro (fun W' hS' => ?n1) (And.intro (fun _ _ _ h => h) ?_)
          case n1 => obtain ⟨y0, y1, y2, y3, y4⟩ := hS'; go_simp; rfl
          refine take_one 2 hS6 rfl (by kernel_rfl) rfl ?_
          apply Exists.intro
          refine And.intro (fun W' hS' => ?n2) (And.intro (fun _ _ _ h => h) ?_)
          case n2 => obtain ⟨y0, y1, y2, y3, y4⟩ := hS'; go_simp; rfl
          refine take_one 3 hS6 rfl (by kernel_rfl) rfl ?_
          apply Exists.intro
          refine And.intro (fun W' hS' => ?n3) (And.intro (fun _ _ _ h => h) ?_)
          case n3 => obtain ⟨y0, y1, y2, y3, y4⟩ := hS'; go_simp; rfl
          refine take_one 4 hS6 rfl (by kernel_rfl) rfl ?_
          apply Exists.intro
          refine And.intro (fun W' hS' => ?n4) (And.intro (fun _ _ _ h => h) ?_)
          case n4 => obtain ⟨y0, y1, y2, y3, y4⟩ := hS'; go_simp; rfl
          refine take_one 6 hS6 rfl (by kernel_rfl) rfl ?_
          apply Exists.intro
          refine And.intro (fun W' hS' => ?n6) (And.intro (fun _ _ _ h => h) ?_)
          case n6 => obtain ⟨y0, y1, y2, y3, y4⟩ := hS'; go_simp; rfl
          refine only_one 5 rfl (by kernel_rfl) rfl ?_
          try go_simp
          refine (hsp _).mono ?_
          rintro e7 w7 ⟨rfl, hC7⟩
          have hs7 := hs6.same hC7
          have hS7 : (fun (W' : World) => W'.cell? ⟨g, o + k * 3, none⟩ = some (.int .i64 cs) ∧ W'.cell? ⟨g, o + k * 3 + 1, none⟩ = some (.int .i64 cw) ∧ W'.cell? ⟨g, o + k * 3 + 2, none⟩ = some (.int .i64 co) ∧ W'.cell? ⟨B, 0, none⟩ = some (.int .i64 sd) ∧ W'.cell? ⟨B, 1, none⟩ = some (.int .i64 sl)) _ := ⟨(keepS hs7.tb.chg).1, (keepS hs7.tb.chg).2.1, (keepS hs7.tb.chg).2.2, hs7.c0, hs7.c1⟩
          refine ⟨hS7, ?_⟩
          refine take_one 7 hS7 rfl (by kernel_rfl) rfl ?_
          apply Exists.intro
          refine And.intro (fun W' hS' => ?n7) (And.intro (fun _ _ _ h => h) ?_)
          case n7 => obtain ⟨y0, y1, y2, y3, y4⟩ := hS'; go_simp; rfl
          refine take_one 8 hS7 rfl (by kernel_rfl) rfl ?_
          apply Exists.intro
          refine And.intro (fun W' hS' => ?n8) (And.intro (fun _ _ _ h => h) ?_)
          case n8 => obtain ⟨y0, y1, y2, y3, y4⟩ := hS'; go_simp; rfl
          try go_simp
          try go_simp
          refine skip_one 9 hS7 rfl (by kernel_rfl) (by kernel_rfl) (fun _ _ _ h => h) ?_
          refine skip_one 10 hS7 rfl (by kernel_rfl) (by kernel_rfl) (fun _ _ _ h => h) ?_
          refine skip_one 11 hS7 rfl (by kernel_rfl) (by kernel_rfl) (fun _ _ _ h => h) ?_
          refine skip_one 12 hS7 rfl (by kernel_rfl) (by kernel_rfl) (fun _ _ _ h => h) ?_
          refine skip_one 13 hS7 rfl (by kernel_rfl) (by kernel_rfl) (fun _ _ _ h => h) ?_
          refine skip_one 14 hS7 rfl (by kernel_rfl) (by kernel_rfl) (fun _ _ _ h => h) ?_
          refine skip_one 15 hS7 rfl (by kernel_rfl) (by kernel_rfl) (fun _ _ _ h => h) ?_
          refine skip_one 16 hS7 rfl (by kernel_rfl) (by kernel_rfl) (fun _ _ _ h => h) ?_
          try go_simp
          refine skip_one 17 hS7 rfl (by kernel_rfl) (by kernel_rfl) (fun _ _ _ h => h) ?_
          refine take_one 18 hS7 rfl (by kernel_rfl) rfl ?_
          apply Exists.intro
          refine And.intro (fun W' hS' => ?n18) (And.intro (fun _ _ _ h => h) ?_)
          case n18 => obtain ⟨y0, y1, y2, y3, y4⟩ := hS'; go_simp; rfl
          try go_simp
          refine all_done (by kernel_rfl) ?_ _
          go_wp2_with fail
          go_meet
          exact ⟨rfl, Y, T, m, hs7, HE2.out, by omega, by omega⟩
      case rest =>
        obtain ⟨rfl, Y6, T6, m6, hs6, hl6, ht6, hm6⟩ := hcut
        clear hs5
        have c0 := hs6.c0
        have c1 := hs6.c1
        obtain ⟨st, hst⟩ : ∃ z, S2.state sd sl = z := ⟨_, rfl⟩
        obtain ⟨sa, sb, sc⟩ := st
        have hst2 : T6.state sd sl = (sa, sb, sc) := by rw [← hst]; exact hl6.state.symm
        have HST := Lib.hid hst
        have HST2 := Lib.hid hst2
        have HL6 := Lib.hid hl6
        have hw2 : IntKind.i64.wrap ((k : Int) + 1) = k + 1 := IntWalk.i64_in _ ⟨by omega, by omega⟩
        clear hst hst2 hl6
        go_wp2_with (first
          | (go_at_call 20; refine (stateE hs6.tb.a hs6.tb.hp h64.1 h64.2 HST.out).mono ?_; rintro e8 w8 ⟨rfl, hC8⟩; have hs8 := hs6.same hC8; have z0 := hs8.c0; have z1 := hs8.c1; clear c0 c1)
          | (go_at_call 21; refine (stands_yes hs8.tb.b hs8.tb.hq h64.1 h64.2 HST2.out).mono ?_; rintro e10 w10 ⟨rfl, hC10⟩; have hs10 := hs8.same hC10))
        go_roundw
        case rel => exact ⟨t', k + 1, X5, Y6, S2, T6, n + 1, m6, by go_num, by go_num, by omega, by omega, by omega, by omega, hs10, HL6.out, by have := HNS.out; omega, ht6, by omega, by omega⟩
        case measure => simp [intOf]; omega
    · by_cases h1 : k < L.length
      · have h2 : ¬ k < 100 := fun h2 => hk ⟨h1, h2⟩
        go_wp2_with fail
        go_ret
        exact ⟨rfl, hs.tb.chg⟩
      · go_wp2_with fail
        go_ret
        exact ⟨rfl, hs.tb.chg⟩
end Go.Proofs.Ytbihefbjojlncaa
