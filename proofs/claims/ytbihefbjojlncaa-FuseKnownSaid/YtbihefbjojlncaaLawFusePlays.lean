/- fuse: the law FusePlays, walked: it returns true at every input. -/
import Derived.Test.YtbihefbjojlncaaFrSame
import Derived.Test.YtbihefbjojlncaaFrRowIn
namespace Go.Proofs.Ytbihefbjojlncaa
set_option linter.unusedVariables false
set_option linter.unusedSimpArgs false
open Go Go.RowKit
/-- a box, and the document's -/
structure PS (w W : World) (p b base : Nat) (X : FX) (S T : FS) (L : List FE) (n : Nat) : Prop where
  box : BoxAt W X S n
  hp : X.b = p
  ref : RefAt W b base T L
  bb : b < base
  bs : base ≤ W.heap.size
  up : ∀ i, X.Own i → w.heap.size ≤ i
  ub : w.heap.size ≤ b
  chg : Chg (fun _ => False) w W
theorem RefAt.other {w : World} {b base : Nat} {S : FS} {L : List FE} (h : RefAt w b base S L) {k : Nat} {c : Array Value} {t : TypeId} {f : Nat × Nat} (hk : w.heap[k]? = some (.cells c t f)) (ht : t ≠ 37) : k ≠ b := by
  rintro rfl
  obtain ⟨v, hb, _⟩ := h.row
  rw [hb] at hk
  cases hk
  exact ht rfl
theorem PS.wentA {w W W' : World} {p b base : Nat} {X X' : FX} {S S' T : FS} {L : List FE} {n n' : Nat} (h : PS w W p b base X S T L n) (hw : Went W W' X X') (hb : BoxAt W' X' S' n') : PS w W' p b base X' S' T L n' :=
  ⟨hb, hw.b.trans h.hp, h.ref.went h.box hw, h.bb, Nat.le_trans h.bs hw.chg.size, hw.above h.chg.size h.up, h.ub, h.chg.trans' hw.chg (fun i hi hs => absurd hi (by have := h.up i hs; omega))⟩
theorem PS.wentB {w W W' : World} {p b base : Nat} {X : FX} {S T T' : FS} {L L' : List FE} {n : Nat} (h : PS w W p b base X S T L n) (hr : RefAt W' b base T' L') (hc : Chg (fun i => i = b) W W') : PS w W' p b base X S T' L' n :=
  ⟨h.box.chg hc (fun i hi e => by
    subst e
    obtain ⟨v, hb, _⟩ := h.ref.row
    exact h.box.not_own hb (by decide) (by decide) hi), h.hp, hr, h.bb, Nat.le_trans h.bs hc.size, h.up, h.ub, h.chg.trans' hc (fun i hi hs => absurd hi (by have := h.ub; omega))⟩
theorem PS.same {w W W' : World} {p b base : Nat} {X : FX} {S T : FS} {L : List FE} {n : Nat} (h : PS w W p b base X S T L n) (hc : Chg (fun _ => False) W W') : PS w W' p b base X S T L n :=
  ⟨h.box.chg hc (fun _ _ x => x), h.hp, h.ref.same hc, h.bb, Nat.le_trans h.bs hc.size, h.up, h.ub, h.chg.trans hc⟩
def doO (c : DoT) : Obj := .cells #[.bool c.1, .bool c.2.1, .bool c.2.2.1, .int .i64 c.2.2.2.1, .int .i64 c.2.2.2.2.1, .int .i64 c.2.2.2.2.2] 34 (0, 0)
theorem doCell {w : World} {A : Option Addr} {L : List DoT} (hL : InRows 6 doC w A L) {k : Nat} {c : DoT} (hk : L[k]? = some c) :
    ∃ g o, A = some ⟨g, o, none⟩ ∧ w.cell? ⟨g, o + k * 6, none⟩ = some (.bool c.1) ∧ w.cell? ⟨g, o + k * 6 + 1, none⟩ = some (.bool c.2.1) ∧ w.cell? ⟨g, o + k * 6 + 2, none⟩ = some (.bool c.2.2.1) ∧ w.cell? ⟨g, o + k * 6 + 3, none⟩ = some (.int .i64 c.2.2.2.1) ∧ w.cell? ⟨g, o + k * 6 + 4, none⟩ = some (.int .i64 c.2.2.2.2.1) ∧ w.cell? ⟨g, o + k * 6 + 5, none⟩ = some (.int .i64 c.2.2.2.2.2) := by
  obtain ⟨g, o, e, h⟩ := hL k c hk
  exact ⟨g, o, e, h 0 _ rfl, h 1 _ rfl, h 2 _ rfl, h 3 _ rfl, h 4 _ rfl, h 5 _ rfl⟩
set_option maxRecDepth 100000 in
set_option maxHeartbeats 16000000 in
theorem plays_no (w : World) (mo re : Int) (A : Option Addr) (len cap : Nat) (hlen : len ≤ maxLen) (h : ¬ (1 ≤ mo ∧ mo ≤ 1000 ∧ 1 ≤ re ∧ re ≤ 1000000)) :
    Calls Try.prog 3 #[.int .i64 mo, .int .i64 re, .slice A len cap] w fun e w' => e = .returned (.bool true) ∧ Chg (fun _ => False) w w' := by
  have hn1 := fun W => new_no W mo re h
  have hn2 := fun W => refnew_no W mo re h
  clear h
  unfold maxLen at hlen
  go_enter Try.func3, Try.ntmps3
  go_wp2_with (first
    | (go_at_call 9; refine (hn1 _).mono ?_; rintro e w1 ⟨rfl, rfl⟩)
    | (go_at_call 10; refine (hn2 _).mono ?_; rintro e w2 ⟨rfl, rfl⟩))
  refine wp_loop_rounds 1 ?_; rw [rounds_succ]
  by_cases h0 : 0 < len
  · go_wp2_with (first | (go_at_call 17; refine (works_some _).mono ?_; rintro e w3 ⟨rfl, hC3⟩))
    go_ret
    exact ⟨rfl, hC3⟩
  · go_wp2_with (first | (go_at_call 17; refine (works_some _).mono ?_; rintro e w3 ⟨rfl, hC3⟩))
    go_ret
    exact ⟨rfl, hC3⟩
set_option maxRecDepth 100000 in
set_option maxHeartbeats 16000000 in
theorem plays_any (w : World) (mo re : Int) (A : Option Addr) (L : List DoT) (cap : Nat) (hL : InRows 6 doC w A L) (hG : ∀ c ∈ L, DoOk c) (hN : L.length ≤ maxLen) :
    Calls Try.prog 3 #[.int .i64 mo, .int .i64 re, .slice A L.length cap] w fun e w' => e = .returned (.bool true) ∧ Chg (fun _ => False) w w' := by
  by_cases hok : 1 ≤ mo ∧ mo ≤ 1000 ∧ 1 ≤ re ∧ re ≤ 1000000
  · have hlen : L.length ≤ 9223372036854775807 := by unfold maxLen at hN; omega
    have HL := Lib.hid hL
    have HG := Lib.hid hG
    have hn1 := fun W => new_some W mo re ⟨hok.1, hok.2.1⟩ hok.2.2
    have hn2 := fun W => refnew_some W mo re ⟨hok.1, hok.2.1⟩ hok.2.2
    clear hL hG hN hok
    go_enter Try.func3, Try.ntmps3
    go_wp2_with (first
      | (go_at_call 9; refine (hn1 _).mono ?_; rintro e w1 ⟨X0, rfl, hB1, hC1, hU1⟩)
      | (go_at_call 10; refine (hn2 _).mono ?_; rintro e w2 ⟨rfl, hR2, hC2, hz2⟩))
    have hs0 : PS w w2 X0.b w1.heap.size (w1.heap.size + 1) X0 (FS.new mo re) (FS.new mo re) [] 0 := ⟨hB1.chg hC2 (fun _ _ x => x), rfl, hR2, by omega, by omega, hU1, hC1.size, hC1.trans hC2⟩
    generalize X0.b = p at *
    generalize w1.heap.size = b at *
    clear hB1 hC1 hU1 hR2 hC2 hz2 hn1 hn2 w1
    go_loopw [11] (fun a wr => ∃ (k : Nat) (X : FX) (S : FS) (M : List FE) (n : Nat), a = .int .i64 k ∧ k ≤ L.length ∧ k ≤ 100 ∧ PS w wr p b (b + 1) X S S M n ∧ n ≤ k ∧ M.length ≤ k)
      (fun a _ => L.length - (intOf a).toNat)
    case atStart => exact ⟨0, X0, _, [], 0, rfl, by omega, by omega, hs0, by omega, by simp⟩
    case round =>
      obtain ⟨k, X, S, M, n, rfl, k0, k1, hs, hn, hM⟩ := hrel
      clear hs0
      by_cases hk : k < L.length ∧ k < 100
      · obtain ⟨hk1, hk2⟩ := hk
        have hck : L[k]? = some (L[k]'hk1) := List.getElem?_eq_getElem hk1
        have hcg := HG.out _ (List.getElem_mem hk1)
        generalize L[k]'hk1 = c at *
        obtain ⟨did, well, raw, d, l, t⟩ := c
        obtain ⟨gd, gl, gt⟩ := hcg
        simp only at gd gl gt
        obtain ⟨g, o, rfl, x0, x1, x2, x3, x4, x5⟩ := doCell (HL.out.chg hs.chg (fun _ x => x.elim)) hck
        simp only at x0 x1 x2 x3 x4 x5
        clear hck
        go_upto_region 9 with fail
        have hs1 := hs.same ((Chg.refl _ _).alloc (.cells #[.bool did, .bool well, .bool raw, .int .i64 d, .int .i64 l, .int .i64 t] 34))
        have hv1 := heap_new wr (.cells #[.bool did, .bool well, .bool raw, .int .i64 d, .int .i64 l, .int .i64 t] 34)
        generalize hB : wr.heap.size = B at *
        generalize wr.alloc (.cells #[.bool did, .bool well, .bool raw, .int .i64 d, .int .i64 l, .int .i64 t] 34) = wa at *
        clear hs hB x0 x1 x2 x3 x4 x5
        have y0 := cell_of_heap hv1 0
        have y1 := cell_of_heap hv1 1
        have y2 := cell_of_heap hv1 2
        have y3 := cell_of_heap hv1 3
        have y4 := cell_of_heap hv1 4
        have y5 := cell_of_heap hv1 5
        simp only [List.getElem?_toArray, List.getElem?_cons_zero, List.getElem?_cons_succ] at y0 y1 y2 y3 y4 y5
        go_upto_if 58 with fail
        go_cut [13] from 58 to 67 (fun v W => ∃ tk : Int, v = .int .i64 tk ∧ PS w W p b (b + 1) X S S M n ∧ W.heap[B]? = some (.cells #[.bool did, .bool well, .bool raw, .int .i64 d, .int .i64 l, .int .i64 t] 34 (0, 0)))
        case first =>
          cases raw
          · obtain ⟨v9, hb9, _⟩ := hs1.ref.row
            have z0 := cell_of_heap hb9 2
            simp only [List.getElem?_toArray, List.getElem?_cons_zero, List.getElem?_cons_succ] at z0
            have hnow := hs1.ref.ok.now
            have hbr := fun W => bringE W t 12 _ gt (by omega) (by omega) rfl
            have r0 := Int.emod_nonneg t (show (12 : Int) ≠ 0 by omega)
            have r1 := Int.emod_lt_of_pos t (show (0 : Int) < 12 by omega)
            clear hb9
            by_cases hmin : S.now ≤ 1125899906842624
            · have hmn : min S.now 1125899906842624 = S.now := by omega
              have hw1 : IntKind.i64.wrap (S.now + t % 12) = S.now + t % 12 := IntWalk.i64_in _ ⟨by omega, by omega⟩
              go_upto_region 11 with fail
              go_quiet ((go_at_call 11; exact Calls.quiet_of_same (hbr _)))
              go_wp2_with fail
              go_meet
              exact ⟨_, rfl, hs1.same ((Chg.refl _ _).drewN _), hv1⟩
            · have hmn : min S.now 1125899906842624 = 1125899906842624 := by omega
              have hw1 : IntKind.i64.wrap (1125899906842624 + t % 12) = 1125899906842624 + t % 12 := IntWalk.i64_in _ ⟨by omega, by omega⟩
              go_upto_region 11 with fail
              go_quiet ((go_at_call 11; exact Calls.quiet_of_same (hbr _)))
              go_wp2_with fail
              go_meet
              exact ⟨_, rfl, hs1.same ((Chg.refl _ _).drewN _), hv1⟩
          · go_wp2_with fail
            go_meet
            exact ⟨t, rfl, hs1, hv1⟩
        case rest =>
          obtain ⟨tk, rfl, hs2, hv2⟩ := hcut
          clear hs1 hv1 y0 y1 y2 y3 y4 y5
          have y0 := cell_of_heap hv2 0
          have y1 := cell_of_heap hv2 1
          have y3 := cell_of_heap hv2 3
          have y4 := cell_of_heap hv2 4
          simp only [List.getElem?_toArray, List.getElem?_cons_zero, List.getElem?_cons_succ] at y0 y1 y3 y4
          go_upto_if 69 with fail
          go_cut [6] from 69 to 95 (fun _ W => ∃ (X' : FX) (S' : FS) (M' : List FE) (n' : Nat), PS w W p b (b + 1) X' S' S' M' n' ∧ n' ≤ n + 1 ∧ M'.length ≤ M.length + 1 ∧ W.heap[B]? = some (.cells #[.bool did, .bool well, .bool raw, .int .i64 d, .int .i64 l, .int .i64 t] 34 (0, 0)))
          case first =>
            have hsz := hs2.same ((Chg.refl _ _).drew)
            have hvz := (Chg.refl (fun _ => False) _).drew.keep hv2 (fun x => x)
            have hSz : (fun (W' : World) => W'.cell? ⟨B, 1, none⟩ = some (.bool well) ∧ W'.cell? ⟨B, 3, none⟩ = some (.int .i64 d) ∧ W'.cell? ⟨B, 4, none⟩ = some (.int .i64 l)) _ := ⟨cell_of_heap hvz 1, cell_of_heap hvz 3, cell_of_heap hvz 4⟩
            cases did
            · obtain ⟨S', r, hd1⟩ : ∃ S' r, S.ask d l tk = (S', r) := ⟨_, _, rfl⟩
              have HD := Lib.hid hd1
              clear hd1
              go_upto_region 15 with fail
              refine region_lone (fun (W' : World) => W'.cell? ⟨B, 1, none⟩ = some (.bool well) ∧ W'.cell? ⟨B, 3, none⟩ = some (.int .i64 d) ∧ W'.cell? ⟨B, 4, none⟩ = some (.int .i64 l)) [] (by kernel_rfl) ?_
              refine take_one 0 hSz rfl (by kernel_rfl) rfl ?_
              apply Exists.intro
              refine And.intro (fun W' hS' => ?a0) (And.intro (fun _ _ _ h => h) ?_)
              case a0 => obtain ⟨y1, y3, y4⟩ := hS'; go_simp; rfl
              refine take_one 1 hSz rfl (by kernel_rfl) rfl ?_
              apply Exists.intro
              refine And.intro (fun W' hS' => ?a1) (And.intro (fun _ _ _ h => h) ?_)
              case a1 => obtain ⟨y1, y3, y4⟩ := hS'; go_simp; rfl
              refine take_one 2 hSz rfl (by kernel_rfl) rfl ?_
              apply Exists.intro
              refine And.intro (fun W' hS' => ?a2) (And.intro (fun _ _ _ h => h) ?_)
              case a2 => obtain ⟨y1, y3, y4⟩ := hS'; go_simp; rfl
              refine take_one 3 hSz rfl (by kernel_rfl) rfl ?_
              apply Exists.intro
              refine And.intro (fun W' hS' => ?a3) (And.intro (fun _ _ _ h => h) ?_)
              case a3 => obtain ⟨y1, y3, y4⟩ := hS'; go_simp; rfl
              refine take_one 5 hSz rfl (by kernel_rfl) rfl ?_
              apply Exists.intro
              refine And.intro (fun W' hS' => ?a5) (And.intro (fun _ _ _ h => h) ?_)
              case a5 => obtain ⟨y1, y3, y4⟩ := hS'; go_simp; rfl
              refine take_one 6 hSz rfl (by kernel_rfl) rfl ?_
              apply Exists.intro
              refine And.intro (fun W' hS' => ?a6) (And.intro (fun _ _ _ h => h) ?_)
              case a6 => obtain ⟨y1, y3, y4⟩ := hS'; go_simp; rfl
              refine take_one 7 hSz rfl (by kernel_rfl) rfl ?_
              apply Exists.intro
              refine And.intro (fun W' hS' => ?a7) (And.intro (fun _ _ _ h => h) ?_)
              case a7 => obtain ⟨y1, y3, y4⟩ := hS'; go_simp; rfl
              refine take_one 8 hSz rfl (by kernel_rfl) rfl ?_
              apply Exists.intro
              refine And.intro (fun W' hS' => ?a8) (And.intro (fun _ _ _ h => h) ?_)
              case a8 => obtain ⟨y1, y3, y4⟩ := hS'; go_simp; rfl
              refine only_one 4 rfl (by kernel_rfl) rfl ?_
              try go_simp
              refine (askE hsz.box hsz.hp (by omega) HD.out).mono ?_
              rintro e4 w4 ⟨X4, rfl, hB4, hW4⟩
              have hs4 := hsz.wentA hW4 hB4
              have hv4 := hW4.chg.keep hvz (hsz.box.not_own hvz (by decide) (by decide))
              have hS4 : (fun (W' : World) => W'.cell? ⟨B, 1, none⟩ = some (.bool well) ∧ W'.cell? ⟨B, 3, none⟩ = some (.int .i64 d) ∧ W'.cell? ⟨B, 4, none⟩ = some (.int .i64 l)) _ := ⟨cell_of_heap hv4 1, cell_of_heap hv4 3, cell_of_heap hv4 4⟩
              refine ⟨hS4, ?_⟩
              refine only_one 9 rfl (by kernel_rfl) rfl ?_
              try go_simp
              refine (refaskE hs4.ref hs4.bb hs4.bs (by omega) HD.out).mono ?_
              rintro e9 w9 ⟨M9, rfl, hR9, hM9, hC9⟩
              have hs9 := hs4.wentB hR9 hC9
              have hv9 := hC9.keep hv4 (fun e => hs4.ref.other hv4 (by decide) e)
              have hS9 : (fun (W' : World) => W'.cell? ⟨B, 1, none⟩ = some (.bool well) ∧ W'.cell? ⟨B, 3, none⟩ = some (.int .i64 d) ∧ W'.cell? ⟨B, 4, none⟩ = some (.int .i64 l)) _ := ⟨cell_of_heap hv9 1, cell_of_heap hv9 3, cell_of_heap hv9 4⟩
              refine ⟨hS9, ?_⟩
              try go_simp
              refine take_one 10 hS9 rfl (by kernel_rfl) rfl ?_
              apply Exists.intro
              refine And.intro (fun W' hS' => ?a10) (And.intro (fun _ _ _ h => h) ?_)
              case a10 => obtain ⟨y1, y3, y4⟩ := hS'; go_simp; rfl
              try go_simp
              refine all_done (by kernel_rfl) ?_ _
              go_wp2_with fail
              go_meet
              exact ⟨X4, S', M9, n + 1, hs9, by omega, hM9, hv9⟩
            · obtain ⟨S', r, hd1⟩ : ∃ S' r, S.did d l well tk = (S', r) := ⟨_, _, rfl⟩
              have HD := Lib.hid hd1
              clear hd1
              go_upto_region 13 with fail
              refine region_lone (fun (W' : World) => W'.cell? ⟨B, 1, none⟩ = some (.bool well) ∧ W'.cell? ⟨B, 3, none⟩ = some (.int .i64 d) ∧ W'.cell? ⟨B, 4, none⟩ = some (.int .i64 l)) [] (by kernel_rfl) ?_
              refine take_one 0 hSz rfl (by kernel_rfl) rfl ?_
              apply Exists.intro
              refine And.intro (fun W' hS' => ?b0) (And.intro (fun _ _ _ h => h) ?_)
              case b0 => obtain ⟨y1, y3, y4⟩ := hS'; go_simp; rfl
              refine take_one 1 hSz rfl (by kernel_rfl) rfl ?_
              apply Exists.intro
              refine And.intro (fun W' hS' => ?b1) (And.intro (fun _ _ _ h => h) ?_)
              case b1 => obtain ⟨y1, y3, y4⟩ := hS'; go_simp; rfl
              refine take_one 2 hSz rfl (by kernel_rfl) rfl ?_
              apply Exists.intro
              refine And.intro (fun W' hS' => ?b2) (And.intro (fun _ _ _ h => h) ?_)
              case b2 => obtain ⟨y1, y3, y4⟩ := hS'; go_simp; rfl
              refine take_one 3 hSz rfl (by kernel_rfl) rfl ?_
              apply Exists.intro
              refine And.intro (fun W' hS' => ?b3) (And.intro (fun _ _ _ h => h) ?_)
              case b3 => obtain ⟨y1, y3, y4⟩ := hS'; go_simp; rfl
              refine take_one 4 hSz rfl (by kernel_rfl) rfl ?_
              apply Exists.intro
              refine And.intro (fun W' hS' => ?b4) (And.intro (fun _ _ _ h => h) ?_)
              case b4 => obtain ⟨y1, y3, y4⟩ := hS'; go_simp; rfl
              refine take_one 5 hSz rfl (by kernel_rfl) rfl ?_
              apply Exists.intro
              refine And.intro (fun W' hS' => ?b5) (And.intro (fun _ _ _ h => h) ?_)
              case b5 => obtain ⟨y1, y3, y4⟩ := hS'; go_simp; rfl
              refine take_one 7 hSz rfl (by kernel_rfl) rfl ?_
              apply Exists.intro
              refine And.intro (fun W' hS' => ?b7) (And.intro (fun _ _ _ h => h) ?_)
              case b7 => obtain ⟨y1, y3, y4⟩ := hS'; go_simp; rfl
              refine take_one 8 hSz rfl (by kernel_rfl) rfl ?_
              apply Exists.intro
              refine And.intro (fun W' hS' => ?b8) (And.intro (fun _ _ _ h => h) ?_)
              case b8 => obtain ⟨y1, y3, y4⟩ := hS'; go_simp; rfl
              try go_simp
              refine take_one 9 hSz rfl (by kernel_rfl) rfl ?_
              apply Exists.intro
              refine And.intro (fun W' hS' => ?b9) (And.intro (fun _ _ _ h => h) ?_)
              case b9 => obtain ⟨y1, y3, y4⟩ := hS'; go_simp; rfl
              refine take_one 10 hSz rfl (by kernel_rfl) rfl ?_
              apply Exists.intro
              refine And.intro (fun W' hS' => ?b10) (And.intro (fun _ _ _ h => h) ?_)
              case b10 => obtain ⟨y1, y3, y4⟩ := hS'; go_simp; rfl
              refine take_one 11 hSz rfl (by kernel_rfl) rfl ?_
              apply Exists.intro
              refine And.intro (fun W' hS' => ?b11) (And.intro (fun _ _ _ h => h) ?_)
              case b11 => obtain ⟨y1, y3, y4⟩ := hS'; go_simp; rfl
              refine take_one 12 hSz rfl (by kernel_rfl) rfl ?_
              apply Exists.intro
              refine And.intro (fun W' hS' => ?b12) (And.intro (fun _ _ _ h => h) ?_)
              case b12 => obtain ⟨y1, y3, y4⟩ := hS'; go_simp; rfl
              refine only_one 6 rfl (by kernel_rfl) rfl ?_
              try go_simp
              refine (didE hsz.box hsz.hp (by omega) HD.out).mono ?_
              rintro e6 w6 ⟨X6, rfl, hB6, hW6⟩
              have hs6 := hsz.wentA hW6 hB6
              have hv6 := hW6.chg.keep hvz (hsz.box.not_own hvz (by decide) (by decide))
              have hS6 : (fun (W' : World) => W'.cell? ⟨B, 1, none⟩ = some (.bool well) ∧ W'.cell? ⟨B, 3, none⟩ = some (.int .i64 d) ∧ W'.cell? ⟨B, 4, none⟩ = some (.int .i64 l)) _ := ⟨cell_of_heap hv6 1, cell_of_heap hv6 3, cell_of_heap hv6 4⟩
              refine ⟨hS6, ?_⟩
              refine only_one 13 rfl (by kernel_rfl) rfl ?_
              try go_simp
              refine (refdidE hs6.ref hs6.bb hs6.bs (by omega) HD.out).mono ?_
              rintro e13 w13 ⟨M13, rfl, hR13, hM13, hC13⟩
              have hs13 := hs6.wentB hR13 hC13
              have hv13 := hC13.keep hv6 (fun e => hs6.ref.other hv6 (by decide) e)
              have hS13 : (fun (W' : World) => W'.cell? ⟨B, 1, none⟩ = some (.bool well) ∧ W'.cell? ⟨B, 3, none⟩ = some (.int .i64 d) ∧ W'.cell? ⟨B, 4, none⟩ = some (.int .i64 l)) _ := ⟨cell_of_heap hv13 1, cell_of_heap hv13 3, cell_of_heap hv13 4⟩
              refine ⟨hS13, ?_⟩
              refine take_one 14 hS13 rfl (by kernel_rfl) rfl ?_
              apply Exists.intro
              refine And.intro (fun W' hS' => ?b14) (And.intro (fun _ _ _ h => h) ?_)
              case b14 => obtain ⟨y1, y3, y4⟩ := hS'; go_simp; rfl
              try go_simp
              refine all_done (by kernel_rfl) ?_ _
              go_wp2_with fail
              go_meet
              exact ⟨X6, S', M13, n + 1, hs13, by omega, hM13, hv13⟩
          case rest =>
            obtain ⟨X', S', M', n', hs3, hn3, hM3, hv3⟩ := hcut
            clear hs2 hv2 y0 y1 y3 y4
            have y3 := cell_of_heap hv3 3
            have y4 := cell_of_heap hv3 4
            simp only [List.getElem?_toArray, List.getElem?_cons_zero, List.getElem?_cons_succ] at y3 y4
            have hbd : ∀ W : World, Sem.run Try.prog (Instr.build 32 #[(0, Value.int .i64 1)]) W = .ok (.agg #[.int .i64 1, .int .i64 0]) W := fun W => run_build W _ _ _ (by kernel_rfl)
            have hw2 : IntKind.i64.wrap ((k : Int) + 1) = k + 1 := IntWalk.i64_in _ ⟨by omega, by omega⟩
            have tk1 : True := trivial
            go_wp2_with (first
              | (go_at_call 16; have _t := tk1; clear _t tk1; refine (same_yes hs3.box hs3.hp hs3.ref (by omega) gd gl).mono ?_; rintro e w5 ⟨rfl, hC5⟩; have hs5 := hs3.same hC5; have tk2 : True := trivial)
              | (go_at_call 16; have _t := tk2; clear _t tk2; refine (same_yes hs5.box hs5.hp hs5.ref (by omega) (i64_small (by omega) (by omega) : I64 1) (i64_small (by omega) (by omega) : I64 0)).mono ?_; rintro e w6 ⟨rfl, hC6⟩; have hs6 := hs5.same hC6))
            go_roundw
            case rel => exact ⟨k + 1, X', S', M', n', by go_num, by omega, by omega, hs6, by omega, by omega⟩
            case measure => simp [intOf]; omega
      · by_cases h1 : k < L.length
        · have h2 : ¬ k < 100 := fun h2 => hk ⟨h1, h2⟩
          go_wp2_with (first | (go_at_call 17; refine (works_some _).mono ?_; rintro e w3 ⟨rfl, hC3⟩))
          go_ret
          exact ⟨rfl, hs.chg.trans hC3⟩
        · go_wp2_with (first | (go_at_call 17; refine (works_some _).mono ?_; rintro e w3 ⟨rfl, hC3⟩))
          go_ret
          exact ⟨rfl, hs.chg.trans hC3⟩
  · exact plays_no w mo re A L.length cap hN hok
theorem plays_row (w : World) (mo re : Int) (A : Option Addr) (L : List DoT) (cap : Nat) (_ : I64 mo) (_ : I64 re) (hL : InRows 6 doC w A L) (hG : ∀ c ∈ L, DoOk c) (hN : L.length ≤ maxLen) :
    Calls Try.prog 3 #[.int .i64 mo, .int .i64 re, .slice A L.length cap] w fun e w' => e = .returned (.bool true) ∧ Chg (fun _ => False) w w' := plays_any w mo re A L cap hL hG hN
end Go.Proofs.Ytbihefbjojlncaa
