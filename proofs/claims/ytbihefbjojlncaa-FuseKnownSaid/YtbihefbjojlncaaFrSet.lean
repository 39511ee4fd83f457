/- The document's box: set. -/
import Derived.Test.YtbihefbjojlncaaFrWalk1
import Derived.Maps.AppendAt
import Derived.Laws.AppendOwnNone
namespace Go.Proofs.Ytbihefbjojlncaa
set_option linter.unusedVariables false
set_option linter.unusedSimpArgs false
open Go Go.RowKit
def zeroFE : Value := .agg #[.int .i64 0, .int .i64 0, .int .i64 0, .int .i64 0, .int .i64 0]
theorem infoFE : (Try.prog.info? 77).map (fun i => (i.zero, i.size, i.bytes)) = some (some (.agg #[.int .i64 0, .int .i64 0, .int .i64 0, .int .i64 0, .int .i64 0]), 5, 40) := by kernel_rfl
theorem flatE_append (L M : List FE) : flatE (L ++ M) = flatE L ++ flatE M := by simp [flatE]
theorem flatE_one (e : FE) : flatE [e] = entC e := by simp [flatE]
theorem entC_one {e : FE} : ∀ u ∈ entC e, u.oneCell' = true := by
  intro u hu
  simp [entC] at hu
  rcases hu with rfl | rfl | rfl | rfl | rfl <;> rfl
theorem flatE_one' {L : List FE} : ∀ u ∈ flatE L, u.oneCell' = true := by
  intro u hu
  obtain ⟨e, _, h⟩ := List.mem_flatMap.1 hu
  exact entC_one u h
theorem entC_new (w : World) (e : FE) (t : TypeId) : ∀ j u, (entC e)[j]? = some u → (w.alloc (.cells #[.int .i64 e.1, .int .i64 e.2.1, .int .i64 e.2.2.1, .int .i64 e.2.2.2.1, .int .i64 e.2.2.2.2] t)).cell? ((⟨w.heap.size, 0, none⟩ : Addr).add j) = some u := by
  intro j u hj
  rw [WideShapes.add_plain, Nat.zero_add, cell_of_heap (heap_new w _)]
  have : (entC e) = (#[Value.int .i64 e.1, .int .i64 e.2.1, .int .i64 e.2.2.1, .int .i64 e.2.2.2.1, .int .i64 e.2.2.2.2] : Array Value).toList := rfl
  rw [this] at hj
  simpa using hj
/-- a row of fuses behind a box's cell, whatever the box's numbers -/
def RowsAt (w : World) (b base : Nat) (mo re no : Int) (L : List FE) : Prop := ∃ v, w.heap[b]? = some (.cells #[.int .i64 mo, .int .i64 re, .int .i64 no, v] 37 (0, 0)) ∧ w.ownsRow base 77 5 v L.length (flatE L)
theorem own_cast {W : World} {base : Nat} {e : TypeId} {size : Nat} {v : Value} {n n' : Nat} {xs xs' : List Value} (h : W.ownsRow base e size v n xs) (hn : n = n') (hx : xs = xs') : W.ownsRow base e size v n' xs' := by subst hn hx; exact h
theorem RowsAt.same {w w' : World} {b base : Nat} {mo re no : Int} {L : List FE} (h : RowsAt w b base mo re no L) (hc : Chg (fun _ => False) w w') : RowsAt w' b base mo re no L := by
  obtain ⟨v, hb, hr⟩ := h
  exact ⟨v, hc.keep hb (fun x => x), own_keep hr fun k c t f _ hk => hc.keep hk (fun x => x)⟩
theorem RowsAt.rowsC {w : World} {b base : Nat} {mo re no : Int} {L : List FE} (h : RowsAt w b base mo re no L) : ∃ A cap, w.cell? ⟨b, 3, none⟩ = some (.slice A L.length cap) ∧ L.length ≤ cap ∧ (A = none → L = []) ∧ (∀ x, A = some x → ∃ g, x = ⟨g, 0, none⟩) ∧
    ∀ k e, L[k]? = some e → ∃ g, A = some ⟨g, 0, none⟩ ∧ ∀ j v, (entC e)[j]? = some v → w.cell? ⟨g, k * 5 + j, none⟩ = some v := by
  obtain ⟨v, hb, hr⟩ := h
  obtain ⟨A, l, c, rfl⟩ := own_slice hr
  have hl : l = L.length ∧ l ≤ c ∧ (A = none → L = []) ∧ (∀ x, A = some x → ∃ g, x = ⟨g, 0, none⟩) := by
    rcases hr.2 with ⟨e, h0⟩ | ⟨g, cap, cur, e, _, _, hn, _⟩
    · cases e; exact ⟨by omega, by omega, fun _ => List.length_eq_zero_iff.1 h0, fun x hx => (by cases hx)⟩
    · cases e; exact ⟨rfl, hn, fun hx => (by cases hx), fun x hx => (by cases hx; exact ⟨_, rfl⟩)⟩
  obtain ⟨rfl, h1, h2, h3⟩ := hl
  refine ⟨A, c, cell_of_heap hb 3, h1, h2, h3, fun k e hk => ?_⟩
  have hkl := (List.getElem?_eq_some_iff.1 hk).1
  rcases hr.2 with ⟨e', h0⟩ | ⟨g, cap, cur, e', hg, hh, _, _, _, ht⟩
  · omega
  · cases e'
    refine ⟨g, rfl, fun j v hv => ?_⟩
    rw [cell_of_heap hh]
    have h5 := flatE_get hk hv
    have hj5 : j < 5 := by
      have := (List.getElem?_eq_some_iff.1 hv).1
      simpa [entC] using this
    rw [← ht] at h5
    rw [List.getElem?_take_of_lt (by omega)] at h5
    simpa using h5
set_option maxRecDepth 100000 in
set_option maxHeartbeats 16000000 in
theorem refset_some (w : World) (b base : Nat) (mo re no : Int) (L : List FE) (f : FE) (h : RowsAt w b base mo re no L) (hbase : base ≤ w.heap.size) (hbb : b < w.heap.size) (hL : L.length ≤ 100000) (hI : ∀ e ∈ L, I64 e.1 ∧ I64 e.2.1) (hf1 : I64 f.1) (hf2 : I64 f.2.1) :
    Calls Try.prog 29 #[.pointer (some ⟨b, 0, none⟩), entV f] w fun e w' => e = .returned (.tuple #[]) ∧ RowsAt w' b base mo re no (refset L f) ∧ Chg (fun i => i = b) w w' := by
  obtain ⟨i0, hi, hz0, hz1, hz2⟩ := info_parts infoFE
  have hG := (Chg.refl (fun _ => False) w).alloc (.cells #[.int .i64 f.1, .int .i64 f.2.1, .int .i64 f.2.2.1, .int .i64 f.2.2.2.1, .int .i64 f.2.2.2.2] 77)
  have hfb := heap_new w (.cells #[.int .i64 f.1, .int .i64 f.2.1, .int .i64 f.2.2.1, .int .i64 f.2.2.2.1, .int .i64 f.2.2.2.2] 77)
  have H := Lib.hid h
  have HI := Lib.hid hI
  clear h hI
  unfold entV
  go_enter Try.func29, Try.ntmps29
  go_upto_block 0 with fail
  generalize w.alloc (.cells #[.int .i64 f.1, .int .i64 f.2.1, .int .i64 f.2.2.1, .int .i64 f.2.2.2.1, .int .i64 f.2.2.2.2] 77) = W0 at *
  go_cut [4, 5] from 6 to 37 (fun a c W => ∃ k : Nat, c = .int .i64 k ∧ k ≤ L.length ∧ Chg (fun _ => False) w W ∧ W.heap[w.heap.size]? = some (.cells #[.int .i64 f.1, .int .i64 f.2.1, .int .i64 f.2.2.1, .int .i64 f.2.2.2.1, .int .i64 f.2.2.2.2] 77 (0, 0)) ∧
      W.ownsRow (w.heap.size + 1) 77 5 a k (flatE (L.take k)) ∧ (∀ j e, j < k → L[j]? = some e → bef e f = true) ∧ (∀ e, L[k]? = some e → bef e f = false))
  case first =>
    go_wp2_with fail
    go_loopw [4, 5] (fun a c W => ∃ k : Nat, c = .int .i64 k ∧ k ≤ L.length ∧ Chg (fun _ => False) w W ∧ W.heap[w.heap.size]? = some (.cells #[.int .i64 f.1, .int .i64 f.2.1, .int .i64 f.2.2.1, .int .i64 f.2.2.2.1, .int .i64 f.2.2.2.2] 77 (0, 0)) ∧
      W.ownsRow (w.heap.size + 1) 77 5 a k (flatE (L.take k)) ∧ (∀ j e, j < k → L[j]? = some e → bef e f = true))
      (fun _ c _ => L.length - (intOf c).toNat)
    case atStart => exact ⟨0, rfl, by omega, hG, hfb, World.ownsRow_nil _ _ _ _, fun j e hj => by omega⟩
    case round =>
      obtain ⟨k, rfl, k0, hC, hF, hR, hall⟩ := hrel
      clear hG hfb
      obtain ⟨A, cap, hrow, hcap, _, _, hent⟩ := (H.out.same hC).rowsC
      have hf0 := cell_of_heap hF 0
      have hf3 := cell_of_heap hF 1
      simp only [List.getElem?_toArray, List.getElem?_cons_zero, List.getElem?_cons_succ] at hf0 hf3
      have HALL := Lib.hid hall
      have HR := Lib.hid hR
      clear hall hR
      by_cases hkl : k < L.length
      · obtain ⟨e, he⟩ : ∃ e, L[k]? = some e := ⟨_, List.getElem?_eq_getElem hkl⟩
        obtain ⟨g, rfl, hce⟩ := hent k e he
        have e0 : wr.cell? ⟨g, k * 5, none⟩ = some (.int .i64 e.1) := hce 0 _ rfl
        have e1 := hce 1 _ rfl
        have e2 := hce 2 _ rfl
        have e3 := hce 3 _ rfl
        have e4 := hce 4 _ rfl
        have HCE := Lib.hid hce
        clear hce hent
        have hS : (fun (W' : World) => W'.cell? ⟨b, 3, none⟩ = some (.slice (some ⟨g, 0, none⟩) L.length cap) ∧ W'.cell? ⟨g, k * 5, none⟩ = some (.int .i64 e.1) ∧ W'.cell? ⟨g, k * 5 + 1, none⟩ = some (.int .i64 e.2.1) ∧ W'.cell? ⟨w.heap.size, 0, none⟩ = some (.int .i64 f.1) ∧ W'.cell? ⟨w.heap.size, 1, none⟩ = some (.int .i64 f.2.1)) wr.drew := ⟨hrow, e0, e1, hf0, hf3⟩
        go_upto_region 3 with fail
        go_cut [25] from 6 to 24 (fun c W => c = .bool (bef e f) ∧ Chg (fun _ => False) wr W)
        case first =>
          refine region_lone (fun (W' : World) => W'.cell? ⟨b, 3, none⟩ = some (.slice (some ⟨g, 0, none⟩) L.length cap) ∧ W'.cell? ⟨g, k * 5, none⟩ = some (.int .i64 e.1) ∧ W'.cell? ⟨g, k * 5 + 1, none⟩ = some (.int .i64 e.2.1) ∧ W'.cell? ⟨w.heap.size, 0, none⟩ = some (.int .i64 f.1) ∧ W'.cell? ⟨w.heap.size, 1, none⟩ = some (.int .i64 f.2.1)) [] (by kernel_rfl) ?_
          refine take_one 0 hS rfl (by kernel_rfl) rfl ?_
          apply Exists.intro
          refine And.intro (fun W' hS' => ?y0) (And.intro (fun _ _ _ h => h) ?_)
          case y0 => obtain ⟨y0, y1, y2, y3, y4⟩ := hS'; go_simp; rfl
          refine take_one 1 hS rfl (by kernel_rfl) rfl ?_
          apply Exists.intro
          refine And.intro (fun W' hS' => ?y1) (And.intro (fun _ _ _ h => h) ?_)
          case y1 => obtain ⟨y0, y1, y2, y3, y4⟩ := hS'; go_simp; rfl
          refine take_one 2 hS rfl (by kernel_rfl) rfl ?_
          apply Exists.intro
          refine And.intro (fun W' hS' => ?y2) (And.intro (fun _ _ _ h => h) ?_)
          case y2 => obtain ⟨y0, y1, y2, y3, y4⟩ := hS'; go_simp; rfl
          refine take_one 3 hS rfl (by kernel_rfl) rfl ?_
          apply Exists.intro
          refine And.intro (fun W' hS' => ?y3) (And.intro (fun _ _ _ h => h) ?_)
          case y3 => obtain ⟨y0, y1, y2, y3, y4⟩ := hS'; go_simp; rfl
          refine take_one 4 hS rfl (by kernel_rfl) rfl ?_
          apply Exists.intro
          refine And.intro (fun W' hS' => ?y4) (And.intro (fun _ _ _ h => h) ?_)
          case y4 => obtain ⟨y0, y1, y2, y3, y4⟩ := hS'; go_simp; rfl
          refine take_one 5 hS rfl (by kernel_rfl) rfl ?_
          apply Exists.intro
          refine And.intro (fun W' hS' => ?y5) (And.intro (fun _ _ _ h => h) ?_)
          case y5 => obtain ⟨y0, y1, y2, y3, y4⟩ := hS'; go_simp; rfl
          refine take_one 6 hS rfl (by kernel_rfl) rfl ?_
          apply Exists.intro
          refine And.intro (fun W' hS' => ?y6) (And.intro (fun _ _ _ h => h) ?_)
          case y6 => obtain ⟨y0, y1, y2, y3, y4⟩ := hS'; go_simp; rfl
          refine take_one 7 hS rfl (by kernel_rfl) rfl ?_
          apply Exists.intro
          refine And.intro (fun W' hS' => ?y7) (And.intro (fun _ _ _ h => h) ?_)
          case y7 => obtain ⟨y0, y1, y2, y3, y4⟩ := hS'; go_simp; rfl
          try go_simp
          try go_simp
          refine take_one 8 hS rfl (by kernel_rfl) (by kernel_rfl) ?_
          apply Exists.intro
          refine And.intro (fun W' hS' => ?y8) (And.intro (fun _ _ _ h => h) ?_)
          case y8 => obtain ⟨y0, y1, y2, y3, y4⟩ := hS'; go_simp; rfl
          refine take_one 9 hS rfl (by kernel_rfl) (by kernel_rfl) ?_
          apply Exists.intro
          refine And.intro (fun W' hS' => ?y9) (And.intro (fun _ _ _ h => h) ?_)
          case y9 => obtain ⟨y0, y1, y2, y3, y4⟩ := hS'; go_simp; rfl
          refine take_one 10 hS rfl (by kernel_rfl) (by kernel_rfl) ?_
          apply Exists.intro
          refine And.intro (fun W' hS' => ?y10) (And.intro (fun _ _ _ h => h) ?_)
          case y10 => obtain ⟨y0, y1, y2, y3, y4⟩ := hS'; go_simp; rfl
          refine take_one 11 hS rfl (by kernel_rfl) (by kernel_rfl) ?_
          apply Exists.intro
          refine And.intro (fun W' hS' => ?y11) (And.intro (fun _ _ _ h => h) ?_)
          case y11 => obtain ⟨y0, y1, y2, y3, y4⟩ := hS'; go_simp; rfl
          refine take_one 12 hS rfl (by kernel_rfl) (by kernel_rfl) ?_
          apply Exists.intro
          refine And.intro (fun W' hS' => ?y12) (And.intro (fun _ _ _ h => h) ?_)
          case y12 => obtain ⟨y0, y1, y2, y3, y4⟩ := hS'; go_simp; rfl
          refine take_one 13 hS rfl (by kernel_rfl) (by kernel_rfl) ?_
          apply Exists.intro
          refine And.intro (fun W' hS' => ?y13) (And.intro (fun _ _ _ h => h) ?_)
          case y13 => obtain ⟨y0, y1, y2, y3, y4⟩ := hS'; go_simp; rfl
          refine take_one 14 hS rfl (by kernel_rfl) (by kernel_rfl) ?_
          apply Exists.intro
          refine And.intro (fun W' hS' => ?y14) (And.intro (fun _ _ _ h => h) ?_)
          case y14 => obtain ⟨y0, y1, y2, y3, y4⟩ := hS'; go_simp; rfl
          refine take_one 15 hS rfl (by kernel_rfl) (by kernel_rfl) ?_
          apply Exists.intro
          refine And.intro (fun W' hS' => ?y15) (And.intro (fun _ _ _ h => h) ?_)
          case y15 => obtain ⟨y0, y1, y2, y3, y4⟩ := hS'; go_simp; rfl
          try go_simp
          refine take_one 16 hS rfl (by kernel_rfl) (by kernel_rfl) ?_
          apply Exists.intro
          refine And.intro (fun W' hS' => ?y16) (And.intro (fun _ _ _ h => h) ?_)
          case y16 => obtain ⟨y0, y1, y2, y3, y4⟩ := hS'; go_simp; rfl
          refine take_one 17 hS rfl (by kernel_rfl) (by kernel_rfl) ?_
          apply Exists.intro
          refine And.intro (fun W' hS' => ?y17) (And.intro (fun _ _ _ h => h) ?_)
          case y17 => obtain ⟨y0, y1, y2, y3, y4⟩ := hS'; go_simp; rfl
          refine only_one 18 rfl (by kernel_rfl) (by kernel_rfl) ?_
          try go_simp
          refine (before_some _ e.1 e.2.1 f.1 f.2.1).mono ?_
          rintro e18 w18 ⟨rfl, hC⟩
          have hC18 := ((Chg.refl (fun _ => False) wr).drew).trans hC
          have hS18 : (fun (W' : World) => W'.cell? ⟨b, 3, none⟩ = some (.slice (some ⟨g, 0, none⟩) L.length cap) ∧ W'.cell? ⟨g, k * 5, none⟩ = some (.int .i64 e.1) ∧ W'.cell? ⟨g, k * 5 + 1, none⟩ = some (.int .i64 e.2.1) ∧ W'.cell? ⟨w.heap.size, 0, none⟩ = some (.int .i64 f.1) ∧ W'.cell? ⟨w.heap.size, 1, none⟩ = some (.int .i64 f.2.1)) w18 := ⟨hC18.cell hrow (fun x => x), hC18.cell e0 (fun x => x), hC18.cell e1 (fun x => x), hC18.cell hf0 (fun x => x), hC18.cell hf3 (fun x => x)⟩
          refine ⟨hS18, ?_⟩
          refine take_one 19 hS18 rfl (by kernel_rfl) rfl ?_
          apply Exists.intro
          refine And.intro (fun W' hS' => ?y19) (And.intro (fun _ _ _ h => h) ?_)
          case y19 => obtain ⟨y0, y1, y2, y3, y4⟩ := hS'; go_simp; rfl
          try go_simp
          refine all_done (by kernel_rfl) ?_ _
          go_wp2_with fail
          go_meet
          exact ⟨rfl, hC18⟩
        case rest =>
          obtain ⟨rfl, hC2⟩ := hcut
          clear hS
          have hrow := hC2.cell hrow (fun x => x)
          have e0 := hC2.cell e0 (fun x => x)
          have e1 := hC2.cell e1 (fun x => x)
          have e2 := hC2.cell e2 (fun x => x)
          have e3 := hC2.cell e3 (fun x => x)
          have e4 := hC2.cell e4 (fun x => x)
          have hR2 : wc.ownsRow (w.heap.size + 1) 77 5 u4 k (flatE (L.take k)) := own_keep HR.out fun k c t f _ hk => hC2.keep hk (fun x => x)
          have hF2 := hC2.keep hF (fun x => x)
          have hC3 := hC.trans hC2
          clear hf0 hf3 hF hC hC2
          by_cases hbf : bef e f = true
          · have hw3 : IntKind.i64.wrap ((k : Int) + 1) = k + 1 := IntWalk.i64_in _ ⟨by omega, by omega⟩
            have HBF := Lib.hid hbf
            rw [hbf]
            clear hbf
            have hsz := hC3.size
            go_wp2_with (at_builtin; refine wpList_append_own_at _ rfl _ _ 35 rfl (w.heap.size + 1) 77 i0 zeroFE 5 40 Try.underlying35 hi hz0 hz1 hz2 rfl (by decide) _ _ _ rfl (hR2.alloc _) ⟨wc.heap.size, 0, none⟩ 1 1 (entC e) rfl rfl ?c1 ?c2 ?c3 ?c4 ?c5 ?_)
            case c1 => exact entC_new wc e _
            case c2 => exact entC_one
            case c3 => unfold maxLen; omega
            case c4 => omega
            case c5 => simp; omega
            intro v' w1 hown' hgr _ _
            have hC4 : Chg (fun _ => False) w w1 := (hC3.alloc _).grown hgr (fun k hk => .inr (by have := own_block hR2 hk; omega))
            have hF4 : w1.heap[w.heap.size]? = some (.cells #[.int .i64 f.1, .int .i64 f.2.1, .int .i64 f.2.2.1, .int .i64 f.2.2.2.1, .int .i64 f.2.2.2.2] 77 (0, 0)) := grown_keep hgr (heap_alloc hF2) (fun hk => by have := own_block hR2 hk; omega)
            have hT : flatE (L.take k) ++ entC e = flatE (L.take (k + 1)) := by
              rw [List.take_add_one, he, flatE_append]
              simp [flatE]
            rw [hT] at hown'
            go_wp2_with fail
            go_roundw
            case rel => exact ⟨k + 1, by go_num, by omega, hC4, hF4, hown', fun j x hj hx => by
              by_cases c : j = k
              · subst c
                rw [he] at hx
                cases hx
                exact HBF.out
              · exact HALL.out j x (by omega) hx⟩
            case measure => simp [intOf]; omega
          · have hbf' : bef e f = false := by simpa using hbf
            rw [hbf']
            go_wp2_with fail
            go_meet
            exact ⟨k, rfl, k0, hC3, hF2, hR2, HALL.out, fun x hx => by rw [he] at hx; cases hx; exact hbf'⟩
      · have hS : (fun (W' : World) => W'.cell? ⟨b, 3, none⟩ = some (.slice A L.length cap)) wr.drew := hrow
        go_upto_region 3 with fail
        go_cut [25] from 6 to 24 (fun c W => c = .bool false ∧ Chg (fun _ => False) wr W)
        case first =>
          refine region_lone (fun (W' : World) => W'.cell? ⟨b, 3, none⟩ = some (.slice A L.length cap)) [] (by kernel_rfl) ?_
          refine take_one 0 hS rfl (by kernel_rfl) rfl ?_
          apply Exists.intro
          refine And.intro (fun W' hS' => ?n0) (And.intro (fun _ _ _ h => h) ?_)
          case n0 => have y0 := hS'; go_simp; rfl
          refine take_one 1 hS rfl (by kernel_rfl) rfl ?_
          apply Exists.intro
          refine And.intro (fun W' hS' => ?n1) (And.intro (fun _ _ _ h => h) ?_)
          case n1 => have y0 := hS'; go_simp; rfl
          refine take_one 2 hS rfl (by kernel_rfl) rfl ?_
          apply Exists.intro
          refine And.intro (fun W' hS' => ?n2) (And.intro (fun _ _ _ h => h) ?_)
          case n2 => have y0 := hS'; go_simp; rfl
          refine take_one 3 hS rfl (by kernel_rfl) rfl ?_
          apply Exists.intro
          refine And.intro (fun W' hS' => ?n3) (And.intro (fun _ _ _ h => h) ?_)
          case n3 => have y0 := hS'; go_simp; rfl
          refine take_one 4 hS rfl (by kernel_rfl) rfl ?_
          apply Exists.intro
          refine And.intro (fun W' hS' => ?n4) (And.intro (fun _ _ _ h => h) ?_)
          case n4 => have y0 := hS'; go_simp; rfl
          refine take_one 5 hS rfl (by kernel_rfl) rfl ?_
          apply Exists.intro
          refine And.intro (fun W' hS' => ?n5) (And.intro (fun _ _ _ h => h) ?_)
          case n5 => have y0 := hS'; go_simp; rfl
          refine take_one 6 hS rfl (by kernel_rfl) rfl ?_
          apply Exists.intro
          refine And.intro (fun W' hS' => ?n6) (And.intro (fun _ _ _ h => h) ?_)
          case n6 => have y0 := hS'; go_simp; rfl
          refine take_one 7 hS rfl (by kernel_rfl) rfl ?_
          apply Exists.intro
          refine And.intro (fun W' hS' => ?n7) (And.intro (fun _ _ _ h => h) ?_)
          case n7 => have y0 := hS'; go_simp; rfl
          try go_simp
          try go_simp
          refine skip_one 8 hS rfl (by kernel_rfl) (by kernel_rfl) (fun _ _ _ h => h) ?_
          refine skip_one 9 hS rfl (by kernel_rfl) (by kernel_rfl) (fun _ _ _ h => h) ?_
          refine skip_one 10 hS rfl (by kernel_rfl) (by kernel_rfl) (fun _ _ _ h => h) ?_
          refine skip_one 11 hS rfl (by kernel_rfl) (by kernel_rfl) (fun _ _ _ h => h) ?_
          refine skip_one 12 hS rfl (by kernel_rfl) (by kernel_rfl) (fun _ _ _ h => h) ?_
          refine skip_one 13 hS rfl (by kernel_rfl) (by kernel_rfl) (fun _ _ _ h => h) ?_
          refine skip_one 14 hS rfl (by kernel_rfl) (by kernel_rfl) (fun _ _ _ h => h) ?_
          refine skip_one 15 hS rfl (by kernel_rfl) (by kernel_rfl) (fun _ _ _ h => h) ?_
          try go_simp
          refine skip_one 16 hS rfl (by kernel_rfl) (by kernel_rfl) (fun _ _ _ h => h) ?_
          refine skip_one 17 hS rfl (by kernel_rfl) (by kernel_rfl) (fun _ _ _ h => h) ?_
          refine skip_one 18 hS rfl (by kernel_rfl) (by kernel_rfl) (fun _ _ _ h => h) ?_
          refine take_one 19 hS rfl (by kernel_rfl) rfl ?_
          apply Exists.intro
          refine And.intro (fun W' hS' => ?n19) (And.intro (fun _ _ _ h => h) ?_)
          case n19 => have y0 := hS'; go_simp; rfl
          try go_simp
          refine all_done (by kernel_rfl) ?_ _
          go_wp2_with fail
          go_meet
          exact ⟨rfl, (Chg.refl _ _).drew⟩
        case rest =>
          obtain ⟨rfl, hC2⟩ := hcut
          go_wp2_with fail
          go_meet
          exact ⟨k, rfl, k0, hC.trans hC2, hC2.keep hF (fun x => x), own_keep HR.out fun k c t f _ hk => hC2.keep hk (fun x => x), HALL.out, fun x hx => by
            have := (List.getElem?_eq_some_iff.1 hx).1
            omega⟩
  case rest =>
    obtain ⟨k, rfl, k0, hC, hF, hR, hlt, hge⟩ := hcut
    clear hG hfb
    have hF0 := hF
    go_upto_region 6 with fail
    have c0 := cell_of_heap hF 0
    have c1 := cell_of_heap hF 1
    have c2 := cell_of_heap hF 2
    have c3 := cell_of_heap hF 3
    have c4 := cell_of_heap hF 4
    simp only [List.getElem?_toArray, List.getElem?_cons_zero, List.getElem?_cons_succ] at c0 c1 c2 c3 c4
    generalize wc = wo at *
    obtain ⟨fs, hfs⟩ : ∃ x, f.2.2.1 = x := ⟨_, rfl⟩
    obtain ⟨fm, hfm⟩ : ∃ x, f.2.2.2.1 = x := ⟨_, rfl⟩
    have d2 : wo.cell? ⟨w.heap.size, 2, none⟩ = some (.int .i64 fs) := by rw [← hfs]; exact c2
    have d3 : wo.cell? ⟨w.heap.size, 3, none⟩ = some (.int .i64 fm) := by rw [← hfm]; exact c3
    have HNZ : Hid (nzE f = (decide (fs ≠ 0) || decide (fm ≠ 0))) := Lib.hid (by unfold nzE; rw [hfs, hfm])
    have C2 := Lib.hid c2
    have C3 := Lib.hid c3
    clear c2 c3 hfs hfm
    go_cut [45] from 38 to 44 (fun c W => c = .bool (nzE f) ∧ W = wo)
    case first =>
      by_cases z0 : fs = 0
      · subst z0
        by_cases z1 : fm = 0
        · subst z1
          go_wp2_with fail
          go_meet
          exact ⟨by rw [HNZ.out]; rfl, rfl⟩
        · have z1' : (fm == 0) = false := by simpa using z1
          go_wp2_with fail
          go_meet
          exact ⟨by rw [HNZ.out]; simp [z1], rfl⟩
      · have z0' : (fs == 0) = false := by simpa using z0
        go_wp2_with fail
        go_meet
        exact ⟨by rw [HNZ.out]; simp [z0], rfl⟩
    case rest =>
    obtain ⟨rfl, rfl⟩ := hcut
    have c2 := C2.out
    have c3 := C3.out
    clear d2 d3 HNZ C2 C3
    go_upto_if 45 with fail
    go_cut [4] from 45 to 49 (fun a W => Chg (fun _ => False) w W ∧ W.heap[w.heap.size]? = some (.cells #[.int .i64 f.1, .int .i64 f.2.1, .int .i64 f.2.2.1, .int .i64 f.2.2.2.1, .int .i64 f.2.2.2.2] 77 (0, 0)) ∧
      W.ownsRow (w.heap.size + 1) 77 5 a (L.take k ++ nzl f).length (flatE (L.take k ++ nzl f)))
    case first =>
      have hlk : (L.take k).length = k := by rw [List.length_take]; omega
      have hsz := hC.size
      by_cases z : nzE f = true
      · have hn : nzl f = [f] := by unfold nzl; rw [if_pos z]
        have hT : flatE (L.take k) ++ entC f = flatE (L.take k ++ nzl f) := by rw [hn, flatE_append, flatE_one]
        have hl2 : k + 1 = (L.take k ++ nzl f).length := by rw [hn, List.length_append, hlk]; rfl
        have HT := Lib.hid hT
        have HL2 := Lib.hid hl2
        rw [z]
        clear hn hT hl2 hlk z
        go_wp2_with (at_builtin; refine wpList_append_own_at _ rfl _ _ 35 rfl (w.heap.size + 1) 77 i0 zeroFE 5 40 Try.underlying35 hi hz0 hz1 hz2 rfl (by decide) _ _ _ rfl (hR.alloc _) ⟨wc.heap.size, 0, none⟩ 1 1 (entC f) rfl rfl ?c1 ?c2 ?c3 ?c4 ?c5 ?_)
        case c1 => exact entC_new wc f _
        case c2 => exact entC_one
        case c3 => unfold maxLen; omega
        case c4 => omega
        case c5 => simp; omega
        intro v' w1 hown' hgr _ _
        have hC4 : Chg (fun _ => False) w w1 := (hC.alloc _).grown hgr (fun q hq => .inr (by have := own_block hR hq; omega))
        have hF4 : w1.heap[w.heap.size]? = some (.cells #[.int .i64 f.1, .int .i64 f.2.1, .int .i64 f.2.2.1, .int .i64 f.2.2.2.1, .int .i64 f.2.2.2.2] 77 (0, 0)) := grown_keep hgr (heap_alloc hF0) (fun hq => by have := own_block hR hq; omega)
        rw [HT.out, HL2.out] at hown'
        go_wp2_with fail
        go_meet
        exact ⟨hC4, hF4, hown'⟩
      · have z' : nzE f = false := by simpa using z
        have hn : nzl f = [] := by unfold nzl; rw [if_neg z]
        have HN := Lib.hid hn
        rw [z']
        clear z z' hn
        go_wp2_with fail
        go_meet
        refine ⟨hC, hF, ?_⟩
        rw [HN.out, List.append_nil, hlk]
        exact hR
    case rest =>
      obtain ⟨hC2, hF2, hR2⟩ := hcut
      clear hR hF hF0 hC c0 c1 c2 c3 c4
      obtain ⟨A, cap, hrow, hcap, hA1, hA2, hent⟩ := (H.out.same hC2).rowsC
      go_upto_region 8 with fail
      generalize wc = wo at *
      go_cut [69] from 50 to 68 (fun c W => c = .bool (match L[k]? with | some e => sameK e f | none => false) ∧ ∃ j, W = wo.drewN j)
      case first =>
        have f0 := cell_of_heap hF2 0
        have f1 := cell_of_heap hF2 1
        simp only [List.getElem?_toArray, List.getElem?_cons_zero, List.getElem?_cons_succ] at f0 f1
        by_cases hkl : k < L.length
        · obtain ⟨e, he⟩ : ∃ e, L[k]? = some e := ⟨_, List.getElem?_eq_getElem hkl⟩
          obtain ⟨g, rfl, hce⟩ := hent k e he
          have e0 : wo.cell? ⟨g, k * 5, none⟩ = some (.int .i64 e.1) := hce 0 _ rfl
          have e1 := hce 1 _ rfl
          have hie := HI.out e (List.mem_of_getElem? he)
          have HE := Lib.hid he
          clear hce hent he
          by_cases hs : e.1 = f.1 ∧ e.2.1 = f.2.1
          · have hq : ∀ W, (binOp .eql 32 (.agg #[.int .i64 e.1, .int .i64 e.2.1]) (.agg #[.int .i64 f.1, .int .i64 f.2.1])).run Try.prog W = .ok (.bool true) W := fun W => by rw [hs.1, hs.2]; exact eq_yes hf1 hf2 W
            have HM := Lib.hid (same_iff.2 hs)
            clear hs
            go_quiet (fail)
            go_wp2_with fail
            go_meet
            exact ⟨by rw [HE.out]; simp only [HM.out], _, rfl⟩
          · have hq : ∀ W, (binOp .eql 32 (.agg #[.int .i64 e.1, .int .i64 e.2.1]) (.agg #[.int .i64 f.1, .int .i64 f.2.1])).run Try.prog W = .ok (.bool false) W := fun W => eq_no hie.1 hie.2 hf1 hf2 hs W
            have hm : sameK e f = false := by
              cases h : sameK e f
              · rfl
              · exact absurd (same_iff.1 h) hs
            have HM := Lib.hid hm
            clear hm
            clear hs
            go_quiet (fail)
            go_wp2_with fail
            go_meet
            exact ⟨by rw [HE.out]; simp only [HM.out], _, rfl⟩
        · have he : L[k]? = none := List.getElem?_eq_none (by omega)
          have HE := Lib.hid he
          clear hent he
          go_quiet (fail)
          go_wp2_with fail
          go_meet
          exact ⟨by rw [HE.out], _, rfl⟩
      case rest =>
      obtain ⟨rfl, jj, rfl⟩ := hcut
      go_upto_if 69 with fail
      have hC3 := hC2.drewN jj
      have hR3 : (wo.drewN jj).ownsRow (w.heap.size + 1) 77 5 u4 (L.take k ++ nzl f).length (flatE (L.take k ++ nzl f)) := hR2
      have hrow3 : (wo.drewN jj).cell? ⟨b, 3, none⟩ = some (.slice A L.length cap) := hrow
      have hent3 : ∀ k e, L[k]? = some e → ∃ g, A = some ⟨g, 0, none⟩ ∧ ∀ j v, (entC e)[j]? = some v → (wo.drewN jj).cell? ⟨g, k * 5 + j, none⟩ = some v := hent
      have hszF : w.heap.size < (wo.drewN jj).heap.size := lt_of_heap hF2
      clear hC2 hR2 hrow hent hF2
      generalize wo.drewN jj = w3 at *
      go_cut [5] from 69 to 71 (fun c W => c = .int .i64 ((match L[k]? with | some e => if sameK e f = true then k + 1 else k | none => k : Nat) : Int) ∧ W = w3)
      case first =>
        cases he : L[k]? with
        | none =>
          have HE := Lib.hid he
          clear he
          go_wp2_with fail
          go_meet
          exact ⟨by rw [HE.out], rfl⟩
        | some e =>
          have HE := Lib.hid he
          have hkl := (List.getElem?_eq_some_iff.1 he).1
          have hw3 : IntKind.i64.wrap ((k : Int) + 1) = k + 1 := IntWalk.i64_in _ ⟨by omega, by omega⟩
          clear he
          cases hs : sameK e f
          · have HM := Lib.hid hs
            simp only [hs]
            clear hs
            go_wp2_with fail
            go_meet
            exact ⟨by rw [HE.out]; simp only [HM.out]; rfl, rfl⟩
          · have HM := Lib.hid hs
            simp only [hs]
            clear hs
            go_wp2_with fail
            go_meet
            exact ⟨by rw [HE.out]; simp only [HM.out]; rfl, rfl⟩
      case rest =>
        obtain ⟨rfl, rfl⟩ := hcut
        obtain ⟨i2, hi2, hi2e, hM⟩ : ∃ i2 : Nat, i2 ≤ L.length ∧ (match L[k]? with | some e => if sameK e f = true then k + 1 else k | none => k : Nat) = i2 ∧ (L.take k ++ nzl f) ++ L.drop i2 = refset L f := by
          refine ⟨_, ?_, rfl, (refset_split f L k hlt hge k0).symm⟩
          cases he : L[k]? with
          | none => simp; omega
          | some e =>
            have := (List.getElem?_eq_some_iff.1 he).1
            simp only
            split <;> omega
        rw [hi2e]
        have hld : (flatE (L.drop i2)).length = (L.length - i2) * 5 := by rw [flatE_len, List.length_drop]
        have hM' : flatE (L.take k ++ nzl f) ++ flatE (L.drop i2) = flatE (refset L f) := by rw [← hM]; simp only [flatE_append]
        have hlen' : (L.take k ++ nzl f).length + (L.length - i2) = (refset L f).length := by rw [← hM]; simp only [List.length_append, List.length_drop]
        have hsm : (L.take k ++ nzl f).length ≤ L.length + 1 := by
          rw [List.length_append, List.length_take]
          have : (nzl f).length ≤ 1 := by unfold nzl; split <;> simp
          omega
        have hsz := hC3.size
        obtain ⟨vb, hbh0, _⟩ := H.out
        have hbh := hC3.keep hbh0 (fun x => x)
        have fin : ∀ (W : World) (v' : Value), W.heap[b]? = some (.cells #[.int .i64 mo, .int .i64 re, .int .i64 no, vb] 37 (0, 0)) → W.ownsRow (w.heap.size + 1) 77 5 v' (refset L f).length (flatE (refset L f)) → RowsAt (W.setCell ⟨b, 3, none⟩ v') b base mo re no (refset L f) := fun W v' h1 h2 => by
          refine ⟨v', ?_, ?_⟩
          · rw [heap_setCell_cells h1]
            rfl
          · exact own_mono (own_keep h2 fun q c t f' hq hk => heap_setCell hk (by simp; omega) _) (by omega)
        have HLD := Lib.hid hld
        have HENT := Lib.hid hent3
        clear hlt hge hi2e hM hld hent3 hbh0
        by_cases hA : A = none
        · obtain rfl := hA1 hA
          subst hA
          obtain rfl : i2 = 0 := by simpa using hi2
          have hw0 : (flatE (List.drop 0 ([] : List FE))) = [] := rfl
          have hcap0 : cap = 0 := by
            obtain ⟨v1, hb1, hr1⟩ := H.out
            have := hC3.cell (cell_of_heap hb1 3) (fun x => x)
            rw [hrow3] at this
            simp at this
            subst this
            rcases hr1.2 with ⟨e1, _⟩ | ⟨g, cap', cur, e1, _⟩
            · cases e1; rfl
            · cases e1
          subst hcap0
          have hcb := cell_of_heap hbh 3
          have hfb := free_of_heap hbh 3
          simp only [List.getElem?_toArray, List.getElem?_cons_zero, List.getElem?_cons_succ] at hcb
          obtain ⟨va, vl, vc, rfl⟩ := own_slice hR3
          have HR3 := Lib.hid hR3
          have HBH := Lib.hid hbh
          have HML := Lib.hid (And.intro hM' hlen')
          clear hR3 hbh hM' hlen' hA1 hA2
          go_wp2_with (first
            | (at_builtin; refine wpList_append_own_none rfl _ _ 35 rfl (w.heap.size + 1) 77 i0 5 Try.underlying35 hi _ _ _ rfl HR3.out rfl ?_))
          go_end0
          refine ⟨rfl, fin _ _ HBH.out ?_, Chg.setCell (S := fun i => i = b) (hC3.mono (fun _ _ x => x.elim)) (p := ⟨b, 3, none⟩) (.inl rfl) _⟩
          have h1 := HML.out.1
          have h2 := HML.out.2
          have h3 := HR3.out
          rw [hw0, List.append_nil] at h1
          simp only [List.length_nil, Nat.sub_zero, Nat.add_zero] at h2
          rw [h1, h2] at h3
          exact h3
        · obtain ⟨x, hx⟩ : ∃ x, A = some x := Option.ne_none_iff_exists'.1 hA
          obtain ⟨g, rfl⟩ := hA2 x hx
          subst hx
          clear hA1 hA2 hA
          by_cases hlt2 : i2 < L.length
          · have hne : ¬ cap = i2 := by omega
            go_wp2_with (first
              | (at_builtin; refine wpList_append_own_at _ rfl _ _ 35 rfl (w.heap.size + 1) 77 i0 zeroFE 5 40 Try.underlying35 hi hz0 hz1 hz2 rfl (by decide) _ _ _ rfl hR3 ⟨g, i2 * 5, none⟩ (L.length - i2) (cap - i2) (flatE (L.drop i2)) rfl HLD.out ?c1 ?c2 ?c3 ?c4 ?c5 ?_))
            case c1 =>
              intro j u hj
              have hjl : j < (L.length - i2) * 5 := by
                have := (List.getElem?_eq_some_iff.1 hj).1
                rw [HLD.out] at this
                exact this
              have hq : L[i2 + j / 5]? = some (L[i2 + j / 5]'(by omega)) := List.getElem?_eq_getElem (by omega)
              have hqd : (L.drop i2)[j / 5]? = some (L[i2 + j / 5]'(by omega)) := by rw [List.getElem?_drop]; exact hq
              obtain ⟨g', hg', hc⟩ := HENT.out _ _ hq
              cases hg'
              have h5 : j % 5 < 5 := Nat.mod_lt _ (by omega)
              have he5 : ∃ v, (entC (L[i2 + j / 5]'(by omega)))[j % 5]? = some v := ⟨_, List.getElem?_eq_getElem h5⟩
              obtain ⟨v, hv⟩ := he5
              have h6 := flatE_get hqd hv
              rw [show j / 5 * 5 + j % 5 = j by omega, hj] at h6
              cases h6
              have h7 := hc _ _ hv
              rw [WideShapes.add_plain]
              rw [show (i2 + j / 5) * 5 + j % 5 = i2 * 5 + j by omega] at h7
              exact h7
            case c2 => exact flatE_one'
            case c3 => unfold maxLen; omega
            case c4 => omega
            case c5 => omega
            intro v' w1 hown' hgr _ _
            obtain ⟨va, vl, vc, rfl⟩ := own_slice hown'
            have hb1 := grown_keep hgr hbh (fun hq => by have := own_block hR3 hq; omega)
            have hcb := cell_of_heap hb1 3
            have hfb := free_of_heap hb1 3
            simp only [List.getElem?_toArray, List.getElem?_cons_zero, List.getElem?_cons_succ] at hcb
            have hCw : Chg (fun i => i = b) w w1 := (hC3.mono (fun _ _ x => x.elim)).grown hgr (fun q hq => .inr (by have := own_block hR3 hq; omega))
            have HOWN := Lib.hid hown'
            have HB1 := Lib.hid hb1
            have HML := Lib.hid (And.intro hM' hlen')
            clear hown' hb1 hgr hR3 hM' hlen'
            go_wp2_with fail
            go_end0
            exact ⟨rfl, fin w1 _ HB1.out (own_cast HOWN.out (by have e := HML.out.2; simp only [List.length_append, List.length_take] at e ⊢; omega) (by first | rfl | exact HML.out.1)), hCw.setCell (.inl rfl) _⟩
          · have hze : L.length - i2 = 0 := by omega
            have HZE := Lib.hid hze
            clear hze
            by_cases hce : cap = i2
            · have HLD0 : Hid ((flatE (L.drop i2)).length = 0 * 5) := Lib.hid (by rw [HLD.out, HZE.out])
              subst hce
              go_wp2_with (first
                | (at_builtin; refine wpList_append_own_at _ rfl _ _ 35 rfl (w.heap.size + 1) 77 i0 zeroFE 5 40 Try.underlying35 hi hz0 hz1 hz2 rfl (by decide) _ _ _ rfl hR3 ⟨g, 0, none⟩ 0 0 (flatE (L.drop cap)) rfl HLD0.out ?c1 ?c2 ?c3 ?c4 ?c5 ?_))
              case c1 =>
                intro j u hj
                have := (List.getElem?_eq_some_iff.1 hj).1
                rw [HLD.out, HZE.out] at this
                omega
              case c2 => exact flatE_one'
              case c3 => unfold maxLen; omega
              case c4 => omega
              case c5 => omega
              intro v' w1 hown' hgr _ _
              obtain ⟨va, vl, vc, rfl⟩ := own_slice hown'
              have hb1 := grown_keep hgr hbh (fun hq => by have := own_block hR3 hq; omega)
              have hcb := cell_of_heap hb1 3
              have hfb := free_of_heap hb1 3
              simp only [List.getElem?_toArray, List.getElem?_cons_zero, List.getElem?_cons_succ] at hcb
              have hCw : Chg (fun i => i = b) w w1 := (hC3.mono (fun _ _ x => x.elim)).grown hgr (fun q hq => .inr (by have := own_block hR3 hq; omega))
              have HOWN := Lib.hid hown'
              have HB1 := Lib.hid hb1
              have HML := Lib.hid (And.intro hM' hlen')
              clear hown' hb1 hgr hR3 hM' hlen'
              go_wp2_with fail
              go_end0
              exact ⟨rfl, fin w1 _ HB1.out (own_cast HOWN.out (by have e := HML.out.2; simp only [List.length_append, List.length_take] at e ⊢; omega) (by first | rfl | exact HML.out.1)), hCw.setCell (.inl rfl) _⟩
            · have hne : ¬ cap = i2 := hce
              go_wp2_with (first
                | (at_builtin; refine wpList_append_own_at _ rfl _ _ 35 rfl (w.heap.size + 1) 77 i0 zeroFE 5 40 Try.underlying35 hi hz0 hz1 hz2 rfl (by decide) _ _ _ rfl hR3 ⟨g, i2 * 5, none⟩ (L.length - i2) (cap - i2) (flatE (L.drop i2)) rfl HLD.out ?c1 ?c2 ?c3 ?c4 ?c5 ?_))
              case c1 =>
                intro j u hj
                have := (List.getElem?_eq_some_iff.1 hj).1
                rw [HLD.out, HZE.out] at this
                omega
              case c2 => exact flatE_one'
              case c3 => unfold maxLen; omega
              case c4 => omega
              case c5 => omega
              intro v' w1 hown' hgr _ _
              obtain ⟨va, vl, vc, rfl⟩ := own_slice hown'
              have hb1 := grown_keep hgr hbh (fun hq => by have := own_block hR3 hq; omega)
              have hcb := cell_of_heap hb1 3
              have hfb := free_of_heap hb1 3
              simp only [List.getElem?_toArray, List.getElem?_cons_zero, List.getElem?_cons_succ] at hcb
              have hCw : Chg (fun i => i = b) w w1 := (hC3.mono (fun _ _ x => x.elim)).grown hgr (fun q hq => .inr (by have := own_block hR3 hq; omega))
              have HOWN := Lib.hid hown'
              have HB1 := Lib.hid hb1
              have HML := Lib.hid (And.intro hM' hlen')
              clear hown' hb1 hgr hR3 hM' hlen'
              go_wp2_with fail
              go_end0
              exact ⟨rfl, fin w1 _ HB1.out (own_cast HOWN.out (by have e := HML.out.2; simp only [List.length_append, List.length_take] at e ⊢; omega) (by first | rfl | exact HML.out.1)), hCw.setCell (.inl rfl) _⟩
end Go.Proofs.Ytbihefbjojlncaa
