/- The document's box: at, State. -/
import Derived.Test.YtbihefbjojlncaaFrBox
namespace Go.Proofs.Ytbihefbjojlncaa
set_option linter.unusedVariables false
set_option linter.unusedSimpArgs false
open Go Go.RowKit
theorem eq_yes {a b : Int} (ha : I64 a) (hb : I64 b) (W : World) : (binOp .eql 32 (.agg #[.int .i64 a, .int .i64 b]) (.agg #[.int .i64 a, .int .i64 b])).run Try.prog W = .ok (.bool true) W := by
  obtain ⟨r, hr, hi⟩ := eq_spot ha hb ha hb W
  rw [hr, hi.2 ⟨rfl, rfl⟩]
theorem eq_no {a b c d : Int} (ha : I64 a) (hb : I64 b) (hc : I64 c) (hd : I64 d) (h : ¬ (a = c ∧ b = d)) (W : World) : (binOp .eql 32 (.agg #[.int .i64 a, .int .i64 b]) (.agg #[.int .i64 c, .int .i64 d])).run Try.prog W = .ok (.bool false) W := by
  obtain ⟨r, hr, hi⟩ := eq_spot ha hb hc hd W
  rw [hr]
  cases r
  · rfl
  · exact absurd (hi.1 rfl) h
theorem five_set {W : World} {B : Nat} {c0 c1 c2 c3 c4 : Value} {t : TypeId} (h : W.heap[B]? = some (.cells #[c0, c1, c2, c3, c4] t (0, 0))) (x0 x1 x2 x3 x4 : Value) :
    (((((W.setCell ⟨B, 0, none⟩ x0).setCell ⟨B, 1, none⟩ x1).setCell ⟨B, 2, none⟩ x2).setCell ⟨B, 3, none⟩ x3).setCell ⟨B, 4, none⟩ x4).heap[B]? = some (.cells #[x0, x1, x2, x3, x4] t (0, 0)) := by
  have := heap_setCell_cells (heap_setCell_cells (heap_setCell_cells (heap_setCell_cells (heap_setCell_cells h 0 x0) 1 x1) 2 x2) 3 x3) 4 x4
  simpa using this
theorem five_chg {w W : World} {B : Nat} (h : Chg (fun _ => False) w W) (hB : w.heap.size ≤ B) (x0 x1 x2 x3 x4 : Value) :
    Chg (fun _ => False) w (((((W.setCell ⟨B, 0, none⟩ x0).setCell ⟨B, 1, none⟩ x1).setCell ⟨B, 2, none⟩ x2).setCell ⟨B, 3, none⟩ x3).setCell ⟨B, 4, none⟩ x4) :=
  ((((h.setCell (.inr hB) _).setCell (.inr hB) _).setCell (.inr hB) _).setCell (.inr hB) _).setCell (.inr hB) _
set_option maxRecDepth 100000 in
set_option maxHeartbeats 8000000 in
theorem refat_some (w : World) (b base : Nat) (S : FS) (L : List FE) (d l : Int) (h : RefAt w b base S L) (hd : I64 d) (hl : I64 l) :
    Calls Try.prog 28 #[.pointer (some ⟨b, 0, none⟩), .agg #[.int .i64 d, .int .i64 l]] w fun e w' => e = .returned (entV (entS S d l)) ∧ Chg (fun _ => False) w w' := by
  have hG := ((Chg.refl (fun _ => False) w).alloc (.cells #[.int .i64 d, .int .i64 l] 32)).alloc (.cells #[.int .i64 0, .int .i64 0, .int .i64 0, .int .i64 0, .int .i64 0] 77)
  have hh := heap_alloc (o' := .cells #[.int .i64 0, .int .i64 0, .int .i64 0, .int .i64 0, .int .i64 0] 77) (heap_new w (.cells #[.int .i64 d, .int .i64 l] 32))
  have hk0 := heap_new1 w (.cells #[.int .i64 d, .int .i64 l] 32) (.cells #[.int .i64 0, .int .i64 0, .int .i64 0, .int .i64 0, .int .i64 0] 77)
  have hfew := h.few
  have H := Lib.hid h
  have hlt := h.lt
  clear h
  go_enter Try.func28, Try.ntmps28
  go_upto_block 0 with fail
  generalize (w.alloc (.cells #[.int .i64 d, .int .i64 l] 32)).alloc (.cells #[.int .i64 0, .int .i64 0, .int .i64 0, .int .i64 0, .int .i64 0] 77) = W0 at *
  go_wp2_with fail
  go_loopw [5] (fun a wr => ∃ k : Nat, a = .int .i64 k ∧ k ≤ L.length ∧ Chg (fun _ => False) w wr ∧ wr.heap[w.heap.size]? = some (.cells #[.int .i64 d, .int .i64 l] 32 (0, 0)) ∧ wr.heap[w.heap.size + 1]? = some (.cells #[.int .i64 0, .int .i64 0, .int .i64 0, .int .i64 0, .int .i64 0] 77 (0, 0)) ∧
      ∀ j e, j < k → L[j]? = some e → ¬ (e.1 = d ∧ e.2.1 = l))
    (fun a _ => L.length - (intOf a).toNat)
  case atStart => exact ⟨0, rfl, by omega, hG, hh, hk0, fun j e hj => by omega⟩
  case round =>
    obtain ⟨k, rfl, k0, hC, hb1, hb2, hall⟩ := hrel
    clear hG hh hk0
    have hr := H.out.same hC
    obtain ⟨A, cap, hrow, _, hent⟩ := hr.rowsC
    have hc0 := cell_of_heap hb1 0
    have hc1 := cell_of_heap hb1 1
    have hf := fun i => free_of_heap hb2 i
    have hv := fun i => cell_of_heap hb2 i
    simp only [List.getElem?_toArray, List.getElem?_cons_zero, List.getElem?_cons_succ] at hc0 hc1
    have HALL := Lib.hid hall
    clear hall
    by_cases hkl : k < L.length
    · obtain ⟨e, he⟩ : ∃ e, L[k]? = some e := ⟨_, List.getElem?_eq_getElem hkl⟩
      obtain ⟨g, rfl, hce⟩ := hent k e he
      have e0 : wr.cell? ⟨g, k * 5, none⟩ = some (.int .i64 e.1) := hce 0 _ rfl
      have e1 := hce 1 _ rfl
      have e2 := hce 2 _ rfl
      have e3 := hce 3 _ rfl
      have e4 := hce 4 _ rfl
      have hrange := (hr.keys.ent e (List.mem_of_getElem? he)).2.2
      have i0 : I64 e.1 := i64_small (by omega) (by omega)
      have i1 : I64 e.2.1 := i64_small (by omega) (by omega)
      by_cases hsame : e.1 = d ∧ e.2.1 = l
      · have hq : ∀ W, (binOp .eql 32 (.agg #[.int .i64 e.1, .int .i64 e.2.1]) (.agg #[.int .i64 d, .int .i64 l])).run Try.prog W = .ok (.bool true) W := fun W => by rw [hsame.1, hsame.2]; exact eq_yes hd hl W
        have HF := Lib.hid (hr.keys.found (List.mem_of_getElem? he) hsame.1 hsame.2)
        clear hce hent hsame
        go_upto_region 4 with fail
        go_quiet (fail)
        go_wp2_with fail
        refine bodyPost_ret (results_cell_row rfl _ _ (w.heap.size + 1) 77 _ (0, 0) _ rfl (five_set (W := wr.drewN nq) hb2 _ _ _ _ _) Try.underlying77 rfl (by kernel_rfl)) rfl ?_
        exact ⟨by rw [← HF.out]; rfl, five_chg (hC.drewN _) (by omega) _ _ _ _ _⟩
      · have hq : ∀ W, (binOp .eql 32 (.agg #[.int .i64 e.1, .int .i64 e.2.1]) (.agg #[.int .i64 d, .int .i64 l])).run Try.prog W = .ok (.bool false) W := fun W => eq_no i0 i1 hd hl hsame W
        have HS := Lib.hid hsame
        have hw3 : IntKind.i64.wrap ((k : Int) + 1) = k + 1 := IntWalk.i64_in _ ⟨by omega, by omega⟩
        clear hce hent hsame
        go_upto_region 4 with fail
        go_quiet (fail)
        go_wp2_with fail
        go_roundw
        case rel => exact ⟨k + 1, by go_num, by omega, hC.drewN _, hb1, hb2, fun j x hj hx => by
          by_cases c : j = k
          · subst c
            rw [he] at hx
            cases hx
            exact HS.out
          · exact HALL.out j x (by omega) hx⟩
        case measure => simp [intOf]; omega
    · have HN := Lib.hid (H.out.keys.none (d := d) (l := l) fun e he => by
        obtain ⟨j, hj⟩ := List.getElem?_of_mem he
        exact HALL.out j e (by have := (List.getElem?_eq_some_iff.1 hj).1; omega) hj)
      have hbd : ∀ W : World, Sem.run Try.prog (Instr.build 77 #[(0, .agg #[.int .i64 d, .int .i64 l])]) W = .ok (.agg #[.int .i64 d, .int .i64 l, .int .i64 0, .int .i64 0, .int .i64 0]) W := fun W => run_build W _ _ _ (by kernel_rfl)
      go_wp2_with fail
      refine bodyPost_ret (results_cell_row rfl _ _ (w.heap.size + 1) 77 _ (0, 0) _ rfl (five_set hb2 _ _ _ _ _) Try.underlying77 rfl (by kernel_rfl)) rfl ?_
      exact ⟨by rw [HN.out]; rfl, five_chg hC (by omega) _ _ _ _ _⟩
end Go.Proofs.Ytbihefbjojlncaa
