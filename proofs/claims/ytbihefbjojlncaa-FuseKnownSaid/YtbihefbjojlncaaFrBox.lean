/- The document's box of fuses in memory; may, before, at, State, Spots. -/
import Derived.Test.YtbihefbjojlncaaFrPlain
import Derived.Test.YtbihefbjojlncaaFsTwo
import Derived.Test.YtbihefbjojlncaaLawFuseApart
import Derived.Laws.StructEq
namespace Go.Proofs.Ytbihefbjojlncaa
set_option linter.unusedVariables false
set_option linter.unusedSimpArgs false
open Go Go.RowKit
def entC (e : FE) : List Value := [.int .i64 e.1, .int .i64 e.2.1, .int .i64 e.2.2.1, .int .i64 e.2.2.2.1, .int .i64 e.2.2.2.2]
def flatE (L : List FE) : List Value := L.flatMap entC
def entV (e : FE) : Value := .agg #[.int .i64 e.1, .int .i64 e.2.1, .int .i64 e.2.2.1, .int .i64 e.2.2.2.1, .int .i64 e.2.2.2.2]
theorem flatE_len (L : List FE) : (flatE L).length = L.length * 5 := by
  induction L with
  | nil => rfl
  | cons e r ih => simp [flatE, entC] at *; omega
theorem flatE_get {L : List FE} {k : Nat} {e : FE} (hk : L[k]? = some e) {j : Nat} {v : Value} (hj : (entC e)[j]? = some v) : (flatE L)[k * 5 + j]? = some v := by
  induction L generalizing k with
  | nil => simp at hk
  | cons x r ih =>
    have hj5 : j < 5 := by
      have := (List.getElem?_eq_some_iff.1 hj).1
      simpa [entC] using this
    have hl : (entC x).length = 5 := rfl
    cases k with
    | zero =>
      simp at hk
      subst hk
      simp only [flatE, List.flatMap_cons, Nat.zero_mul, Nat.zero_add]
      rw [List.getElem?_append_left (by rw [hl]; exact hj5)]
      exact hj
    | succ k =>
      simp only [flatE, List.flatMap_cons]
      rw [List.getElem?_append_right (by rw [hl]; omega), hl, show (k + 1) * 5 + j - 5 = k * 5 + j by omega]
      exact ih (by simpa using hk)
structure RefAt (w : World) (b base : Nat) (S : FS) (L : List FE) : Prop where
  row : ∃ v, w.heap[b]? = some (.cells #[.int .i64 S.most, .int .i64 S.rest, .int .i64 S.now, v] 37 (0, 0)) ∧ w.ownsRow base 77 5 v L.length (flatE L)
  keys : Keys S L
  ok : S.Ok
  few : L.length ≤ 100000
theorem RefAt.lt {w : World} {b base : Nat} {S : FS} {L : List FE} (h : RefAt w b base S L) : b < w.heap.size := by
  obtain ⟨v, hb, _⟩ := h.row
  exact lt_of_heap hb
/-- what keeps all blocks of cells of its two types keeps it -/
theorem RefAt.keep {w w' : World} {b base : Nat} {S : FS} {L : List FE} (h : RefAt w b base S L)
    (hk : ∀ (k : Nat) (c : Array Value) (t : TypeId) (f : Nat × Nat), t = 37 ∨ t = 77 → w.heap[k]? = some (.cells c t f) → w'.heap[k]? = some (.cells c t f)) : RefAt w' b base S L := by
  obtain ⟨v, hb, hr⟩ := h.row
  refine ⟨⟨v, hk _ _ _ _ (.inl rfl) hb, ?_⟩, h.keys, h.ok, h.few⟩
  obtain ⟨h1, h2⟩ := hr
  refine ⟨h1, ?_⟩
  rcases h2 with h2 | ⟨g, cap, cur, hv, hg, hh, r⟩
  · exact .inl h2
  · exact .inr ⟨g, cap, cur, hv, hg, hk _ _ _ _ (.inr rfl) hh, r⟩
theorem RefAt.same {w w' : World} {b base : Nat} {S : FS} {L : List FE} (h : RefAt w b base S L) (hc : Chg (fun _ => False) w w') : RefAt w' b base S L :=
  h.keep fun k c t f _ hk => hc.keep hk (fun x => x)
theorem BoxAt.not_own {w : World} {X : FX} {S : FS} {n : Nat} (h : BoxAt w X S n) {k : Nat} {c : Array Value} {t : TypeId} {f : Nat × Nat} (hk : w.heap[k]? = some (.cells c t f)) (h1 : t ≠ 68) (h2 : t ≠ 81) : ¬ X.Own k := by
  rintro (rfl | rfl | ⟨d, l, hf⟩)
  · rw [h.box] at hk; cases hk; exact h1 rfl
  · obtain ⟨D, ⟨es, clock, hb, _⟩, _⟩ := h.map
    rw [hb] at hk; cases hk
  · rw [h.fus _ _ _ hf] at hk; cases hk; exact h2 rfl
theorem RefAt.went {w w' : World} {b base : Nat} {S T : FS} {L : List FE} {X X' : FX} {n : Nat} (h : RefAt w b base S L) (hb : BoxAt w X T n) (hw : Went w w' X X') : RefAt w' b base S L :=
  h.keep fun k c t f ht hk => hw.chg.keep hk (hb.not_own hk (by rcases ht with rfl | rfl <;> decide) (by rcases ht with rfl | rfl <;> decide))
theorem RefAt.rowsC {w : World} {b base : Nat} {S : FS} {L : List FE} (h : RefAt w b base S L) : ∃ A cap, w.cell? ⟨b, 3, none⟩ = some (.slice A L.length cap) ∧ w.ownsRow base 77 5 (.slice A L.length cap) L.length (flatE L) ∧
    ∀ k e, L[k]? = some e → ∃ g, A = some ⟨g, 0, none⟩ ∧ ∀ j v, (entC e)[j]? = some v → w.cell? ⟨g, k * 5 + j, none⟩ = some v := by
  obtain ⟨v, hb, hr⟩ := h.row
  obtain ⟨A, l, c, rfl⟩ := own_slice hr
  have hl : l = L.length := by
    rcases hr.2 with ⟨e, h0⟩ | ⟨g, cap, cur, e, _⟩
    · cases e; omega
    · cases e; rfl
  subst hl
  refine ⟨A, c, cell_of_heap hb 3, hr, fun k e hk => ?_⟩
  have hkl := (List.getElem?_eq_some_iff.1 hk).1
  rcases hr.2 with ⟨e', h0⟩ | ⟨g, cap, cur, e', hg, hh, _, _, _, ht⟩
  · omega
  · cases e'
    refine ⟨g, rfl, fun j v hv => ?_⟩
    rw [cell_of_heap hh]
    have h5 := flatE_get hk hv
    have hj5 : j < 5 := by
      have := (List.getElem?_eq_some_iff.1 hv).1
      simpa [entC] using this
    rw [← ht] at h5
    rw [List.getElem?_take_of_lt (by omega)] at h5
    simpa using h5
set_option maxRecDepth 100000 in
set_option maxHeartbeats 4000000 in
theorem may_some (w : World) (d l t : Int) : Calls Try.prog 27 #[.agg #[.int .i64 d, .int .i64 l], .int .i64 t] w fun e w' => e = .returned (.bool (mayAt d l t)) ∧ Chg (fun _ => False) w w' := by
  have hc0 : (w.alloc (.cells #[.int .i64 d, .int .i64 l] 32)).cell? ⟨w.heap.size, 0, none⟩ = some (.int .i64 d) := cell_of_heap (heap_new w _) 0
  have hc1 : (w.alloc (.cells #[.int .i64 d, .int .i64 l] 32)).cell? ⟨w.heap.size, 1, none⟩ = some (.int .i64 l) := cell_of_heap (heap_new w _) 1
  have hG := (Chg.refl (fun _ => False) w).alloc (.cells #[.int .i64 d, .int .i64 l] 32)
  have no : ∀ (P : Prop), ¬ P → (P ↔ mayAt d l t = true) → mayAt d l t = false := fun P hP hi => by
    cases h : mayAt d l t
    · rfl
    · exact absurd (hi.2 h) hP
  by_cases x0 : 0 ≤ t
  · by_cases x1 : t ≤ 4503599627370496
    · by_cases x2 : 0 ≤ d
      · by_cases x3 : d ≤ 1000
        · by_cases x4 : 0 ≤ l
          · by_cases x5 : l ≤ 9
            · have e : mayAt d l t = true := mayAt_iff.2 ⟨x0, x1, x2, x3, x4, x5⟩
              rw [e]
              go_enter Try.func27, Try.ntmps27
              go_wp2_with fail
              go_ret
              exact ⟨rfl, hG⟩
            · have e : mayAt d l t = false := no _ (fun x => x5 x.2.2.2.2.2) mayAt_iff.symm
              rw [e]
              go_enter Try.func27, Try.ntmps27
              go_wp2_with fail
              go_ret
              exact ⟨rfl, hG⟩
          · have e : mayAt d l t = false := no _ (fun x => x4 x.2.2.2.2.1) mayAt_iff.symm
            rw [e]
            go_enter Try.func27, Try.ntmps27
            go_wp2_with fail
            go_ret
            exact ⟨rfl, hG⟩
        · have e : mayAt d l t = false := no _ (fun x => x3 x.2.2.2.1) mayAt_iff.symm
          rw [e]
          go_enter Try.func27, Try.ntmps27
          go_wp2_with fail
          go_ret
          exact ⟨rfl, hG⟩
      · have e : mayAt d l t = false := no _ (fun x => x2 x.2.2.1) mayAt_iff.symm
        rw [e]
        go_enter Try.func27, Try.ntmps27
        go_wp2_with fail
        go_ret
        exact ⟨rfl, hG⟩
    · have e : mayAt d l t = false := no _ (fun x => x1 x.2.1) mayAt_iff.symm
      rw [e]
      go_enter Try.func27, Try.ntmps27
      go_wp2_with fail
      go_ret
      exact ⟨rfl, hG⟩
  · have e : mayAt d l t = false := no _ (fun x => x0 x.1) mayAt_iff.symm
    rw [e]
    go_enter Try.func27, Try.ntmps27
    go_wp2_with fail
    go_ret
    exact ⟨rfl, hG⟩
set_option maxRecDepth 100000 in
set_option maxHeartbeats 4000000 in
theorem before_some (w : World) (a b c d : Int) : Calls Try.prog 40 #[.agg #[.int .i64 a, .int .i64 b], .agg #[.int .i64 c, .int .i64 d]] w fun e w' => e = .returned (.bool (befK a b c d)) ∧ Chg (fun _ => False) w w' := by
  have hG := ((Chg.refl (fun _ => False) w).alloc (.cells #[.int .i64 a, .int .i64 b] 32)).alloc (.cells #[.int .i64 c, .int .i64 d] 32)
  have hh := heap_alloc (o' := .cells #[.int .i64 c, .int .i64 d] 32) (heap_new w (.cells #[.int .i64 a, .int .i64 b] 32))
  have hc0 := cell_of_heap hh 0
  have hc1 := cell_of_heap hh 1
  have hk := heap_new1 w (.cells #[.int .i64 a, .int .i64 b] 32) (.cells #[.int .i64 c, .int .i64 d] 32)
  have hd0 := cell_of_heap hk 0
  have hd1 := cell_of_heap hk 1
  simp only [List.getElem?_toArray, List.getElem?_cons_zero, List.getElem?_cons_succ] at hc0 hc1 hd0 hd1
  by_cases x0 : a < c
  · have e : befK a b c d = true := by simp [befK, x0]
    rw [e]
    have tkx : True := trivial
    clear e
    go_enter Try.func40, Try.ntmps40
    go_wp2_with fail
    go_ret
    exact ⟨rfl, hG⟩
  · by_cases x1 : a = c
    · subst x1
      by_cases x2 : b < d
      · have e : befK a b a d = true := by simp [befK, x2]
        rw [e]
        have tkx : True := trivial
        clear e
        go_enter Try.func40, Try.ntmps40
        go_wp2_with fail
        go_ret
        exact ⟨rfl, hG⟩
      · have e : befK a b a d = false := by simp [befK]; omega
        rw [e]
        have tkx : True := trivial
        clear e
        go_enter Try.func40, Try.ntmps40
        go_wp2_with fail
        go_ret
        exact ⟨rfl, hG⟩
    · have x1' : (a == c) = false := by simpa using x1
      have e : befK a b c d = false := by simp [befK, x0, x1]
      rw [e]
      have tkx : True := trivial
      clear e
      go_enter Try.func40, Try.ntmps40
      go_wp2_with fail
      go_ret
      exact ⟨rfl, hG⟩
end Go.Proofs.Ytbihefbjojlncaa
