/- The marks that ranges over functions leave among a function's deferred calls, taken in at its return. -/
import Derived.Test.YtkonpkejddcegaaDoorFrame
import Derived.RangeFuncLeaves
namespace Go.Proofs.YtkonpkejddcegaaDoor
set_option linter.unusedVariables false
set_option linter.unusedSimpArgs false
open Go Go.RowKit
def mark (D : Nat) : Deferred := { target := .collected D, args := #[] }
def Marks (base : Nat) (ds : List Nat) (W : World) : Prop := ds.Nodup ∧ ∀ D ∈ ds, base ≤ D ∧ W.heap[D]? = some (.deferred (some []))
/-- only blocks from base on that are no cells have turned -/
structure Tidy (base : Nat) (W W' : World) : Prop where
  os : W'.os = W.os
  tape : W'.tape = W.tape
  output : W'.output = W.output
  size : W.heap.size ≤ W'.heap.size
  low : ∀ k, k < base → W'.heap[k]? = W.heap[k]?
  cells : ∀ (k : Nat) c t f, W.heap[k]? = some (.cells c t f) → W'.heap[k]? = some (.cells c t f)
theorem Tidy.refl (base : Nat) (W : World) : Tidy base W W := ⟨rfl, rfl, rfl, Nat.le_refl _, fun _ _ => rfl, fun _ _ _ _ h => h⟩
theorem Tidy.trans {base : Nat} {A B C : World} (h : Tidy base A B) (k : Tidy base B C) : Tidy base A C :=
  ⟨k.os.trans h.os, k.tape.trans h.tape, k.output.trans h.output, Nat.le_trans h.size k.size, fun i hi => (k.low i hi).trans (h.low i hi), fun i c t f e => k.cells i c t f (h.cells i c t f e)⟩
theorem Tidy.putObj {base : Nat} {W : World} {D : Nat} {o o' : Obj} (hD : base ≤ D) (h : W.heap[D]? = some o) (hc : o.isCells = false) : Tidy base W (W.putObj D o') :=
  ⟨rfl, rfl, rfl, by simp [World.putObj], fun k hk => World.putObj_heap_other (by omega), fun k c t f e => (World.putObj_heap_other (by rintro rfl; rw [h] at e; cases e; simp [Obj.isCells] at hc)).trans e⟩
theorem Tidy.chg {base : Nat} {S : Nat → Prop} {w W W' : World} (h : Tidy base W W') (hc : Chg S w W) (hb : w.heap.size ≤ base) : Chg S w W' :=
  ⟨h.os.trans hc.os, h.tape.trans hc.tape, h.output.trans hc.output, Nat.le_trans hc.size h.size, fun k hk hs => (h.low k (by omega)).trans (hc.block k hk hs)⟩
theorem leaves_marks {F : Fence} {n : Nat} {P : Program} {fn : Func} {tmps : Array Value} {R : Ending → World → Prop} {base : Nat} : ∀ (ds : List Nat) (W : World), Marks base ds W →
    (∀ W', Tidy base W W' → ∃ v, (results fn tmps).run P W' = .ok v W' ∧ R (.returned v) W') → LeavesInM F n P fn tmps R (ds.map mark) .returning W := by
  intro ds
  induction ds with
  | nil => intro W _ h; exact h W (Tidy.refl _ _)
  | cons D ds ih =>
    rintro W ⟨hn, hm⟩ h
    obtain ⟨hD, hd⟩ := hm D (by simp)
    have hn' := List.nodup_cons.1 hn
    refine ⟨by simp, .inl ⟨D, _, rfl, run_takeDeferred hd, ih _ ⟨hn'.2, fun E hE => ?_⟩ fun W' hW' => h W' ((Tidy.putObj hD hd rfl).trans hW')⟩⟩
    obtain ⟨h1, h2⟩ := hm E (by simp [hE])
    exact ⟨h1, (World.putObj_heap_other (by rintro rfl; exact hn'.1 hE)).trans h2⟩
theorem Marks.keep {base : Nat} {ds : List Nat} {W W' : World} (h : Marks base ds W) (hk : ∀ D, base ≤ D → D ∈ ds → W.heap[D]? = some (.deferred (some [])) → W'.heap[D]? = some (.deferred (some []))) : Marks base ds W' :=
  ⟨h.1, fun D hD => ⟨(h.2 D hD).1, hk D (h.2 D hD).1 hD (h.2 D hD).2⟩⟩
theorem Marks.lt {base : Nat} {ds : List Nat} {W : World} (h : Marks base ds W) {D : Nat} (hD : D ∈ ds) : D < W.heap.size := lt_of_heap (h.2 D hD).2
theorem Marks.cons {base : Nat} {ds : List Nat} {W : World} (h : Marks base ds W) {D : Nat} (hb : base ≤ D) (hd : W.heap[D]? = some (.deferred (some []))) (hn : D ∉ ds) : Marks base (D :: ds) W :=
  ⟨List.nodup_cons.2 ⟨hn, h.1⟩, fun E hE => by
    rcases List.mem_cons.1 hE with rfl | hE
    · exact ⟨hb, hd⟩
    · exact h.2 E hE⟩
end Go.Proofs.YtkonpkejddcegaaDoor
