/- lattice: both, best. -/
import Derived.Test.YtfhmmekamommcaaGreatDoorLatOrd
import Derived.Test.YtfhmmekamommcaaGreatDoorShelf
namespace Go.Proofs.YtfhmmekamommcaaGreatDoor
set_option linter.unusedVariables false
set_option linter.unusedSimpArgs false
open Go Go.RowKit Go.Proofs Go.Shelf Go.Sort
/-- a slice of whole numbers reads as a list -/
def HasInts (w : World) (v : Value) (l : List Int) : Prop := (v = .slice none 0 0 ∧ l = []) ∨ ∃ g cap, v = .slice (some ⟨g, 0, none⟩) l.length cap ∧ ∀ i, i < l.length → w.cell? ⟨g, i, none⟩ = some (.int .i64 (l.getD i 0))
def toI (l : List Nat) : List Int := l.map fun (x : Nat) => (x : Int)
theorem own_hasI {w : World} {base n : Nat} {v : Value} {l : List Int} (h : w.ownsRow base 3 1 v n (l.map (Value.int .i64))) : HasInts w v l := by
  have hn : n = l.length := by have := h.1; simp at this; omega
  subst hn
  rcases h.2 with ⟨rfl, h0⟩ | ⟨g, cap, cur, rfl, _, hh, _, _, _, ht⟩
  · exact .inl ⟨rfl, List.length_eq_zero_iff.1 h0⟩
  · refine .inr ⟨g, cap, rfl, fun i hi => ?_⟩
    rw [cell_of_heap hh]
    have h1 : (cur.toList.take (l.length * 1))[i]? = (l.map (Value.int .i64))[i]? := by rw [ht]
    rw [List.getElem?_take_of_lt (by omega)] at h1
    have h2 : (l.map (Value.int .i64))[i]? = some (.int .i64 (l.getD i 0)) := by
      simp [List.getD, hi]
    rw [h2] at h1
    simpa using h1
theorem own_ints {w : World} {base : Nat} {v : Value} {l : List Nat} (h : w.ownsRow base 3 1 v l.length (nints l)) : HasInts w v (toI l) :=
  own_hasI (n := l.length) (by simpa [nints, toI, Function.comp_def] using h)
theorem HasInts.chg {w w' : World} {v : Value} {l : List Int} (h : HasInts w v l) (hc : Chg (fun _ => False) w w') : HasInts w' v l := by
  rcases h with h | ⟨g, cap, rfl, h⟩
  · exact .inl h
  · exact .inr ⟨g, cap, rfl, fun i hi => by
      have h1 := h i hi
      exact (World.cell?_of_block (w := w) (hc.block _ (World.block_lt_of_cell? w _ h1) (fun x => x))).trans h1⟩
theorem contains_any {w : World} {v : Value} {l : List Int} (h : HasInts w v l) (hl : l.length ≤ 1000) (x : Int) :
    Calls Tryz.prog 140 #[v, .int .i64 x] w fun e w' => e = .returned (.bool (l.contains x)) ∧ w' = w := by
  rcases h with ⟨rfl, rfl⟩ | ⟨g, cap, rfl, h⟩
  · exact Tryz.slices_Contains_int_empty none 0 x w
  · have := Tryz.slices_Contains_int g 0 l.length cap l x w (Nat.le_refl _) (by omega) (fun j hj => by rw [Nat.zero_add]; exact h j hj)
    rw [List.take_length] at this
    exact this
theorem both1_any {w : World} {B : Nat} {v : Value} {l : List Int} (hb : w.cell? ⟨B, 0, none⟩ = some v) (h : HasInts w v l) (hl : l.length ≤ 1000) (x : Int) :
    Calls Tryz.prog 139 #[.int .i64 x, .pointer (some ⟨B, 0, none⟩)] w fun e w' => e = .returned (.bool (!l.contains x)) ∧ w' = w := by
  have hc := contains_any h hl x
  have hv : ∃ A n c, v = .slice A n c := by
    rcases h with ⟨rfl, _⟩ | ⟨g, cap, rfl, _⟩
    · exact ⟨_, _, _, rfl⟩
    · exact ⟨_, _, _, rfl⟩
  obtain ⟨A, n, c, rfl⟩ := hv
  generalize l.contains x = r at *
  go_enter Tryz.func139, Tryz.ntmps139
  go_wp2_with (first | (go_at_call 140; refine hc.mono ?_; rintro e w' ⟨rfl, rfl⟩))
  go_ret
  exact ⟨rfl, rfl⟩
theorem HasInts.keep {w w' : World} {v : Value} {l : List Int} (h : HasInts w v l) (hk : ∀ k, k < w.heap.size → w'.heap[k]? = w.heap[k]?) : HasInts w' v l := by
  rcases h with h | ⟨g, cap, rfl, h⟩
  · exact .inl h
  · exact .inr ⟨g, cap, rfl, fun i hi => by
      have h1 := h i hi
      exact (World.cell?_of_block (w := w) (hk _ (World.block_lt_of_cell? w _ h1))).trans h1⟩
theorem cell_keep {w w' : World} {a : Addr} {v : Value} (h : w.cell? a = some v) (hk : ∀ k, k < w.heap.size → w'.heap[k]? = w.heap[k]?) : w'.cell? a = some v :=
  (World.cell?_of_block (w := w) (hk _ (World.block_lt_of_cell? w _ h))).trans h
theorem heap_sortWorld {enc : Int → Value} (w : World) (g off n : Nat) (d : Array Int) (os : Array Obj) {i : Nat} (h1 : i ≠ g) (h2 : i < w.heap.size) : (sortWorld enc w g off n d os).heap[i]? = w.heap[i]? := by
  show ((w.heap.modify g _) ++ os)[i]? = _
  rw [Array.getElem?_append_left (by simpa using h2), Array.getElem?_modify, if_neg (fun e => h1 e.symm)]
theorem both_any {w : World} {va vb : Value} {l m : List Int} (ha : HasInts w va l) (hb : HasInts w vb m) (hl : l.length ≤ 1000) (hm : m.length ≤ 1000) (hne : l ≠ []) :
    Calls Tryz.prog 118 #[va, vb] w fun e w' => ∃ v, e = .returned v ∧ HasInts w' v (l.filter fun x => m.contains x) ∧ Chg (fun _ => False) w w' := by
  rcases ha with ⟨_, h⟩ | ⟨ga, ca, rfl, ha⟩
  · exact absurd h hne
  have hsl : ∃ A n c, vb = .slice A n c := by
    rcases hb with ⟨rfl, _⟩ | ⟨g, cap, rfl, _⟩
    · exact ⟨_, _, _, rfl⟩
    · exact ⟨_, _, _, rfl⟩
  obtain ⟨A, n, c, rfl⟩ := hsl
  have hal := (Chg.refl (fun _ => False) w).alloc (.cells #[.slice A n c] 50)
  have hb1 := hb.chg hal
  have hbox : (w.alloc (.cells #[.slice A n c] 50)).cell? ⟨w.heap.size, 0, none⟩ = some (.slice A n c) := cell_of_heap (heap_new w _) 0
  have hcl := Tryz.slices_Clone_int ga 0 l.length ca l (w.alloc (.cells #[.slice A n c] 50)) (Nat.le_refl _) (by omega) (fun j hj => by
    rw [Nat.zero_add]
    exact hal.cell (ha j hj) (fun x => x))
  rw [List.take_length] at hcl
  have HLn := Lib.hid hne
  obtain ⟨F, hF⟩ : ∃ F, (l.filter fun x => m.contains x) = F := ⟨_, rfl⟩
  rw [hF]
  have hFl : F.length ≤ l.length := by rw [← hF]; exact List.length_filter_le _ _
  have HF := Lib.hid hF
  clear hF
  clear ha hb hne
  go_enter Tryz.func118, Tryz.ntmps118
  go_upto_region 1 with fail
  generalize hB : w.heap.size = B at *
  generalize w.alloc (.cells #[.slice A n c] 50) = w1 at *
  have hBlt : B < w1.heap.size := World.block_lt_of_cell? w1 _ hbox
  have hdel : ∀ (v2 : Value) (w2 : World), w2.ownsRow w1.heap.size 3 1 v2 l.length (l.map (Value.int .i64)) → v2 ≠ .slice none 0 0 → Below w1.heap.size w1 w2 →
      ∃ g cap, v2 = .slice (some ⟨g, 0, none⟩) l.length cap ∧ Calls Tryz.prog 137 #[.slice (some ⟨g, 0, none⟩) l.length cap, .func (.func 139) #[] #[.pointer (some ⟨B, 0, none⟩)]] w2 fun e w' => e = .returned (.slice (some ⟨g, 0, none⟩) F.length cap) ∧ HasInts w' (.slice (some ⟨g, 0, none⟩) F.length cap) F ∧ Chg (fun _ => False) w1 w' := by
    intro v2 w2 hown hnn hbel
    rcases hown.2 with ⟨e, _⟩ | ⟨g, cap, cur, rfl, hg, hh, hcap, _, hcs, ht⟩
    · exact absurd e hnn
    · refine ⟨g, cap, rfl, ?_⟩
      have eg : ∀ args w, (callFunc 139 args).run Tryz.prog w = .ok (.enter 139 args) w := enters_of Tryz.func139 (by kernel_rfl) rfl
      have keep2 : ∀ W : World, (∀ k, k < w1.heap.size → W.heap[k]? = w1.heap[k]?) → ∀ x : Int, FnGives Tryz.prog 139 #[.pointer (some ⟨B, 0, none⟩)] #[.int .i64 x] (.bool (!m.contains x)) W := fun W hk x =>
        (both1_any (cell_keep hbox hk) (hb1.keep hk) hm x).mono fun e w' ⟨h1, h2⟩ => ⟨h1, 0, h2⟩
      have hH : Holds (Value.int .i64) w2 g 0 l.toArray := by
        intro j hj
        have hj' : j < l.length := by simpa using hj
        have h1 : (cur.toList.take (l.length * 1))[j]? = (l.map (Value.int .i64))[j]? := by rw [ht]
        rw [List.getElem?_take_of_lt (by omega)] at h1
        refine ⟨?_, ?_⟩
        · rw [cell_of_heap hh, Nat.zero_add, ← Array.getElem?_toList, h1]
          simp [hj']
        · unfold World.frozen?
          simp [hh]
      have hd := Tryz.slices_DeleteFunc (Value.int .i64) (fun _ => rfl) (fun x => !m.contains x) 139 #[.pointer (some ⟨B, 0, none⟩)] eg 0 (fun w => Tryz.zeroValue3 w) g 0 cap l.toArray w2
        (fun W x hb => keep2 W (fun k hk => (hb.block k (Nat.lt_of_lt_of_le hk hbel.size)).trans (hbel.block k hk)) x)
        (fun q os dk x _ => keep2 _ (fun k hk => (heap_sortWorld w2 g 0 q dk os (by omega) (Nat.lt_of_lt_of_le hk hbel.size)).trans (hbel.block k hk)) x)
        hH (by simp; omega) (by simpa using hcap)
      have hFF : (l.toArray.toList.filter fun x => !(!m.contains x)) = F := by rw [← HF.out]; simp
      rw [hFF] at hd
      refine Calls.mono (show Calls Tryz.prog 137 #[.slice (some ⟨g, 0, none⟩) l.length cap, _] w2 _ from hd) ?_
      rintro e w' ⟨rfl, q, rfl⟩
      have hsz : (F ++ List.replicate (l.toArray.size - F.length) (0 : Int)).toArray.size = l.toArray.size := by simp; omega
      have hh2 := holds_putRow (Value.int .i64) (Sort.ahead w2 q) g 0 l.toArray _ hH hsz
      refine ⟨rfl, .inr ⟨g, cap, rfl, fun i hi => ?_⟩, rfl.trans hbel.os, rfl.trans hbel.tape, rfl.trans hbel.output, ?_, fun i hi _ => ?_⟩
      · have := (hh2 i (by rw [hsz]; simp; omega)).1
        rw [Nat.zero_add] at this
        rw [this]
        congr 2
        rw [getElem!_pos _ i (by rw [hsz]; simp; omega)]
        simp [List.getElem_append_left hi, List.getD, hi]
      · exact Nat.le_trans hbel.size (by show w2.heap.size ≤ (w2.heap.modify g _).size; simp)
      · refine Eq.trans ?_ (hbel.block i hi)
        show (w2.heap.modify g _)[i]? = w2.heap[i]?
        rw [Array.getElem?_modify, if_neg (by omega)]
  go_wp2_with (first
    | (go_at_call 138; refine hcl.mono ?_; rintro e w2 ⟨v2, rfl, hown, hnn, hbel⟩; obtain ⟨g, cap, rfl, hd⟩ := hdel v2 w2 hown hnn hbel)
    | (go_at_call 137; refine hd.mono ?_; rintro e w3 ⟨rfl, hi3, hC3⟩))
  go_ret
  exact ⟨_, rfl, hi3, hal.trans hC3⟩
end Go.Proofs.YtfhmmekamommcaaGreatDoor
