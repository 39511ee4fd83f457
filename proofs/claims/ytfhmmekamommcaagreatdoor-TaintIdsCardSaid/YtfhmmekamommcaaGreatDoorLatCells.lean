/- lattice: a lattice's block, by its cells. -/
import Derived.Test.YtfhmmekamommcaaGreatDoorLatSmall
import Derived.Test.YtfhmmekamommcaaGreatDoorLatOnce2
namespace Go.Proofs.YtfhmmekamommcaaGreatDoor
set_option linter.unusedVariables false
set_option linter.unusedSimpArgs false
open Go Go.RowKit Go.Proofs Go.Shelf Go.Sort
/-- a lattice's block -/
structure LatRaw (w : World) (la : Nat) (nv ov : Value) (J M : Nat → Nat → Int) (lo hi dn st : Int) : Prop where
  blk : ∃ c : Array Value, w.heap[la]? = some (.cells c 72 (0, 0)) ∧ c.size = 207 ∧ c[0]? = some nv ∧ c[1]? = some ov ∧ c[2]? = some (.int .u32 dn) ∧ c[3]? = some (.int .i32 st) ∧
    (∀ i j, i < 10 → j < 10 → c[5 + i * 10 + j]? = some (.int .i64 (J i j)) ∧ c[105 + i * 10 + j]? = some (.int .i64 (M i j))) ∧ c[205]? = some (.int .i64 lo) ∧ c[206]? = some (.int .i64 hi)
section
variable {w : World} {la : Nat} {nv ov : Value} {J M : Nat → Nat → Int} {lo hi dn st : Int}
theorem LatRaw.names (h : LatRaw w la nv ov J M lo hi dn st) : w.cell? ⟨la, 0, none⟩ = some nv := by
  obtain ⟨c, hc, _, h0, _⟩ := h.blk; rw [cell_of_heap hc]; exact h0
theorem LatRaw.ord (h : LatRaw w la nv ov J M lo hi dn st) : w.cell? ⟨la, 1, none⟩ = some ov := by
  obtain ⟨c, hc, _, _, h0, _⟩ := h.blk; rw [cell_of_heap hc]; exact h0
theorem LatRaw.done (h : LatRaw w la nv ov J M lo hi dn st) : w.cell? ⟨la, 2, none⟩ = some (.int .u32 dn) := by
  obtain ⟨c, hc, _, _, _, h0, _⟩ := h.blk; rw [cell_of_heap hc]; exact h0
theorem LatRaw.stat (h : LatRaw w la nv ov J M lo hi dn st) : w.cell? ⟨la, 3, none⟩ = some (.int .i32 st) := by
  obtain ⟨c, hc, _, _, _, _, h0, _⟩ := h.blk; rw [cell_of_heap hc]; exact h0
theorem LatRaw.jn (h : LatRaw w la nv ov J M lo hi dn st) (i j : Nat) (hi' : i < 10) (hj : j < 10) : w.cell? ⟨la, 5 + i * 10 + j, none⟩ = some (.int .i64 (J i j)) := by
  obtain ⟨c, hc, _, _, _, _, _, h0, _⟩ := h.blk; rw [cell_of_heap hc]; exact (h0 i j hi' hj).1
theorem LatRaw.mt (h : LatRaw w la nv ov J M lo hi dn st) (i j : Nat) (hi' : i < 10) (hj : j < 10) : w.cell? ⟨la, 105 + i * 10 + j, none⟩ = some (.int .i64 (M i j)) := by
  obtain ⟨c, hc, _, _, _, _, _, h0, _⟩ := h.blk; rw [cell_of_heap hc]; exact (h0 i j hi' hj).2
theorem LatRaw.low (h : LatRaw w la nv ov J M lo hi dn st) : w.cell? ⟨la, 205, none⟩ = some (.int .i64 lo) := by
  obtain ⟨c, hc, _, _, _, _, _, _, h0, _⟩ := h.blk; rw [cell_of_heap hc]; exact h0
theorem LatRaw.high (h : LatRaw w la nv ov J M lo hi dn st) : w.cell? ⟨la, 206, none⟩ = some (.int .i64 hi) := by
  obtain ⟨c, hc, _, _, _, _, _, _, _, h0⟩ := h.blk; rw [cell_of_heap hc]; exact h0
theorem LatRaw.free (h : LatRaw w la nv ov J M lo hi dn st) (i : Nat) : w.frozen? ⟨la, i, none⟩ = false := by
  obtain ⟨c, hc, _⟩ := h.blk; exact free_of_heap hc i
theorem LatRaw.lt (h : LatRaw w la nv ov J M lo hi dn st) : la < w.heap.size := by
  obtain ⟨c, hc, _⟩ := h.blk; exact lt_of_heap hc
theorem LatRaw.keep {w' : World} (h : LatRaw w la nv ov J M lo hi dn st) (hk : w'.heap[la]? = w.heap[la]?) : LatRaw w' la nv ov J M lo hi dn st := by
  obtain ⟨c, hc, r⟩ := h.blk; exact ⟨c, hk.trans hc, r⟩
theorem LatRaw.chg {S : Nat → Prop} {w' : World} (h : LatRaw w la nv ov J M lo hi dn st) (hc : Chg S w w') (hS : ¬ S la) : LatRaw w' la nv ov J M lo hi dn st := h.keep (hc.block la h.lt hS)
theorem LatRaw.congr {J' M' : Nat → Nat → Int} (h : LatRaw w la nv ov J M lo hi dn st) (hJ : ∀ i j, i < 10 → j < 10 → J i j = J' i j) (hM : ∀ i j, i < 10 → j < 10 → M i j = M' i j) : LatRaw w la nv ov J' M' lo hi dn st := by
  obtain ⟨c, hc, h1, h2, h3, h4, h5, h6, r⟩ := h.blk
  exact ⟨c, hc, h1, h2, h3, h4, h5, fun i j a b => by rw [← hJ i j a b, ← hM i j a b]; exact h6 i j a b, r⟩
theorem LatRaw.setJ (h : LatRaw w la nv ov J M lo hi dn st) (i j : Nat) (hi' : i < 10) (hj : j < 10) (x : Int) :
    LatRaw (w.setCell ⟨la, 5 + i * 10 + j, none⟩ (.int .i64 x)) la nv ov (fun a b => if a = i ∧ b = j then x else J a b) M lo hi dn st := by
  obtain ⟨c, hc, h1, h2, h3, h4, h5, h6, h7, h8⟩ := h.blk
  refine ⟨_, heap_setCell_cells hc _ _, by simpa using h1, ?_, ?_, ?_, ?_, fun a b ha hb => ⟨?_, ?_⟩, ?_, ?_⟩
  · rw [Array.getElem?_setIfInBounds_ne (by omega)]; exact h2
  · rw [Array.getElem?_setIfInBounds_ne (by omega)]; exact h3
  · rw [Array.getElem?_setIfInBounds_ne (by omega)]; exact h4
  · rw [Array.getElem?_setIfInBounds_ne (by omega)]; exact h5
  · by_cases e : a = i ∧ b = j
    · obtain ⟨rfl, rfl⟩ := e
      rw [Array.getElem?_setIfInBounds_self, if_pos (by omega), if_pos ⟨rfl, rfl⟩]
    · rw [Array.getElem?_setIfInBounds_ne (by omega), if_neg e]; exact (h6 a b ha hb).1
  · rw [Array.getElem?_setIfInBounds_ne (by omega)]; exact (h6 a b ha hb).2
  · rw [Array.getElem?_setIfInBounds_ne (by omega)]; exact h7
  · rw [Array.getElem?_setIfInBounds_ne (by omega)]; exact h8
theorem LatRaw.setM (h : LatRaw w la nv ov J M lo hi dn st) (i j : Nat) (hi' : i < 10) (hj : j < 10) (x : Int) :
    LatRaw (w.setCell ⟨la, 105 + i * 10 + j, none⟩ (.int .i64 x)) la nv ov J (fun a b => if a = i ∧ b = j then x else M a b) lo hi dn st := by
  obtain ⟨c, hc, h1, h2, h3, h4, h5, h6, h7, h8⟩ := h.blk
  refine ⟨_, heap_setCell_cells hc _ _, by simpa using h1, ?_, ?_, ?_, ?_, fun a b ha hb => ⟨?_, ?_⟩, ?_, ?_⟩
  · rw [Array.getElem?_setIfInBounds_ne (by omega)]; exact h2
  · rw [Array.getElem?_setIfInBounds_ne (by omega)]; exact h3
  · rw [Array.getElem?_setIfInBounds_ne (by omega)]; exact h4
  · rw [Array.getElem?_setIfInBounds_ne (by omega)]; exact h5
  · rw [Array.getElem?_setIfInBounds_ne (by omega)]; exact (h6 a b ha hb).1
  · by_cases e : a = i ∧ b = j
    · obtain ⟨rfl, rfl⟩ := e
      rw [Array.getElem?_setIfInBounds_self, if_pos (by omega), if_pos ⟨rfl, rfl⟩]
    · rw [Array.getElem?_setIfInBounds_ne (by omega), if_neg e]; exact (h6 a b ha hb).2
  · rw [Array.getElem?_setIfInBounds_ne (by omega)]; exact h7
  · rw [Array.getElem?_setIfInBounds_ne (by omega)]; exact h8
theorem LatRaw.setLo (h : LatRaw w la nv ov J M lo hi dn st) (x : Int) : LatRaw (w.setCell ⟨la, 205, none⟩ (.int .i64 x)) la nv ov J M x hi dn st := by
  obtain ⟨c, hc, h1, h2, h3, h4, h5, h6, h7, h8⟩ := h.blk
  refine ⟨_, heap_setCell_cells hc _ _, by simpa using h1, ?_, ?_, ?_, ?_, fun a b ha hb => ⟨?_, ?_⟩, ?_, ?_⟩
  · rw [Array.getElem?_setIfInBounds_ne (by omega)]; exact h2
  · rw [Array.getElem?_setIfInBounds_ne (by omega)]; exact h3
  · rw [Array.getElem?_setIfInBounds_ne (by omega)]; exact h4
  · rw [Array.getElem?_setIfInBounds_ne (by omega)]; exact h5
  · rw [Array.getElem?_setIfInBounds_ne (by omega)]; exact (h6 a b ha hb).1
  · rw [Array.getElem?_setIfInBounds_ne (by omega)]; exact (h6 a b ha hb).2
  · rw [Array.getElem?_setIfInBounds_self, if_pos (by omega)]
  · rw [Array.getElem?_setIfInBounds_ne (by omega)]; exact h8
theorem LatRaw.setHi (h : LatRaw w la nv ov J M lo hi dn st) (x : Int) : LatRaw (w.setCell ⟨la, 206, none⟩ (.int .i64 x)) la nv ov J M lo x dn st := by
  obtain ⟨c, hc, h1, h2, h3, h4, h5, h6, h7, h8⟩ := h.blk
  refine ⟨_, heap_setCell_cells hc _ _, by simpa using h1, ?_, ?_, ?_, ?_, fun a b ha hb => ⟨?_, ?_⟩, ?_, ?_⟩
  · rw [Array.getElem?_setIfInBounds_ne (by omega)]; exact h2
  · rw [Array.getElem?_setIfInBounds_ne (by omega)]; exact h3
  · rw [Array.getElem?_setIfInBounds_ne (by omega)]; exact h4
  · rw [Array.getElem?_setIfInBounds_ne (by omega)]; exact h5
  · rw [Array.getElem?_setIfInBounds_ne (by omega)]; exact (h6 a b ha hb).1
  · rw [Array.getElem?_setIfInBounds_ne (by omega)]; exact (h6 a b ha hb).2
  · rw [Array.getElem?_setIfInBounds_ne (by omega)]; exact h7
  · rw [Array.getElem?_setIfInBounds_self, if_pos (by omega)]
theorem LatRaw.setDn (h : LatRaw w la nv ov J M lo hi dn st) (x : Int) : LatRaw (w.setCell ⟨la, 2, none⟩ (.int .u32 x)) la nv ov J M lo hi x st := by
  obtain ⟨c, hc, h1, h2, h3, h4, h5, h6, h7, h8⟩ := h.blk
  refine ⟨_, heap_setCell_cells hc _ _, by simpa using h1, ?_, ?_, ?_, ?_, fun a b ha hb => ⟨?_, ?_⟩, ?_, ?_⟩
  · rw [Array.getElem?_setIfInBounds_ne (by omega)]; exact h2
  · rw [Array.getElem?_setIfInBounds_ne (by omega)]; exact h3
  · rw [Array.getElem?_setIfInBounds_self, if_pos (by omega)]
  · rw [Array.getElem?_setIfInBounds_ne (by omega)]; exact h5
  · rw [Array.getElem?_setIfInBounds_ne (by omega)]; exact (h6 a b ha hb).1
  · rw [Array.getElem?_setIfInBounds_ne (by omega)]; exact (h6 a b ha hb).2
  · rw [Array.getElem?_setIfInBounds_ne (by omega)]; exact h7
  · rw [Array.getElem?_setIfInBounds_ne (by omega)]; exact h8
theorem LatRaw.setSt (h : LatRaw w la nv ov J M lo hi dn st) (x : Int) : LatRaw (w.setCell ⟨la, 3, none⟩ (.int .i32 x)) la nv ov J M lo hi dn x := by
  obtain ⟨c, hc, h1, h2, h3, h4, h5, h6, h7, h8⟩ := h.blk
  refine ⟨_, heap_setCell_cells hc _ _, by simpa using h1, ?_, ?_, ?_, ?_, fun a b ha hb => ⟨?_, ?_⟩, ?_, ?_⟩
  · rw [Array.getElem?_setIfInBounds_ne (by omega)]; exact h2
  · rw [Array.getElem?_setIfInBounds_ne (by omega)]; exact h3
  · rw [Array.getElem?_setIfInBounds_ne (by omega)]; exact h4
  · rw [Array.getElem?_setIfInBounds_self, if_pos (by omega)]
  · rw [Array.getElem?_setIfInBounds_ne (by omega)]; exact (h6 a b ha hb).1
  · rw [Array.getElem?_setIfInBounds_ne (by omega)]; exact (h6 a b ha hb).2
  · rw [Array.getElem?_setIfInBounds_ne (by omega)]; exact h7
  · rw [Array.getElem?_setIfInBounds_ne (by omega)]; exact h8
end
/-- a list's length, and that it is read from a cell -/
theorem HasInts.slice {w : World} {v : Value} {l : List Int} (h : HasInts w v l) : ∃ A c, v = .slice A l.length c := by
  rcases h with ⟨rfl, rfl⟩ | ⟨g, cap, rfl, _⟩
  · exact ⟨none, _, rfl⟩
  · exact ⟨_, _, rfl⟩
theorem up_ints {w : World} {b bu bd cu cd n : Nat} {U D : Nat → Nat → Bool} (h : IsOrd w b bu bd cu cd n U D) (hT : TabOk w) (a : Int) :
    Calls Tryz.prog 119 #[optr b, .int .i64 a] w fun e w' => ∃ v, e = .returned v ∧ HasInts w' v (toI (rowOf n U a)) ∧ Chg (fun _ => False) w w' :=
  (up_some h hT a).mono fun e w' ⟨v, h1, h2, h3⟩ => ⟨v, h1, own_ints h2, h3⟩
theorem down_ints {w : World} {b bu bd cu cd n : Nat} {U D : Nat → Nat → Bool} (h : IsOrd w b bu bd cu cd n U D) (hT : TabOk w) (a : Int) :
    Calls Tryz.prog 120 #[optr b, .int .i64 a] w fun e w' => ∃ v, e = .returned v ∧ HasInts w' v (toI (rowOf n D a)) ∧ Chg (fun _ => False) w w' :=
  (down_some h hT a).mono fun e w' ⟨v, h1, h2, h3⟩ => ⟨v, h1, own_ints h2, h3⟩
theorem rowOf_nat {n : Nat} {U : Nat → Nat → Bool} {a : Nat} (h : a < n) : rowOf n U a = els n (U a) := by
  unfold rowOf; rw [if_pos (by omega)]; rfl
theorem toI_len (l : List Nat) : (toI l).length = l.length := by simp [toI]
theorem rowOf_len (n : Nat) (U : Nat → Nat → Bool) (a : Int) : (toI (rowOf n U a)).length ≤ n := by
  rw [toI_len]; unfold rowOf; split
  · exact els_length n _
  · simp
end Go.Proofs.YtfhmmekamommcaaGreatDoor
