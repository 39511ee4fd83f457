/- push: of a packet that may be: its bytes are bytes; what they tell is the packet. -/
import Derived.Test.YteiedafdakffeaaDoorPuI
namespace Go.Proofs.YteiedafdakffeaaDoor
set_option linter.unusedVariables false
set_option linter.unusedSimpArgs false
open Go Go.RowKit Go.Proofs
open Go.Proofs.YteiedafdakffeaaDoorW.PrintWords (bytesOf bytesOf_length)
theorem Bys.app {a b : List Int} (h : Bys a) (k : Bys b) : Bys (a ++ b) := fun x hx => (List.mem_append.1 hx).elim (h x) (k x)
theorem Bys.nil : Bys [] := fun x hx => by simp at hx
theorem bys_flat {α : Type} (l : List α) (f : α → List Int) (h : ∀ y, Bys (f y)) : Bys (l.flatMap f) := fun x hx => by
  obtain ⟨y, _, hy⟩ := List.mem_flatMap.1 hx
  exact h y x hy
theorem bys_text (s : ByteArray) : Bys (textB s) := (rowB_bys _ _).app (bytesOf_bys s)
theorem bys_fields (own lo fr : Int) (V : Nat → Int) (n : Nat) : Bys (fieldsB own lo fr V n) := bys_flat _ _ fun i => by
  unfold fieldB
  split
  · exact Bys.nil
  · exact rowB_bys _ _
theorem bys_push (k ver fr nd tk hd tl : Int) (tx : ByteArray) (l : List ByteArray) : Bys (pushB k ver fr nd tk hd tl tx l) := by
  unfold pushB
  refine Bys.app (Bys.app (Bys.app ?_ (bys_fields _ _ _ _ _)) ?_) ?_
  · intro x hx
    obtain rfl : x = k % 256 := by simpa using hx
    omega
  · split
    · exact bys_text _
    · exact Bys.nil
  · split
    · exact (rowB_bys _ _).app (bys_flat _ _ bys_text)
    · exact Bys.nil
theorem sameTo_refl (V : Nat → Int) (n : Nat) : sameTo V V 0 0 n = true := by
  induction n with
  | zero => rfl
  | succ n ih => rw [sameTo_succ, ih]; simp
theorem sameF_refl (k : Int) (V : Nat → Int) (tx : ByteArray) (l : List ByteArray) : sameF k V tx l k V tx l = true := by
  unfold sameF sameN
  rw [sameTo_refl]
  simp
theorem parse_back {k : Int} {V : Nat → Int} {tx : ByteArray} {l : List ByteArray} (h : checkP k V tx l = 0) {w w' : World} {e : Ending} (hp : ParsePost w (parseP (pushB k (V 1) (V 2) (V 3) (V 4) (V 5) (V 6) tx l)) e w') : ParsePost w ⟨k, V, tx, l, 0⟩ e w' := by
  have := parse_app h []
  rw [List.append_nil, if_neg (by simp)] at this
  rw [this] at hp
  unfold ParsePost at *
  simp only [fwd_same h 1 (by omega) (by omega), fwd_same h 2 (by omega) (by omega), fwd_same h 3 (by omega) (by omega), fwd_same h 4 (by omega) (by omega), fwd_same h 5 (by omega) (by omega), fwd_same h 6 (by omega) (by omega)] at hp
  exact hp
/-- the whole of a packet is read -/
theorem PktAt.heapOf {w : World} {P : Nat} {k : Int} {V : Nat → Int} {tx : ByteArray} {s : Value} (h : PktAt w P k V tx s) : w.heap[P]? = some (.cells (pk k V tx s) 26 (0, 0)) := h
theorem PktAt.cells9 {w : World} {P : Nat} {k : Int} {V : Nat → Int} {tx : ByteArray} {s : Value} (h : PktAt w P k V tx s) : w.cell? ⟨P, 0, none⟩ = some (.int .i64 k) ∧ w.cell? ⟨P, 1, none⟩ = some (.int .i64 (V 1)) ∧ w.cell? ⟨P, 2, none⟩ = some (.int .i64 (V 2)) ∧ w.cell? ⟨P, 3, none⟩ = some (.int .i64 (V 3)) ∧ w.cell? ⟨P, 4, none⟩ = some (.int .i64 (V 4)) ∧ w.cell? ⟨P, 5, none⟩ = some (.int .i64 (V 5)) ∧ w.cell? ⟨P, 6, none⟩ = some (.int .i64 (V 6)) ∧ w.cell? ⟨P, 7, none⟩ = some (.string tx) ∧ w.cell? ⟨P, 8, none⟩ = some s :=
  ⟨cell_of_heap h 0, cell_of_heap h 1, cell_of_heap h 2, cell_of_heap h 3, cell_of_heap h 4, cell_of_heap h 5, cell_of_heap h 6, cell_of_heap h 7, cell_of_heap h 8⟩
end Go.Proofs.YteiedafdakffeaaDoor
