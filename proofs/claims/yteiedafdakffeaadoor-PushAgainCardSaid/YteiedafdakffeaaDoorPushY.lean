/- push: Apply. -/
import Derived.Test.YteiedafdakffeaaDoorPushX
namespace Go.Proofs.YteiedafdakffeaaDoor
set_option linter.unusedVariables false
set_option linter.unusedSimpArgs false
open Go Go.RowKit Go.Proofs
open Go.Proofs.YteiedafdakffeaaDoorW.PrintWords (Kd ReadsOf own_move print_drop_of print_take_of gate_dst gate_store)
def outB (l : List ByteArray) : List UInt8 := l.flatMap fun s => s.data.toList ++ [10]
theorem outB_take (l : List ByteArray) (k : Nat) (h : k < l.length) : outB (l.take (k + 1)) = outB (l.take k) ++ ((l.getD k ByteArray.empty).data.toList ++ [10]) := by
  have e : l.take (k + 1) = l.take k ++ [l[k]] := by rw [List.take_add_one, List.getElem?_eq_getElem h]; rfl
  unfold outB
  rw [e, List.flatMap_append]
  simp [List.getD, h]
theorem outB_length (l : List ByteArray) : (outB l).length = sizes l + l.length := by
  induction l with
  | nil => rfl
  | cons x t ih =>
    have : outB (x :: t) = (x.data.toList ++ [10]) ++ outB t := rfl
    have e : sizes (x :: t) = x.size + sizes t := by simp [sizes]
    have hz : x.data.toList.length = x.size := by rw [Array.length_toList]; rfl
    rw [this, List.length_append, List.length_append, ih, e, hz]
    simp only [List.length_cons, List.length_nil]
    omega
theorem strCells_line (s : ByteArray) : Lib.strCells (s ++ ⟨#[10]⟩) = Lib.byteCells (s.data.toList ++ [10]) := by
  have e : (s ++ (⟨#[10]⟩ : ByteArray)).data.toList = s.data.toList ++ [10] := by
    rw [ByteArray.data_append, Array.toList_append]
  simp only [Lib.strCells, Lib.byteCells, e]
theorem byteCells_append (a b : List UInt8) : Lib.byteCells (a ++ b) = Lib.byteCells a ++ Lib.byteCells b := by simp [Lib.byteCells]
theorem line_size (s : ByteArray) : (s ++ (⟨#[10]⟩ : ByteArray)).size = s.size + 1 := by
  rw [ByteArray.size_append]; rfl
theorem own_others {b : Nat} {W W' : World} {base : Nat} {v : Value} {n : Nat} {xs : List Value} (h : W.ownsRow base 9 1 v n xs) (hO : OthersStay b W W') (hb : v.ownBlock ≠ some b) : W'.ownsRow base 9 1 v n xs :=
  own_move h (fun q hq => by
    rcases h.2 with ⟨rfl, _⟩ | ⟨g, cap, cur, rfl, hg, hh, _⟩
    · cases hq
    · cases hq
      rw [hh]
      exact hO _ _ _ _ (by decide) (fun e => hb (by rw [← e]; rfl)) hh)
theorem chg_below {w W W' : World} {B : Nat} (h : Chg (fun _ => False) w W) (hB : w.heap.size ≤ B) (hb : Below B W W') : Chg (fun _ => False) w W' :=
  ⟨hb.os.trans h.os, hb.tape.trans h.tape, hb.output.trans h.output, Nat.le_trans h.size hb.size, fun k hk _ => (hb.block k (by omega)).trans (h.block k hk (fun x => x))⟩
/-! ### what Apply tells -/
def applyL (a l : List ByteArray) (hd tl : Nat) : List ByteArray := a.take hd ++ (l ++ a.drop (a.length - tl))
def applyOk (s : ByteArray) (k ver fr nd tk hd tl : Int) (tx : ByteArray) (l : List ByteArray) : Prop :=
  checkF k ver fr nd tk hd tl tx l = 0 ∧ k = 2 ∧ s.size ≤ 65536 ∧ hd + tl ≤ (lnsOf s).length
instance (s : ByteArray) (k ver fr nd tk hd tl : Int) (tx : ByteArray) (l : List ByteArray) : Decidable (applyOk s k ver fr nd tk hd tl tx l) := by unfold applyOk; infer_instance
def applyS (s : ByteArray) (k ver fr nd tk hd tl : Int) (tx : ByteArray) (l : List ByteArray) : ByteArray :=
  if applyOk s k ver fr nd tk hd tl tx l then if 65536 < (outB (applyL (lnsOf s) l hd.toNat tl.toNat)).length then ByteArray.empty else ⟨(outB (applyL (lnsOf s) l hd.toNat tl.toNat)).toArray⟩ else ByteArray.empty
def applyE (s : ByteArray) (k ver fr nd tk hd tl : Int) (tx : ByteArray) (l : List ByteArray) : Int :=
  if applyOk s k ver fr nd tk hd tl tx l then if 65536 < (outB (applyL (lnsOf s) l hd.toNat tl.toNat)).length then 5 else 0 else 2
theorem allOk_at {own lo fr : Int} {V : Nat → Int} (h : allOk own lo fr V = true) (i : Nat) (hi : i < 6) : okAt own lo fr V i = true := by
  unfold allOk at h
  rw [List.all_eq_true] at h
  exact h i (List.mem_range.2 hi)
theorem delta_ok {ver fr nd tk hd tl : Int} {tx : ByteArray} {l : List ByteArray} (h : checkF 2 ver fr nd tk hd tl tx l = 0) : (0 ≤ hd ∧ hd ≤ 65536) ∧ (0 ≤ tl ∧ tl ≤ 65536) ∧ sizes l ≤ 65536 ∧ l.length ≤ 1000 := by
  unfold checkF at h
  rw [if_pos ⟨by omega, by omega⟩] at h
  unfold checkE at h
  split at h
  · rename_i hc
    simp only [Bool.and_eq_true] at hc
    obtain ⟨h1, h2, h3⟩ := hc
    have a4 := allOk_at h1 4 (by omega)
    have a5 := allOk_at h1 5 (by omega)
    have e4 : okAt (ownOf 2) (leastOf 2) (fromOf 2 ver) (pushV 2 ver fr nd tk hd tl) 4 = (decide (0 ≤ hd) && decide (hd ≤ 65536)) := by
      have hb : (bits .and .i64 (ownOf 2) 16 != 0) = true := rfl
      show fieldOk (ownOf 2) 16 hd 0 65536 = _
      unfold fieldOk
      rw [if_neg (bne_iff_ne.1 hb)]
    have e5 : okAt (ownOf 2) (leastOf 2) (fromOf 2 ver) (pushV 2 ver fr nd tk hd tl) 5 = (decide (0 ≤ tl) && decide (tl ≤ 65536)) := by
      have hb : (bits .and .i64 (ownOf 2) 32 != 0) = true := rfl
      show fieldOk (ownOf 2) 32 tl 0 65536 = _
      unfold fieldOk
      rw [if_neg (bne_iff_ne.1 hb)]
    rw [e4] at a4
    rw [e5] at a5
    unfold listsB at h3
    simp only [Bool.and_eq_true, decide_eq_true_eq] at a4 a5 h3
    exact ⟨a4, a5, h3.2.2.1, h3.2.2.2⟩
  · cases h
theorem checkF_02 (k ver fr nd tk hd tl : Int) (tx : ByteArray) (l : List ByteArray) : checkF k ver fr nd tk hd tl tx l = 0 ∨ checkF k ver fr nd tk hd tl tx l = 2 := by
  unfold checkF checkE
  split
  · split
    · exact .inl rfl
    · exact .inr rfl
  · exact .inr rfl
/-- the parts of a row, as they read -/
theorem take_row (A : Option Addr) (c : Nat) (a : List ByteArray) (n : Nat) (hn : n ≤ a.length) (hc : a.length ≤ c) :
    (∀ W : World, (Instr.slice 24 (.slice A a.length c) none (some (.int .i64 (n : Int))) none).run Tryd.prog W = .ok (.slice A (a.take n).length c) W) ∧ (∀ w, Lns w A a → a.length ≤ 9223372036854775807 → Lns w A (a.take n)) := by
  obtain ⟨i9, hi9, hz90, hz91, hz92⟩ := info_parts info9
  obtain ⟨h1, h2, h3⟩ := print_take_of (P := Tryd.prog) Value.string ByteArray.empty 24 9 .i64 Tryd.underlying24 hi9 hz91 A c a (n : Int) (by omega) (by omega) hc
  rw [Int.toNat_natCast] at h1 h2
  exact ⟨h1, fun w h hb => lns_of_reads (h2 w (reads_of_lns h hb))⟩
theorem drop_row (A : Option Addr) (c : Nat) (a : List ByteArray) (n : Nat) (hn : n ≤ a.length) (hc : a.length ≤ c) :
    ∃ A', (∀ W : World, (Instr.slice 24 (.slice A a.length c) (some (.int .i64 (n : Int))) none none).run Tryd.prog W = .ok (.slice A' (a.drop n).length (c - n)) W) ∧ (∀ w, Lns w A a → a.length ≤ 9223372036854775807 → Lns w A' (a.drop n)) := by
  obtain ⟨i9, hi9, hz90, hz91, hz92⟩ := info_parts info9
  obtain ⟨A', h1, h2, h3⟩ := print_drop_of (P := Tryd.prog) Value.string ByteArray.empty 24 9 .i64 Tryd.underlying24 hi9 hz91 A c a (n : Int) (by omega) (by omega) hc
  rw [Int.toNat_natCast] at h1 h2
  exact ⟨A', h1, fun w h hb => lns_of_reads (h2 w (reads_of_lns h hb))⟩
theorem sizes_append (a b : List ByteArray) : sizes (a ++ b) = sizes a + sizes b := by simp [sizes]
theorem pcs_sum (c : UInt8) (l : List UInt8) : ∀ o r, ((l.foldl (stp c) (o, r)).1.map List.length).sum + (l.foldl (stp c) (o, r)).2.length ≤ (o.map List.length).sum + r.length + l.length := by
  induction l with
  | nil => intro o r; simp
  | cons x t ih =>
    intro o r
    rw [List.foldl_cons, List.length_cons]
    unfold stp
    split
    · refine Nat.le_trans (ih _ _) ?_
      simp <;> omega
    · refine Nat.le_trans (ih _ _) ?_
      simp <;> omega
theorem lnsOf_sizes (s : ByteArray) : sizes (lnsOf s) ≤ s.size := by
  have h := pcs_sum 10 s.data.toList [] []
  have hz : s.data.toList.length = s.size := by rw [Array.length_toList]; rfl
  rw [hz] at h
  have hb : ∀ L : List (List UInt8), sizes (L.map bs) = (L.map List.length).sum := fun L => by
    unfold sizes
    rw [List.map_map]
    have e : ((fun s : ByteArray => s.size) ∘ bs) = List.length := funext fun x => bs_size x
    rw [e]
  have h' : ((pcs 10 s.data.toList).1.map List.length).sum + (pcs 10 s.data.toList).2.length ≤ s.size := by
    refine Nat.le_trans h (by simp)
  unfold lnsOf linesL
  split
  · rw [hb]; omega
  · rw [hb, List.map_append, List.sum_append]; simp <;> omega
theorem sizes_sub_take (a : List ByteArray) (n : Nat) : sizes (a.take n) ≤ sizes a := by
  have := sizes_append (a.take n) (a.drop n)
  rw [List.take_append_drop] at this
  omega
theorem sizes_sub_drop (a : List ByteArray) (n : Nat) : sizes (a.drop n) ≤ sizes a := by
  have := sizes_append (a.take n) (a.drop n)
  rw [List.take_append_drop] at this
  omega
end Go.Proofs.YteiedafdakffeaaDoor
