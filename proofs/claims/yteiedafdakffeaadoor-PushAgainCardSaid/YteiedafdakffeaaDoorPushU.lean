/- push: Diff. -/
import Derived.Test.YteiedafdakffeaaDoorPushT
namespace Go.Proofs.YteiedafdakffeaaDoor
set_option linter.unusedVariables false
set_option linter.unusedSimpArgs false
open Go Go.RowKit Go.Proofs Go.Shelf Go.Sort
open Go.Proofs.YteiedafdakffeaaDoorW.PrintWords (Kd ReadsOf own_move print_drop_of gate_dst gate_store)
def lnsOf (s : ByteArray) : List ByteArray := (linesL s.data.toList).map bs
def diffV (h t : Nat) : Nat → Int
  | 1 => 2
  | 2 => 1
  | 5 => h
  | 6 => t
  | _ => 0
def diffH (a b : List ByteArray) : Nat := alikeN a b
def diffA (a b : List ByteArray) : List ByteArray := (a.drop (alikeN a b)).reverse
def diffB (a b : List ByteArray) : List ByteArray := (b.drop (alikeN a b)).reverse
def diffT (a b : List ByteArray) : Nat := alikeN (diffA a b) (diffB a b)
def diffL (a b : List ByteArray) : List ByteArray := ((diffB a b).drop (diffT a b)).reverse
def diffP (s t : ByteArray) : Pkt :=
  if s.size > 65536 then noPkt 5 else if t.size > 65536 then noPkt 5 else
    if 1000 < (diffL (lnsOf s) (lnsOf t)).length then noPkt 5 else ⟨2, diffV (diffH (lnsOf s) (lnsOf t)) (diffT (lnsOf s) (lnsOf t)), ByteArray.empty, diffL (lnsOf s) (lnsOf t), 0⟩
/-- a slice of texts in memory that is new -/
def NewAt (base : Nat) (w : World) (A : Option Addr) (c : Nat) : Prop := (A = none ∧ c = 0) ∨ ∃ g off cur, A = some ⟨g, off, none⟩ ∧ base ≤ g ∧ w.heap[g]? = some (.cells cur 9 (0, 0)) ∧ off + c ≤ cur.size
def DiffPost (w : World) (p : Pkt) (en : Ending) (w' : World) : Prop :=
  ∃ A c, en = .returned (.tuple #[.agg (pk p.k p.V p.tx (.slice A p.l.length c)), .int .i64 p.e]) ∧ p.l.length ≤ c ∧ Lns w' A p.l ∧ NewAt w.heap.size w' A c ∧ Chg (fun _ => False) w w'
theorem NewAt.chg {base : Nat} {w w' : World} {A : Option Addr} {c : Nat} (h : NewAt base w A c) (hC : Chg (fun _ => False) w w') : NewAt base w' A c := by
  rcases h with h | ⟨g, off, cur, rfl, hg, hh, ho⟩
  · exact .inl h
  · exact .inr ⟨g, off, cur, rfl, hg, hC.keep hh (fun h => h), ho⟩
theorem NewAt.setRow {base P : Nat} {w : World} {A : Option Addr} {c : Nat} (h : NewAt base w A c) (hP : P < base) (cs : Array Value) (base' : Nat) (hb : base' ≤ base) : NewAt base' (w.setRow P cs) A c := by
  rcases h with h | ⟨g, off, cur, rfl, hg, hh, ho⟩
  · exact .inl h
  · exact .inr ⟨g, off, cur, rfl, by omega, (setRow_other w P g cs (by omega)).trans hh, ho⟩
theorem NewAt.lns {base P : Nat} {w : World} {A : Option Addr} {c : Nat} {l : List ByteArray} (h : NewAt base w A c) (hl : Lns w A l) (hP : P < base) (cs : Array Value) : Lns (w.setRow P cs) A l := fun i hi => by
  obtain ⟨g, p, e, hc⟩ := hl i hi
  rcases h with ⟨rfl, _⟩ | ⟨g', off, cur, e', hg, hh, ho⟩
  · cases e
  · rw [e'] at e
    cases e
    exact ⟨g, p, e', (World.cell?_of_block (w := w) (setRow_other w P g cs (by omega))).trans hc⟩
theorem results17 (tmps : Array Value) (w : World) (g : Nat) (cs : Array Value) (fr : Nat × Nat) (e : Int)
    (hp : tmps.getD 4 undef = .pointer (some ⟨g, 0, none⟩)) (he : tmps.getD 5 undef = .int .i64 e) (hg : w.heap[g]? = some (.cells cs 26 fr)) (hs : cs.size = 9) :
    (results Tryd.f17 tmps).run Tryd.prog w = .ok (.tuple #[.agg cs, .int .i64 e]) w := by
  have hp' : tmps[4]?.getD undef = .pointer (some ⟨g, 0, none⟩) := by simpa using hp
  have he' : tmps[5]?.getD undef = .int .i64 e := by simpa using he
  have hi : (Tryd.prog.info? 26).map (·.size) = some cs.size := by rw [hs]; kernel_rfl
  have hr : Tryd.f17.results = #[.cell 4 26, .tmp 5] := rfl
  have hl := run_loadVar_row (P := Tryd.prog) w g 26 26 cs fr _ hg Tryd.underlying26 rfl hi
  simp [results, hr, hp', he', asAddr, hl]
theorem diff_no {w W : World} (P : Nat) (e : Int) (hC : Chg (fun _ => False) w W) (hP : w.heap.size ≤ P) : DiffPost w (noPkt e) (.returned (.tuple #[.agg zeroPkt, .int .i64 e])) (W.setRow P zeroPkt) :=
  ⟨none, 0, rfl, Nat.le_refl _, fun i hi => by simp [noPkt] at hi, .inl ⟨rfl, rfl⟩, ⟨hC.os, hC.tape, hC.output, by rw [size_setRow]; exact hC.size, fun k hk _ => (setRow_other W P k zeroPkt (by omega)).trans (hC.block k hk (fun h => h))⟩⟩
/-- a row of one's own, turned round -/
theorem rev_own (w : World) (base : Nat) (v : Value) (l : List ByteArray) (ho : w.ownsRow base 9 1 v l.length (l.map Value.string)) (hb : l.length ≤ 9223372036854775807) :
    Calls Tryd.prog 48 #[v] w fun e w' => e = .returned (.tuple #[]) ∧ w'.ownsRow base 9 1 v l.reverse.length (l.reverse.map Value.string) ∧ Chg (fun k => v.ownBlock = some k) w w' := by
  rcases own_mrow ho with ⟨rfl, rfl⟩ | ⟨g, cap, rfl, hg, hcap, hm⟩
  · refine (Tryd.slices_Reverse_string_empty none 0 w).mono ?_
    rintro e w' ⟨rfl, rfl⟩
    exact ⟨rfl, ho, Chg.refl _ _⟩
  · have hl : (encs l).length = l.length := by simp [encs]
    have := Tryd.slices_Reverse_string g 0 cap (encs l) w (mrow_holds.1 hm) (by rw [hl]; exact hb)
    rw [hl] at this
    refine this.mono ?_
    rintro e w' ⟨rfl, n, rfl⟩
    refine ⟨rfl, ?_, (chg_putRow w n g 0 _).mono (fun k _ e => by rw [e]; rfl)⟩
    rcases ho.2 with ⟨h1, _⟩ | ⟨g', cap', cur, hv, hg', hh, r1, r2, r3, r4⟩
    · cases h1
    · cases hv
      have er : (encs l).reverse.toArray = (encs l.reverse).toArray := by simp [encs]
      rw [er]
      refine ⟨by simp, .inr ⟨g, cap, putCells encStr 0 (encs l.reverse).toArray cur, by simp, hg, ?_, by simpa using r1, r2, by simpa [putCells] using r3, ?_⟩⟩
      · simp only [putRow, mapBlock, Sort.ahead, Array.getElem?_modify, hh, if_true]
        rfl
      · apply List.ext_getElem?
        intro j
        have hcs : l.length ≤ cur.size := by omega
        rw [List.getElem?_take]
        rcases Nat.lt_or_ge j l.length with hj | hj
        · rw [if_pos (by simpa using hj), Array.getElem?_toList]
          simp only [putCells, Array.getElem?_mapIdx]
          rw [Array.getElem?_eq_getElem (by omega), Option.map_some, if_pos ⟨by omega, by simp [encs]; omega⟩, Nat.sub_zero, encs_get l.reverse j (by simpa using hj)]
          rw [List.getElem?_map, List.getElem?_eq_getElem (by simpa using hj)]
          simp [List.getD, hj]
        · rw [if_neg (by simp; omega), List.getElem?_eq_none (by simpa using hj)]
theorem slice_from (A : Option Addr) (n c m : Nat) (hm : m ≤ n) (W : World) : (Instr.slice 24 (.slice A n c) (some (.int .i64 (m : Int))) none none).run Tryd.prog W = .ok (.slice (if c = m then A else A.map (·.add m)) (n - m) (c - m)) W := by
  obtain ⟨i9, hi9, hz90, hz91, hz92⟩ := info_parts info9
  have hel : Tryd.prog.elem 24 = 9 := by simp [Program.elem, Tryd.underlying24]
  have hu : Tryd.prog.underlying 24 = some (.slice (Tryd.prog.elem 24)) := by rw [hel]; exact Tryd.underlying24
  rw [run_slice_l W 24 A n c hu .i64 (m : Int) (Int.natCast_nonneg _) (by omega), hel]
  simp [sizeOf, typeInfo, hi9, hz91, sliced, Result.andThen]
/-- the end of a row of one's own, turned round -/
theorem rev_tail (w : World) (base : Nat) (A : Option Addr) (cap : Nat) (l : List ByteArray) (m : Nat) (ho : w.ownsRow base 9 1 (.slice A l.length cap) l.length (l.map Value.string)) (hm : m ≤ l.length) (hb : l.length ≤ 9223372036854775807) :
    ∃ X c, (∀ W, (Instr.slice 24 (.slice A l.length cap) (some (.int .i64 (m : Int))) none none).run Tryd.prog W = .ok (.slice X (l.drop m).length c) W) ∧ (l.drop m).length ≤ c ∧
      Calls Tryd.prog 48 #[.slice X (l.drop m).length c] w fun e w' => e = .returned (.tuple #[]) ∧ Lns w' X (l.drop m).reverse ∧ NewAt base w' X c ∧ Chg (fun k => (Value.slice A l.length cap).ownBlock = some k) w w' := by
  have hdl : (l.drop m).length = l.length - m := List.length_drop
  refine ⟨_, _, fun W => by rw [hdl]; exact slice_from A l.length cap m hm W, ?_, ?_⟩
  · rcases ho.2 with ⟨h1, h2⟩ | ⟨g, cap', cur, hv, hg, hh, r1, r2, r3, r4⟩
    · have : l = [] := by simpa using h2
      subst this; simp
    · cases hv; omega
  · rcases ho.2 with ⟨h1, h2⟩ | ⟨g, cap', cur, hv, hg, hh, r1, r2, r3, r4⟩
    · have : l = [] := by simpa using h2
      subst this
      simp at h1
      obtain ⟨rfl, rfl⟩ := h1
      have : m = 0 := by simpa using hm
      subst this
      refine (Tryd.slices_Reverse_string_empty none 0 w).mono ?_
      rintro e w' ⟨rfl, rfl⟩
      exact ⟨rfl, fun i hi => by simp at hi, .inl ⟨rfl, rfl⟩, Chg.refl _ _⟩
    · cases hv
      rcases Nat.eq_zero_or_pos (l.drop m).length with h0 | h0
      · rw [h0]
        have hdn : l.drop m = [] := List.length_eq_zero_iff.1 h0
        refine (Tryd.slices_Reverse_string_empty _ _ w).mono ?_
        rintro e w' ⟨rfl, rfl⟩
        refine ⟨rfl, fun i hi => by rw [hdn] at hi; simp at hi, .inr ?_, Chg.refl _ _⟩
        by_cases e : cap = m
        · rw [if_pos e]
          exact ⟨g, 0, cur, rfl, hg, hh, by omega⟩
        · rw [if_neg e]
          refine ⟨g, m, cur, ?_, hg, hh, by omega⟩
          unfold Addr.add
          by_cases e0 : m = 0
          · subst e0; simp
          · simp [e0]
      · have e : cap ≠ m := by omega
        rw [if_neg e]
        have ea : Option.map (fun x : Addr => x.add m) (some ⟨g, 0, none⟩) = some ⟨g, m, none⟩ := by
          unfold Addr.add
          by_cases e0 : m = 0
          · subst e0; simp
          · simp [e0]
        rw [ea]
        have hmr : MRow w g 0 l := by
          rcases own_mrow ho with ⟨h1, _⟩ | ⟨g', cap', hv, _, _, hm'⟩
          · cases h1
          · cases hv; exact hm'
        have hmd := hmr.drop m
        rw [Nat.zero_add] at hmd
        have hl : (encs (l.drop m)).length = (l.drop m).length := by simp [encs]
        have := Tryd.slices_Reverse_string g m (cap - m) (encs (l.drop m)) w (mrow_holds.1 hmd) (by rw [hl]; omega)
        rw [hl] at this
        refine this.mono ?_
        rintro e w' ⟨rfl, n, rfl⟩
        have er : (encs (l.drop m)).reverse.toArray = (encs (l.drop m).reverse).toArray := by simp [encs]
        rw [er]
        refine ⟨rfl, (mrow_holds.2 (holds_putRow encStr (Sort.ahead w n) g m _ _ (holds_ahead _ _ _ _ _ _ (mrow_holds.1 hmd)) (by simp [encs]))).lns, .inr ⟨g, m, putCells encStr m (encs (l.drop m).reverse).toArray cur, rfl, hg, ?_, by simp [putCells]; omega⟩, (chg_putRow w n g m _).mono (fun k _ e => by rw [e]; rfl)⟩
        simp only [putRow, mapBlock, Sort.ahead, Array.getElem?_modify, hh, if_true]
        rfl
theorem pcs_len (c : UInt8) (l : List UInt8) : ∀ o r, (l.foldl (stp c) (o, r)).1.length ≤ o.length + l.length := by
  induction l with
  | nil => intro o r; simp
  | cons x t ih =>
    intro o r
    rw [List.foldl_cons, List.length_cons]
    unfold stp
    split
    · refine Nat.le_trans (ih _ _) ?_
      simp; omega
    · refine Nat.le_trans (ih _ _) ?_
      show o.length + t.length ≤ _
      omega
theorem lnsOf_len (s : ByteArray) : (lnsOf s).length ≤ s.size + 1 := by
  unfold lnsOf linesL
  have h := pcs_len 10 s.data.toList [] []
  have hz : s.data.toList.length = s.size := by rw [Array.length_toList]; rfl
  rw [hz] at h
  have h' : (pcs 10 s.data.toList).1.length ≤ s.size := Nat.le_trans h (by rw [List.length_nil]; omega)
  split
  · rw [List.length_map]; omega
  · rw [List.length_map, List.length_append, List.length_singleton]; omega
end Go.Proofs.YteiedafdakffeaaDoor
