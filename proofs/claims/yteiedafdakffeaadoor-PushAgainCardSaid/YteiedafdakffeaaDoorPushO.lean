/- push: Parse: what it tells, plainly; a packet in memory. -/
import Derived.Test.YteiedafdakffeaaDoorPushN
namespace Go.Proofs.YteiedafdakffeaaDoor
set_option linter.unusedVariables false
set_option linter.unusedSimpArgs false
open Go Go.RowKit
open Go.Proofs.YteiedafdakffeaaDoorW.PrintWords (Kd bytesOf bytesOf_length ReadsInt ReadsOf)
def setV (V : Nat → Int) (q : Nat) (x : Int) : Nat → Int := fun i => if i = q then x else V i
/-- a packet in block P -/
def PktAt (w : World) (P : Nat) (k : Int) (V : Nat → Int) (tx : ByteArray) (s : Value) : Prop :=
  w.heap[P]? = some (.cells #[.int .i64 k, .int .i64 (V 1), .int .i64 (V 2), .int .i64 (V 3), .int .i64 (V 4), .int .i64 (V 5), .int .i64 (V 6), .string tx, s] 26 (0, 0))
theorem PktAt.setN {w : World} {P : Nat} {k : Int} {V : Nat → Int} {tx : ByteArray} {s : Value} (h : PktAt w P k V tx s) (q : Nat) (x : Int) (h1 : 1 ≤ q) (h6 : q ≤ 6) : PktAt (w.setCell ⟨P, q, none⟩ (.int .i64 x)) P k (setV V q x) tx s := by
  unfold PktAt at *
  rw [heap_setCell_cells h]
  have : q = 1 ∨ q = 2 ∨ q = 3 ∨ q = 4 ∨ q = 5 ∨ q = 6 := by omega
  rcases this with rfl | rfl | rfl | rfl | rfl | rfl <;> rfl
theorem PktAt.setK {w : World} {P : Nat} {k : Int} {V : Nat → Int} {tx : ByteArray} {s : Value} (h : PktAt w P k V tx s) (x : Int) : PktAt (w.setCell ⟨P, 0, none⟩ (.int .i64 x)) P x V tx s := by
  unfold PktAt at *
  rw [heap_setCell_cells h]
  rfl
theorem PktAt.setT {w : World} {P : Nat} {k : Int} {V : Nat → Int} {tx : ByteArray} {s : Value} (h : PktAt w P k V tx s) (x : ByteArray) : PktAt (w.setCell ⟨P, 7, none⟩ (.string x)) P k V x s := by
  unfold PktAt at *
  rw [heap_setCell_cells h]
  rfl
theorem PktAt.setL {w : World} {P : Nat} {k : Int} {V : Nat → Int} {tx : ByteArray} {s : Value} (h : PktAt w P k V tx s) (x : Value) : PktAt (w.setCell ⟨P, 8, none⟩ x) P k V tx x := by
  unfold PktAt at *
  rw [heap_setCell_cells h]
  rfl
theorem PktAt.keep {w w' : World} {S : Nat → Prop} {P : Nat} {k : Int} {V : Nat → Int} {tx : ByteArray} {s : Value} (h : PktAt w P k V tx s) (hC : Chg S w w') (hS : ¬ S P) : PktAt w' P k V tx s := hC.keep h hS
theorem CurAt.keep {w0 w w' : World} {S : Nat → Prop} {C : Nat} {b : List Int} {e : Int} (h : CurAt w0 w C b e) (hC : Chg S w w') (hS : ¬ S C) : CurAt w0 w' C b e := by
  obtain ⟨A, cap, hH, hcap, hR⟩ := h
  exact ⟨A, cap, hC.keep hH hS, hcap, hR⟩
theorem CurAt.heap {w0 w : World} {C : Nat} {b : List Int} {e : Int} (h : CurAt w0 w C b e) : ∃ c, w.heap[C]? = some (.cells c 57 (0, 0)) := by
  obtain ⟨A, cap, hH, _⟩ := h
  exact ⟨_, hH⟩
theorem CurAt.move {w0 w w' : World} {C : Nat} {b : List Int} {e : Int} (h : CurAt w0 w C b e) (hh : w'.heap[C]? = w.heap[C]?) : CurAt w0 w' C b e := by
  obtain ⟨A, cap, hH, hcap, hR⟩ := h
  exact ⟨A, cap, hh.trans hH, hcap, hR⟩
theorem PktAt.cellN {w : World} {P : Nat} {k : Int} {V : Nat → Int} {tx : ByteArray} {s : Value} (h : PktAt w P k V tx s) (q : Nat) (h1 : 1 ≤ q) (h6 : q ≤ 6) : w.cell? ⟨P, q, none⟩ = some (.int .i64 (V q)) := by
  rw [cell_of_heap h]
  have : q = 1 ∨ q = 2 ∨ q = 3 ∨ q = 4 ∨ q = 5 ∨ q = 6 := by omega
  rcases this with rfl | rfl | rfl | rfl | rfl | rfl <;> rfl
theorem PktAt.free {w : World} {P : Nat} {k : Int} {V : Nat → Int} {tx : ByteArray} {s : Value} (h : PktAt w P k V tx s) (q : Nat) : w.frozen? ⟨P, q, none⟩ = false := free_of_heap h q
theorem PktAt.lt {w : World} {P : Nat} {k : Int} {V : Nat → Int} {tx : ByteArray} {s : Value} (h : PktAt w P k V tx s) : P < w.heap.size := lt_of_heap h
theorem CurAt.lt {w0 w : World} {C : Nat} {b : List Int} {e : Int} (h : CurAt w0 w C b e) : C < w.heap.size := by
  obtain ⟨A, cap, hH, _⟩ := h
  exact lt_of_heap hH
theorem CurAt.cellE {w0 w : World} {C : Nat} {b : List Int} {e : Int} (h : CurAt w0 w C b e) : w.cell? ⟨C, 1, none⟩ = some (.int .i64 e) := by
  obtain ⟨A, cap, hH, _⟩ := h
  exact cell_of_heap hH 1
/-- a row of texts of one's own, as it reads -/
theorem own_lines {W : World} {base : Nat} {v : Value} {l : List ByteArray} (h : W.ownsRow base 9 1 v l.length (l.map Value.string)) : ∃ A c, v = .slice A l.length c ∧ Lns W A l := by
  rcases h.2 with ⟨rfl, h2⟩ | ⟨g, cap, cur, rfl, hg, hh, r1, r2, r3, r4⟩
  · have : l = [] := by simpa using h2
    subst this
    exact ⟨none, 0, rfl, fun i hi => by simp at hi⟩
  · refine ⟨_, cap, rfl, fun i hi => ⟨g, 0, rfl, ?_⟩⟩
    rw [Nat.zero_add, cell_of_heap hh]
    have h5 : (cur.toList.take (l.length * 1))[i]? = (l.map Value.string)[i]? := by rw [r4]
    rw [List.getElem?_take, if_pos (by omega)] at h5
    rw [← Array.getElem?_toList, h5, List.getElem?_map, List.getElem?_eq_getElem hi]
    simp [List.getD, hi]
theorem strOf_size (l : List Int) : (strOfNums l).size = l.length := strOfNums_size l
theorem textV_size (b : List Int) (e : Int) : (textV b e).size ≤ 65536 := by
  unfold textV
  rw [strOf_size]
  by_cases h : textE b e = 0
  · refine Nat.le_trans (takeL_len _ _ _) ?_
    unfold numN
    unfold textE limE at h
    split at h
    · split at h
      · cases h
      · omega
    · contradiction
  · unfold takeL
    rw [if_neg h]
    simp
/-! ### what Parse tells -/
def fieldS (own : Int) (i : Nat) (s : (Nat → Int) × List Int × Int) : (Nat → Int) × List Int × Int :=
  if bits .and .i64 own (fieldAt 0 0 i).2.1 = 0 then s else (setV s.1 (fieldAt 0 0 i).1 (numOf (takeL s.2.1 s.2.2 7)), takeR s.2.1 s.2.2 7, takeE s.2.1 s.2.2 7)
def fieldsS (own : Int) (s : (Nat → Int) × List Int × Int) : Nat → (Nat → Int) × List Int × Int
  | 0 => s
  | n + 1 => fieldS own n (fieldsS own s n)
def linesS : Nat → List Int → Int → List ByteArray × List Int × Int
  | 0, b, e => ([], b, e)
  | n + 1, b, e => if textRE b e = 0 then (textV b e :: (linesS n (textRB b e) (textRE b e)).1, (linesS n (textRB b e) (textRE b e)).2) else ([textV b e], textRB b e, textRE b e)
theorem sub_fieldS (own : Int) (i : Nat) (s : (Nat → Int) × List Int × Int) (x : Int) (h : x ∈ (fieldS own i s).2.1) : x ∈ s.2.1 := by
  unfold fieldS at h
  split at h
  · exact h
  · exact takeR_sub h
theorem sub_fieldsS (own : Int) (s : (Nat → Int) × List Int × Int) (n : Nat) (x : Int) (h : x ∈ (fieldsS own s n).2.1) : x ∈ s.2.1 := by
  induction n with
  | zero => exact h
  | succ n ih => exact ih (sub_fieldS own n _ x h)
theorem textRB_sub {b : List Int} {e x : Int} (h : x ∈ textRB b e) : x ∈ b := takeR_sub (takeR_sub h)
def zeroV : Nat → Int := fun _ => 0
structure Pkt where
  k : Int
  V : Nat → Int
  tx : ByteArray
  l : List ByteArray
  e : Int
def noPkt (e : Int) : Pkt := ⟨0, zeroV, ByteArray.empty, [], e⟩
def checkP (k : Int) (V : Nat → Int) (tx : ByteArray) (l : List ByteArray) : Int := checkF k (V 1) (V 2) (V 3) (V 4) (V 5) (V 6) tx l
/-- behind the lines -/
def endP (k : Int) (V : Nat → Int) (tx : ByteArray) (r : List ByteArray × List Int × Int) : Pkt :=
  if r.2.2 = 0 then if 0 < r.2.1.length then noPkt 4 else if checkP k V tx r.1 = 0 then ⟨k, V, tx, r.1, 0⟩ else noPkt 4 else noPkt r.2.2
/-- behind the text -/
def linesP (k : Int) (V : Nat → Int) (tx : ByteArray) (b : List Int) (e : Int) : Pkt :=
  endP k V tx (if k = 2 then linesS (numN b e 2) (takeR b e 2) (limE (numOf (takeL b e 2)) 1000 (takeE b e 2)) else ([], b, e))
def textP (k : Int) (s : (Nat → Int) × List Int × Int) : Pkt :=
  if k = 1 then linesP k s.1 (textV s.2.1 s.2.2) (textRB s.2.1 s.2.2) (textRE s.2.1 s.2.2) else linesP k s.1 ByteArray.empty s.2.1 s.2.2
def parseP (b : List Int) : Pkt :=
  if takeE b 0 1 = 0 then if 1 ≤ numOf (takeL b 0 1) ∧ numOf (takeL b 0 1) ≤ 5 then textP (numOf (takeL b 0 1)) (fieldsS (ownOf (numOf (takeL b 0 1))) (zeroV, takeR b 0 1, 0) 6) else noPkt 4 else noPkt (takeE b 0 1)
/-- the answer -/
def ParsePost (w : World) (p : Pkt) (en : Ending) (w' : World) : Prop :=
  ∃ v, en = .returned (.tuple #[.agg #[.int .i64 p.k, .int .i64 (p.V 1), .int .i64 (p.V 2), .int .i64 (p.V 3), .int .i64 (p.V 4), .int .i64 (p.V 5), .int .i64 (p.V 6), .string p.tx, v], .int .i64 p.e]) ∧ w'.ownsRow w.heap.size 9 1 v p.l.length (p.l.map Value.string) ∧ Chg (fun _ => False) w w'
def zeroPkt : Array Value := #[.int .i64 0, .int .i64 0, .int .i64 0, .int .i64 0, .int .i64 0, .int .i64 0, .int .i64 0, .string ByteArray.empty, .slice none 0 0]
theorem zeroPkt_all : zeroPkt.all (·.oneCell') = true := by simp [zeroPkt, Value.oneCell']
theorem infoP : (Tryd.prog.info? 26).map (·.size) = some 9 := by kernel_rfl
theorem sizes_snoc (l : List ByteArray) (x : ByteArray) : sizes (l ++ [x]) = sizes l + x.size := by simp [sizes]
theorem linesS_succ (n : Nat) (b : List Int) (e : Int) : linesS (n + 1) b e = if textRE b e = 0 then (textV b e :: (linesS n (textRB b e) (textRE b e)).1, (linesS n (textRB b e) (textRE b e)).2) else ([textV b e], textRB b e, textRE b e) := rfl
theorem info9 : (Tryd.prog.info? 9).map (fun i => (i.zero, i.size, i.bytes)) = some (some (.string ByteArray.empty), 1, 16) := by kernel_rfl
/-- no packet -/
theorem post_no {w W : World} (P : Nat) (e : Int) (hC : Chg (fun _ => False) w W) (hP : w.heap.size ≤ P) : ParsePost w (noPkt e) (.returned (.tuple #[.agg zeroPkt, .int .i64 e])) (W.setRow P zeroPkt) :=
  ⟨.slice none 0 0, rfl, World.ownsRow_nil _ _ _ _, ⟨hC.os, hC.tape, hC.output, by rw [size_setRow]; exact hC.size, fun k hk _ => (setRow_other W P k zeroPkt (by omega)).trans (hC.block k hk (fun h => h))⟩⟩
theorem setRow_same {w : World} {g : Nat} {c : Array Value} {t : TypeId} {f : Nat × Nat} (h : w.heap[g]? = some (.cells c t f)) (k : Nat) : (w.setRow g c).heap[k]? = w.heap[k]? := by
  by_cases e : k = g
  · subst e
    rw [setRow_heap w k c c t f h, h]
  · exact setRow_other w g k c e
theorem CurAt.cellB {w0 w : World} {C : Nat} {b : List Int} {e : Int} (h : CurAt w0 w C b e) : ∃ A cap, w.cell? ⟨C, 0, none⟩ = some (.slice A b.length cap) := by
  obtain ⟨A, cap, hH, _⟩ := h
  exact ⟨A, cap, cell_of_heap hH 0⟩
theorem results12 (tmps : Array Value) (w : World) (g : Nat) (t : TypeId) (cs : Array Value) (fr : Nat × Nat) (e : Int)
    (hp : tmps.getD 2 undef = .pointer (some ⟨g, 0, none⟩)) (he : tmps.getD 3 undef = .int .i64 e) (hg : w.heap[g]? = some (.cells cs 26 fr)) (hs : cs.size = 9) :
    (results Tryd.f12 tmps).run Tryd.prog w = .ok (.tuple #[.agg cs, .int .i64 e]) w := by
  have hp' : tmps[2]?.getD undef = .pointer (some ⟨g, 0, none⟩) := by simpa using hp
  have he' : tmps[3]?.getD undef = .int .i64 e := by simpa using he
  have hi : (Tryd.prog.info? 26).map (·.size) = some cs.size := by rw [hs]; kernel_rfl
  have hr : Tryd.f12.results = #[.cell 2 26, .tmp 3] := rfl
  have hl := run_loadVar_row (P := Tryd.prog) w g 26 26 cs fr _ hg Tryd.underlying26 rfl hi
  simp [results, hr, hp', he', asAddr, hl]
end Go.Proofs.YteiedafdakffeaaDoor
