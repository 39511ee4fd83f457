/- push: Check at all packets; lines as they lie; an append of a text, as one operation. -/
import Derived.Test.YteiedafdakffeaaDoorPushK
import Derived.Test.YteiedafdakffeaaDoorWWords
namespace Go.Proofs.YteiedafdakffeaaDoor
set_option linter.unusedVariables false
set_option linter.unusedSimpArgs false
open Go Go.RowKit
open Go.Proofs.YteiedafdakffeaaDoorW.PrintWords (Kd bytesOf bytesOf_length)
/-- lines as they lie -/
def Lns (w : World) (A : Option Addr) (l : List ByteArray) : Prop := ∀ i, i < l.length → ∃ g p, A = some ⟨g, p, none⟩ ∧ w.cell? ⟨g, p + i, none⟩ = some (.string (l.getD i ByteArray.empty))
theorem Lns.at {w : World} {A : Option Addr} {l : List ByteArray} (h : Lns w A l) (o : Nat) (ho : w.heap.size ≤ o) : LinesAt w o A l := fun i hi => by
  obtain ⟨g, p, e, hc⟩ := h i hi
  have := World.block_lt_of_cell? w _ hc
  exact ⟨g, p, e, by simp at this; omega, hc⟩
theorem Lns.chg {w w' : World} {A : Option Addr} {l : List ByteArray} (h : Lns w A l) (hC : Chg (fun _ => False) w w') : Lns w' A l := fun i hi => by
  obtain ⟨g, p, e, hc⟩ := h i hi
  exact ⟨g, p, e, hC.cell hc (fun h => h)⟩
theorem Lns.low {w w' : World} {A : Option Addr} {l : List ByteArray} {base : Nat} (h : Lns w A l) (hb : w.heap.size ≤ base) (hC : Chg (fun k => base ≤ k) w w') : Lns w' A l := fun i hi => by
  obtain ⟨g, p, e, hc⟩ := h i hi
  have := World.block_lt_of_cell? w _ hc
  exact ⟨g, p, e, hC.cell hc (fun h => by simp at this h; omega)⟩
theorem C_cells {w : World} {A : Option Addr} {n : Nat} {xs : List ByteArray} (h : Kd.C Kd.string w A n xs) (h0 : 0 < n) : ∃ b o, A = some ⟨b, o, none⟩ ∧ b < w.heap.size ∧ ∀ j x, xs[j]? = some x → w.cell? ⟨b, o + j, none⟩ = some (.string x) := by
  obtain ⟨hl, _, hc⟩ := h
  obtain ⟨⟨b, o, s⟩, rfl, hcells⟩ := hc h0
  have hx : xs[0]? = some xs[0] := List.getElem?_eq_getElem (by omega)
  obtain ⟨c, hc1, hc2, hc3⟩ := hcells 0 _ hx
  have hc2' : c = [Value.string xs[0]] := hc2
  have g0 := hc3 0 (Value.string xs[0]) (by rw [hc2']; rfl)
  have hs : s = none := by simpa [Addr.add] using World.cell?_spot g0
  subst hs
  refine ⟨b, o, rfl, World.block_lt_of_cell? w _ (by simpa [Addr.add] using g0), fun j x hj => ?_⟩
  obtain ⟨c, hc1, hc2, hc3⟩ := hcells j x hj
  have hc2' : c = [Value.string x] := hc2
  have := hc3 0 (Value.string x) (by rw [hc2']; rfl)
  have hz : Kd.string.sz = 1 := rfl
  rw [hz, Nat.mul_one, Nat.add_zero] at this
  by_cases hj0 : j = 0
  · subst hj0; simpa [Addr.add] using this
  · simpa [Addr.add, hj0] using this
theorem lns_of_C {w : World} {A : Option Addr} {l : List ByteArray} (h : Kd.C Kd.string w A l.length l) : Lns w A l := fun i hi => by
  obtain ⟨b, o, e, _, hc⟩ := C_cells h (by omega)
  exact ⟨b, o, e, by rw [hc i l[i] (List.getElem?_eq_getElem hi)]; simp [List.getD, hi]⟩
def checkF (k ver fr nd tk hd tl : Int) (tx : ByteArray) (l : List ByteArray) : Int :=
  if 1 ≤ k ∧ k ≤ 5 then checkE (allOk (ownOf k) (leastOf k) (fromOf k ver) (pushV k ver fr nd tk hd tl)) (textsB (k == 1) tx) (listsB (k == 2) l) else 2
theorem check_all (w : World) (k ver fr nd tk hd tl : Int) (tx : ByteArray) (A : Option Addr) (l : List ByteArray) (cap : Nat) (hl : Lns w A l) (hbig : l.length ≤ 1000000000000) (hs : sizes l ≤ 4611686018427387904) :
    Calls Tryd.prog 24 #[.agg #[.int .i64 k, .int .i64 ver, .int .i64 fr, .int .i64 nd, .int .i64 tk, .int .i64 hd, .int .i64 tl, .string tx, .slice A l.length cap]] w fun e w' => e = .returned (.int .i64 (checkF k ver fr nd tk hd tl tx l)) ∧ Chg (fun _ => False) w w' := by
  by_cases h : 1 ≤ k ∧ k ≤ 5
  · have := check_any w k ver fr nd tk hd tl tx A l cap (fun o ho => hl.at o ho) hbig hs h.1 h.2
    unfold checkF
    rw [if_pos h]
    exact this
  · unfold checkF
    rw [if_neg h]
    exact check_un w k ver fr nd tk hd tl tx _ h
theorem strCells_bytes (s : ByteArray) : Lib.strCells s = u8s (bytesOf s) := by
  simp [Lib.strCells, u8s, bytesOf]
/-- an append of a text onto an owned row of bytes, as one operation -/
theorem wp_append_text {P : Program} {o : Oper} {a : Act} {w : World} {K : Act → World → Prop} {Q : Exit → Act → World → Prop} (sl x : Operand) (t u : TypeId)
    (ho : o.op = .call { callee := .builtin .append, args := #[sl, x], argTypes := #[t, u] })
    (base : Nat) (e : TypeId) (i : TypeInfo) (ht : P.underlying t = some (.slice e)) (hu : P.underlying u = some .string) (hi : P.info? e = some i) (hz : i.zero = some (.int .u8 0))
    (hsize : i.size = 1) (hby : i.bytes = 1)
    (v : Value) (n : Nat) (xs : List Value) (hs : a.eval sl = v) (hown : w.ownsRow base e 1 v n xs) (s : ByteArray) (hx : a.eval x = .string s)
    (h63 : n + s.size ≤ maxLen) (hbytes : n + s.size ≤ 140737488355328) (hbase : base ≤ w.heap.size)
    (h : ∀ v' w', w'.ownsRow base e 1 v' (n + s.size) (xs ++ Lib.strCells s) → w.grownBy w' v.ownBlock → K (a.put o.dst v') w') : o.wp P a w K Q := by
  obtain ⟨v', w', hr, h2, h3, h4⟩ := Lib.run_append_own_string (P := P) w base t u o.type e i ht hu hi hz hsize hby v n xs hown s h63 hbytes hbase
  unfold Oper.wp execOp
  simp only [ho, resolve, invoke, builtin, Sem.run_bind, Sem.run_pure, Result.andThen_ok, List.map_toArray, List.map_cons, List.map_nil, hs, hx, hr]
  exact h _ _ h2 h3
/-- one byte in a block of its own -/
theorem own_one {W : World} {base g : Nat} {x : Int} (hg : base ≤ g) (h : W.heap[g]? = some (.cells #[.int .u8 x] 5 (0, 0))) : W.ownsRow base 5 1 (.slice (some ⟨g, 0, none⟩) 1 1) 1 (u8s [x]) :=
  ⟨by simp [u8s], .inr ⟨g, 1, _, rfl, hg, h, Nat.le_refl _, by unfold maxLen; omega, rfl, rfl⟩⟩
/-! ### what Bytes tells -/
def fieldB (own lo fr : Int) (V : Nat → Int) (i : Nat) : List Int := if bits .and .i64 own (fieldAt lo fr i).2.1 = 0 then [] else rowB (V (fieldAt lo fr i).1) 7
def fieldsB (own lo fr : Int) (V : Nat → Int) (n : Nat) : List Int := (List.range n).flatMap (fieldB own lo fr V)
theorem fieldsB_succ (own lo fr : Int) (V : Nat → Int) (n : Nat) : fieldsB own lo fr V (n + 1) = fieldsB own lo fr V n ++ fieldB own lo fr V n := by
  simp [fieldsB, List.range_succ]
theorem fieldB_len (own lo fr : Int) (V : Nat → Int) (i : Nat) : (fieldB own lo fr V i).length ≤ 7 := by
  unfold fieldB; split
  · simp
  · rw [rowB_length]; omega
theorem fieldsB_len (own lo fr : Int) (V : Nat → Int) (n : Nat) : (fieldsB own lo fr V n).length ≤ 7 * n := by
  induction n with
  | zero => simp [fieldsB]
  | succ n ih => rw [fieldsB_succ, List.length_append]; have := fieldB_len own lo fr V n; omega
def textB (s : ByteArray) : List Int := rowB s.size 3 ++ bytesOf s
theorem textB_length (s : ByteArray) : (textB s).length = 3 + s.size := by rw [textB, List.length_append, rowB_length, bytesOf_length]
def linesB (l : List ByteArray) : List Int := l.flatMap textB
theorem linesB_take (l : List ByteArray) (k : Nat) (h : k < l.length) : linesB (l.take (k + 1)) = linesB (l.take k) ++ textB (l.getD k ByteArray.empty) := by
  have e : l.take (k + 1) = l.take k ++ [l[k]] := by rw [List.take_add_one, List.getElem?_eq_getElem h]; rfl
  unfold linesB
  rw [e, List.flatMap_append]
  simp [List.getD, h]
theorem linesB_length (l : List ByteArray) : (linesB l).length = 3 * l.length + sizes l := by
  induction l with
  | nil => rfl
  | cons x t ih =>
    have : linesB (x :: t) = textB x ++ linesB t := rfl
    rw [this, List.length_append, ih, textB_length]
    have e : sizes (x :: t) = x.size + sizes t := by simp [sizes]
    rw [e, List.length_cons]; omega
def pushB (k ver fr nd tk hd tl : Int) (tx : ByteArray) (l : List ByteArray) : List Int :=
  [k % 256] ++ fieldsB (ownOf k) (leastOf k) (fromOf k ver) (pushV k ver fr nd tk hd tl) 6 ++ (if k = 1 then textB tx else []) ++ (if k = 2 then rowB l.length 2 ++ linesB l else [])
end Go.Proofs.YteiedafdakffeaaDoor
