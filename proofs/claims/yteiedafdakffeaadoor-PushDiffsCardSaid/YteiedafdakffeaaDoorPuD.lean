/- What is asked of the first world (tables of the library), and rows of texts. (And what follows from it: PushS0, PushS1, PushT, PushU, PushV.) -/
import Derived.Test.YteiedafdakffeaaDoorProg
import Derived.Test.YteiedafdakffeaaDoorShelf
import Derived.Test.YteiedafdakffeaaDoorTxtPlain
import Derived.Test.YteiedafdakffeaaDoorPuC
import Derived.Test.YteiedafdakffeaaDoorWWords
import Derived.WalkSmall
import Derived.RangeFuncRecord
import Derived.WalkKit
import Derived.WalkSpells
import Derived.WalkLawsBesides
import Derived.Lib.Hide
import Derived.Test.YteiedafdakffeaaDoorWMore
/- What is asked of the first world (tables of the library), and rows of texts. -/
namespace Go.Proofs.YteiedafdakffeaaDoor
set_option linter.unusedVariables false
set_option linter.unusedSimpArgs false
open Go Go.RowKit Go.Proofs Go.Shelf
open Go.Proofs.YteiedafdakffeaaDoorW.PrintWords (Kd Reps OwnRow)
/-- the variables of the library that the texts' functions read -/
structure WOk (w : World) : Prop where
  len : ∃ m, w.cell? ⟨0, 0, none⟩ = some (.int .i64 m)
theorem WOk.mono {w w' : World} (h : WOk w) (hb : Below w.heap.size w w') : WOk w' := by
  obtain ⟨m, hm⟩ := h.len
  exact ⟨⟨m, (hb.cell (World.block_lt_of_cell? w _ hm)).trans hm⟩⟩
theorem reps_strs (xs : List ByteArray) : Reps (fun (p : ByteArray) cs => cs = [Value.string p]) 1 xs (xs.map Value.string) := by
  refine ⟨by simp, fun j p hj => ?_⟩
  have hlt := (List.getElem?_eq_some_iff.1 hj).1
  rw [Nat.mul_one, List.drop_eq_getElem_cons (by simpa using hlt)]
  simp only [List.take_succ_cons, List.take_zero, List.getElem_map]
  rw [(List.getElem?_eq_some_iff.1 hj).2]
theorem R_strs {w : World} {base : Nat} {v : Value} {xs : List ByteArray} (h : w.ownsRow base 9 1 v xs.length (xs.map Value.string)) : Kd.R Kd.string 9 w base (fun _ => True) v xs :=
  ⟨fun _ _ => trivial, _, h, reps_strs xs⟩
/-- a row in a block of its own that holds more than is seen -/
theorem R_strs_of {w : World} {base g cap : Nat} {xs : List ByteArray} {cur : Array Value} (hg : base ≤ g) (hb : w.heap[g]? = some (.cells cur 9 (0, 0))) (hcap : xs.length ≤ cap) (hm : cap ≤ maxLen) (hs : cur.size = cap)
    (hc : cur.toList.take xs.length = xs.map Value.string) : Kd.R Kd.string 9 w base (fun _ => True) (.slice (some ⟨g, 0, none⟩) xs.length cap) xs :=
  R_strs ⟨by simp, .inr ⟨g, cap, cur, rfl, hg, hb, hcap, hm, by rw [hs, Nat.mul_one], by rw [Nat.mul_one]; exact hc⟩⟩
end Go.Proofs.YteiedafdakffeaaDoor

/- The contract of text.Lines. -/
namespace Go.Proofs.YteiedafdakffeaaDoor
set_option linter.unusedVariables false
set_option linter.unusedSimpArgs false
open Go Go.RowKit Go.Proofs Go.Shelf
open Go.Proofs.YteiedafdakffeaaDoorW.PrintWords (Kd)
/-- what Lines tells -/
def text_Lines.f (a0 : ByteArray) : Option (List ByteArray × Int) := if a0.size > 65536 then some ([], 5) else some ((linesL a0.data.toList).map bs, 0)
theorem lines_pieces (l : List UInt8) : linesL l = if (pieces 10 l).getLast? = some [] then (pieces 10 l).dropLast else pieces 10 l := by
  unfold linesL pieces
  by_cases h : (pcs 10 l).2 = []
  · rw [if_pos h, h]; simp
  · rw [if_neg h, if_neg (by simpa using h)]
theorem below_new (w : World) (o : Obj) : Below w.heap.size w (w.alloc o) := (Below.refl _ w).alloc (Nat.le_refl _) o
set_option maxHeartbeats 1000000 in
theorem lines_any (a0 : ByteArray) (w : World) (hW : WOk w) : Calls Tryd.prog 45 #[.string a0] w fun e w' => ∃ v0_ : Value, e = .returned (.tuple #[v0_, .int .i64 (if a0.size > 65536 then 5 else 0)]) ∧
    Kd.R Kd.string 9 w' w.heap.size (fun _ => True) v0_ (if a0.size > 65536 then [] else (linesL a0.data.toList).map bs) ∧ Below w.heap.size w w' := by
  by_cases h : a0.size > 65536
  · rw [if_pos h, if_pos h]
    go_enter Tryd.func45, Tryd.ntmps45
    go_wp2
    go_ret2
    exact ⟨_, rfl, Kd.R_nil _ _ _ _ _, Below.refl _ _⟩
  · rw [if_neg h, if_neg h]
    obtain ⟨m, hm⟩ := hW.len
    have hS := Tryd.strings_Split a0 ⟨#[10]⟩ m w (by omega) hm (Nat.le_refl 1)
    have hp : Lib.splitB ⟨#[10]⟩ 0 (Lib.countB a0 ⟨#[10]⟩) a0 = (pieces 10 a0.data.toList).map bs := splitB_pieces 10 a0.data.toList
    have hl : (pieces 10 a0.data.toList).length = Lib.countB a0 ⟨#[10]⟩ + 1 := pieces_length 10 a0.data.toList
    rw [hp] at hS
    have hcnt : Lib.countB a0 ⟨#[10]⟩ ≤ a0.size := Lib.countB_le ⟨#[10]⟩ (Nat.le_refl 1) a0.size a0 (Nat.le_refl _)
    generalize Lib.countB a0 ⟨#[10]⟩ = n at *
    have hLN := lines_pieces a0.data.toList
    generalize linesL a0.data.toList = L at *
    generalize pieces 10 a0.data.toList = ps at *
    have hlt : n < ps.length := by omega
    obtain ⟨x, hx⟩ : ∃ x, ps[n]? = some x := ⟨ps[n], List.getElem?_eq_getElem hlt⟩
    have hlast : ps.getLast? = some x := by rw [List.getLast?_eq_getElem?, show ps.length - 1 = n by omega, hx]
    obtain ⟨arr, harr⟩ : ∃ arr, ((ps.map bs).map Value.string).toArray = arr := ⟨_, rfl⟩
    rw [harr] at hS
    have ha : arr[n]? = some (.string (bs x)) := by rw [← harr]; simp [hx]
    have HA := Lib.hid harr
    have HL := Lib.hid hl
    have HX := Lib.hid hx
    have HN := Lib.hid hLN
    have HLA := Lib.hid hlast
    have HB : Hid (Below w.heap.size w (w.alloc (.cells arr 9))) := Lib.hid (below_new w _)
    have HNW : Hid ((w.alloc (.cells arr 9)).heap[w.heap.size]? = some (.cells arr 9 (0, 0))) := Lib.hid (World.alloc_heap_new w (.cells arr 9))
    have hkm : n + 1 ≤ maxLen := by unfold maxLen; omega
    have HKM := Lib.hid hkm
    clear hl hx hLN hlast hm hp hW harr hkm
    have htl : arr.toList = (ps.map bs).map Value.string := by rw [← HA.out]
    have HTL := Lib.hid htl
    clear htl
    by_cases hxe : x = []
    · subst hxe
      have HN2 := HN.out
      rw [HLA.out, if_pos rfl] at HN2
      have HN3 := Lib.hid HN2
      have hem : (bs []).toList.isEmpty = true := by simp [bs, ByteArray.toList_eq]
      generalize bs [] = X at *
      clear HN2
      go_enter Tryd.func45, Tryd.ntmps45
      go_wp2_with fail
      refine hS.mono ?_
      rintro e w' ⟨rfl, rfl⟩
      go_wp2
      go_ret2
      have e1 : n = (L.map bs).length := by rw [HN3.out, List.length_map, List.length_dropLast, HL.out]; rfl
      have e2 : arr.toList.take (L.map bs).length = (L.map bs).map Value.string := by
        rw [HTL.out, ← e1, HN3.out, List.dropLast_eq_take, HL.out]
        simp
      refine ⟨_, rfl, ?_, HB.out⟩
      have := R_strs_of (base := w.heap.size) (xs := L.map bs) (cap := n + 1) (Nat.le_refl _) HNW.out (by omega) HKM.out (by have := congrArg List.length HTL.out; simpa [HL.out] using this) e2
      rw [← e1] at this
      exact this
    · have HN2 := HN.out
      rw [HLA.out, if_neg (by simpa using hxe)] at HN2
      have HN3 := Lib.hid HN2
      have hem : (bs x).toList.isEmpty = false := by
        have e : (bs x).toList = x := by simp [bs, ByteArray.toList_eq]
        rw [e]; simpa using hxe
      generalize bs x = X at *
      clear HN2
      go_enter Tryd.func45, Tryd.ntmps45
      go_wp2_with fail
      refine hS.mono ?_
      rintro e w' ⟨rfl, rfl⟩
      go_wp2
      go_ret2
      have e1 : n + 1 = (L.map bs).length := by rw [HN3.out, List.length_map, HL.out]
      have e2 : arr.toList.take (L.map bs).length = (L.map bs).map Value.string := by
        rw [HTL.out, HN3.out, List.take_of_length_le (by simp)]
      refine ⟨_, rfl, ?_, HB.out⟩
      have := R_strs_of (base := w.heap.size) (xs := L.map bs) (cap := n + 1) (Nat.le_refl _) HNW.out (by omega) HKM.out (by have := congrArg List.length HTL.out; simpa [HL.out] using this) e2
      rw [← e1] at this
      exact this
theorem text_Lines.calls (a0 : ByteArray) (r1 : List ByteArray) (r2 : Int) (w : World) (h : text_Lines.f a0 = some (r1, r2)) (hW : WOk w) :
    Calls Tryd.prog 45 #[.string a0] w fun e w' => ∃ v0_ : Value, e = .returned (.tuple #[v0_, .int .i64 r2]) ∧ Kd.R Kd.string 9 w' w.heap.size (fun _ => True) v0_ r1 ∧ Below w.heap.size w w' := by
  have H := lines_any a0 w hW
  unfold text_Lines.f at h
  split at h
  · rename_i hc
    rw [if_pos hc, if_pos hc] at H
    simp only [Option.some.injEq, Prod.mk.injEq] at h
    obtain ⟨rfl, rfl⟩ := h
    exact H
  · rename_i hc
    rw [if_neg hc, if_neg hc] at H
    simp only [Option.some.injEq, Prod.mk.injEq] at h
    obtain ⟨rfl, rfl⟩ := h
    exact H
end Go.Proofs.YteiedafdakffeaaDoor

/- push: rows of texts: as they read, cut, turned round; alike. -/
namespace Go.Proofs.YteiedafdakffeaaDoor
set_option linter.unusedVariables false
set_option linter.unusedSimpArgs false
open Go Go.RowKit Go.Proofs Go.Shelf Go.Sort
open Go.Proofs.YteiedafdakffeaaDoorW.PrintWords (Kd Reps OwnRow ReadsOf own_move print_drop_of print_take_of gate_dst gate_store)
attribute [local go_sem] Go.Proofs.YteiedafdakffeaaDoorW.PrintMore.min2_int Go.Proofs.YteiedafdakffeaaDoorW.PrintMore.min_two
theorem own_of_R {w : World} {base : Nat} {ok : Nat → Prop} {v : Value} {xs : List ByteArray} (h : Kd.R Kd.string 9 w base ok v xs) : w.ownsRow base 9 1 v xs.length (xs.map Value.string) := by
  obtain ⟨_, inner, ho, hl, hr⟩ := h
  have e : inner = xs.map Value.string := by
    apply List.ext_getElem?
    intro j
    rcases Nat.lt_or_ge j xs.length with hj | hj
    · have h1 := hr j xs[j] (List.getElem?_eq_getElem hj)
      have h2 : (inner.drop (j * 1)).take 1 = [Value.string xs[j]] := h1
      have hl' : inner.length = xs.length := by rw [hl]; exact Nat.mul_one _
      have hi : j < inner.length := by omega
      rw [Nat.mul_one, List.drop_eq_getElem_cons hi] at h2
      simp only [List.take_succ_cons, List.take_zero, List.cons.injEq, and_true] at h2
      rw [List.getElem?_eq_getElem hi, h2]
      simp [hj]
    · have hl' : inner.length = xs.length := by rw [hl]; exact Nat.mul_one _
      rw [List.getElem?_eq_none (by omega), List.getElem?_eq_none (by simpa using hj)]
  rw [e] at ho
  exact ho
theorem reads_of_lns {w : World} {A : Option Addr} {l : List ByteArray} (h : Lns w A l) (hb : l.length ≤ 9223372036854775807) : ReadsOf Value.string ByteArray.empty w A l.length l := by
  refine ⟨rfl, hb, fun h0 => ?_⟩
  obtain ⟨g, p, rfl, hc⟩ := lns_cells h h0
  refine ⟨_, rfl, fun j hj => ?_⟩
  rw [← hc j hj]
  congr 1
  unfold Addr.add
  by_cases e : j = 0
  · subst e; simp
  · simp [e]
theorem lns_of_reads {w : World} {A : Option Addr} {l : List ByteArray} (h : ReadsOf Value.string ByteArray.empty w A l.length l) : Lns w A l := fun i hi => by
  obtain ⟨ad, rfl, hc⟩ := h.2.2 (by omega)
  have h0 := hc 0 (by omega)
  have hs : ad.spot = none := (show (ad.add 0).spot = ad.spot by simp [Addr.add]).symm.trans (World.cell?_spot h0)
  obtain ⟨g, p, s⟩ := ad
  simp at hs
  subst hs
  refine ⟨g, p, rfl, ?_⟩
  rw [← hc i hi]
  congr 1
  unfold Addr.add
  by_cases e : i = 0
  · subst e; simp
  · simp [e]
/-! ### a row in its place, that may be written -/
def MRow (w : World) (g off : Nat) (l : List ByteArray) : Prop := ∀ j, j < l.length → w.cell? ⟨g, off + j, none⟩ = some (.string (l.getD j ByteArray.empty)) ∧ w.frozen? ⟨g, off + j, none⟩ = false
theorem MRow.lns {w : World} {g off : Nat} {l : List ByteArray} (h : MRow w g off l) : Lns w (some ⟨g, off, none⟩) l := fun i hi => ⟨g, off, rfl, (h i hi).1⟩
theorem MRow.drop {w : World} {g off : Nat} {l : List ByteArray} (h : MRow w g off l) (k : Nat) : MRow w g (off + k) (l.drop k) := fun j hj => by
  rw [List.length_drop] at hj
  have := h (k + j) (by omega)
  rw [Nat.add_assoc]
  rw [show (l.drop k).getD j ByteArray.empty = l.getD (k + j) ByteArray.empty by simp [List.getD, List.getElem?_drop]]
  exact this
theorem own_mrow {W : World} {base : Nat} {v : Value} {l : List ByteArray} (h : W.ownsRow base 9 1 v l.length (l.map Value.string)) : (v = .slice none 0 0 ∧ l = []) ∨ ∃ g cap, v = .slice (some ⟨g, 0, none⟩) l.length cap ∧ base ≤ g ∧ l.length ≤ cap ∧ MRow W g 0 l := by
  rcases h.2 with ⟨rfl, h2⟩ | ⟨g, cap, cur, rfl, hg, hh, r1, r2, r3, r4⟩
  · exact .inl ⟨rfl, by simpa using h2⟩
  · refine .inr ⟨g, cap, rfl, hg, r1, fun i hi => ⟨?_, by simp [World.frozen?, hh]⟩⟩
    rw [Nat.zero_add, cell_of_heap hh]
    have h5 : (cur.toList.take (l.length * 1))[i]? = (l.map Value.string)[i]? := by rw [r4]
    rw [List.getElem?_take, if_pos (by omega)] at h5
    rw [← Array.getElem?_toList, h5, List.getElem?_map, List.getElem?_eq_getElem hi]
    simp [List.getD, hi]
def encs (l : List ByteArray) : List (List UInt8) := l.map fun s => s.data.toList
theorem encs_get (l : List ByteArray) (j : Nat) (hj : j < l.length) : encStr (encs l).toArray[j]! = .string (l.getD j ByteArray.empty) := by
  have h1 : j < (encs l).toArray.size := by simpa [encs] using hj
  rw [getElem!_pos _ j h1]
  simp [encs, List.getD, hj, encStr]
theorem mrow_holds {w : World} {g off : Nat} {l : List ByteArray} : MRow w g off l ↔ Holds encStr w g off (encs l).toArray := by
  constructor
  · intro h j hj
    have hj' : j < l.length := by simpa [encs] using hj
    rw [encs_get l j hj']
    exact h j hj'
  · intro h j hj
    have := h j (by simpa [encs] using hj)
    rw [encs_get l j hj] at this
    exact this
theorem chg_putRow (w : World) (n g off : Nat) (d : Array (List UInt8)) : Chg (fun k => k = g) w (putRow encStr (Sort.ahead w n) g off d) :=
  ⟨rfl, rfl, rfl, by simp [putRow, mapBlock, Sort.ahead], fun k hk hn => by
    simp only [putRow, mapBlock, Sort.ahead, Array.getElem?_modify]
    rw [if_neg (fun e => hn e.symm)]⟩
theorem reverse_some (w : World) (g off cap : Nat) (l : List ByteArray) (h : MRow w g off l) (hb : l.length ≤ 9223372036854775807) :
    Calls Tryd.prog 48 #[.slice (some ⟨g, off, none⟩) l.length cap] w fun e w' => e = .returned (.tuple #[]) ∧ MRow w' g off l.reverse ∧ Chg (fun k => k = g) w w' := by
  have hl : (encs l).length = l.length := by simp [encs]
  have := Tryd.slices_Reverse_string g off cap (encs l) w (mrow_holds.1 h) (by rw [hl]; exact hb)
  rw [hl] at this
  refine this.mono ?_
  rintro e w' ⟨rfl, n, rfl⟩
  refine ⟨rfl, ?_, chg_putRow _ _ _ _ _⟩
  have e : (encs l).reverse.toArray = (encs l.reverse).toArray := by simp [encs]
  rw [e]
  exact mrow_holds.2 (holds_putRow encStr (Sort.ahead w n) g off _ _ (holds_ahead _ _ _ _ _ _ (mrow_holds.1 h)) (by simp [encs]))
/-! ### alike -/
def alikeN : List ByteArray → List ByteArray → Nat
  | x :: s, y :: t => if x = y then alikeN s t + 1 else 0
  | _, _ => 0
theorem alikeN_le (l m : List ByteArray) : alikeN l m ≤ l.length ∧ alikeN l m ≤ m.length := by
  induction l generalizing m with
  | nil => simp [alikeN]
  | cons x s ih =>
    cases m with
    | nil => simp [alikeN]
    | cons y t =>
      have := ih t
      simp only [alikeN, List.length_cons]
      split <;> omega
theorem alikeN_step (l m : List ByteArray) (k : Nat) (h1 : k < l.length) (h2 : k < m.length) : alikeN (l.drop k) (m.drop k) = if l.getD k ByteArray.empty = m.getD k ByteArray.empty then alikeN (l.drop (k + 1)) (m.drop (k + 1)) + 1 else 0 := by
  rw [List.drop_eq_getElem_cons h1, List.drop_eq_getElem_cons h2]
  simp only [alikeN, List.getD, List.getElem?_eq_getElem h1, List.getElem?_eq_getElem h2, Option.getD_some]
theorem alikeN_end (l m : List ByteArray) (k : Nat) (h : l.length ≤ k ∨ m.length ≤ k) : alikeN (l.drop k) (m.drop k) = 0 := by
  rcases h with h | h
  · rw [List.drop_of_length_le h]; rfl
  · rw [List.drop_of_length_le h]; cases l.drop k <;> rfl
theorem ba_eq (x y : ByteArray) : (x.toList == y.toList) = decide (x = y) := by
  rw [Bool.eq_iff_iff, beq_iff_eq, decide_eq_true_eq]
  constructor
  · intro h
    rw [ByteArray.toList_eq, ByteArray.toList_eq] at h
    exact ByteArray.ext (Array.ext' h)
  · rintro rfl; rfl
set_option maxRecDepth 100000 in
set_option maxHeartbeats 4000000 in
theorem alike_some (w : World) (A B : Option Addr) (l m : List ByteArray) (c d : Nat) (hl : Lns w A l) (hm : Lns w B m) (h1 : l.length ≤ 9223372036854775807) (h2 : m.length ≤ 9223372036854775807) :
    Calls Tryd.prog 46 #[.slice A l.length c, .slice B m.length d] w fun e w' => e = .returned (.int .i64 (alikeN l m)) ∧ Chg (fun _ => False) w w' := by
  have HL := Lib.hid hl
  have HM := Lib.hid hm
  clear hl hm
  go_enter Tryd.func46, Tryd.ntmps46
  go_wp2_with fail
  go_loopw [4] (fun i wr => ∃ k q : Nat, k ≤ l.length ∧ k ≤ m.length ∧ i = .int .i64 k ∧ Hid (alikeN l m = k + alikeN (l.drop k) (m.drop k)) ∧ wr = w.drewN q) (fun i _ => l.length - (intOf i).toNat)
  case atStart => exact ⟨0, 0, by omega, by omega, rfl, Lib.hid (by simp), rfl⟩
  case round =>
    obtain ⟨k, q, hk1, hk2, rfl, HE, rfl⟩ := hrel
    by_cases hml : m.length < l.length
    · by_cases hlt2 : k < m.length
      · have hlt1 : k < l.length := by omega
        obtain ⟨g, p, rfl, c1⟩ := HL.out k hlt1
        obtain ⟨g', p', rfl, c2⟩ := HM.out k hlt2
        have hst := alikeN_step l m k hlt1 hlt2
        have hq := ba_eq (l.getD k ByteArray.empty) (m.getD k ByteArray.empty)
        have HST := Lib.hid hst
        clear hst
        generalize l.getD k ByteArray.empty = x at *
        generalize m.getD k ByteArray.empty = y at *
        by_cases hxy : x = y
        · have HT : Hid (alikeN l m = (k + 1 : Nat) + alikeN (l.drop (k + 1)) (m.drop (k + 1))) := Lib.hid (by rw [HE.out, HST.out, if_pos hxy]; omega)
          rw [decide_eq_true hxy] at hq
          clear hxy HST HE
          go_wp2_with fail
          go_quiet (fail)
          go_wp2
          go_roundw
          case rel => exact ⟨k + 1, _, by omega, by omega, by go_num, HT, rfl⟩
          case measure => simp [intOf]; omega
        · have HT : Hid (alikeN l m = k) := Lib.hid (by rw [HE.out, HST.out, if_neg hxy]; omega)
          rw [decide_eq_false hxy] at hq
          clear hxy HST HE
          go_wp2_with fail
          go_quiet (fail)
          go_wp2
          go_ret
          exact ⟨by rw [HT.out]; rfl, by rw [World.drewN_drewN]; exact (Chg.refl _ _).drewN _⟩
      · have HT : Hid (alikeN l m = k) := Lib.hid (by rw [HE.out, alikeN_end l m k (by omega)]; omega)
        have hd : decide (k < m.length) = false := decide_eq_false hlt2
        clear HE
        go_wp2_with fail
        go_quiet (fail)
        go_wp2
        go_ret
        exact ⟨by rw [HT.out]; rfl, by rw [World.drewN_drewN]; exact (Chg.refl _ _).drewN _⟩
    · by_cases hlt1 : k < l.length
      · have hlt2 : k < m.length := by omega
        obtain ⟨g, p, rfl, c1⟩ := HL.out k hlt1
        obtain ⟨g', p', rfl, c2⟩ := HM.out k hlt2
        have hst := alikeN_step l m k hlt1 hlt2
        have hq := ba_eq (l.getD k ByteArray.empty) (m.getD k ByteArray.empty)
        have HST := Lib.hid hst
        clear hst
        generalize l.getD k ByteArray.empty = x at *
        generalize m.getD k ByteArray.empty = y at *
        by_cases hxy : x = y
        · have HT : Hid (alikeN l m = (k + 1 : Nat) + alikeN (l.drop (k + 1)) (m.drop (k + 1))) := Lib.hid (by rw [HE.out, HST.out, if_pos hxy]; omega)
          rw [decide_eq_true hxy] at hq
          clear hxy HST HE
          go_wp2_with fail
          go_quiet (fail)
          go_wp2
          go_roundw
          case rel => exact ⟨k + 1, _, by omega, by omega, by go_num, HT, rfl⟩
          case measure => simp [intOf]; omega
        · have HT : Hid (alikeN l m = k) := Lib.hid (by rw [HE.out, HST.out, if_neg hxy]; omega)
          rw [decide_eq_false hxy] at hq
          clear hxy HST HE
          go_wp2_with fail
          go_quiet (fail)
          go_wp2
          go_ret
          exact ⟨by rw [HT.out]; rfl, by rw [World.drewN_drewN]; exact (Chg.refl _ _).drewN _⟩
      · have HT : Hid (alikeN l m = k) := Lib.hid (by rw [HE.out, alikeN_end l m k (by omega)]; omega)
        have hd : decide (k < l.length) = false := decide_eq_false hlt1
        clear HE
        go_wp2_with fail
        go_quiet (fail)
        go_wp2
        go_ret
        exact ⟨by rw [HT.out]; rfl, by rw [World.drewN_drewN]; exact (Chg.refl _ _).drewN _⟩
end Go.Proofs.YteiedafdakffeaaDoor

/- push: Diff. -/
namespace Go.Proofs.YteiedafdakffeaaDoor
set_option linter.unusedVariables false
set_option linter.unusedSimpArgs false
open Go Go.RowKit Go.Proofs Go.Shelf Go.Sort
open Go.Proofs.YteiedafdakffeaaDoorW.PrintWords (Kd ReadsOf own_move print_drop_of gate_dst gate_store)
def lnsOf (s : ByteArray) : List ByteArray := (linesL s.data.toList).map bs
def diffV (h t : Nat) : Nat → Int
  | 1 => 2
  | 2 => 1
  | 5 => h
  | 6 => t
  | _ => 0
def diffH (a b : List ByteArray) : Nat := alikeN a b
def diffA (a b : List ByteArray) : List ByteArray := (a.drop (alikeN a b)).reverse
def diffB (a b : List ByteArray) : List ByteArray := (b.drop (alikeN a b)).reverse
def diffT (a b : List ByteArray) : Nat := alikeN (diffA a b) (diffB a b)
def diffL (a b : List ByteArray) : List ByteArray := ((diffB a b).drop (diffT a b)).reverse
def diffP (s t : ByteArray) : Pkt :=
  if s.size > 65536 then noPkt 5 else if t.size > 65536 then noPkt 5 else
    if 1000 < (diffL (lnsOf s) (lnsOf t)).length then noPkt 5 else ⟨2, diffV (diffH (lnsOf s) (lnsOf t)) (diffT (lnsOf s) (lnsOf t)), ByteArray.empty, diffL (lnsOf s) (lnsOf t), 0⟩
/-- a slice of texts in memory that is new -/
def NewAt (base : Nat) (w : World) (A : Option Addr) (c : Nat) : Prop := (A = none ∧ c = 0) ∨ ∃ g off cur, A = some ⟨g, off, none⟩ ∧ base ≤ g ∧ w.heap[g]? = some (.cells cur 9 (0, 0)) ∧ off + c ≤ cur.size
def DiffPost (w : World) (p : Pkt) (en : Ending) (w' : World) : Prop :=
  ∃ A c, en = .returned (.tuple #[.agg (pk p.k p.V p.tx (.slice A p.l.length c)), .int .i64 p.e]) ∧ p.l.length ≤ c ∧ Lns w' A p.l ∧ NewAt w.heap.size w' A c ∧ Chg (fun _ => False) w w'
theorem NewAt.chg {base : Nat} {w w' : World} {A : Option Addr} {c : Nat} (h : NewAt base w A c) (hC : Chg (fun _ => False) w w') : NewAt base w' A c := by
  rcases h with h | ⟨g, off, cur, rfl, hg, hh, ho⟩
  · exact .inl h
  · exact .inr ⟨g, off, cur, rfl, hg, hC.keep hh (fun h => h), ho⟩
theorem NewAt.setRow {base P : Nat} {w : World} {A : Option Addr} {c : Nat} (h : NewAt base w A c) (hP : P < base) (cs : Array Value) (base' : Nat) (hb : base' ≤ base) : NewAt base' (w.setRow P cs) A c := by
  rcases h with h | ⟨g, off, cur, rfl, hg, hh, ho⟩
  · exact .inl h
  · exact .inr ⟨g, off, cur, rfl, by omega, (setRow_other w P g cs (by omega)).trans hh, ho⟩
theorem NewAt.lns {base P : Nat} {w : World} {A : Option Addr} {c : Nat} {l : List ByteArray} (h : NewAt base w A c) (hl : Lns w A l) (hP : P < base) (cs : Array Value) : Lns (w.setRow P cs) A l := fun i hi => by
  obtain ⟨g, p, e, hc⟩ := hl i hi
  rcases h with ⟨rfl, _⟩ | ⟨g', off, cur, e', hg, hh, ho⟩
  · cases e
  · rw [e'] at e
    cases e
    exact ⟨g, p, e', (World.cell?_of_block (w := w) (setRow_other w P g cs (by omega))).trans hc⟩
theorem results17 (tmps : Array Value) (w : World) (g : Nat) (cs : Array Value) (fr : Nat × Nat) (e : Int)
    (hp : tmps.getD 4 undef = .pointer (some ⟨g, 0, none⟩)) (he : tmps.getD 5 undef = .int .i64 e) (hg : w.heap[g]? = some (.cells cs 26 fr)) (hs : cs.size = 9) :
    (results Tryd.f17 tmps).run Tryd.prog w = .ok (.tuple #[.agg cs, .int .i64 e]) w := by
  have hp' : tmps[4]?.getD undef = .pointer (some ⟨g, 0, none⟩) := by simpa using hp
  have he' : tmps[5]?.getD undef = .int .i64 e := by simpa using he
  have hi : (Tryd.prog.info? 26).map (·.size) = some cs.size := by rw [hs]; kernel_rfl
  have hr : Tryd.f17.results = #[.cell 4 26, .tmp 5] := rfl
  have hl := run_loadVar_row (P := Tryd.prog) w g 26 26 cs fr _ hg Tryd.underlying26 rfl hi
  simp [results, hr, hp', he', asAddr, hl]
theorem diff_no {w W : World} (P : Nat) (e : Int) (hC : Chg (fun _ => False) w W) (hP : w.heap.size ≤ P) : DiffPost w (noPkt e) (.returned (.tuple #[.agg zeroPkt, .int .i64 e])) (W.setRow P zeroPkt) :=
  ⟨none, 0, rfl, Nat.le_refl _, fun i hi => by simp [noPkt] at hi, .inl ⟨rfl, rfl⟩, ⟨hC.os, hC.tape, hC.output, by rw [size_setRow]; exact hC.size, fun k hk _ => (setRow_other W P k zeroPkt (by omega)).trans (hC.block k hk (fun h => h))⟩⟩
/-- a row of one's own, turned round -/
theorem rev_own (w : World) (base : Nat) (v : Value) (l : List ByteArray) (ho : w.ownsRow base 9 1 v l.length (l.map Value.string)) (hb : l.length ≤ 9223372036854775807) :
    Calls Tryd.prog 48 #[v] w fun e w' => e = .returned (.tuple #[]) ∧ w'.ownsRow base 9 1 v l.reverse.length (l.reverse.map Value.string) ∧ Chg (fun k => v.ownBlock = some k) w w' := by
  rcases own_mrow ho with ⟨rfl, rfl⟩ | ⟨g, cap, rfl, hg, hcap, hm⟩
  · refine (Tryd.slices_Reverse_string_empty none 0 w).mono ?_
    rintro e w' ⟨rfl, rfl⟩
    exact ⟨rfl, ho, Chg.refl _ _⟩
  · have hl : (encs l).length = l.length := by simp [encs]
    have := Tryd.slices_Reverse_string g 0 cap (encs l) w (mrow_holds.1 hm) (by rw [hl]; exact hb)
    rw [hl] at this
    refine this.mono ?_
    rintro e w' ⟨rfl, n, rfl⟩
    refine ⟨rfl, ?_, (chg_putRow w n g 0 _).mono (fun k _ e => by rw [e]; rfl)⟩
    rcases ho.2 with ⟨h1, _⟩ | ⟨g', cap', cur, hv, hg', hh, r1, r2, r3, r4⟩
    · cases h1
    · cases hv
      have er : (encs l).reverse.toArray = (encs l.reverse).toArray := by simp [encs]
      rw [er]
      refine ⟨by simp, .inr ⟨g, cap, putCells encStr 0 (encs l.reverse).toArray cur, by simp, hg, ?_, by simpa using r1, r2, by simpa [putCells] using r3, ?_⟩⟩
      · simp only [putRow, mapBlock, Sort.ahead, Array.getElem?_modify, hh, if_true]
        rfl
      · apply List.ext_getElem?
        intro j
        have hcs : l.length ≤ cur.size := by omega
        rw [List.getElem?_take]
        rcases Nat.lt_or_ge j l.length with hj | hj
        · rw [if_pos (by simpa using hj), Array.getElem?_toList]
          simp only [putCells, Array.getElem?_mapIdx]
          rw [Array.getElem?_eq_getElem (by omega), Option.map_some, if_pos ⟨by omega, by simp [encs]; omega⟩, Nat.sub_zero, encs_get l.reverse j (by simpa using hj)]
          rw [List.getElem?_map, List.getElem?_eq_getElem (by simpa using hj)]
          simp [List.getD, hj]
        · rw [if_neg (by simp; omega), List.getElem?_eq_none (by simpa using hj)]
theorem slice_from (A : Option Addr) (n c m : Nat) (hm : m ≤ n) (W : World) : (Instr.slice 24 (.slice A n c) (some (.int .i64 (m : Int))) none none).run Tryd.prog W = .ok (.slice (if c = m then A else A.map (·.add m)) (n - m) (c - m)) W := by
  obtain ⟨i9, hi9, hz90, hz91, hz92⟩ := info_parts info9
  have hel : Tryd.prog.elem 24 = 9 := by simp [Program.elem, Tryd.underlying24]
  have hu : Tryd.prog.underlying 24 = some (.slice (Tryd.prog.elem 24)) := by rw [hel]; exact Tryd.underlying24
  rw [run_slice_l W 24 A n c hu .i64 (m : Int) (Int.natCast_nonneg _) (by omega), hel]
  simp [sizeOf, typeInfo, hi9, hz91, sliced, Result.andThen]
/-- the end of a row of one's own, turned round -/
theorem rev_tail (w : World) (base : Nat) (A : Option Addr) (cap : Nat) (l : List ByteArray) (m : Nat) (ho : w.ownsRow base 9 1 (.slice A l.length cap) l.length (l.map Value.string)) (hm : m ≤ l.length) (hb : l.length ≤ 9223372036854775807) :
    ∃ X c, (∀ W, (Instr.slice 24 (.slice A l.length cap) (some (.int .i64 (m : Int))) none none).run Tryd.prog W = .ok (.slice X (l.drop m).length c) W) ∧ (l.drop m).length ≤ c ∧
      Calls Tryd.prog 48 #[.slice X (l.drop m).length c] w fun e w' => e = .returned (.tuple #[]) ∧ Lns w' X (l.drop m).reverse ∧ NewAt base w' X c ∧ Chg (fun k => (Value.slice A l.length cap).ownBlock = some k) w w' := by
  have hdl : (l.drop m).length = l.length - m := List.length_drop
  refine ⟨_, _, fun W => by rw [hdl]; exact slice_from A l.length cap m hm W, ?_, ?_⟩
  · rcases ho.2 with ⟨h1, h2⟩ | ⟨g, cap', cur, hv, hg, hh, r1, r2, r3, r4⟩
    · have : l = [] := by simpa using h2
      subst this; simp
    · cases hv; omega
  · rcases ho.2 with ⟨h1, h2⟩ | ⟨g, cap', cur, hv, hg, hh, r1, r2, r3, r4⟩
    · have : l = [] := by simpa using h2
      subst this
      simp at h1
      obtain ⟨rfl, rfl⟩ := h1
      have : m = 0 := by simpa using hm
      subst this
      refine (Tryd.slices_Reverse_string_empty none 0 w).mono ?_
      rintro e w' ⟨rfl, rfl⟩
      exact ⟨rfl, fun i hi => by simp at hi, .inl ⟨rfl, rfl⟩, Chg.refl _ _⟩
    · cases hv
      rcases Nat.eq_zero_or_pos (l.drop m).length with h0 | h0
      · rw [h0]
        have hdn : l.drop m = [] := List.length_eq_zero_iff.1 h0
        refine (Tryd.slices_Reverse_string_empty _ _ w).mono ?_
        rintro e w' ⟨rfl, rfl⟩
        refine ⟨rfl, fun i hi => by rw [hdn] at hi; simp at hi, .inr ?_, Chg.refl _ _⟩
        by_cases e : cap = m
        · rw [if_pos e]
          exact ⟨g, 0, cur, rfl, hg, hh, by omega⟩
        · rw [if_neg e]
          refine ⟨g, m, cur, ?_, hg, hh, by omega⟩
          unfold Addr.add
          by_cases e0 : m = 0
          · subst e0; simp
          · simp [e0]
      · have e : cap ≠ m := by omega
        rw [if_neg e]
        have ea : Option.map (fun x : Addr => x.add m) (some ⟨g, 0, none⟩) = some ⟨g, m, none⟩ := by
          unfold Addr.add
          by_cases e0 : m = 0
          · subst e0; simp
          · simp [e0]
        rw [ea]
        have hmr : MRow w g 0 l := by
          rcases own_mrow ho with ⟨h1, _⟩ | ⟨g', cap', hv, _, _, hm'⟩
          · cases h1
          · cases hv; exact hm'
        have hmd := hmr.drop m
        rw [Nat.zero_add] at hmd
        have hl : (encs (l.drop m)).length = (l.drop m).length := by simp [encs]
        have := Tryd.slices_Reverse_string g m (cap - m) (encs (l.drop m)) w (mrow_holds.1 hmd) (by rw [hl]; omega)
        rw [hl] at this
        refine this.mono ?_
        rintro e w' ⟨rfl, n, rfl⟩
        have er : (encs (l.drop m)).reverse.toArray = (encs (l.drop m).reverse).toArray := by simp [encs]
        rw [er]
        refine ⟨rfl, (mrow_holds.2 (holds_putRow encStr (Sort.ahead w n) g m _ _ (holds_ahead _ _ _ _ _ _ (mrow_holds.1 hmd)) (by simp [encs]))).lns, .inr ⟨g, m, putCells encStr m (encs (l.drop m).reverse).toArray cur, rfl, hg, ?_, by simp [putCells]; omega⟩, (chg_putRow w n g m _).mono (fun k _ e => by rw [e]; rfl)⟩
        simp only [putRow, mapBlock, Sort.ahead, Array.getElem?_modify, hh, if_true]
        rfl
theorem pcs_len (c : UInt8) (l : List UInt8) : ∀ o r, (l.foldl (stp c) (o, r)).1.length ≤ o.length + l.length := by
  induction l with
  | nil => intro o r; simp
  | cons x t ih =>
    intro o r
    rw [List.foldl_cons, List.length_cons]
    unfold stp
    split
    · refine Nat.le_trans (ih _ _) ?_
      simp; omega
    · refine Nat.le_trans (ih _ _) ?_
      show o.length + t.length ≤ _
      omega
theorem lnsOf_len (s : ByteArray) : (lnsOf s).length ≤ s.size + 1 := by
  unfold lnsOf linesL
  have h := pcs_len 10 s.data.toList [] []
  have hz : s.data.toList.length = s.size := by rw [Array.length_toList]; rfl
  rw [hz] at h
  have h' : (pcs 10 s.data.toList).1.length ≤ s.size := Nat.le_trans h (by rw [List.length_nil]; omega)
  split
  · rw [List.length_map]; omega
  · rw [List.length_map, List.length_append, List.length_singleton]; omega
end Go.Proofs.YteiedafdakffeaaDoor

/- push: Diff, walked. -/
namespace Go.Proofs.YteiedafdakffeaaDoor
set_option linter.unusedVariables false
set_option linter.unusedSimpArgs false
open Go Go.RowKit Go.Proofs Go.Shelf Go.Sort
open Go.Proofs.YteiedafdakffeaaDoorW.PrintWords (Kd ReadsOf own_move print_drop_of gate_dst gate_store)
theorem WOk.chg {w w' : World} (h : WOk w) (hC : Chg (fun _ => False) w w') : WOk w' := by
  obtain ⟨m, hm⟩ := h.len
  exact ⟨⟨m, hC.cell hm (fun h => h)⟩⟩
theorem lines_long (w : World) (s : ByteArray) (hW : WOk w) (h : s.size > 65536) : Calls Tryd.prog 45 #[.string s] w fun e w' => e = .returned (.tuple #[.slice none 0 0, .int .i64 5]) ∧ Chg (fun _ => False) w w' := by
  go_enter Tryd.func45, Tryd.ntmps45
  go_wp2
  go_ret2
  exact ⟨rfl, Chg.refl _ _⟩
theorem lines_fits (w : World) (s : ByteArray) (hW : WOk w) (h : ¬ s.size > 65536) : Calls Tryd.prog 45 #[.string s] w fun e w' => ∃ v, e = .returned (.tuple #[v, .int .i64 0]) ∧ w'.ownsRow w.heap.size 9 1 v (lnsOf s).length ((lnsOf s).map Value.string) ∧ Chg (fun _ => False) w w' := by
  have := lines_any s w hW
  rw [if_neg h, if_neg h] at this
  refine this.mono ?_
  rintro e w' ⟨v, rfl, hr, hB⟩
  exact ⟨v, rfl, own_of_R hr, Below.chg hB (Nat.le_refl _) _⟩
theorem own_chg {W W' : World} {S : Nat → Prop} {base : Nat} {e : TypeId} {size : Nat} {v : Value} {n : Nat} {xs : List Value} (h : W.ownsRow base e size v n xs) (hC : Chg S W W') (hS : ∀ k, v.ownBlock = some k → ¬ S k) : W'.ownsRow base e size v n xs :=
  own_move h (fun q hq => hC.block q (by obtain ⟨c, t, f, hc⟩ := own_cells h hq; exact lt_of_heap hc) (hS q hq))
set_option maxRecDepth 100000 in
set_option maxHeartbeats 4000000 in
theorem diff_some (w : World) (s t : ByteArray) (hW : WOk w) : Calls Tryd.prog 17 #[.string s, .string t] w (DiffPost w (diffP s t)) := by
  have hal := (Chg.refl (fun _ => False) w).alloc (.cells zeroPkt 26)
  have hp : (w.alloc (.cells zeroPkt 26)).heap[w.heap.size]? = some (.cells zeroPkt 26 (0, 0)) := heap_new _ _
  have hW1 := hW.chg hal
  have hz1 : (w.alloc (.cells zeroPkt 26)).heap.size = w.heap.size + 1 := by simp
  obtain ⟨PP, hPP⟩ : ∃ PP, diffP s t = PP := ⟨_, rfl⟩
  rw [hPP]
  have HPP := Lib.hid hPP
  have HAL := Lib.hid hal
  have HP := Lib.hid hp
  clear hPP hal hp
  by_cases hs : s.size > 65536
  · have HE : Hid (PP = noPkt 5) := Lib.hid (by rw [← HPP.out]; unfold diffP; rw [if_pos hs])
    have HL := Lib.hid (lines_long _ s hW1 hs)
    clear hs hW hW1
    go_enter Tryd.func17, Tryd.ntmps17
    go_wp2_with fail
    refine HL.out.mono ?_
    rintro e w2 ⟨rfl, hC2⟩
    have HP2 := Lib.hid (hC2.keep HP.out (fun h => h))
    have HC2 := Lib.hid (HAL.out.trans hC2)
    clear hC2 HL
    go_wp2_with ((with_reducible refine gate_store (t := 26) (p := 4) (v := .tmp 18) rfl ?_); refine wpList_store_row rfl 26 (.tmp 4) (.tmp 18) rfl w.heap.size zeroPkt rfl rfl 26 _ HP2.out infoP rfl zeroPkt_all ?_)
    go_wp2_with fail
    rw [HE.out]
    exact bodyPost_ret (results17 _ _ w.heap.size zeroPkt (0, 0) 5 rfl rfl (setRow_heap _ _ _ _ _ _ HP2.out) rfl) rfl (diff_no w.heap.size 5 HC2.out (Nat.le_refl _))
  · have HL := Lib.hid (lines_fits _ s hW1 hs)
    have hla := lnsOf_len s
    have hW1' := Lib.hid hW1
    by_cases ht : t.size > 65536
    · have HE : Hid (PP = noPkt 5) := Lib.hid (by rw [← HPP.out]; unfold diffP; rw [if_neg hs, if_pos ht])
      have HT := Lib.hid ht
      clear hs hW hW1 ht
      go_enter Tryd.func17, Tryd.ntmps17
      go_wp2_with fail
      refine HL.out.mono ?_
      rintro e w2 ⟨v, rfl, ho, hC2⟩
      have HL2 := Lib.hid (lines_long w2 t (hW1'.out.chg hC2) HT.out)
      have HP2 := Lib.hid (hC2.keep HP.out (fun h => h))
      have HC2 := Lib.hid (HAL.out.trans hC2)
      clear hC2 HL ho
      go_wp2_with fail
      refine HL2.out.mono ?_
      rintro e w3 ⟨rfl, hC3⟩
      have HP3 := Lib.hid (HP2.out |> fun h => hC3.keep h (fun h => h))
      have HC3 := Lib.hid (HC2.out.trans hC3)
      clear hC3 HL2
      go_wp2_with ((with_reducible refine gate_store (t := 26) (p := 4) (v := .tmp 27) rfl ?_); refine wpList_store_row rfl 26 (.tmp 4) (.tmp 27) rfl w.heap.size zeroPkt rfl rfl 26 _ HP3.out infoP rfl zeroPkt_all ?_)
      go_wp2_with fail
      rw [HE.out]
      exact bodyPost_ret (results17 _ _ w.heap.size zeroPkt (0, 0) 5 rfl rfl (setRow_heap _ _ _ _ _ _ HP3.out) rfl) rfl (diff_no w.heap.size 5 HC3.out (Nat.le_refl _))
    · have HE : Hid (PP = if 1000 < (diffL (lnsOf s) (lnsOf t)).length then noPkt 5 else ⟨2, diffV (diffH (lnsOf s) (lnsOf t)) (diffT (lnsOf s) (lnsOf t)), ByteArray.empty, diffL (lnsOf s) (lnsOf t), 0⟩) := Lib.hid (by rw [← HPP.out]; unfold diffP; rw [if_neg hs, if_neg ht])
      have HT := Lib.hid ht
      have hlb := lnsOf_len t
      have hla2 : (lnsOf s).length ≤ 70000 := by omega
      have hlb2 : (lnsOf t).length ≤ 70000 := by omega
      clear hs hW hW1 ht HPP hla hlb
      have HLB : Hid (∀ W, WOk W → Calls Tryd.prog 45 #[.string t] W fun e w' => ∃ v, e = .returned (.tuple #[v, .int .i64 0]) ∧ w'.ownsRow W.heap.size 9 1 v (lnsOf t).length ((lnsOf t).map Value.string) ∧ Chg (fun _ => False) W w') := Lib.hid fun W hW => lines_fits W t hW HT.out
      generalize lnsOf s = a at *
      generalize lnsOf t = b at *
      go_enter Tryd.func17, Tryd.ntmps17
      go_wp2_with fail
      refine HL.out.mono ?_
      rintro e w2 ⟨va, rfl, hoa, hC2⟩
      have hWw2 := hW1'.out.chg hC2
      have HL2 := Lib.hid (HLB.out w2 hWw2)
      have HP2 := Lib.hid (hC2.keep HP.out (fun h => h))
      have HC2 := Lib.hid (HAL.out.trans hC2)
      have HOA := Lib.hid hoa
      have hsz2 := hC2.size
      clear hC2 HL hoa hWw2 HLB
      go_wp2_with fail
      refine HL2.out.mono ?_
      rintro e w3 ⟨vb, rfl, hob, hC3⟩
      have HP3 := Lib.hid (hC3.keep HP2.out (fun h => h))
      have HC3 := Lib.hid (HC2.out.trans hC3)
      have hsz3 := hC3.size
      obtain ⟨Aa, ca, rfl, hLa⟩ := own_lines HOA.out
      obtain ⟨Ab, cb, rfl, hLb⟩ := own_lines hob
      have HLA := Lib.hid (hLa.chg hC3)
      have HLBB := Lib.hid hLb
      have hca : a.length ≤ ca := by
        rcases HOA.out.2 with ⟨h1, h2⟩ | ⟨g', cap', cur, hv, hg', hh, r1, r2, r3, r4⟩
        · have : a = [] := by simpa using h2
          subst this; exact Nat.zero_le _
        · cases hv; exact r1
      have hcb : b.length ≤ cb := by
        rcases hob.2 with ⟨h1, h2⟩ | ⟨g', cap', cur, hv, hg', hh, r1, r2, r3, r4⟩
        · have : b = [] := by simpa using h2
          subst this; exact Nat.zero_le _
        · cases hv; exact r1
      have HK := Lib.hid (alike_some w3 Aa Ab a b ca cb (hLa.chg hC3) hLb (by omega) (by omega))
      obtain ⟨n, hn⟩ : ∃ n, alikeN a b = n := ⟨_, rfl⟩
      have hhl := alikeN_le a b
      have HDA : Hid ((a.drop n).reverse = diffA a b) := Lib.hid (by rw [← hn]; rfl)
      have HDB : Hid ((b.drop n).reverse = diffB a b) := Lib.hid (by rw [← hn]; rfl)
      have HDH : Hid (diffH a b = n) := Lib.hid (by rw [← hn]; rfl)
      rw [hn] at HK hhl
      clear hn
      obtain ⟨i9, hi9, hz90, hz91, hz92⟩ := info_parts info9
      obtain ⟨A1, hcut1, hA1, hcc1⟩ := print_drop_of (P := Tryd.prog) Value.string ByteArray.empty 24 9 .i64 Tryd.underlying24 hi9 hz91 Aa ca a (n : Int) (by omega) (by omega) hca
      obtain ⟨B1, hcut2, hB1, hcc2⟩ := print_drop_of (P := Tryd.prog) Value.string ByteArray.empty 24 9 .i64 Tryd.underlying24 hi9 hz91 Ab cb b (n : Int) (by omega) (by omega) hcb
      rw [Int.toNat_natCast] at hcut1 hA1 hcc1 hcut2 hB1 hcc2
      have HLA1 := Lib.hid (lns_of_reads (hA1 w3 (reads_of_lns (HLA.out) (by omega))))
      have HLB1 := Lib.hid (lns_of_reads (hB1 w3 (reads_of_lns (HLBB.out) (by omega))))
      have hda : (a.drop n).length ≤ 70000 := by rw [List.length_drop]; omega
      have hdb : (b.drop n).length ≤ 70000 := by rw [List.length_drop]; omega
      generalize a.drop n = la at *
      generalize b.drop n = lb at *
      clear hC3 HL2 hob hLa hLb HOA HP2 HC2 hA1 hB1
      go_wp2_with fail
      refine HK.out.mono ?_
      rintro e w4 ⟨rfl, hC4⟩
      have HP4 := Lib.hid (hC4.keep HP3.out (fun h => h))
      have HC4 := Lib.hid (HC3.out.trans hC4)
      have HLA2 := Lib.hid (HLA1.out.chg hC4)
      have HLB2 := Lib.hid (HLB1.out.chg hC4)
      have hsz4 := hC4.size
      clear hC4 HK HC3 HP3 HLA HLBB HLA1 HLB1 hi9 hz90 hz91 hz92
      go_upto_region 8 with fail
      go_cut [6, 7] from 32 to 39 (fun s6 s7 W => W.ownsRow w4.heap.size 9 1 s6 la.length (la.map Value.string) ∧ W.ownsRow w4.heap.size 9 1 s7 lb.length (lb.map Value.string) ∧ (∀ k, s6.ownBlock = some k → s7.ownBlock ≠ some k) ∧ W.heap[w.heap.size]? = some (.cells zeroPkt 26 (0, 0)) ∧ Chg (fun _ => False) w W)
      case first =>
        refine region_lone (fun _ => True) [] (by kernel_rfl) ?_
        refine take_one 0 trivial rfl (by kernel_rfl) rfl ?_
        apply Exists.intro
        refine And.intro (fun W' hS' => ?y0) (And.intro (fun _ _ _ h => h) ?_)
        case y0 => go_simp; rfl
        refine take_one 1 trivial rfl (by kernel_rfl) rfl ?_
        apply Exists.intro
        refine And.intro (fun W' hS' => ?y1) (And.intro (fun _ _ _ h => h) ?_)
        case y1 => go_simp; rfl
        refine take_one 2 trivial rfl (by kernel_rfl) rfl ?_
        apply Exists.intro
        refine And.intro (fun W' hS' => ?y2) (And.intro (fun _ _ _ h => h) ?_)
        case y2 => go_simp; rfl
        refine take_one 4 trivial rfl (by kernel_rfl) rfl ?_
        apply Exists.intro
        refine And.intro (fun W' hS' => ?y4) (And.intro (fun _ _ _ h => h) ?_)
        case y4 => go_simp; rfl
        refine take_one 5 trivial rfl (by kernel_rfl) rfl ?_
        apply Exists.intro
        refine And.intro (fun W' hS' => ?y5) (And.intro (fun _ _ _ h => h) ?_)
        case y5 => go_simp; rfl
        refine take_one 6 trivial rfl (by kernel_rfl) rfl ?_
        apply Exists.intro
        refine And.intro (fun W' hS' => ?y6) (And.intro (fun _ _ _ h => h) ?_)
        case y6 => go_simp; rfl
        refine only_one 3 rfl (by kernel_rfl) rfl ?_
        go_simp
        have hd := (Chg.refl (fun _ => False) w4).drew
        refine (clone_some w4.drew A1 la (ca - n) (HLA2.out.chg hd) (by omega)).mono ?_
        rintro e w5 ⟨v5, rfl, ho5, hC5⟩
        refine only_one 7 rfl (by kernel_rfl) rfl ?_
        go_simp
        refine (clone_some w5 B1 lb (cb - n) (HLB2.out.chg (hd.trans hC5)) (by omega)).mono ?_
        rintro e w6 ⟨v6, rfl, ho6, hC6⟩
        refine take_one 8 trivial rfl (by kernel_rfl) rfl ?_
        apply Exists.intro
        refine And.intro (fun W' hS' => ?y8) (And.intro (fun _ _ _ h => h) ?_)
        case y8 => go_simp; rfl
        refine take_one 9 trivial rfl (by kernel_rfl) rfl ?_
        apply Exists.intro
        refine And.intro (fun W' hS' => ?y9) (And.intro (fun _ _ _ h => h) ?_)
        case y9 => go_simp; rfl
        refine all_done (by kernel_rfl) ?_ _
        go_simp
        go_wp2_with fail
        go_meet
        have hs5 : w4.heap.size ≤ w5.heap.size := hC5.size
        exact ⟨own_chg ho5 hC6 (fun _ _ h => h), own_lower ho6 (by omega), fun k h1 h2 => by
          obtain ⟨c, t, f, hc⟩ := own_cells ho5 h1
          have := lt_of_heap hc
          have := own_block ho6 h2
          omega, hC6.keep (hC5.keep (w := w4.drew) HP4.out (fun h => h)) (fun h => h), HC4.out.trans (hd.trans (hC5.trans hC6))⟩
      case rest =>
        obtain ⟨ho6, ho7, hne, hP, hC⟩ := hcut
        have HV7 := Lib.hid hne
        have hr6 := rev_own wc w4.heap.size u6 la ho6 (by omega)
        have HR6 := Lib.hid hr6
        have HO6 := Lib.hid ho6
        have HO7 := Lib.hid ho7
        have HP := Lib.hid hP
        have HC := Lib.hid hC
        have hszc := hC.size
        clear ho6 ho7 hP hC hr6 hne HP4 HC4 HLA2 HLB2 hcut1 hcut2
        go_wp2_with fail
        refine HR6.out.mono ?_
        rintro e w8 ⟨rfl, ho8, hC8⟩
        rw [HDA.out] at ho8
        have ho7' := own_chg HO7.out hC8 (fun q h1 h2 => HV7.out q h2 h1)
        have hlda : (diffA a b).length ≤ 70000 := by rw [← HDA.out, List.length_reverse]; exact hda
        have hldb : (diffB a b).length ≤ 70000 := by rw [← HDB.out, List.length_reverse]; exact hdb
        have HR7 := Lib.hid (rev_own w8 w4.heap.size u7 lb ho7' (by omega))
        have HO8 := Lib.hid ho8
        have HP8 := Lib.hid (hC8.keep HP.out (own_ne HO6.out HP.out (by decide)))
        have HC8 := Lib.hid (HC.out.trans' hC8 (fun q h1 h2 => by have := own_block HO6.out h2; omega))
        have HO7' := Lib.hid ho7'
        clear ho8 ho7' hC8 HR6 HO6 HO7 HP HC
        go_wp2_with fail
        refine HR7.out.mono ?_
        rintro e w9 ⟨rfl, ho9, hC9⟩
        rw [HDB.out] at ho9
        have ho8' := own_chg HO8.out hC9 (fun q h1 h2 => HV7.out q h1 h2)
        have HP9 := Lib.hid (hC9.keep HP8.out (own_ne HO7'.out HP8.out (by decide)))
        have HC9 := Lib.hid (HC8.out.trans' hC9 (fun q h1 h2 => by have := own_block HO7'.out h2; omega))
        clear hC9 HR7 HO8 HO7' HP8 HC8
        have hDT : Hid (diffT a b = alikeN (diffA a b) (diffB a b)) := Lib.hid rfl
        have hDL : Hid (diffL a b = ((diffB a b).drop (diffT a b)).reverse) := Lib.hid rfl
        generalize diffA a b = ra at *
        generalize diffB a b = rb at *
        obtain ⟨Ar, car, rfl, hLar⟩ := own_lines ho8'
        have HK := Lib.hid (fun (Bs : Option Addr) (d : Nat) (h : Lns w9 Bs rb) => alike_some w9 Ar Bs ra rb car d hLar h (by omega) (by omega))
        clear hLar ho8'
        obtain ⟨Abr, cbr, rfl, hLbr⟩ := own_lines ho9
        have HK2 := Lib.hid (HK.out Abr cbr hLbr)
        have hle := (alikeN_le ra rb).2
        obtain ⟨m, hmm⟩ : ∃ m, alikeN ra rb = m := ⟨_, rfl⟩
        rw [hmm] at HK2 hDT hle
        clear HK hLbr hmm
        have HDL : Hid (diffL a b = (rb.drop m).reverse) := Lib.hid (by rw [hDL.out, hDT.out])
        clear hDL
        go_wp2_with fail
        refine HK2.out.mono ?_
        rintro e w10 ⟨rfl, hC10⟩
        have ho10 := own_chg ho9 hC10 (fun _ _ h => h)
        obtain ⟨X, cx, hcut, hcx, hrv⟩ := rev_tail w10 w4.heap.size Abr cbr rb m ho10 hle (by omega)
        have HRV := Lib.hid hrv
        have hlx : (rb.drop m).length ≤ 70000 := by rw [List.length_drop]; omega
        have HP10 := Lib.hid (hC10.keep HP9.out (fun h => h))
        have HC10 := Lib.hid (HC9.out.trans hC10)
        have HO10 := Lib.hid ho10
        have HDL2 : Hid ((rb.drop m).reverse.length = (rb.drop m).length) := Lib.hid (by rw [List.length_reverse])
        clear ho9 ho10 hC10 HK2 hrv HP9 HC9 hle
        generalize rb.drop m = lx at *
        go_wp2_with fail
        refine HRV.out.mono ?_
        rintro e w11 ⟨rfl, hL11, hN11, hC11⟩
        have HL11 := Lib.hid hL11
        have HN11 := Lib.hid hN11
        have HP11 := Lib.hid (hC11.keep HP10.out (own_ne HO10.out HP10.out (by decide)))
        have HC11 := Lib.hid (HC10.out.trans' hC11 (fun q h1 h2 => by have := own_block HO10.out h2; omega))
        clear hL11 hN11 hC11 HRV HP10 HC10 HO10
        by_cases hbig : 1000 < lx.length
        · have HE2 : Hid (PP = noPkt 5) := Lib.hid (by rw [HE.out, if_pos (by rw [HDL.out, HDL2.out]; exact hbig)])
          go_wp2_with ((with_reducible refine gate_store (t := 26) (p := 4) (v := .tmp 55) rfl ?_); refine wpList_store_row rfl 26 (.tmp 4) (.tmp 55) rfl w.heap.size zeroPkt rfl rfl 26 _ HP11.out infoP rfl zeroPkt_all ?_)
          go_wp2_with fail
          rw [HE2.out]
          exact bodyPost_ret (results17 _ _ w.heap.size zeroPkt (0, 0) 5 rfl rfl (setRow_heap _ _ _ _ _ _ HP11.out) rfl) rfl (diff_no w.heap.size 5 HC11.out (Nat.le_refl _))
        · have HE2 : Hid (PP = ⟨2, diffV n m, ByteArray.empty, lx.reverse, 0⟩) := Lib.hid (by rw [HE.out, if_neg (by rw [HDL.out, HDL2.out]; exact hbig), HDL.out, HDH.out, hDT.out])
          go_wp2_with ((with_reducible refine gate_store (t := 26) (p := 4) (v := .tmp 59) rfl ?_); refine wpList_store_row rfl 26 (.tmp 4) (.tmp 59) rfl w.heap.size _ rfl rfl 26 _ HP11.out infoP rfl (by simp [Value.oneCell']) ?_)
          go_wp2_with fail
          rw [HE2.out]
          have h9 := HC11.out
          refine bodyPost_ret (results17 _ _ w.heap.size _ (0, 0) 0 rfl rfl (setRow_heap _ _ _ _ _ _ HP11.out) rfl) rfl ⟨X, cx, by rw [HDL2.out]; rfl, by rw [HDL2.out]; exact hcx, ?_, ?_, ⟨h9.os, h9.tape, h9.output, by rw [size_setRow]; exact h9.size, fun q hq _ => (setRow_other _ _ _ _ (by omega)).trans (h9.block q hq (fun h => h))⟩⟩
          · exact HN11.out.lns HL11.out (by have := hsz2; have := hsz3; have := hsz4; omega) _
          · exact HN11.out.setRow (by have := hsz2; have := hsz3; have := hsz4; omega) _ _ (by have := hsz2; have := hsz3; have := hsz4; omega)
end Go.Proofs.YteiedafdakffeaaDoor
