/- push: the document's Parse, plainly; its array of numbers. -/
import Derived.Test.YteiedafdakffeaaDoorPuT
namespace Go.Proofs.YteiedafdakffeaaDoor
set_option linter.unusedVariables false
set_option linter.unusedSimpArgs false
open Go Go.RowKit Go.Proofs
theorem limE_le {n most e : Int} (h : n ≤ most) : limE n most e = e := by
  unfold limE
  by_cases he : e = 0
  · rw [if_pos he, if_neg (by omega), he]
  · rw [if_neg he]
theorem num1_le (b : List Int) (e : Int) (hb : ∀ x ∈ b, 0 ≤ x ∧ x ≤ 255) : 0 ≤ numOf (takeL b e 1) ∧ numOf (takeL b e 1) ≤ 255 := by
  have h := numOf_lt (takeL b e 1) (fun x hx => hb x (takeL_sub hx))
  have hl := takeL_len b e 1
  have h2 : (takeL b e 1).length = 0 ∨ (takeL b e 1).length = 1 := by omega
  rcases h2 with h2 | h2 <;> rw [h2] at h <;> simp at h <;> omega
theorem num7_le (b : List Int) (e : Int) (hb : ∀ x ∈ b, 0 ≤ x ∧ x ≤ 255) : numOf (takeL b e 7) ≤ 72057594037927936 := by
  have h := numOf_lt7 (takeL b e 7) (fun x hx => hb x (takeL_sub hx)) (takeL_len b e 7)
  omega
theorem num2_le (b : List Int) (e : Int) (hb : ∀ x ∈ b, 0 ≤ x ∧ x ≤ 255) : 0 ≤ numOf (takeL b e 2) ∧ numOf (takeL b e 2) ≤ 65535 := by
  have h := numOf_lt (takeL b e 2) (fun x hx => hb x (takeL_sub hx))
  have hl := takeL_len b e 2
  have h2 : (takeL b e 2).length = 0 ∨ (takeL b e 2).length = 1 ∨ (takeL b e 2).length = 2 := by omega
  rcases h2 with h2 | h2 | h2 <;> rw [h2] at h <;> simp at h <;> omega
theorem takeE_err {b : List Int} {e : Int} {n : Nat} (h : e ≠ 0) : takeE b e n = e := by unfold takeE; rw [if_neg h]
theorem takeL_err {b : List Int} {e : Int} {n : Nat} (h : e ≠ 0) : takeL b e n = [] := by unfold takeL; rw [if_neg h]
theorem takeL_err' {b : List Int} {n : Nat} (h : takeE b 0 n ≠ 0) : takeL b 0 n = [] := by
  unfold takeE at h
  unfold takeL
  rw [if_pos rfl] at h ⊢
  split at h
  · exact absurd rfl h
  · rename_i hh; rw [if_neg hh]
theorem limE_err {n most e : Int} (h : e ≠ 0) : limE n most e = e := by unfold limE; rw [if_neg h]
theorem textRE_err {b : List Int} {e : Int} (h : e ≠ 0) : textRE b e = e := by
  unfold textRE textE
  rw [takeE_err h, limE_err h, takeE_err h]
theorem linesS_err (m : Nat) {b : List Int} {e : Int} (h : e ≠ 0) : (linesS m b e).2.2 = e := by
  cases m with
  | zero => rfl
  | succ n => rw [linesS_succ, textRE_err h, if_neg h]
theorem endP_err {k : Int} {V : Nat → Int} {tx : ByteArray} {r : List ByteArray × List Int × Int} (h : r.2.2 ≠ 0) : endP k V tx r = noPkt r.2.2 := by unfold endP; rw [if_neg h]
theorem lines_end (k : Int) (V : Nat → Int) (tx : ByteArray) (acc : List ByteArray) (m : Nat) (b : List Int) (e : Int) (he : e ≠ 0) : endP k V tx (acc ++ (linesS m b e).1, (linesS m b e).2) = endP k V tx (acc, b, e) := by
  have h := linesS_err m (b := b) he
  unfold endP
  simp only
  rw [h, if_neg he, if_neg he]
theorem lines_step (k : Int) (V : Nat → Int) (tx : ByteArray) (acc : List ByteArray) (m : Nat) (b : List Int) (e : Int) : endP k V tx (acc ++ (linesS (m + 1) b e).1, (linesS (m + 1) b e).2) = endP k V tx ((acc ++ [textV b e]) ++ (linesS m (textRB b e) (textRE b e)).1, (linesS m (textRB b e) (textRE b e)).2) := by
  rw [linesS_succ]
  by_cases he : textRE b e = 0
  · rw [if_pos he]
    simp
  · rw [if_neg he, lines_end k V tx (acc ++ [textV b e]) m _ _ he]
/-- a row of the document's fields -/
def rfStep (q : Int) (s : (Nat → Int) × List Int × Int) : (Nat → Int) × List Int × Int := (setV s.1 (q.toNat + 1) (numOf (takeL s.2.1 s.2.2 7)), takeR s.2.1 s.2.2 7, takeE s.2.1 s.2.2 7)
def rfS (l : List Int) (s : (Nat → Int) × List Int × Int) : (Nat → Int) × List Int × Int := l.foldl (fun s q => rfStep q s) s
theorem rfS_take (l : List Int) (s : (Nat → Int) × List Int × Int) (j : Nat) (h : j < l.length) : rfS (l.take (j + 1)) s = rfStep l[j] (rfS (l.take j) s) := by
  unfold rfS
  rw [List.take_add_one, List.getElem?_eq_getElem h, List.foldl_append]
  rfl
theorem rfS_sub (l : List Int) : ∀ (s : (Nat → Int) × List Int × Int) (x : Int), x ∈ (rfS l s).2.1 → x ∈ s.2.1 := by
  induction l with
  | nil => intro s x h; exact h
  | cons q t ih => intro s x h; exact takeR_sub (ih (rfStep q s) x h)
theorem rfS_err (l : List Int) : ∀ (s : (Nat → Int) × List Int × Int), s.2.2 ≠ 0 → (rfS l s).2.2 = s.2.2 := by
  induction l with
  | nil => intro s h; rfl
  | cons q t ih =>
    intro s h
    have he : (rfStep q s).2.2 = s.2.2 := takeE_err h
    have := ih (rfStep q s) (by rw [he]; exact h)
    exact this.trans he
theorem rfields_eq (k : Int) (h : 1 ≤ k ∧ k ≤ 5) (s : (Nat → Int) × List Int × Int) : rfS (rfieldsL k) s = fieldsS (ownOf k) s 6 := by
  have hk5 : k = 1 ∨ k = 2 ∨ k = 3 ∨ k = 4 ∨ k = 5 := by omega
  rcases hk5 with rfl | rfl | rfl | rfl | rfl <;> rfl
theorem rfields_at (k : Int) (j : Nat) (h : j < (rfieldsL k).length) : ∃ q : Nat, q < 6 ∧ (rfieldsL k)[j] = (q : Int) := by
  have hm : (rfieldsL k)[j] ∈ rfieldsL k := List.getElem_mem h
  generalize (rfieldsL k)[j] = x at *
  unfold rfieldsL at hm
  have : x = 0 ∨ x = 1 ∨ x = 2 ∨ x = 3 ∨ x = 4 ∨ x = 5 := by
    split at hm
    · simp at hm; omega
    · split at hm
      · simp at hm; omega
      · split at hm
        · simp at hm; omega
        · simp at hm; omega
  exact ⟨x.toNat, by omega, by omega⟩
theorem rfields_len (k : Int) : (rfieldsL k).length ≤ 5 := by unfold rfieldsL; split <;> (try split) <;> (try split) <;> simp
theorem rparse_at (b : List Int) (q : Bool) (k : Int) (b1 : List Int) (e1 : Int) (hk : numOf (takeL b 0 1) = k) (hb1 : takeR b 0 1 = b1) (he1 : takeE b 0 1 = e1)
    (hq : q = ((e1 == 0) && !(decide (1 ≤ k) && decide (k ≤ 5)))) : (q = true → parseP b = noPkt 4) ∧ (q = false → parseP b = textP k (rfS (rfieldsL k) (zeroV, b1, e1)) ∧ (e1 = 0 → 1 ≤ k ∧ k ≤ 5)) := by
  have hP : parseP b = if e1 = 0 then if 1 ≤ k ∧ k ≤ 5 then textP k (fieldsS (ownOf k) (zeroV, b1, 0) 6) else noPkt 4 else noPkt e1 := by
    subst hk hb1 he1
    rfl
  by_cases he : e1 = 0
  · rw [if_pos he] at hP
    subst he
    have e0 : ((0 : Int) == 0) = true := rfl
    rw [e0, Bool.true_and] at hq
    by_cases hkn : 1 ≤ k ∧ k ≤ 5
    · rw [if_pos hkn] at hP
      have : q = false := by rw [hq, decide_eq_true hkn.1, decide_eq_true hkn.2]; rfl
      subst this
      exact ⟨(fun h => by cases h), fun _ => ⟨(by rw [hP, rfields_eq k hkn]), fun _ => hkn⟩⟩
    · rw [if_neg hkn] at hP
      have : q = true := by
        rw [hq]
        by_cases h1 : 1 ≤ k
        · rw [decide_eq_false (show ¬ k ≤ 5 from fun h => hkn ⟨h1, h⟩)]; simp
        · rw [decide_eq_false h1]; rfl
      subst this
      exact ⟨fun _ => hP, fun h => by cases h⟩
  · rw [if_neg he] at hP
    have e0 : (e1 == 0) = false := beq_eq_false_iff_ne.2 he
    rw [e0, Bool.false_and] at hq
    subst hq
    refine ⟨fun h => (by cases h), fun _ => ⟨?_, fun h => absurd h he⟩⟩
    have hL : takeL b 0 1 = [] := takeL_err' (by rw [he1]; exact he)
    have hk0 : k = 0 := by rw [← hk, hL]; rfl
    subst hk0
    have hS : (rfS (rfieldsL 0) (zeroV, b1, e1)).2.2 = e1 := rfS_err _ _ he
    rw [hP]
    unfold textP linesP
    rw [if_neg (by decide), if_neg (by decide), endP_err (by rw [hS]; exact he), hS]
def AllAt (w : World) (B : Nat) (V : Nat → Int) : Prop := w.heap[B]? = some (.cells #[.int .i64 (V 1), .int .i64 (V 2), .int .i64 (V 3), .int .i64 (V 4), .int .i64 (V 5), .int .i64 (V 6)] 42 (0, 0))
theorem AllAt.setN {w : World} {B : Nat} {V : Nat → Int} (h : AllAt w B V) (q : Nat) (hq : q < 6) (x : Int) : AllAt (w.setCell ⟨B, q, none⟩ (.int .i64 x)) B (setV V (q + 1) x) := by
  unfold AllAt
  rw [heap_setCell_cells h]
  have : q = 0 ∨ q = 1 ∨ q = 2 ∨ q = 3 ∨ q = 4 ∨ q = 5 := by omega
  rcases this with rfl | rfl | rfl | rfl | rfl | rfl <;> rfl
theorem AllAt.cells6 {w : World} {B : Nat} {V : Nat → Int} (h : AllAt w B V) : w.cell? ⟨B, 0, none⟩ = some (.int .i64 (V 1)) ∧ w.cell? ⟨B, 1, none⟩ = some (.int .i64 (V 2)) ∧ w.cell? ⟨B, 2, none⟩ = some (.int .i64 (V 3)) ∧ w.cell? ⟨B, 3, none⟩ = some (.int .i64 (V 4)) ∧ w.cell? ⟨B, 4, none⟩ = some (.int .i64 (V 5)) ∧ w.cell? ⟨B, 5, none⟩ = some (.int .i64 (V 6)) :=
  ⟨cell_of_heap h 0, cell_of_heap h 1, cell_of_heap h 2, cell_of_heap h 3, cell_of_heap h 4, cell_of_heap h 5⟩
theorem AllAt.cellN {w : World} {B : Nat} {V : Nat → Int} (h : AllAt w B V) (q : Nat) (hq : q < 6) : w.cell? ⟨B, q, none⟩ = some (.int .i64 (V (q + 1))) := by
  obtain ⟨h0, h1, h2, h3, h4, h5⟩ := h.cells6
  have : q = 0 ∨ q = 1 ∨ q = 2 ∨ q = 3 ∨ q = 4 ∨ q = 5 := by omega
  rcases this with rfl | rfl | rfl | rfl | rfl | rfl <;> assumption
theorem AllAt.keep {w w' : World} {S : Nat → Prop} {B : Nat} {V : Nat → Int} (h : AllAt w B V) (hC : Chg S w w') (hS : ¬ S B) : AllAt w' B V := hC.keep h hS
theorem RCur.heap {w0 w : World} {C : Nat} {b : List Int} {e : Int} (h : RCur w0 w C b e) : ∃ c, w.heap[C]? = some (.cells c 70 (0, 0)) := by
  obtain ⟨A, cap, hH, _⟩ := h
  exact ⟨_, hH⟩
theorem RCur.move {w0 w w' : World} {C : Nat} {b : List Int} {e : Int} (h : RCur w0 w C b e) (hh : w'.heap[C]? = w.heap[C]?) : RCur w0 w' C b e := by
  obtain ⟨A, cap, hH, hcap, hR⟩ := h
  exact ⟨A, cap, hh.trans hH, hcap, hR⟩
theorem RCur.lt {w0 w : World} {C : Nat} {b : List Int} {e : Int} (h : RCur w0 w C b e) : C < w.heap.size := by
  obtain ⟨c, h⟩ := h.heap
  exact lt_of_heap h
theorem RCur.cellE {w0 w : World} {C : Nat} {b : List Int} {e : Int} (h : RCur w0 w C b e) : w.cell? ⟨C, 1, none⟩ = some (.int .i64 e) := by
  obtain ⟨A, cap, hH, _⟩ := h
  exact cell_of_heap hH 1
theorem RCur.cellB {w0 w : World} {C : Nat} {b : List Int} {e : Int} (h : RCur w0 w C b e) : ∃ A cap, w.cell? ⟨C, 0, none⟩ = some (.slice A b.length cap) := by
  obtain ⟨A, cap, hH, _⟩ := h
  exact ⟨A, cap, cell_of_heap hH 0⟩
theorem PktAt.ext {w : World} {P : Nat} {k : Int} {V V' : Nat → Int} {tx : ByteArray} {s : Value} (h : PktAt w P k V tx s) (h1 : V' 1 = V 1) (h2 : V' 2 = V 2) (h3 : V' 3 = V 3) (h4 : V' 4 = V 4) (h5 : V' 5 = V 5) (h6 : V' 6 = V 6) : PktAt w P k V' tx s := by
  unfold PktAt at h ⊢
  rw [h1, h2, h3, h4, h5, h6]
  exact h
theorem results13 (tmps : Array Value) (w : World) (g : Nat) (cs : Array Value) (fr : Nat × Nat) (e : Int)
    (hp : tmps.getD 2 undef = .pointer (some ⟨g, 0, none⟩)) (he : tmps.getD 3 undef = .int .i64 e) (hg : w.heap[g]? = some (.cells cs 26 fr)) (hs : cs.size = 9) :
    (results Tryd.f13 tmps).run Tryd.prog w = .ok (.tuple #[.agg cs, .int .i64 e]) w := by
  have hp' : tmps[2]?.getD undef = .pointer (some ⟨g, 0, none⟩) := by simpa using hp
  have he' : tmps[3]?.getD undef = .int .i64 e := by simpa using he
  have hi : (Tryd.prog.info? 26).map (·.size) = some cs.size := by rw [hs]; kernel_rfl
  have hr : Tryd.f13.results = #[.cell 2 26, .tmp 3] := rfl
  have hl := run_loadVar_row (P := Tryd.prog) w g 26 26 cs fr _ hg Tryd.underlying26 rfl hi
  simp [results, hr, hp', he', asAddr, hl]
end Go.Proofs.YteiedafdakffeaaDoor
