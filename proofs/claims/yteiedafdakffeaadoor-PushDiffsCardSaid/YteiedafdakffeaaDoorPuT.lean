/- push: the document's Check tells what push's does, plainly. -/
import Derived.Test.YteiedafdakffeaaDoorPuS
namespace Go.Proofs.YteiedafdakffeaaDoor
set_option linter.unusedVariables false
set_option linter.unusedSimpArgs false
open Go Go.RowKit Go.Proofs
def wi (n a b : Int) : Bool := decide (a ≤ n) && decide (n ≤ b)
def bareLL (k : Int) (l : List ByteArray) : List ByteArray := if k = 2 then l else []
def kindB (k : Int) (V : Nat → Int) : Bool :=
  if k = 1 then wi (V 1) 1 9007199254740991 else if k = 3 then wi (V 1) 1 9007199254740991
  else if k = 2 then wi (V 1) 2 9007199254740991 && (wi (V 2) 1 (V 1 - 1) && (wi (V 5) 0 65536 && wi (V 6) 0 65536))
  else if k = 4 then wi (V 1) 0 9007199254740991 && wi (V 3) 0 6 else if k = 5 then wi (V 1) 0 9007199254740991 && wi (V 3) 0 6 else false
def firstB (k : Int) (V : Nat → Int) (tx : ByteArray) (l : List ByteArray) : Bool :=
  sameF k V tx l k (bareV k V) (bareT k tx) (bareLL k l) && (wi (V 4) 0 9007199254740991 && (decide (tx.size ≤ 65536) && (flat l && (decide (sizes l ≤ 65536) && decide (l.length ≤ 1000)))))
def rcheckB (k : Int) (V : Nat → Int) (tx : ByteArray) (l : List ByteArray) : Bool := firstB k V tx l && kindB k V
theorem allOk_eq (own lo fr : Int) (V : Nat → Int) : allOk own lo fr V = (fieldOk own 1 (V 1) lo 9007199254740991 && (fieldOk own 2 (V 2) 1 fr && (fieldOk own 4 (V 3) 0 6 && (fieldOk own 8 (V 4) 0 9007199254740991 && (fieldOk own 16 (V 5) 0 65536 && fieldOk own 32 (V 6) 0 65536))))) := by
  simp [allOk, List.range, List.range.loop, okAt, fieldAt]
theorem fo_yes {own bit v lo hi : Int} (h : (bits .and .i64 own bit != 0) = true) : fieldOk own bit v lo hi = wi v lo hi := by
  unfold fieldOk wi
  rw [if_neg (bne_iff_ne.1 h)]
theorem fo_no {own bit v lo hi : Int} (h : (bits .and .i64 own bit == 0) = true) : fieldOk own bit v lo hi = (v == 0) := by
  unfold fieldOk
  rw [if_pos (beq_iff_eq.1 h)]
theorem check_if {a b c d : Bool} (h : (a && (b && c)) = d) : checkE a b c = if d then 0 else 2 := by
  unfold checkE
  rw [h]
theorem tx_eq (tx : ByteArray) : (tx.toList == (ByteArray.empty).toList) = tx.toList.isEmpty := by
  rw [show (ByteArray.empty).toList = [] by simp [ByteArray.toList_eq]]
  cases tx.toList <;> rfl
theorem l_eq (l : List ByteArray) : decide (l = []) = l.isEmpty := by cases l <;> simp
theorem from2 (v : Int) (h1 : 2 ≤ v) (h2 : v ≤ 9007199254740991) : fromOf 2 v = v - 1 := by
  show IntKind.i64.wrap (v - 1) = _
  exact IntWalk.i64_in _ ⟨by omega, by omega⟩
theorem pv (k : Int) (V : Nat → Int) : pushV k (V 1) (V 2) (V 3) (V 4) (V 5) (V 6) 1 = V 1 ∧ pushV k (V 1) (V 2) (V 3) (V 4) (V 5) (V 6) 2 = V 2 ∧ pushV k (V 1) (V 2) (V 3) (V 4) (V 5) (V 6) 3 = V 3 ∧ pushV k (V 1) (V 2) (V 3) (V 4) (V 5) (V 6) 4 = V 4 ∧ pushV k (V 1) (V 2) (V 3) (V 4) (V 5) (V 6) 5 = V 5 ∧ pushV k (V 1) (V 2) (V 3) (V 4) (V 5) (V 6) 6 = V 6 := ⟨rfl, rfl, rfl, rfl, rfl, rfl⟩
theorem wi_true {n a b : Int} (h : wi n a b = true) : a ≤ n ∧ n ≤ b := by
  unfold wi at h
  simpa using h
theorem rcheck1 (V : Nat → Int) (tx : ByteArray) (l : List ByteArray) : checkP 1 V tx l = if rcheckB 1 V tx l then 0 else 2 := by
  obtain ⟨p1, p2, p3, p4, p5, p6⟩ := pv 1 V
  unfold checkP checkF
  rw [if_pos ⟨by omega, by omega⟩, allOk_eq, p1, p2, p3, p4, p5, p6, fo_yes (by rfl), fo_no (by rfl), fo_no (by rfl), fo_yes (by rfl), fo_no (by rfl), fo_no (by rfl)]
  refine check_if ?_
  unfold rcheckB firstB sameF textsB listsB
  rw [sameN_eq]
  have b1 : bareV 1 V 1 = V 1 := rfl
  have b2 : bareV 1 V 2 = 0 := rfl
  have b3 : bareV 1 V 3 = 0 := rfl
  have b4 : bareV 1 V 4 = V 4 := rfl
  have b5 : bareV 1 V 5 = 0 := rfl
  have b6 : bareV 1 V 6 = 0 := rfl
  have t1 : bareT 1 tx = tx := rfl
  have l1 : bareLL 1 l = [] := rfl
  have kb : kindB 1 V = wi (V 1) 1 9007199254740991 := rfl
  have hl : leastOf 1 = 1 := rfl
  have e1 : ((1 : Int) == 1) = true := rfl
  have e2 : ((1 : Int) == 2) = false := rfl
  rw [b1, b2, b3, b4, b5, b6, t1, l1, kb, hl, e1, e2, l_eq]
  clear b1 b2 b3 b4 b5 b6 t1 l1 kb hl e1 e2 p1 p2 p3 p4 p5 p6
  rw [Bool.eq_iff_iff]
  simp only [wi, Bool.and_eq_true, decide_eq_true_eq, beq_iff_eq, Bool.or_eq_true, beq_self_eq_true, true_and, and_true, true_or, Bool.false_or, Bool.true_or, false_or, Bool.false_eq_true]
  constructor <;> intro h <;> simp_all <;> (first | omega | exact ⟨rfl, by decide⟩)
theorem rcheck2 (V : Nat → Int) (tx : ByteArray) (l : List ByteArray) : checkP 2 V tx l = if rcheckB 2 V tx l then 0 else 2 := by
  obtain ⟨p1, p2, p3, p4, p5, p6⟩ := pv 2 V
  unfold checkP checkF
  rw [if_pos ⟨by omega, by omega⟩, allOk_eq, p1, p2, p3, p4, p5, p6, fo_yes (by rfl), fo_yes (by rfl), fo_no (by rfl), fo_yes (by rfl), fo_yes (by rfl), fo_yes (by rfl)]
  refine check_if ?_
  unfold rcheckB firstB sameF textsB listsB
  rw [sameN_eq]
  have b1 : bareV 2 V 1 = V 1 := rfl
  have b2 : bareV 2 V 2 = V 2 := rfl
  have b3 : bareV 2 V 3 = 0 := rfl
  have b4 : bareV 2 V 4 = V 4 := rfl
  have b5 : bareV 2 V 5 = V 5 := rfl
  have b6 : bareV 2 V 6 = V 6 := rfl
  have t1 : bareT 2 tx = ByteArray.empty := rfl
  have l1 : bareLL 2 l = l := rfl
  have kb : kindB 2 V = (wi (V 1) 2 9007199254740991 && (wi (V 2) 1 (V 1 - 1) && (wi (V 5) 0 65536 && wi (V 6) 0 65536))) := rfl
  have hl : leastOf 2 = 2 := rfl
  have e1 : ((2 : Int) == 1) = false := rfl
  have e2 : ((2 : Int) == 2) = true := rfl
  rw [b1, b2, b3, b4, b5, b6, t1, l1, kb, hl, e1, e2, tx_eq]
  clear b1 b2 b3 b4 b5 b6 t1 l1 kb hl e1 e2 p1 p2 p3 p4 p5 p6
  rw [Bool.eq_iff_iff]
  simp only [wi, Bool.and_eq_true, decide_eq_true_eq, beq_iff_eq, Bool.or_eq_true, beq_self_eq_true, true_and, and_true, true_or, Bool.false_or, Bool.true_or, false_or, Bool.false_eq_true]
  constructor
  · intro h
    have hv : 2 ≤ V 1 ∧ V 1 ≤ 9007199254740991 := h.1.1
    have hf := from2 (V 1) hv.1 hv.2
    rw [hf] at h
    simp_all <;> omega
  · intro h
    have hv : 2 ≤ V 1 ∧ V 1 ≤ 9007199254740991 := h.2.1
    have hf := from2 (V 1) hv.1 hv.2
    rw [hf]
    simp_all <;> omega
theorem rcheck3 (V : Nat → Int) (tx : ByteArray) (l : List ByteArray) : checkP 3 V tx l = if rcheckB 3 V tx l then 0 else 2 := by
  obtain ⟨p1, p2, p3, p4, p5, p6⟩ := pv 3 V
  unfold checkP checkF
  rw [if_pos ⟨by omega, by omega⟩, allOk_eq, p1, p2, p3, p4, p5, p6, fo_yes (by rfl), fo_no (by rfl), fo_no (by rfl), fo_yes (by rfl), fo_no (by rfl), fo_no (by rfl)]
  refine check_if ?_
  unfold rcheckB firstB sameF textsB listsB
  rw [sameN_eq]
  have b1 : bareV 3 V 1 = V 1 := rfl
  have b2 : bareV 3 V 2 = 0 := rfl
  have b3 : bareV 3 V 3 = 0 := rfl
  have b4 : bareV 3 V 4 = V 4 := rfl
  have b5 : bareV 3 V 5 = 0 := rfl
  have b6 : bareV 3 V 6 = 0 := rfl
  have t1 : bareT 3 tx = ByteArray.empty := rfl
  have l1 : bareLL 3 l = [] := rfl
  have kb : kindB 3 V = wi (V 1) 1 9007199254740991 := rfl
  have hl : leastOf 3 = 1 := rfl
  have e1 : ((3 : Int) == 1) = false := rfl
  have e2 : ((3 : Int) == 2) = false := rfl
  rw [b1, b2, b3, b4, b5, b6, t1, l1, kb, hl, e1, e2, l_eq, tx_eq]
  clear b1 b2 b3 b4 b5 b6 t1 l1 kb hl e1 e2 p1 p2 p3 p4 p5 p6
  rw [Bool.eq_iff_iff]
  simp only [wi, Bool.and_eq_true, decide_eq_true_eq, beq_iff_eq, Bool.or_eq_true, beq_self_eq_true, true_and, and_true, true_or, Bool.false_or, Bool.true_or, false_or, Bool.false_eq_true]
  constructor <;> intro h <;> simp_all <;> (first | omega | exact ⟨rfl, by decide⟩)
theorem rcheck4 (V : Nat → Int) (tx : ByteArray) (l : List ByteArray) : checkP 4 V tx l = if rcheckB 4 V tx l then 0 else 2 := by
  obtain ⟨p1, p2, p3, p4, p5, p6⟩ := pv 4 V
  unfold checkP checkF
  rw [if_pos ⟨by omega, by omega⟩, allOk_eq, p1, p2, p3, p4, p5, p6, fo_yes (by rfl), fo_no (by rfl), fo_yes (by rfl), fo_no (by rfl), fo_no (by rfl), fo_no (by rfl)]
  refine check_if ?_
  unfold rcheckB firstB sameF textsB listsB
  rw [sameN_eq]
  have b1 : bareV 4 V 1 = V 1 := rfl
  have b2 : bareV 4 V 2 = 0 := rfl
  have b3 : bareV 4 V 3 = V 3 := rfl
  have b4 : bareV 4 V 4 = 0 := rfl
  have b5 : bareV 4 V 5 = 0 := rfl
  have b6 : bareV 4 V 6 = 0 := rfl
  have t1 : bareT 4 tx = ByteArray.empty := rfl
  have l1 : bareLL 4 l = [] := rfl
  have kb : kindB 4 V = (wi (V 1) 0 9007199254740991 && wi (V 3) 0 6) := rfl
  have hl : leastOf 4 = 0 := rfl
  have e1 : ((4 : Int) == 1) = false := rfl
  have e2 : ((4 : Int) == 2) = false := rfl
  rw [b1, b2, b3, b4, b5, b6, t1, l1, kb, hl, e1, e2, l_eq, tx_eq]
  clear b1 b2 b3 b4 b5 b6 t1 l1 kb hl e1 e2 p1 p2 p3 p4 p5 p6
  rw [Bool.eq_iff_iff]
  simp only [wi, Bool.and_eq_true, decide_eq_true_eq, beq_iff_eq, Bool.or_eq_true, beq_self_eq_true, true_and, and_true, true_or, Bool.false_or, Bool.true_or, false_or, Bool.false_eq_true]
  constructor <;> intro h <;> simp_all <;> (first | omega | exact ⟨rfl, by decide⟩)
theorem rcheck5 (V : Nat → Int) (tx : ByteArray) (l : List ByteArray) : checkP 5 V tx l = if rcheckB 5 V tx l then 0 else 2 := by
  obtain ⟨p1, p2, p3, p4, p5, p6⟩ := pv 5 V
  unfold checkP checkF
  rw [if_pos ⟨by omega, by omega⟩, allOk_eq, p1, p2, p3, p4, p5, p6, fo_yes (by rfl), fo_no (by rfl), fo_yes (by rfl), fo_no (by rfl), fo_no (by rfl), fo_no (by rfl)]
  refine check_if ?_
  unfold rcheckB firstB sameF textsB listsB
  rw [sameN_eq]
  have b1 : bareV 5 V 1 = V 1 := rfl
  have b2 : bareV 5 V 2 = 0 := rfl
  have b3 : bareV 5 V 3 = V 3 := rfl
  have b4 : bareV 5 V 4 = 0 := rfl
  have b5 : bareV 5 V 5 = 0 := rfl
  have b6 : bareV 5 V 6 = 0 := rfl
  have t1 : bareT 5 tx = ByteArray.empty := rfl
  have l1 : bareLL 5 l = [] := rfl
  have kb : kindB 5 V = (wi (V 1) 0 9007199254740991 && wi (V 3) 0 6) := rfl
  have hl : leastOf 5 = 0 := rfl
  have e1 : ((5 : Int) == 1) = false := rfl
  have e2 : ((5 : Int) == 2) = false := rfl
  rw [b1, b2, b3, b4, b5, b6, t1, l1, kb, hl, e1, e2, l_eq, tx_eq]
  clear b1 b2 b3 b4 b5 b6 t1 l1 kb hl e1 e2 p1 p2 p3 p4 p5 p6
  rw [Bool.eq_iff_iff]
  simp only [wi, Bool.and_eq_true, decide_eq_true_eq, beq_iff_eq, Bool.or_eq_true, beq_self_eq_true, true_and, and_true, true_or, Bool.false_or, Bool.true_or, false_or, Bool.false_eq_true]
  constructor <;> intro h <;> simp_all <;> (first | omega | exact ⟨rfl, by decide⟩)
theorem rcheck_eq (k : Int) (V : Nat → Int) (tx : ByteArray) (l : List ByteArray) : checkP k V tx l = if rcheckB k V tx l then 0 else 2 := by
  by_cases k1 : k = 1
  · subst k1; exact rcheck1 V tx l
  by_cases k2 : k = 2
  · subst k2; exact rcheck2 V tx l
  by_cases k3 : k = 3
  · subst k3; exact rcheck3 V tx l
  by_cases k4 : k = 4
  · subst k4; exact rcheck4 V tx l
  by_cases k5 : k = 5
  · subst k5; exact rcheck5 V tx l
  unfold checkP checkF rcheckB kindB
  rw [if_neg (by omega), if_neg k1, if_neg k3, if_neg k2, if_neg k4, if_neg k5]
  simp
end Go.Proofs.YteiedafdakffeaaDoor
