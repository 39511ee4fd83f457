/- push, plainly: what is parsed is what was written. -/
import Derived.Test.YteiedafdakffeaaDoorPushO
namespace Go.Proofs.YteiedafdakffeaaDoor
set_option linter.unusedVariables false
set_option linter.unusedSimpArgs false
open Go Go.RowKit
open Go.Proofs.YteiedafdakffeaaDoorW.PrintWords (bytesOf bytesOf_length)
def Bys (l : List Int) : Prop := ∀ x ∈ l, 0 ≤ x ∧ x ≤ 255
theorem Bys.left {a b : List Int} (h : Bys (a ++ b)) : Bys a := fun x hx => h x (List.mem_append_left _ hx)
theorem Bys.right {a b : List Int} (h : Bys (a ++ b)) : Bys b := fun x hx => h x (List.mem_append_right _ hx)
/-! ### numbers and their bytes -/
theorem byteAt_zero (N x : Int) (h0 : 0 ≤ x) (h1 : x ≤ 255) : byteAt (N * 256 + x) 0 = x := by
  unfold byteAt
  rw [Nat.mul_zero, Int.pow_zero, Int.ediv_one]
  omega
theorem byteAt_succ (N x : Int) (c : Nat) (h0 : 0 ≤ x) (h1 : x ≤ 255) : byteAt (N * 256 + x) (c + 1) = byteAt N c := by
  unfold byteAt
  have e : (2 : Int) ^ (8 * (c + 1)) = 256 * 2 ^ (8 * c) := by
    rw [show 8 * (c + 1) = 8 + 8 * c by omega, Int.pow_add]
    rfl
  have e2 : (N * 256 + x) / 256 = N := by omega
  rw [e, ← Int.ediv_ediv_of_nonneg (by omega), e2]
theorem rowB_snoc (N x : Int) (n : Nat) (h0 : 0 ≤ x) (h1 : x ≤ 255) : rowB (N * 256 + x) (n + 1) = rowB N n ++ [x] := by
  unfold rowB
  rw [List.range_succ, List.map_append, List.map_singleton]
  have e1 : n + 1 - 1 - n = 0 := by omega
  rw [e1, byteAt_zero N x h0 h1]
  congr 1
  apply List.map_congr_left
  intro i hi
  have hi' := List.mem_range.1 hi
  rw [show n + 1 - 1 - i = (n - 1 - i) + 1 by omega, byteAt_succ N x _ h0 h1]
theorem rowB_numOf_rev (l : List Int) (h : Bys l) : rowB (numOf l.reverse) l.length = l.reverse := by
  induction l with
  | nil => rfl
  | cons x t ih =>
    have hx := h x (by simp)
    rw [List.reverse_cons, numOf_snoc, List.length_cons, rowB_snoc _ _ _ hx.1 hx.2, ih (fun y hy => h y (List.mem_cons_of_mem _ hy))]
theorem rowB_numOf (l : List Int) (h : Bys l) : rowB (numOf l) l.length = l := by
  have := rowB_numOf_rev l.reverse (fun x hx => h x (by simpa using hx))
  rw [List.reverse_reverse, List.length_reverse] at this
  exact this
theorem rowB_bys (n : Int) (s : Nat) : Bys (rowB n s) := fun x hx => by
  unfold rowB at hx
  obtain ⟨i, _, rfl⟩ := List.mem_map.1 hx
  unfold byteAt
  omega
theorem numOf_rowB (s : Nat) : ∀ n : Int, 0 ≤ n → n < 256 ^ s → numOf (rowB n s) = n := by
  induction s with
  | zero => intro n h0 h1; simp at h1; have : n = 0 := by omega
            subst this; rfl
  | succ s ih =>
    intro n h0 h1
    have hd := Int.mul_ediv_add_emod n 256
    have e : n = n / 256 * 256 + n % 256 := by omega
    have hm0 : 0 ≤ n % 256 := Int.emod_nonneg _ (by omega)
    have hm1 : n % 256 ≤ 255 := by omega
    have hq0 : 0 ≤ n / 256 := by omega
    have hq1 : n / 256 < 256 ^ s := by
      rw [Int.pow_succ] at h1
      exact Int.ediv_lt_of_lt_mul (by omega) h1
    rw [e, rowB_snoc _ _ _ hm0 hm1, numOf_snoc, ih _ hq0 hq1]
/-! ### the cursor -/
theorem takeE_zero {b : List Int} {e : Int} {n : Nat} (h : takeE b e n = 0) : e = 0 ∧ n ≤ b.length := by
  unfold takeE at h
  split at h
  · rename_i he
    split at h
    · rename_i hl; exact ⟨he, hl⟩
    · cases h
  · contradiction
theorem take_parts {b : List Int} {n : Nat} (h : n ≤ b.length) : takeL b 0 n ++ takeR b 0 n = b ∧ (takeL b 0 n).length = n := by
  unfold takeL takeR
  rw [if_pos rfl, if_pos rfl, if_pos h, if_pos h]
  exact ⟨List.take_append_drop n b, by rw [List.length_take]; omega⟩
theorem takeL_app (l r : List Int) (n : Nat) (h : l.length = n) : takeL (l ++ r) 0 n = l := by
  unfold takeL
  rw [if_pos rfl, if_pos (by rw [List.length_append]; omega), ← h, List.take_left]
theorem takeR_app (l r : List Int) (n : Nat) (h : l.length = n) : takeR (l ++ r) 0 n = r := by
  unfold takeR
  rw [if_pos rfl, if_pos (by rw [List.length_append]; omega), ← h, List.drop_left]
theorem takeE_app (l r : List Int) (n : Nat) (h : l.length = n) : takeE (l ++ r) 0 n = 0 := by
  unfold takeE
  rw [if_pos rfl, if_pos (by rw [List.length_append]; omega)]
theorem limE_zero {n most e : Int} (h : limE n most e = 0) : e = 0 ∧ n ≤ most := by
  unfold limE at h
  split at h
  · rename_i he
    split at h
    · cases h
    · exact ⟨he, by omega⟩
  · contradiction
/-! ### bytes and texts -/
theorem bytesOf_strOf (l : List Int) (h : Bys l) : bytesOf (strOfNums l) = l := by
  unfold bytesOf
  rw [show (strOfNums l).data.toList = l.map (fun x => UInt8.ofNat x.toNat) by simp [strOfNums]]
  rw [List.map_map]
  conv => rhs; rw [← List.map_id l]
  apply List.map_congr_left
  intro x hx
  have := h x hx
  simp only [Function.comp, id]
  have e : (UInt8.ofNat x.toNat).toNat = x.toNat % 256 := by simp
  rw [e]
  omega
theorem bytesOf_bys (s : ByteArray) : Bys (bytesOf s) := fun x hx => by
  unfold bytesOf at hx
  obtain ⟨b, _, rfl⟩ := List.mem_map.1 hx
  have := b.toNat_lt
  omega
theorem strOf_bytesOf (s : ByteArray) : strOfNums (bytesOf s) = s := by
  unfold bytesOf
  apply ByteArray.ext
  apply Array.ext'
  rw [show (strOfNums (s.data.toList.map fun b => (b.toNat : Int))).data.toList = (s.data.toList.map fun b => (b.toNat : Int)).map (fun x => UInt8.ofNat x.toNat) by simp [strOfNums]]
  rw [List.map_map]
  conv => rhs; rw [← List.map_id s.data.toList]
  apply List.map_congr_left
  intro b hb
  simp
/-! ### what is parsed is what was there -/
theorem text_inv {b : List Int} {e : Int} (h : textRE b e = 0) (hb : Bys b) : e = 0 ∧ b = textB (textV b e) ++ textRB b e := by
  unfold textRE at h
  obtain ⟨h1, h2⟩ := takeE_zero h
  have h3 := h1
  unfold textE at h3
  obtain ⟨h4, h5⟩ := limE_zero h3
  obtain ⟨rfl, h6⟩ := takeE_zero h4
  refine ⟨rfl, ?_⟩
  obtain ⟨p1, p2⟩ := take_parts h6
  have hb1 : Bys (takeL b 0 3) := by rw [← p1] at hb; exact hb.left
  have hb2 : Bys (takeR b 0 3) := by rw [← p1] at hb; exact hb.right
  obtain ⟨q1, q2⟩ := take_parts h2
  have hb3 : Bys (takeL (takeR b 0 3) 0 (numN b 0 3)) := by rw [← q1] at hb2; exact hb2.left
  have hn := numOf_lt _ hb1
  have hsz : ((strOfNums (takeL (takeR b 0 3) 0 (numN b 0 3))).size : Int) = numOf (takeL b 0 3) := by
    rw [strOf_size, q2]
    unfold numN
    omega
  unfold textV textRB textB
  rw [h1, hsz, bytesOf_strOf _ hb3]
  have hr := rowB_numOf (takeL b 0 3) hb1
  rw [p2] at hr
  rw [hr, List.append_assoc, q1, p1]
theorem lines_inv (m : Nat) : ∀ (b : List Int) (e : Int), (linesS m b e).2.2 = 0 → Bys b → e = 0 ∧ b = linesB (linesS m b e).1 ++ (linesS m b e).2.1 ∧ (linesS m b e).1.length = m := by
  induction m with
  | zero => intro b e h _; exact ⟨h, rfl, rfl⟩
  | succ m ih =>
    intro b e h hb
    rw [linesS_succ] at h ⊢
    by_cases ht : textRE b e = 0
    · rw [if_pos ht] at h ⊢
      obtain ⟨he, hbe⟩ := text_inv ht hb
      have hb2 : Bys (textRB b e) := fun x hx => hb x (textRB_sub hx)
      obtain ⟨_, h2, h3⟩ := ih _ _ h hb2
      refine ⟨he, ?_, by simp [h3]⟩
      have : linesB (textV b e :: (linesS m (textRB b e) (textRE b e)).1) = textB (textV b e) ++ linesB (linesS m (textRB b e) (textRE b e)).1 := rfl
      simp only [this, List.append_assoc, ← h2, ← hbe]
    · rw [if_neg ht] at h
      exact absurd h ht
theorem fieldAt_plc (lo fr : Int) (i : Nat) (hi : i < 6) : (fieldAt lo fr i).1 = i + 1 := by
  have : i = 0 ∨ i = 1 ∨ i = 2 ∨ i = 3 ∨ i = 4 ∨ i = 5 := by omega
  rcases this with rfl | rfl | rfl | rfl | rfl | rfl <;> simp only [fieldAt]
theorem fieldAt_bt (lo fr : Int) (i : Nat) (hi : i < 6) : (fieldAt lo fr i).2.1 = (fieldAt 0 0 i).2.1 := by
  have : i = 0 ∨ i = 1 ∨ i = 2 ∨ i = 3 ∨ i = 4 ∨ i = 5 := by omega
  rcases this with rfl | rfl | rfl | rfl | rfl | rfl <;> simp only [fieldAt]
theorem fieldAt_inj (i j : Nat) (hi : i < 6) (hj : j < 6) (h : (fieldAt 0 0 i).1 = (fieldAt 0 0 j).1) : i = j := by
  rw [fieldAt_plc 0 0 i hi, fieldAt_plc 0 0 j hj] at h
  omega
theorem fieldAt_bit (lo fr : Int) (i : Nat) (hi : i < 6) : (fieldAt lo fr i).2.1 = (fieldAt 0 0 i).2.1 := fieldAt_bt lo fr i hi
theorem fieldAt_pl (lo fr : Int) (i : Nat) (hi : i < 6) : (fieldAt lo fr i).1 = (fieldAt 0 0 i).1 := by
  rw [fieldAt_plc lo fr i hi, fieldAt_plc 0 0 i hi]
theorem fieldB_any (own lo fr : Int) (V : Nat → Int) (i : Nat) (hi : i < 6) : fieldB own lo fr V i = fieldB own 0 0 V i := by
  unfold fieldB
  rw [fieldAt_bit lo fr i hi, fieldAt_pl lo fr i hi]
theorem fieldsB_any (own lo fr : Int) (V : Nat → Int) (n : Nat) (hn : n ≤ 6) : fieldsB own lo fr V n = fieldsB own 0 0 V n := by
  induction n with
  | zero => simp [fieldsB]
  | succ n ih => rw [fieldsB_succ, fieldsB_succ, ih (by omega), fieldB_any _ _ _ _ _ (by omega)]
theorem fieldsB_congr (own : Int) (V V' : Nat → Int) (n : Nat) (h : ∀ i, i < n → V (fieldAt 0 0 i).1 = V' (fieldAt 0 0 i).1) : fieldsB own 0 0 V n = fieldsB own 0 0 V' n := by
  induction n with
  | zero => simp [fieldsB]
  | succ n ih =>
    rw [fieldsB_succ, fieldsB_succ, ih (fun i hi => h i (by omega))]
    unfold fieldB
    rw [h n (by omega)]
theorem fields_inv (own : Int) (V0 : Nat → Int) (b : List Int) (hb : Bys b) (n : Nat) (hn : n ≤ 6) (e0 : Int) (h : (fieldsS own (V0, b, e0) n).2.2 = 0) : e0 = 0 ∧ b = fieldsB own 0 0 (fieldsS own (V0, b, e0) n).1 n ++ (fieldsS own (V0, b, e0) n).2.1 := by
  induction n with
  | zero => exact ⟨h, by simp [fieldsB, fieldsS]⟩
  | succ n ih =>
    have hs : fieldsS own (V0, b, e0) (n + 1) = fieldS own n (fieldsS own (V0, b, e0) n) := rfl
    have hbs : Bys (fieldsS own (V0, b, e0) n).2.1 := fun x hx => hb x (sub_fieldsS _ _ _ _ hx)
    have ih2 := ih (by omega)
    rw [hs] at h ⊢
    generalize fieldsS own (V0, b, e0) n = s at *
    obtain ⟨V, b1, e1⟩ := s
    by_cases hz : bits .and .i64 own (fieldAt 0 0 n).2.1 = 0
    · unfold fieldS at h ⊢
      rw [if_pos hz] at h ⊢
      obtain ⟨h1, h2⟩ := ih2 h
      refine ⟨h1, ?_⟩
      rw [fieldsB_succ]
      have : fieldB own 0 0 V n = [] := by unfold fieldB; rw [if_pos hz]
      simp only [this, List.append_nil]
      exact h2
    · unfold fieldS at h ⊢
      rw [if_neg hz] at h ⊢
      simp only at h ⊢
      obtain ⟨h1, h2⟩ := takeE_zero h
      obtain ⟨h3, h4⟩ := ih2 h1
      refine ⟨h3, ?_⟩
      subst h1
      obtain ⟨p1, p2⟩ := take_parts h2
      have hb1 : Bys (takeL b1 0 7) := by rw [← p1] at hbs; exact hbs.left
      rw [fieldsB_succ]
      have e1 : fieldsB own 0 0 (setV V (fieldAt 0 0 n).1 (numOf (takeL b1 0 7))) n = fieldsB own 0 0 V n := fieldsB_congr own _ _ n (fun i hi => by
        unfold setV
        rw [if_neg (fun e => by have := fieldAt_inj i n (by omega) (by omega) e; omega)])
      have e2 : fieldB own 0 0 (setV V (fieldAt 0 0 n).1 (numOf (takeL b1 0 7))) n = takeL b1 0 7 := by
        unfold fieldB
        rw [if_neg hz]
        unfold setV
        rw [if_pos rfl]
        have := rowB_numOf (takeL b1 0 7) hb1
        rw [p2] at this
        exact this
      rw [e1, e2, List.append_assoc, p1]
      exact h4
end Go.Proofs.YteiedafdakffeaaDoor
