/- push, plainly: what can be parsed has just these bytes, and may be. -/
import Derived.Test.YteiedafdakffeaaDoorPurePushA
namespace Go.Proofs.YteiedafdakffeaaDoor
set_option linter.unusedVariables false
set_option linter.unusedSimpArgs false
open Go Go.RowKit
open Go.Proofs.YteiedafdakffeaaDoorW.PrintWords (bytesOf bytesOf_length)
theorem check_bounds {k ver fr nd tk hd tl : Int} {tx : ByteArray} {l : List ByteArray} (h : checkF k ver fr nd tk hd tl tx l = 0) : (1 ≤ k ∧ k ≤ 5) ∧ tx.size ≤ 65536 ∧ flat l = true ∧ sizes l ≤ 65536 ∧ l.length ≤ 1000 ∧ (k ≠ 1 → tx = ByteArray.empty) ∧ (k ≠ 2 → l = []) ∧ allOk (ownOf k) (leastOf k) (fromOf k ver) (pushV k ver fr nd tk hd tl) = true := by
  unfold checkF at h
  by_cases hk : 1 ≤ k ∧ k ≤ 5
  · rw [if_pos hk] at h
    unfold checkE at h
    split at h
    · rename_i hc
      simp only [Bool.and_eq_true] at hc
      obtain ⟨h1, h2, h3⟩ := hc
      unfold textsB at h2
      unfold listsB at h3
      simp only [Bool.and_eq_true, Bool.or_eq_true, decide_eq_true_eq] at h2 h3
      refine ⟨hk, h2.2, h3.2.1, h3.2.2.1, h3.2.2.2, fun hne => ?_, fun hne => ?_, h1⟩
      · rcases h2.1 with h | h
        · exact absurd (by simpa using h) hne
        · have : tx.toList = [] := by simpa using h
          rw [ByteArray.toList_eq] at this
          exact ByteArray.ext (Array.ext' (by rw [this]; rfl))
      · rcases h3.1 with h | h
        · exact absurd (by simpa using h) hne
        · simpa using h
    · cases h
  · rw [if_neg hk] at h
    cases h
theorem pushV_at (k : Int) (V : Nat → Int) (q : Nat) (h1 : 1 ≤ q) (h6 : q ≤ 6) : pushV k (V 1) (V 2) (V 3) (V 4) (V 5) (V 6) q = V q := by
  have : q = 1 ∨ q = 2 ∨ q = 3 ∨ q = 4 ∨ q = 5 ∨ q = 6 := by omega
  rcases this with rfl | rfl | rfl | rfl | rfl | rfl <;> simp only [pushV]
theorem pushB_eq (k : Int) (V : Nat → Int) (tx : ByteArray) (l : List ByteArray) : pushB k (V 1) (V 2) (V 3) (V 4) (V 5) (V 6) tx l = [k % 256] ++ fieldsB (ownOf k) 0 0 V 6 ++ (if k = 1 then textB tx else []) ++ (if k = 2 then rowB l.length 2 ++ linesB l else []) := by
  unfold pushB
  rw [fieldsB_any _ _ _ _ 6 (by omega), fieldsB_congr (ownOf k) _ V 6 (fun i hi => by rw [fieldAt_plc 0 0 i hi]; exact pushV_at k V (i + 1) (by omega) (by omega))]
theorem noPkt_e (e : Int) : (noPkt e).e = e := rfl
theorem linesP_shape (k : Int) (V : Nat → Int) (tx : ByteArray) (b : List Int) (e : Int) : linesP k V tx b e = noPkt (linesP k V tx b e).e ∨ (linesP k V tx b e).e = 0 := by
  unfold linesP
  generalize (if k = 2 then linesS (numN b e 2) (takeR b e 2) (limE (numOf (takeL b e 2)) 1000 (takeE b e 2)) else ([], b, e)) = r
  unfold endP
  split
  · split
    · exact .inl rfl
    · split
      · exact .inr rfl
      · exact .inl rfl
  · exact .inl rfl
theorem parse_shape (b : List Int) : parseP b = noPkt (parseP b).e ∨ (parseP b).e = 0 := by
  unfold parseP
  split
  · split
    · unfold textP
      split
      · exact linesP_shape _ _ _ _ _
      · exact linesP_shape _ _ _ _ _
    · exact .inl rfl
  · exact .inl rfl
theorem parse_err (b : List Int) (h : (parseP b).e ≠ 0) : parseP b = noPkt (parseP b).e := (parse_shape b).elim id (fun h' => absurd h' h)
theorem parse_inv (b : List Int) (hb : Bys b) (h : (parseP b).e = 0) :
    checkP (parseP b).k (parseP b).V (parseP b).tx (parseP b).l = 0 ∧ pushB (parseP b).k ((parseP b).V 1) ((parseP b).V 2) ((parseP b).V 3) ((parseP b).V 4) ((parseP b).V 5) ((parseP b).V 6) (parseP b).tx (parseP b).l = b := by
  have hP : parseP b = if takeE b 0 1 = 0 then if 1 ≤ numOf (takeL b 0 1) ∧ numOf (takeL b 0 1) ≤ 5 then textP (numOf (takeL b 0 1)) (fieldsS (ownOf (numOf (takeL b 0 1))) (zeroV, takeR b 0 1, 0) 6) else noPkt 4 else noPkt (takeE b 0 1) := rfl
  by_cases h0 : takeE b 0 1 = 0
  · rw [if_pos h0] at hP
    obtain ⟨_, h1⟩ := takeE_zero h0
    obtain ⟨p1, p2⟩ := take_parts h1
    by_cases hk : 1 ≤ numOf (takeL b 0 1) ∧ numOf (takeL b 0 1) ≤ 5
    · rw [if_pos hk] at hP
      have hkb : takeL b 0 1 = [numOf (takeL b 0 1) % 256] := by
        obtain ⟨x, hx⟩ : ∃ x, takeL b 0 1 = [x] := by
          match hh : takeL b 0 1, p2 with
          | [x], _ => exact ⟨x, rfl⟩
        rw [hx] at hk ⊢
        have : numOf [x] = x := by simp [numOf]
        rw [this] at hk ⊢
        rw [Int.emod_eq_of_lt (by omega) (by omega)]
      have hb1 : Bys (takeR b 0 1) := by rw [← p1] at hb; exact hb.right
      rw [hP] at h ⊢
      rw [hkb] at p1
      generalize numOf (takeL b 0 1) = k at *
      generalize takeR b 0 1 = b1 at *
      clear hP hkb p2 h0 h1
      have hf := fields_inv (ownOf k) zeroV b1 hb1 6 (by omega) 0
      have hbs : Bys (fieldsS (ownOf k) (zeroV, b1, 0) 6).2.1 := fun x hx => hb1 x (sub_fieldsS _ _ _ _ hx)
      generalize fieldsS (ownOf k) (zeroV, b1, 0) 6 = s at *
      obtain ⟨V, b2, e2⟩ := s
      simp only at hf hbs
      -- the lines and the end
      have key : ∀ (tx : ByteArray) (b3 : List Int) (e3 : Int), Bys b3 → (linesP k V tx b3 e3).e = 0 →
          e3 = 0 ∧ ∃ l, linesP k V tx b3 e3 = ⟨k, V, tx, l, 0⟩ ∧ checkP k V tx l = 0 ∧ b3 = (if k = 2 then rowB l.length 2 ++ linesB l else []) := fun tx b3 e3 hb3 hl => by
        unfold linesP at hl ⊢
        have hr : ∀ r : List ByteArray × List Int × Int, (endP k V tx r).e = 0 → r.2.2 = 0 ∧ r.2.1 = [] ∧ endP k V tx r = ⟨k, V, tx, r.1, 0⟩ ∧ checkP k V tx r.1 = 0 := fun r h => by
          unfold endP at h ⊢
          split at h
          · rename_i hz
            split at h
            · cases h
            · rename_i hlen
              split at h
              · rename_i hc
                refine ⟨hz, ?_, by rw [if_pos hz, if_neg hlen, if_pos hc], hc⟩
                cases hh : r.2.1 with
                | nil => rfl
                | cons x t => rw [hh] at hlen; simp at hlen
              · cases h
          · rename_i hz
            rw [noPkt_e] at h
            exact absurd h hz
        by_cases h2 : k = 2
        · rw [if_pos h2] at hl ⊢
          obtain ⟨g1, g2, g3, g4⟩ := hr _ hl
          have hnum : Bys (takeR b3 e3 2) := fun x hx => hb3 x (takeR_sub hx)
          obtain ⟨l1, l2, l3⟩ := lines_inv _ _ _ g1 hnum
          obtain ⟨l4, l5⟩ := limE_zero l1
          obtain ⟨rfl, l6⟩ := takeE_zero l4
          obtain ⟨q1, q2⟩ := take_parts l6
          refine ⟨rfl, _, g3, g4, ?_⟩
          rw [if_pos h2]
          rw [g2, List.append_nil] at l2
          have hbL : Bys (takeL b3 0 2) := by rw [← q1] at hb3; exact hb3.left
          have hrow := rowB_numOf _ hbL
          rw [q2] at hrow
          have hn := numOf_lt _ hbL
          have hlen : ((linesS (numN b3 0 2) (takeR b3 0 2) (limE (numOf (takeL b3 0 2)) 1000 (takeE b3 0 2))).1.length : Int) = numOf (takeL b3 0 2) := by
            rw [l3]
            unfold numN
            omega
          rw [hlen, hrow, ← l2, q1]
        · rw [if_neg h2] at hl ⊢
          obtain ⟨g1, g2, g3, g4⟩ := hr _ hl
          exact ⟨g1, [], g3, g4, by rw [if_neg h2]; exact g2⟩
      unfold textP at h ⊢
      simp only at h ⊢
      by_cases h1 : k = 1
      · rw [if_pos h1] at h ⊢
        have hb3 : Bys (textRB b2 e2) := fun x hx => hbs x (textRB_sub hx)
        obtain ⟨t1, l, t2, t3, t4⟩ := key _ _ _ hb3 h
        obtain ⟨t5, t6⟩ := text_inv t1 hbs
        obtain ⟨_, f2⟩ := hf t5
        rw [t2]
        refine ⟨t3, ?_⟩
        rw [pushB_eq, if_pos h1, ← t4, List.append_assoc, List.append_assoc, ← t6, ← f2, p1]
      · rw [if_neg h1] at h ⊢
        obtain ⟨t1, l, t2, t3, t4⟩ := key _ _ _ hbs h
        obtain ⟨_, f2⟩ := hf t1
        rw [t2]
        refine ⟨t3, ?_⟩
        rw [pushB_eq, if_neg h1, ← t4, List.append_nil, List.append_assoc, ← f2, p1]
    · rw [if_neg hk] at hP
      rw [hP] at h
      cases h
  · rw [if_neg h0] at hP
    rw [hP, noPkt_e] at h
    exact absurd h h0
end Go.Proofs.YteiedafdakffeaaDoor
