/- push: each of the lines, and how many bytes they have. -/
import Derived.Test.YteiedafdakffeaaDoorPushG
namespace Go.Proofs.YteiedafdakffeaaDoor
set_option linter.unusedVariables false
set_option linter.unusedSimpArgs false
open Go Go.RowKit
def flat (l : List ByteArray) : Bool := l.all fun s => !has10 s
def sizes (l : List ByteArray) : Nat := (l.map fun s => s.size).sum
theorem sizes_take (l : List ByteArray) (k : Nat) (h : k < l.length) : sizes (l.take (k + 1)) = sizes (l.take k) + (l.getD k ByteArray.empty).size := by
  have e : l.take (k + 1) = l.take k ++ [l[k]] := by rw [List.take_add_one, List.getElem?_eq_getElem h]; rfl
  unfold sizes
  rw [e, List.map_append, List.sum_append]
  simp [List.getD, h]
theorem sizes_le (l : List ByteArray) (k : Nat) : sizes (l.take k) ≤ sizes l := by
  have e : sizes l = sizes (l.take k) + sizes (l.drop k) := by
    unfold sizes
    rw [← List.sum_append, ← List.map_append, List.take_append_drop]
  omega
/-- lines that lie in a row, none of which is block o -/
def LinesAt (w : World) (o : Nat) (A : Option Addr) (l : List ByteArray) : Prop := ∀ i, i < l.length → ∃ g p, A = some ⟨g, p, none⟩ ∧ g ≠ o ∧ w.cell? ⟨g, p + i, none⟩ = some (.string (l.getD i ByteArray.empty))
set_option maxRecDepth 100000 in
set_option maxHeartbeats 4000000 in
theorem index_lines (w : World) (o c : Nat) (A : Option Addr) (l : List ByteArray) (cap : Nat) (hco : c ≠ o) (hl : LinesAt w o A l) (hbig : l.length ≤ 1000000000000) (hs : sizes l ≤ 4611686018427387904)
    (ho : w.heap[o]? = some (.cells #[.int .i64 0] 3 (0, 0))) (hc : w.cell? ⟨c, 0, none⟩ = some (.func (.func 62) #[] #[.pointer (some ⟨o, 0, none⟩)])) :
    Calls Tryd.prog 81 #[.slice A l.length cap, .func (.func 76) #[] #[.pointer (some ⟨c, 0, none⟩)]] w fun e w' =>
      ∃ r : Int, e = .returned (.int .i64 r) ∧ decide (0 ≤ r) = !flat l ∧ (∃ m, w'.heap[o]? = some (.cells #[.int .i64 m] 3 (0, 0)) ∧ (flat l = true → m = sizes l)) ∧ Chg (fun k => k = o) w w' := by
  have HL := Lib.hid hl
  have HO := Lib.hid ho
  have HC := Lib.hid hc
  have hnil : A = none → l.length = 0 := fun e => by
    rcases Nat.eq_zero_or_pos l.length with h | h
    · exact h
    · obtain ⟨g, p, e2, _⟩ := hl 0 h
      rw [e] at e2
      cases e2
  clear hl ho hc hnil
  go_enter Tryd.func81, Tryd.ntmps81
  go_wp2_with fail
  go_loopw [8] (fun i wr => ∃ k : Nat, k ≤ l.length ∧ i = .int .i64 k ∧ (∀ q, q < k → has10 (l.getD q ByteArray.empty) = false) ∧ wr.heap[o]? = some (.cells #[.int .i64 (sizes (l.take k) : Nat)] 3 (0, 0)) ∧ Chg (fun k => k = o) w wr) (fun i _ => l.length - (intOf i).toNat)
  case atStart => exact ⟨0, by omega, rfl, fun q hq => by omega, HO.out, Chg.refl _ _⟩
  case round =>
    obtain ⟨k, hk, rfl, hq, hoR, hC⟩ := hrel
    by_cases hlt : k < l.length
    · obtain ⟨g, p, rfl, hgo, hcell⟩ := HL.out k hlt
      have c1 := hC.cell hcell hgo
      have he := each1s_some wr o c (sizes (l.take k) : Nat) (l.getD k ByteArray.empty) hoR (hC.cell HC.out hco)
      have h1 := sizes_take l k hlt
      have h2 := sizes_le l (k + 1)
      have ew : wrap64 (((sizes (l.take k) : Nat) : Int) + ((l.getD k ByteArray.empty).size : Int)) = ((sizes (l.take (k + 1)) : Nat) : Int) := by unfold wrap64; omega
      rw [ew] at he
      have HQ := Lib.hid hq
      have HK := Lib.hid hC
      have HOR := Lib.hid hoR
      have hkk : has10 (l.getD k ByteArray.empty) = has10 (l.getD k ByteArray.empty) := rfl
      clear hq hC hoR ew h1 h2 hcell
      generalize hX : l.getD k ByteArray.empty = X at *
      go_wp2_with fail
      refine he.mono ?_
      rintro e w2 ⟨rfl, rfl⟩
      have HO2 := Lib.hid (heap_setCell_cells HOR.out 0 (.int .i64 ((sizes (l.take (k + 1)) : Nat) : Int)))
      have HC2 := Lib.hid (HK.out.setCell (p := ⟨o, 0, none⟩) (.inl rfl) (.int .i64 ((sizes (l.take (k + 1)) : Nat) : Int)))
      clear he c1
      generalize wr.setCell ⟨o, 0, none⟩ (.int .i64 ((sizes (l.take (k + 1)) : Nat) : Int)) = w2 at *
      cases hok : has10 X
      · go_wp2
        go_roundw
        case rel => exact ⟨k + 1, by omega, by go_num, fun q hq2 => by
          by_cases e : q = k
          · subst e; rw [hX]; exact hok
          · exact HQ.out q (by omega), HO2.out, HC2.out⟩
        case measure => simp [intOf] <;> omega
      · go_wp2
        go_ret
        have hf : flat l = false := by
          unfold flat
          rw [List.all_eq_false]
          refine ⟨l[k], List.getElem_mem hlt, ?_⟩
          have : l[k] = X := by rw [← hX]; simp [List.getD, hlt]
          rw [this, hok]
          simp
        refine ⟨k, rfl, ?_, ⟨_, HO2.out, fun h => by rw [hf] at h; cases h⟩, HC2.out⟩
        rw [hf]
        exact decide_eq_true (by omega)
    · have HQ := Lib.hid hq
      have HK := Lib.hid hC
      have HOR := Lib.hid hoR
      clear hq hC hoR
      obtain rfl : k = l.length := by omega
      go_wp2
      go_ret
      have hf : flat l = true := by
        unfold flat
        rw [List.all_eq_true]
        intro x hx
        obtain ⟨q, hq2, rfl⟩ := List.getElem_of_mem hx
        have := HQ.out q hq2
        rw [show l.getD q ByteArray.empty = l[q] by simp [List.getD, hq2]] at this
        rw [this]
        rfl
      have ho2 := HOR.out
      rw [List.take_length] at ho2
      refine ⟨-1, rfl, by rw [hf]; rfl, ⟨_, ho2, fun _ => rfl⟩, HK.out⟩
end Go.Proofs.YteiedafdakffeaaDoor
