/- push: a line feed in a text, byte by byte; the numbers of a kind as the document has them. -/
import Derived.Test.YteiedafdakffeaaDoorPuP
namespace Go.Proofs.YteiedafdakffeaaDoor
set_option linter.unusedVariables false
set_option linter.unusedSimpArgs false
open Go Go.RowKit Go.Proofs
theorem data_at (s : ByteArray) (j : Nat) (hj : j < s.size) : s.data.toList[j]? = some s[j] := by
  rw [Array.getElem?_toList]
  exact Array.getElem?_eq_getElem hj
theorem has10_yes (s : ByteArray) (j : Nat) (hj : j < s.size) (h : (s[j]).toNat = 10) : has10 s = true := by
  unfold has10
  rw [decide_eq_true_eq]
  rcases Int.lt_or_le (Lib.indexByte s.data.toList 10) 0 with hl | hl
  · have hm : Lib.indexByte s.data.toList 10 = -1 := by have := Lib.indexByte_ge s.data.toList 10; omega
    refine absurd ?_ (Lib.indexByte_none hm j)
    rw [data_at s j hj]
    exact congrArg some (UInt8.toNat_inj.1 h)
  · exact hl
theorem has10_no (s : ByteArray) (h : ∀ j (hj : j < s.size), (s[j]).toNat ≠ 10) : has10 s = false := by
  unfold has10
  rw [decide_eq_false_iff_not]
  intro hc
  obtain ⟨o, ho⟩ := Int.eq_ofNat_of_zero_le hc
  have h1 := (Lib.indexByte_some ho).1
  have hj : o < s.size := by
    have := (List.getElem?_eq_some_iff.1 h1).1
    simpa using this
  rw [data_at s o hj] at h1
  have h2 := Option.some.inj h1
  exact h o hj (by rw [h2]; rfl)
def rfieldsL (k : Int) : List Int := if k = 1 then [0, 3] else if k = 3 then [0, 3] else if k = 2 then [0, 1, 3, 4, 5] else [0, 2]
set_option maxRecDepth 100000 in
set_option maxHeartbeats 4000000 in
theorem rfields_some (w : World) (k : Int) :
    Calls Tryd.prog 41 #[.int .i64 k] w fun e w' => e = .returned (.slice (some ⟨w.heap.size, 0, none⟩) (rfieldsL k).length (rfieldsL k).length) ∧ w'.heap[w.heap.size]? = some (.cells ((rfieldsL k).map (Value.int .i64)).toArray 3 (0, 0)) ∧ Chg (fun _ => False) w w' := by
  by_cases k1 : k = 1
  · subst k1
    go_enter Tryd.func41, Tryd.ntmps41
    go_wp2_with fail
    go_ret
    exact ⟨rfl, heap_new _ _, (Chg.refl _ w).alloc _⟩
  have g1 : (k == 1) = false := beq_eq_false_iff_ne.2 k1
  by_cases k3 : k = 3
  · subst k3
    go_enter Tryd.func41, Tryd.ntmps41
    go_wp2_with fail
    go_ret
    exact ⟨rfl, heap_new _ _, (Chg.refl _ w).alloc _⟩
  have g3 : (k == 3) = false := beq_eq_false_iff_ne.2 k3
  by_cases k2 : k = 2
  · subst k2
    go_enter Tryd.func41, Tryd.ntmps41
    go_wp2_with fail
    go_ret
    exact ⟨rfl, heap_new _ _, (Chg.refl _ w).alloc _⟩
  have g2 : (k == 2) = false := beq_eq_false_iff_ne.2 k2
  have e : rfieldsL k = [0, 2] := by unfold rfieldsL; rw [if_neg k1, if_neg k3, if_neg k2]
  rw [e]
  clear k1 k2 k3 e
  go_enter Tryd.func41, Tryd.ntmps41
  go_wp2_with fail
  go_ret
  exact ⟨rfl, heap_new _ _, (Chg.refl _ w).alloc _⟩
end Go.Proofs.YteiedafdakffeaaDoor
