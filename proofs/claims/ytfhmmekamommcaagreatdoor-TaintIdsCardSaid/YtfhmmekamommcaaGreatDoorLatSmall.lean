/- lattice: the small functions, over the cells of a lattice's block (names 0, order 1, joins from 5, meets from 105, low 205, high 206). -/
import Derived.Test.YtfhmmekamommcaaGreatDoorLatPlain
namespace Go.Proofs.YtfhmmekamommcaaGreatDoor
set_option linter.unusedVariables false
set_option linter.unusedSimpArgs false
open Go Go.RowKit Go.Proofs Go.Shelf Go.Sort
def latp (la : Nat) : Value := .pointer (some ⟨la, 0, none⟩)
theorem lmany_some {w : World} {la n c : Nat} {A : Option Addr} (h : w.cell? ⟨la, 0, none⟩ = some (.slice A n c)) :
    Calls Tryz.prog 44 #[latp la] w fun e w' => e = .returned (.int .i64 n) ∧ w' = w := by
  unfold latp
  go_enter Tryz.func44, Tryz.ntmps44
  go_wp2
  go_ret
  exact ⟨rfl, rfl⟩
theorem lhigh_some {w : World} {la : Nat} {x : Int} (h : w.cell? ⟨la, 206, none⟩ = some (.int .i64 x)) :
    Calls Tryz.prog 61 #[latp la] w fun e w' => e = .returned (.int .i64 x) ∧ w' = w := by
  unfold latp
  go_enter Tryz.func61, Tryz.ntmps61
  go_wp2
  go_ret
  exact ⟨rfl, rfl⟩
theorem lis_some {w : World} {la n c : Nat} {A : Option Addr} (h : w.cell? ⟨la, 0, none⟩ = some (.slice A n c)) (a : Int) :
    Calls Tryz.prog 60 #[latp la, .int .i64 a] w fun e w' => e = .returned (.bool (decide (0 ≤ a ∧ a < n))) ∧ w' = w := by
  have hm := lmany_some h
  unfold latp at *
  by_cases h0 : 0 ≤ a
  · by_cases h1 : a < n
    · rw [decide_eq_true (show 0 ≤ a ∧ a < n from ⟨h0, h1⟩)]
      go_enter Tryz.func60, Tryz.ntmps60
      go_wp2_with (first | (go_at_call 44; refine hm.mono ?_; rintro e w' ⟨rfl, rfl⟩))
      go_ret
      exact ⟨rfl, rfl⟩
    · rw [decide_eq_false (show ¬ (0 ≤ a ∧ a < n) from fun x => h1 x.2)]
      go_enter Tryz.func60, Tryz.ntmps60
      go_wp2_with (first | (go_at_call 44; refine hm.mono ?_; rintro e w' ⟨rfl, rfl⟩))
      go_ret
      exact ⟨by simp; omega, rfl⟩
  · rw [decide_eq_false (show ¬ (0 ≤ a ∧ a < n) from fun x => h0 x.1)]
    go_enter Tryz.func60, Tryz.ntmps60
    go_wp2_with fail
    go_ret
    exact ⟨rfl, rfl⟩
end Go.Proofs.YtfhmmekamommcaaGreatDoor
