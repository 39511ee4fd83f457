/- The predicates of package text. -/
import Derived.Test.YtfhmmekamommcaaGreatDoorTxtGiven0
import Derived.Test.YtfhmmekamommcaaGreatDoorTxtIdx
import Derived.Deep.QuietTactic
import Derived.BigQuiet
import Derived.Shelf.GgClosure.Gives
namespace Go.Proofs.YtfhmmekamommcaaGreatDoor
set_option linter.unusedVariables false
set_option linter.unusedSimpArgs false
open Go Go.RowKit Go.Proofs Go.Shelf
/-- is a rune's number a word's? -/
def lN (r : Nat) : Bool := decide (97 ≤ r) && decide (r ≤ 122)
def mN (r : Nat) : Bool := lN r || (decide (48 ≤ r) && decide (r ≤ 57)) || decide (r = 45)
theorem letter_any (r : Nat) (W : World) : Calls Tryz.prog 84 #[.int .i32 (r : Int)] W fun e w' => e = .returned (.bool (lN r)) ∧ W = w' := by
  unfold lN
  by_cases h1 : 97 ≤ r
  · by_cases h2 : r ≤ 122
    · rw [decide_eq_true h1, decide_eq_true h2]
      have h1' : (97 : Int) ≤ r := by omega
      have h2' : (r : Int) ≤ 122 := by omega
      clear h1 h2
      go_enter Tryz.func84, Tryz.ntmps84
      go_wp2
      go_ret
      exact ⟨rfl, rfl⟩
    · rw [decide_eq_true h1, decide_eq_false h2]
      have h1' : (97 : Int) ≤ r := by omega
      have h2' : ¬ (r : Int) ≤ 122 := by omega
      clear h1 h2
      go_enter Tryz.func84, Tryz.ntmps84
      go_wp2
      go_ret
      exact ⟨rfl, rfl⟩
  · rw [decide_eq_false h1]
    have h1' : ¬ (97 : Int) ≤ r := by omega
    clear h1
    go_enter Tryz.func84, Tryz.ntmps84
    go_wp2
    go_ret
    exact ⟨rfl, rfl⟩
theorem may_any (r : Nat) (W : World) (B : Nat) (hB : W.cell? ⟨B, 0, none⟩ = some (.func (.func 84) #[] #[])) :
    Calls Tryz.prog 85 #[.int .i32 (r : Int), .pointer (some ⟨B, 0, none⟩)] W fun e w' => e = .returned (.bool (mN r)) ∧ W = w' := by
  have hl := letter_any r W
  unfold mN
  cases hc : lN r with
  | true =>
    rw [hc] at hl
    clear hc
    go_enter Tryz.func85, Tryz.ntmps85
    go_wp2_with fail
    refine hl.mono ?_
    rintro e w' ⟨rfl, rfl⟩
    go_wp2
    go_ret
    exact ⟨rfl, rfl⟩
  | false =>
    rw [hc] at hl
    clear hc
    by_cases h1 : 48 ≤ r
    · by_cases h2 : r ≤ 57
      · rw [decide_eq_true h1, decide_eq_true h2]
        have h1' : (48 : Int) ≤ r := by omega
        have h2' : (r : Int) ≤ 57 := by omega
        clear h1 h2
        go_enter Tryz.func85, Tryz.ntmps85
        go_wp2_with fail
        refine hl.mono ?_
        rintro e w' ⟨rfl, rfl⟩
        go_wp2
        go_ret
        exact ⟨rfl, rfl⟩
      · have h3 : decide (r = 45) = false := decide_eq_false (by omega)
        rw [decide_eq_true h1, decide_eq_false h2, h3]
        have h1' : (48 : Int) ≤ r := by omega
        have h2' : ¬ (r : Int) ≤ 57 := by omega
        have h3' : ((r : Int) == 45) = false := by rw [beq_eq_false_iff_ne]; omega
        clear h1 h2 h3
        go_enter Tryz.func85, Tryz.ntmps85
        go_wp2_with fail
        refine hl.mono ?_
        rintro e w' ⟨rfl, rfl⟩
        go_wp2
        go_ret
        exact ⟨by show Ending.returned (.bool (decide ((r : Int) ≤ 57))) = _; rw [decide_eq_false (Int.not_le.2 h2')]; rfl, rfl⟩
    · by_cases h3 : r = 45
      · subst h3
        clear h1
        go_enter Tryz.func85, Tryz.ntmps85
        go_wp2_with fail
        refine hl.mono ?_
        rintro e w' ⟨rfl, rfl⟩
        go_wp2
        go_ret
        exact ⟨rfl, rfl⟩
      · rw [decide_eq_false h1, decide_eq_false h3]
        have h1' : ¬ (48 : Int) ≤ r := by omega
        have h3' : ((r : Int) == 45) = false := by rw [beq_eq_false_iff_ne]; omega
        clear h1 h3
        go_enter Tryz.func85, Tryz.ntmps85
        go_wp2_with fail
        refine hl.mono ?_
        rintro e w' ⟨rfl, rfl⟩
        go_wp2
        go_ret
        exact ⟨rfl, rfl⟩
theorem name_pred (w : World) (B B2 : Nat) (hB : w.cell? ⟨B, 0, none⟩ = some (.func (.func 84) #[] #[])) (hB2 : w.cell? ⟨B2, 0, none⟩ = some (.func (.func 85) #[] #[.pointer (some ⟨B, 0, none⟩)])) :
    PredAt Tryz.prog 87 #[.pointer (some ⟨B2, 0, none⟩)] encR (fun r => !mN r) w := fun W r hb => by
  unfold FnGives encR
  have k1 := (hb.cell (World.block_lt_of_cell? w _ hB)).trans hB
  have k2 := (hb.cell (World.block_lt_of_cell? w _ hB2)).trans hB2
  have hm := may_any r W B k1
  show Calls Tryz.prog 87 #[.int .i32 (r : Int), .pointer (some ⟨B2, 0, none⟩)] W fun e w' => e = .returned (.bool (!mN r)) ∧ ∃ q, w' = W.drewN q
  generalize mN r = b at *
  clear k1 hB hB2 hb
  go_enter Tryz.func87, Tryz.ntmps87
  go_wp2_with fail
  refine hm.mono ?_
  rintro e w' ⟨rfl, rfl⟩
  go_wp2
  go_ret
  exact ⟨rfl, 0, rfl⟩
end Go.Proofs.YtfhmmekamommcaaGreatDoor
