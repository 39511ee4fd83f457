/- push: a copy of bytes, of none too. -/
import Derived.Test.YteiedafdakffeaaDoorPuR
namespace Go.Proofs.YteiedafdakffeaaDoor
set_option linter.unusedVariables false
set_option linter.unusedSimpArgs false
open Go Go.RowKit Go.Proofs
open Go.Proofs.YteiedafdakffeaaDoorW.PrintWords (ReadsInt ReadsOf)
set_option maxRecDepth 100000 in
set_option maxHeartbeats 4000000 in
theorem copyB_any (w : World) (A : Option Addr) (b : List Int) (c : Nat) (hR : ReadsInt w .u8 A b.length b) (hb : b.length ≤ 140737488351232) :
    Calls Tryd.prog 11 #[.slice A b.length c] w fun e w' => ∃ v, e = .returned v ∧ w'.ownsRow w.heap.size 5 1 v b.length (u8s b) ∧ Chg (fun _ => False) w w' := by
  by_cases h0 : 0 < b.length
  · exact copyB_some w A b c hR h0 hb
  · obtain rfl : b = [] := List.length_eq_zero_iff.1 (by omega)
    clear h0 hb hR
    go_enter Tryd.func11, Tryd.ntmps11
    cases A with
    | none =>
      go_wp2_with fail
      go_ret
      exact ⟨_, rfl, World.ownsRow_nil _ _ _ _, Chg.refl _ _⟩
    | some a =>
      go_wp2_with fail
      go_ret
      exact ⟨_, rfl, World.ownsRow_nil _ _ _ _, Chg.refl _ _⟩
end Go.Proofs.YteiedafdakffeaaDoor
