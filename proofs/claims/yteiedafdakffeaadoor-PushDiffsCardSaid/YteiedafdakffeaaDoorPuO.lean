/- push: the document's Same, as push's. -/
import Derived.Test.YteiedafdakffeaaDoorPuN
namespace Go.Proofs.YteiedafdakffeaaDoor
set_option linter.unusedVariables false
set_option linter.unusedSimpArgs false
open Go Go.RowKit Go.Proofs
theorem sameN_eq (V V' : Nat → Int) : sameN V V' = ((V 1 == V' 1) && ((V 2 == V' 2) && ((V 3 == V' 3) && ((V 4 == V' 4) && ((V 5 == V' 5) && (V 6 == V' 6)))))) := by
  simp [sameN, sameTo, fieldAt, List.range, List.range.loop]
set_option maxRecDepth 100000 in
set_option maxHeartbeats 8000000 in
theorem rsame_some (w : World) (k : Int) (V : Nat → Int) (tx : ByteArray) (A : Option Addr) (l : List ByteArray) (c : Nat) (k' : Int) (V' : Nat → Int) (tx' : ByteArray) (A' : Option Addr) (l' : List ByteArray) (c' : Nat)
    (hl : Lns w A l) (hl' : Lns w A' l') (hb : l.length ≤ 9223372036854775807) (hb' : l'.length ≤ 9223372036854775807) :
    Calls Tryd.prog 14 #[.agg #[.int .i64 k, .int .i64 (V 1), .int .i64 (V 2), .int .i64 (V 3), .int .i64 (V 4), .int .i64 (V 5), .int .i64 (V 6), .string tx, .slice A l.length c],
      .agg #[.int .i64 k', .int .i64 (V' 1), .int .i64 (V' 2), .int .i64 (V' 3), .int .i64 (V' 4), .int .i64 (V' 5), .int .i64 (V' 6), .string tx', .slice A' l'.length c']] w fun e w' => e = .returned (.bool (sameF k V tx l k' V' tx' l')) ∧ Chg (fun _ => False) w w' := by
  have hal := ((Chg.refl (fun _ => False) w).alloc (.cells #[.int .i64 k, .int .i64 (V 1), .int .i64 (V 2), .int .i64 (V 3), .int .i64 (V 4), .int .i64 (V 5), .int .i64 (V 6), .string tx, .slice A l.length c] 26)).alloc (.cells #[.int .i64 k', .int .i64 (V' 1), .int .i64 (V' 2), .int .i64 (V' 3), .int .i64 (V' 4), .int .i64 (V' 5), .int .i64 (V' 6), .string tx', .slice A' l'.length c'] 26)
  have HEQ := Lib.hid (eqt_some _ A A' l l' c c' (hl.chg hal) (hl'.chg hal) hb hb')
  have HAL := Lib.hid hal
  have HSF : Hid (sameF k V tx l k' V' tx' l' = ((k == k') && (((V 1 == V' 1) && ((V 2 == V' 2) && ((V 3 == V' 3) && ((V 4 == V' 4) && ((V 5 == V' 5) && (V 6 == V' 6)))))) && ((tx.toList == tx'.toList) && decide (l = l'))))) := Lib.hid (by unfold sameF; rw [sameN_eq])
  clear hl hl' hal
  obtain ⟨b0, e0⟩ : ∃ b, (k == k') = b := ⟨_, rfl⟩
  cases b0
  · have HR := Lib.hid (show sameF k V tx l k' V' tx' l' = false by rw [HSF.out, e0]; simp)
    clear HSF HEQ
    go_enter Tryd.func14, Tryd.ntmps14
    go_wp2_with fail
    go_ret
    exact ⟨congrArg (fun b => Ending.returned (.bool b)) HR.out.symm, HAL.out⟩
  obtain ⟨b1, e1⟩ : ∃ b, (V 1 == V' 1) = b := ⟨_, rfl⟩
  cases b1
  · have HR := Lib.hid (show sameF k V tx l k' V' tx' l' = false by rw [HSF.out, e0, e1]; simp)
    clear HSF HEQ
    go_enter Tryd.func14, Tryd.ntmps14
    go_wp2_with fail
    go_ret
    exact ⟨congrArg (fun b => Ending.returned (.bool b)) HR.out.symm, HAL.out⟩
  obtain ⟨b2, e2⟩ : ∃ b, (V 2 == V' 2) = b := ⟨_, rfl⟩
  cases b2
  · have HR := Lib.hid (show sameF k V tx l k' V' tx' l' = false by rw [HSF.out, e0, e1, e2]; simp)
    clear HSF HEQ
    go_enter Tryd.func14, Tryd.ntmps14
    go_wp2_with fail
    go_ret
    exact ⟨congrArg (fun b => Ending.returned (.bool b)) HR.out.symm, HAL.out⟩
  obtain ⟨b3, e3⟩ : ∃ b, (V 3 == V' 3) = b := ⟨_, rfl⟩
  cases b3
  · have HR := Lib.hid (show sameF k V tx l k' V' tx' l' = false by rw [HSF.out, e0, e1, e2, e3]; simp)
    clear HSF HEQ
    go_enter Tryd.func14, Tryd.ntmps14
    go_wp2_with fail
    go_ret
    exact ⟨congrArg (fun b => Ending.returned (.bool b)) HR.out.symm, HAL.out⟩
  obtain ⟨b4, e4⟩ : ∃ b, (V 4 == V' 4) = b := ⟨_, rfl⟩
  cases b4
  · have HR := Lib.hid (show sameF k V tx l k' V' tx' l' = false by rw [HSF.out, e0, e1, e2, e3, e4]; simp)
    clear HSF HEQ
    go_enter Tryd.func14, Tryd.ntmps14
    go_wp2_with fail
    go_ret
    exact ⟨congrArg (fun b => Ending.returned (.bool b)) HR.out.symm, HAL.out⟩
  obtain ⟨b5, e5⟩ : ∃ b, (V 5 == V' 5) = b := ⟨_, rfl⟩
  cases b5
  · have HR := Lib.hid (show sameF k V tx l k' V' tx' l' = false by rw [HSF.out, e0, e1, e2, e3, e4, e5]; simp)
    clear HSF HEQ
    go_enter Tryd.func14, Tryd.ntmps14
    go_wp2_with fail
    go_ret
    exact ⟨congrArg (fun b => Ending.returned (.bool b)) HR.out.symm, HAL.out⟩
  obtain ⟨b6, e6⟩ : ∃ b, (V 6 == V' 6) = b := ⟨_, rfl⟩
  cases b6
  · have HR := Lib.hid (show sameF k V tx l k' V' tx' l' = false by rw [HSF.out, e0, e1, e2, e3, e4, e5, e6]; simp)
    clear HSF HEQ
    go_enter Tryd.func14, Tryd.ntmps14
    go_wp2_with fail
    go_ret
    exact ⟨congrArg (fun b => Ending.returned (.bool b)) HR.out.symm, HAL.out⟩
  obtain ⟨b7, e7⟩ : ∃ b, (tx.toList == tx'.toList) = b := ⟨_, rfl⟩
  cases b7
  · have HR := Lib.hid (show sameF k V tx l k' V' tx' l' = false by rw [HSF.out, e0, e1, e2, e3, e4, e5, e6, e7]; simp)
    clear HSF HEQ
    go_enter Tryd.func14, Tryd.ntmps14
    go_wp2_with fail
    go_ret
    exact ⟨congrArg (fun b => Ending.returned (.bool b)) HR.out.symm, HAL.out⟩
  have HR := Lib.hid (show sameF k V tx l k' V' tx' l' = decide (l = l') by rw [HSF.out, e0, e1, e2, e3, e4, e5, e6, e7]; simp)
  clear HSF
  go_enter Tryd.func14, Tryd.ntmps14
  go_wp2_with fail
  refine HEQ.out.mono ?_
  rintro e w2 ⟨rfl, hC2⟩
  have HC := Lib.hid (HAL.out.trans hC2)
  clear hC2 HEQ HAL
  go_wp2_with fail
  go_ret
  exact ⟨congrArg (fun b => Ending.returned (.bool b)) HR.out.symm, HC.out⟩
end Go.Proofs.YteiedafdakffeaaDoor
