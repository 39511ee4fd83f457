/- The document's lattice: whether names are fine; texts copied. -/
import Derived.Test.YtfmacnkjhboefaaGreatDoorRefName
import Derived.Test.YtfmacnkjhboefaaGreatDoorLatMake
import Derived.Test.YtfmacnkjhboefaaGreatDoorLatLaw1
import Derived.Laws.AppendOwnNone
import Derived.BigQuiet
import Derived.Deep.QuietTactic
namespace Go.Proofs.YtfmacnkjhboefaaGreatDoor
set_option linter.unusedVariables false
set_option linter.unusedSimpArgs false
open Go Go.RowKit Go.Proofs Go.Shelf Go.Sort
theorem beq_bs (a b : List UInt8) : ((bs a).toList == (bs b).toList) = decide (a = b) := by
  rw [ByteArray.toList_eq, ByteArray.toList_eq, Bool.eq_iff_iff, beq_iff_eq, decide_eq_true_eq]
  rfl
set_option maxRecDepth 100000 in
set_option maxHeartbeats 8000000 in
theorem reffine_some {w : World} {vn : Value} {N : List (List UInt8)} (hN : InStrs w vn N) (hl : N.length ≤ 1000) : Calls Tryz.prog 33 #[vn] w fun e w' => e = .returned (.bool (fineB N)) ∧ Chg (fun _ => False) w w' := by
  obtain ⟨na, nc, rfl, hcap, hnc⟩ := hN
  obtain ⟨r0, hr0⟩ : ∃ r0, fineB N = r0 := ⟨_, rfl⟩
  rw [hr0]
  have HR := Lib.hid hr0
  have HN := Lib.hid hnc
  clear hnc hr0
  go_enter Tryz.func33, Tryz.ntmps33
  go_wp2_with fail
  go_loopw [3] (fun i wr => ∃ k : Nat, i = .int .i64 k ∧ k ≤ N.length ∧ Chg (fun _ => False) w wr ∧ Hid (∀ i, i < k → nameOk (N.getD i []) = true ∧ (N.take i).contains (N.getD i []) = false)) (fun i _ => N.length - (intOf i).toNat)
  case atStart => exact ⟨0, rfl, by omega, Chg.refl _ _, Lib.hid (fun i h => by omega)⟩
  case round =>
    obtain ⟨k, rfl, k0, hC, HK⟩ := hrel
    by_cases hk : k < N.length
    · obtain ⟨g, o, rfl, hcell⟩ := HN.out k hk
      have d0 := hC.cell hcell (fun x => x)
      have hw3 : IntKind.i64.wrap ((k : Int) + 1) = k + 1 := IntWalk.i64_in _ ⟨by omega, by omega⟩
      have hz : ∀ W : World, Chg (fun _ => False) w W → ∀ j, j < N.length → W.cell? ⟨g, o + j, none⟩ = some (.string (bs (N.getD j []))) := fun W hW j hj => by
        obtain ⟨g', o', e, h⟩ := HN.out j hj
        cases e
        exact hW.cell h (fun x => x)
      have HZ := Lib.hid hz
      obtain ⟨s, hs⟩ : ∃ s, N.getD k [] = s := ⟨_, rfl⟩
      rw [hs] at d0
      have hname := refname_some s wr
      have HS := Lib.hid hs
      clear hcell hz hs
      cases hno : nameOk s with
      | false =>
        have he : nameE s = 31 := by unfold nameE; rw [hno]; rfl
        rw [he] at hname
        have hno2 := fineB_no hk (.inl (by rw [HS.out]; exact hno))
        have HNO := Lib.hid hno2
        clear he hno hno2
        generalize bs s = t at *
        go_wp2_with (first | (go_at_call 61; refine hname.mono ?_; rintro e wr ⟨rfl, rfl⟩))
        go_ret
        exact ⟨by rw [← HR.out, HNO.out]; rfl, hC⟩
      | true =>
        have he : nameE s = 0 := by unfold nameE; rw [hno]; rfl
        rw [he] at hname
        have HNO := Lib.hid hno
        clear he hno
        obtain ⟨t, ht⟩ : ∃ t, bs s = t := ⟨_, rfl⟩
        rw [ht] at hname d0
        have HT := Lib.hid ht
        clear ht
        go_upto_block 2 with (first | (go_at_call 61; refine hname.mono ?_; rintro e wr ⟨rfl, rfl⟩))
        have HCw := Lib.hid hC
        clear hC hname d0
        go_wp2_with fail
        go_loopw [4] (fun i wr => ∃ q : Nat, i = .int .i64 q ∧ q ≤ k ∧ Chg (fun _ => False) w wr ∧ Hid (∀ j, j < q → N.getD j [] ≠ s)) (fun i _ => k - (intOf i).toNat)
        case atStart => exact ⟨0, rfl, by omega, HCw.out, Lib.hid (fun j h => by omega)⟩
        case round =>
          clear HCw
          obtain ⟨q, rfl, q0, hC, HQ⟩ := hrel
          by_cases hq : q < k
          · have hw4 : IntKind.i64.wrap ((q : Int) + 1) = q + 1 := IntWalk.i64_in _ ⟨by omega, by omega⟩
            have y1 := HZ.out wr hC q (by omega)
            have y2 := HZ.out wr hC k hk
            have hbq := beq_bs (N.getD q []) s
            rw [HS.out] at y2
            rw [HT.out] at y2 hbq
            obtain ⟨r, hr⟩ : ∃ r, decide (N.getD q [] = s) = r := ⟨_, rfl⟩
            rw [hr] at hbq
            have H1 := Lib.hid hr
            generalize bs (N.getD q []) = u at *
            have hqn : (q : Int) < N.length := by omega
            have hkn : (k : Int) < N.length := by omega
            clear hr
            cases r with
            | true =>
              have hno2 := fineB_no hk (.inr (by
                rw [HS.out, List.contains_iff_mem]
                have e := of_decide_eq_true H1.out
                rw [← e, List.getD_eq_getElem?_getD, List.getElem?_eq_getElem (by omega : q < N.length)]
                exact List.mem_take_iff_getElem.2 ⟨q, by omega, rfl⟩))
              have HNO2 := Lib.hid hno2
              clear hno2
              go_upto_region 9 with fail
              go_quiet (fail)
              go_wp2_with fail
              go_ret
              exact ⟨by rw [← HR.out, HNO2.out]; rfl, hC.drewN _⟩
            | false =>
              go_upto_region 9 with fail
              go_quiet (fail)
              go_wp2_with fail
              go_roundw
              case rel => exact ⟨q + 1, by go_num, by omega, hC.drewN _, Lib.hid (fun j hj => by
                by_cases e : j = q
                · subst e; exact of_decide_eq_false H1.out
                · exact HQ.out j (by omega))⟩
              case measure => simp [intOf]; omega
          · have hqk : q = k := by omega
            have HE := Lib.hid hqk
            clear hqk
            go_wp2_with fail
            go_roundw
            case rel => exact ⟨k + 1, by go_num, by omega, hC, Lib.hid (fun i hi => by
              by_cases e : i = k
              · subst e
                rw [HS.out]
                refine ⟨HNO.out, ?_⟩
                rw [Bool.eq_false_iff]
                intro hc
                rw [List.contains_iff_mem] at hc
                obtain ⟨j, hj, e⟩ := List.mem_take_iff_getElem.1 hc
                have := HQ.out j (by have := HE.out; omega)
                rw [List.getD_eq_getElem?_getD, List.getElem?_eq_getElem (by omega)] at this
                exact this e
              · exact HK.out i (by omega))⟩
            case measure => simp [intOf]; omega
    · have hkn : k = N.length := by omega
      have hfi : fineB N = true := fineB_yes fun i hi => HK.out i (by omega)
      have HF := Lib.hid hfi
      clear hfi hkn
      go_wp2_with fail
      go_ret
      exact ⟨by rw [← HR.out, HF.out]; rfl, hC⟩
end Go.Proofs.YtfmacnkjhboefaaGreatDoor
