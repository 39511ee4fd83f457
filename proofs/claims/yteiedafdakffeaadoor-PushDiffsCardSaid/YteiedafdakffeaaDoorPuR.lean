/- push: the document's lines. -/
import Derived.Test.YteiedafdakffeaaDoorPuQ
namespace Go.Proofs.YteiedafdakffeaaDoor
set_option linter.unusedVariables false
set_option linter.unusedSimpArgs false
open Go Go.RowKit Go.Proofs
theorem sizes_take_le (L : List ByteArray) (j : Nat) : sizes (L.take j) ≤ sizes L := sizes_sub_take L j
set_option maxRecDepth 100000 in
set_option maxHeartbeats 4000000 in
theorem rlines_some (w : World) (A : Option Addr) (L : List ByteArray) (c : Nat) (hl : Lns w A L) (hL : L.length ≤ 9223372036854775807) (hs : sizes L ≤ 4611686018427387904) :
    Calls Tryd.prog 67 #[.slice A L.length c] w fun e w' => e = .returned (.bool (flat L && (decide (sizes L ≤ 65536) && decide (L.length ≤ 1000)))) ∧ w' = w := by
  have HL := Lib.hid hl
  clear hl
  go_enter Tryd.func67, Tryd.ntmps67
  go_wp2_with fail
  go_loop [3, 4, 5] (fun s3 i _ => ∃ j : Nat, j ≤ L.length ∧ i = .int .i64 j ∧ s3 = .int .i64 (sizes (L.take j)) ∧ flat (L.take j) = true) (fun _ i _ => L.length - (intOf i).toNat)
  case atStart => exact ⟨0, by omega, rfl, rfl, rfl⟩
  case round =>
    obtain ⟨j, hj, rfl, rfl, hfl⟩ := hrel
    have HFL := Lib.hid hfl
    have hsz := sizes_take_le L j
    clear hfl
    by_cases hlt : j < L.length
    · obtain ⟨g, p, rfl, hc⟩ := lns_cells HL.out (by omega)
      have cj := hc j hlt
      have hst := sizes_take L j hlt
      have hsz1 := sizes_take_le L (j + 1)
      have hft : flat (L.take (j + 1)) = (flat (L.take j) && !has10 (L.getD j ByteArray.empty)) := by
        have e : L.take (j + 1) = L.take j ++ [L[j]] := by rw [List.take_add_one, List.getElem?_eq_getElem hlt]; rfl
        unfold flat
        rw [e, List.all_append]
        simp [List.getD, hlt]
      have hno : has10 (L.getD j ByteArray.empty) = true → flat L = false := by
        intro h
        unfold flat
        rw [List.all_eq_false]
        exact ⟨L[j], List.getElem_mem hlt, by have : L.getD j ByteArray.empty = L[j] := by simp [List.getD, hlt]
                                              rw [this] at h; simp [h]⟩
      clear hc
      generalize L.getD j ByteArray.empty = x at *
      have hxs : x.size ≤ 4611686018427387904 := by omega
      have hw : IntKind.i64.wrap ((sizes (L.take j) : Int) + (x.size : Int)) = (sizes (L.take j) : Int) + (x.size : Int) := IntWalk.i64_in _ ⟨by omega, by omega⟩
      have HST := Lib.hid hst
      have HFT := Lib.hid hft
      have HNO := Lib.hid hno
      clear hst hft hno
      generalize sizes (L.take j) = S at *
      go_wp2_with fail
      go_loop [5] (fun i => ∃ m : Nat, m ≤ x.size ∧ i = .int .i64 m ∧ ∀ q (hq : q < x.size), q < m → (x[q]).toNat ≠ 10) (fun i => x.size - (intOf i).toNat)
      case atStart => exact ⟨0, by omega, rfl, fun q _ h => absurd h (by omega)⟩
      case round =>
        obtain ⟨m, hm, rfl, hne⟩ := hrel
        have HNE := Lib.hid hne
        clear hne
        by_cases hmx : m < x.size
        · by_cases hten : (x[m]).toNat = 10
          · have hfx := Lib.hid (HNO.out (has10_yes x m hmx hten))
            have ht : (((x[m]).toNat : Int) == 10) = true := by rw [hten]; rfl
            clear hten
            go_wp2_with fail
            go_ret
            exact ⟨by rw [hfx.out]; rfl, rfl⟩
          · have ht : (((x[m]).toNat : Int) == 10) = false := beq_eq_false_iff_ne.2 (by omega)
            have HT := Lib.hid hten
            clear hten
            go_wp2_with fail
            go_round
            case rel => exact ⟨m + 1, by omega, by go_num, fun q hq h => by
              by_cases e : q = m
              · subst e; exact HT.out
              · exact HNE.out q hq (by omega)⟩
            case measure => simp [intOf] <;> omega
        · have hno10 := Lib.hid (has10_no x (fun q hq => HNE.out q hq (by omega)))
          go_wp2_with fail
          go_round
          case rel => exact ⟨j + 1, by omega, by go_num, by rw [HST.out]; go_num, by rw [HFT.out, HFL.out, hno10.out]; rfl⟩
          case measure => simp [intOf] <;> omega
    · obtain rfl : j = L.length := by omega
      rw [List.take_length] at HFL
      rw [List.take_length]
      clear hsz
      by_cases h1 : L.length ≤ 1000
      · have HB := Lib.hid (show (flat L && decide (sizes L ≤ 65536)) = decide ((sizes L : Int) ≤ 65536) by
          rw [HFL.out, Bool.true_and]
          exact decide_eq_decide.2 (by omega))
        go_wp2_with fail
        go_ret
        exact ⟨congrArg (fun b => Ending.returned (.bool b)) HB.out.symm, rfl⟩
      · go_wp2_with fail
        go_ret
        exact ⟨rfl, rfl⟩
end Go.Proofs.YteiedafdakffeaaDoor
