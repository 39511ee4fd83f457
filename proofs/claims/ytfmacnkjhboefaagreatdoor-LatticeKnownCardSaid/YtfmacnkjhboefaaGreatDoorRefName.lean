/- The document's Name; whether names are fine; texts held one against the other. -/
import Derived.Test.YtfmacnkjhboefaaGreatDoorRefLat
import Derived.Test.YtfmacnkjhboefaaGreatDoorTxtName
namespace Go.Proofs.YtfmacnkjhboefaaGreatDoor
set_option linter.unusedVariables false
set_option linter.unusedSimpArgs false
open Go Go.RowKit Go.Proofs Go.Shelf Go.Sort
theorem nmB_nat (b : UInt8) : nmB b = (decide (97 ≤ b.toNat ∧ b.toNat ≤ 122) || (decide (48 ≤ b.toNat ∧ b.toNat ≤ 57) || decide (b.toNat = 45))) := by
  rw [← Bool.not_inj_iff, ← mN_byte]
  unfold mN lN
  simp only [Bool.decide_and, Bool.or_assoc]
set_option maxRecDepth 100000 in
set_option maxHeartbeats 8000000 in
theorem refname_some (l : List UInt8) (w : World) : Calls Tryz.prog 61 #[.string (bs l)] w fun e w' => e = .returned (.int .i64 (nameE l)) ∧ w' = w := by
  cases l with
  | nil =>
    have h0 : ((bs []).size : Int) < 1 := by rw [bs_size]; decide
    have e1 : nameE [] = 31 := rfl
    rw [e1]
    clear e1
    generalize bs [] = s at *
    go_enter Tryz.func61, Tryz.ntmps61
    go_wp2_with fail
    go_ret
    exact ⟨rfl, rfl⟩
  | cons b t =>
    have hz := bs_size (b :: t)
    have h1 : ¬ ((bs (b :: t)).size : Int) < 1 := by rw [hz]; simp; omega
    by_cases hlen : (b :: t).length ≤ 12
    · have hl2 : ¬ (12 : Int) < ((bs (b :: t)).size : Int) := by omega
      have hs0 : 0 < (bs (b :: t)).size := by rw [hz]; simp
      have hb0 : (((bs (b :: t))[0]'hs0).toNat : Int) = (b.toNat : Int) := rfl
      have hb9 : (b.toNat : Int) ≤ 255 := by have := b.toNat_lt; omega
      have hlt : decide (t.length < 12) = true := decide_eq_true (by simp at hlen; omega)
      have hn := name_cons b t
      rw [hlt, Bool.and_true] at hn
      cases hlc : lcB b with
      | false =>
        have e : nameE (b :: t) = 31 := by unfold nameE; rw [hn, hlc]; rfl
        rw [e]
        have hor : (b.toNat : Int) < 97 ∨ ((97 : Int) ≤ b.toNat ∧ (122 : Int) < b.toNat) := by
          unfold lcB at hlc
          simp at hlc
          omega
        clear e hn hlt hlen hz hlc
        generalize bs (b :: t) = s at *
        generalize b.toNat = r at *
        rcases hor with hr | ⟨hr, hr2⟩
        · go_enter Tryz.func61, Tryz.ntmps61
          go_wp2_with fail
          go_ret
          exact ⟨rfl, rfl⟩
        · have hr3 : ¬ (r : Int) < 97 := by omega
          go_enter Tryz.func61, Tryz.ntmps61
          go_wp2_with fail
          go_ret
          exact ⟨rfl, rfl⟩
      | true =>
        have e : nameE (b :: t) = if (b :: t).all nmB then 0 else 31 := by
          unfold nameE
          rw [hn, hlc]
          simp only [Bool.true_and, List.all_cons, lcB_nm b hlc]
        rw [e]
        have hlo : (97 : Int) ≤ b.toNat ∧ (b.toNat : Int) ≤ 122 := by
          unfold lcB at hlc
          simp at hlc
          omega
        obtain ⟨hr1, hr2⟩ := hlo
        have hr3 : ¬ (b.toNat : Int) < 97 := by omega
        have hr4 : ¬ (122 : Int) < b.toNat := by omega
        have hat : ∀ k (hk : k < (bs (b :: t)).size), (((bs (b :: t))[k]'hk).toNat : Int) = (((b :: t).getD k 0).toNat : Int) := fun k hk => by
          have hk' : k < (b :: t).length := by omega
          have : (b :: t).getD k 0 = (b :: t)[k] := by rw [List.getD_eq_getElem?_getD, List.getElem?_eq_getElem hk']; rfl
          rw [this]
          rfl
        clear e hn hlt hlc
        generalize hL : (b :: t) = L at *
        have HB := Lib.hid hat
        obtain ⟨r0, hr0⟩ : ∃ r0, (if L.all nmB then (0 : Int) else 31) = r0 := ⟨_, rfl⟩
        rw [hr0]
        have HR := Lib.hid hr0
        clear hat hr0
        generalize bs L = s at *
        generalize b.toNat = rb at *
        have hzz : (s.size : Int) = L.length := by omega
        go_enter Tryz.func61, Tryz.ntmps61
        go_wp2_with fail
        go_loop [3] (fun i => ∃ k : Nat, i = .int .i64 k ∧ k ≤ L.length ∧ Hid (∀ j, j < k → nmB (L.getD j 0) = true)) (fun i => L.length - (intOf i).toNat)
        case atStart => exact ⟨0, rfl, by omega, Lib.hid (fun j h => by omega)⟩
        case round =>
          obtain ⟨k, rfl, k0, HK⟩ := hrel
          by_cases hk : k < L.length
          · have hw3 : IntKind.i64.wrap ((k : Int) + 1) = k + 1 := IntWalk.i64_in _ ⟨by omega, by omega⟩
            have hks : k < s.size := by omega
            have hbk := HB.out k hks
            have hnm := nmB_nat (L.getD k 0)
            have hc9 : ((L.getD k 0).toNat : Int) ≤ 255 := by have := (L.getD k 0).toNat_lt; omega
            have HC := Lib.hid (rfl : L.getD k 0 = L.getD k 0)
            generalize hcv : (L.getD k 0).toNat = cv at *
            have good : nmB (L.getD k 0) = true → ∀ j, j < k + 1 → nmB (L.getD j 0) = true := fun h j hj => by
              by_cases e : j = k
              · subst e; exact h
              · exact HK.out j (by omega)
            have bad : nmB (L.getD k 0) = false → L.all nmB = false := fun h => by
              rw [Bool.eq_false_iff]
              intro ha
              have := List.all_eq_true.1 ha (L.getD k 0) (by rw [List.getD_eq_getElem?_getD, List.getElem?_eq_getElem hk]; exact List.getElem_mem hk)
              rw [h] at this; cases this
            have HG := Lib.hid good
            have HBAD := Lib.hid bad
            have HNM := Lib.hid hnm
            have hks' : (k : Int) < s.size := by omega
            clear good bad hnm hcv hL
            have hcases : ((97 : Int) ≤ cv ∧ (cv : Int) ≤ 122) ∨ ((48 : Int) ≤ cv ∧ (cv : Int) ≤ 57) ∨ (cv : Int) = 45 ∨ ((cv : Int) < 48 ∧ ¬ (cv : Int) = 45) ∨ ((57 : Int) < cv ∧ (cv : Int) < 97) ∨ ((122 : Int) < cv) := by omega
            rcases hcases with ⟨c1, c2⟩ | ⟨c1, c2⟩ | c1 | ⟨c1, c2⟩ | ⟨c1, c2⟩ | c1
            · have hg := HG.out (by rw [HNM.out]; simp; omega)
              have HG2 := Lib.hid hg
              clear hg
              go_wp2_with fail
              go_round
              case rel => exact ⟨k + 1, by go_num, by omega, HG2⟩
              case measure => simp [intOf]; omega
            · have hg := HG.out (by rw [HNM.out]; simp; omega)
              have HG2 := Lib.hid hg
              clear hg
              go_wp2_with fail
              go_round
              case rel => exact ⟨k + 1, by go_num, by omega, HG2⟩
              case measure => simp [intOf]; omega
            · have hg := HG.out (by rw [HNM.out]; simp; omega)
              have HG2 := Lib.hid hg
              have c3 : (cv : Int) < 97 := by omega
              have c4 : (cv : Int) < 48 := by omega
              clear hg
              go_wp2_with fail
              go_round
              case rel => exact ⟨k + 1, by go_num, by omega, HG2⟩
              case measure => simp [intOf]; omega
            · have hb := HBAD.out (by rw [HNM.out]; simp; omega)
              have HB2 := Lib.hid hb
              have c3 : (cv : Int) < 97 := by omega
              have c5 : ((cv : Int) == 45) = false := by rw [beq_eq_false_iff_ne]; exact c2
              clear hb
              go_wp2_with fail
              go_ret
              exact ⟨by rw [← HR.out, HB2.out]; rfl, rfl⟩
            · have hb := HBAD.out (by rw [HNM.out]; simp; omega)
              have HB2 := Lib.hid hb
              have c5 : ((cv : Int) == 45) = false := by rw [beq_eq_false_iff_ne]; omega
              have c6 : ¬ (cv : Int) < 48 := by omega
              clear hb
              go_wp2_with fail
              go_ret
              exact ⟨by rw [← HR.out, HB2.out]; rfl, rfl⟩
            · have hb := HBAD.out (by rw [HNM.out]; simp; omega)
              have HB2 := Lib.hid hb
              have c5 : ((cv : Int) == 45) = false := by rw [beq_eq_false_iff_ne]; omega
              have c6 : ¬ (cv : Int) < 48 := by omega
              have c7 : ¬ (cv : Int) < 97 := by omega
              have c8 : (57 : Int) < cv := by omega
              clear hb
              go_wp2_with fail
              go_ret
              exact ⟨by rw [← HR.out, HB2.out]; rfl, rfl⟩
          · have hkn : k = L.length := by omega
            have hall : L.all nmB = true := List.all_eq_true.2 fun x hx => by
              obtain ⟨i, hi, rfl⟩ := List.getElem_of_mem hx
              have := HK.out i (by omega)
              simpa [List.getD, hi] using this
            have HA := Lib.hid hall
            clear hall hkn
            go_wp2_with fail
            go_ret
            exact ⟨by rw [← HR.out, HA.out]; rfl, rfl⟩
    · have e : nameE (b :: t) = 31 := by
        unfold nameE
        rw [name_cons, decide_eq_false (fun h => hlen (by simp; omega)), Bool.and_false]
        rfl
      rw [e]
      have hl' : (12 : Int) < ((bs (b :: t)).size : Int) := by omega
      clear hlen e hz
      generalize (bs (b :: t)) = s at *
      go_enter Tryz.func61, Tryz.ntmps61
      go_wp2_with fail
      go_ret
      exact ⟨rfl, rfl⟩
end Go.Proofs.YtfmacnkjhboefaaGreatDoor
