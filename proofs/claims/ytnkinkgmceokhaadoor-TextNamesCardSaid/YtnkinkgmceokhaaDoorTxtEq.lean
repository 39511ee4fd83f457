/- The contract of EqTexts. -/
import Derived.Test.YtnkinkgmceokhaaDoorTxtJoin
import Derived.Deep.QuietTactic
import Derived.BigQuiet
namespace Go.Proofs.YtnkinkgmceokhaaDoor
set_option linter.unusedVariables false
set_option linter.unusedSimpArgs false
open Go Go.RowKit Go.Proofs Go.Shelf
open Go.Proofs.YtnkinkgmceokhaaDoorW.PrintWords (Kd)
def chinoiserieref00_EqTexts.f (l0 l1 : List ByteArray) : Option Bool := some (decide (l0 = l1))
theorem ba_eq (x y : ByteArray) : (x.toList == y.toList) = decide (x = y) := by
  rw [Bool.eq_iff_iff, beq_iff_eq, decide_eq_true_eq]
  constructor
  · intro h
    rw [ByteArray.toList_eq, ByteArray.toList_eq] at h
    exact ByteArray.ext (Array.ext' h)
  · rintro rfl; rfl
theorem drawn_below (w : World) (q : Nat) : Below w.heap.size w (w.drewN q) := ⟨rfl, rfl, rfl, Nat.le_refl _, fun _ _ => rfl⟩
set_option maxHeartbeats 1000000 in
theorem eqTexts_any (A0 : Option Addr) (c0 : Nat) (l0 : List ByteArray) (A1 : Option Addr) (c1 : Nat) (l1 : List ByteArray) (w : World) (hr0 : Kd.C Kd.string w A0 l0.length l0) (hr1 : Kd.C Kd.string w A1 l1.length l1) :
    Calls Tryd.prog 17 #[.slice A0 l0.length c0, .slice A1 l1.length c1] w fun e w' => e = .returned (.bool (decide (l0 = l1))) ∧ Below w.heap.size w w' := by
  have hmax : l0.length ≤ 9223372036854775807 := hr0.2.1
  by_cases hlen : l0.length = l1.length
  · rcases Nat.eq_zero_or_pos l0.length with h0 | h0
    · obtain rfl : l0 = [] := List.length_eq_zero_iff.1 h0
      obtain rfl : l1 = [] := List.length_eq_zero_iff.1 (by omega)
      clear hr0 hr1 hlen h0
      show Calls Tryd.prog 17 #[.slice A0 0 c0, .slice A1 0 c1] w fun e w' => e = .returned (.bool true) ∧ Below w.heap.size w w'
      go_enter Tryd.func17, Tryd.ntmps17
      go_wp2_with fail
      go_loop [5] (fun i => i = .int .i64 0) (fun _ => 0)
      case atStart => rfl
      case round =>
        obtain rfl := hrel
        go_wp2
        go_ret
        exact ⟨rfl, Below.refl _ _⟩
    · obtain ⟨b, o, rfl, hb, hc⟩ := C_cells hr0 h0
      obtain ⟨b', o', rfl, hb', hc'⟩ := C_cells hr1 (by omega)
      have HC := Lib.hid hc
      have HC' := Lib.hid hc'
      have HN : Hid (l0.length = l1.length) := Lib.hid hlen
      rw [← hlen]
      generalize hn : l0.length = n at *
      have HN0 : Hid (l0.length = n) := Lib.hid hn
      have HN1 : Hid (l1.length = n) := Lib.hid hlen.symm
      clear hc hc' hr0 hr1 hlen hn HN
      go_enter Tryd.func17, Tryd.ntmps17
      go_wp2_with fail
      go_loopw [5] (fun i wr => ∃ k q : Nat, k ≤ n ∧ i = .int .i64 k ∧ Hid (l0.take k = l1.take k) ∧ wr = w.drewN q) (fun i _ => n - (intOf i).toNat)
      case atStart => exact ⟨0, 0, Nat.zero_le _, rfl, Lib.hid rfl, rfl⟩
      case round =>
        obtain ⟨k, q, hk, rfl, HE, rfl⟩ := hrel
        by_cases hlt : k < n
        · have g0 : k < l0.length := by rw [HN0.out]; exact hlt
          have g1 : k < l1.length := by rw [HN1.out]; exact hlt
          have e0 : l0[k]? = some l0[k] := List.getElem?_eq_getElem g0
          have e1 : l1[k]? = some l1[k] := List.getElem?_eq_getElem g1
          have c0 := HC.out k _ e0
          have c1 := HC'.out k _ e1
          have hq := ba_eq l0[k] l1[k]
          have hT : Hid (l0[k] = l1[k] → l0.take (k + 1) = l1.take (k + 1)) := Lib.hid fun h => by
            rw [List.take_add_one, List.take_add_one, HE.out, e0, e1, h]
          have hF : Hid (l0[k] ≠ l1[k] → l0 ≠ l1) := Lib.hid fun h e => by
            subst e
            exact h rfl
          clear e0 e1
          generalize l0[k] = x at *
          generalize l1[k] = y at *
          by_cases hxy : x = y
          · rw [decide_eq_true hxy] at hq
            have HT := Lib.hid (hT.out hxy)
            clear hxy hT hF
            go_wp2_with fail
            go_quiet (fail)
            go_wp2
            go_roundw
            case rel => exact ⟨k + 1, _, by omega, by go_num, HT, rfl⟩
            case measure => simp [intOf]; omega
          · rw [decide_eq_false hxy] at hq
            have HF := Lib.hid (decide_eq_false (hF.out hxy))
            clear hxy hT hF
            go_wp2_with fail
            go_quiet (fail)
            go_wp2
            go_ret
            exact ⟨by rw [HF.out]; rfl, by rw [World.drewN_drewN]; exact drawn_below _ _⟩
        · obtain rfl : k = n := by omega
          have HT : Hid (decide (l0 = l1) = true) := Lib.hid (decide_eq_true (by
            have := HE.out
            rw [List.take_of_length_le (by have := HN0.out; omega), List.take_of_length_le (by have := HN1.out; omega)] at this
            exact this))
          go_wp2
          go_ret
          exact ⟨by rw [HT.out]; rfl, drawn_below _ _⟩
  · have hd : decide (l0 = l1) = false := decide_eq_false (fun e => hlen (by rw [e]))
    rw [hd]
    have hne : ((l0.length : Int) == (l1.length : Int)) = false := by rw [beq_eq_false_iff_ne]; omega
    have hne2 : ((l0.length : Int) != (l1.length : Int)) = true := by rw [bne_iff_ne]; omega
    clear hr0 hr1 hd hlen
    go_enter Tryd.func17, Tryd.ntmps17
    go_wp2
    go_ret
    exact ⟨rfl, Below.refl _ _⟩
theorem chinoiserieref00_EqTexts.calls (A0 : Option Addr) (c0 : Nat) (l0 : List ByteArray) (A1 : Option Addr) (c1 : Nat) (l1 : List ByteArray) (r : Bool) (w : World) (hr0 : Kd.C Kd.string w A0 l0.length l0) (hc0 : l0.length ≤ c0) (hr1 : Kd.C Kd.string w A1 l1.length l1) (hc1 : l1.length ≤ c1)
    (h : chinoiserieref00_EqTexts.f l0 l1 = some r) (hW : WOk w) :
    Calls Tryd.prog 17 #[.slice A0 l0.length c0, .slice A1 l1.length c1] w fun e w' => e = .returned (.bool r) ∧ Below w.heap.size w w' := by
  unfold chinoiserieref00_EqTexts.f at h
  obtain rfl := Option.some.inj h
  exact eqTexts_any A0 c0 l0 A1 c1 l1 w hr0 hr1
end Go.Proofs.YtnkinkgmceokhaaDoor
