/- The ids that the chapter makes: Bring, digits, made. -/
import Derived.Test.YtfhmmekamommcaaGreatDoorIdFns
import Derived.Deep.CutBlock
import Derived.Deep.DeepCutAuto
namespace Go.Proofs.YtfhmmekamommcaaGreatDoor
set_option linter.unusedVariables false
set_option linter.unusedSimpArgs false
open Go Go.RowKit Go.Proofs Go.Shelf
/-! ### plain -/
def num1 (i : Int) : Nat := 1 + (i % 9007199254740991).toNat
theorem num1_in (i : Int) : 1 ≤ num1 i ∧ num1 i ≤ 9007199254740991 := by
  have h1 := Int.emod_nonneg i (show (9007199254740991 : Int) ≠ 0 by decide)
  have h2 := Int.emod_lt_of_pos i (show (0 : Int) < 9007199254740991 by decide)
  unfold num1
  omega
theorem num1_int (i : Int) : 1 + i % 9007199254740991 = ((num1 i : Nat) : Int) := by
  have h1 := Int.emod_nonneg i (show (9007199254740991 : Int) ≠ 0 by decide)
  unfold num1
  omega
/-- the id of the first k + 1 numbers of a row -/
def mdK (l : List Int) : Nat → List UInt8
  | 0 => if l = [] then [49] else Lib.decDigits (num1 (l.getD 0 0))
  | k + 1 => mdK l k ++ 46 :: Lib.decDigits (num1 (l.getD (k + 1) 0))
def mdN (l : List Int) : Nat := Nat.min (l.length - 1) 7
def mdL (l : List Int) : List UInt8 := mdK l (mdN l)
theorem one_digit {n : Nat} (h : n < 10) : Lib.decDigits n = [UInt8.ofNat (48 + n)] := by
  rw [Lib.decDigits, dif_pos h]
theorem mdK_facts (l : List Int) (k : Nat) : idAll (mdK l k) = true ∧ (parts (mdK l k)).length = k + 1 ∧ (mdK l k).length ≤ 21 * (k + 1) := by
  induction k with
  | zero =>
    have key : ∀ n : Nat, 1 ≤ n → n ≤ 9007199254740991 → idAll (Lib.decDigits n) = true ∧ (parts (Lib.decDigits n)).length = 0 + 1 ∧ (Lib.decDigits n).length ≤ 21 * (0 + 1) := by
      intro n h1 h2
      have h3 := dec_okP h1 h2
      have h4 := dec_small h2
      have h5 : parts (Lib.decDigits n) = [Lib.decDigits n] := pieces_none 46 _ (okP_nodot h3)
      unfold idAll
      rw [h5]
      exact ⟨by simp [h3], rfl, by omega⟩
    unfold mdK
    by_cases h : l = []
    · rw [if_pos h]
      have := key 1 (by decide) (by decide)
      rw [one_digit (by decide)] at this
      exact this
    · rw [if_neg h]
      exact key _ (num1_in _).1 (num1_in _).2
  | succ k ih =>
    obtain ⟨a, b, c⟩ := ih
    obtain ⟨h1, h2⟩ := num1_in (l.getD (k + 1) 0)
    have h3 := dec_okP h1 h2
    have h4 := dec_small h2
    have h5 := kid_parts (l := mdK l k) h1 h2
    unfold mdK
    unfold idAll at a ⊢
    rw [h5]
    refine ⟨by rw [List.all_append, a]; simpa using h3, by simp [b], ?_⟩
    simp only [List.length_append, List.length_cons]
    omega
theorem mdL_ok (l : List Int) : idOk (mdL l) = true ∧ (parts (mdL l)).length = mdN l + 1 ∧ (mdL l).length ≤ 168 := by
  obtain ⟨a, b, c⟩ := mdK_facts l (mdN l)
  have h : mdN l ≤ 7 := Nat.min_le_right _ _
  unfold mdL idOk
  rw [a, b]
  refine ⟨?_, rfl, by omega⟩
  simp
  omega
/-! ### walked -/
theorem btmod_neg {i n : Int} (hn : 0 < n) (h : i.tmod n < 0) : i.tmod n + n = i % n := by
  rw [Int.tmod_eq_emod] at h ⊢
  have h1 := Int.emod_nonneg i (show n ≠ 0 by omega)
  split at h
  · omega
  · rename_i hc
    rw [if_neg hc]
    have : (n.natAbs : Int) = n := by omega
    omega
theorem btmod_pos {i n : Int} (hn : 0 < n) (h : ¬ i.tmod n < 0) : i.tmod n = i % n := by
  rw [Int.tmod_eq_emod] at h ⊢
  have h1 := Int.emod_lt_of_pos i hn
  split at h
  · rename_i hc; rw [if_pos hc]; omega
  · have : (n.natAbs : Int) = n := by omega
    omega
set_option maxRecDepth 100000 in
set_option maxHeartbeats 4000000 in
theorem tbring_some (w : World) (i n : Int) (hn : 1 ≤ n) (hn2 : n ≤ 4611686018427387904) (hi : -9223372036854775808 ≤ i) (hi2 : i ≤ 9223372036854775807) :
    Calls Tryz.prog 13 #[.int .i64 i, .int .i64 n] w fun e w' => e = .returned (.int .i64 (i % n)) ∧ w' = w := by
  have h1 := Int.tmod_lt_of_pos i (show 0 < n by omega)
  have h2 : -n < i.tmod n := Int.lt_tmod_of_pos i (show 0 < n by omega)
  by_cases hneg : i.tmod n < 0
  · have he := btmod_neg (show 0 < n by omega) hneg
    have HE := Lib.hid he
    have hw : IntKind.i64.wrap (i.tmod n) = i.tmod n := IntWalk.i64_in _ ⟨by omega, by omega⟩
    have hw2 : IntKind.i64.wrap (i.tmod n + n) = i.tmod n + n := IntWalk.i64_in _ ⟨by omega, by omega⟩
    clear he
    go_enter Tryz.func13, Tryz.ntmps13
    go_wp2
    go_ret
    exact ⟨by rw [← HE.out]; rfl, rfl⟩
  · have he := btmod_pos (show 0 < n by omega) hneg
    have HE := Lib.hid he
    have hw : IntKind.i64.wrap (i.tmod n) = i.tmod n := IntWalk.i64_in _ ⟨by omega, by omega⟩
    clear he
    go_enter Tryz.func13, Tryz.ntmps13
    go_wp2
    go_ret
    exact ⟨by rw [← HE.out]; rfl, rfl⟩
theorem digit_cut : ∀ d, d < 10 → (⟨#[48, 49, 50, 51, 52, 53, 54, 55, 56, 57]⟩ : ByteArray).extract d (d + 1) = bs [UInt8.ofNat (48 + d)] := by decide +kernel
theorem digits_walk (N : Nat) (hN : N ≤ 9007199254740991) (w : World) : Calls Tryz.prog 15 #[.int .i64 (N : Int)] w fun e w' => e = .returned (.string (bs (Lib.decDigits N))) ∧ w' = w := by
  have h20 := dec_small hN
  go_enter Tryz.func15, Tryz.ntmps15
  go_wp2_with fail
  go_loop [0, 3] (fun n s => ∃ (m : Nat) (t : List UInt8), n = .int .i64 (m : Int) ∧ s = .string (bs t) ∧ m ≤ 9007199254740991 ∧ Lib.decDigits N = Lib.decDigits m ++ t) (fun n _ => (intOf n).toNat)
  case atStart => exact ⟨N, [], rfl, rfl, hN, by simp⟩
  case round =>
    obtain ⟨m, t, rfl, rfl, hm, he⟩ := hrel
    have hlt : t.length ≤ 20 := by
      have := congrArg List.length he
      simp at this
      omega
    have z2 : (bs t).size = t.length := bs_size _
    by_cases x : m < 10
    · have x1 : ¬ ((9 : Int) < (m : Int)) := by omega
      have hw : IntKind.i64.wrap ((m : Int) + 1) = m + 1 := IntWalk.i64_in _ ⟨by omega, by omega⟩
      have hc := digit_cut m x
      have ht : ((m : Int) + 1).toNat = m + 1 := by omega
      rw [one_digit x] at he
      generalize UInt8.ofNat (48 + m) = c at *
      have ha := bs_append [c] t
      rw [← he] at ha
      have z1 : (bs [c]).size = 1 := bs_size _
      generalize bs [c] = C at *
      have HA := Lib.hid ha
      clear he ha h20
      go_wp2
      go_ret
      rw [← HA.out]
      exact ⟨rfl, rfl⟩
    · have x1 : (9 : Int) < (m : Int) := by omega
      have hr : (m : Int).tmod 10 = ((m % 10 : Nat) : Int) := by rw [Int.tmod_eq_emod_of_nonneg (by omega)]; omega
      have hq : (m : Int).tdiv 10 = ((m / 10 : Nat) : Int) := by rw [Int.tdiv_eq_ediv_of_nonneg (by omega)]; omega
      have hr1 : IntKind.i64.wrap ((m : Int).tmod 10) = ((m % 10 : Nat) : Int) := by rw [hr]; exact IntWalk.i64_in _ ⟨by omega, by omega⟩
      have hq1 : IntKind.i64.wrap ((m : Int).tdiv 10) = ((m / 10 : Nat) : Int) := by rw [hq]; exact IntWalk.i64_in _ ⟨by omega, by omega⟩
      have hd : m % 10 < 10 := by omega
      have hdm : m / 10 < m := by omega
      have he2 : Lib.decDigits N = Lib.decDigits (m / 10) ++ ([UInt8.ofNat (48 + m % 10)] ++ t) := by
        rw [he]
        conv => lhs; arg 1; rw [Lib.decDigits, dif_neg x]
        rw [List.append_assoc]
      have HE := Lib.hid he2
      clear he he2 hr hq
      have hw : IntKind.i64.wrap (((m % 10 : Nat) : Int) + 1) = (m % 10 : Nat) + 1 := IntWalk.i64_in _ ⟨by omega, by omega⟩
      have hc := digit_cut (m % 10) hd
      have ht : (((m % 10 : Nat) : Int) + 1).toNat = (m % 10) + 1 := by omega
      generalize UInt8.ofNat (48 + m % 10) = c at *
      have ha := bs_append [c] t
      have z1 : (bs [c]).size = 1 := bs_size _
      generalize bs [c] = C at *
      have HA := Lib.hid ha
      clear ha h20
      go_wp2
      go_round
      case rel => exact ⟨m / 10, _, rfl, by rw [← HA.out, ← hc], by omega, HE.out⟩
      case measure => simp [intOf]; omega
/-- a row of whole numbers in memory -/
def InInts (w : World) (v : Value) (L : List Int) : Prop := ∃ a cap, v = .slice a L.length cap ∧ ∀ i, i < L.length → ∃ g o, a = some ⟨g, o, none⟩ ∧ w.cell? ⟨g, o + i, none⟩ = some (.int .i64 (L.getD i 0))
theorem InInts.chg {w w' : World} {v : Value} {L : List Int} (h : InInts w v L) (hc : Chg (fun _ => False) w w') : InInts w' v L := by
  obtain ⟨a, cap, hv, hL⟩ := h
  refine ⟨a, cap, hv, fun i hi => ?_⟩
  obtain ⟨g, o, e, hcell⟩ := hL i hi
  exact ⟨g, o, e, hc.cell hcell (fun x => x)⟩
def InR (L : List Int) : Prop := L.length ≤ 9223372036854775807 ∧ ∀ i, i < L.length → -9223372036854775808 ≤ L.getD i 0 ∧ L.getD i 0 ≤ 9223372036854775807
set_option maxRecDepth 100000 in
theorem made_walk (L : List Int) (hb : InR L) (v : Value) (w : World) (hL : InInts w v L) : Calls Tryz.prog 36 #[v] w fun e w' => e = .returned (.string (bs (mdL L))) ∧ w' = w := by
  obtain ⟨a, cap, rfl, hcell⟩ := hL
  obtain ⟨hlen, hwf⟩ := hb
  have hdig := fun (i : Int) => digits_walk (num1 i) (num1_in i).2 w
  have hbr := fun (i : Int) (h1 : -9223372036854775808 ≤ i) (h2 : i ≤ 9223372036854775807) => tbring_some w i 9007199254740991 (by decide) (by decide) h1 h2
  have HD := Lib.hid hdig
  have HB := Lib.hid hbr
  clear hdig hbr
  by_cases h0 : L = []
  · subst h0
    have hm : mdL [] = [49] := rfl
    rw [hm]
    clear HD HB hcell hwf hlen
    go_enter Tryz.func36, Tryz.ntmps36
    go_wp2_with fail
    go_loop [3, 4] (fun s i => s = .string (bs [49]) ∧ i = .int .i64 1) (fun _ _ => 0)
    case atStart => exact ⟨rfl, rfl⟩
    case round =>
      obtain ⟨rfl, rfl⟩ := hrel
      go_wp2_with fail
      go_ret
      exact ⟨rfl, rfl⟩
  · obtain ⟨g, o, rfl, c0⟩ := hcell 0 (List.length_pos_iff.2 h0)
    rw [Nat.add_zero] at c0
    have x0 : (0 : Int) < (L.length : Int) := by have := List.length_pos_iff.2 h0; omega
    have hw := hwf 0 (List.length_pos_iff.2 h0)
    have hbr := HB.out (L.getD 0 0) hw.1 hw.2
    have hdg := HD.out (L.getD 0 0)
    have hn := num1_int (L.getD 0 0)
    have hni := num1_in (L.getD 0 0)
    have hm : mdK L 0 = Lib.decDigits (num1 (L.getD 0 0)) := by unfold mdK; rw [if_neg h0]
    rw [← hm] at hdg
    have HM := Lib.hid hm
    have HC := Lib.hid hcell
    have HF := Lib.hid hwf
    clear hm hcell hwf
    generalize num1 (L.getD 0 0) = nn at *
    generalize L.getD 0 0 = l0 at *
    generalize l0 % 9007199254740991 = zz at *
    have hw1 : IntKind.i64.wrap (1 + zz) = (nn : Int) := by rw [hn]; exact IntWalk.i64_in _ ⟨by omega, by omega⟩
    go_enter Tryz.func36, Tryz.ntmps36
    go_wp2_with (first | (go_at_call 13; refine hbr.mono ?_; rintro e w2 ⟨rfl, rfl⟩) | (go_at_call 15; refine hdg.mono ?_; rintro e w3 ⟨rfl, rfl⟩))
    go_loop [3, 4] (fun s i => ∃ j : Nat, s = .string (bs (mdK L (j - 1))) ∧ i = .int .i64 (j : Int) ∧ 1 ≤ j ∧ j ≤ L.length ∧ j ≤ 8) (fun _ i => 8 - (intOf i).toNat)
    case atStart => exact ⟨1, rfl, rfl, by omega, by omega, by omega⟩
    case round =>
      clear hbr hdg hn hni hw1 c0 x0 hw
      obtain ⟨j, rfl, rfl, hj1, hj2, hj3⟩ := hrel
      by_cases hx : j < L.length ∧ j < 8
      · have y1 : (j : Int) < (L.length : Int) := by omega
        have y2 : (j : Int) < 8 := by omega
        have hw := HF.out j hx.1
        have hbr := HB.out (L.getD j 0) hw.1 hw.2
        have hdg := HD.out (L.getD j 0)
        have hn := num1_int (L.getD j 0)
        have hni := num1_in (L.getD j 0)
        have hj : j - 1 + 1 = j := by omega
        have hds := dec_small hni.2
        have hm : mdK L (j + 1 - 1) = mdK L (j - 1) ++ 46 :: Lib.decDigits (num1 (L.getD j 0)) := by
          rw [show j + 1 - 1 = (j - 1) + 1 by omega]
          conv => lhs; unfold mdK
          rw [hj]
        have hsz := (mdK_facts L (j - 1)).2.2
        obtain ⟨g1, o1, e1, cj⟩ := HC.out j hx.1
        obtain ⟨rfl, rfl⟩ : g = g1 ∧ o = o1 := by simpa using e1
        generalize mdK L (j - 1) = M at *
        generalize num1 (L.getD j 0) = nn at *
        generalize L.getD j 0 = lj at *
        generalize lj % 9007199254740991 = zz at *
        generalize Lib.decDigits nn = D at *
        have z0 : (bs M).size = M.length := bs_size _
        have z1 : (bs M ++ ⟨#[46]⟩).size = M.length + 1 := by rw [ByteArray.size_append, bs_size]; rfl
        have z2 : (bs D).size = D.length := bs_size _
        have z3 : (⟨#[46]⟩ : ByteArray).size = 1 := rfl
        have e2 : bs M ++ ⟨#[46]⟩ ++ bs D = bs (M ++ 46 :: D) := by
          rw [show (⟨#[46]⟩ : ByteArray) = bs [46] from rfl, bs_append, bs_append]
          simp
        have HE := Lib.hid e2
        have HM2 := Lib.hid hm
        clear e2 hm e1
        have hw1 : IntKind.i64.wrap (1 + zz) = (nn : Int) := by rw [hn]; exact IntWalk.i64_in _ ⟨by omega, by omega⟩
        have hw2 : IntKind.i64.wrap ((j : Int) + 1) = j + 1 := IntWalk.i64_in _ ⟨by omega, by omega⟩
        go_wp2_with (first | (go_at_call 13; refine hbr.mono ?_; rintro e w2 ⟨rfl, rfl⟩) | (go_at_call 15; refine hdg.mono ?_; rintro e w3 ⟨rfl, rfl⟩))
        go_round
        case rel => exact ⟨j + 1, by rw [HE.out, HM2.out], by go_num, by omega, by omega, by omega⟩
        case measure => simp [intOf]; omega
      · have hm : mdL L = mdK L (j - 1) := by
          unfold mdL mdN
          congr 1
          show min (L.length - 1) 7 = j - 1
          omega
        have HM2 := Lib.hid hm
        clear hm
        by_cases y : j < L.length
        · have y1 : (j : Int) < (L.length : Int) := by omega
          have y2 : ¬ ((j : Int) < 8) := by omega
          go_wp2_with fail
          go_ret
          rw [HM2.out]
          exact ⟨rfl, rfl⟩
        · have y1 : ¬ ((j : Int) < (L.length : Int)) := by omega
          go_wp2_with fail
          go_ret
          rw [HM2.out]
          exact ⟨rfl, rfl⟩
end Go.Proofs.YtfhmmekamommcaaGreatDoor
