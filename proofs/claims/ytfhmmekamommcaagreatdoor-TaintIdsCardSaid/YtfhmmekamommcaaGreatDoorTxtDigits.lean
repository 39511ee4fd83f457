/- The contracts of text.Digits and text.Number. -/
import Derived.Test.YtfhmmekamommcaaGreatDoorTxtGiven0
import Derived.Test.YtfhmmekamommcaaGreatDoorTxtLaws
import Derived.Shelf.Strings.SlTrimAscii
import Derived.Lib.AppendIntMem
import Derived.Lib.AtoiAll
namespace Go.Proofs.YtfhmmekamommcaaGreatDoor
set_option linter.unusedVariables false
set_option linter.unusedSimpArgs false
open Go Go.RowKit Go.Proofs Go.Shelf
/-- what Digits tells -/
def text_Digits.f (a0 : Int) : Option (ByteArray × Int) := some (bs (digR a0), digE a0)
theorem digits_any (a0 : Int) (w : World) (hW : WOk w) : Calls Tryz.prog 71 #[.int .i64 a0] w fun e w' => e = .returned (.tuple #[.string (bs (digR a0)), .int .i64 (digE a0)]) ∧ Below w.heap.size w w' := by
  unfold digR digE
  by_cases h0 : 0 ≤ a0
  · by_cases h1 : a0 ≤ 9007199254740991
    · rw [if_pos ⟨h0, h1⟩, if_pos ⟨h0, h1⟩]
      have hI := Tryz.strconv_Itoa a0 (by omega) (by omega) w hW.tab
      have e : Lib.itoa a0 = Lib.decDigits a0.toNat := by unfold Lib.itoa; rw [if_neg (by omega)]
      rw [e] at hI
      unfold bs
      generalize Lib.decDigits a0.toNat = l at *
      have h1' : ¬ 9007199254740991 < a0 := by omega
      clear e hW
      go_enter Tryz.func71, Tryz.ntmps71
      go_wp2_with fail
      refine hI.mono ?_
      rintro e w' ⟨rfl, k, os, rfl⟩
      go_wp2
      go_ret2
      exact ⟨rfl, Lib.below_grow _ _ (Nat.le_refl _) _ _⟩
    · rw [if_neg (fun h => h1 h.2), if_neg (fun h => h1 h.2)]
      have h1' : 9007199254740991 < a0 := by omega
      clear h1
      go_enter Tryz.func71, Tryz.ntmps71
      go_wp2
      go_ret2
      exact ⟨rfl, Below.refl _ _⟩
  · rw [if_neg (fun h => h0 h.1), if_neg (fun h => h0 h.1)]
    have h0' : a0 < 0 := by omega
    clear h0
    go_enter Tryz.func71, Tryz.ntmps71
    go_wp2
    go_ret2
    exact ⟨rfl, Below.refl _ _⟩
theorem text_Digits.calls (a0 : Int) (r1 : ByteArray) (r2 : Int) (w : World) (h : text_Digits.f a0 = some (r1, r2)) (hW : WOk w) :
    Calls Tryz.prog 71 #[.int .i64 a0] w fun e w' => e = .returned (.tuple #[.string r1, .int .i64 r2]) ∧ Below w.heap.size w w' := by
  unfold text_Digits.f at h
  simp only [Option.some.injEq, Prod.mk.injEq] at h
  obtain ⟨rfl, rfl⟩ := h
  exact digits_any a0 w hW
/-- what Number tells -/
def text_Number.f (a0 : ByteArray) : Option (Int × Int) := if a0.size ≤ 140737488351232 then some (numR a0.data.toList, numE a0.data.toList) else none
theorem bytes_below (w : World) (t : TypeId) (T : ByteArray) : Below w.heap.size w (Lib.bytesWorld w t T) :=
  Lib.bytesWorld_below w t T
theorem numberSmallB (s T : ByteArray) (w : World) (hne : s.toList.isEmpty = false) (hs0 : 0 < s.size) (htn : T.toList.isEmpty = true) (h48 : (((s[0]'hs0).toNat : Int) = 48)) (hl48 : (s.toList == [48]) = true)
    (hT : Calls Tryz.prog 125 #[.string s, .string ⟨#[48, 49, 50, 51, 52, 53, 54, 55, 56, 57]⟩] w fun e w' => e = .returned (.string T) ∧ Below w.heap.size w w')
    (v : Int) (hv : ¬ (9007199254740991 : Int) < v) (hA : ∀ w', Below w.heap.size w w' → Calls Tryz.prog 126 #[.string s] w' fun e w2 => e = .returned (.tuple #[.int .i64 v, .nilIface]) ∧ Below w'.heap.size w' w2) :
    Calls Tryz.prog 98 #[.string s] w fun e w' => e = .returned (.tuple #[.int .i64 (v), .int .i64 0]) ∧ Below w.heap.size w w' := by
  have HA := Lib.hid hA
  clear hA
  go_enter Tryz.func98, Tryz.ntmps98
  go_wp2_with fail
  refine hT.mono ?_
  rintro e w' ⟨rfl, hB⟩
  have hAt := HA.out w' hB
  have HB := Lib.hid hB
  clear hB HA hT
  go_wp2_with fail
  refine hAt.mono ?_
  rintro e w2 ⟨rfl, hB2⟩
  clear hAt
  go_wp2
  go_ret2
  exact ⟨rfl, HB.out.trans (hB2.mono HB.out.size)⟩
theorem numberSmallC (s T : ByteArray) (w : World) (hne : s.toList.isEmpty = false) (hs0 : 0 < s.size) (htn : T.toList.isEmpty = true) (h48 : ((((s[0]'hs0).toNat : Int) == 48)) = false)
    (hT : Calls Tryz.prog 125 #[.string s, .string ⟨#[48, 49, 50, 51, 52, 53, 54, 55, 56, 57]⟩] w fun e w' => e = .returned (.string T) ∧ Below w.heap.size w w')
    (v : Int) (hv : ¬ (9007199254740991 : Int) < v) (hA : ∀ w', Below w.heap.size w w' → Calls Tryz.prog 126 #[.string s] w' fun e w2 => e = .returned (.tuple #[.int .i64 v, .nilIface]) ∧ Below w'.heap.size w' w2) :
    Calls Tryz.prog 98 #[.string s] w fun e w' => e = .returned (.tuple #[.int .i64 (v), .int .i64 0]) ∧ Below w.heap.size w w' := by
  have HA := Lib.hid hA
  clear hA
  go_enter Tryz.func98, Tryz.ntmps98
  go_wp2_with fail
  refine hT.mono ?_
  rintro e w' ⟨rfl, hB⟩
  have hAt := HA.out w' hB
  have HB := Lib.hid hB
  clear hB HA hT
  go_wp2_with fail
  refine hAt.mono ?_
  rintro e w2 ⟨rfl, hB2⟩
  clear hAt
  go_wp2
  go_ret2
  exact ⟨rfl, HB.out.trans (hB2.mono HB.out.size)⟩
theorem numberBigB (s T : ByteArray) (w : World) (hne : s.toList.isEmpty = false) (hs0 : 0 < s.size) (htn : T.toList.isEmpty = true) (h48 : (((s[0]'hs0).toNat : Int) = 48)) (hl48 : (s.toList == [48]) = true)
    (hT : Calls Tryz.prog 125 #[.string s, .string ⟨#[48, 49, 50, 51, 52, 53, 54, 55, 56, 57]⟩] w fun e w' => e = .returned (.string T) ∧ Below w.heap.size w w')
    (v : Int) (hv : (9007199254740991 : Int) < v) (hA : ∀ w', Below w.heap.size w w' → Calls Tryz.prog 126 #[.string s] w' fun e w2 => e = .returned (.tuple #[.int .i64 v, .nilIface]) ∧ Below w'.heap.size w' w2) :
    Calls Tryz.prog 98 #[.string s] w fun e w' => e = .returned (.tuple #[.int .i64 (0), .int .i64 9]) ∧ Below w.heap.size w w' := by
  have HA := Lib.hid hA
  clear hA
  go_enter Tryz.func98, Tryz.ntmps98
  go_wp2_with fail
  refine hT.mono ?_
  rintro e w' ⟨rfl, hB⟩
  have hAt := HA.out w' hB
  have HB := Lib.hid hB
  clear hB HA hT
  go_wp2_with fail
  refine hAt.mono ?_
  rintro e w2 ⟨rfl, hB2⟩
  clear hAt
  go_wp2
  go_ret2
  exact ⟨rfl, HB.out.trans (hB2.mono HB.out.size)⟩
theorem numberBigC (s T : ByteArray) (w : World) (hne : s.toList.isEmpty = false) (hs0 : 0 < s.size) (htn : T.toList.isEmpty = true) (h48 : ((((s[0]'hs0).toNat : Int) == 48)) = false)
    (hT : Calls Tryz.prog 125 #[.string s, .string ⟨#[48, 49, 50, 51, 52, 53, 54, 55, 56, 57]⟩] w fun e w' => e = .returned (.string T) ∧ Below w.heap.size w w')
    (v : Int) (hv : (9007199254740991 : Int) < v) (hA : ∀ w', Below w.heap.size w w' → Calls Tryz.prog 126 #[.string s] w' fun e w2 => e = .returned (.tuple #[.int .i64 v, .nilIface]) ∧ Below w'.heap.size w' w2) :
    Calls Tryz.prog 98 #[.string s] w fun e w' => e = .returned (.tuple #[.int .i64 (0), .int .i64 9]) ∧ Below w.heap.size w w' := by
  have HA := Lib.hid hA
  clear hA
  go_enter Tryz.func98, Tryz.ntmps98
  go_wp2_with fail
  refine hT.mono ?_
  rintro e w' ⟨rfl, hB⟩
  have hAt := HA.out w' hB
  have HB := Lib.hid hB
  clear hB HA hT
  go_wp2_with fail
  refine hAt.mono ?_
  rintro e w2 ⟨rfl, hB2⟩
  clear hAt
  go_wp2
  go_ret2
  exact ⟨rfl, HB.out.trans (hB2.mono HB.out.size)⟩
theorem numberOutB (s T : ByteArray) (w : World) (hne : s.toList.isEmpty = false) (hs0 : 0 < s.size) (htn : T.toList.isEmpty = true) (h48 : (((s[0]'hs0).toNat : Int) = 48)) (hl48 : (s.toList == [48]) = true)
    (hT : Calls Tryz.prog 125 #[.string s, .string ⟨#[48, 49, 50, 51, 52, 53, 54, 55, 56, 57]⟩] w fun e w' => e = .returned (.string T) ∧ Below w.heap.size w w')
    (v : Int) (hA : ∀ w', Below w.heap.size w w' → Calls Tryz.prog 126 #[.string s] w' fun e w2 => ∃ (tp : TypeId) (p : Value), e = .returned (.tuple #[.int .i64 v, .iface tp p]) ∧ Below w'.heap.size w' w2) :
    Calls Tryz.prog 98 #[.string s] w fun e w' => e = .returned (.tuple #[.int .i64 (0), .int .i64 9]) ∧ Below w.heap.size w w' := by
  have HA := Lib.hid hA
  clear hA
  go_enter Tryz.func98, Tryz.ntmps98
  go_wp2_with fail
  refine hT.mono ?_
  rintro e w' ⟨rfl, hB⟩
  have hAt := HA.out w' hB
  have HB := Lib.hid hB
  clear hB HA hT
  go_wp2_with fail
  refine hAt.mono ?_
  rintro e w2 ⟨tp, p, rfl, hB2⟩
  clear hAt
  go_wp2
  go_ret2
  exact ⟨rfl, HB.out.trans (hB2.mono HB.out.size)⟩
theorem numberOutC (s T : ByteArray) (w : World) (hne : s.toList.isEmpty = false) (hs0 : 0 < s.size) (htn : T.toList.isEmpty = true) (h48 : ((((s[0]'hs0).toNat : Int) == 48)) = false)
    (hT : Calls Tryz.prog 125 #[.string s, .string ⟨#[48, 49, 50, 51, 52, 53, 54, 55, 56, 57]⟩] w fun e w' => e = .returned (.string T) ∧ Below w.heap.size w w')
    (v : Int) (hA : ∀ w', Below w.heap.size w w' → Calls Tryz.prog 126 #[.string s] w' fun e w2 => ∃ (tp : TypeId) (p : Value), e = .returned (.tuple #[.int .i64 v, .iface tp p]) ∧ Below w'.heap.size w' w2) :
    Calls Tryz.prog 98 #[.string s] w fun e w' => e = .returned (.tuple #[.int .i64 (0), .int .i64 9]) ∧ Below w.heap.size w w' := by
  have HA := Lib.hid hA
  clear hA
  go_enter Tryz.func98, Tryz.ntmps98
  go_wp2_with fail
  refine hT.mono ?_
  rintro e w' ⟨rfl, hB⟩
  have hAt := HA.out w' hB
  have HB := Lib.hid hB
  clear hB HA hT
  go_wp2_with fail
  refine hAt.mono ?_
  rintro e w2 ⟨tp, p, rfl, hB2⟩
  clear hAt
  go_wp2
  go_ret2
  exact ⟨rfl, HB.out.trans (hB2.mono HB.out.size)⟩
theorem numbers_any (l : List UInt8) (hl : l.length ≤ 140737488351232) (w : World) (hW : WOk w) :
    Calls Tryz.prog 98 #[.string (bs l)] w fun e w' => e = .returned (.tuple #[.int .i64 (numR l), .int .i64 (numE l)]) ∧ Below w.heap.size w w' := by
  cases l with
  | nil =>
    have h0 : (bs []).toList.isEmpty = true := by simp [bs, ByteArray.toList_eq]
    have e1 : numR [] = 0 := rfl
    have e2 : numE [] = 4 := rfl
    rw [e1, e2]
    generalize bs [] = s at *
    go_enter Tryz.func98, Tryz.ntmps98
    go_wp2
    go_ret2
    exact ⟨rfl, Below.refl _ _⟩
  | cons b t =>
    have hz : (bs (b :: t)).size ≤ 140737488351232 := by rw [bs_size]; exact hl
    have hT := Any.strings_Trim_laid Tryz.lays160 (by kernel_rfl) (bs (b :: t)) ⟨#[48, 49, 50, 51, 52, 53, 54, 55, 56, 57]⟩ w (by omega) (by decide) (ascii_of_all (by decide))
    have hne : (bs (b :: t)).toList.isEmpty = false := by simp [bs, ByteArray.toList_eq]
    have hb0 : (bs (b :: t))[0]? = some b := rfl
    have htr : Lib.trimS (bs (b :: t)).data.toList [48, 49, 50, 51, 52, 53, 54, 55, 56, 57] = [] ↔ (b :: t).all dgB = true := trim_digs (b :: t)
    cases hd : (b :: t).all dgB with
    | false =>
      have e1 : numOk (b :: t) = false := by show ((b :: t).all dgB && (b != 48 || t.isEmpty)) = false; rw [hd]; rfl
      have e2 : numR (b :: t) = 0 := by unfold numR; rw [if_neg (by rw [e1]; simp)]
      have e3 : numE (b :: t) = 4 := by unfold numE; rw [if_neg (by rw [e1]; simp)]
      rw [e2, e3]
      have hn : Lib.trimS (bs (b :: t)).data.toList [48, 49, 50, 51, 52, 53, 54, 55, 56, 57] ≠ [] := fun e => by rw [htr.1 e] at hd; cases hd
      have hT2 : Calls Tryz.prog 125 #[.string (bs (b :: t)), .string ⟨#[48, 49, 50, 51, 52, 53, 54, 55, 56, 57]⟩] w fun e w' => e = .returned (.string (bs (Lib.trimS (bs (b :: t)).data.toList [48, 49, 50, 51, 52, 53, 54, 55, 56, 57]))) ∧ Below w.heap.size w w' := hT
      generalize Lib.trimS (bs (b :: t)).data.toList [48, 49, 50, 51, 52, 53, 54, 55, 56, 57] = tr at *
      have htn : (bs tr).toList.isEmpty = false := by simp [bs, ByteArray.toList_eq, hn]
      generalize bs tr = T at *
      clear hT htr hn e1 e2 e3 hd hb0 hz hl hW
      generalize bs (b :: t) = s at *
      go_enter Tryz.func98, Tryz.ntmps98
      go_wp2_with fail
      refine hT2.mono ?_
      rintro e w' ⟨rfl, hB⟩
      go_wp2
      go_ret2
      exact ⟨rfl, hB⟩
    | true =>
      have hT2 : Calls Tryz.prog 125 #[.string (bs (b :: t)), .string ⟨#[48, 49, 50, 51, 52, 53, 54, 55, 56, 57]⟩] w fun e w' => e = .returned (.string (bs (Lib.trimS (bs (b :: t)).data.toList [48, 49, 50, 51, 52, 53, 54, 55, 56, 57]))) ∧ Below w.heap.size w w' := hT
      rw [htr.2 hd] at hT2
      have htn : (bs []).toList.isEmpty = true := by simp [bs, ByteArray.toList_eq]
      generalize bs [] = T at *
      clear hT htr
      have hs0 : 0 < (bs (b :: t)).size := by rw [bs_size]; simp
      have hat := atoi_digits b t hd
      have hat : Lib.atoiAll (bs (b :: t)).data.toList = _ := hat
      have hlist : (bs (b :: t)).toList = b :: t := by simp [bs, ByteArray.toList_eq]
      have hh : ∀ h : 0 < (bs (b :: t)).size, (bs (b :: t))[0]'h = b := fun _ => rfl
      by_cases hb : b = 48
      · by_cases ht : t = []
        · have hok : numOk (b :: t) = true := by
            show ((b :: t).all dgB && (b != 48 || t.isEmpty)) = true
            rw [hd, ht]; simp
          have h48 : (((bs (b :: t))[0]'hs0).toNat : Int) = 48 := by rw [hh hs0, hb]; rfl
          have hl48 : ((bs (b :: t)).toList == [48]) = true := by rw [hlist, hb, ht]; rfl
          unfold numR numE
          rw [hok]
          simp only [if_true]
          by_cases hv : valL (b :: t) < 9223372036854775808
          · rw [if_pos hv] at hat
            have hA : ∀ w', Below w.heap.size w w' → Calls Tryz.prog 126 #[.string (bs (b :: t))] w' fun e w2 => e = .returned (.tuple #[.int .i64 (valL (b :: t) : Int), .nilIface]) ∧ Below w'.heap.size w' w2 := fun w' hB =>
              (Tryz.strconv_Atoi_ok (bs (b :: t)) (by omega) _ hat w').mono fun e w2 ⟨he, hw⟩ => ⟨he, by
                rcases hw with rfl | ⟨T, rfl⟩
                · exact Below.refl _ _
                · exact bytes_below _ _ _⟩
            by_cases hm : valL (b :: t) ≤ 9007199254740991
            · rw [if_pos hm, if_pos hm]
              exact numberSmallB _ T w hne hs0 htn h48 hl48 hT2 _ (by omega) hA
            · rw [if_neg hm, if_neg hm]
              exact numberBigB _ T w hne hs0 htn h48 hl48 hT2 _ (by omega) hA
          · rw [if_neg hv] at hat
            have hm : ¬ valL (b :: t) ≤ 9007199254740991 := by omega
            rw [if_neg hm, if_neg hm]
            refine numberOutB _ T w hne hs0 htn h48 hl48 hT2 (Lib.atoiSat (bs (b :: t)).data.toList) fun w' hB => ?_
            obtain ⟨tp, p, hr⟩ := (hW.mono hB).rng
            exact (Tryz.strconv_Atoi_range_var (bs (b :: t)) (by omega) hat tp p w' hr).mono fun e w2 ⟨N, he, _, _, hB2⟩ => ⟨_, _, he, hB2⟩
        · have hnum : numR (b :: t) = 0 ∧ numE (b :: t) = 4 := by
            have e1 : numOk (b :: t) = false := by show ((b :: t).all dgB && (b != 48 || t.isEmpty)) = false; rw [hb]; simp [ht]
            unfold numR numE
            rw [e1]
            exact ⟨rfl, rfl⟩
          have h48 : (((bs (b :: t))[0]'hs0).toNat : Int) = 48 := by rw [hh hs0, hb]; rfl
          have hl48 : ((bs (b :: t)).toList == [48]) = false := by rw [hlist, hb]; simp [ht]
          rw [hnum.1, hnum.2]
          clear hnum hlist hh hb0 hd hl hat hb ht hz hW
          generalize bs (b :: t) = s at *
          go_enter Tryz.func98, Tryz.ntmps98
          go_wp2_with fail
          refine hT2.mono ?_
          rintro e w' ⟨rfl, hB⟩
          go_wp2
          go_ret2
          exact ⟨rfl, hB⟩
      · have hok : numOk (b :: t) = true := by
          show ((b :: t).all dgB && (b != 48 || t.isEmpty)) = true
          rw [hd]; simp [hb]
        have h48 : ((((bs (b :: t))[0]'hs0).toNat : Int) == 48) = false := by
          rw [hh hs0, beq_eq_false_iff_ne]
          intro e
          exact hb (UInt8.toNat_inj.1 (by simpa using Int.ofNat.inj e))
        unfold numR numE
        rw [hok]
        simp only [if_true]
        by_cases hv : valL (b :: t) < 9223372036854775808
        · rw [if_pos hv] at hat
          have hA : ∀ w', Below w.heap.size w w' → Calls Tryz.prog 126 #[.string (bs (b :: t))] w' fun e w2 => e = .returned (.tuple #[.int .i64 (valL (b :: t) : Int), .nilIface]) ∧ Below w'.heap.size w' w2 := fun w' hB =>
            (Tryz.strconv_Atoi_ok (bs (b :: t)) (by omega) _ hat w').mono fun e w2 ⟨he, hw⟩ => ⟨he, by
              rcases hw with rfl | ⟨T, rfl⟩
              · exact Below.refl _ _
              · exact bytes_below _ _ _⟩
          by_cases hm : valL (b :: t) ≤ 9007199254740991
          · rw [if_pos hm, if_pos hm]
            exact numberSmallC _ T w hne hs0 htn h48 hT2 _ (by omega) hA
          · rw [if_neg hm, if_neg hm]
            exact numberBigC _ T w hne hs0 htn h48 hT2 _ (by omega) hA
        · rw [if_neg hv] at hat
          have hm : ¬ valL (b :: t) ≤ 9007199254740991 := by omega
          rw [if_neg hm, if_neg hm]
          refine numberOutC _ T w hne hs0 htn h48 hT2 (Lib.atoiSat (bs (b :: t)).data.toList) fun w' hB => ?_
          obtain ⟨tp, p, hr⟩ := (hW.mono hB).rng
          exact (Tryz.strconv_Atoi_range_var (bs (b :: t)) (by omega) hat tp p w' hr).mono fun e w2 ⟨N, he, _, _, hB2⟩ => ⟨_, _, he, hB2⟩
theorem text_Number.calls (a0 : ByteArray) (r1 : Int) (r2 : Int) (w : World) (h : text_Number.f a0 = some (r1, r2)) (hW : WOk w) :
    Calls Tryz.prog 98 #[.string a0] w fun e w' => e = .returned (.tuple #[.int .i64 r1, .int .i64 r2]) ∧ Below w.heap.size w w' := by
  unfold text_Number.f at h
  split at h
  · rename_i hc
    simp only [Option.some.injEq, Prod.mk.injEq] at h
    obtain ⟨rfl, rfl⟩ := h
    exact numbers_any a0.data.toList (by rw [Array.length_toList]; exact hc) w hW
  · cases h
end Go.Proofs.YtfhmmekamommcaaGreatDoor
