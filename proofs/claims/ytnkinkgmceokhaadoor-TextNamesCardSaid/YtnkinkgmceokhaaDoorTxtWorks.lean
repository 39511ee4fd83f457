/- The contract of works (chapter 01). -/
import Derived.Test.YtnkinkgmceokhaaDoorTxtGiven
namespace Go.Proofs.YtnkinkgmceokhaaDoor
set_option linter.unusedVariables false
set_option linter.unusedSimpArgs false
open Go Go.RowKit Go.Proofs Go.Shelf
open Go.Proofs.YtnkinkgmceokhaaDoorW.PrintWords (Kd)
def chinoiserielaw01_works.f : Option Bool := some true
theorem dec_250 : Lib.decDigits 250 = [50, 53, 48] := by
  rw [Lib.decDigits, dif_neg (by decide), Lib.decDigits, dif_neg (by decide), Lib.decDigits, dif_pos (by decide)]
  rfl
theorem eqTexts_same (A0 : Option Addr) (c0 : Nat) (l : List ByteArray) (A1 : Option Addr) (c1 : Nat) (w : World) (hr0 : Kd.C Kd.string w A0 l.length l) (hr1 : Kd.C Kd.string w A1 l.length l) :
    Calls Tryd.prog 17 #[.slice A0 l.length c0, .slice A1 l.length c1] w fun e w' => e = .returned (.bool true) ∧ Below w.heap.size w w' := by
  have h := eqTexts_any A0 c0 l A1 c1 l w hr0 hr1
  rw [decide_eq_true rfl] at h
  exact h
theorem R_kept {w w1 w2 : World} {base base' : Nat} {v : Value} {xs : List ByteArray} (h : Kd.R Kd.string 9 w base (fun _ => True) v xs) (hb : Below w.heap.size w w1) : Kd.R Kd.string 9 w1 base (fun _ => True) v xs := Kd.R_below h hb
theorem lit_strs (w : World) (xs : List ByteArray) (cap : Nat) (h : xs.length ≤ 9223372036854775807) : Kd.C Kd.string (w.alloc (.cells (xs.map Value.string).toArray 9)) (some ⟨w.heap.size, 0, none⟩) xs.length xs := by
  refine ⟨rfl, h, fun _ => ⟨_, rfl, fun j p hj => ⟨[.string p], rfl, rfl, fun i u hu => ?_⟩⟩⟩
  cases i with
  | zero =>
    cases hu
    have hz : Kd.string.sz = 1 := rfl
    rw [hz, Nat.mul_one, Nat.add_zero]
    have e : (⟨w.heap.size, 0, none⟩ : Addr).add j = ⟨w.heap.size, j, none⟩ := by
      unfold Addr.add
      by_cases hj : j = 0
      · subst hj; simp
      · simp [hj]
    rw [e, World.cell?_alloc_new]
    simp [hj]
  | succ i => simp at hu
set_option maxHeartbeats 4000000 in
set_option maxRecDepth 100000 in
theorem works_any (w : World) (hW : WOk w) : Calls Tryd.prog 20 #[] w fun e w' => e = .returned (.bool true) ∧ Below w.heap.size w w' := by
  have HW0 := Lib.hid hW
  have HB0 := Lib.hid (Below.refl w.heap.size w)
  clear hW
  have h250 : ((bs [50, 53, 48]).toList == [50, 53, 48]) = true := by simp [bs, ByteArray.toList_eq]
  go_enter Tryd.func20, Tryd.ntmps20
  have hc0 := fun W (h : WOk W) => text_Lines.calls (⟨#[97, 32, 98, 10, 10, 99]⟩ : ByteArray) [bs [97, 32, 98], bs [], bs [99]] 0 W (by unfold text_Lines.f; rfl) h
  go_wp2_with fail
  refine (hc0 _ HW0.out).mono ?_
  rintro e w1 ⟨v0, rfl, hR0, hB0⟩
  obtain ⟨A0, c0, rfl, hl0, hC0⟩ := Kd.R_reads hR0
  have HC0n1 := Lib.hid hC0
  have HW1 := Lib.hid (HW0.out.mono hB0)
  have HB1 := Lib.hid (HB0.out.trans (hB0.mono HB0.out.size))
  clear hR0 hC0 hl0 hB0 hc0 HW0 HB0
  have hc1 := fun W (h : WOk W) => text_Words.calls (⟨#[32, 32, 119, 111, 114, 107, 32, 32, 97, 45, 49, 32]⟩ : ByteArray) [bs [119, 111, 114, 107], bs [97, 45, 49]] 0 W (by unfold text_Words.f; rfl) h
  go_wp2_with fail
  refine (hc1 _ HW1.out).mono ?_
  rintro e w2 ⟨v1, rfl, hR1, hB1⟩
  have HC0n2 := Lib.hid (Kd.C_below HC0n1.out hB1)
  clear HC0n1
  obtain ⟨A1, c1, rfl, hl1, hC1⟩ := Kd.R_reads hR1
  have HC1n2 := Lib.hid hC1
  have HW2 := Lib.hid (HW1.out.mono hB1)
  have HB2 := Lib.hid (HB1.out.trans (hB1.mono HB1.out.size))
  clear hR1 hC1 hl1 hB1 hc1 HW1 HB1
  have hc2 := fun W (h : WOk W) => text_Words.calls (⟨#[97, 9]⟩ : ByteArray) [] 4 W (by unfold text_Words.f; rfl) h
  go_wp2_with fail
  refine (hc2 _ HW2.out).mono ?_
  rintro e w3 ⟨v2, rfl, hR2, hB2⟩
  have HC0n3 := Lib.hid (Kd.C_below HC0n2.out hB2)
  clear HC0n2
  have HC1n3 := Lib.hid (Kd.C_below HC1n2.out hB2)
  clear HC1n2
  obtain ⟨A2, c2, rfl, hl2, hC2⟩ := Kd.R_reads hR2
  have HC2n3 := Lib.hid hC2
  have HW3 := Lib.hid (HW2.out.mono hB2)
  have HB3 := Lib.hid (HB2.out.trans (hB2.mono HB2.out.size))
  clear hR2 hC2 hl2 hB2 hc2 HW2 HB2
  have hc3 := fun W (h : WOk W) => text_Number.calls (⟨#[48]⟩ : ByteArray) 0 0 W (by unfold text_Number.f; rfl) h
  go_wp2_with fail
  refine (hc3 _ HW3.out).mono ?_
  rintro e w4 ⟨rfl, hB3⟩
  have HC0n4 := Lib.hid (Kd.C_below HC0n3.out hB3)
  clear HC0n3
  have HC1n4 := Lib.hid (Kd.C_below HC1n3.out hB3)
  clear HC1n3
  have HW4 := Lib.hid (HW3.out.mono hB3)
  have HB4 := Lib.hid (HB3.out.trans (hB3.mono HB3.out.size))
  clear hB3 hc3 HW3 HB3
  have hc4 := fun W (h : WOk W) => text_Number.calls (⟨#[48, 49]⟩ : ByteArray) 0 4 W (by unfold text_Number.f; rfl) h
  go_wp2_with fail
  refine (hc4 _ HW4.out).mono ?_
  rintro e w5 ⟨rfl, hB4⟩
  have HC0n5 := Lib.hid (Kd.C_below HC0n4.out hB4)
  clear HC0n4
  have HC1n5 := Lib.hid (Kd.C_below HC1n4.out hB4)
  clear HC1n4
  have HW5 := Lib.hid (HW4.out.mono hB4)
  have HB5 := Lib.hid (HB4.out.trans (hB4.mono HB4.out.size))
  clear hB4 hc4 HW4 HB4
  have hc5 := fun W (h : WOk W) => text_Number.calls (⟨#[57, 48, 48, 55, 49, 57, 57, 50, 53, 52, 55, 52, 48, 57, 57, 50]⟩ : ByteArray) 0 9 W (by unfold text_Number.f; rfl) h
  go_wp2_with fail
  refine (hc5 _ HW5.out).mono ?_
  rintro e w6 ⟨rfl, hB5⟩
  have HC0n6 := Lib.hid (Kd.C_below HC0n5.out hB5)
  clear HC0n5
  have HC1n6 := Lib.hid (Kd.C_below HC1n5.out hB5)
  clear HC1n5
  have HW6 := Lib.hid (HW5.out.mono hB5)
  have HB6 := Lib.hid (HB5.out.trans (hB5.mono HB5.out.size))
  clear hB5 hc5 HW5 HB5
  have hc6 := fun W (h : WOk W) => text_Digits.calls 250 (bs [50, 53, 48]) 0 W (by unfold text_Digits.f digR digE; rw [if_pos (by decide), if_pos (by decide)]; show some (bs (Lib.decDigits 250), (0 : Int)) = _; rw [dec_250]) h
  go_wp2_with fail
  refine (hc6 _ HW6.out).mono ?_
  rintro e w7 ⟨rfl, hB6⟩
  have HC0n7 := Lib.hid (Kd.C_below HC0n6.out hB6)
  clear HC0n6
  have HC1n7 := Lib.hid (Kd.C_below HC1n6.out hB6)
  clear HC1n6
  have HW7 := Lib.hid (HW6.out.mono hB6)
  have HB7 := Lib.hid (HB6.out.trans (hB6.mono HB6.out.size))
  clear hB6 hc6 HW6 HB6
  have hc7 := fun W (h : WOk W) => text_Name.calls (⟨#[97, 45, 49]⟩ : ByteArray) 0 W (by unfold text_Name.f; rfl) h
  go_wp2_with fail
  refine (hc7 _ HW7.out).mono ?_
  rintro e w8 ⟨rfl, hB7⟩
  have HC0n8 := Lib.hid (Kd.C_below HC0n7.out hB7)
  clear HC0n7
  have HC1n8 := Lib.hid (Kd.C_below HC1n7.out hB7)
  clear HC1n7
  have HW8 := Lib.hid (HW7.out.mono hB7)
  have HB8 := Lib.hid (HB7.out.trans (hB7.mono HB7.out.size))
  clear hB7 hc7 HW7 HB7
  have hc8 := fun W (h : WOk W) => text_Name.calls (⟨#[49, 97]⟩ : ByteArray) 31 W (by unfold text_Name.f; rfl) h
  go_wp2_with fail
  refine (hc8 _ HW8.out).mono ?_
  rintro e w9 ⟨rfl, hB8⟩
  have HC0n9 := Lib.hid (Kd.C_below HC0n8.out hB8)
  clear HC0n8
  have HC1n9 := Lib.hid (Kd.C_below HC1n8.out hB8)
  clear HC1n8
  have HW9 := Lib.hid (HW8.out.mono hB8)
  have HB9 := Lib.hid (HB8.out.trans (hB8.mono HB8.out.size))
  clear hB8 hc8 HW8 HB8
  have hc9 := fun W (h : WOk W) => text_Name.calls (⟨#[65]⟩ : ByteArray) 31 W (by unfold text_Name.f; rfl) h
  go_wp2_with fail
  refine (hc9 _ HW9.out).mono ?_
  rintro e w10 ⟨rfl, hB9⟩
  have HC0n10 := Lib.hid (Kd.C_below HC0n9.out hB9)
  clear HC0n9
  have HC1n10 := Lib.hid (Kd.C_below HC1n9.out hB9)
  clear HC1n9
  have HW10 := Lib.hid (HW9.out.mono hB9)
  have HB10 := Lib.hid (HB9.out.trans (hB9.mono HB9.out.size))
  clear hB9 hc9 HW9 HB9
  have hc10 := fun W (h : WOk W) => text_Name.calls (⟨#[]⟩ : ByteArray) 31 W (by unfold text_Name.f; rfl) h
  go_wp2_with fail
  refine (hc10 _ HW10.out).mono ?_
  rintro e w11 ⟨rfl, hB10⟩
  have HC0n11 := Lib.hid (Kd.C_below HC0n10.out hB10)
  clear HC0n10
  have HC1n11 := Lib.hid (Kd.C_below HC1n10.out hB10)
  clear HC1n10
  have HW11 := Lib.hid (HW10.out.mono hB10)
  have HB11 := Lib.hid (HB10.out.trans (hB10.mono HB10.out.size))
  clear hB10 hc10 HW10 HB10
  go_wp2_with fail
  have hl0 := lit_strs w11 [bs [97, 32, 98], bs [], bs [99]] 3 (by decide)
  refine (eqTexts_same A0 _ [bs [97, 32, 98], bs [], bs [99]] (some ⟨w11.heap.size, 0, none⟩) 3 _ (Kd.C_below HC0n11.out (below_new w11 _)) hl0).mono ?_
  rintro e w12 ⟨rfl, hB11⟩
  have hB := (below_new w11 _).trans (hB11.mono (by simp))
  have HC1n12 := Lib.hid (Kd.C_below HC1n11.out hB)
  have HB12 := Lib.hid (HB11.out.trans (hB.mono HB11.out.size))
  clear hB hB11 HB11 HC1n11 HC0n11 hl0
  go_wp2_with fail
  have hl1 := lit_strs w12 [bs [119, 111, 114, 107], bs [97, 45, 49]] 2 (by decide)
  refine (eqTexts_same A1 _ [bs [119, 111, 114, 107], bs [97, 45, 49]] (some ⟨w12.heap.size, 0, none⟩) 2 _ (Kd.C_below HC1n12.out (below_new w12 _)) hl1).mono ?_
  rintro e w13 ⟨rfl, hB11⟩
  have hB := (below_new w12 _).trans (hB11.mono (by simp))
  have HB13 := Lib.hid (HB12.out.trans (hB.mono HB12.out.size))
  clear hB hB11 HB12 HC1n12 hl1
  go_wp2
  go_ret
  exact ⟨rfl, HB13.out⟩
theorem chinoiserielaw01_works.calls (r : Bool) (w : World) (h : chinoiserielaw01_works.f = some r) (hW : WOk w) : Calls Tryd.prog 20 #[] w fun e w' => e = .returned (.bool r) ∧ Below w.heap.size w w' := by
  obtain rfl := Option.some.inj h
  exact works_any w hW
end Go.Proofs.YtnkinkgmceokhaaDoor
