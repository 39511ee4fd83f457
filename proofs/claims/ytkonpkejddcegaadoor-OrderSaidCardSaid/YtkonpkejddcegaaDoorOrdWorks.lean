/- works -/
import Derived.Test.YtkonpkejddcegaaDoorOrd13
import Derived.Test.YtkonpkejddcegaaDoorOrdPO
namespace Go.Proofs.YtkonpkejddcegaaDoor
set_option linter.unusedVariables false
set_option linter.unusedSimpArgs false
open Go Go.RowKit Go.Proofs Go.Shelf
def NewP (w : World) (n : Nat) (e : Ending) (w' : World) : Prop :=
  ∃ b bu bd, e = .returned (.tuple #[.pointer (some ⟨b, 0, none⟩), .int .i64 0]) ∧ w.heap.size ≤ b ∧ w.heap.size ≤ bu ∧ w.heap.size ≤ bd ∧ IsOrd w' b bu bd n n n idR (flp idR) ∧ Chg (fun _ => False) w w'
theorem new_id (n : Nat) (h1 : 1 ≤ n) (h16 : n ≤ 16) (w : World) : Calls Tryd.prog 18 #[.int .i64 (n : Int)] w (NewP w n) := by
  refine (new_ok n h1 h16 w).mono ?_
  rintro e w' ⟨b, bu, bd, rfl, h1, h2, h3, h4, h5⟩
  refine ⟨b, bu, bd, rfl, h1, h2, h3, h4.congr (fun i j hi hj => ?_) (fun i j hi hj => ?_), h5⟩
  · unfold idTo idR; by_cases e : i = j <;> simp [e, hi, hj]
  · unfold idTo flp idR
    by_cases e : i = j
    · subst e; simp [hi]
    · have : ¬ j = i := fun h => e h.symm
      simp [e, this]
/-- a list of numbers that the call itself lays -/
theorem lit_ints (w : World) (l : List Nat) (t : TypeId) (f : Nat × Nat) (cap : Nat) : HasInts (w.alloc (.cells (nints l).toArray t f)) (.slice (some ⟨w.heap.size, 0, none⟩) l.length cap) l := by
  refine .inr ⟨_, cap, rfl, fun i hi => ?_⟩
  rw [cell_of_heap (heap_new w _)]
  simp [nints, List.getD, hi]
theorem lit_pairs (w : World) (l : List (Nat × Nat)) (t : TypeId) (f : Nat × Nat) (cap : Nat) : HasPairs (w.alloc (.cells (prs l).toArray t f)) (.slice (some ⟨w.heap.size, 0, none⟩) l.length cap) l := by
  refine .inr ⟨_, cap, rfl, fun i hi => ?_⟩
  rw [cell_of_heap (heap_new w _), cell_of_heap (heap_new w _)]
  have := prs_get l i hi
  simpa using this
theorem AddPost.to {w : World} {b bu bd cu cd n : Nat} {R : Nat → Nat → Bool} {x y : Int} {e : Ending} {w' : World} (h : AddPost w b bu bd cu cd n R x y e w') (c : Int) (hc : addE n R x y = c) :
    e = .returned (.int .i64 c) ∧ IsOrd w' b bu bd cu cd n (addR n R x y) (flp (addR n R x y)) ∧ Chg (fun k => k = bu ∨ k = bd) w w' := by
  obtain ⟨h1, h2, h3⟩ := h
  rw [hc] at h1
  exact ⟨h1, h2, h3⟩
set_option maxHeartbeats 4000000 in
theorem works_ok (w : World) (hT : TabOk w) (hg : 0 < w.heap.size) : Calls Tryd.prog 8 #[] w (BoolPost w true) := by
  have HT := Lib.hid hT
  clear hT
  go_enter Tryd.func8, Tryd.ntmps8
  go_wp2_with fail
  refine (new_id 4 (by omega) (by omega) _).mono ?_
  rintro e w1 ⟨b, bu, bd, rfl, hb, hbu, hbd, hO, hC⟩
  have z1 : b ≠ 0 := by omega
  have z2 : bu ≠ 0 := by omega
  have z3 : bd ≠ 0 := by omega
  have HO1 := Lib.hid hO
  have HC1 := Lib.hid hC
  have HT1 := Lib.hid (HT.out.chg hC (fun h => h))
  clear hO hC
  go_wp2_with fail
  refine (add_any HO1.out HT1.out 0 1 z1 z2 z3).mono ?_
  rintro e w2 hp
  obtain ⟨rfl, hO, hC⟩ := hp.to 0 (by decide)
  have HO2 := Lib.hid hO
  have HC2 := Lib.hid hC
  have HT2 := Lib.hid (HT1.out.chg hC (by omega))
  clear hO hC hp
  go_wp2_with fail
  refine (add_any HO2.out HT2.out 1 2 z1 z2 z3).mono ?_
  rintro e w3 hp
  obtain ⟨rfl, hO, hC⟩ := hp.to 0 (by decide)
  have HO3 := Lib.hid hO
  have HC3 := Lib.hid hC
  have HT3 := Lib.hid (HT2.out.chg hC (by omega))
  clear hO hC hp
  go_wp2_with fail
  have hat := atMost_some HO3.out 0 2
  rw [show atM 4 (addR 4 (addR 4 idR 0 1) 1 2) 0 2 = true by decide] at hat
  unfold optr at hat
  refine hat.mono ?_
  clear hat
  rintro e w' ⟨rfl, rfl⟩
  go_wp2_with fail
  refine (add_any HO3.out HT3.out 2 0 z1 z2 z3).mono ?_
  rintro e w4 hp
  obtain ⟨rfl, hO, hC⟩ := hp.to 20 (by decide)
  have HO4 := Lib.hid hO
  have HC4 := Lib.hid hC
  have HT4 := Lib.hid (HT3.out.chg hC (by omega))
  clear hO hC hp
  go_wp2_with fail
  refine (up_some HO4.out HT4.out 1).mono ?_
  rintro e w5 ⟨v5, rfl, hv, hC⟩
  rw [show rowOf 4 (addR 4 (addR 4 (addR 4 idR 0 1) 1 2) 2 0) 1 = [1, 2] by decide] at hv
  have HC5 := Lib.hid hC
  have HV5 := Lib.hid (own_ints hv)
  have HL5 := Lib.hid (lit_ints w5 [1, 2] 3 (0, 0) 2)
  clear hv hC
  go_wp2_with fail
  refine (eqInts_any _ _ _ [1, 2] [1, 2] (HV5.out.chg ((Chg.refl _ _).alloc _)) HL5.out (by decide) (by decide)).mono ?_
  rintro e w6 ⟨rfl, hC⟩
  rw [show decide ([1, 2] = [1, 2]) = true by decide]
  have HC6 := Lib.hid (((Chg.refl _ w5).alloc _).trans hC)
  clear hC
  go_wp2_with fail
  have HO6 := Lib.hid ((HO4.out.chg HC5.out (fun _ _ h => h)).chg HC6.out (fun _ _ h => h))
  have HT6 := Lib.hid ((HT4.out.chg HC5.out (fun h => h)).chg HC6.out (fun h => h))
  refine (down_some HO6.out HT6.out 2).mono ?_
  rintro e w7 ⟨v7, rfl, hv, hC⟩
  rw [show rowOf 4 (flp (addR 4 (addR 4 (addR 4 idR 0 1) 1 2) 2 0)) 2 = [0, 1, 2] by decide] at hv
  have HC7 := Lib.hid hC
  have HV7 := Lib.hid (own_ints hv)
  have HL7 := Lib.hid (lit_ints w7 [0, 1, 2] 3 (0, 0) 3)
  clear hv hC
  go_wp2_with fail
  refine (eqInts_any _ _ _ [0, 1, 2] [0, 1, 2] (HV7.out.chg ((Chg.refl _ _).alloc _)) HL7.out (by decide) (by decide)).mono ?_
  rintro e w8 ⟨rfl, hC⟩
  rw [show decide ([0, 1, 2] = [0, 1, 2]) = true by decide]
  have HC8 := Lib.hid (((Chg.refl _ w7).alloc _).trans hC)
  clear hC
  go_wp2_with fail
  have HO8 := Lib.hid ((HO6.out.chg HC7.out (fun _ _ h => h)).chg HC8.out (fun _ _ h => h))
  have HT8 := Lib.hid ((HT6.out.chg HC7.out (fun h => h)).chg HC8.out (fun h => h))
  refine (covers_some HO8.out HT8.out).mono ?_
  rintro e w9 ⟨v9, rfl, hv, hC⟩
  rw [show covTo 4 (addR 4 (addR 4 (addR 4 idR 0 1) 1 2) 2 0) (flp (addR 4 (addR 4 (addR 4 idR 0 1) 1 2) 2 0)) 4 = [(0, 1), (1, 2)] by decide] at hv
  have HC9 := Lib.hid hC
  have HV9 := Lib.hid (own_pairs hv)
  have HL9 := Lib.hid (lit_pairs w9 [(0, 1), (1, 2)] 31 (0, 0) 2)
  clear hv hC
  go_wp2_with fail
  refine (is_any _ _ _ [(0, 1), (1, 2)] [(0, 1), (1, 2)] (HV9.out.chg ((Chg.refl _ _).alloc _)) HL9.out (by decide) (by decide)).mono ?_
  rintro e w10 ⟨rfl, hC⟩
  rw [show decide ([(0, 1), (1, 2)] = [(0, 1), (1, 2)]) = true by decide]
  have HC10 := Lib.hid (((Chg.refl _ w9).alloc _).trans hC)
  clear hC
  go_wp2_with fail
  have HO10 := Lib.hid ((HO8.out.chg HC9.out (fun _ _ h => h)).chg HC10.out (fun _ _ h => h))
  have HT10 := Lib.hid ((HT8.out.chg HC9.out (fun h => h)).chg HC10.out (fun h => h))
  refine (line_some HO10.out HT10.out (PO.hasMin ((((PO.id 4).add 0 1).add 1 2).add 2 0))).mono ?_
  rintro e w11 ⟨v11, rfl, hv, hC⟩
  rw [show lineOf 4 (flp (addR 4 (addR 4 (addR 4 idR 0 1) 1 2) 2 0)) = [0, 1, 2, 3] by decide] at hv
  have HC11 := Lib.hid hC
  have HV11 := Lib.hid (own_ints hv)
  have HL11 := Lib.hid (lit_ints w11 [0, 1, 2, 3] 3 (0, 0) 4)
  clear hv hC
  go_wp2_with fail
  refine (eqInts_any _ _ _ [0, 1, 2, 3] [0, 1, 2, 3] (HV11.out.chg ((Chg.refl _ _).alloc _)) HL11.out (by decide) (by decide)).mono ?_
  rintro e w12 ⟨rfl, hC⟩
  rw [show decide ([0, 1, 2, 3] = [0, 1, 2, 3]) = true by decide]
  have HC12 := Lib.hid (((Chg.refl _ w11).alloc _).trans hC)
  clear hC
  go_wp2_with fail
  have HO12 := Lib.hid ((HO10.out.chg HC11.out (fun _ _ h => h)).chg HC12.out (fun _ _ h => h))
  have HT12 := Lib.hid ((HT10.out.chg HC11.out (fun h => h)).chg HC12.out (fun h => h))
  refine (add_any HO12.out HT12.out 0 2 z1 z2 z3).mono ?_
  rintro e w13 hp
  obtain ⟨rfl, hO, hC⟩ := hp.to 0 (by decide)
  have HO13 := Lib.hid hO
  have HC13 := Lib.hid hC
  have HT13 := Lib.hid (HT12.out.chg hC (by omega))
  clear hO hC hp
  go_wp2_with fail
  refine (covers_some HO13.out HT13.out).mono ?_
  rintro e w14 ⟨v14, rfl, hv, hC⟩
  rw [show covTo 4 (addR 4 (addR 4 (addR 4 (addR 4 idR 0 1) 1 2) 2 0) 0 2) (flp (addR 4 (addR 4 (addR 4 (addR 4 idR 0 1) 1 2) 2 0) 0 2)) 4 = [(0, 1), (1, 2)] by decide] at hv
  have HC14 := Lib.hid hC
  have HV14 := Lib.hid (own_pairs hv)
  have HL14 := Lib.hid (lit_pairs w14 [(0, 1), (1, 2)] 31 (0, 0) 2)
  clear hv hC
  go_wp2_with fail
  refine (is_any _ _ _ [(0, 1), (1, 2)] [(0, 1), (1, 2)] (HV14.out.chg ((Chg.refl _ _).alloc _)) HL14.out (by decide) (by decide)).mono ?_
  rintro e w15 ⟨rfl, hC⟩
  rw [show decide ([(0, 1), (1, 2)] = [(0, 1), (1, 2)]) = true by decide]
  have HC15 := Lib.hid (((Chg.refl _ w14).alloc _).trans hC)
  clear hC
  go_wp2_with fail
  have HO15 := Lib.hid ((HO13.out.chg HC14.out (fun _ _ h => h)).chg HC15.out (fun _ _ h => h))
  have HT15 := Lib.hid ((HT13.out.chg HC14.out (fun h => h)).chg HC15.out (fun h => h))
  refine (add_any HO15.out HT15.out 3 0 z1 z2 z3).mono ?_
  rintro e w16 hp
  obtain ⟨rfl, hO, hC⟩ := hp.to 0 (by decide)
  have HO16 := Lib.hid hO
  have HC16 := Lib.hid hC
  have HT16 := Lib.hid (HT15.out.chg hC (by omega))
  clear hO hC hp
  go_wp2_with fail
  refine (line_some HO16.out HT16.out (PO.hasMin ((((((PO.id 4).add 0 1).add 1 2).add 2 0).add 0 2).add 3 0))).mono ?_
  rintro e w17 ⟨v17, rfl, hv, hC⟩
  rw [show lineOf 4 (flp (addR 4 (addR 4 (addR 4 (addR 4 (addR 4 idR 0 1) 1 2) 2 0) 0 2) 3 0)) = [3, 0, 1, 2] by decide] at hv
  have HC17 := Lib.hid hC
  have HV17 := Lib.hid (own_ints hv)
  have HL17 := Lib.hid (lit_ints w17 [3, 0, 1, 2] 3 (0, 0) 4)
  clear hv hC
  go_wp2_with fail
  refine (eqInts_any _ _ _ [3, 0, 1, 2] [3, 0, 1, 2] (HV17.out.chg ((Chg.refl _ _).alloc _)) HL17.out (by decide) (by decide)).mono ?_
  rintro e w18 ⟨rfl, hC⟩
  rw [show decide ([3, 0, 1, 2] = [3, 0, 1, 2]) = true by decide]
  have HC18 := Lib.hid (((Chg.refl _ w17).alloc _).trans hC)
  clear hC
  go_wp2
  go_ret
  exact ⟨rfl, (((((((((((((((((HC1.out.trans' HC2.out (fun i hi h => by omega)).trans' HC3.out (fun i hi h => by omega)).trans' HC4.out (fun i hi h => by omega)).trans HC5.out).trans HC6.out).trans HC7.out).trans HC8.out).trans HC9.out).trans HC10.out).trans HC11.out).trans HC12.out).trans' HC13.out (fun i hi h => by omega)).trans HC14.out).trans HC15.out).trans' HC16.out (fun i hi h => by omega)).trans HC17.out).trans HC18.out)⟩
end Go.Proofs.YtkonpkejddcegaaDoor
