/- The chapter's lattice (works). -/
import Derived.Test.YtfmacnkjhboefaaGreatDoorLatLaw1
namespace Go.Proofs.YtfmacnkjhboefaaGreatDoor
set_option linter.unusedVariables false
set_option linter.unusedSimpArgs false
open Go Go.RowKit Go.Proofs Go.Shelf Go.Sort
theorem Agree.flp {n : Nat} {R P : Nat → Nat → Bool} (h : Agree n R P) : Agree n (flp R) (flp P) := fun i j hi hj => h j i hj hi
theorem atM_congr {n : Nat} {R P : Nat → Nat → Bool} (h : Agree n R P) (x y : Int) : atM n R x y = atM n P x y := by
  unfold atM
  by_cases h1 : 0 ≤ x ∧ x < n
  · by_cases h2 : 0 ≤ y ∧ y < n
    · rw [h x.toNat y.toNat (by omega) (by omega)]
    · rw [decide_eq_false h2]; simp
  · rw [decide_eq_false h1]; simp
theorem els_congr {n : Nat} {p q : Nat → Bool} (h : ∀ j, j < n → p j = q j) : els n p = els n q := by
  unfold els
  exact List.filter_congr fun x hx => h x (List.mem_range.1 hx)
theorem lastF_congr {n : Nat} {R P : Nat → Nat → Bool} (h : Agree n R P) (x0 : Int) : ∀ k, k ≤ n → lastF n R x0 k = lastF n P x0 k
  | 0, _ => rfl
  | k + 1, hk => by
    rw [lastF_succ, lastF_succ, lastF_congr h x0 k (by omega), els_congr (h k · (by omega))]
theorem lJoin_congr {n : Nat} {R P : Nat → Nat → Bool} (h : Agree n R P) (x y : Int) : lJoin n R x y = lJoin n P x y := by
  unfold lJoin
  by_cases h1 : inB n x ∧ inB n y
  · rw [if_pos h1, if_pos h1]; exact joinD_congr h (by have := h1.1; unfold inB at this; omega) (by have := h1.2; unfold inB at this; omega)
  · rw [if_neg h1, if_neg h1]; exact lastF_congr h.flp 0 n (Nat.le_refl _)
theorem lMeet_congr {n : Nat} {R P : Nat → Nat → Bool} (h : Agree n R P) (x y : Int) : lMeet n R x y = lMeet n P x y := by
  unfold lMeet
  by_cases h1 : inB n x ∧ inB n y
  · rw [if_pos h1, if_pos h1]; exact meetD_congr h (by have := h1.1; unfold inB at this; omega) (by have := h1.2; unfold inB at this; omega)
  · rw [if_neg h1, if_neg h1]; exact lastF_congr h 0 n (Nat.le_refl _)
theorem lCode_congr {n : Nat} {R P : Nat → Nat → Bool} (h : Agree n R P) (x : Int) : lCode n R x = lCode n P x := by
  unfold lCode
  by_cases h1 : inB n x
  · rw [if_pos h1, if_pos h1, msk_congr n _ _ (fun j hj => h.flp x.toNat j (by unfold inB at h1; omega) hj)]
  · rw [if_neg h1, if_neg h1]
theorem lDec_congr {n : Nat} {R P : Nat → Nat → Bool} (h : Agree n R P) (c : Int) : lDec n R c = lDec n P c := by
  unfold lDec
  have : (List.range n).find? (fun (a : Nat) => lCode n R (a : Int) == c) = (List.range n).find? (fun (a : Nat) => lCode n P (a : Int) == c) := find_congr fun a _ => by rw [lCode_congr h]
  rw [this]
def N4 : List (List UInt8) := [[108, 111, 119], [97], [98], [104, 105, 103, 104]]
def P4 : List (Nat × Nat) := [(0, 1), (0, 2), (1, 3), (2, 3)]
def L4 : List Nat := [15, 10, 12, 8]
theorem rows4 : addAllL P4 (idL 4) = some L4 := by decide +kernel
theorem agree4 : Agree 4 (makeR N4 (toP P4)) (rowR L4) := makeR_eval (N := N4) (by decide) rows4
theorem made4 : makeE N4 (toP P4) = 0 := by
  rw [makeE_eval (by decide) (by decide +kernel) (by decide)]
  decide +kernel
structure Facts4 (N : List (List UInt8)) (R : Nat → Nat → Bool) : Prop where
  len : N.length = 4
  leq1 : atM N.length R 1 2 = false
  leq2 : atM N.length R 0 3 = true
  join1 : lJoin N.length R 1 2 = 3
  meet1 : lMeet N.length R 1 2 = 0
  join2 : lJoin N.length R 1 9 = 3
  low : lastF N.length R 0 N.length = 0
  high : lastF N.length (flp R) 0 N.length = 3
  name : lName N 2 = [98]
  find1 : findL N [98] = 2
  find2 : findL N [99] = -1
  code1 : lCode N.length R 1 = 3
  code2 : lCode N.length R 3 = 15
  dec1 : lDecA N.length R 5 = 2
  dec2 : lDecE N.length R 5 = 0
  dec3 : lDecA N.length R 6 = 0
  dec4 : lDecE N.length R 6 = 4
theorem facts4 : Facts4 N4 (makeR N4 (toP P4)) := by
  have h := agree4
  have e : N4.length = 4 := rfl
  refine ⟨rfl, ?_, ?_, ?_, ?_, ?_, ?_, ?_, by decide +kernel, by decide +kernel, by decide +kernel, ?_, ?_, ?_, ?_, ?_, ?_⟩ <;> rw [e]
  · rw [atM_congr h]; decide +kernel
  · rw [atM_congr h]; decide +kernel
  · rw [lJoin_congr h]; decide +kernel
  · rw [lMeet_congr h]; decide +kernel
  · rw [lJoin_congr h]; decide +kernel
  · rw [lastF_congr h 0 4 (by omega)]; decide +kernel
  · rw [lastF_congr h.flp 0 4 (by omega)]; decide +kernel
  · rw [lCode_congr h]; decide +kernel
  · rw [lCode_congr h]; decide +kernel
  · unfold lDecA; rw [lDec_congr h]; decide +kernel
  · unfold lDecE; rw [lDec_congr h]; decide +kernel
  · unfold lDecA; rw [lDec_congr h]; decide +kernel
  · unfold lDecE; rw [lDec_congr h]; decide +kernel
abbrev lit2 (a b : ByteArray) : Obj := .cells #[.string a, .string b] 9 (0, 0)
theorem fails_lit {w W : World} (hT : TabOk w) (hC : Chg (fun _ => False) w W) (a b : List UInt8) (P : List (Nat × Nat)) (want : Int) (hw : want ≠ 0) (he : makeE [a, b] (toP P) = want) {vp : Value} {W2 : World} (hW : Chg (fun _ => False) (W.alloc (.cells #[.string (bs a), .string (bs b)] 9)) W2) (hP : InPairs W2 vp (toP P)) (hl : P.length ≤ 1000) :
    Calls Tryz.prog 38 #[.slice (some ⟨W.heap.size, 0, none⟩) 2 2, vp, .int .i64 want] W2 fun e w' => e = .returned (.bool true) ∧ Chg (fun _ => False) w w' := by
  have hN : InStrs W2 (.slice (some ⟨W.heap.size, 0, none⟩) 2 2) [a, b] := (lit_strs W [a, b] 9 (0, 0) 2 (by simp)).chg hW
  refine (fails_any hN hP (by simp [toP]; omega) (by simp) (hT.chg ((hC.alloc _).trans hW) (fun x => x)) want hw).mono ?_
  rintro e w' ⟨rfl, hC'⟩
  rw [he]
  exact ⟨by simp, ((hC.alloc _).trans hW).trans hC'⟩
set_option maxRecDepth 100000 in
set_option maxHeartbeats 16000000 in
theorem works_some (w : World) (hT : TabOk w) : Calls Tryz.prog 8 #[] w fun e w' => e = .returned (.bool true) ∧ Chg (fun _ => False) w w' := by
  have hmk : Calls Tryz.prog 6 #[.slice (some ⟨w.heap.size, 0, none⟩) 4 4, .slice (some ⟨w.heap.size + 1, 0, none⟩) 4 4]
      ((w.alloc (.cells #[.string ⟨#[108, 111, 119]⟩, .string ⟨#[97]⟩, .string ⟨#[98]⟩, .string ⟨#[104, 105, 103, 104]⟩] 9)).alloc (.cells #[.int .i64 0, .int .i64 1, .int .i64 0, .int .i64 2, .int .i64 1, .int .i64 3, .int .i64 2, .int .i64 3] 41))
      fun e w1 => ∃ la base N R, e = .returned (.tuple #[.pointer (some ⟨la, 0, none⟩), .int .i64 0]) ∧ IsLat w1 base la N R ∧ Facts4 N R ∧ Chg (fun _ => False) w w1 := by
    have c1 := (Chg.refl (fun _ => False) w).alloc (.cells #[.string ⟨#[108, 111, 119]⟩, .string ⟨#[97]⟩, .string ⟨#[98]⟩, .string ⟨#[104, 105, 103, 104]⟩] 9)
    have c2 := c1.alloc (.cells #[.int .i64 0, .int .i64 1, .int .i64 0, .int .i64 2, .int .i64 1, .int .i64 3, .int .i64 2, .int .i64 3] 41)
    have hN : InStrs _ (.slice (some ⟨w.heap.size, 0, none⟩) 4 4) N4 := (lit_strs w N4 9 (0, 0) 4 (by decide)).chg ((Chg.refl (fun _ => False) _).alloc (.cells #[.int .i64 0, .int .i64 1, .int .i64 0, .int .i64 2, .int .i64 1, .int .i64 3, .int .i64 2, .int .i64 3] 41))
    have hP := lit_pairs (w.alloc (.cells #[.string ⟨#[108, 111, 119]⟩, .string ⟨#[97]⟩, .string ⟨#[98]⟩, .string ⟨#[104, 105, 103, 104]⟩] 9)) P4 41 (0, 0) 4
    rw [World.size_alloc] at hP
    refine (make_any hN hP (by decide) (by decide) (hT.chg c2 (fun x => x))).mono ?_
    rintro e w1 ⟨hC, ⟨h1, _⟩ | ⟨_, _, la, rfl, hL⟩⟩
    · exact absurd made4 h1
    · exact ⟨la, _, _, _, rfl, hL, facts4, c2.trans hC⟩
  have hf1 := fun (W : World) (hW : Chg (fun _ => False) w W) => fails_lit hT hW [97] [98] [] 30 (by decide) (by rw [makeE_eval (by decide) (by decide +kernel) (by decide)]; decide +kernel) (Chg.refl _ _) (nil_pairs _) (by decide)
  have hf2 := fun (W : World) (hW : Chg (fun _ => False) w W) => fails_lit hT hW [97] [97] [] 31 (by decide) (by unfold makeE; rw [if_neg (by decide), if_pos (by decide +kernel)]) (Chg.refl _ _) (nil_pairs _) (by decide)
  have hf3 := fun (W : World) (hW : Chg (fun _ => False) w W) => fails_lit hT hW [97] [98] [(0, 1), (1, 0)] 20 (by decide) (by rw [makeE_eval (by decide) (by decide +kernel) (by decide)]; decide +kernel) ((Chg.refl _ _).alloc _) (lit_pairs (W.alloc (.cells #[.string (bs [97]), .string (bs [98])] 9)) [(0, 1), (1, 0)] 41 (0, 0) 2) (by decide)
  simp only [World.size_alloc] at hf3
  have HT := Lib.hid hT
  clear hT
  go_enter Tryz.func8, Tryz.ntmps8
  go_upto_region 2 with (first | (go_at_call 6; refine hmk.mono ?_; rintro e w1 ⟨la, base, N, R, rfl, hL, hF, hC1⟩))
  have hle := fun x y => lLeq hL x y
  have hjo := fun x y => lJoinA hL (by rw [hF.len]; decide) x y
  have hme := fun x y => lMeetA hL (by rw [hF.len]; decide) x y
  have hlo := lLow hL
  have hhi := lHigh hL
  have hna := lNameA hL 2
  have hfi := fun s => lFind hL (by rw [hF.len]; decide) s
  rw [hF.low] at hlo
  rw [hF.high] at hhi
  rw [hF.name] at hna
  have f1 := hF.leq1
  have f2 := hF.leq2
  have f3 := hF.join1
  have f4 := hF.meet1
  have f5 := hF.join2
  have f6 := hF.find1
  have f7 := hF.find2
  have HF := Lib.hid hF
  have HL := Lib.hid hL
  clear hF hL
  unfold latp at *
  have HFI := Lib.hid hfi
  have hfa := hfi [98]
  have hfb := hfi [99]
  rw [f6] at hfa
  rw [f7] at hfb
  clear hfi
  rw [show max (2 : Int) 0 = 2 from rfl] at hfa
  rw [show max (-1 : Int) 0 = 0 from rfl] at hfb
  have hs98 : (bs [98]).toList = [98] := by rw [ByteArray.toList_eq]; rfl
  have t1 : True := trivial
  have t2 : True := trivial
  have hd5 := fun (W : World) (hW : Chg (fun _ => False) w1 W) => lDecodeA (HL.out.same hW) (HT.out.chg (hC1.trans hW) (fun x => x)) (by rw [HF.out.len]; decide) 5
  have hd6 := fun (W : World) (hW : Chg (fun _ => False) w1 W) => lDecodeA (HL.out.same hW) (HT.out.chg (hC1.trans hW) (fun x => x)) (by rw [HF.out.len]; decide) 6
  have hco1 := fun (W : World) (hW : Chg (fun _ => False) w1 W) => lCodeA (HL.out.same hW) (HT.out.chg (hC1.trans hW) (fun x => x)) (by rw [HF.out.len]; decide) 1
  have hco3 := fun (W : World) (hW : Chg (fun _ => False) w1 W) => lCodeA (HL.out.same hW) (HT.out.chg (hC1.trans hW) (fun x => x)) (by rw [HF.out.len]; decide) 3
  rw [HF.out.dec1, HF.out.dec2] at hd5
  rw [HF.out.dec3, HF.out.dec4] at hd6
  rw [HF.out.code1] at hco1
  rw [HF.out.code2] at hco3
  unfold latp at *
  go_upto_region 6 with (first
    | (go_at_call 20; refine (hle _ _).mono ?_; rintro e w1 ⟨rfl, rfl⟩)
    | (go_at_call 18; refine (hjo _ _).mono ?_; rintro e w1 ⟨rfl, rfl⟩)
    | (go_at_call 21; refine (hme _ _).mono ?_; rintro e w1 ⟨rfl, rfl⟩)
    | (go_at_call 16; refine hlo.mono ?_; rintro e w1 ⟨rfl, rfl⟩)
    | (go_at_call 17; refine hhi.mono ?_; rintro e w1 ⟨rfl, rfl⟩)
    | (go_at_call 23; refine hna.mono ?_; rintro e w1 ⟨rfl, rfl⟩)
    | (go_at_call 9; have _t := t1; clear _t t1; refine hfa.mono ?_; rintro e w1 ⟨rfl, rfl⟩)
    | (go_at_call 9; have _t := t2; clear _t t2; refine hfb.mono ?_; rintro e w1 ⟨rfl, rfl⟩))
  clear hle hjo hme hlo hhi hna hfa hfb f1 f2 f3 f4 f5 f6 f7
  have t1 : True := trivial
  have t2 : True := trivial
  have t3 : True := trivial
  have t4 : True := trivial
  go_upto_region 9 with (first
    | (go_at_call 11; have _t := t1; clear _t t1; refine (hd5 _ (Chg.refl _ _)).mono ?_; rintro e w2 ⟨rfl, hC2⟩)
    | (go_at_call 11; have _t := t2; clear _t t2; refine (hd6 _ hC2).mono ?_; rintro e w3 ⟨rfl, hC3⟩)
    | (go_at_call 19; have _t := t3; clear _t t3; refine (hco1 _ (hC2.trans hC3)).mono ?_; rintro e w4 ⟨rfl, hC4⟩)
    | (go_at_call 19; have _t := t4; clear _t t4; refine (hco3 _ ((hC2.trans hC3).trans hC4)).mono ?_; rintro e w5 ⟨rfl, hC5⟩))
  have hC0 := (((hC1.trans hC2).trans hC3).trans hC4).trans hC5
  clear hC1 hC2 hC3 hC4 hC5 hd5 hd6 hco1 hco3
  have t1 : True := trivial
  have t2 : True := trivial
  have t3 : True := trivial
  go_wp2_with (first
    | (go_at_call 38; have _t := t1; clear _t t1; refine (hf1 _ hC0).mono ?_; rintro e w2 ⟨rfl, hC2⟩)
    | (go_at_call 38; have _t := t2; clear _t t2; refine (hf2 _ hC2).mono ?_; rintro e w3 ⟨rfl, hC3⟩)
    | (go_at_call 38; have _t := t3; clear _t t3; refine (hf3 _ hC3).mono ?_; rintro e w4 ⟨rfl, hC4⟩))
  go_ret
  exact ⟨rfl, hC4⟩
end Go.Proofs.YtfmacnkjhboefaaGreatDoor
