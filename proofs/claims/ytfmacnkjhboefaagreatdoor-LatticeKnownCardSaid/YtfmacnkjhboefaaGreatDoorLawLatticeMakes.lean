/- LatticeMakes, walked: it returns true at every input. -/
import Derived.Test.YtfmacnkjhboefaaGreatDoorLatSame
namespace Go.Proofs.YtfmacnkjhboefaaGreatDoor
set_option linter.unusedVariables false
set_option linter.unusedSimpArgs false
open Go Go.RowKit Go.Proofs Go.Shelf Go.Sort
theorem mn2 (k k' : IntKind) (x y : Int) : Builtin.min2 (.int k x) (.int k' y) = pure (.int k (if y < x then y else x)) := by simp only [Builtin.min2, gt_iff_lt]
theorem mns (ats : Array TypeId) (ty : TypeId) (a b : Value) : Builtin.min_ ats ty #[a, b] = (Builtin.min2 a b >>= fun s => pure s) := by simp only [Builtin.min_, List.foldlM_cons, List.foldlM_nil]
attribute [local go_sem] mn2 mns
theorem InStrs.takeN {w : World} {a : Option Addr} {l c : Nat} {N : List (List UInt8)} (h : InStrs w (.slice a l c) N) (m : Nat) (hm : m ≤ N.length) : l = N.length ∧ N.length ≤ c ∧ InStrs w (.slice a m c) (N.take m) := by
  obtain ⟨a', cap, e, hcap, hc⟩ := h
  cases e
  refine ⟨rfl, hcap, a, c, by rw [List.length_take, Nat.min_eq_left hm], by rw [List.length_take]; omega, fun i hi => ?_⟩
  have hi' : i < m := by rw [List.length_take] at hi; omega
  obtain ⟨g, o, ha, h1⟩ := hc i (by omega)
  refine ⟨g, o, ha, ?_⟩
  rw [h1]
  simp [List.getD, List.getElem?_take, hi']
theorem InPairs.takeN {w : World} {a : Option Addr} {l c : Nat} {P : List (Int × Int)} (h : InPairs w (.slice a l c) P) (m : Nat) (hm : m ≤ P.length) : l = P.length ∧ InPairs w (.slice a m c) (P.take m) := by
  obtain ⟨a', cap, e, hc⟩ := h
  cases e
  refine ⟨rfl, a, c, by rw [List.length_take, Nat.min_eq_left hm], fun i hi => ?_⟩
  have hi' : i < m := by rw [List.length_take] at hi; omega
  obtain ⟨g, o, ha, h1, h2⟩ := hc i (by omega)
  have e : (P.take m).getD i (0, 0) = P.getD i (0, 0) := by simp [List.getD, List.getElem?_take, hi']
  rw [e]
  exact ⟨g, o, ha, h1, h2⟩
theorem bs_cat (s t : List UInt8) : bs s ++ bs t = bs (s ++ t) := by
  apply ByteArray.ext
  rw [ByteArray.data_append]
  simp [bs]
theorem makeE_zero {N : List (List UInt8)} {P : List (Int × Int)} (h : makeE N P = 0) : (1 ≤ N.length ∧ N.length ≤ 10) ∧ fineB N = true := by
  unfold makeE at h
  by_cases h1 : 1 ≤ N.length ∧ N.length ≤ 10
  · rw [if_neg (fun x => x h1)] at h
    refine ⟨h1, ?_⟩
    cases hf : fineB N with
    | true => rfl
    | false => rw [if_pos hf] at h; cases h
  · rw [if_pos h1] at h; cases h
theorem fineB_len {N : List (List UInt8)} (h : fineB N = true) {i : Nat} (hi : i < N.length) : (N.getD i []).length ≤ 12 := by
  unfold fineB at h
  have := List.all_eq_true.1 h i (List.mem_range.2 hi)
  rw [Bool.and_eq_true] at this
  exact (name_all _ this.1).2.1
theorem own_shape {W : World} {base : Nat} {v : Value} {n : Nat} {xs : List Value} (h : W.ownsRow base 9 1 v n xs) : ∃ A c, v = .slice A n c ∧ ∀ k, k < n → ∃ g, A = some ⟨g, 0, none⟩ ∧ base ≤ g ∧ g < W.heap.size ∧ ∃ cur, W.heap[g]? = some (.cells cur 9 (0, 0)) ∧ n ≤ cur.size := by
  obtain ⟨h1, h2⟩ := h
  rcases h2 with ⟨rfl, rfl⟩ | ⟨g, cap, cur, rfl, hg, hh, hc, _, hs, _⟩
  · exact ⟨_, _, rfl, fun k hk => by omega⟩
  · exact ⟨_, _, rfl, fun k hk => ⟨g, rfl, hg, lt_of_heap hh, cur, hh, by omega⟩⟩
set_option maxRecDepth 100000 in
set_option maxHeartbeats 32000000 in
theorem latticeMakes_walk (w : World) (vn vp : Value) (N0 : List (List UInt8)) (P0 : List (Int × Int)) (code : Int) (hN0 : InStrs w vn N0) (hP0 : InPairs w vp P0) (hpc : ∀ a l c, vp = .slice a l c → l ≤ c) (hl0 : N0.length ≤ 140737488355328) (hp0 : P0.length ≤ 140737488355328) (hT : TabOk w) :
    Calls Tryz.prog 3 #[vn, vp, .int .i64 code] w fun e w' => e = .returned (.bool true) ∧ Chg (fun _ => False) w w' := by
  obtain ⟨na, nl, nc, rfl⟩ : ∃ a l c, vn = .slice a l c := by obtain ⟨a, c, e, _⟩ := hN0; exact ⟨_, _, _, e⟩
  obtain ⟨pa, pl, pc, rfl⟩ : ∃ a l c, vp = .slice a l c := by obtain ⟨a, c, e, _⟩ := hP0; exact ⟨_, _, _, e⟩
  have hpcap : pl ≤ pc := hpc _ _ _ rfl
  clear hpc
  obtain ⟨en, hncap, hN⟩ := hN0.takeN (min N0.length 12) (Nat.min_le_left _ _)
  obtain ⟨ep, hP⟩ := hP0.takeN (min P0.length 40) (Nat.min_le_left _ _)
  have hNl : (N0.take (min N0.length 12)).length ≤ 12 := by rw [List.length_take]; omega
  have hNe : (N0.take (min N0.length 12)).length = min N0.length 12 := by rw [List.length_take]; omega
  have hPl : (P0.take (min P0.length 40)).length ≤ 40 := by rw [List.length_take]; omega
  subst en ep
  have hm1 : (if (12 : Int) < N0.length then (12 : Int) else N0.length) = ((min N0.length 12 : Nat) : Int) := by
    by_cases h : (12 : Int) < N0.length
    · rw [if_pos h]; omega
    · rw [if_neg h]; omega
  have hm2 : (if (40 : Int) < P0.length then (40 : Int) else P0.length) = ((min P0.length 40 : Nat) : Int) := by
    by_cases h : (40 : Int) < P0.length
    · rw [if_pos h]; omega
    · rw [if_neg h]; omega
  have hc1 : ((min N0.length 12 : Nat) : Int) ≤ nc := by omega
  have hc2 : ((min P0.length 40 : Nat) : Int) ≤ pc := by omega
  have hc3 : min P0.length 40 ≤ pc := by omega
  have hc4 : min N0.length 12 ≤ nc := by omega
  generalize N0.take (min N0.length 12) = N at *
  generalize P0.take (min P0.length 40) = P at *
  generalize hkn : min N0.length 12 = kn at *
  generalize hkp : min P0.length 40 = kp at *
  have htab : 0 < w.heap.size := World.block_lt_of_cell? w _ (hT 0 (by omega))
  have HT := Lib.hid hT
  have HN := Lib.hid hN
  have HP := Lib.hid hP
  have HNL := Lib.hid hNl
  have HPL := Lib.hid hPl
  have HNE := Lib.hid hNe
  clear hN0 hP0 hT hN hP hNl hPl hNe hkn hkp
  go_enter Tryz.func3, Tryz.ntmps3
  go_upto_region 1 with fail
  refine region_lone (fun (_ : World) => True) [] (by kernel_rfl) ?_
  have hSz : (fun (_ : World) => True) w.drew := trivial
  refine take_one 0 hSz rfl (by kernel_rfl) rfl ?_
  apply Exists.intro
  refine And.intro (fun W' hS' => ?y0) (And.intro (fun _ _ _ h => h) ?_)
  case y0 => have _d := hS'; go_simp; rfl
  refine take_one 1 hSz rfl (by kernel_rfl) rfl ?_
  apply Exists.intro
  refine And.intro (fun W' hS' => ?y1) (And.intro (fun _ _ _ h => h) ?_)
  case y1 => have _d := hS'; go_simp; rfl
  refine take_one 2 hSz rfl (by kernel_rfl) rfl ?_
  apply Exists.intro
  refine And.intro (fun W' hS' => ?y2) (And.intro (fun _ _ _ h => h) ?_)
  case y2 => have _d := hS'; go_simp; rfl
  refine take_one 3 hSz rfl (by kernel_rfl) rfl ?_
  apply Exists.intro
  refine And.intro (fun W' hS' => ?y3) (And.intro (fun _ _ _ h => h) ?_)
  case y3 => have _d := hS'; go_simp; rfl
  refine take_one 4 hSz rfl (by kernel_rfl) rfl ?_
  apply Exists.intro
  refine And.intro (fun W' hS' => ?y4) (And.intro (fun _ _ _ h => h) ?_)
  case y4 => have _d := hS'; go_simp; rfl
  refine take_one 5 hSz rfl (by kernel_rfl) rfl ?_
  apply Exists.intro
  refine And.intro (fun W' hS' => ?y5) (And.intro (fun _ _ _ h => h) ?_)
  case y5 => have _d := hS'; go_simp; rfl
  refine take_one 6 hSz rfl (by kernel_rfl) rfl ?_
  apply Exists.intro
  refine And.intro (fun W' hS' => ?y6) (And.intro (fun _ _ _ h => h) ?_)
  case y6 => have _d := hS'; go_simp; rfl
  refine take_one 7 hSz rfl (by kernel_rfl) rfl ?_
  apply Exists.intro
  refine And.intro (fun W' hS' => ?y7) (And.intro (fun _ _ _ h => h) ?_)
  case y7 => have _d := hS'; go_simp; rfl
  try go_simp
  refine take_one 8 hSz rfl (by kernel_rfl) rfl ?_
  apply Exists.intro
  refine And.intro (fun W' hS' => ?y8) (And.intro (fun _ _ _ h => h) ?_)
  case y8 => have _d := hS'; go_simp; rfl
  refine take_one 9 hSz rfl (by kernel_rfl) rfl ?_
  apply Exists.intro
  refine And.intro (fun W' hS' => ?y9) (And.intro (fun _ _ _ h => h) ?_)
  case y9 => have _d := hS'; go_simp; rfl
  refine take_one 10 hSz rfl (by kernel_rfl) rfl ?_
  apply Exists.intro
  refine And.intro (fun W' hS' => ?y10) (And.intro (fun _ _ _ h => h) ?_)
  case y10 => have _d := hS'; go_simp; rfl
  refine take_one 11 hSz rfl (by kernel_rfl) rfl ?_
  apply Exists.intro
  refine And.intro (fun W' hS' => ?y11) (And.intro (fun _ _ _ h => h) ?_)
  case y11 => have _d := hS'; go_simp; rfl
  try go_simp
  refine all_done (by kernel_rfl) ?_ _
  have hC0 := (Chg.refl (fun _ => False) w).drew
  have hN1 := HN.out.chg hC0
  have hP1 := HP.out.chg hC0
  have hT1 := HT.out.chg hC0 (fun x => x)
  have hwz : w.heap.size ≤ w.drew.heap.size := hC0.size
  have HC0 := Lib.hid hC0
  clear HN HP HT hC0 hSz
  generalize w.drew = wd at *
  have hcopy := copyTexts_some hN1 (by have := HNL.out; omega)
  have HN1 := Lib.hid hN1
  have HP1 := Lib.hid hP1
  have HT1 := Lib.hid hT1
  clear hN1 hP1 hT1
  go_upto_region 3 with (first | (go_at_call 5; refine hcopy.mono ?_; rintro e w2 ⟨v2, rfl, hO, hD2⟩; obtain ⟨A, oc, rfl, hOw⟩ := own_shape hO))
  clear hcopy
  have hOS := own_strs hO
  have HO := Lib.hid hOw
  have HD2 := Lib.hid hD2
  clear hO hOw hD2
  have hmk := make_any hOS (HP1.out.chg HD2.out) (by have := HPL.out; omega) (by have := HNL.out; omega) (HT1.out.chg HD2.out (fun x => x))
  have hrf := fun (W : World) (hW : Chg (fun _ => False) wd W) => refmake_any (HN1.out.chg hW) (HP1.out.chg hW) (by have := HPL.out; omega) (by have := HNL.out; omega)
  clear hOS
  rcases Decidable.em (makeE N P = 0) with he | he
  case inr =>
    have hmk' : Calls Tryz.prog 6 #[.slice A N.length oc, .slice pa kp pc] w2 fun e w' => e = .returned (.tuple #[.pointer none, .int .i64 (makeE N P)]) ∧ Chg (fun _ => False) w2 w' :=
      hmk.mono (by rintro e w' ⟨h, hc⟩; exact ⟨(hc.resolve_right (fun x => he x.1)).2, h⟩)
    have hrf' : ∀ W, Chg (fun _ => False) wd W → Calls Tryz.prog 7 #[.slice na kn nc, .slice pa kp pc] W fun e w' => e = .returned (.tuple #[.pointer none, .int .i64 (makeE N P)]) ∧ Chg (fun _ => False) W w' :=
      fun W hW => (hrf W hW).mono (by rintro e w' ⟨h, hc⟩; exact ⟨(hc.resolve_right (fun x => he x.1)).2, h⟩)
    clear hmk hrf
    generalize makeE N P = ev at *
    have hev : (ev != 0) = true := by simpa using he
    go_upto_region 5 with (first
      | (go_at_call 6; refine hmk'.mono ?_; rintro e w3 ⟨rfl, hD3⟩)
      | (go_at_call 7; refine (hrf' _ (HD2.out.trans hD3)).mono ?_; rintro e w4 ⟨rfl, hD4⟩))
    have HD4 := Lib.hid (hD3.trans hD4)
    clear hD3 hD4 hmk' hrf'
    have hs2 : wd.heap.size ≤ w2.heap.size := HD2.out.size
    go_wp2_with fail
    go_loopw [12] (fun i wr => ∃ k : Nat, i = .int .i64 k ∧ k ≤ N.length ∧ Chg (fun b => wd.heap.size ≤ b ∧ b < w2.heap.size) w4 wr ∧ Hid (∀ j, j < N.length → ∃ g, A = some ⟨g, 0, none⟩ ∧ wd.heap.size ≤ g ∧ g < w2.heap.size ∧ ∃ cur, wr.heap[g]? = some (.cells cur 9 (0, 0)) ∧ N.length ≤ cur.size)) (fun i _ => N.length - (intOf i).toNat)
    case atStart => exact ⟨0, rfl, by omega, Chg.refl _ _, Lib.hid (fun j hj => by
      obtain ⟨g, e, g1, g2, cur, hh, hs⟩ := HO.out j hj
      exact ⟨g, e, g1, g2, cur, HD4.out.keep hh (fun x => x), hs⟩)⟩
    case round =>
      obtain ⟨k, rfl, k0, hCl, HW⟩ := hrel
      by_cases hk : k < N.length
      · have hw3 : IntKind.i64.wrap ((k : Int) + 1) = k + 1 := IntWalk.i64_in _ ⟨by have := HNL.out; omega, by have := HNL.out; omega⟩
        obtain ⟨g, rfl, g1, g2, cur, hh, hs⟩ := HW.out k hk
        have z1 := cell_of_heap hh k
        rw [Array.getElem?_eq_getElem (by omega)] at z1
        have z2 := free_of_heap hh k
        have HCl := Lib.hid hCl
        have HH := Lib.hid hh
        clear hCl hh
        go_wp2_with fail
        go_roundw
        case rel => exact ⟨k + 1, by go_num, by omega, HCl.out.setCell (.inl ⟨g1, g2⟩) _, Lib.hid (fun j hj => ⟨g, rfl, g1, g2, _, heap_setCell_cells HH.out _ _, by rw [Array.size_setIfInBounds]; exact hs⟩)⟩
        case measure => simp [intOf]; omega
      · have HCl := Lib.hid hCl
        clear HW hCl
        have hw := works_some wr (((HT1.out.chg HD2.out (fun x => x)).chg HD4.out (fun x => x)).chg HCl.out (fun hS => by omega))
        go_wp2_with (first | (go_at_call 8; refine hw.mono ?_; rintro e w5 ⟨rfl, hD5⟩))
        go_ret
        exact ⟨rfl, ((HC0.out.trans HD2.out).trans HD4.out).trans' (HCl.out.trans hD5.none_to) (fun k hk hS => by omega)⟩
  case inl =>
    have hmk' : Calls Tryz.prog 6 #[.slice A N.length oc, .slice pa kp pc] w2 fun e w' => ∃ la, e = .returned (.tuple #[.pointer (some ⟨la, 0, none⟩), .int .i64 0]) ∧ IsLat w' w2.heap.size la N (makeR N P) ∧ Chg (fun _ => False) w2 w' :=
      hmk.mono (by
        rintro e w' ⟨h, hc⟩
        obtain ⟨_, _, la, h1, h2⟩ := hc.resolve_left (fun x => x.1 he)
        exact ⟨la, h1, h2, h⟩)
    have hrf' : ∀ W, Chg (fun _ => False) wd W → Calls Tryz.prog 7 #[.slice na kn nc, .slice pa kp pc] W fun e w' => ∃ la, e = .returned (.tuple #[.pointer (some ⟨la, 0, none⟩), .int .i64 0]) ∧ IsRef w' W.heap.size la N (makeR N P) ∧ Chg (fun _ => False) W w' :=
      fun W hW => (hrf W hW).mono (by
        rintro e w' ⟨h, hc⟩
        obtain ⟨_, la, h1, h2⟩ := hc.resolve_left (fun x => x.1 he)
        exact ⟨la, h1, h2, h⟩)
    obtain ⟨⟨n1, n10⟩, hfine⟩ := makeE_zero he
    have HF := Lib.hid hfine
    clear hmk hrf he hfine
    generalize makeR N P = R at *
    go_upto_region 5 with (first
      | (go_at_call 6; refine hmk'.mono ?_; rintro e w3 ⟨la, rfl, hL, hD3⟩)
      | (go_at_call 7; refine (hrf' _ (HD2.out.trans hD3)).mono ?_; rintro e w4 ⟨la2, rfl, hR, hD4⟩))
    have HL4 := Lib.hid (hL.same hD4)
    have HR4 := Lib.hid hR
    have hs23 : w2.heap.size ≤ w3.heap.size := hD3.size
    have hs34 : w3.heap.size ≤ w4.heap.size := hD4.size
    have hs2 : wd.heap.size ≤ w2.heap.size := HD2.out.size
    have HD4 := Lib.hid (hD3.trans hD4)
    clear hD3 hD4 hmk' hrf' hL hR
    go_wp2_with fail
    go_loopw [12] (fun i wr => ∃ k : Nat, i = .int .i64 k ∧ k ≤ N.length ∧ Chg (fun b => wd.heap.size ≤ b ∧ b < w2.heap.size) w4 wr ∧ Hid (∀ j, j < N.length → ∃ g, A = some ⟨g, 0, none⟩ ∧ wd.heap.size ≤ g ∧ g < w2.heap.size ∧ ∃ cur, wr.heap[g]? = some (.cells cur 9 (0, 0)) ∧ N.length ≤ cur.size)) (fun i _ => N.length - (intOf i).toNat)
    case atStart => exact ⟨0, rfl, by omega, Chg.refl _ _, Lib.hid (fun j hj => by
      obtain ⟨g, e, g1, g2, cur, hh, hs⟩ := HO.out j hj
      exact ⟨g, e, g1, g2, cur, HD4.out.keep hh (fun x => x), hs⟩)⟩
    case round =>
      obtain ⟨k, rfl, k0, hCl, HW⟩ := hrel
      by_cases hk : k < N.length
      · have hw3 : IntKind.i64.wrap ((k : Int) + 1) = k + 1 := IntWalk.i64_in _ ⟨by have := HNL.out; omega, by have := HNL.out; omega⟩
        obtain ⟨g, rfl, g1, g2, cur, hh, hs⟩ := HW.out k hk
        have z1 := cell_of_heap hh k
        rw [Array.getElem?_eq_getElem (by omega)] at z1
        have z2 := free_of_heap hh k
        have HCl := Lib.hid hCl
        have HH := Lib.hid hh
        clear hCl hh
        go_wp2_with fail
        go_roundw
        case rel => exact ⟨k + 1, by go_num, by omega, HCl.out.setCell (.inl ⟨g1, g2⟩) _, Lib.hid (fun j hj => ⟨g, rfl, g1, g2, _, heap_setCell_cells HH.out _ _, by rw [Array.size_setIfInBounds]; exact hs⟩)⟩
        case measure => simp [intOf]; omega
      · have HCl := Lib.hid hCl
        clear HW hCl
        have hLr := HL4.out.chg HCl.out (fun k hk hS => by omega)
        have hRr := HR4.out.chg HCl.out (fun k hk hS => by omega)
        have hNr := HN1.out.below ((HD2.out.trans HD4.out).none_to.trans HCl.out) (fun k hk hS => by omega)
        have hTr := ((HT1.out.chg HD2.out (fun x => x)).chg HD4.out (fun x => x)).chg HCl.out (fun hS => by omega)
        have HC := Lib.hid (((HC0.out.trans HD2.out).trans HD4.out).trans' HCl.out (fun k hk hS => by omega))
        clear HL4 HR4 HCl HN1 HD2 HD4 HC0 HP1 HT1 HO hs23 hs34 hs2 HPL
        obtain ⟨na', nc', ena, hncap', hnr⟩ := hNr
        cases ena
        have HNR := Lib.hid hnr
        have HLR := Lib.hid hLr
        have HRR := Lib.hid hRr
        have HTR := Lib.hid hTr
        clear hnr hLr hRr hTr hm1 hm2 hc1 hc2 hc3 hc4 HNE hncap hpcap hncap' htab hwz hl0 hp0
        go_wp2_with fail
        go_loop [13] (fun i => ∃ k : Nat, i = .int .i64 k ∧ k ≤ N.length) (fun i => N.length - (intOf i).toNat)
        case atStart => exact ⟨0, rfl, by omega⟩
        case round =>
          obtain ⟨k, rfl, k0⟩ := hrel
          by_cases hk : k < N.length
          · have hw3 : IntKind.i64.wrap ((k : Int) + 1) = k + 1 := IntWalk.i64_in _ ⟨by omega, by omega⟩
            obtain ⟨g, o, rfl, z1⟩ := HNR.out k hk
            have hln := fineB_len HF.out hk
            have f1 := lFind HLR.out n10 (N.getD k [])
            have f2 := HRR.out.find (N.getD k [])
            have f3 := lFind HLR.out n10 (N.getD k [] ++ [120])
            have f4 := HRR.out.find (N.getD k [] ++ [120])
            rw [← bs_cat] at f3 f4
            unfold latp at f1 f3
            unfold refp at f2 f4
            have hbz : (bs (N.getD k [])).size ≤ 12 := hln
            have hbz1 : (9223372036854775807 < (bs (N.getD k [])).size + 1) = False := eq_false (by omega)
            generalize findL N (N.getD k []) = q1 at *
            generalize findL N (N.getD k [] ++ [120]) = q2 at *
            generalize bs (N.getD k []) = u at *
            generalize max q1 0 = r1 at *
            generalize decide (0 ≤ q1) = r2 at *
            generalize max q2 0 = r3 at *
            generalize decide (0 ≤ q2) = r4 at *
            clear hln
            have F1 := Lib.hid f1
            have F2 := Lib.hid f2
            have F3 := Lib.hid f3
            have F4 := Lib.hid f4
            clear f1 f2 f3 f4
            go_upto_region 17 with (go_at_call 9; refine F1.out.mono ?_; rintro e w5 ⟨rfl, rfl⟩)
            go_upto_region 18 with (go_at_call 10; refine F2.out.mono ?_; rintro e w5 ⟨rfl, rfl⟩)
            go_upto_region 19 with (go_at_call 9; refine F3.out.mono ?_; rintro e w5 ⟨rfl, rfl⟩)
            go_upto_region 20 with (go_at_call 10; refine F4.out.mono ?_; rintro e w5 ⟨rfl, rfl⟩)
            go_wp2_with fail
            go_round
            case rel => exact ⟨k + 1, by go_num, by omega⟩
            case measure => simp [intOf]; omega
          · have hd1 := lDecodeA HLR.out HTR.out n10 code
            have hd2 := fun (W : World) (hW : Chg (fun _ => False) wr W) => rDecode (HRR.out.same hW) code
            have hsm := fun (W : World) (hW : Chg (fun _ => False) wr W) => same_some (HLR.out.same hW) (HRR.out.same hW) (HTR.out.chg hW (fun x => x))
            have hwk := fun (W : World) (hW : Chg (fun _ => False) wr W) => works_some W (HTR.out.chg hW (fun x => x))
            unfold latp at hd1 hsm
            unfold refp at hd2 hsm
            generalize lDecA N.length R code = d1 at *
            generalize lDecE N.length R code = d2 at *
            have HD1 := Lib.hid hd1
            have HD2 := Lib.hid hd2
            have HSM := Lib.hid hsm
            have HWK := Lib.hid hwk
            clear hd1 hd2 hsm hwk HLR HRR HTR HNR
            go_upto_region 23 with (go_at_call 11; refine HD1.out.mono ?_; rintro e w5 ⟨rfl, hE1⟩)
            go_upto_region 24 with (go_at_call 12; refine (HD2.out _ hE1).mono ?_; rintro e w6 ⟨rfl, hE2⟩)
            have HE := Lib.hid (hE1.trans hE2)
            clear hE1 hE2
            go_wp2_with (first
              | (go_at_call 13; refine (HSM.out _ HE.out).mono ?_; rintro e w7 ⟨rfl, hE3⟩)
              | (go_at_call 8; refine (HWK.out _ (HE.out.trans hE3)).mono ?_; rintro e w8 ⟨rfl, hE4⟩))
            go_ret
            exact ⟨rfl, HC.out.trans ((HE.out.trans hE3).trans hE4)⟩
end Go.Proofs.YtfmacnkjhboefaaGreatDoor
