/- The document's Make. -/
import Derived.Test.YtfmacnkjhboefaaGreatDoorRefFine
import Derived.Test.YtfmacnkjhboefaaGreatDoorRefTab
import Derived.Laws.AppendOwnNone
namespace Go.Proofs.YtfmacnkjhboefaaGreatDoor
set_option linter.unusedVariables false
set_option linter.unusedSimpArgs false
open Go Go.RowKit Go.Proofs Go.Shelf Go.Sort
theorem strV_one {N : List (List UInt8)} : ∀ u ∈ strV N, u.oneCell' = true := by
  intro u hu
  unfold strV at hu
  obtain ⟨s, _, rfl⟩ := List.mem_map.1 hu
  rfl
theorem copyTexts_some {w : World} {v : Value} {N : List (List UInt8)} (hN : InStrs w v N) (hl : N.length ≤ 1000) :
    Calls Tryz.prog 5 #[v] w fun e w' => ∃ v', e = .returned v' ∧ w'.ownsRow w.heap.size 9 1 v' N.length (strV N) ∧ Chg (fun _ => False) w w' := by
  obtain ⟨i0, hi, hz0, hz1, hz2⟩ := info_parts infoStr
  obtain ⟨a, cap, rfl, hcap, hc⟩ := hN
  have HC := Lib.hid hc
  have HL := Lib.hid (show (strV N).length = N.length * 1 by simp [strV])
  clear hc
  cases a with
  | none =>
    have h0 : N = [] := by
      cases N with
      | nil => rfl
      | cons s t =>
        obtain ⟨g, o, e, _⟩ := HC.out 0 (by simp)
        cases e
    subst h0
    go_enter Tryz.func5, Tryz.ntmps5
    go_wp2_with fail
    go_ret
    exact ⟨_, rfl, World.ownsRow_nil _ _ _ _, Chg.refl _ _⟩
  | some x =>
    go_enter Tryz.func5, Tryz.ntmps5
    go_wp2_with (at_builtin; refine wpList_append_own_at _ rfl _ _ 22 rfl w.heap.size 9 i0 (.string ByteArray.empty) 1 16 Tryz.underlying22 hi hz0 hz1 hz2 rfl (by decide) (.slice none 0 0) 0 [] rfl (World.ownsRow_nil _ _ _ _) x N.length cap (strV N) rfl HL.out ?c1 strV_one ?c3 ?c4 ?c5 ?_)
    case c1 =>
      intro j u hj
      have hjl : j < N.length := by
        have := (List.getElem?_eq_some_iff.1 hj).1
        rw [HL.out] at this
        omega
      obtain ⟨g, o, e, h⟩ := HC.out j hjl
      cases e
      have h2 : (strV N)[j]? = some (.string (bs (N.getD j []))) := by simp [strV, List.getD, hjl]
      rw [h2] at hj
      cases hj
      rw [WideShapes.add_plain]
      exact h
    case c3 => unfold maxLen; omega
    case c4 => omega
    case c5 => exact Nat.le_refl _
    intro v' w1 hown' hgrow hnil hat
    have hC : Chg (fun _ => False) w w1 := (Chg.refl _ _).grown hgrow (fun j e => by cases e)
    have HN := Lib.hid hown'
    obtain ⟨A1, l1, c1, rfl⟩ := own_slice hown'
    clear hown' hgrow hnil hat
    go_wp2_with fail
    go_ret
    exact ⟨_, rfl, by simpa using HN.out, hC⟩
--MAKE
theorem rzero_rest : Tryz.zeroCells87.toList.drop 2 = List.replicate 100 (.bool false) ++ List.replicate 200 (.int .i64 0) := by kernel_rfl
theorem rzero_size : Tryz.zeroCells87.size = 302 := by kernel_rfl
theorem split_at {z : Array Value} {a b : Value} {n m : Nat} (hz : z.toList.drop 2 = List.replicate n a ++ List.replicate m b) : (∀ i, i < n → z[2 + i]? = some a) ∧ ∀ i, i < m → z[2 + n + i]? = some b := by
  refine ⟨fun i hi => ?_, fun i hi => ?_⟩
  · have h1 : (z.toList.drop 2)[i]? = some a := by
      rw [hz, List.getElem?_append_left (by simpa using hi), List.getElem?_replicate, if_pos hi]
    rwa [List.getElem?_drop, Array.getElem?_toList] at h1
  · have h1 : (z.toList.drop 2)[n + i]? = some b := by
      rw [hz, List.getElem?_append_right (by simp), List.length_replicate, Nat.add_sub_cancel_left, List.getElem?_replicate, if_pos hi]
    rw [List.getElem?_drop, Array.getElem?_toList] at h1
    rwa [← Nat.add_assoc] at h1
theorem refc_new (w : World) (nv : Value) (bo : Nat) : RefC (w.alloc (.cells ((Tryz.zeroCells87.setIfInBounds 0 nv).setIfInBounds 1 (refp bo)) 87)) w.heap.size nv bo (fun _ _ => false) (fun _ _ => 0) (fun _ _ => 0) := by
  have hz := rzero_size
  obtain ⟨h1, h2⟩ := split_at rzero_rest
  refine ⟨⟨_, heap_new w _⟩, ?_, ?_, fun j v hv => ?_, fun j v hv => ?_, fun j v hv => ?_⟩
  · rw [cell_of_heap (heap_new w _), Array.getElem?_setIfInBounds_ne (by omega), Array.getElem?_setIfInBounds_self, if_pos (by omega)]
  · rw [cell_of_heap (heap_new w _), Array.getElem?_setIfInBounds_self, if_pos (by rw [Array.size_setIfInBounds]; omega)]
  · have hj : j < 100 := by
      have := (List.getElem?_eq_some_iff.1 hv).1
      rw [Array.length_toList, bl_size] at this; exact this
    rw [Array.getElem?_toList, bl_at _ j hj] at hv
    rw [cell_of_heap (heap_new w _), Array.getElem?_setIfInBounds_ne (by omega), Array.getElem?_setIfInBounds_ne (by omega), h1 j hj]
    exact hv
  · have hj : j < 100 := by
      have := (List.getElem?_eq_some_iff.1 hv).1
      rw [Array.length_toList, il_size] at this; exact this
    rw [Array.getElem?_toList, il_at _ j hj] at hv
    rw [cell_of_heap (heap_new w _), Array.getElem?_setIfInBounds_ne (by omega), Array.getElem?_setIfInBounds_ne (by omega), show 102 + j = 2 + 100 + j by omega, h2 j (by omega)]
    exact hv
  · have hj : j < 100 := by
      have := (List.getElem?_eq_some_iff.1 hv).1
      rw [Array.length_toList, il_size] at this; exact this
    rw [Array.getElem?_toList, il_at _ j hj] at hv
    rw [cell_of_heap (heap_new w _), Array.getElem?_setIfInBounds_ne (by omega), Array.getElem?_setIfInBounds_ne (by omega), show 202 + j = 2 + 100 + (100 + j) by omega, h2 (100 + j) (by omega)]
    exact hv
/-- the document's lattice, when it stands -/
def IsRef (w : World) (base la : Nat) (N : List (List UInt8)) (R : Nat → Nat → Bool) : Prop :=
  ∃ bo bs' Pd g cap, (base ≤ la ∧ base ≤ bo ∧ base ≤ bs' ∧ base ≤ g) ∧ RefO w bo bs' N.length Pd ∧ Least N.length (fun i j => (i, j) ∈ Pd) R ∧
    RefC w la (.slice (some ⟨g, 0, none⟩) N.length cap) bo (tabB N.length R N.length 0) (tabJ N.length (joinD N.length R) (fun _ _ => 0) N.length 0) (tabJ N.length (meetD N.length R) (fun _ _ => 0) N.length 0) ∧
    (∀ i, i < N.length → w.cell? ⟨g, i, none⟩ = some (.string (bs (N.getD i []))))
def RefMakePost (w : World) (N : List (List UInt8)) (P : List (Int × Int)) (e : Ending) (w' : World) : Prop :=
  Chg (fun _ => False) w w' ∧ ((makeE N P ≠ 0 ∧ e = .returned (.tuple #[.pointer none, .int .i64 (makeE N P)])) ∨
    (makeE N P = 0 ∧ ∃ la, e = .returned (.tuple #[.pointer (some ⟨la, 0, none⟩), .int .i64 0]) ∧ IsRef w' w.heap.size la N (makeR N P)))
theorem Chg.none_to {S : Nat → Prop} {w w' : World} (h : Chg (fun _ => False) w w') : Chg S w w' := h.mono (fun _ _ e => e.elim)
set_option maxRecDepth 100000 in
set_option maxHeartbeats 16000000 in
theorem refmake_any {w : World} {vn vp : Value} {N : List (List UInt8)} {P : List (Int × Int)} (hN : InStrs w vn N) (hP : InPairs w vp P) (hl : P.length ≤ 900) (hn : N.length ≤ 1000) :
    Calls Tryz.prog 7 #[vn, vp] w (RefMakePost w N P) := by
  have hfine := reffine_some hN hn
  have HN := Lib.hid hN
  have HP := Lib.hid hP
  obtain ⟨na, nc, rfl, hcap, _⟩ := hN
  obtain ⟨pa, pc, rfl, _⟩ := hP
  go_enter Tryz.func7, Tryz.ntmps7
  by_cases hlen : 1 ≤ N.length ∧ N.length ≤ 10
  · obtain ⟨hl1, hl10⟩ := hlen
    obtain ⟨rf, hrf⟩ : ∃ rf, fineB N = rf := ⟨_, rfl⟩
    rw [hrf] at hfine
    have HF := Lib.hid hrf
    clear hrf
    cases rf with
    | false =>
      have hm : makeE N P = 31 := by
        unfold makeE
        rw [if_neg (by omega), if_pos HF.out]
      have HM := Lib.hid hm
      clear hm
      go_wp2_with (first | (go_at_call 33; refine hfine.mono ?_; rintro e w2 ⟨rfl, hC2⟩))
      go_ret2
      exact ⟨hC2, .inl ⟨by rw [HM.out]; decide, by rw [HM.out]; rfl⟩⟩
    | true =>
      have hnew := fun W => refonew_some N.length ⟨hl1, hl10⟩ W
      unfold refp at hnew
      go_upto_block 0 with (first | (go_at_call 33; refine hfine.mono ?_; rintro e w3 ⟨rfl, hC3⟩) | (go_at_call 34; refine (hnew _).mono ?_; rintro e w4 ⟨bo, rfl, hO4, hb1, hb2, hC4⟩))
      have HC3 := Lib.hid hC3
      have HC4 := Lib.hid hC4
      have HO4 := Lib.hid hO4
      have hs3 := hC3.size
      have hs4 := hC4.size
      have hb4 : bo < w4.heap.size := by obtain ⟨v, h, _⟩ := hO4.row; exact lt_of_heap h
      have his := fun (x : Int) => refis_some HO4.out x
      unfold refp at his
      clear hC3 hC4 hO4 hfine hnew
      go_wp2_with fail
      go_loop [8] (fun i => ∃ k : Nat, i = .int .i64 k ∧ k ≤ P.length ∧ Hid ((P.take k).any (outP N.length) = false)) (fun i => P.length - (intOf i).toNat)
      case atStart => exact ⟨0, rfl, by omega, Lib.hid (by simp)⟩
      case round =>
        obtain ⟨k, rfl, k0, HK⟩ := hrel
        by_cases hk : k < P.length
        · obtain ⟨pa', pc', e0, hcells⟩ := HP.out
          cases e0
          obtain ⟨g, o, rfl, c1, c2⟩ := hcells k hk
          have d1 := ((HC3.out.trans HC4.out)).cell c1 (fun x => x)
          have d2 := ((HC3.out.trans HC4.out)).cell c2 (fun x => x)
          have hw3 : IntKind.i64.wrap ((k : Int) + 1) = k + 1 := IntWalk.i64_in _ ⟨by omega, by omega⟩
          have ht : (P.take (k + 1)).any (outP N.length) = ((P.take k).any (outP N.length) || outP N.length (P.getD k (0, 0))) := by
            rw [List.take_succ_eq_append_getElem hk, List.any_append]
            simp [List.getD, hk]
          have ht2 : outP N.length (P.getD k (0, 0)) = true → P.any (outP N.length) = true := fun h => List.any_eq_true.2 ⟨P.getD k (0, 0), by simp [List.getD, hk], h⟩
          have hop : outP N.length (P.getD k (0, 0)) = (!decide (inB N.length (P.getD k (0, 0)).1) || !decide (inB N.length (P.getD k (0, 0)).2)) := rfl
          have HT := Lib.hid ht
          have HT2 := Lib.hid ht2
          have HOP := Lib.hid hop
          have h1 := his (P.getD k (0, 0)).1
          have h2 := his (P.getD k (0, 0)).2
          clear hcells c1 c2 ht ht2 hop his
          have t1 : True := trivial
          have t2 : True := trivial
          obtain ⟨x, hx⟩ : ∃ x, (P.getD k (0, 0)).1 = x := ⟨_, rfl⟩
          obtain ⟨y, hy⟩ : ∃ y, (P.getD k (0, 0)).2 = y := ⟨_, rfl⟩
          rw [hx] at d1 h1
          rw [hy] at d2 h2
          obtain ⟨r1, hr1⟩ : ∃ r1, decide (inB N.length x) = r1 := ⟨_, rfl⟩
          obtain ⟨r2, hr2⟩ : ∃ r2, decide (inB N.length y) = r2 := ⟨_, rfl⟩
          rw [hr1] at h1
          rw [hr2] at h2
          have hop2 : outP N.length (P.getD k (0, 0)) = (!r1 || !r2) := by rw [HOP.out, hx, hy, hr1, hr2]
          have HOP2 := Lib.hid hop2
          clear hop2 hr1 hr2 hx hy
          have hbad : outP N.length (P.getD k (0, 0)) = true → makeE N P = 9 := fun h => by
            unfold makeE
            rw [if_neg (by omega), if_neg (by rw [HF.out]; decide), if_pos (HT2.out h)]
          have HBAD := Lib.hid hbad
          clear hbad
          cases r1 with
          | false =>
            have HM := Lib.hid (HBAD.out (by rw [HOP2.out]; rfl))
            go_wp2_with (first | (go_at_call 35; refine h1.mono ?_; rintro e w4 ⟨rfl, rfl⟩))
            go_ret2
            exact ⟨HC3.out.trans HC4.out, .inl ⟨by rw [HM.out]; decide, by rw [HM.out]; rfl⟩⟩
          | true =>
            cases r2 with
            | false =>
              have HM := Lib.hid (HBAD.out (by rw [HOP2.out]; rfl))
              go_wp2_with (first | (go_at_call 35; have _t := t1; clear _t t1; refine h1.mono ?_; rintro e w4 ⟨rfl, rfl⟩) | (go_at_call 35; have _t := t2; clear _t t2; refine h2.mono ?_; rintro e w4 ⟨rfl, rfl⟩))
              go_ret2
              exact ⟨HC3.out.trans HC4.out, .inl ⟨by rw [HM.out]; decide, by rw [HM.out]; rfl⟩⟩
            | true =>
              go_wp2_with (first | (go_at_call 35; have _t := t1; clear _t t1; refine h1.mono ?_; rintro e w4 ⟨rfl, rfl⟩) | (go_at_call 35; have _t := t2; clear _t t2; refine h2.mono ?_; rintro e w4 ⟨rfl, rfl⟩))
              go_round
              case rel => exact ⟨k + 1, by go_num, by omega, Lib.hid (by rw [HT.out, HK.out, HOP2.out]; rfl)⟩
              case measure => simp [intOf]; omega
        · have hkn : k = P.length := by omega
          have hno : P.any (outP N.length) = false := by
            have := HK.out
            rw [hkn, List.take_length] at this
            exact this
          have HNO := Lib.hid hno
          clear hno hkn his HK
          go_upto_block 2 with fail
          go_wp2_with fail
          go_loopw [9] (fun i wr => ∃ (k : Nat) (R : Nat → Nat → Bool) (Pd : List (Nat × Nat)), i = .int .i64 k ∧ k ≤ P.length ∧ RefO wr bo (w3.heap.size + 1) N.length Pd ∧ Least N.length (fun i j => (i, j) ∈ Pd) R ∧ Pd.length ≤ k ∧ Chg (fun _ => False) w3 wr ∧ w3.heap.size + 1 ≤ wr.heap.size ∧ Hid (addAll N.length P idR = addAll N.length (P.drop k) R)) (fun i _ => P.length - (intOf i).toNat)
          case atStart => exact ⟨0, idR, [], rfl, by omega, HO4.out, Least.id _ _ (fun i j h => by cases h), by simp, HC4.out, by omega, Lib.hid (by simp)⟩
          case round =>
            clear HO4 k0
            obtain ⟨k, R, Pd, rfl, k0, hO, hL, hpl, hC, hsz, HK⟩ := hrel
            have HO := Lib.hid hO
            have HL := Lib.hid hL
            clear hO hL
            by_cases hk : k < P.length
            · obtain ⟨pa', pc', e0, hcells⟩ := HP.out
              cases e0
              obtain ⟨g, o, rfl, c1, c2⟩ := hcells k hk
              have d1 := fun (W : World) (hW : Chg (fun _ => False) w3 W) => (HC3.out.trans hW).cell c1 (fun x => x)
              have d2 := fun (W : World) (hW : Chg (fun _ => False) w3 W) => (HC3.out.trans hW).cell c2 (fun x => x)
              have hw3 : IntKind.i64.wrap ((k : Int) + 1) = k + 1 := IntWalk.i64_in _ ⟨by omega, by omega⟩
              have hdr : P.drop k = P.getD k (0, 0) :: P.drop (k + 1) := by
                rw [List.drop_eq_getElem_cons hk]; simp [List.getD, hk]
              have hst : addAll N.length P idR = if addE N.length R (P.getD k (0, 0)).1 (P.getD k (0, 0)).2 = 0 then addAll N.length (P.drop (k + 1)) (addR N.length R (P.getD k (0, 0)).1 (P.getD k (0, 0)).2) else (addE N.length R (P.getD k (0, 0)).1 (P.getD k (0, 0)).2, R) := by
                rw [HK.out, hdr, addAll_cons]
              have HST := Lib.hid hst
              clear hcells c1 c2 hdr hst HK
              generalize (P.getD k (0, 0)).1 = x at *
              generalize (P.getD k (0, 0)).2 = y at *
              have HX1 := Lib.hid d1
              have HX2 := Lib.hid d2
              obtain ⟨q, hq⟩ : ∃ q, addE N.length R x y = q := ⟨_, rfl⟩
              have HQ := Lib.hid hq
              clear hq d1 d2
              go_upto_region 14 with fail
              refine region_lone (fun (W' : World) => W'.cell? ⟨g, o + k * 2, none⟩ = some (.int .i64 x) ∧ W'.cell? ⟨g, o + k * 2 + 1, none⟩ = some (.int .i64 y)) [] (by kernel_rfl) ?_
              have hSz : (fun (W' : World) => W'.cell? ⟨g, o + k * 2, none⟩ = some (.int .i64 x) ∧ W'.cell? ⟨g, o + k * 2 + 1, none⟩ = some (.int .i64 y)) wr.drew := ⟨HX1.out wr hC, HX2.out wr hC⟩
              have hz := hC.drew
              have hCz := hC.drew
              refine take_one 0 hSz rfl (by kernel_rfl) rfl ?_
              apply Exists.intro
              refine And.intro (fun W' hS' => ?y0) (And.intro (fun _ _ _ h => h) ?_)
              case y0 => obtain ⟨d0, d1⟩ := hS'; go_simp; rfl
              refine take_one 1 hSz rfl (by kernel_rfl) rfl ?_
              apply Exists.intro
              refine And.intro (fun W' hS' => ?y1) (And.intro (fun _ _ _ h => h) ?_)
              case y1 => obtain ⟨d0, d1⟩ := hS'; go_simp; rfl
              refine take_one 2 hSz rfl (by kernel_rfl) rfl ?_
              apply Exists.intro
              refine And.intro (fun W' hS' => ?y2) (And.intro (fun _ _ _ h => h) ?_)
              case y2 => obtain ⟨d0, d1⟩ := hS'; go_simp; rfl
              refine take_one 3 hSz rfl (by kernel_rfl) rfl ?_
              apply Exists.intro
              refine And.intro (fun W' hS' => ?y3) (And.intro (fun _ _ _ h => h) ?_)
              case y3 => obtain ⟨d0, d1⟩ := hS'; go_simp; rfl
              refine take_one 4 hSz rfl (by kernel_rfl) rfl ?_
              apply Exists.intro
              refine And.intro (fun W' hS' => ?y4) (And.intro (fun _ _ _ h => h) ?_)
              case y4 => obtain ⟨d0, d1⟩ := hS'; go_simp; rfl
              refine take_one 5 hSz rfl (by kernel_rfl) rfl ?_
              apply Exists.intro
              refine And.intro (fun W' hS' => ?y5) (And.intro (fun _ _ _ h => h) ?_)
              case y5 => obtain ⟨d0, d1⟩ := hS'; go_simp; rfl
              refine take_one 6 hSz rfl (by kernel_rfl) rfl ?_
              apply Exists.intro
              refine And.intro (fun W' hS' => ?y6) (And.intro (fun _ _ _ h => h) ?_)
              case y6 => obtain ⟨d0, d1⟩ := hS'; go_simp; rfl
              refine take_one 7 hSz rfl (by kernel_rfl) rfl ?_
              apply Exists.intro
              refine And.intro (fun W' hS' => ?y7) (And.intro (fun _ _ _ h => h) ?_)
              case y7 => obtain ⟨d0, d1⟩ := hS'; go_simp; rfl
              try go_simp
              refine take_one 8 hSz rfl (by kernel_rfl) rfl ?_
              apply Exists.intro
              refine And.intro (fun W' hS' => ?y8) (And.intro (fun _ _ _ h => h) ?_)
              case y8 => obtain ⟨d0, d1⟩ := hS'; go_simp; rfl
              refine take_one 9 hSz rfl (by kernel_rfl) rfl ?_
              apply Exists.intro
              refine And.intro (fun W' hS' => ?y9) (And.intro (fun _ _ _ h => h) ?_)
              case y9 => obtain ⟨d0, d1⟩ := hS'; go_simp; rfl
              refine take_one 10 hSz rfl (by kernel_rfl) rfl ?_
              apply Exists.intro
              refine And.intro (fun W' hS' => ?y10) (And.intro (fun _ _ _ h => h) ?_)
              case y10 => obtain ⟨d0, d1⟩ := hS'; go_simp; rfl
              refine only_one 11 rfl (by kernel_rfl) rfl ?_
              try go_simp
              refine (refadd_any (HO.out.same ((Chg.refl _ wr).drew)) HL.out (by omega) (by show _ ≤ wr.heap.size; omega) (by omega) x y).mono ?_
              rintro e11 w11 ⟨rfl, P', hO11, hL11, hl11, hD11⟩
              rw [HQ.out]
              have hC11 := hCz.trans' hD11 (fun i hi h => by omega)
              have hS11 : (fun (W' : World) => W'.cell? ⟨g, o + k * 2, none⟩ = some (.int .i64 x) ∧ W'.cell? ⟨g, o + k * 2 + 1, none⟩ = some (.int .i64 y)) w11 := ⟨HX1.out w11 hC11, HX2.out w11 hC11⟩
              refine ⟨hS11, ?_⟩
              refine take_one 12 hS11 rfl (by kernel_rfl) rfl ?_
              apply Exists.intro
              refine And.intro (fun W' hS' => ?y12) (And.intro (fun _ _ _ h => h) ?_)
              case y12 => obtain ⟨d0, d1⟩ := hS'; go_simp; rfl
              try go_simp
              refine all_done (by kernel_rfl) ?_ _
              have hsz11 : w3.heap.size + 1 ≤ w11.heap.size := Nat.le_trans hsz hD11.size
              have HO11 := Lib.hid hO11
              have HL11 := Lib.hid hL11
              clear hO11 hL11 hSz hS11 hCz hz hD11
              by_cases hq0 : q = 0
              · subst hq0
                have HQ' := HQ
                go_wp2_with fail
                go_roundw
                case rel => exact ⟨k + 1, _, P', by go_num, by omega, HO11.out, HL11.out, by omega, hC11, hsz11, Lib.hid (by rw [HST.out, if_pos HQ'.out])⟩
                case measure => simp [intOf]; omega
              · have hqb : (q == 0) = false := by rw [beq_eq_false_iff_ne]; exact hq0
                have hm : makeE N P = q := by
                  have e1 : (addAll N.length P idR).1 = q := by rw [HST.out, if_neg (by rw [HQ.out]; exact hq0)]; exact HQ.out
                  unfold makeE
                  rw [if_neg (by omega), if_neg (by rw [HF.out]; decide), if_neg (by rw [HNO.out]; decide), if_pos (by rw [e1]; exact hq0), e1]
                have HM := Lib.hid hm
                have HQ0 := Lib.hid hq0
                clear hm hq0
                go_wp2_with fail
                go_ret2
                exact ⟨HC3.out.trans hC11, .inl ⟨by rw [HM.out]; exact HQ0.out, by rw [HM.out]; rfl⟩⟩
            · have hkn : k = P.length := by omega
              have hall : addAll N.length P idR = (0, R) := by
                rw [HK.out, hkn, List.drop_length]; rfl
              have HALL := Lib.hid hall
              have hCC := HC3.out.trans hC
              have hcpy := copyTexts_some (HN.out.chg hCC) hn
              have hv5 : ∀ (v5 : Value) (w5 : World), w5.ownsRow wr.heap.size 9 1 v5 N.length (strV N) → ∃ g5 c5, v5 = .slice (some ⟨g5, 0, none⟩) N.length c5 ∧ wr.heap.size ≤ g5 ∧ g5 < w5.heap.size ∧ (∀ i, i < N.length → w5.cell? ⟨g5, i, none⟩ = some (.string (bs (N.getD i [])))) := by
                intro v5 w5 hown
                rcases hown.2 with ⟨_, h0⟩ | ⟨g5, cap5, cur5, rfl, hg5, hh5, hq1, hq2, hq3, hq4⟩
                · omega
                · refine ⟨g5, cap5, rfl, hg5, lt_of_heap hh5, fun i hi => ?_⟩
                  rw [cell_of_heap hh5]
                  have e1 : (cur5.toList.take (N.length * 1))[i]? = (strV N)[i]? := by rw [hq4]
                  rw [List.getElem?_take_of_lt (by omega)] at e1
                  have e2 : (strV N)[i]? = some (.string (bs (N.getD i []))) := by simp [strV, List.getD, hi]
                  rw [e2] at e1
                  simpa using e1
              clear HK hall hkn
              go_upto_region 18 with (first | (go_at_call 5; refine hcpy.mono ?_; rintro e w5 ⟨v5, rfl, hown, hC5⟩; obtain ⟨g5, c5, rfl, hg5, hg5', hcell5⟩ := hv5 _ _ hown))
              have hraw := refc_new w5 (.slice (some ⟨g5, 0, none⟩) N.length c5) bo
              have hal := (Chg.refl (fun _ => False) w5).alloc (.cells ((Tryz.zeroCells87.setIfInBounds 0 (.slice (some ⟨g5, 0, none⟩) N.length c5)).setIfInBounds 1 (refp bo)) 87)
              unfold refp at hraw hal
              generalize hw6 : w5.alloc (.cells ((Tryz.zeroCells87.setIfInBounds 0 (.slice (some ⟨g5, 0, none⟩) N.length c5)).setIfInBounds 1 (.pointer (some ⟨bo, 0, none⟩))) 87) = w6 at *
              have hsz5 := hC5.size
              have hO6 := HO.out.same (hC5.trans hal)
              have hC6 := (hCC.trans hC5).trans hal
              have hcell6 := fun i hi => hal.cell (hcell5 i hi) (fun x => x)
              have htb := reftables_any hO6 HL.out hraw
              unfold refp at htb
              have hR : makeR N P = R := by unfold makeR; rw [HALL.out]
              have HRM := Lib.hid hR
              have HC6 := Lib.hid hC6
              have HO6 := Lib.hid hO6
              have HCL := Lib.hid hcell6
              obtain ⟨r, hr⟩ : ∃ r, wholeB N.length (joinD N.length R) (meetD N.length R) = r := ⟨_, rfl⟩
              have HWH := Lib.hid hr
              have hm : makeE N P = if r = true then 0 else 30 := by
                unfold makeE
                rw [if_neg (by omega), if_neg (by rw [HF.out]; decide), if_neg (by rw [HNO.out]; decide), if_neg (by rw [HALL.out]; exact fun h => h rfl), HRM.out, HWH.out]
              have HM := Lib.hid hm
              obtain ⟨cla, hcla⟩ := hraw.blk
              have HCLA := Lib.hid hcla
              generalize hla : w5.heap.size = la at *
              have hs3' := HC3.out.size
              clear hm hr hcell6 hC6 hO6 hR hraw hal hcell5 hown hC5 hC hCC hcla
              go_upto_block 4 with (first | (go_at_call 37; refine htb.mono ?_; rintro e w7 ⟨rfl, hT7, hC7⟩))
              have HO7 := Lib.hid (HO6.out.other hC7 HCLA.out (by decide) (by decide))
              have HT7 := Lib.hid hT7
              have hC67 := HC6.out.trans' hC7 (fun i hi h => by omega)
              have HC67 := Lib.hid hC67
              have HJ : ∀ i j, i < N.length → j < N.length → tabJ N.length (joinD N.length R) (fun _ _ => 0) N.length 0 i j = joinD N.length R i j := fun i j h1 h2 => by unfold tabJ; rw [if_pos (by omega)]
              have HMT : ∀ i j, i < N.length → j < N.length → tabJ N.length (meetD N.length R) (fun _ _ => 0) N.length 0 i j = meetD N.length R i j := fun i j h1 h2 => by unfold tabJ; rw [if_pos (by omega)]
              have HHJ := Lib.hid HJ
              have HHM := Lib.hid HMT
              have HCL7 := Lib.hid (fun i (hi : i < N.length) => hC7.cell (HCL.out i hi) (by show ¬ g5 = la; omega))
              have z0 := HO7.out.cells.1
              clear htb hT7 hC7 hC67 HJ HMT HCL HO6
              go_wp2_with fail
              go_loop [12] (fun i => ∃ k : Nat, i = .int .i64 k ∧ k ≤ N.length ∧ Hid (∀ i j, i < k → j < N.length → 0 ≤ joinD N.length R i j ∧ 0 ≤ meetD N.length R i j)) (fun i => N.length - (intOf i).toNat)
              case atStart => exact ⟨0, rfl, by omega, Lib.hid (fun i j h => by omega)⟩
              case round =>
                obtain ⟨a, rfl, a0, HK⟩ := hrel
                by_cases ha : a < N.length
                · have hw5 : IntKind.i64.wrap ((a : Int) + 1) = a + 1 := IntWalk.i64_in _ ⟨by omega, by omega⟩
                  go_wp2_with fail
                  go_loop [13] (fun i => ∃ q : Nat, i = .int .i64 q ∧ q ≤ N.length ∧ Hid (∀ j, j < q → 0 ≤ joinD N.length R a j ∧ 0 ≤ meetD N.length R a j)) (fun i => N.length - (intOf i).toNat)
                  case atStart => exact ⟨0, rfl, by omega, Lib.hid (fun j h => by omega)⟩
                  case round =>
                    obtain ⟨q, rfl, q0, HQ⟩ := hrel
                    by_cases hq : q < N.length
                    · have hw6 : IntKind.i64.wrap ((q : Int) + 1) = q + 1 := IntWalk.i64_in _ ⟨by omega, by omega⟩
                      have x0 := HT7.out.jnAt a q (by omega) (by omega)
                      have x1 := HT7.out.mtAt a q (by omega) (by omega)
                      rw [HHJ.out a q ha hq] at x0
                      rw [HHM.out a q ha hq] at x1
                      have ha10 : (a : Int) < 10 := by omega
                      have hq10 : (q : Int) < 10 := by omega
                      have ha00 : ¬ (a : Int) < 0 := by omega
                      have hq00 : ¬ (q : Int) < 0 := by omega
                      obtain ⟨x, hx⟩ : ∃ x, joinD N.length R a q = x := ⟨_, rfl⟩
                      obtain ⟨y, hy⟩ : ∃ y, meetD N.length R a q = y := ⟨_, rfl⟩
                      rw [hx] at x0
                      rw [hy] at x1
                      have HX := Lib.hid hx
                      have HY := Lib.hid hy
                      clear hx hy
                      by_cases e0 : x < 0
                      · have hno := wholeB_no (J := joinD N.length R) (M := meetD N.length R) ha hq (.inl (by rw [HX.out]; exact e0))
                        have hm : makeE N P = 30 := by rw [HM.out, ← HWH.out, hno]; rfl
                        have HM2 := Lib.hid hm
                        clear hno hm
                        go_wp2_with fail
                        go_ret2
                        exact ⟨HC67.out, .inl ⟨by rw [HM2.out]; decide, by rw [HM2.out]; rfl⟩⟩
                      · by_cases e1 : y < 0
                        · have hno := wholeB_no (J := joinD N.length R) (M := meetD N.length R) ha hq (.inr (by rw [HY.out]; exact e1))
                          have hm : makeE N P = 30 := by rw [HM.out, ← HWH.out, hno]; rfl
                          have HM2 := Lib.hid hm
                          clear hno hm
                          go_wp2_with fail
                          go_ret2
                          exact ⟨HC67.out, .inl ⟨by rw [HM2.out]; decide, by rw [HM2.out]; rfl⟩⟩
                        · go_wp2_with fail
                          go_round
                          case rel => exact ⟨q + 1, by go_num, by omega, Lib.hid (fun j hj => by
                            by_cases e : j = q
                            · subst e; rw [HX.out, HY.out]; omega
                            · exact HQ.out j (by omega))⟩
                          case measure => simp [intOf]; omega
                    · have hqn : q = N.length := by omega
                      have HNQ := Lib.hid hqn
                      clear hqn
                      go_wp2_with fail
                      go_round
                      case rel => exact ⟨a + 1, by go_num, by omega, Lib.hid (fun i j hi hj => by
                        by_cases e : i = a
                        · subst e; exact HQ.out j (by rw [HNQ.out]; exact hj)
                        · exact HK.out i j (by omega) hj)⟩
                      case measure => simp [intOf]; omega
                · have han : a = N.length := by omega
                  have hyes : wholeB N.length (joinD N.length R) (meetD N.length R) = true := wholeB_yes (fun i j hi hj => HK.out i j (by omega) hj)
                  have hm : makeE N P = 0 := by rw [HM.out, ← HWH.out, hyes]; rfl
                  have HM2 := Lib.hid hm
                  clear hyes hm han
                  go_wp2_with fail
                  go_ret2
                  refine ⟨HC67.out, .inr ⟨HM2.out, la, rfl, bo, w3.heap.size + 1, Pd, g5, c5, ⟨by omega, by omega, by omega, by omega⟩, HO7.out, ?_, ?_, HCL7.out⟩⟩
                  · rw [HRM.out]; exact HL.out
                  · rw [HRM.out]; exact HT7.out
  · have hm : makeE N P = 2 := by
      unfold makeE
      rw [if_pos hlen]
    have HM := Lib.hid hm
    clear hm
    by_cases h1 : N.length < 1
    · go_wp2_with fail
      go_ret2
      exact ⟨Chg.refl _ _, .inl ⟨by rw [HM.out]; decide, by rw [HM.out]; rfl⟩⟩
    · have h2 : ¬ N.length ≤ 10 := fun h => hlen ⟨by omega, h⟩
      clear hlen
      go_wp2_with fail
      go_ret2
      exact ⟨Chg.refl _ _, .inl ⟨by rw [HM.out]; decide, by rw [HM.out]; rfl⟩⟩
end Go.Proofs.YtfmacnkjhboefaaGreatDoor
