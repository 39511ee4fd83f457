/- lattice.Make. -/
import Derived.Test.YtfhmmekamommcaaGreatDoorLatMakeA
namespace Go.Proofs.YtfhmmekamommcaaGreatDoor
set_option linter.unusedVariables false
set_option linter.unusedSimpArgs false
open Go Go.RowKit Go.Proofs Go.Shelf Go.Sort
/-- a slice of texts that came in -/
def InStrs (w : World) (v : Value) (N : List (List UInt8)) : Prop := ∃ a cap, v = .slice a N.length cap ∧ N.length ≤ cap ∧ ∀ i, i < N.length → ∃ g o, a = some ⟨g, o, none⟩ ∧ w.cell? ⟨g, o + i, none⟩ = some (.string (bs (N.getD i [])))
theorem InStrs.below {w w' : World} {v : Value} {L : List (List UInt8)} {S : Nat → Prop} (h : InStrs w v L) (hc : Chg S w w') (hS : ∀ k, k < w.heap.size → ¬ S k) : InStrs w' v L := by
  obtain ⟨a, cap, hv, hcp, hL⟩ := h
  refine ⟨a, cap, hv, hcp, fun i hi => ?_⟩
  obtain ⟨g, o, ha, h1⟩ := hL i hi
  exact ⟨g, o, ha, hc.cell h1 (hS _ (World.block_lt_of_cell? w _ h1))⟩
theorem InStrs.chg {w w' : World} {v : Value} {L : List (List UInt8)} (h : InStrs w v L) (hc : Chg (fun _ => False) w w') : InStrs w' v L := h.below hc (fun _ _ x => x)
def fineB (N : List (List UInt8)) : Bool := (List.range N.length).all fun i => nameOk (N.getD i []) && !(N.take i).contains (N.getD i [])
def addAll (n : Nat) : List (Int × Int) → (Nat → Nat → Bool) → Int × (Nat → Nat → Bool)
  | [], R => (0, R)
  | p :: r, R => if addE n R p.1 p.2 = 0 then addAll n r (addR n R p.1 p.2) else (addE n R p.1 p.2, R)
def makeR (N : List (List UInt8)) (P : List (Int × Int)) : Nat → Nat → Bool := (addAll N.length P idR).2
def makeE (N : List (List UInt8)) (P : List (Int × Int)) : Int :=
  if ¬ (1 ≤ N.length ∧ N.length ≤ 10) then 2 else if fineB N = false then 31 else if P.any (outP N.length) = true then 9
  else if (addAll N.length P idR).1 ≠ 0 then (addAll N.length P idR).1 else if wholeB N.length (joinD N.length (makeR N P)) (meetD N.length (makeR N P)) = true then 0 else 30
theorem fineB_no {N : List (List UInt8)} {i : Nat} (hi : i < N.length) (h : nameOk (N.getD i []) = false ∨ (N.take i).contains (N.getD i []) = true) : fineB N = false := by
  rw [Bool.eq_false_iff]
  intro hw
  unfold fineB at hw
  have := List.all_eq_true.1 hw i (List.mem_range.2 hi)
  rw [Bool.and_eq_true, Bool.not_eq_true'] at this
  rcases h with h | h
  · rw [h] at this; cases this.1
  · rw [h] at this; cases this.2
theorem fineB_yes {N : List (List UInt8)} (h : ∀ i, i < N.length → nameOk (N.getD i []) = true ∧ (N.take i).contains (N.getD i []) = false) : fineB N = true := by
  unfold fineB
  refine List.all_eq_true.2 fun i hi => ?_
  obtain ⟨h1, h2⟩ := h i (List.mem_range.1 hi)
  rw [h1, h2]; rfl
theorem contains_bs (l : List (List UInt8)) (x : List UInt8) : Lib.containsS (l.map bs) (bs x) = l.contains x := by
  rw [Bool.eq_iff_iff, Lib.containsS_iff, List.contains_iff_mem]
  constructor
  · intro h
    obtain ⟨a, ha, e⟩ := List.mem_map.1 h
    rw [← bs_inj e]; exact ha
  · exact fun h => List.mem_map.2 ⟨x, h, rfl⟩
/-- a lattice that stands, all of it at base or above -/
def IsLat (w : World) (base la : Nat) (N : List (List UInt8)) (R : Nat → Nat → Bool) : Prop :=
  ∃ b bu bd cu cd g cap, (base ≤ la ∧ base ≤ b ∧ base ≤ bu ∧ base ≤ bd ∧ base ≤ g) ∧ IsOrd w b bu bd cu cd N.length R (flp R) ∧ (b ≠ la ∧ bu ≠ la ∧ bd ≠ la) ∧
    LatRaw w la (.slice (some ⟨g, 0, none⟩) N.length cap) (optr b) (tabJ N.length (joinD N.length R) (fun _ _ => 0) N.length 0) (tabJ N.length (meetD N.length R) (fun _ _ => 0) N.length 0) (lastF N.length R 0 N.length) (lastF N.length (flp R) 0 N.length) 1 0 ∧
    (∀ i, i < N.length → w.cell? ⟨g, i, none⟩ = some (.string (bs (N.getD i [])))) ∧ g ≠ la
def MakePost (w : World) (N : List (List UInt8)) (P : List (Int × Int)) (e : Ending) (w' : World) : Prop :=
  Chg (fun _ => False) w w' ∧ ((makeE N P ≠ 0 ∧ e = .returned (.tuple #[.pointer none, .int .i64 (makeE N P)])) ∨
    (makeE N P = 0 ∧ PO N.length (makeR N P) ∧ ∃ la, e = .returned (.tuple #[.pointer (some ⟨la, 0, none⟩), .int .i64 0]) ∧ IsLat w' w.heap.size la N (makeR N P)))
theorem addAll_po {n : Nat} : ∀ (P : List (Int × Int)) (R : Nat → Nat → Bool), PO n R → PO n (addAll n P R).2
  | [], _, h => h
  | p :: r, R, h => by
    unfold addAll
    split
    · exact addAll_po r _ (h.add _ _)
    · exact h
theorem new_id (n : Nat) (h1 : 1 ≤ n) (h16 : n ≤ 16) (w : World) : Calls Tryz.prog 50 #[.int .i64 (n : Int)] w fun e w' =>
    ∃ b bu bd, e = .returned (.tuple #[.pointer (some ⟨b, 0, none⟩), .int .i64 0]) ∧ w.heap.size ≤ b ∧ w.heap.size ≤ bu ∧ w.heap.size ≤ bd ∧ IsOrd w' b bu bd n n n idR (flp idR) ∧ Chg (fun _ => False) w w' := by
  refine (new_ok n h1 h16 w).mono ?_
  rintro e w' ⟨b, bu, bd, rfl, h1, h2, h3, h4, h5⟩
  refine ⟨b, bu, bd, rfl, h1, h2, h3, h4.congr (fun i j hi hj => ?_) (fun i j hi hj => ?_), h5⟩
  · unfold idTo idR; by_cases e : i = j <;> simp [e, hi, hj]
  · unfold idTo flp idR
    by_cases e : i = j
    · subst e; simp [hi]
    · have : ¬ j = i := fun h => e h.symm
      simp [e, this]
theorem addAll_cons (n : Nat) (p : Int × Int) (r : List (Int × Int)) (R : Nat → Nat → Bool) : addAll n (p :: r) R = if addE n R p.1 p.2 = 0 then addAll n r (addR n R p.1 p.2) else (addE n R p.1 p.2, R) := rfl
theorem zero_rest : Tryz.zeroCells72.toList.drop 4 = (.int .u32 0) :: List.replicate 202 (.int .i64 0) := by kernel_rfl
theorem zero_size : Tryz.zeroCells72.size = 207 := by kernel_rfl
theorem zero_2 : Tryz.zeroCells72[2]? = some (.int .u32 0) := by kernel_rfl
theorem zero_3 : Tryz.zeroCells72[3]? = some (.int .i32 0) := by kernel_rfl
theorem rest_at {z : Array Value} {a v : Value} {n : Nat} (hz : z.toList.drop 4 = a :: List.replicate n v) (i : Nat) (h : i < n) : z[5 + i]? = some v := by
  have h1 : (z.toList.drop 4)[1 + i]? = some v := by
    rw [hz, Nat.add_comm 1 i, List.getElem?_cons_succ, List.getElem?_replicate, if_pos h]
  rw [List.getElem?_drop, Array.getElem?_toList] at h1
  rw [← h1]
  congr 1
  omega
theorem zero_at (i : Nat) (h : i < 202) : Tryz.zeroCells72[5 + i]? = some (.int .i64 0) := rest_at zero_rest i h
theorem lat_new (w : World) (nv ov : Value) : LatRaw (w.alloc (.cells ((Tryz.zeroCells72.setIfInBounds 0 nv).setIfInBounds 1 ov) 72)) w.heap.size nv ov (fun _ _ => 0) (fun _ _ => 0) 0 0 0 0 := by
  have hz := zero_size
  refine ⟨_, heap_new w _, by rw [Array.size_setIfInBounds, Array.size_setIfInBounds]; exact hz, ?_, ?_, ?_, ?_, fun i j hi hj => ⟨?_, ?_⟩, ?_, ?_⟩
  · rw [Array.getElem?_setIfInBounds_ne (by omega), Array.getElem?_setIfInBounds_self, if_pos (by omega)]
  · rw [Array.getElem?_setIfInBounds_self, if_pos (by rw [Array.size_setIfInBounds]; omega)]
  · rw [Array.getElem?_setIfInBounds_ne (by omega), Array.getElem?_setIfInBounds_ne (by omega)]; exact zero_2
  · rw [Array.getElem?_setIfInBounds_ne (by omega), Array.getElem?_setIfInBounds_ne (by omega)]; exact zero_3
  · rw [Array.getElem?_setIfInBounds_ne (by omega), Array.getElem?_setIfInBounds_ne (by omega), Nat.add_assoc]; exact zero_at _ (by omega)
  · rw [Array.getElem?_setIfInBounds_ne (by omega), Array.getElem?_setIfInBounds_ne (by omega), show 105 + i * 10 + j = 5 + (100 + i * 10 + j) by omega]; exact zero_at _ (by omega)
  · rw [Array.getElem?_setIfInBounds_ne (by omega), Array.getElem?_setIfInBounds_ne (by omega)]; exact zero_at 200 (by omega)
  · rw [Array.getElem?_setIfInBounds_ne (by omega), Array.getElem?_setIfInBounds_ne (by omega)]; exact zero_at 201 (by omega)
set_option maxRecDepth 100000 in
set_option maxHeartbeats 16000000 in
theorem make_any {w : World} {vn vp : Value} {N : List (List UInt8)} {P : List (Int × Int)} (hN : InStrs w vn N) (hP : InPairs w vp P) (hl : P.length ≤ 140737488355328) (hn : N.length ≤ 140737488355328) (hT : TabOk w) :
    Calls Tryz.prog 12 #[vn, vp] w (MakePost w N P) := by
  have htab : 1 < w.heap.size := World.block_lt_of_cell? w _ (hT 0 (by omega))
  obtain ⟨na, nc, rfl, hcap, hnc⟩ := hN
  have hal := (Chg.refl (fun _ => False) w).alloc (.cells #[.slice na N.length nc] 31)
  have hbx := cell_of_heap (heap_new w (.cells #[.slice na N.length nc] 31)) 0
  simp only [List.getElem?_toArray, List.getElem?_cons_zero] at hbx
  have HN := Lib.hid hnc
  have HP := Lib.hid hP
  have HT := Lib.hid hT
  have HA := Lib.hid hal
  obtain ⟨pa, pc, rfl, _⟩ := hP
  clear hnc hT hal
  go_enter Tryz.func12, Tryz.ntmps12
  go_upto_region 1 with fail
  generalize hB : w.heap.size = B at *
  have hz1 : B < (w.alloc (.cells #[.slice na N.length nc] 31)).heap.size := by simp; omega
  have HC0 := Lib.hid HA.out
  generalize w.alloc (.cells #[.slice na N.length nc] 31) = w1 at *
  clear HA
  by_cases hlen : 1 ≤ N.length ∧ N.length ≤ 10
  · obtain ⟨hl1, hl10⟩ := hlen
    go_wp2_with fail
    go_loopw [25] (fun a wr => ∃ k : Nat, a = .int .i64 k ∧ k ≤ N.length ∧ Chg (fun _ => False) w1 wr ∧ Hid (∀ i, i < k → nameOk (N.getD i []) = true ∧ (N.take i).contains (N.getD i []) = false)) (fun a _ => N.length - (intOf a).toNat)
    case atStart => exact ⟨0, rfl, by omega, Chg.refl _ _, Lib.hid (fun i h => by omega)⟩
    case round =>
      obtain ⟨k, rfl, k0, hC, HK⟩ := hrel
      have hbx' := hC.cell hbx (fun x => x)
      by_cases hk : k < N.length
      · obtain ⟨g, o, rfl, hcell⟩ := HN.out k hk
        have d0 := (HC0.out.trans hC).cell hcell (fun x => x)
        have hw3 : IntKind.i64.wrap ((k : Int) + 1) = k + 1 := IntWalk.i64_in _ ⟨by omega, by omega⟩
        clear hcell
        obtain ⟨s, hs⟩ : ∃ s, N.getD k [] = s := ⟨_, rfl⟩
        have hname := name_any s wr
        have hcz : ∀ W : World, Chg (fun _ => False) wr W → ∀ j, j < (N.map bs).length → W.cell? ⟨g, o + j, none⟩ = some (.string ((N.map bs).getD j ByteArray.empty)) := fun W hW j hj => by
          simp at hj
          obtain ⟨g', o', e, h⟩ := HN.out j hj
          cases e
          rw [((HC0.out.trans hC).trans hW).cell h (fun x => x)]
          simp [List.getD, hj]
        have HZ := Lib.hid hcz
        clear hcz
        rw [hs] at d0
        have HS := Lib.hid hs
        clear hs
        cases hno : nameOk s with
        | false =>
          have he : nameE s = 31 := by unfold nameE; rw [hno]; rfl
          have hm : makeE N P = 31 := by
            unfold makeE
            rw [if_neg (by omega), if_pos (fineB_no hk (.inl (by rw [HS.out]; exact hno)))]
          have HM := Lib.hid hm
          rw [he] at hname
          clear he hno hm
          generalize bs s = t at *
          go_wp2_with (first | (go_at_call 45; refine hname.mono ?_; rintro e w2 ⟨rfl, hB2⟩))
          go_ret2
          refine ⟨(HC0.out.trans hC).trans (Below.chg hB2 (Nat.le_refl _) _), .inl ⟨by rw [HM.out]; decide, by rw [HM.out]; rfl⟩⟩
        | true =>
          have he : nameE s = 0 := by unfold nameE; rw [hno]; rfl
          rw [he] at hname
          have HNO := Lib.hid hno
          clear he hno
          obtain ⟨r, hr⟩ : ∃ r, (N.take k).contains s = r := ⟨_, rfl⟩
          have hcont := fun (W : World) (hW : Chg (fun _ => False) wr W) => Tryz.slices_Contains_string g o k nc (N.map bs) (bs s) W (by simp; omega) (by omega) (HZ.out W hW)
          rw [← List.map_take, contains_bs, hr] at hcont
          have HR := Lib.hid hr
          clear hr
          generalize bs s = t at *
          cases r with
          | true =>
            have hm : makeE N P = 31 := by
              unfold makeE
              rw [if_neg (by omega), if_pos (fineB_no hk (.inr (by rw [HS.out]; exact HR.out)))]
            have HM := Lib.hid hm
            clear hm
            have hkc : (k : Int) ≤ nc := by omega
            go_wp2_with (first | (go_at_call 45; refine hname.mono ?_; rintro e w2 ⟨rfl, hB2⟩; have hC2 := Below.chg hB2 (Nat.le_refl _) (fun _ => False); have hb2 := hC2.cell hbx' (fun x => x)) | (go_at_call 46; refine (hcont _ hC2).mono ?_; rintro e w3 ⟨rfl, rfl⟩))
            go_ret2
            refine ⟨(HC0.out.trans hC).trans hC2, .inl ⟨by rw [HM.out]; decide, by rw [HM.out]; rfl⟩⟩
          | false =>
            have hkc : (k : Int) ≤ nc := by omega
            go_wp2_with (first | (go_at_call 45; refine hname.mono ?_; rintro e w2 ⟨rfl, hB2⟩; have hC2 := Below.chg hB2 (Nat.le_refl _) (fun _ => False); have hb2 := hC2.cell hbx' (fun x => x)) | (go_at_call 46; refine (hcont _ hC2).mono ?_; rintro e w3 ⟨rfl, rfl⟩))
            go_roundw
            case rel => exact ⟨k + 1, by go_num, by omega, hC.trans hC2, Lib.hid (fun i hi => by
              by_cases e : i = k
              · subst e; rw [HS.out]; exact ⟨HNO.out, HR.out⟩
              · exact HK.out i (by omega))⟩
            case measure => simp [intOf]; omega
      · have hkn : k = N.length := by omega
        have hfi : fineB N = true := fineB_yes fun i hi => HK.out i (by omega)
        have HF := Lib.hid hfi
        clear hfi HK hkn
        go_upto_region 10 with fail
        have hC1 := hC.alloc (.cells #[.func (.func 47) #[] #[.pointer (some ⟨B, 0, none⟩)]] 106)
        have hbo := cell_of_heap (heap_new wr (.cells #[.func (.func 47) #[] #[.pointer (some ⟨B, 0, none⟩)]] 106)) 0
        simp only [List.getElem?_toArray, List.getElem?_cons_zero] at hbo
        have hbn := hC1.cell hbx (fun x => x)
        have hC2 := HC0.out.trans hC1
        generalize wr.heap.size = Bo at *
        generalize (wr.alloc (.cells #[.func (.func 47) #[] #[.pointer (some ⟨B, 0, none⟩)]] 106)) = w2 at *
        have hcp := contains_pairs (HP.out.chg hC2) hl hbo hbn
        have HC2 := Lib.hid hC2
        have HBN := Lib.hid hbn
        have hB2 : B < w2.heap.size := World.block_lt_of_cell? w2 _ hbn
        obtain ⟨r, hr⟩ : ∃ r, P.any (outP N.length) = r := ⟨_, rfl⟩
        rw [hr] at hcp
        have HR := Lib.hid hr
        clear hC hC1 hC2 hbn hbo hr HC0 hbx hbx' hz1
        cases r with
        | true =>
          have hm : makeE N P = 9 := by
            unfold makeE
            rw [if_neg (by omega), if_neg (by rw [HF.out]; decide), if_pos HR.out]
          have HM := Lib.hid hm
          clear hm
          go_wp2_with (first | (go_at_call 48; refine hcp.mono ?_; rintro e w3 ⟨rfl, hC3⟩))
          go_ret2
          exact ⟨HC2.out.trans hC3, .inl ⟨by rw [HM.out]; decide, by rw [HM.out]; rfl⟩⟩
        | false =>
          have hne := fun W => new_id N.length hl1 (by omega) W
          go_upto_region 15 with (first | (go_at_call 48; refine hcp.mono ?_; rintro e w3 ⟨rfl, hC3⟩; have hb3 := hC3.cell HBN.out (fun x => x)) | (go_at_call 50; refine (hne _).mono ?_; rintro e w4 ⟨b, bu, bd, rfl, g1, g2, g3, hO, hC4⟩))
          have hs3 := hC3.size
          have HC3 := Lib.hid (HC2.out.trans hC3)
          have HB3 := Lib.hid hb3
          have HO4 := Lib.hid hO
          have HC4 := Lib.hid hC4
          clear hC3 hb3 hO hC4 hcp hne
          go_wp2_with fail
          go_loopw [56] (fun a wr => ∃ (k : Nat) (R : Nat → Nat → Bool), a = .int .i64 k ∧ k ≤ P.length ∧ IsOrd wr b bu bd N.length N.length N.length R (flp R) ∧ Chg (fun _ => False) w3 wr ∧ Hid (addAll N.length P idR = addAll N.length (P.drop k) R)) (fun a _ => P.length - (intOf a).toNat)
          case atStart => exact ⟨0, idR, rfl, by omega, HO4.out, HC4.out, Lib.hid (by simp)⟩
          case round =>
            clear HO4
            obtain ⟨k, R, rfl, k0, hO, hC, HK⟩ := hrel
            have HO := Lib.hid hO
            clear hO
            by_cases hk : k < P.length
            · obtain ⟨pa', pc', e0, hcells⟩ := HP.out
              cases e0
              obtain ⟨g, o, rfl, c1, c2⟩ := hcells k hk
              have d1 := ((HC3.out.trans hC)).cell c1 (fun x => x)
              have d2 := ((HC3.out.trans hC)).cell c2 (fun x => x)
              have hw3 : IntKind.i64.wrap ((k : Int) + 1) = k + 1 := IntWalk.i64_in _ ⟨by omega, by omega⟩
              have hdr : P.drop k = P.getD k (0, 0) :: P.drop (k + 1) := by
                rw [List.drop_eq_getElem_cons hk]; simp [List.getD, hk]
              have hst : addAll N.length P idR = if addE N.length R (P.getD k (0, 0)).1 (P.getD k (0, 0)).2 = 0 then addAll N.length (P.drop (k + 1)) (addR N.length R (P.getD k (0, 0)).1 (P.getD k (0, 0)).2) else (addE N.length R (P.getD k (0, 0)).1 (P.getD k (0, 0)).2, R) := by
                rw [HK.out, hdr, addAll_cons]
              have HST := Lib.hid hst
              clear hcells c1 c2 hdr hst HK
              generalize (P.getD k (0, 0)).1 = x at *
              generalize (P.getD k (0, 0)).2 = y at *
              have hadd := fun (W : World) (hW : Chg (fun _ => False) wr W) => add_any (HO.out.chg hW (fun _ _ x => x)) (HT.out.chg ((HC3.out.trans hC).trans hW) (fun x => x)) x y (by omega) (by omega) (by omega)
              obtain ⟨q, hq⟩ : ∃ q, addE N.length R x y = q := ⟨_, rfl⟩
              have HQ := Lib.hid hq
              have hal := (Chg.refl (fun _ => False) wr).alloc (.cells #[.int .i64 x, .int .i64 y] 32)
              unfold AddPost at hadd
              rw [hq] at hadd
              clear hq
              by_cases hq0 : q = 0
              · subst hq0
                have hq' : addE N.length R x y = 0 := HQ.out
                have HQ' := Lib.hid hq'
                clear hq'
                go_wp2_with (first | (go_at_call 51; refine (hadd _ hal).mono ?_; rintro e w5 ⟨rfl, hO5, hC5⟩))
                go_roundw
                case rel => exact ⟨k + 1, _, by go_num, by omega, hO5, (hC.trans hal).trans' hC5 (fun i hi h => by omega), Lib.hid (by rw [HST.out, if_pos HQ'.out])⟩
                case measure => simp [intOf]; omega
              · have hqb : (q == 0) = false := by rw [beq_eq_false_iff_ne]; exact hq0
                have hm : makeE N P = q := by
                  have e1 : (addAll N.length P idR).1 = q := by rw [HST.out, if_neg (by rw [HQ.out]; exact hq0)]; exact HQ.out
                  unfold makeE
                  rw [if_neg (by omega), if_neg (by rw [HF.out]; decide), if_neg (by rw [HR.out]; decide), if_pos (by rw [e1]; exact hq0), e1]
                have HM := Lib.hid hm
                have HQ0 := Lib.hid hq0
                clear hm hq0
                go_wp2_with (first | (go_at_call 51; refine (hadd _ hal).mono ?_; rintro e w5 ⟨rfl, hO5, hC5⟩))
                go_ret2
                exact ⟨HC3.out.trans ((hC.trans hal).trans' hC5 (fun i hi h => by omega)), .inl ⟨by rw [HM.out]; exact HQ0.out, by rw [HM.out]; rfl⟩⟩
            · have hkn : k = P.length := by omega
              have hall : addAll N.length P idR = (0, R) := by
                rw [HK.out, hkn, List.drop_length]; rfl
              have HALL := Lib.hid hall
              have hb4 := hC.cell HB3.out (fun x => x)
              clear HK hall hkn
              obtain ⟨g, o, rfl, _⟩ := HN.out 0 (by omega)
              have hcl := Tryz.slices_Clone_string g o N.length nc (N.map bs) wr (by simp) (by omega) (fun j hj => by
                simp at hj
                obtain ⟨g', o', e, h⟩ := HN.out j hj
                cases e
                rw [(HC3.out.trans hC).cell h (fun x => x)]
                simp [List.getD, hj])
              have hv5 : ∀ (v5 : Value) (w5 : World), w5.ownsRow wr.heap.size 9 1 v5 N.length (((N.map bs).take N.length).map Value.string) → ∃ g5 c5, v5 = .slice (some ⟨g5, 0, none⟩) N.length c5 ∧ wr.heap.size ≤ g5 ∧ g5 < w5.heap.size ∧ (∀ i, i < N.length → w5.cell? ⟨g5, i, none⟩ = some (.string (bs (N.getD i [])))) ∧ (∃ c t, w5.heap[g5]? = some (.cells c t (0, 0))) := by
                intro v5 w5 hown
                rcases hown.2 with ⟨_, h0⟩ | ⟨g5, cap5, cur5, rfl, hg5, hh5, hq1, hq2, hq3, hq4⟩
                · omega
                · refine ⟨g5, cap5, rfl, hg5, lt_of_heap hh5, fun i hi => ?_, cur5, _, hh5⟩
                  rw [cell_of_heap hh5]
                  have e1 : (cur5.toList.take (N.length * 1))[i]? = (((N.map bs).take N.length).map Value.string)[i]? := by rw [hq4]
                  rw [List.getElem?_take_of_lt (by omega)] at e1
                  have e2 : (((N.map bs).take N.length).map Value.string)[i]? = some (.string (bs (N.getD i []))) := by
                    rw [List.take_of_length_le (by simp)]
                    simp [List.getD, hi]
                  rw [e2] at e1
                  simpa using e1
              go_upto_region 23 with (first | (go_at_call 52; refine hcl.mono ?_; rintro e w5 ⟨v5, rfl, hown, hnn, hB5⟩; obtain ⟨g5, c5, rfl, hg5, hg5', hcell5, hblk5⟩ := hv5 _ _ hown))
              have hC5 := Below.chg hB5 (Nat.le_refl _) (fun _ => False)
              have hlw := HO.out.lt
              have hraw := lat_new w5 (.slice (some ⟨g5, 0, none⟩) N.length c5) (optr b)
              have hal := (Chg.refl (fun _ => False) w5).alloc (.cells ((Tryz.zeroCells72.setIfInBounds 0 (.slice (some ⟨g5, 0, none⟩) N.length c5)).setIfInBounds 1 (optr b)) 72)
              unfold optr at hraw hal
              generalize hw6 : w5.alloc (.cells ((Tryz.zeroCells72.setIfInBounds 0 (.slice (some ⟨g5, 0, none⟩) N.length c5)).setIfInBounds 1 (.pointer (some ⟨b, 0, none⟩))) 72) = w6 at *
              have hsz5 := hC5.size
              have hsz4 := hC.size
              have hO6 := HO.out.chg (hC5.trans hal) (fun _ _ x => x)
              have hT6 := HT.out.chg (((HC3.out.trans hC).trans hC5).trans hal) (fun x => x)
              have hpo := addAll_po (n := N.length) P idR (PO.id _)
              rw [HALL.out] at hpo
              have hR : makeR N P = R := by unfold makeR; rw [HALL.out]
              have hwh := whole_any hO6 hT6 hpo.rfl' hl10 hraw (by omega) (by omega)
              have hcell6 := fun i hi => hal.cell (hcell5 i hi) (fun x => x)
              have hszB := HC3.out.size
              have hC6 := (((HC3.out.trans hC).trans hC5).trans hal)
              have HRM := Lib.hid hR
              have HPO := Lib.hid hpo
              have HCL := Lib.hid hcell6
              have HC6 := Lib.hid hC6
              have HO6 := Lib.hid hO6
              obtain ⟨r, hr⟩ : ∃ r, wholeB N.length (joinD N.length R) (meetD N.length R) = r := ⟨_, rfl⟩
              rw [hr] at hwh
              have HWH := Lib.hid hr
              generalize hla : w5.heap.size = la at *
              have hlw6 := hO6.lt
              have hm : makeE N P = if r = true then 0 else 30 := by
                unfold makeE
                rw [if_neg (by omega), if_neg (by rw [HF.out]; decide), if_neg (by rw [HR.out]; decide), if_neg (by rw [HALL.out]; exact fun h => h rfl), HRM.out, HWH.out]
              have HM := Lib.hid hm
              clear hm hr hcell6 hC6 hO6 hT6 hpo hR hraw hal hcell5 hblk5 hown hnn hB5 hC5 hC
              cases r with
              | true =>
                go_wp2_with (first | (go_at_call 53; refine hwh.mono ?_; rintro e w7 ⟨rfl, hL7, hC7⟩))
                go_ret2
                have hC67 := HC6.out.trans' hC7 (fun i hi h => by omega)
                refine ⟨hC67, .inr ⟨by rw [HM.out]; rfl, by rw [HRM.out]; exact HPO.out, la, rfl, b, bu, bd, N.length, N.length, g5, c5, ⟨by omega, by omega, by omega, by omega, by omega⟩, ?_, by omega, ?_, fun i hi => hC7.cell (HCL.out i hi) (by show ¬ g5 = la; omega), by omega⟩⟩
                · rw [HRM.out]
                  exact HO6.out.chg hC7 (fun k hk e => by omega)
                · rw [HRM.out]
                  exact hL7
              | false =>
                go_wp2_with (first | (go_at_call 53; refine hwh.mono ?_; rintro e w7 ⟨rfl, hL7, hC7⟩))
                go_ret2
                have hC67 := HC6.out.trans' hC7 (fun i hi h => by omega)
                exact ⟨hC67, .inl ⟨by rw [HM.out]; decide, by rw [HM.out]; rfl⟩⟩
  · have hm : makeE N P = 2 := by
      unfold makeE
      rw [if_pos hlen]
    have HM := Lib.hid hm
    clear hm
    by_cases h1 : N.length < 1
    · go_wp2_with fail
      go_ret2
      exact ⟨HC0.out, .inl ⟨by rw [HM.out]; decide, by rw [HM.out]; rfl⟩⟩
    · have h2 : ¬ N.length ≤ 10 := fun h => hlen ⟨by omega, h⟩
      clear hlen
      go_wp2_with fail
      go_ret2
      exact ⟨HC0.out, .inl ⟨by rw [HM.out]; decide, by rw [HM.out]; rfl⟩⟩
end Go.Proofs.YtfhmmekamommcaaGreatDoor
