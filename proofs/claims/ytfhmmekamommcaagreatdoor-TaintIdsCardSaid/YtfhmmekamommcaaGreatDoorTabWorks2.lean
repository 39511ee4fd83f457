/- A table and its lattice, step by step; two(); rows of texts held against each other. (And: TabSt, TabWorks, TabWorks2.) -/
import Derived.Test.YtfhmmekamommcaaGreatDoorTabIds
import Derived.Test.YtfhmmekamommcaaGreatDoorLatWorks
/- A table and its lattice, step by step; two(); rows of texts held against each other. -/
namespace Go.Proofs.YtfhmmekamommcaaGreatDoor
set_option linter.unusedVariables false
set_option linter.unusedSimpArgs false
open Go Go.RowKit Go.Proofs Go.Shelf Go.Sort
structure St (w : World) (X : TX) (base la : Nat) (N : List (List UInt8)) (R : Nat → Nat → Bool) (L : List Ses) (n : Nat) : Prop where
  tab : TabAt w X (latp la) L n
  lat : IsLat w base la N R
  ok : WOk w
section
variable {w w' : World} {X : TX} {base la n : Nat} {N : List (List UInt8)} {R : Nat → Nat → Bool} {L L' : List Ses}
theorem St.maps (h : St w X base la N R L n) {n' : Nat} (hT : TabAt w' X (latp la) L' n') (hC : Chg X.Maps w w') : St w' X base la N R L' n' :=
  ⟨hT, h.lat.cells (h.tab.cellsKept hC), h.ok.cells (h.tab.cellsKept hC)⟩
theorem St.same (h : St w X base la N R L n) (hC : Chg (fun _ => False) w w') : St w' X base la N R L n :=
  ⟨h.tab.same hC, h.lat.cells hC.same_cells, h.ok.same hC⟩
theorem st_enter (h : St w X base la N R L n) (id : List UInt8) (hid : id.length ≤ 1000000000) (a q : Int) (ha : I64 a) (hn1 : n < 1000000000) :
    Calls Tryz.prog 14 #[X.p, .string (bs id), .int .i64 a, .int .i64 q] w fun e w' => e = .returned (.int .i64 (entE N.length L id a q)) ∧ St w' X base la N R (entL N.length L id a q) (n + 1) ∧ Chg X.Maps w w' :=
  (tenter_any h.tab h.lat h.ok id hid a q ha hn1).mono fun e w' ⟨h1, h2, h3⟩ => ⟨h1, h.maps h2 h3, h3⟩
theorem st_raise (h : St w X base la N R L n) (hl10 : N.length ≤ 10) (id : List UInt8) (hid : id.length ≤ 1000000000) (a : Int) (hn1 : n + 1 < 1000000000) :
    Calls Tryz.prog 16 #[X.p, .string (bs id), .int .i64 a] w fun e w' => e = .returned (.int .i64 (raE N.length L id a)) ∧ St w' X base la N R (raL N.length R L id a) (n + 2) ∧ Chg X.Maps w w' :=
  (traise_any h.tab h.lat hl10 id hid a hn1).mono fun e w' ⟨h1, h2, h3⟩ => ⟨h1, h.maps h2 h3, h3⟩
theorem st_leave (h : St w X base la N R L n) (id : List UInt8) (hid : id.length ≤ 1000000000) (hn1 : n < 1000000000) :
    Calls Tryz.prog 26 #[X.p, .string (bs id)] w fun e w' => e = .returned (.int .i64 (if (sFind L id).isSome = true then 0 else 31)) ∧ St w' X base la N R (sDel L id) (n + 1) ∧ Chg X.Maps w w' :=
  (tleave_any h.tab id hid hn1).mono fun e w' ⟨h1, h2, h3⟩ => ⟨h1, h.maps h2 h3, h3⟩
theorem st_label (h : St w X base la N R L n) (id : List UInt8) (hid : id.length ≤ 1000000000) :
    Calls Tryz.prog 23 #[X.p, .string (bs id)] w fun e w' => e = .returned (.tuple #[.int .i64 (labR L id), .bool (sFind L id).isSome]) ∧ St w' X base la N R L n ∧ Chg (fun _ => False) w w' :=
  (tlabel_any h.tab id hid).mono fun e w' ⟨h1, h2⟩ => ⟨h1, h.same h2, h2⟩
theorem st_ids (h : St w X base la N R L n) (hn1 : n < 1000000000) :
    Calls Tryz.prog 20 #[X.p] w fun e w' => ∃ v, e = .returned v ∧ w'.ownsRow w.heap.size 9 1 v L.length (idV (L.map (·.id))) ∧ St w' X base la N R L n ∧ Chg (fun _ => False) w w' :=
  (tids_any h.tab hn1).mono fun e w' ⟨v, h1, h2, h3⟩ => ⟨v, h1, h2, h.same h3, h3⟩
end
theorem strs_of_own {w : World} {base n : Nat} {v : Value} {L : List (List UInt8)} (h : w.ownsRow base 9 1 v n (idV L)) : InStrs w v L := by
  have hn : n = L.length := by have := h.1; simp [idV] at this; omega
  subst hn
  rcases h.2 with ⟨rfl, h0⟩ | ⟨g, cap, cur, rfl, _, hh, hc, _, hsz, ht⟩
  · exact ⟨none, 0, by rw [h0], by omega, fun i hi => absurd hi (by omega)⟩
  · refine ⟨_, cap, rfl, hc, fun i hi => ⟨g, 0, rfl, ?_⟩⟩
    rw [Nat.zero_add, cell_of_heap hh]
    have h1 : (cur.toList.take (L.length * 1))[i]? = (idV L)[i]? := by rw [ht]
    rw [List.getElem?_take_of_lt (by omega)] at h1
    rw [← Array.getElem?_toList, h1]
    unfold idV
    rw [List.getElem?_map, List.getElem?_eq_getElem hi]
    simp [List.getD, List.getElem?_eq_getElem hi, encStr, bs]
set_option maxRecDepth 100000 in
set_option maxHeartbeats 4000000 in
/-- EqTexts -/
theorem eqtexts_any {w : World} {va vb : Value} {L M : List (List UInt8)} (ha : InStrs w va L) (hb : InStrs w vb M) (h1 : L.length ≤ 9223372036854775807) (h2 : M.length ≤ 9223372036854775807) :
    Calls Tryz.prog 22 #[va, vb] w fun e w' => e = .returned (.bool (decide (L = M))) ∧ Chg (fun _ => False) w w' := by
  obtain ⟨A, c, rfl, k1, r1⟩ := ha
  obtain ⟨B, d, rfl, k2, r2⟩ := hb
  by_cases hlen : L.length = M.length
  · have hnb : ((L.length : Int) != (M.length : Int)) = false := by rw [hlen]; simp
    have HLEN := Lib.hid hlen
    clear hlen
    go_enter Tryz.func22, Tryz.ntmps22
    go_wp2_with fail
    go_loopw [5] (fun i wr => ∃ j : Nat, j ≤ L.length ∧ i = .int .i64 j ∧ L.take j = M.take j ∧ Chg (fun _ => False) w wr) (fun i _ => L.length - (intOf i).toNat)
    case atStart => exact ⟨0, by omega, rfl, rfl, Chg.refl _ _⟩
    case round =>
      obtain ⟨j, hj, rfl, htk, hCh⟩ := hrel
      have HTK := Lib.hid htk
      have HCH := Lib.hid hCh
      clear htk hCh
      by_cases hlt : j < L.length
      · have hjm : j < M.length := by have := HLEN.out; omega
        obtain ⟨g, p, rfl, hc⟩ := r1 j hlt
        obtain ⟨g', p', rfl, hc'⟩ := r2 j hjm
        have c1 := HCH.out.cell hc (fun h => h)
        have c2 := HCH.out.cell hc' (fun h => h)
        have ex : L.getD j [] = L[j] := by simp [List.getD, hlt]
        have ey : M.getD j [] = M[j] := by simp [List.getD, hjm]
        have hs1 : L.take (j + 1) = L.take j ++ [L[j]] := by rw [List.take_add_one, List.getElem?_eq_getElem hlt]; rfl
        have hs2 : M.take (j + 1) = M.take j ++ [M[j]] := by rw [List.take_add_one, List.getElem?_eq_getElem hjm]; rfl
        have HNE := Lib.hid (show L[j] ≠ M[j] → L ≠ M from fun h e => h (by subst e; rfl))
        rw [ex] at c1
        rw [ey] at c2
        have HS1 := Lib.hid hs1
        have HS2 := Lib.hid hs2
        clear hc hc' ex ey hs1 hs2 r1 r2
        generalize L[j] = x at *
        generalize M[j] = y at *
        have hS : wr.drew.cell? ⟨g, p + j, none⟩ = some (.string (bs x)) ∧ wr.drew.cell? ⟨g', p' + j, none⟩ = some (.string (bs y)) := ⟨c1, c2⟩
        clear c1 c2
        go_wp2_with fail
        refine region_lone (fun W' => W'.cell? ⟨g, p + j, none⟩ = some (.string (bs x)) ∧ W'.cell? ⟨g', p' + j, none⟩ = some (.string (bs y))) [] (by kernel_rfl) ?_
        refine take_one 0 hS rfl (by kernel_rfl) rfl ?_
        apply Exists.intro
        refine And.intro (fun W' hS' => ?y0) (And.intro (fun _ _ _ h => h) ?_)
        case y0 => obtain ⟨d0, d1⟩ := hS'; go_simp; rfl
        refine take_one 1 hS rfl (by kernel_rfl) rfl ?_
        apply Exists.intro
        refine And.intro (fun W' hS' => ?y1) (And.intro (fun _ _ _ h => h) ?_)
        case y1 => obtain ⟨d0, d1⟩ := hS'; go_simp; rfl
        refine take_one 2 hS rfl (by kernel_rfl) rfl ?_
        apply Exists.intro
        refine And.intro (fun W' hS' => ?y2) (And.intro (fun _ _ _ h => h) ?_)
        case y2 => obtain ⟨d0, d1⟩ := hS'; go_simp; rfl
        refine take_one 3 hS rfl (by kernel_rfl) rfl ?_
        apply Exists.intro
        refine And.intro (fun W' hS' => ?y3) (And.intro (fun _ _ _ h => h) ?_)
        case y3 => obtain ⟨d0, d1⟩ := hS'; go_simp; rfl
        refine take_one 4 hS rfl (by kernel_rfl) rfl ?_
        apply Exists.intro
        refine And.intro (fun W' hS' => ?y4) (And.intro (fun _ _ _ h => h) ?_)
        case y4 => obtain ⟨d0, d1⟩ := hS'; go_simp; rfl
        refine take_one 5 hS rfl (by kernel_rfl) rfl ?_
        apply Exists.intro
        refine And.intro (fun W' hS' => ?y5) (And.intro (fun _ _ _ h => h) ?_)
        case y5 => obtain ⟨d0, d1⟩ := hS'; go_simp; rfl
        refine take_one 6 hS rfl (by kernel_rfl) rfl ?_
        apply Exists.intro
        refine And.intro (fun W' hS' => ?y6) (And.intro (fun _ _ _ h => h) ?_)
        case y6 => obtain ⟨d0, d1⟩ := hS'; go_simp; rfl
        refine take_one 7 hS rfl (by kernel_rfl) rfl ?_
        apply Exists.intro
        refine And.intro (fun W' hS' => ?y7) (And.intro (fun _ _ _ h => h) ?_)
        case y7 => obtain ⟨d0, d1⟩ := hS'; go_simp; rfl
        refine take_one 8 hS rfl (by kernel_rfl) rfl ?_
        apply Exists.intro
        refine And.intro (fun W' hS' => ?y8) (And.intro (fun _ _ _ h => h) ?_)
        case y8 => obtain ⟨d0, d1⟩ := hS'; go_simp; rfl
        refine all_done (by kernel_rfl) ?_ _
        clear hS
        go_simp
        obtain ⟨q, hq⟩ : ∃ q, (!((bs x).toList == (bs y).toList)) = q := ⟨_, rfl⟩
        rw [hq]
        cases q
        · have hxy : x = y := by
            have h : (bs x).toList = (bs y).toList := by simpa using hq
            rw [ByteArray.toList_eq, ByteArray.toList_eq] at h
            exact h
          have HXY := Lib.hid hxy
          clear hxy hq
          go_wp2_with fail
          go_roundw
          case rel => exact ⟨j + 1, by omega, by go_num, by rw [HS1.out, HS2.out, HTK.out, HXY.out], HCH.out.drew⟩
          case measure => simp [intOf] <;> omega
        · have hxy : x ≠ y := by
            intro e
            subst e
            simp at hq
          have HD := Lib.hid (decide_eq_false (HNE.out hxy))
          clear hxy hq
          go_wp2_with fail
          go_ret
          exact ⟨congrArg (fun b => Ending.returned (.bool b)) HD.out.symm, HCH.out.drew⟩
      · have hLM : L = M := by
          have h := HTK.out
          rw [List.take_of_length_le (by omega), List.take_of_length_le (by have := HLEN.out; omega)] at h
          exact h
        have hd : decide (L = M) = true := decide_eq_true hLM
        have HD := Lib.hid hd
        clear hLM hd
        go_wp2_with fail
        go_ret
        exact ⟨congrArg (fun b => Ending.returned (.bool b)) HD.out.symm, HCH.out⟩
  · have hnb : ((L.length : Int) != (M.length : Int)) = true := bne_iff_ne.2 (by omega)
    have hd : decide (L = M) = false := decide_eq_false (fun e => hlen (by rw [e]))
    rw [hd]
    clear hd hlen
    go_enter Tryz.func22, Tryz.ntmps22
    go_wp2_with fail
    go_ret
    exact ⟨rfl, Chg.refl _ _⟩
end Go.Proofs.YtfhmmekamommcaaGreatDoor

/- The chapter's ids and sessions (works). -/
namespace Go.Proofs.YtfhmmekamommcaaGreatDoor
set_option linter.unusedVariables false
set_option linter.unusedSimpArgs false
open Go Go.RowKit Go.Proofs Go.Shelf Go.Sort
def N2 : List (List UInt8) := [[108, 111, 119], [104, 105, 103, 104]]
def P2 : List (Nat × Nat) := [(0, 1)]
theorem rows2 : addAllL P2 (idL 2) = some [3, 2] := by decide +kernel
theorem agree2 : Agree 2 (makeR N2 (toP P2)) (rowR [3, 2]) := makeR_eval (N := N2) (by decide) rows2
theorem made2 : makeE N2 (toP P2) = 0 := by
  rw [makeE_eval (by decide) (by decide +kernel) (by decide)]
  decide +kernel
structure Facts2 (N : List (List UInt8)) (R : Nat → Nat → Bool) : Prop where
  len : N.length = 2
  join : lJoin N.length R 0 1 = 1
theorem facts2 : Facts2 N2 (makeR N2 (toP P2)) := by
  have h := agree2
  have e : N2.length = 2 := rfl
  refine ⟨rfl, ?_⟩
  rw [e, lJoin_congr h]
  decide +kernel
/-- a new table over a lattice that was made here -/
def Fresh (w : World) (X : TX) : Prop := w.heap.size ≤ X.b ∧ w.heap.size ≤ X.m1 ∧ w.heap.size ≤ X.m2
theorem Fresh.chg {w W : World} {X : TX} (h : Fresh w X) (hC : Chg X.Maps w W) : Chg (fun _ => False) w W :=
  hC.mono fun i hi hm => by
    obtain ⟨_, h1, h2⟩ := h
    rcases hm with rfl | rfl <;> omega
theorem two_any (w : World) (hT : TabOk w) (hW : WOk w) : Calls Tryz.prog 28 #[] w fun e w' => ∃ X la base N R, e = .returned X.p ∧ St w' X base la N R [] 0 ∧ Facts2 N R ∧ Fresh w X ∧ Chg (fun _ => False) w w' := by
  have hmk : Calls Tryz.prog 12 #[.slice (some ⟨w.heap.size, 0, none⟩) 2 2, .slice (some ⟨w.heap.size + 1, 0, none⟩) 1 1]
      ((w.alloc (.cells #[.string ⟨#[108, 111, 119]⟩, .string ⟨#[104, 105, 103, 104]⟩] 9)).alloc (.cells #[.int .i64 0, .int .i64 1] 32))
      fun e w1 => ∃ la base N R, e = .returned (.tuple #[latp la, .int .i64 0]) ∧ IsLat w1 base la N R ∧ Facts2 N R ∧ Chg (fun _ => False) w w1 := by
    have c1 := (Chg.refl (fun _ => False) w).alloc (.cells #[.string ⟨#[108, 111, 119]⟩, .string ⟨#[104, 105, 103, 104]⟩] 9)
    have c2 := c1.alloc (.cells #[.int .i64 0, .int .i64 1] 32)
    have hN : InStrs _ (.slice (some ⟨w.heap.size, 0, none⟩) 2 2) N2 := (lit_strs w N2 9 (0, 0) 2 (by decide)).chg ((Chg.refl (fun _ => False) _).alloc (.cells #[.int .i64 0, .int .i64 1] 32))
    have hP := lit_pairs (w.alloc (.cells #[.string ⟨#[108, 111, 119]⟩, .string ⟨#[104, 105, 103, 104]⟩] 9)) P2 32 (0, 0) 1
    rw [World.size_alloc] at hP
    refine (make_any hN hP (by decide) (by decide) (hT.chg c2 (fun x => x))).mono ?_
    rintro e w1 ⟨hC, ⟨h1, _⟩ | ⟨_, _, la, rfl, hL⟩⟩
    · exact absurd made2 h1
    · exact ⟨la, _, _, _, rfl, hL, facts2, c2.trans hC⟩
  have HW := Lib.hid hW
  clear hT hW
  go_enter Tryz.func28, Tryz.ntmps28
  go_upto_region 2 with (first | (go_at_call 12; refine hmk.mono ?_; rintro e w1 ⟨la, base, N, R, rfl, hL, hF, hC1⟩))
  have hnew := tnew_any hL (by rw [hF.len]; decide)
  have HL := Lib.hid hL
  have HF := Lib.hid hF
  have HC1 := Lib.hid hC1
  clear hmk hL hF hC1
  go_wp2_with (first | (go_at_call 11; refine hnew.mono ?_; rintro e w2 ⟨X, rfl, hTb, f1, f2, f3, hC2⟩))
  go_ret
  have z := HC1.out.size
  exact ⟨X, la, base, N, R, rfl, ⟨hTb, HL.out.cells hC2.same_cells, HW.out.same (HC1.out.trans hC2)⟩, HF.out, ⟨by omega, by omega, by omega⟩, HC1.out.trans hC2⟩
end Go.Proofs.YtfhmmekamommcaaGreatDoor

/- The chapter's ids and sessions (works), walked. -/
namespace Go.Proofs.YtfhmmekamommcaaGreatDoor
set_option linter.unusedVariables false
set_option linter.unusedSimpArgs false
open Go Go.RowKit Go.Proofs Go.Shelf Go.Sort
def S1 : List Ses := [⟨[49], 0, 0⟩]
def S2 : List Ses := [⟨[49], 0, 0⟩, ⟨[50], 1, 1⟩]
def S3 : List Ses := [⟨[49], 0, 1⟩, ⟨[50], 1, 1⟩]
def S4 : List Ses := [⟨[50], 1, 1⟩]
theorem wk1 : entE 2 [] [49] 0 1 = 0 := by decide +kernel
theorem wl1 : entL 2 [] [49] 0 1 = S1 := by unfold entL; rw [if_pos wk1]; rfl
theorem wk2 : entE 2 S1 [50] 0 1 = 180 := by decide +kernel
theorem wl2 : entL 2 S1 [50] 0 1 = S1 := entL_no wk2 (by decide)
theorem wk3 : entE 2 S1 [50] 1 1 = 0 := by decide +kernel
theorem wl3 : entL 2 S1 [50] 1 1 = S2 := by
  unfold entL
  rw [if_pos wk3]
  show (if idLess [49] [50] = true then (⟨[49], 0, 0⟩ : Ses) :: sIns ⟨[50], 1, 1⟩ [] else _) = _
  rw [if_pos (by decide +kernel)]
  rfl
theorem wk4 : entE 2 S2 [49] 0 9 = 31 := by decide +kernel
theorem wl4 : entL 2 S2 [49] 0 9 = S2 := entL_no wk4 (by decide)
theorem wk5 : raE 2 S2 [49] 1 = 0 := by decide +kernel
theorem wf2 : sFind S2 [49] = some ⟨[49], 0, 0⟩ := by unfold S2; rw [sFind_cons, if_pos rfl]
theorem wl5 {R : Nat → Nat → Bool} (h : lJoin 2 R 0 1 = 1) : raL 2 R S2 [49] 1 = S3 := by
  unfold raL
  rw [wf2]
  show (if inB 2 1 then sSet S2 [49] (lJoin 2 R 0 1) else S2) = S3
  rw [if_pos (by decide), h]
  rfl
theorem wf3 : sFind S3 [49] = some ⟨[49], 0, 1⟩ := by unfold S3; rw [sFind_cons, if_pos rfl]
theorem wb3 : labR S3 [49] = 1 := by unfold labR; rw [wf3]
theorem wc3 : sCount S3 0 = 1 := by decide +kernel
theorem wi3 : S3.map (·.id) = [[49], [50]] := rfl
theorem wd3 : sDel S3 [49] = S4 := rfl
theorem wf4 : sFind S4 [49] = none := by unfold S4; rw [sFind_cons, if_neg (by decide)]; rfl
theorem wb4 : labR S4 [49] = 0 := by unfold labR; rw [wf4]
theorem wk6 : raE 2 S4 [49] 0 = 31 := by decide +kernel
theorem lit_one (w : World) (a b : List UInt8) : InStrs (w.alloc (.cells #[.string (bs a), .string (bs b)] 9)) (.slice (some ⟨w.heap.size, 0, none⟩) 2 2) [a, b] := lit_strs w [a, b] 9 (0, 0) 2 (by simp)
set_option maxRecDepth 100000 in
set_option maxHeartbeats 16000000 in
theorem tworks_some (w : World) (hT : TabOk w) (hW : WOk w) : Calls Tryz.prog 24 #[] w fun e w' => e = .returned (.bool true) ∧ Chg (fun _ => False) w w' := by
  have i1 : ∀ W, Chg (fun _ => False) w W → Calls Tryz.prog 25 #[.string ⟨#[55, 46, 50]⟩] W fun e w' => e = .returned (.int .i64 0) ∧ Chg (fun _ => False) W w' := fun W hC =>
    (id_any [55, 46, 50] (by decide) W (hW.same hC)).mono fun e w' ⟨a, b⟩ => ⟨by rw [a, if_pos (by decide +kernel)], b⟩
  have i2 : ∀ W, Chg (fun _ => False) w W → Calls Tryz.prog 25 #[.string ⟨#[55, 46]⟩] W fun e w' => e = .returned (.int .i64 4) ∧ Chg (fun _ => False) W w' := fun W hC =>
    (id_any [55, 46] (by decide) W (hW.same hC)).mono fun e w' ⟨a, b⟩ => ⟨by rw [a, if_neg (by decide +kernel)], b⟩
  have i3 : ∀ W, Chg (fun _ => False) w W → Calls Tryz.prog 25 #[.string ⟨#[48, 55]⟩] W fun e w' => e = .returned (.int .i64 4) ∧ Chg (fun _ => False) W w' := fun W hC =>
    (id_any [48, 55] (by decide) W (hW.same hC)).mono fun e w' ⟨a, b⟩ => ⟨by rw [a, if_neg (by decide +kernel)], b⟩
  have i4 : ∀ W, Chg (fun _ => False) w W → Calls Tryz.prog 25 #[.string ⟨#[48]⟩] W fun e w' => e = .returned (.int .i64 4) ∧ Chg (fun _ => False) W w' := fun W hC =>
    (id_any [48] (by decide) W (hW.same hC)).mono fun e w' ⟨a, b⟩ => ⟨by rw [a, if_neg (by decide +kernel)], b⟩
  have i5 : ∀ W, Chg (fun _ => False) w W → Calls Tryz.prog 25 #[.string ⟨#[49, 46, 49, 46, 49, 46, 49, 46, 49, 46, 49, 46, 49, 46, 49, 46, 49]⟩] W fun e w' => e = .returned (.int .i64 4) ∧ Chg (fun _ => False) W w' := fun W hC =>
    (id_any [49, 46, 49, 46, 49, 46, 49, 46, 49, 46, 49, 46, 49, 46, 49, 46, 49] (by decide) W (hW.same hC)).mono fun e w' ⟨a, b⟩ => ⟨by rw [a, if_neg (by decide +kernel)], b⟩
  have p1 : ∀ W, Chg (fun _ => False) w W → Calls Tryz.prog 29 #[.string ⟨#[55, 46, 50]⟩] W fun e w' => e = .returned (.tuple #[.string ⟨#[55]⟩, .bool true]) ∧ Chg (fun _ => False) W w' := fun W hC =>
    (parent_any [55, 46, 50] (by decide) W (hW.same hC)).mono fun e w' ⟨a, b⟩ => ⟨by rw [a, show idPar [55, 46, 50] = ([55], true) by decide +kernel]; rfl, b⟩
  have p2 : ∀ W, Chg (fun _ => False) w W → Calls Tryz.prog 29 #[.string ⟨#[55]⟩] W fun e w' => e = .returned (.tuple #[.string ⟨#[]⟩, .bool false]) ∧ Chg (fun _ => False) W w' := fun W hC =>
    (parent_any [55] (by decide) W (hW.same hC)).mono fun e w' ⟨a, b⟩ => ⟨by rw [a, show idPar [55] = ([], false) by decide +kernel]; rfl, b⟩
  have k1 : ∀ W, Chg (fun _ => False) w W → Calls Tryz.prog 31 #[.string ⟨#[55]⟩, .int .i64 3] W fun e w' => e = .returned (.tuple #[.string ⟨#[55, 46, 51]⟩, .int .i64 0]) ∧ Chg (fun _ => False) W w' := fun W hC =>
    (child_any [55] 3 (by decide) W (hW.same hC)).mono fun e w' ⟨a, b⟩ => ⟨by rw [a, show idKid [55] 3 = [55, 46, 51] by decide +kernel, show idKidE [55] 3 = 0 by decide +kernel]; rfl, b⟩
  have l1 : ∀ W, Chg (fun _ => False) w W → Calls Tryz.prog 34 #[.string ⟨#[55]⟩, .string ⟨#[55, 46, 50]⟩] W fun e w' => e = .returned (.bool true) ∧ Chg (fun _ => False) W w' := fun W hC =>
    (less_any [55] [55, 46, 50] (by decide) (by decide) W (hW.same hC)).mono fun e w' ⟨a, b⟩ => ⟨by rw [a, show idLess [55] [55, 46, 50] = true by decide +kernel], b⟩
  have l2 : ∀ W, Chg (fun _ => False) w W → Calls Tryz.prog 34 #[.string ⟨#[55, 46, 50]⟩, .string ⟨#[49, 48]⟩] W fun e w' => e = .returned (.bool true) ∧ Chg (fun _ => False) W w' := fun W hC =>
    (less_any [55, 46, 50] [49, 48] (by decide) (by decide) W (hW.same hC)).mono fun e w' ⟨a, b⟩ => ⟨by rw [a, show idLess [55, 46, 50] [49, 48] = true by decide +kernel], b⟩
  have l3 : ∀ W, Chg (fun _ => False) w W → Calls Tryz.prog 34 #[.string ⟨#[49, 48]⟩, .string ⟨#[57]⟩] W fun e w' => e = .returned (.bool false) ∧ Chg (fun _ => False) W w' := fun W hC =>
    (less_any [49, 48] [57] (by decide) (by decide) W (hW.same hC)).mono fun e w' ⟨a, b⟩ => ⟨by rw [a, show idLess [49, 48] [57] = false by decide +kernel], b⟩
  have tw := fun W (hC : Chg (fun _ => False) w W) => two_any W (hT.chg hC (fun x => x)) (hW.same hC)
  have Hi1 := Lib.hid i1
  have Hi2 := Lib.hid i2
  have Hi3 := Lib.hid i3
  have Hi4 := Lib.hid i4
  have Hi5 := Lib.hid i5
  have Hp1 := Lib.hid p1
  have Hp2 := Lib.hid p2
  have Hk1 := Lib.hid k1
  have Hl1 := Lib.hid l1
  have Hl2 := Lib.hid l2
  have Hl3 := Lib.hid l3
  have Htw := Lib.hid tw
  clear hT hW i1 i2 i3 i4 i5 p1 p2 k1 l1 l2 l3 tw
  have c0 : Chg (fun _ => False) w w := Chg.refl _ _
  have hh := Hi1.out w c0
  go_enter Tryz.func24, Tryz.ntmps24
  have t1 : True := trivial
  have t2 : True := trivial
  have t3 : True := trivial
  have t4 : True := trivial
  have t5 : True := trivial
  go_upto_region 3 with (first
    | (go_at_call 25; have _t := t1; clear _t t1; refine hh.mono ?_; rintro e w1 ⟨rfl, hC⟩; replace c0 := c0.trans hC; clear hC hh; have hh := Hi2.out _ c0)
    | (go_at_call 25; have _t := t2; clear _t t2; refine hh.mono ?_; rintro e w2 ⟨rfl, hC⟩; replace c0 := c0.trans hC; clear hC hh; have hh := Hi3.out _ c0)
    | (go_at_call 25; have _t := t3; clear _t t3; refine hh.mono ?_; rintro e w3 ⟨rfl, hC⟩; replace c0 := c0.trans hC; clear hC hh; have hh := Hi4.out _ c0)
    | (go_at_call 25; have _t := t4; clear _t t4; refine hh.mono ?_; rintro e w4 ⟨rfl, hC⟩; replace c0 := c0.trans hC; clear hC hh; have hh := Hi5.out _ c0)
    | (go_at_call 25; have _t := t5; clear _t t5; refine hh.mono ?_; rintro e w5 ⟨rfl, hC⟩; replace c0 := c0.trans hC; clear hC hh; have hh := Hp1.out _ c0))
  have t6 : True := trivial
  have t7 : True := trivial
  have t8 : True := trivial
  go_upto_region 6 with (first
    | (go_at_call 29; have _t := t6; clear _t t6; refine hh.mono ?_; rintro e w6 ⟨rfl, hC⟩; replace c0 := c0.trans hC; clear hC hh; have hh := Hp2.out _ c0)
    | (go_at_call 29; have _t := t7; clear _t t7; refine hh.mono ?_; rintro e w7 ⟨rfl, hC⟩; replace c0 := c0.trans hC; clear hC hh; have hh := Hk1.out _ c0)
    | (go_at_call 31; have _t := t8; clear _t t8; refine hh.mono ?_; rintro e w8 ⟨rfl, hC⟩; replace c0 := c0.trans hC; clear hC hh; have hh := Hl1.out _ c0))
  have t9 : True := trivial
  have t10 : True := trivial
  have t11 : True := trivial
  go_upto_region 8 with (first
    | (go_at_call 34; have _t := t9; clear _t t9; refine hh.mono ?_; rintro e w9 ⟨rfl, hC⟩; replace c0 := c0.trans hC; clear hC hh; have hh := Hl2.out _ c0)
    | (go_at_call 34; have _t := t10; clear _t t10; refine hh.mono ?_; rintro e w10 ⟨rfl, hC⟩; replace c0 := c0.trans hC; clear hC hh; have hh := Hl3.out _ c0)
    | (go_at_call 34; have _t := t11; clear _t t11; refine hh.mono ?_; rintro e w11 ⟨rfl, hC⟩; replace c0 := c0.trans hC; clear hC hh; have hh := Htw.out _ c0))
  go_upto_region 9 with (first
    | (go_at_call 28; refine hh.mono ?_; rintro e w12 ⟨X, la, base, N, R, rfl, hSt, hF, hFr, hC⟩))
  have cm : Chg X.Maps w11 w12 := hC.mono fun _ _ x => x.elim
  have HFr := Lib.hid hFr
  have C0 := Lib.hid c0
  have hlen := hF.len
  have hj := hF.join
  rw [hlen] at hj
  have e1 : ∀ W, St W X base la N R [] 0 → Calls Tryz.prog 14 #[X.p, .string ⟨#[49]⟩, .int .i64 0, .int .i64 1] W fun e w' => e = .returned (.int .i64 0) ∧ St w' X base la N R S1 1 ∧ Chg X.Maps W w' := fun W h =>
    (st_enter h [49] (by decide) 0 1 (by unfold I64; decide) (by decide)).mono fun e w' ⟨a, b, c⟩ => by rw [hlen, wk1] at a; rw [hlen, wl1] at b; exact ⟨a, b, c⟩
  have e2 : ∀ W, St W X base la N R S1 1 → Calls Tryz.prog 14 #[X.p, .string ⟨#[50]⟩, .int .i64 0, .int .i64 1] W fun e w' => e = .returned (.int .i64 180) ∧ St w' X base la N R S1 2 ∧ Chg X.Maps W w' := fun W h =>
    (st_enter h [50] (by decide) 0 1 (by unfold I64; decide) (by decide)).mono fun e w' ⟨a, b, c⟩ => by rw [hlen, wk2] at a; rw [hlen, wl2] at b; exact ⟨a, b, c⟩
  have e3 : ∀ W, St W X base la N R S1 2 → Calls Tryz.prog 14 #[X.p, .string ⟨#[50]⟩, .int .i64 1, .int .i64 1] W fun e w' => e = .returned (.int .i64 0) ∧ St w' X base la N R S2 3 ∧ Chg X.Maps W w' := fun W h =>
    (st_enter h [50] (by decide) 1 1 (by unfold I64; decide) (by decide)).mono fun e w' ⟨a, b, c⟩ => by rw [hlen, wk3] at a; rw [hlen, wl3] at b; exact ⟨a, b, c⟩
  have e4 : ∀ W, St W X base la N R S2 3 → Calls Tryz.prog 14 #[X.p, .string ⟨#[49]⟩, .int .i64 0, .int .i64 9] W fun e w' => e = .returned (.int .i64 31) ∧ St w' X base la N R S2 4 ∧ Chg X.Maps W w' := fun W h =>
    (st_enter h [49] (by decide) 0 9 (by unfold I64; decide) (by decide)).mono fun e w' ⟨a, b, c⟩ => by rw [hlen, wk4] at a; rw [hlen, wl4] at b; exact ⟨a, b, c⟩
  have e5 : ∀ W, St W X base la N R S2 4 → Calls Tryz.prog 16 #[X.p, .string ⟨#[49]⟩, .int .i64 1] W fun e w' => e = .returned (.int .i64 0) ∧ St w' X base la N R S3 6 ∧ Chg X.Maps W w' := fun W h =>
    (st_raise h (by rw [hlen]; decide) [49] (by decide) 1 (by decide)).mono fun e w' ⟨a, b, c⟩ => by rw [hlen, wk5] at a; rw [hlen, wl5 hj] at b; exact ⟨a, b, c⟩
  have e6 : ∀ W, St W X base la N R S3 6 → Calls Tryz.prog 23 #[X.p, .string ⟨#[49]⟩] W fun e w' => e = .returned (.tuple #[.int .i64 1, .bool true]) ∧ St w' X base la N R S3 6 ∧ Chg (fun _ => False) W w' := fun W h =>
    (st_label h [49] (by decide)).mono fun e w' ⟨a, b, c⟩ => by rw [wb3, wf3] at a; exact ⟨a, b, c⟩
  have e7 : ∀ W, St W X base la N R S3 6 → Calls Tryz.prog 27 #[X.p, .int .i64 0] W fun e w' => e = .returned (.int .i64 1) ∧ w' = W := fun W h =>
    (tmany_any h.tab 0 (by unfold I64; decide)).mono fun e w' ⟨a, b⟩ => by rw [wc3] at a; exact ⟨a, b⟩
  have e8 : ∀ W, St W X base la N R S3 6 → Calls Tryz.prog 20 #[X.p] W fun e w' => ∃ v, e = .returned v ∧ InStrs w' v [[49], [50]] ∧ St w' X base la N R S3 6 ∧ Chg (fun _ => False) W w' := fun W h =>
    (st_ids h (by decide)).mono fun e w' ⟨v, a, b, c, d⟩ => by rw [wi3] at b; exact ⟨v, a, strs_of_own b, c, d⟩
  have e9 : ∀ W v, InStrs W v [[49], [50]] → St W X base la N R S3 6 → Calls Tryz.prog 22 #[v, .slice (some ⟨W.heap.size, 0, none⟩) 2 2] (W.alloc (.cells #[.string ⟨#[49]⟩, .string ⟨#[50]⟩] 9)) fun e w' => e = .returned (.bool true) ∧ St w' X base la N R S3 6 ∧ Chg (fun _ => False) W w' := fun W v hv h =>
    (eqtexts_any (hv.chg ((Chg.refl _ W).alloc _)) (lit_one W [49] [50]) (by decide) (by decide)).mono fun e w' ⟨a, b⟩ => ⟨a, h.same (((Chg.refl _ W).alloc _).trans b), ((Chg.refl _ W).alloc _).trans b⟩
  have e10 : ∀ W, St W X base la N R S3 6 → Calls Tryz.prog 26 #[X.p, .string ⟨#[49]⟩] W fun e w' => e = .returned (.int .i64 0) ∧ St w' X base la N R S4 7 ∧ Chg X.Maps W w' := fun W h =>
    (st_leave h [49] (by decide) (by decide)).mono fun e w' ⟨a, b, c⟩ => by rw [wf3] at a; rw [wd3] at b; exact ⟨a, b, c⟩
  have e11 : ∀ W, St W X base la N R S4 7 → Calls Tryz.prog 23 #[X.p, .string ⟨#[49]⟩] W fun e w' => e = .returned (.tuple #[.int .i64 0, .bool false]) ∧ St w' X base la N R S4 7 ∧ Chg (fun _ => False) W w' := fun W h =>
    (st_label h [49] (by decide)).mono fun e w' ⟨a, b, c⟩ => by rw [wb4, wf4] at a; exact ⟨a, b, c⟩
  have e12 : ∀ W, St W X base la N R S4 7 → Calls Tryz.prog 16 #[X.p, .string ⟨#[49]⟩, .int .i64 0] W fun e w' => e = .returned (.int .i64 31) ∧ Chg X.Maps W w' := fun W h =>
    (st_raise h (by rw [hlen]; decide) [49] (by decide) 0 (by decide)).mono fun e w' ⟨a, b, c⟩ => by rw [hlen, wk6] at a; exact ⟨a, c⟩
  unfold TX.p at *
  have E1 := Lib.hid e1
  have E2 := Lib.hid e2
  have E3 := Lib.hid e3
  have E4 := Lib.hid e4
  have E5 := Lib.hid e5
  have E6 := Lib.hid e6
  have E7 := Lib.hid e7
  have E8 := Lib.hid e8
  have E9 := Lib.hid e9
  have E10 := Lib.hid e10
  have E11 := Lib.hid e11
  have E12 := Lib.hid e12
  clear e1 e2 e3 e4 e5 e6 e7 e8 e9 e10 e11 e12 hC hFr c0 hF hlen hj
  have hh := E1.out _ hSt
  clear hSt
  have t13 : True := trivial
  have t14 : True := trivial
  have t15 : True := trivial
  have t16 : True := trivial
  have t17 : True := trivial
  go_upto_region 11 with (first
    | (go_at_call 14; have _t := t13; clear _t t13; refine hh.mono ?_; rintro e w13 ⟨rfl, hS2, hC⟩; replace cm := cm.trans hC; clear hh; have hh := E2.out _ hS2; clear hS2 hC)
    | (go_at_call 14; have _t := t14; clear _t t14; refine hh.mono ?_; rintro e w14 ⟨rfl, hS2, hC⟩; replace cm := cm.trans hC; clear hh; have hh := E3.out _ hS2; clear hS2 hC)
    | (go_at_call 14; have _t := t15; clear _t t15; refine hh.mono ?_; rintro e w15 ⟨rfl, hS2, hC⟩; replace cm := cm.trans hC; clear hh; have hh := E4.out _ hS2; clear hS2 hC)
    | (go_at_call 14; have _t := t16; clear _t t16; refine hh.mono ?_; rintro e w16 ⟨rfl, hS2, hC⟩; replace cm := cm.trans hC; clear hh; have hh := E5.out _ hS2; clear hS2 hC)
    | (go_at_call 16; have _t := t17; clear _t t17; refine hh.mono ?_; rintro e w17 ⟨rfl, hS2, hC⟩; replace cm := cm.trans hC; clear hh; have hh := E6.out _ hS2; clear hS2 hC))
  have t18 : True := trivial
  have t19 : True := trivial
  have t20 : True := trivial
  have t21 : True := trivial
  have t22 : True := trivial
  go_upto_region 13 with (first
    | (go_at_call 23; have _t := t18; clear _t t18; refine hh.mono ?_; rintro e w18 ⟨rfl, hS2, hC⟩; replace cm := cm.trans (hC.mono fun _ _ x => x.elim); clear hh; have hh := E7.out _ hS2; have hk := hS2; clear hS2 hC)
    | (go_at_call 27; have _t := t19; clear _t t19; refine hh.mono ?_; rintro e w19 ⟨rfl, rfl⟩; clear hh; have hh := E8.out _ hk; clear hk)
    | (go_at_call 20; have _t := t20; clear _t t20; refine hh.mono ?_; rintro e w20 ⟨v, rfl, hv, hS2, hC⟩; replace cm := cm.trans (hC.mono fun _ _ x => x.elim); clear hh; have hh := E9.out _ v hv hS2; clear hv hS2 hC)
    | (go_at_call 22; have _t := t21; clear _t t21; refine hh.mono ?_; rintro e w21 ⟨rfl, hS2, hC⟩; replace cm := cm.trans (hC.mono fun _ _ x => x.elim); clear hh; have hh := E10.out _ hS2; clear hS2 hC)
    | (go_at_call 26; have _t := t22; clear _t t22; refine hh.mono ?_; rintro e w22 ⟨rfl, hS2, hC⟩; replace cm := cm.trans hC; clear hh; have hh := E11.out _ hS2; clear hS2 hC))
  have t23 : True := trivial
  have t24 : True := trivial
  go_wp2_with (first
    | (go_at_call 23; have _t := t23; clear _t t23; refine hh.mono ?_; rintro e w23 ⟨rfl, hS2, hC⟩; replace cm := cm.trans (hC.mono fun _ _ x => x.elim); clear hh; have hh := E12.out _ hS2; clear hS2 hC)
    | (go_at_call 16; have _t := t24; clear _t t24; refine hh.mono ?_; rintro e w24 ⟨rfl, hC⟩; replace cm := cm.trans hC; clear hh; clear hC))
  go_ret
  exact ⟨rfl, C0.out.trans (HFr.out.chg cm)⟩
end Go.Proofs.YtfhmmekamommcaaGreatDoor
