/- A table's methods: New, Label, Many, Enter. -/
import Derived.Test.YtfhmmekamommcaaGreatDoorTabMem
namespace Go.Proofs.YtfhmmekamommcaaGreatDoor
set_option linter.unusedVariables false
set_option linter.unusedSimpArgs false
open Go Go.RowKit Go.Proofs Go.Shelf
/-- what Label tells -/
def labR (L : List Ses) (id : List UInt8) : Int := match sFind L id with
  | some s => s.label
  | none => 0
/-- Label -/
theorem tlabel_any {w : World} {X : TX} {la : Nat} {L : List Ses} {n : Nat} (hT : TabAt w X (latp la) L n) (id : List UInt8) (hid : id.length ≤ 1000000000) :
    Calls Tryz.prog 23 #[X.p, .string (bs id)] w fun e w' => e = .returned (.tuple #[.int .i64 (labR L id), .bool (sFind L id).isSome]) ∧ Chg (fun _ => False) w w' := by
  have hn := tnone_any hT.c0
  obtain ⟨D, hown, s1, s2⟩ := hT.ses
  have hc1 := hT.c1
  have hkey := key_id id hid
  have k1 := s1 id
  have k2 := s2 id
  clear s1 s2 hT
  unfold labR
  cases hf : sFind L id with
  | none =>
    rw [hf] at k1 k2
    unfold TX.p at *
    go_enter Tryz.func23, Tryz.ntmps23
    go_wp2_with (first
      | (go_at_call 54; refine hn.mono ?_; rintro e w1 ⟨rfl, rfl⟩)
      | (at_lookup; refine wpList_lookup_own_ok _ rfl _ _ 74 rfl 9 114 strKeyed Tryz.underlying74 sesE (Tryz.zeroValue114 _) (sesD 0 0) [] rfl X.m1 n D rfl hown (.string (bs id)) (.string id) rfl hkey ?_; intro v ps hv; rw [k1] at hv; rw [k2]; obtain rfl := sesE_inv hv; unfold sesV))
    go_ret2
    exact ⟨rfl, (Chg.refl _ _).alloc _⟩
  | some s =>
    rw [hf] at k1 k2
    unfold TX.p at *
    go_enter Tryz.func23, Tryz.ntmps23
    go_wp2_with (first
      | (go_at_call 54; refine hn.mono ?_; rintro e w1 ⟨rfl, rfl⟩)
      | (at_lookup; refine wpList_lookup_own_ok _ rfl _ _ 74 rfl 9 114 strKeyed Tryz.underlying74 sesE (Tryz.zeroValue114 _) (sesD 0 0) [] rfl X.m1 n D rfl hown (.string (bs id)) (.string id) rfl hkey ?_; intro v ps hv; rw [k1] at hv; rw [k2]; obtain rfl := sesE_inv hv; unfold sesV))
    go_ret2
    exact ⟨rfl, (Chg.refl _ _).alloc _⟩
/-- Many -/
theorem tmany_any {w : World} {X : TX} {la : Nat} {L : List Ses} {n : Nat} (hT : TabAt w X (latp la) L n) (a : Int) (ha : I64 a) :
    Calls Tryz.prog 27 #[X.p, .int .i64 a] w fun e w' => e = .returned (.int .i64 (sCount L a : Nat)) ∧ w' = w := by
  have hn := tnone_any hT.c0
  obtain ⟨D2, hown2, s3⟩ := hT.cnt
  have hc2 := hT.c2
  have hkeyA := key_lab ha
  have k3 := s3 a
  clear s3 hT
  unfold TX.p at *
  go_enter Tryz.func27, Tryz.ntmps27
  go_wp2_with (first
    | (go_at_call 54; refine hn.mono ?_; rintro e w1 ⟨rfl, rfl⟩)
    | (at_lookup; refine wpList_lookup_own_int _ rfl _ _ 75 rfl 34 3 .i64 labKeyed Tryz.underlying75 Tryz.underlying3 (Tryz.zeroValue3 _) X.m2 n D2 rfl hown2 (.int .i64 a) (.int .i64 a) rfl hkeyA ?_; intro c hat hwc; rw [k3] at hat; obtain rfl : (sCount L a : Int) = c := by simpa using hat))
  go_ret
  exact ⟨rfl, rfl⟩
/-- what Enter answers, and what is there then -/
def entE (m : Nat) (L : List Ses) (id : List UInt8) (a q : Int) : Int := if idOk id = true then (if (sFind L id).isSome = true then 31 else if inB m a then (if q ≤ (sCount L a : Nat) then 180 else 0) else 9) else 4
def entL (m : Nat) (L : List Ses) (id : List UInt8) (a q : Int) : List Ses := if entE m L id a q = 0 then sIns ⟨id, a, a⟩ L else L
theorem entL_no {m : Nat} {L : List Ses} {id : List UInt8} {a q e : Int} (h : entE m L id a q = e) (he : e ≠ 0) : entL m L id a q = L := by unfold entL; rw [h, if_neg he]
theorem sesOf_ins {L : List Ses} {x : Ses} (h : sFind L x.id = none) {D : DataW Unit} (hD : Maps.IsMap D) (s1 : ∀ id, D.atKey (.string id) (sesD 0 0) = sesOf (sFind L id)) (s2 : ∀ id, Maps.has D (.string id) = (sFind L id).isSome) :
    (∀ id, (D.put (.string x.id) (sesD x.began x.label)).atKey (.string id) (sesD 0 0) = sesOf (sFind (sIns x L) id)) ∧ ∀ id, Maps.has (D.put (.string x.id) (sesD x.began x.label)) (.string id) = (sFind (sIns x L) id).isSome := by
  refine ⟨fun id => ?_, fun id => ?_⟩
  · rw [sFind_ins x L h]
    by_cases e : x.id = id
    · subst e
      rw [if_pos rfl, Maps.atKey_put_same hD (strK _)]
      rfl
    · rw [if_neg e, Maps.atKey_put_other (fun h => e (by injection h with h; exact h.symm)), s1]
  · rw [sFind_ins x L h]
    by_cases e : x.id = id
    · subst e
      rw [if_pos rfl, Maps.has_put_same hD (strK _)]
      rfl
    · rw [if_neg e, Maps.has_put_other (fun h => e (by injection h with h; exact h.symm)), s2]
theorem own_isMap {w : World} {P : Program} {k : TypeId} {R : Value → Option (DataW Unit × List MemPlace)} {b n : Nat} {D : DataW Unit} (h : w.ownsMap P k R b n D) : Maps.IsMap D := by
  obtain ⟨es, cl, _, _, _, hD⟩ := h
  exact ⟨_, hD⟩
theorem cnt_put {L L' : List Ses} {a z : Int} {D : DataW Unit} (hD : Maps.IsMap D) (s3 : ∀ b, D.atKey (.int .i64 b) (.lit (.int .i64 0)) = .lit (.int .i64 (sCount L b : Nat))) (ha : z = (sCount L' a : Nat)) (ho : ∀ b, b ≠ a → sCount L' b = sCount L b) :
    ∀ b, (D.put (.int .i64 a) (.lit (.int .i64 z))).atKey (.int .i64 b) (.lit (.int .i64 0)) = .lit (.int .i64 (sCount L' b : Nat)) := by
  intro b
  by_cases e : b = a
  · subst e
    rw [Maps.atKey_put_same hD (labK _), ha]
  · rw [Maps.atKey_put_other (fun h => e (by injection h)), s3, ho b e]
set_option maxRecDepth 100000 in
set_option maxHeartbeats 8000000 in
/-- Enter -/
theorem tenter_any {w : World} {X : TX} {base la : Nat} {N : List (List UInt8)} {R : Nat → Nat → Bool} {L : List Ses} {n : Nat} (hT : TabAt w X (latp la) L n) (hL : IsLat w base la N R) (hW : WOk w) (id : List UInt8) (hid : id.length ≤ 1000000000) (a q : Int) (ha : I64 a) (hn1 : n < 1000000000) :
    Calls Tryz.prog 14 #[X.p, .string (bs id), .int .i64 a, .int .i64 q] w fun e w' => e = .returned (.int .i64 (entE N.length L id a q)) ∧ TabAt w' X (latp la) (entL N.length L id a q) (n + 1) ∧ Chg X.Maps w w' := by
  have hn := tnone_any hT.c0
  have hI := fun W (hC : Chg (fun _ => False) w W) => id_any id hid W (hW.same hC)
  have hIs := fun W (hC : Chg (fun _ => False) w W) => tis_any (X := X) (hL.cells hC.same_cells) (hC.cell hT.c0 (fun x => x)) a
  have hTn := fun W (hC : Chg (fun _ => False) w W) => (hT.same hC).mono (Nat.le_succ n)
  obtain ⟨D, hown, s1, s2⟩ := hT.ses
  obtain ⟨D2, hown2, s3⟩ := hT.cnt
  have hc1 := hT.c1
  have hkey := key_id id hid
  have hkeyA := key_lab ha
  have k1 := s1 id
  have k2 := s2 id
  have k3 := s3 a
  have Hs := Lib.hid hIs
  have HTn := Lib.hid hTn
  have HI := Lib.hid hI
  have HT := Lib.hid hT
  have HD := Lib.hid (And.intro s1 (And.intro s2 s3))
  clear s1 s2 s3 hT hIs hTn hI hW
  cases hok : idOk id with
  | false =>
    have hE : entE N.length L id a q = 4 := by unfold entE; rw [hok]; rfl
    rw [entL_no hE (by decide), hE]
    clear hE
    cases hf : sFind L id with
    | none =>
      rw [hf] at k1 k2
      have hCA := (Chg.refl (fun _ => False) w).alloc (.cells #[.int .i64 0, .int .i64 0] 114)
      have hII := HI.out _ hCA
      rw [if_neg (by rw [hok]; decide)] at hII
      unfold TX.p at *
      go_enter Tryz.func14, Tryz.ntmps14
      go_wp2_with (first
        | (go_at_call 54; refine hn.mono ?_; rintro e w1 ⟨rfl, rfl⟩)
        | (at_lookup; refine wpList_lookup_own_ok _ rfl _ _ 74 rfl 9 114 strKeyed Tryz.underlying74 sesE (Tryz.zeroValue114 _) (sesD 0 0) [] rfl X.m1 n D rfl hown (.string (bs id)) (.string id) rfl hkey ?_; intro v ps hv; rw [k1] at hv; rw [k2]; obtain rfl := sesE_inv hv; unfold sesV)
        | (go_at_call 25; refine hII.mono ?_; rintro e w2 ⟨rfl, hC2⟩; have hCC := hCA.trans hC2; have hIsW := Hs.out _ hCC))
      go_ret
      exact ⟨rfl, HTn.out _ hCC, hCC.mono fun _ _ x => x.elim⟩

    | some s =>
      rw [hf] at k1 k2
      have hCA := (Chg.refl (fun _ => False) w).alloc (.cells #[.int .i64 s.began, .int .i64 s.label] 114)
      have hII := HI.out _ hCA
      rw [if_neg (by rw [hok]; decide)] at hII
      unfold TX.p at *
      go_enter Tryz.func14, Tryz.ntmps14
      go_wp2_with (first
        | (go_at_call 54; refine hn.mono ?_; rintro e w1 ⟨rfl, rfl⟩)
        | (at_lookup; refine wpList_lookup_own_ok _ rfl _ _ 74 rfl 9 114 strKeyed Tryz.underlying74 sesE (Tryz.zeroValue114 _) (sesD 0 0) [] rfl X.m1 n D rfl hown (.string (bs id)) (.string id) rfl hkey ?_; intro v ps hv; rw [k1] at hv; rw [k2]; obtain rfl := sesE_inv hv; unfold sesV)
        | (go_at_call 25; refine hII.mono ?_; rintro e w2 ⟨rfl, hC2⟩; have hCC := hCA.trans hC2; have hIsW := Hs.out _ hCC))
      go_ret
      exact ⟨rfl, HTn.out _ hCC, hCC.mono fun _ _ x => x.elim⟩

  | true =>
    cases hf : sFind L id with
    | some s =>
      have hE : entE N.length L id a q = 31 := by unfold entE; rw [hok, hf]; rfl
      rw [entL_no hE (by decide), hE]
      clear hE
      rw [hf] at k1 k2
      have hCA := (Chg.refl (fun _ => False) w).alloc (.cells #[.int .i64 s.began, .int .i64 s.label] 114)
      have hII := HI.out _ hCA
      rw [if_pos hok] at hII
      unfold TX.p at *
      go_enter Tryz.func14, Tryz.ntmps14
      go_wp2_with (first
        | (go_at_call 54; refine hn.mono ?_; rintro e w1 ⟨rfl, rfl⟩)
        | (at_lookup; refine wpList_lookup_own_ok _ rfl _ _ 74 rfl 9 114 strKeyed Tryz.underlying74 sesE (Tryz.zeroValue114 _) (sesD 0 0) [] rfl X.m1 n D rfl hown (.string (bs id)) (.string id) rfl hkey ?_; intro v ps hv; rw [k1] at hv; rw [k2]; obtain rfl := sesE_inv hv; unfold sesV)
        | (go_at_call 25; refine hII.mono ?_; rintro e w2 ⟨rfl, hC2⟩; have hCC := hCA.trans hC2; have hIsW := Hs.out _ hCC))
      go_ret
      exact ⟨rfl, HTn.out _ hCC, hCC.mono fun _ _ x => x.elim⟩

    | none =>
      rw [hf] at k1 k2
      by_cases hb : inB N.length a
      · by_cases hq : q ≤ (sCount L a : Nat)
        · have hE : entE N.length L id a q = 180 := by unfold entE; rw [hok, hf, if_pos rfl, if_neg (by simp), if_pos hb, if_pos hq]
          rw [entL_no hE (by decide), hE]
          clear hE
          rw [show decide (inB N.length a) = true from decide_eq_true hb] at Hs
          have hCA := (Chg.refl (fun _ => False) w).alloc (.cells #[.int .i64 0, .int .i64 0] 114)
          have hII := HI.out _ hCA
          rw [if_pos hok] at hII
          unfold TX.p at *
          go_enter Tryz.func14, Tryz.ntmps14
          go_wp2_with (first
            | (go_at_call 54; refine hn.mono ?_; rintro e w1 ⟨rfl, rfl⟩)
            | (at_lookup; refine wpList_lookup_own_ok _ rfl _ _ 74 rfl 9 114 strKeyed Tryz.underlying74 sesE (Tryz.zeroValue114 _) (sesD 0 0) [] rfl X.m1 n D rfl hown (.string (bs id)) (.string id) rfl hkey ?_; intro v ps hv; rw [k1] at hv; rw [k2]; obtain rfl := sesE_inv hv; unfold sesV)
            | (go_at_call 25; refine hII.mono ?_; rintro e w2 ⟨rfl, hC2⟩; have hCC := hCA.trans hC2; have hIsW := Hs.out _ hCC)
            | (go_at_call 55; refine hIsW.mono ?_; rintro e w3 ⟨rfl, rfl⟩; have hown2W := (HTn.out _ hCC).cnt; obtain ⟨D2, hown2x, s3x⟩ := (HT.out.same hCC).cnt; have k3x := s3x a; have hc2W := hCC.cell HT.out.c2 (fun x => x); clear s3x hown2W)
            | (at_lookup; refine wpList_lookup_own_int _ rfl _ _ 75 rfl 34 3 .i64 labKeyed Tryz.underlying75 Tryz.underlying3 (Tryz.zeroValue3 _) X.m2 n D2 rfl hown2x (.int .i64 a) (.int .i64 a) rfl hkeyA ?_; intro c hat hwc; rw [k3x] at hat; obtain rfl : (sCount L a : Int) = c := by simpa using hat))
          go_ret
          exact ⟨rfl, HTn.out _ hCC, hCC.mono fun _ _ x => x.elim⟩

        · have hE : entE N.length L id a q = 0 := by unfold entE; rw [hok, hf, if_pos rfl, if_neg (by simp), if_pos hb, if_neg hq]
          have hEL : entL N.length L id a q = sIns ⟨id, a, a⟩ L := by unfold entL; rw [if_pos hE]
          rw [hEL, hE]
          clear hE hEL
          rw [show decide (inB N.length a) = true from decide_eq_true hb] at Hs
          have hq' : ¬ (q ≤ ((sCount L a : Nat) : Int)) := hq
          have hcl : sCount L a ≤ n := Nat.le_trans (sCount_le L a) HT.out.few
          obtain ⟨z1, hz1⟩ : ∃ z1 : Int, z1 = ((sCount L a + 1 : Nat) : Int) := ⟨_, rfl⟩
          have hwr : IntKind.i64.wrap (((sCount L a : Nat) : Int) + 1) = z1 := by rw [IntWalk.i64_in _ ⟨by omega, by omega⟩]; omega
          have HWF : Hid ((Lit.int .i64 z1).wf = true) := Lib.hid (wf_i64 ⟨by omega, by omega⟩)
          have HNX : Hid (n < maxLen) := Lib.hid (Nat.lt_trans hn1 (by decide))
          have HZ := Lib.hid hz1
          clear hcl hz1 hn1
          have hbn := HT.out.bne
          have hne := HT.out.ne
          have hCA := (Chg.refl (fun _ => False) w).alloc (.cells #[.int .i64 0, .int .i64 0] 114)
          have hII := HI.out _ hCA
          rw [if_pos hok] at hII
          unfold TX.p at *
          go_enter Tryz.func14, Tryz.ntmps14
          go_wp2_with (first
            | (go_at_call 54; refine hn.mono ?_; rintro e w1 ⟨rfl, rfl⟩)
            | (at_lookup; refine wpList_lookup_own_ok _ rfl _ _ 74 rfl 9 114 strKeyed Tryz.underlying74 sesE (Tryz.zeroValue114 _) (sesD 0 0) [] rfl X.m1 n D rfl hown (.string (bs id)) (.string id) rfl hkey ?_; intro v ps hv; rw [k1] at hv; rw [k2]; obtain rfl := sesE_inv hv; unfold sesV)
            | (go_at_call 25; refine hII.mono ?_; rintro e w2 ⟨rfl, hC2⟩; have hCC := hCA.trans hC2; have hIsW := Hs.out _ hCC)
            | (go_at_call 55; refine hIsW.mono ?_; rintro e w3 ⟨rfl, rfl⟩; have hTW := HT.out.same hCC; obtain ⟨D2, hown2x, s3x⟩ := hTW.cnt; obtain ⟨D1, hown1x, s1x, s2x⟩ := hTW.ses; have k3x := s3x a; have hc2W := hTW.c2; have hc1W := hTW.c1; have hboxW := hTW.box; have HS := Lib.hid (And.intro s1x (And.intro s2x s3x)); clear s1x s2x s3x hTW)
            | (at_lookup; refine wpList_lookup_own_int _ rfl _ _ 75 rfl 34 3 .i64 labKeyed Tryz.underlying75 Tryz.underlying3 (Tryz.zeroValue3 _) X.m2 n D2 rfl hown2x (.int .i64 a) (.int .i64 a) rfl hkeyA ?_; intro c hat hwc; rw [k3x] at hat; obtain rfl : (sCount L a : Int) = c := by simpa using hat)
            | (at_mapUpdate; refine wpList_mapUpdate_own _ rfl _ _ _ 74 rfl 9 114 strKeyed Tryz.underlying74 sesE X.m1 n D1 rfl hown1x HNX.out _ _ (.string id) rfl rfl hkey (sesD a a) [] rfl ?_; intro w4 hown4 hgrow4; have hbox4 := grown_keep hgrow4 hboxW (fun e => hbn.1 (by injection e with e; exact e.symm)); have hc24 := cell_of_heap hbox4 2; have hown2y := hown2x.kept hgrow4 (fun e => hne (by injection e with e; exact e.symm)))
            | (at_lookup; refine wpList_lookup_own_int _ rfl _ _ 75 rfl 34 3 .i64 labKeyed Tryz.underlying75 Tryz.underlying3 (Tryz.zeroValue3 _) X.m2 n D2 rfl hown2y (.int .i64 a) (.int .i64 a) rfl hkeyA ?_; intro c hat hwc; rw [k3x] at hat; obtain rfl : (sCount L a : Int) = c := by simpa using hat)
            | (at_mapUpdate; refine wpList_mapUpdate_own _ rfl _ _ _ 75 rfl 34 3 labKeyed Tryz.underlying75 (plainElem Tryz.prog 3) X.m2 n D2 rfl hown2y HNX.out _ _ (.int .i64 a) rfl rfl hkeyA (.lit (.int .i64 z1)) [] (plainElem_int Tryz.underlying3 HWF.out) ?_; intro w5 hown5 hgrow5))
          go_ret
          have hown45 := hown4.kept hgrow5 (fun e => hne (by injection e))
          obtain ⟨h1, h2, h3⟩ := HS.out
          obtain ⟨j1, j2⟩ := sesOf_ins (x := ⟨id, a, a⟩) hf (own_isMap hown1x) h1 h2
          refine ⟨rfl, ⟨HT.out.ok.ins hok hid hf, grown_keep hgrow5 hbox4 (fun e => hbn.2 (by injection e with e; exact e.symm)), ⟨_, hown45, j1, j2⟩, ⟨_, hown5, cnt_put (own_isMap hown2y) h3 (by rw [HZ.out, sCount_ins, if_pos rfl]) (fun b hb => by rw [sCount_ins, if_neg (fun e => hb e.symm)]; rfl)⟩, ?_, by rw [len_ins]; exact Nat.succ_le_succ HT.out.few, hne⟩, ?_⟩
          · intro s hs
            rcases (mem_ins _ _ s).1 hs with rfl | hs
            · exact ⟨ha, ha⟩
            · exact HT.out.lab s hs
          · exact ((hCC.mono fun _ _ x => x.elim).grown hgrow4 (fun k e => .inl (.inl (by injection e with e; exact e.symm)))).grown hgrow5 (fun k e => .inl (.inr (by injection e with e; exact e.symm)))
      · have hE : entE N.length L id a q = 9 := by unfold entE; rw [hok, hf, if_pos rfl, if_neg (by simp), if_neg hb]
        rw [entL_no hE (by decide), hE]
        clear hE
        rw [show decide (inB N.length a) = false from decide_eq_false hb] at Hs
        have hCA := (Chg.refl (fun _ => False) w).alloc (.cells #[.int .i64 0, .int .i64 0] 114)
        have hII := HI.out _ hCA
        rw [if_pos hok] at hII
        unfold TX.p at *
        go_enter Tryz.func14, Tryz.ntmps14
        go_wp2_with (first
          | (go_at_call 54; refine hn.mono ?_; rintro e w1 ⟨rfl, rfl⟩)
          | (at_lookup; refine wpList_lookup_own_ok _ rfl _ _ 74 rfl 9 114 strKeyed Tryz.underlying74 sesE (Tryz.zeroValue114 _) (sesD 0 0) [] rfl X.m1 n D rfl hown (.string (bs id)) (.string id) rfl hkey ?_; intro v ps hv; rw [k1] at hv; rw [k2]; obtain rfl := sesE_inv hv; unfold sesV)
          | (go_at_call 25; refine hII.mono ?_; rintro e w2 ⟨rfl, hC2⟩; have hCC := hCA.trans hC2; have hIsW := Hs.out _ hCC)
          | (go_at_call 55; refine hIsW.mono ?_; rintro e w3 ⟨rfl, rfl⟩))
        go_ret
        exact ⟨rfl, HTn.out _ hCC, hCC.mono fun _ _ x => x.elim⟩
end Go.Proofs.YtfhmmekamommcaaGreatDoor
