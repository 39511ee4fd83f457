/- A table's methods: with, Raise, Leave. (And: TabWith, TabOps.) -/
import Derived.Test.YtfhmmekamommcaaGreatDoorTabClo
/- A table's methods: with, Raise, Leave. -/
namespace Go.Proofs.YtfhmmekamommcaaGreatDoor
set_option linter.unusedVariables false
set_option linter.unusedSimpArgs false
open Go Go.RowKit Go.Proofs Go.Shelf
theorem wp_mapUpdate_run {P : Program} (w : World) {o : Oper} {a : Act} {K : Act → World → Prop} {Q : Exit → Act → World → Prop} (m x v : Operand) (t : TypeId) (ho : o.op = .mapUpdate t m x v) (mv xv vv : Value)
    (hm : a.eval m = mv) (hx : a.eval x = xv) (hv : a.eval v = vv) (w' : World) (hr : (Instr.mapUpdate t mv xv vv).run P w = .ok () w') (h : K (a.put o.dst undef) w') : o.wp P a w K Q := by
  unfold Oper.wp
  simp [execOp, ho, hm, hx, hv, hr, Result.andThen]
  exact h
theorem wp_lookup_run {P : Program} (w : World) {o : Oper} {a : Act} {K : Act → World → Prop} {Q : Exit → Act → World → Prop} (m x : Operand) (t : TypeId) (c : Bool) (ho : o.op = .lookup t m x c) (mv xv : Value)
    (hm : a.eval m = mv) (hx : a.eval x = xv) (v : Value) (hr : (Instr.lookup t mv xv c).run P w = .ok v w) (h : K (a.put o.dst v) w) : o.wp P a w K Q := by
  unfold Oper.wp
  simp [execOp, ho, hm, hx, hr, Result.andThen]
  exact h
/-- the one that may come up is a store into a map -/
theorem only_map {P : Program} {ops : Array Oper} {Q : Exit → Act → World → Prop} {S : World → Prop} {T : List Nat} (i : Nat) {fuel : Nat} {listed : Array Bool} {a : Act} {w : World} (m x v : Operand) (t : TypeId)
    (ho : (ops[i]?).map (fun o => (o.op, o.dst)) = some (.mapUpdate t m x v, none)) (hr : Region.ready .any ops listed = [i]) (hw : (ops[i]?).all (fun o => Region.wanted o (yielded ops a.tmps)) = true) (mv xv vv : Value)
    (hm : a.eval m = mv) (hx : a.eval x = xv) (hv : a.eval v = vv) (w' : World) (hrun : (Instr.mapUpdate t mv xv vv).run P w = .ok () w')
    (h : (i ∉ T → S w') ∧ anyT P .any ops Q S T fuel (listed.setIfInBounds i true) a w') : anyT P .any ops Q S T (fuel + 1) listed a w := by
  cases hi : ops[i]? with
  | none => rw [hi] at ho; cases ho
  | some oi =>
    rw [hi] at ho hw
    simp only [Option.map_some, Option.some.injEq, Prod.mk.injEq] at ho
    refine only_one i hi hr (by simpa using hw) ?_
    refine wp_mapUpdate_run w m x v t ho.1 mv xv vv hm hx hv w' hrun ?_
    rw [ho.2]
    exact h
/-- the one that may come up is a look-up in a map -/
theorem only_look {P : Program} {ops : Array Oper} {Q : Exit → Act → World → Prop} {S : World → Prop} {T : List Nat} (i : Nat) {fuel : Nat} {listed : Array Bool} {a : Act} {w : World} (m x : Operand) (t : TypeId) (c : Bool) (d : Nat)
    (ho : (ops[i]?).map (fun o => (o.op, o.dst)) = some (.lookup t m x c, some d)) (hr : Region.ready .any ops listed = [i]) (hw : (ops[i]?).all (fun o => Region.wanted o (yielded ops a.tmps)) = true) (mv xv v : Value)
    (hm : a.eval m = mv) (hx : a.eval x = xv) (hrun : (Instr.lookup t mv xv c).run P w = .ok v w)
    (h : (i ∉ T → S w) ∧ anyT P .any ops Q S T fuel (listed.setIfInBounds i true) (a.put (some d) v) w) : anyT P .any ops Q S T (fuel + 1) listed a w := by
  cases hi : ops[i]? with
  | none => rw [hi] at ho; cases ho
  | some oi =>
    rw [hi] at ho hw
    simp only [Option.map_some, Option.some.injEq, Prod.mk.injEq] at ho
    refine only_one i hi hr (by simpa using hw) ?_
    refine wp_lookup_run w m x t c ho.1 mv xv hm hx v hrun ?_
    rw [ho.2]
    exact h
theorem sesOf_set {L : List Ses} {id : List UInt8} {s : Ses} (h : sFind L id = some s) (lab : Int) {D : DataW Unit} (hD : Maps.IsMap D) (s1 : ∀ id, D.atKey (.string id) (sesD 0 0) = sesOf (sFind L id)) (s2 : ∀ id, Maps.has D (.string id) = (sFind L id).isSome) :
    (∀ i, (D.put (.string id) (sesD s.began lab)).atKey (.string i) (sesD 0 0) = sesOf (sFind (sSet L id lab) i)) ∧ ∀ i, Maps.has (D.put (.string id) (sesD s.began lab)) (.string i) = (sFind (sSet L id lab) i).isSome := by
  refine ⟨fun i => ?_, fun i => ?_⟩
  · rw [sFind_set]
    by_cases e : i = id
    · subst e
      rw [if_pos rfl, h, Maps.atKey_put_same hD (strK _)]
      rfl
    · rw [if_neg e, Maps.atKey_put_other (fun h => e (by injection h)), s1]
  · rw [sFind_set]
    by_cases e : i = id
    · subst e
      rw [if_pos rfl, h, Maps.has_put_same hD (strK _)]
      rfl
    · rw [if_neg e, Maps.has_put_other (fun h => e (by injection h)), s2]
theorem sesOf_del {L : List Ses} {id : List UInt8} {D : DataW Unit} (s1 : ∀ id, D.atKey (.string id) (sesD 0 0) = sesOf (sFind L id)) (s2 : ∀ id, Maps.has D (.string id) = (sFind L id).isSome) :
    (∀ i, (D.del (.string id)).atKey (.string i) (sesD 0 0) = sesOf (sFind (sDel L id) i)) ∧ ∀ i, Maps.has (D.del (.string id)) (.string i) = (sFind (sDel L id) i).isSome := by
  refine ⟨fun i => ?_, fun i => ?_⟩
  · rw [sFind_del]
    by_cases e : i = id
    · subst e
      rw [if_pos rfl, Maps.atKey_del_same]
      rfl
    · rw [if_neg e, Maps.atKey_del_other (fun h => e (by injection h)), s1]
  · rw [sFind_del]
    by_cases e : i = id
    · subst e
      rw [if_pos rfl, Maps.has_del_same]
      rfl
    · rw [if_neg e, Maps.has_del_other (fun h => e (by injection h)), s2]
theorem sSet_same {L : List Ses} (hL : SOk L) {id : List UInt8} {s : Ses} (h : sFind L id = some s) : sSet L id s.label = L := by
  unfold sSet
  refine (List.map_congr_left fun t ht => ?_).trans (List.map_id _)
  by_cases e : t.id = id
  · rw [if_pos e]
    have := sFind_mem hL ht
    rw [e, h] at this
    rw [Option.some.inj this]
    rfl
  · rw [if_neg e]; rfl
theorem TabAt.setS {w w' : World} {X : TX} {lv : Value} {L : List Ses} {n : Nat} (hT : TabAt w X lv L n) {id : List UInt8} {s : Ses} (hf : sFind L id = some s) (lab : Int) (hlab : I64 lab) {D : DataW Unit} (hD : Maps.IsMap D)
    (s1 : ∀ id, D.atKey (.string id) (sesD 0 0) = sesOf (sFind L id)) (s2 : ∀ id, Maps.has D (.string id) = (sFind L id).isSome) (hown : w'.ownsMap Tryz.prog 9 sesE X.m1 (n + 1) (D.put (.string id) (sesD s.began lab))) (hg : w.grownBy w' (some X.m1)) :
    TabAt w' X lv (sSet L id lab) (n + 1) := by
  obtain ⟨j1, j2⟩ := sesOf_set hf lab hD s1 s2
  obtain ⟨D2, o2, s3⟩ := hT.cnt
  refine ⟨hT.ok.set id lab, grown_keep hg hT.box (fun e => hT.bne.1 (by injection e with e; exact e.symm)), ⟨_, hown, j1, j2⟩, ⟨D2, (o2.mono (Nat.le_succ n)).kept hg (fun e => hT.ne (by injection e with e; exact e.symm)), fun a => by rw [sCount_set]; exact s3 a⟩, ?_, ?_, hT.ne⟩
  · intro t ht
    obtain ⟨u, hu, rfl⟩ := List.mem_map.1 ht
    have := hT.lab u hu
    split
    · exact ⟨this.1, hlab⟩
    · exact this
  · unfold sSet
    rw [List.length_map]
    exact Nat.le_succ_of_le hT.few
/-- with, of a session that is not there -/
theorem twith_none {w : World} {X : TX} {la : Nat} {L : List Ses} {n : Nat} (hT : TabAt w X (latp la) L n) (id : List UInt8) (hid : id.length ≤ 1000000000) (hf : sFind L id = none) (fv : Value) :
    Calls Tryz.prog 56 #[X.p, .string (bs id), fv] w fun e w' => e = .returned (.int .i64 31) ∧ Chg (fun _ => False) w w' := by
  have hn := tnone_any hT.c0
  obtain ⟨D, hown, s1, s2⟩ := hT.ses
  have hc1 := hT.c1
  have hkey := key_id id hid
  have k1 := s1 id
  have k2 := s2 id
  rw [hf] at k1 k2
  clear s1 s2 hT
  unfold TX.p at *
  go_enter Tryz.func56, Tryz.ntmps56
  go_wp2_with (first
    | (go_at_call 54; refine hn.mono ?_; rintro e w1 ⟨rfl, rfl⟩)
    | (at_lookup; refine wpList_lookup_own_ok _ rfl _ _ 74 rfl 9 114 strKeyed Tryz.underlying74 sesE (Tryz.zeroValue114 _) (sesD 0 0) [] rfl X.m1 n D rfl hown (.string (bs id)) (.string id) rfl hkey ?_; intro v ps hv; rw [k1] at hv; rw [k2]; obtain rfl := sesE_inv hv; unfold sesV))
  go_ret
  exact ⟨rfl, (Chg.refl _ _).alloc _⟩
set_option maxRecDepth 100000 in
set_option maxHeartbeats 8000000 in
/-- with, handed stay -/
theorem twith_stay {w : World} {X : TX} {la : Nat} {L : List Ses} {n : Nat} (hT : TabAt w X (latp la) L n) (id : List UInt8) (hid : id.length ≤ 1000000000) (s : Ses) (hf : sFind L id = some s) (hn1 : n < 1000000000) :
    Calls Tryz.prog 56 #[X.p, .string (bs id), .func (.func 57) #[] #[]] w fun e w' => e = .returned (.int .i64 0) ∧ TabAt w' X (latp la) (sSet L id (s.label)) (n + 1) ∧ Chg X.Maps w w' := by
  have hn := tnone_any hT.c0
  obtain ⟨D, hown, s1, s2⟩ := hT.ses
  have hc1 := hT.c1
  have hkey := key_id id hid
  have k1 := s1 id
  have k2 := s2 id
  rw [hf] at k1 k2
  have HS := Lib.hid (And.intro s1 s2)
  have HT := Lib.hid hT
  have HNX : Hid (n < maxLen) := Lib.hid (Nat.lt_trans hn1 (by decide))
  have hmem := (sFind_some hf).1
  have hlb := HT.out.lab s hmem
  have hA := (Chg.refl (fun _ => False) w).alloc (.cells #[.int .i64 s.began, .int .i64 s.label] 114)
  have hnb := heap_new w (.cells #[.int .i64 s.began, .int .i64 s.label] 114)
  have hg := stay_any (w.alloc (.cells #[.int .i64 s.began, .int .i64 s.label] 114)) s.began s.label
  have HLB := Lib.hid hlb
  have HHA := Lib.hid hA
  have HNB := Lib.hid hnb
  clear s1 s2 hT hn1 hmem hlb hA hnb
  unfold TX.p sesV at *
  go_enter Tryz.func56, Tryz.ntmps56
  go_upto_region 7 with (first
    | (go_at_call 54; refine hn.mono ?_; rintro e w1 ⟨rfl, rfl⟩)
    | (at_lookup; refine wpList_lookup_own_ok _ rfl _ _ 74 rfl 9 114 strKeyed Tryz.underlying74 sesE (Tryz.zeroValue114 _) (sesD 0 0) [] rfl X.m1 n D rfl hown (.string (bs id)) (.string id) rfl hkey ?_; intro v ps hv; rw [k1] at hv; rw [k2]; obtain rfl := sesE_inv hv; unfold sesV)
    | (go_at_call 57; refine hg.mono ?_; rintro e w2 ⟨rfl, hC2⟩))
  have hC3 := (HHA.out.trans hC2).alloc (.cells #[.int .i64 s.began, .int .i64 (s.label)] 114)
  have hb3 := heap_new w2 (.cells #[.int .i64 s.began, .int .i64 (s.label)] 114)
  have hTW := HT.out.same hC3
  have b1 := hTW.c1
  have b2 := cell_of_heap hb3 0
  have b3 := cell_of_heap hb3 1
  simp only [List.getElem?_toArray, List.getElem?_cons_zero, List.getElem?_cons_succ] at b2 b3
  have hL64 : I64 (s.label) := HLB.out.2
  have HL64 := Lib.hid hL64
  have hC3d := hC3.drew
  have hTWd := HT.out.same hC3d
  have hownW := (hown.mono (Nat.le_refl n))
  have hownW : (w2.alloc (.cells #[.int .i64 s.began, .int .i64 (s.label)] 114)).drew.ownsMap Tryz.prog 9 sesE X.m1 n D := by
    obtain ⟨es, cl, hb, F, r⟩ := hown
    exact ⟨es, cl, (hC3d.block _ (HT.out.lt (.inr (.inl rfl))) (fun x => x)).trans hb, F, r⟩
  have HTW := Lib.hid hTWd
  have HC3 := Lib.hid hC3d
  clear hTW hTWd hC3 hC3d hC2 hg hL64 hb3 hown
  generalize w2.heap.size = G9 at *
  generalize hlabE : (s.label) = lab at *
  generalize (w2.alloc (.cells #[.int .i64 s.began, .int .i64 lab] 114)) = W3 at *
  have HKEY := Lib.hid hkey
  have HOWN := Lib.hid hownW
  clear k1 k2 hv hn hc1 hkey hownW
  obtain ⟨w4, hrun, hown4, hgrow4⟩ := HOWN.out.update strKeyed Tryz.underlying74 HNX.out HKEY.out (sesE_mk s.began lab)
  have HO4 := Lib.hid hown4
  have HG4 := Lib.hid hgrow4
  have HRUN := Lib.hid hrun
  clear hrun hown4 hgrow4
  go_upto_region 8 with fail
  refine region_lone (fun W => W.cell? ⟨X.b, 1, none⟩ = some (.map (some X.m1)) ∧ W.cell? ⟨G9, 0, none⟩ = some (.int .i64 s.began) ∧ W.cell? ⟨G9, 1, none⟩ = some (.int .i64 lab)) [6] (by kernel_rfl) ?_
  have hS : W3.drew.cell? ⟨X.b, 1, none⟩ = some (.map (some X.m1)) ∧ W3.drew.cell? ⟨G9, 0, none⟩ = some (.int .i64 s.began) ∧ W3.drew.cell? ⟨G9, 1, none⟩ = some (.int .i64 lab) := ⟨b1, b2, b3⟩
  refine take_one 0 hS rfl (by kernel_rfl) rfl ?_
  apply Exists.intro
  refine And.intro (fun W' hS' => ?y0) (And.intro (fun _ _ _ h => h) ?_)
  case y0 => obtain ⟨d1, d2, d3⟩ := hS'; go_simp; rfl
  refine take_one 1 hS rfl (by kernel_rfl) rfl ?_
  apply Exists.intro
  refine And.intro (fun W' hS' => ?y1) (And.intro (fun _ _ _ h => h) ?_)
  case y1 => obtain ⟨d1, d2, d3⟩ := hS'; go_simp; rfl
  refine take_one 2 hS rfl (by kernel_rfl) rfl ?_
  apply Exists.intro
  refine And.intro (fun W' hS' => ?y2) (And.intro (fun _ _ _ h => h) ?_)
  case y2 => obtain ⟨d1, d2, d3⟩ := hS'; go_simp; rfl
  refine take_one 3 hS rfl (by kernel_rfl) rfl ?_
  apply Exists.intro
  refine And.intro (fun W' hS' => ?y3) (And.intro (fun _ _ _ h => h) ?_)
  case y3 => obtain ⟨d1, d2, d3⟩ := hS'; go_simp; rfl
  refine take_one 4 hS rfl (by kernel_rfl) rfl ?_
  apply Exists.intro
  refine And.intro (fun W' hS' => ?y4) (And.intro (fun _ _ _ h => h) ?_)
  case y4 => obtain ⟨d1, d2, d3⟩ := hS'; go_simp; rfl
  refine take_one 5 hS rfl (by kernel_rfl) rfl ?_
  refine Exists.intro (.agg #[.int .i64 s.began, .int .i64 lab]) ?_
  refine And.intro (fun W' hS' => ?y5) (And.intro (fun _ _ _ h => h) ?_)
  case y5 => obtain ⟨d1, d2, d3⟩ := hS'; go_simp
  refine only_map 6 (.tmp 34) (.tmp 35) (.tmp 36) 74 (by kernel_rfl) (by kernel_rfl) (by kernel_rfl) (.map (some X.m1)) (.string (bs id)) (sesV s.began lab) (by kernel_rfl) (by kernel_rfl) (by kernel_rfl) w4 HRUN.out ?_
  refine ⟨fun h => absurd (List.mem_singleton.2 rfl) h, ?_⟩
  refine all_done (by kernel_rfl) ?_ _
  go_wp2_with fail
  go_ret
  rw [hlabE]
  exact ⟨rfl, HTW.out.setS hf lab HL64.out (own_isMap HOWN.out) HS.out.1 HS.out.2 HO4.out HG4.out, (HC3.out.mono fun _ _ x => x.elim).grown HG4.out (fun k e => .inl (.inl (by injection e with e; exact e.symm)))⟩
set_option maxRecDepth 100000 in
set_option maxHeartbeats 8000000 in
/-- with, handed Raise$1 -/
theorem twith_raise {w : World} {X : TX} {la : Nat} {L : List Ses} {n : Nat} (hT : TabAt w X (latp la) L n) (id : List UInt8) (hid : id.length ≤ 1000000000) (s : Ses) (hf : sFind L id = some s) (hn1 : n < 1000000000) {base : Nat} {N : List (List UInt8)} {R : Nat → Nat → Bool} (hL : IsLat w base la N R) (hl10 : N.length ≤ 10) {Bt Ba : Nat} {a : Int} (ht : w.cell? ⟨Bt, 0, none⟩ = some X.p) (ha : w.cell? ⟨Ba, 0, none⟩ = some (.int .i64 a)) (hJ : I64 (lJoin N.length R s.label a)) :
    Calls Tryz.prog 56 #[X.p, .string (bs id), .func (.func 58) #[] #[.pointer (some ⟨Bt, 0, none⟩), .pointer (some ⟨Ba, 0, none⟩)]] w fun e w' => e = .returned (.int .i64 0) ∧ TabAt w' X (latp la) (sSet L id (lJoin N.length R s.label a)) (n + 1) ∧ Chg X.Maps w w' := by
  have hn := tnone_any hT.c0
  obtain ⟨D, hown, s1, s2⟩ := hT.ses
  have hc1 := hT.c1
  have hkey := key_id id hid
  have k1 := s1 id
  have k2 := s2 id
  rw [hf] at k1 k2
  have HS := Lib.hid (And.intro s1 s2)
  have HT := Lib.hid hT
  have HNX : Hid (n < maxLen) := Lib.hid (Nat.lt_trans hn1 (by decide))
  have hmem := (sFind_some hf).1
  have hlb := HT.out.lab s hmem
  have hA := (Chg.refl (fun _ => False) w).alloc (.cells #[.int .i64 s.began, .int .i64 s.label] 114)
  have hnb := heap_new w (.cells #[.int .i64 s.began, .int .i64 s.label] 114)
  have hg := raise1_any (hL.cells hA.same_cells) hl10 (two_cells HT.out.c0) (two_cells ht) (two_cells ha) s.began s.label
  have HLB := Lib.hid hlb
  have HHA := Lib.hid hA
  have HNB := Lib.hid hnb
  clear s1 s2 hT hn1 hmem hlb hA hnb
  unfold TX.p sesV at *
  go_enter Tryz.func56, Tryz.ntmps56
  go_upto_region 7 with (first
    | (go_at_call 54; refine hn.mono ?_; rintro e w1 ⟨rfl, rfl⟩)
    | (at_lookup; refine wpList_lookup_own_ok _ rfl _ _ 74 rfl 9 114 strKeyed Tryz.underlying74 sesE (Tryz.zeroValue114 _) (sesD 0 0) [] rfl X.m1 n D rfl hown (.string (bs id)) (.string id) rfl hkey ?_; intro v ps hv; rw [k1] at hv; rw [k2]; obtain rfl := sesE_inv hv; unfold sesV)
    | (go_at_call 58; refine hg.mono ?_; rintro e w2 ⟨rfl, hC2⟩))
  have hC3 := (HHA.out.trans hC2).alloc (.cells #[.int .i64 s.began, .int .i64 (lJoin N.length R s.label a)] 114)
  have hb3 := heap_new w2 (.cells #[.int .i64 s.began, .int .i64 (lJoin N.length R s.label a)] 114)
  have hTW := HT.out.same hC3
  have b1 := hTW.c1
  have b2 := cell_of_heap hb3 0
  have b3 := cell_of_heap hb3 1
  simp only [List.getElem?_toArray, List.getElem?_cons_zero, List.getElem?_cons_succ] at b2 b3
  have hL64 : I64 (lJoin N.length R s.label a) := hJ
  have HL64 := Lib.hid hL64
  have hC3d := hC3.drew
  have hTWd := HT.out.same hC3d
  have hownW := (hown.mono (Nat.le_refl n))
  have hownW : (w2.alloc (.cells #[.int .i64 s.began, .int .i64 (lJoin N.length R s.label a)] 114)).drew.ownsMap Tryz.prog 9 sesE X.m1 n D := by
    obtain ⟨es, cl, hb, F, r⟩ := hown
    exact ⟨es, cl, (hC3d.block _ (HT.out.lt (.inr (.inl rfl))) (fun x => x)).trans hb, F, r⟩
  have HTW := Lib.hid hTWd
  have HC3 := Lib.hid hC3d
  clear hTW hTWd hC3 hC3d hC2 hg hL64 hb3 hown
  generalize w2.heap.size = G9 at *
  generalize hlabE : (lJoin N.length R s.label a) = lab at *
  generalize (w2.alloc (.cells #[.int .i64 s.began, .int .i64 lab] 114)) = W3 at *
  have HKEY := Lib.hid hkey
  have HOWN := Lib.hid hownW
  clear k1 k2 hv hn hc1 hkey hownW
  obtain ⟨w4, hrun, hown4, hgrow4⟩ := HOWN.out.update strKeyed Tryz.underlying74 HNX.out HKEY.out (sesE_mk s.began lab)
  have HO4 := Lib.hid hown4
  have HG4 := Lib.hid hgrow4
  have HRUN := Lib.hid hrun
  clear hrun hown4 hgrow4
  go_upto_region 8 with fail
  refine region_lone (fun W => W.cell? ⟨X.b, 1, none⟩ = some (.map (some X.m1)) ∧ W.cell? ⟨G9, 0, none⟩ = some (.int .i64 s.began) ∧ W.cell? ⟨G9, 1, none⟩ = some (.int .i64 lab)) [6] (by kernel_rfl) ?_
  have hS : W3.drew.cell? ⟨X.b, 1, none⟩ = some (.map (some X.m1)) ∧ W3.drew.cell? ⟨G9, 0, none⟩ = some (.int .i64 s.began) ∧ W3.drew.cell? ⟨G9, 1, none⟩ = some (.int .i64 lab) := ⟨b1, b2, b3⟩
  refine take_one 0 hS rfl (by kernel_rfl) rfl ?_
  apply Exists.intro
  refine And.intro (fun W' hS' => ?y0) (And.intro (fun _ _ _ h => h) ?_)
  case y0 => obtain ⟨d1, d2, d3⟩ := hS'; go_simp; rfl
  refine take_one 1 hS rfl (by kernel_rfl) rfl ?_
  apply Exists.intro
  refine And.intro (fun W' hS' => ?y1) (And.intro (fun _ _ _ h => h) ?_)
  case y1 => obtain ⟨d1, d2, d3⟩ := hS'; go_simp; rfl
  refine take_one 2 hS rfl (by kernel_rfl) rfl ?_
  apply Exists.intro
  refine And.intro (fun W' hS' => ?y2) (And.intro (fun _ _ _ h => h) ?_)
  case y2 => obtain ⟨d1, d2, d3⟩ := hS'; go_simp; rfl
  refine take_one 3 hS rfl (by kernel_rfl) rfl ?_
  apply Exists.intro
  refine And.intro (fun W' hS' => ?y3) (And.intro (fun _ _ _ h => h) ?_)
  case y3 => obtain ⟨d1, d2, d3⟩ := hS'; go_simp; rfl
  refine take_one 4 hS rfl (by kernel_rfl) rfl ?_
  apply Exists.intro
  refine And.intro (fun W' hS' => ?y4) (And.intro (fun _ _ _ h => h) ?_)
  case y4 => obtain ⟨d1, d2, d3⟩ := hS'; go_simp; rfl
  refine take_one 5 hS rfl (by kernel_rfl) rfl ?_
  refine Exists.intro (.agg #[.int .i64 s.began, .int .i64 lab]) ?_
  refine And.intro (fun W' hS' => ?y5) (And.intro (fun _ _ _ h => h) ?_)
  case y5 => obtain ⟨d1, d2, d3⟩ := hS'; go_simp
  refine only_map 6 (.tmp 34) (.tmp 35) (.tmp 36) 74 (by kernel_rfl) (by kernel_rfl) (by kernel_rfl) (.map (some X.m1)) (.string (bs id)) (sesV s.began lab) (by kernel_rfl) (by kernel_rfl) (by kernel_rfl) w4 HRUN.out ?_
  refine ⟨fun h => absurd (List.mem_singleton.2 rfl) h, ?_⟩
  refine all_done (by kernel_rfl) ?_ _
  go_wp2_with fail
  go_ret
  rw [hlabE]
  exact ⟨rfl, HTW.out.setS hf lab HL64.out (own_isMap HOWN.out) HS.out.1 HS.out.2 HO4.out HG4.out, (HC3.out.mono fun _ _ x => x.elim).grown HG4.out (fun k e => .inl (.inl (by injection e with e; exact e.symm)))⟩
set_option maxRecDepth 100000 in
set_option maxHeartbeats 8000000 in
/-- with, handed Leave's -/
theorem twith_leave {w : World} {X : TX} {la : Nat} {L : List Ses} {n : Nat} (hT : TabAt w X (latp la) L n) (id : List UInt8) (hid : id.length ≤ 1000000000) (s : Ses) (hf : sFind L id = some s) (hn1 : n < 1000000000) :
    Calls Tryz.prog 56 #[X.p, .string (bs id), .func (.func 68) #[] #[]] w fun e w' => e = .returned (.int .i64 0) ∧ TabAt w' X (latp la) (sDel L id) (n + 1) ∧ Chg X.Maps w w' := by
  have hn := tnone_any hT.c0
  obtain ⟨D, hown, s1, s2⟩ := hT.ses
  have hc1 := hT.c1
  have hkey := key_id id hid
  have k1 := s1 id
  have k2 := s2 id
  rw [hf] at k1 k2
  have HS := Lib.hid (And.intro s1 s2)
  have HT := Lib.hid hT
  have HNX : Hid (n < maxLen) := Lib.hid (Nat.lt_trans hn1 (by decide))
  have hmem := (sFind_some hf).1
  have hlb := HT.out.lab s hmem
  have hA := (Chg.refl (fun _ => False) w).alloc (.cells #[.int .i64 s.began, .int .i64 s.label] 114)
  have hnb := heap_new w (.cells #[.int .i64 s.began, .int .i64 s.label] 114)
  have hg := leave1_any (w.alloc (.cells #[.int .i64 s.began, .int .i64 s.label] 114)) s.began s.label
  have HLB := Lib.hid hlb
  have HHA := Lib.hid hA
  have HNB := Lib.hid hnb
  clear s1 s2 hT hn1 hmem hlb hA hnb
  unfold TX.p sesV at *
  go_enter Tryz.func56, Tryz.ntmps56
  go_upto_region 7 with (first
    | (go_at_call 54; refine hn.mono ?_; rintro e w1 ⟨rfl, rfl⟩)
    | (at_lookup; refine wpList_lookup_own_ok _ rfl _ _ 74 rfl 9 114 strKeyed Tryz.underlying74 sesE (Tryz.zeroValue114 _) (sesD 0 0) [] rfl X.m1 n D rfl hown (.string (bs id)) (.string id) rfl hkey ?_; intro v ps hv; rw [k1] at hv; rw [k2]; obtain rfl := sesE_inv hv; unfold sesV)
    | (go_at_call 68; refine hg.mono ?_; rintro e w2 ⟨rfl, hC2⟩))
  have hC3 := (HHA.out.trans hC2).alloc (.cells #[.int .i64 s.began, .int .i64 s.label] 114)
  have hTW := HT.out.same hC3
  have b1 := hTW.c1
  have b2 := hTW.c2
  have b3 : (w2.alloc (.cells #[.int .i64 s.began, .int .i64 s.label] 114)).cell? ⟨w1.heap.size, 0, none⟩ = some (.int .i64 s.began) := (hC2.alloc _).cell (cell_of_heap HNB.out 0) (fun x => x)
  have hownW : (w2.alloc (.cells #[.int .i64 s.began, .int .i64 s.label] 114)).ownsMap Tryz.prog 9 sesE X.m1 n D := by
    obtain ⟨es, cl, hb, F, r⟩ := hown
    exact ⟨es, cl, (hC3.block _ (HT.out.lt (.inr (.inl rfl))) (fun x => x)).trans hb, F, r⟩
  have HTW := Lib.hid hTW
  have HC3 := Lib.hid hC3
  have hbne := hTW.bne
  have hmne := hTW.ne
  clear hTW hC3 hC2 hg hown k1 k2 hv hn hc1
  generalize w2.heap.size = G9 at *
  generalize (w2.alloc (.cells #[.int .i64 s.began, .int .i64 s.label] 114)) = W3 at *
  have z0 := lt_of_heap HNB.out
  go_upto_region 10 with (first
    | (at_delete; refine wpList_delete_own _ rfl _ _ 74 9 rfl 114 strKeyed Tryz.underlying74 sesE X.m1 n D rfl hownW (.string (bs id)) (.string id) rfl hkey ?_; intro w4 hown4 hturn4))
  have hg4 := hturn4.grown
  obtain ⟨D2, o2, s3⟩ := HTW.out.cnt
  have o24 := (o2.kept hg4 (fun e => hmne (by injection e with e; exact e.symm)))
  have hbox4 := grown_keep hg4 HTW.out.box (fun e => hbne.1 (by injection e with e; exact e.symm))
  have d20 := cell_of_heap hbox4 2
  simp only [List.getElem?_toArray, List.getElem?_cons_zero, List.getElem?_cons_succ] at d20
  have hCm : Chg (fun k => k = X.m1) W3 w4 := (Chg.refl _ _).grown hg4 (fun k e => .inl (by injection e with e; exact e.symm))
  have d30 := hCm.cell b3 (fun (e : w1.heap.size = X.m1) => absurd (HT.out.lt (.inr (.inl rfl))) (by omega))
  obtain ⟨cn, hlook, hat, _⟩ := o24.drew.lookup_int labKeyed Tryz.underlying75 Tryz.underlying3 (Tryz.zeroValue3 _) (key_lab HLB.out.1)
  rw [s3] at hat
  have hcn : ((sCount L s.began : Nat) : Int) = cn := by simpa using hat
  have hdel := sCount_del HT.out.ok hf s.began
  rw [if_pos rfl] at hdel
  have hcle : sCount L s.began ≤ n := Nat.le_trans (sCount_le L _) HT.out.few
  have hnm := HNX.out
  obtain ⟨z1, hz1⟩ : ∃ z1 : Int, z1 = ((sCount (sDel L id) s.began : Nat) : Int) := ⟨_, rfl⟩
  have hwr : IntKind.i64.wrap (cn - 1) = z1 := by
    have : n < 9223372036854775807 := hnm
    rw [IntWalk.i64_in _ ⟨by omega, by omega⟩]; omega
  have hwf : (Lit.int .i64 z1).wf = true := by
    have : n < 9223372036854775807 := hnm
    exact wf_i64 ⟨by omega, by omega⟩
  obtain ⟨w5, hrun, hown5, hgrow5⟩ := o24.drew.update labKeyed Tryz.underlying75 HNX.out (key_lab HLB.out.1) (plainElem_int Tryz.underlying3 hwf)
  have HLOOK := Lib.hid hlook
  have HRUN := Lib.hid hrun
  have HS5 := Lib.hid s3
  have HZ := Lib.hid hz1
  have HO4 := Lib.hid hown4
  have HO5 := Lib.hid hown5
  have HG4 := Lib.hid hg4
  have HG5 := Lib.hid hgrow5
  have HB4 := Lib.hid hbox4
  have HO24 := Lib.hid o24
  have HDEL := Lib.hid hdel
  have HCM := Lib.hid hCm
  clear hat hcn hdel hcle hnm hz1 hwf hrun hlook hown4 hown5 hg4 hgrow5 hbox4 o24 o2 s3 hturn4 hownW b1 b2 b3 hkey hCm
  refine region_lone (fun W => W.cell? ⟨X.b, 2, none⟩ = some (.map (some X.m2)) ∧ W.cell? ⟨w1.heap.size, 0, none⟩ = some (.int .i64 s.began) ∧ True) [8] (by kernel_rfl) ?_
  have hS : w4.drew.cell? ⟨X.b, 2, none⟩ = some (.map (some X.m2)) ∧ w4.drew.cell? ⟨w1.heap.size, 0, none⟩ = some (.int .i64 s.began) ∧ True := ⟨d20, d30, trivial⟩
  refine take_one 0 hS rfl (by kernel_rfl) rfl ?_
  apply Exists.intro
  refine And.intro (fun W' hS' => ?y0) (And.intro (fun _ _ _ h => h) ?_)
  case y0 => obtain ⟨d1, d2, d3⟩ := hS'; go_simp; rfl
  refine take_one 1 hS rfl (by kernel_rfl) rfl ?_
  apply Exists.intro
  refine And.intro (fun W' hS' => ?y1) (And.intro (fun _ _ _ h => h) ?_)
  case y1 => obtain ⟨d1, d2, d3⟩ := hS'; go_simp; rfl
  refine take_one 2 hS rfl (by kernel_rfl) rfl ?_
  apply Exists.intro
  refine And.intro (fun W' hS' => ?y2) (And.intro (fun _ _ _ h => h) ?_)
  case y2 => obtain ⟨d1, d2, d3⟩ := hS'; go_simp; rfl
  refine take_one 3 hS rfl (by kernel_rfl) rfl ?_
  apply Exists.intro
  refine And.intro (fun W' hS' => ?y3) (And.intro (fun _ _ _ h => h) ?_)
  case y3 => obtain ⟨d1, d2, d3⟩ := hS'; go_simp; rfl
  refine take_one 4 hS rfl (by kernel_rfl) rfl ?_
  apply Exists.intro
  refine And.intro (fun W' hS' => ?y4) (And.intro (fun _ _ _ h => h) ?_)
  case y4 => obtain ⟨d1, d2, d3⟩ := hS'; go_simp; rfl
  refine take_one 5 hS rfl (by kernel_rfl) rfl ?_
  apply Exists.intro
  refine And.intro (fun W' hS' => ?y5) (And.intro (fun _ _ _ h => h) ?_)
  case y5 => obtain ⟨d1, d2, d3⟩ := hS'; go_simp; rfl
  refine only_look 6 (.tmp 45) (.tmp 47) 75 false 48 (by kernel_rfl) (by kernel_rfl) (by kernel_rfl) (.map (some X.m2)) (.int .i64 s.began) (.int .i64 cn) (by kernel_rfl) (by kernel_rfl) HLOOK.out ?_
  refine ⟨fun _ => hS, ?_⟩
  refine take_one 7 hS rfl (by kernel_rfl) rfl ?_
  apply Exists.intro
  refine And.intro (fun W' hS' => ?y7) (And.intro (fun _ _ _ h => h) ?_)
  case y7 => obtain ⟨d1, d2, d3⟩ := hS'; go_simp; rfl
  refine only_map 8 (.tmp 45) (.tmp 47) (.tmp 49) 75 (by kernel_rfl) (by kernel_rfl) (by kernel_rfl) (.map (some X.m2)) (.int .i64 s.began) (.int .i64 z1) (by kernel_rfl) (by kernel_rfl) (by kernel_rfl) w5 HRUN.out ?_
  refine ⟨fun h => absurd (List.mem_singleton.2 rfl) h, ?_⟩
  refine all_done (by kernel_rfl) ?_ _
  go_wp2_with fail
  go_ret
  obtain ⟨j1, j2⟩ := sesOf_del (id := id) HS.out.1 HS.out.2
  refine ⟨rfl, ⟨HT.out.ok.del id, grown_keep HG5.out HB4.out (fun e => hbne.2 (by injection e with e; exact e.symm)), ⟨_, (HO4.out.drew.mono (Nat.le_succ n)).kept HG5.out (fun e => hmne (by injection e)), j1, j2⟩, ⟨_, HO5.out, cnt_put (own_isMap HO24.out) HS5.out HZ.out (fun b hb => ?_)⟩, ?_, ?_, hmne⟩, ?_⟩
  · have := sCount_del HT.out.ok hf b
    rw [if_neg (fun e => hb e.symm)] at this
    exact this
  · exact fun t ht => HT.out.lab t (List.mem_filter.1 ht).1
  · exact Nat.le_trans (len_del id) (Nat.le_succ_of_le HT.out.few)
  · exact ((HC3.out.mono fun _ _ x => x.elim).grown HG4.out (fun k e => .inl (.inl (by injection e with e; exact e.symm)))).drew.grown HG5.out (fun k e => .inl (.inr (by injection e with e; exact e.symm)))
end Go.Proofs.YtfhmmekamommcaaGreatDoor

/- A table's methods: Raise, Leave, New. -/
namespace Go.Proofs.YtfhmmekamommcaaGreatDoor
set_option linter.unusedVariables false
set_option linter.unusedSimpArgs false
open Go Go.RowKit Go.Proofs Go.Shelf
theorem lastF_i64 (n : Nat) (R : Nat → Nat → Bool) (x0 : Int) (hx : -1 ≤ x0 ∧ x0 ≤ 1000) : ∀ k, k ≤ 1000 → -1 ≤ lastF n R x0 k ∧ lastF n R x0 k ≤ 1000
  | 0, _ => hx
  | k + 1, hk => by
    unfold lastF
    rw [List.range_succ, List.foldl_append]
    have := lastF_i64 n R x0 hx k (by omega)
    unfold lastF at this
    simp only [List.foldl_cons, List.foldl_nil]
    split
    · omega
    · exact this
theorem lJoin_i64 (n : Nat) (hn : n ≤ 10) (R : Nat → Nat → Bool) (x y : Int) : I64 (lJoin n R x y) := by
  have h : -1 ≤ lJoin n R x y ∧ lJoin n R x y ≤ 1000 := by
    unfold lJoin
    split
    · unfold joinD firstD
      split
      · rename_i c hc
        have := List.mem_of_find?_eq_some hc
        have := List.mem_range.1 this
        omega
      · omega
    · exact lastF_i64 _ _ _ (by omega) _ (by omega)
  unfold I64
  omega
/-- what Raise answers, and what is there then -/
def raE (m : Nat) (L : List Ses) (id : List UInt8) (a : Int) : Int := if (sFind L id).isSome = true then (if inB m a then 0 else 9) else 31
def raL (m : Nat) (R : Nat → Nat → Bool) (L : List Ses) (id : List UInt8) (a : Int) : List Ses := match sFind L id with
  | none => L
  | some s => if inB m a then sSet L id (lJoin m R s.label a) else L
set_option maxRecDepth 100000 in
set_option maxHeartbeats 4000000 in
/-- Raise -/
theorem traise_any {w : World} {X : TX} {base la : Nat} {N : List (List UInt8)} {R : Nat → Nat → Bool} {L : List Ses} {n : Nat} (hT : TabAt w X (latp la) L n) (hL : IsLat w base la N R) (hl10 : N.length ≤ 10) (id : List UInt8) (hid : id.length ≤ 1000000000) (a : Int) (hn1 : n + 1 < 1000000000) :
    Calls Tryz.prog 16 #[X.p, .string (bs id), .int .i64 a] w fun e w' => e = .returned (.int .i64 (raE N.length L id a)) ∧ TabAt w' X (latp la) (raL N.length R L id a) (n + 2) ∧ Chg X.Maps w w' := by
  have hA := ((Chg.refl (fun _ => False) w).alloc (.cells #[X.p] 25)).alloc (.cells #[.int .i64 a] 34)
  have hTA := hT.same hA
  have g1 : ((w.alloc (.cells #[X.p] 25)).alloc (.cells #[.int .i64 a] 34)).heap[w.heap.size]? = some (.cells #[X.p] 25 (0, 0)) := heap_alloc (heap_new _ _)
  have g2 : ((w.alloc (.cells #[X.p] 25)).alloc (.cells #[.int .i64 a] 34)).heap[w.heap.size + 1]? = some (.cells #[.int .i64 a] 34 (0, 0)) := by
    have := heap_new (w.alloc (.cells #[X.p] 25)) (.cells #[.int .i64 a] 34)
    rwa [World.size_alloc] at this
  have f1 := cell_of_heap g1 0
  have f2 := cell_of_heap g2 0
  simp only [List.getElem?_toArray, List.getElem?_cons_zero] at f1 f2
  unfold raE raL
  cases hf : sFind L id with
  | none =>
    have hw := twith_none hTA id hid hf (.func (.func 57) #[] #[])
    have HTA := Lib.hid hTA
    have HHA := Lib.hid hA
    clear hTA hA hT hL g1 g2
    simp only [Option.isSome_none, Bool.false_eq_true, if_false]
    unfold TX.p at *
    go_enter Tryz.func16, Tryz.ntmps16
    go_wp2_with (first
      | (go_at_call 56; refine hw.mono ?_; rintro e w2 ⟨rfl, hC2⟩))
    go_ret
    exact ⟨rfl, (HTA.out.same hC2).mono (by omega), (HHA.out.trans hC2).mono fun _ _ x => x.elim⟩
  | some s =>
    simp only [Option.isSome_some, if_true]
    have hw := twith_stay hTA id hid s hf (by omega)
    rw [sSet_same hT.ok hf] at hw
    have hL2 := hL.cells hA.same_cells
    have HL2 := Lib.hid hL2
    have HTA := Lib.hid hTA
    have HHA := Lib.hid hA
    have HG1 := Lib.hid g1
    have HG2 := Lib.hid g2
    clear hTA hA hT hL g1 g2 hL2
    generalize hW1 : ((w.alloc (.cells #[X.p] 25)).alloc (.cells #[.int .i64 a] 34)) = W1 at *
    have HW1 := Lib.hid hW1
    clear hW1
    have t1 : True := trivial
    by_cases hb : inB N.length a
    · rw [if_pos hb, if_pos hb]
      have hx : ∀ w2 : World, TabAt w2 X (latp la) L (n + 1) → Chg X.Maps W1 w2 →
          (Calls Tryz.prog 55 #[X.p, .int .i64 a] w2 fun e w' => e = .returned (.bool true) ∧ w' = w2) ∧
          (Calls Tryz.prog 56 #[X.p, .string (bs id), .func (.func 58) #[] #[.pointer (some ⟨w.heap.size, 0, none⟩), .pointer (some ⟨w.heap.size + 1, 0, none⟩)]] w2 fun e w' => e = .returned (.int .i64 0) ∧ TabAt w' X (latp la) (sSet L id (lJoin N.length R s.label a)) (n + 1 + 1) ∧ Chg X.Maps w2 w') ∧
          w2.cell? ⟨w.heap.size, 0, none⟩ = some X.p ∧ w2.cell? ⟨w.heap.size + 1, 0, none⟩ = some (.int .i64 a) := by
        intro w2 h2 hC
        have hk := HTA.out.cellsKept hC
        have hl := HL2.out.cells hk
        have i1 := tis_any hl h2.c0 a
        rw [show decide (inB N.length a) = true from decide_eq_true hb] at i1
        have q1 := cell_of_heap (hk _ _ _ _ HG1.out) 0
        have q2 := cell_of_heap (hk _ _ _ _ HG2.out) 0
        exact ⟨i1, twith_raise h2 id hid s hf (by omega) hl hl10 q1 q2 (lJoin_i64 _ hl10 _ _ _), q1, q2⟩
      have HX := Lib.hid hx
      clear hx
      unfold TX.p at *
      go_enter Tryz.func16, Tryz.ntmps16
      go_upto_region 1 with fail
      rw [HW1.out]
      go_wp2_with (first
        | (go_at_call 56; have _t := t1; clear _t t1; refine hw.mono ?_; rintro e w2 ⟨rfl, hT2, hC2⟩; obtain ⟨i1, i2, q1, q2⟩ := HX.out w2 hT2 hC2; clear hw)
        | (go_at_call 55; refine i1.mono ?_; rintro e w3 ⟨rfl, rfl⟩)
        | (go_at_call 56; refine i2.mono ?_; rintro e w4 ⟨rfl, hT4, hC4⟩))
      go_ret
      exact ⟨rfl, hT4, ((HHA.out.mono fun _ _ x => x.elim).trans hC2).trans hC4⟩
    · rw [if_neg hb, if_neg hb]
      have hx : ∀ w2 : World, TabAt w2 X (latp la) L (n + 1) → Chg X.Maps W1 w2 →
          (Calls Tryz.prog 55 #[X.p, .int .i64 a] w2 fun e w' => e = .returned (.bool false) ∧ w' = w2) ∧
          w2.cell? ⟨w.heap.size, 0, none⟩ = some X.p ∧ w2.cell? ⟨w.heap.size + 1, 0, none⟩ = some (.int .i64 a) := by
        intro w2 h2 hC
        have hk := HTA.out.cellsKept hC
        have hl := HL2.out.cells hk
        have i1 := tis_any hl h2.c0 a
        rw [show decide (inB N.length a) = false from decide_eq_false hb] at i1
        exact ⟨i1, cell_of_heap (hk _ _ _ _ HG1.out) 0, cell_of_heap (hk _ _ _ _ HG2.out) 0⟩
      have HX := Lib.hid hx
      clear hx
      unfold TX.p at *
      go_enter Tryz.func16, Tryz.ntmps16
      go_upto_region 1 with fail
      rw [HW1.out]
      go_wp2_with (first
        | (go_at_call 56; have _t := t1; clear _t t1; refine hw.mono ?_; rintro e w2 ⟨rfl, hT2, hC2⟩; obtain ⟨i1, q1, q2⟩ := HX.out w2 hT2 hC2; clear hw)
        | (go_at_call 55; refine i1.mono ?_; rintro e w3 ⟨rfl, rfl⟩))
      go_ret
      exact ⟨rfl, hT2.mono (by omega), (HHA.out.mono fun _ _ x => x.elim).trans hC2⟩
/-- Leave -/
theorem tleave_any {w : World} {X : TX} {la : Nat} {L : List Ses} {n : Nat} (hT : TabAt w X (latp la) L n) (id : List UInt8) (hid : id.length ≤ 1000000000) (hn1 : n < 1000000000) :
    Calls Tryz.prog 26 #[X.p, .string (bs id)] w fun e w' => e = .returned (.int .i64 (if (sFind L id).isSome = true then 0 else 31)) ∧ TabAt w' X (latp la) (sDel L id) (n + 1) ∧ Chg X.Maps w w' := by
  cases hf : sFind L id with
  | none =>
    have hw := twith_none hT id hid hf (.func (.func 68) #[] #[])
    rw [sDel_none (sFind_none hf)]
    have HT := Lib.hid hT
    clear hT
    simp only [Option.isSome_none, Bool.false_eq_true, if_false]
    unfold TX.p at *
    go_enter Tryz.func26, Tryz.ntmps26
    go_wp2_with (first | (go_at_call 56; refine hw.mono ?_; rintro e w2 ⟨rfl, hC2⟩))
    go_ret
    exact ⟨rfl, (HT.out.same hC2).mono (Nat.le_succ n), hC2.mono fun _ _ x => x.elim⟩
  | some s =>
    have hw := twith_leave hT id hid s hf hn1
    clear hT
    simp only [Option.isSome_some, if_true]
    unfold TX.p at *
    go_enter Tryz.func26, Tryz.ntmps26
    go_wp2_with (first | (go_at_call 56; refine hw.mono ?_; rintro e w2 ⟨rfl, hT2, hC2⟩))
    go_ret
    exact ⟨rfl, hT2, hC2⟩
/-- New, of a lattice -/
theorem tnew_any {w : World} {base la : Nat} {N : List (List UInt8)} {R : Nat → Nat → Bool} (hL : IsLat w base la N R) (h1 : 1 ≤ N.length) :
    Calls Tryz.prog 11 #[latp la] w fun e w' => ∃ X : TX, e = .returned (.tuple #[X.p, .int .i64 0]) ∧ TabAt w' X (latp la) [] 0 ∧ w.heap.size ≤ X.b ∧ w.heap.size ≤ X.m1 ∧ w.heap.size ≤ X.m2 ∧ Chg (fun _ => False) w w' := by
  have hm := lMany hL
  have hne : ((N.length : Int) == 0) = false := by rw [beq_eq_false_iff_ne]; omega
  have hmm := @run_makeMap Tryz.prog
  clear hL
  unfold latp at *
  go_enter Tryz.func11, Tryz.ntmps11
  go_wp2_with (first | (go_at_call 44; refine hm.mono ?_; rintro e w2 ⟨rfl, rfl⟩))
  go_ret2
  have o1 := World.ownsMap_made (w := w2) Tryz.prog 9 sesE
  have o2 := World.ownsMap_made (w := w2.alloc (.map #[] 0)) Tryz.prog 34 (plainElem (H := Unit) Tryz.prog 3)
  rw [World.size_alloc] at o2
  have hb := heap_new ((w2.alloc (.map #[] 0)).alloc (.map #[] 0)) (.cells #[.pointer (some ⟨la, 0, none⟩), .map (some w2.heap.size), .map (some (w2.heap.size + 1))] 77)
  rw [World.size_alloc, World.size_alloc] at hb
  refine ⟨⟨w2.heap.size + 1 + 1, w2.heap.size, w2.heap.size + 1⟩, rfl, ⟨⟨List.Pairwise.nil, (fun _ h => absurd h List.not_mem_nil), (fun _ h => absurd h List.not_mem_nil)⟩, hb, ⟨_, (o1.alloc _).alloc _, fun id => rfl, fun id => rfl⟩, ⟨_, o2.alloc _, fun a => rfl⟩, (fun _ h => absurd h List.not_mem_nil), Nat.le_refl _, (by simp)⟩, (by simp; omega), Nat.le_refl _, (by simp), (((Chg.refl _ _).alloc _).alloc _).alloc _⟩
end Go.Proofs.YtfhmmekamommcaaGreatDoor
