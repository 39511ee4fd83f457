/- push: the document's Apply. -/
import Derived.Test.YteiedafdakffeaaDoorPvB
import Derived.Test.YteiedafdakffeaaDoorPuY
namespace Go.Proofs.YteiedafdakffeaaDoor
set_option linter.unusedVariables false
set_option linter.unusedSimpArgs false
open Go Go.RowKit Go.Proofs
open Go.Proofs.YteiedafdakffeaaDoorW.PrintWords (Kd bytesOf bytesOf_length ReadsInt ReadsOf gate_store gate_dst own_move)
theorem append_txt (w : World) (base : Nat) (v : Value) (xs : List Int) (ho : w.ownsRow base 5 1 v xs.length (u8s xs)) (s : ByteArray) (hbig : xs.length + s.size ≤ 140737488355328) (hb : base ≤ w.heap.size) :
    ∃ v' w', (Builtin.append_ #[22, 9] 22 #[v, .string s]).run Tryd.prog w = .ok v' w' ∧ w'.ownsRow base 5 1 v' (xs ++ bytesOf s).length (u8s (xs ++ bytesOf s)) ∧ w.grownBy w' v.ownBlock := by
  obtain ⟨i0, hi, hz0, hz1, hz2⟩ := info_parts info5
  obtain ⟨v', w', h1, h2, h3, _⟩ := Lib.run_append_own_string (P := Tryd.prog) w base 22 9 22 5 i0 Tryd.underlying22 Tryd.underlying9 hi hz0 hz1 hz2 v xs.length (u8s xs) ho s (by unfold maxLen; omega) hbig hb
  refine ⟨v', w', h1, ?_, h3⟩
  rw [List.length_append, u8s_append, bytesOf_length, ← strCells_bytes]
  exact h2
theorem rcheck_int (w : World) (k ver fr nd tk hd tl : Int) (tx : ByteArray) (A : Option Addr) (l : List ByteArray) (c : Nat) (hl : Lns w A l) (hL : l.length ≤ 1000000000000) (hs : sizes l ≤ 4611686018427387904) :
    Calls Tryd.prog 31 #[.agg #[.int .i64 k, .int .i64 ver, .int .i64 fr, .int .i64 nd, .int .i64 tk, .int .i64 hd, .int .i64 tl, .string tx, .slice A l.length c]] w fun e w' => e = .returned (.int .i64 (checkF k ver fr nd tk hd tl tx l)) ∧ Chg (fun _ => False) w w' :=
  rcheck_some w k (pushV k ver fr nd tk hd tl) tx A l c hl hL hs
def outI (l : List ByteArray) : List Int := l.flatMap fun s => bytesOf s ++ [10]
theorem outI_take (l : List ByteArray) (j : Nat) (x : ByteArray) (h : j < l.length) (hx : l.getD j ByteArray.empty = x) : outI (l.take (j + 1)) = (outI (l.take j) ++ bytesOf x) ++ [10] := by
  have e : l.take (j + 1) = l.take j ++ [l[j]] := by rw [List.take_add_one, List.getElem?_eq_getElem h]; rfl
  have e2 : l[j] = x := by rw [← hx]; simp [List.getD, h]
  unfold outI
  rw [e, List.flatMap_append, e2]
  simp
theorem outI_len (l : List ByteArray) : (outI l).length = sizes l + l.length := by
  induction l with
  | nil => rfl
  | cons x t ih =>
    have : outI (x :: t) = (bytesOf x ++ [10]) ++ outI t := rfl
    have e : sizes (x :: t) = x.size + sizes t := by simp [sizes]
    rw [this, List.length_append, List.length_append, ih, e, bytesOf_length]
    simp only [List.length_cons, List.length_nil]
    omega
theorem outI_str (l : List ByteArray) : strOfNums (outI l) = ⟨(outB l).toArray⟩ := by
  have h : outI l = bytesOf ⟨(outB l).toArray⟩ := by
    induction l with
    | nil => rfl
    | cons x t ih =>
      have e1 : outI (x :: t) = (bytesOf x ++ [10]) ++ outI t := rfl
      have e2 : outB (x :: t) = (x.data.toList ++ [10]) ++ outB t := rfl
      rw [e1, ih, e2]
      simp [bytesOf]
  rw [h]
  exact strOf_bytesOf _
theorem own_grown {W W' : World} {base base' n n' : Nat} {e : TypeId} {v v' : Value} {xs xs' : List Value} (h : W.ownsRow base 9 1 v n xs) (h' : W.ownsRow base' e 1 v' n' xs') (he : 9 ≠ e) (hg : W.grownBy W' v'.ownBlock) : W'.ownsRow base 9 1 v n xs :=
  own_move h (fun q hq => by
    obtain ⟨cells, hc⟩ := Go.Proofs.YteiedafdakffeaaDoorW.PrintWords.own_typed h q hq
    rw [hc]
    exact grown_keep hg hc (own_ne h' hc he))
theorem delta_fits {ver fr nd tk hd tl : Int} {tx : ByteArray} {l : List ByteArray} (h : checkF 2 ver fr nd tk hd tl tx l = 0) : (0 ≤ hd ∧ hd ≤ 65536) ∧ (0 ≤ tl ∧ tl ≤ 65536) ∧ sizes l ≤ 65536 ∧ l.length ≤ 1000 := delta_ok h
theorem not_ok {s : ByteArray} {k ver fr nd tk hd tl : Int} {tx : ByteArray} {l : List ByteArray} (h : ¬ applyOk s k ver fr nd tk hd tl tx l) : applyS s k ver fr nd tk hd tl tx l = ByteArray.empty ∧ applyE s k ver fr nd tk hd tl tx l = 2 := by
  unfold applyS applyE
  rw [if_neg h, if_neg h]
  exact ⟨rfl, rfl⟩
set_option maxRecDepth 100000 in
set_option maxHeartbeats 8000000 in
theorem rapply_some (w : World) (s : ByteArray) (k ver fr nd tk hd tl : Int) (tx : ByteArray) (A : Option Addr) (l : List ByteArray) (c : Nat) (hl : Lns w A l) (hlc : l.length ≤ c) (hbig : l.length ≤ 1000000000000) (hs : sizes l ≤ 4611686018427387904) :
    Calls Tryd.prog 20 #[.string s, .agg #[.int .i64 k, .int .i64 ver, .int .i64 fr, .int .i64 nd, .int .i64 tk, .int .i64 hd, .int .i64 tl, .string tx, .slice A l.length c]] w
      (ApplyPost w (applyS s k ver fr nd tk hd tl tx l) (applyE s k ver fr nd tk hd tl tx l)) := by
  have hal := (Chg.refl (fun _ => False) w).alloc (.cells #[.int .i64 k, .int .i64 ver, .int .i64 fr, .int .i64 nd, .int .i64 tk, .int .i64 hd, .int .i64 tl, .string tx, .slice A l.length c] 26)
  have hp := heap_new w (.cells #[.int .i64 k, .int .i64 ver, .int .i64 fr, .int .i64 nd, .int .i64 tk, .int .i64 hd, .int .i64 tl, .string tx, .slice A l.length c] 26)
  obtain ⟨XS, hXS⟩ : ∃ XS, applyS s k ver fr nd tk hd tl tx l = XS := ⟨_, rfl⟩
  obtain ⟨XE, hXE⟩ : ∃ XE, applyE s k ver fr nd tk hd tl tx l = XE := ⟨_, rfl⟩
  rw [hXS, hXE]
  have HXS := Lib.hid hXS
  have HXE := Lib.hid hXE
  have HP := Lib.hid hp
  have HAL := Lib.hid hal
  have HL := Lib.hid (hl.chg hal)
  have HLA := Lib.hid (rlns_any (w.alloc (.cells #[.int .i64 k, .int .i64 ver, .int .i64 fr, .int .i64 nd, .int .i64 tk, .int .i64 hd, .int .i64 tl, .string tx, .slice A l.length c] 26)) s)
  clear hal hp hl hXS hXE
  go_enter Tryd.func20, Tryd.ntmps20
  go_wp2_with fail
  refine HLA.out.mono ?_
  rintro e w2 ⟨v2, a, x, rfl, ha, ho2, hla, hC2⟩
  obtain ⟨A2, c2, rfl, _⟩ := own_lines ho2
  have hca := own_cap ho2
  have HA := Lib.hid ha
  have HP2 := Lib.hid (hC2.keep HP.out (fun h => h))
  have HC2 := Lib.hid (HAL.out.trans hC2)
  have HL2 := Lib.hid (HL.out.chg hC2)
  have HO2 := Lib.hid (own_lower (base' := w.heap.size) ho2 (by simp))
  clear ha ho2 hC2 HLA HAL HL HP
  have hch := rcheck_int w2 k ver fr nd tk hd tl tx A l c HL2.out hbig hs
  obtain ⟨q0, q1, q2, q3, q4, q5, q6, q7, q8⟩ : w2.cell? ⟨w.heap.size, 0, none⟩ = some (.int .i64 k) ∧ w2.cell? ⟨w.heap.size, 1, none⟩ = some (.int .i64 ver) ∧ w2.cell? ⟨w.heap.size, 2, none⟩ = some (.int .i64 fr) ∧ w2.cell? ⟨w.heap.size, 3, none⟩ = some (.int .i64 nd) ∧ w2.cell? ⟨w.heap.size, 4, none⟩ = some (.int .i64 tk) ∧ w2.cell? ⟨w.heap.size, 5, none⟩ = some (.int .i64 hd) ∧ w2.cell? ⟨w.heap.size, 6, none⟩ = some (.int .i64 tl) ∧ w2.cell? ⟨w.heap.size, 7, none⟩ = some (.string tx) ∧ w2.cell? ⟨w.heap.size, 8, none⟩ = some (.slice A l.length c) :=
    ⟨cell_of_heap HP2.out 0, cell_of_heap HP2.out 1, cell_of_heap HP2.out 2, cell_of_heap HP2.out 3, cell_of_heap HP2.out 4, cell_of_heap HP2.out 5, cell_of_heap HP2.out 6, cell_of_heap HP2.out 7, cell_of_heap HP2.out 8⟩
  by_cases hck : checkF k ver fr nd tk hd tl tx l = 0
  · rw [hck] at hch
    have HCH := Lib.hid hch
    have HCK := Lib.hid hck
    clear hch hck
    by_cases hk2 : k = 2
    · subst hk2
      obtain ⟨⟨hh0, hh1⟩, ⟨ht0, ht1⟩, hs1, hl1⟩ := delta_ok HCK.out
      obtain ⟨hn, rfl⟩ := Int.eq_ofNat_of_zero_le hh0
      obtain ⟨tn, rfl⟩ := Int.eq_ofNat_of_zero_le ht0
      rcases HA.out with ⟨hsz, rfl⟩ | ⟨hsz, rfl, hae⟩
      · obtain ⟨hS, hE⟩ := not_ok (s := s) (k := 2) (ver := ver) (fr := fr) (nd := nd) (tk := tk) (hd := hn) (tl := tn) (tx := tx) (l := l) (fun h => by have := h.2.2.1; omega)
        have HS : Hid (XS = ByteArray.empty) := Lib.hid (HXS.out.symm.trans hS)
        have HE : Hid (XE = 2) := Lib.hid (HXE.out.symm.trans hE)
        clear hS hE hsz
        go_wp2_with fail
        refine HCH.out.mono ?_
        rintro e w3 ⟨rfl, hC3⟩
        have HC3 := Lib.hid (HC2.out.trans hC3)
        have HP3 := Lib.hid (hC3.keep HP2.out (fun h => h))
        clear hC3 HCH q0 q1 q2 q3 q4 q5 q6 q7 q8
        have q0 := cell_of_heap HP3.out 0
        have q5 := cell_of_heap HP3.out 5
        have q6 := cell_of_heap HP3.out 6
        simp at q0 q5 q6
        go_wp2_with fail
        go_ret2
        exact ⟨by rw [HS.out, HE.out]; rfl, HC3.out⟩
      · have hae' := Lib.hid hae
        clear hae
        by_cases hfit : hn + tn ≤ a.length
        · have hok : applyOk s 2 ver fr nd tk hn tn tx l := ⟨HCK.out, rfl, by omega, by rw [← hae'.out]; omega⟩
          have HS : Hid (XS = if 65536 < (outB (applyL a l hn tn)).length then ByteArray.empty else ⟨(outB (applyL a l hn tn)).toArray⟩) := Lib.hid (by
            rw [← HXS.out]
            unfold applyS
            rw [if_pos hok, ← hae'.out]
            rfl)
          have HE : Hid (XE = if 65536 < (outB (applyL a l hn tn)).length then 5 else 0) := Lib.hid (by
            rw [← HXE.out]
            unfold applyE
            rw [if_pos hok, ← hae'.out]
            rfl)
          have hsa : sizes a ≤ 65536 := by have := lnsOf_sizes s; rw [← hae'.out] at this; omega
          have hd1 : decide ((a.length : Int) < (hn : Int) + (tn : Int)) = false := decide_eq_false (by omega)
          have hd2 : decide (a.length < hn + tn) = false := decide_eq_false (by omega)
          clear hok hsz HXS HXE
          go_wp2_with fail
          refine HCH.out.mono ?_
          rintro e w3 ⟨rfl, hC3⟩
          have HP3 := Lib.hid (hC3.keep HP2.out (fun h => h))
          have HC3 := Lib.hid (HC2.out.trans hC3)
          have HL3 := Lib.hid (HL2.out.chg hC3)
          have HO3 := Lib.hid (own_chg HO2.out hC3 (fun _ _ h => h))
          clear hC3 HCH HP2 HC2 HL2 HO2 q0 q1 q2 q3 q4 q5 q6 q7 q8
          have q0 : w3.cell? ⟨w.heap.size, 0, none⟩ = some (.int .i64 2) := cell_of_heap HP3.out 0
          have q5 : w3.cell? ⟨w.heap.size, 5, none⟩ = some (.int .i64 hn) := cell_of_heap HP3.out 5
          have q6 : w3.cell? ⟨w.heap.size, 6, none⟩ = some (.int .i64 tn) := cell_of_heap HP3.out 6
          go_upto_region 5 with fail
          clear q0
          obtain ⟨htk, htl⟩ := take_row A2 c2 a hn (by omega) hca
          obtain ⟨dn, hdn⟩ : ∃ d : Nat, d = a.length - tn := ⟨_, rfl⟩
          obtain ⟨A4, hdr, hdl⟩ := drop_row A2 c2 a dn (by omega) hca
          have hwd : IntKind.i64.wrap ((a.length : Int) - (tn : Int)) = (dn : Int) := by rw [show (a.length : Int) - (tn : Int) = (dn : Int) by omega]; exact IntWalk.i64_in _ ⟨by omega, by omega⟩
          obtain ⟨T1, hT1⟩ : ∃ T, a.take hn = T := ⟨_, rfl⟩
          obtain ⟨T2, hT2⟩ : ∃ T, a.drop dn = T := ⟨_, rfl⟩
          have hlt1 : T1.length ≤ a.length := by rw [← hT1]; exact List.length_take_le' _ _
          have hlt2 : T2.length ≤ a.length := by rw [← hT2, List.length_drop]; omega
          obtain ⟨L, hL⟩ : ∃ L, applyL a l hn tn = L := ⟨_, rfl⟩
          have HLL : Hid (L = (T1 ++ l) ++ T2) := Lib.hid (by rw [← hL, ← hT1, ← hT2, hdn]; unfold applyL; rw [List.append_assoc])
          have hLs : sizes L ≤ 400000 := by
            rw [← hL]
            unfold applyL
            rw [sizes_append, sizes_append]
            have h1 := sizes_sub_take a hn
            have h2 := sizes_sub_drop a (a.length - tn)
            omega
          have hLl : L.length ≤ 140000 := by rw [HLL.out, List.length_append, List.length_append]; omega
          rw [hL] at HS HE
          rw [hT1] at htk htl
          rw [hT2] at hdr hdl
          have HLA3 := Lib.hid (own_lns HO3.out)
          have HTL := Lib.hid htl
          have HDL := Lib.hid hdl
          have hsz3 := HC3.out.size
          clear htl hdl hdn hT1 hT2 hL
          have hS : w3.drew.cell? ⟨w.heap.size, 5, none⟩ = some (.int .i64 hn) ∧ w3.drew.cell? ⟨w.heap.size, 6, none⟩ = some (.int .i64 tn) ∧ w3.drew.cell? ⟨w.heap.size, 8, none⟩ = some (.slice A l.length c) := ⟨q5, q6, cell_of_heap HP3.out 8⟩
          go_cut [8] from 38 to 54 (fun s8 W => ∃ A8 c8, s8 = .slice A8 L.length c8 ∧ W.ownsRow w3.heap.size 9 1 (.slice A8 L.length c8) L.length (L.map Value.string) ∧ Chg (fun _ => False) w W ∧ w3.heap.size ≤ W.heap.size)
          case first =>
            have hd := (Chg.refl (fun _ => False) w3).drew
            have hsd : w3.drew.heap.size = w3.heap.size := rfl
            have HTA := Lib.hid (HTL.out _ (HLA3.out.chg hd) (by omega))
            refine region_lone (fun W' => W'.cell? ⟨w.heap.size, 5, none⟩ = some (.int .i64 hn) ∧ W'.cell? ⟨w.heap.size, 6, none⟩ = some (.int .i64 tn) ∧ W'.cell? ⟨w.heap.size, 8, none⟩ = some (.slice A l.length c)) [] (by kernel_rfl) ?_
            refine take_one 0 hS rfl (by kernel_rfl) rfl ?_
            apply Exists.intro
            refine And.intro (fun W' hS' => ?y0) (And.intro (fun _ _ _ h => h) ?_)
            case y0 => obtain ⟨d0, e0, e1⟩ := hS'; go_simp; rfl
            refine take_one 1 hS rfl (by kernel_rfl) rfl ?_
            apply Exists.intro
            refine And.intro (fun W' hS' => ?y1) (And.intro (fun _ _ _ h => h) ?_)
            case y1 => obtain ⟨d0, e0, e1⟩ := hS'; go_simp; rfl
            refine take_one 2 hS rfl (by kernel_rfl) rfl ?_
            apply Exists.intro
            refine And.intro (fun W' hS' => ?y2) (And.intro (fun _ _ _ h => h) ?_)
            case y2 => obtain ⟨d0, e0, e1⟩ := hS'; go_simp; rfl
            refine take_one 3 hS rfl (by kernel_rfl) rfl ?_
            apply Exists.intro
            refine And.intro (fun W' hS' => ?y3) (And.intro (fun _ _ _ h => h) ?_)
            case y3 => obtain ⟨d0, e0, e1⟩ := hS'; go_simp; rfl
            refine take_one 4 hS rfl (by kernel_rfl) rfl ?_
            apply Exists.intro
            refine And.intro (fun W' hS' => ?y4) (And.intro (fun _ _ _ h => h) ?_)
            case y4 => obtain ⟨d0, e0, e1⟩ := hS'; go_simp; rfl
            refine take_one 6 hS rfl (by kernel_rfl) rfl ?_
            apply Exists.intro
            refine And.intro (fun W' hS' => ?y6) (And.intro (fun _ _ _ h => h) ?_)
            case y6 => obtain ⟨d0, e0, e1⟩ := hS'; go_simp; rfl
            refine take_one 7 hS rfl (by kernel_rfl) rfl ?_
            apply Exists.intro
            refine And.intro (fun W' hS' => ?y7) (And.intro (fun _ _ _ h => h) ?_)
            case y7 => obtain ⟨d0, e0, e1⟩ := hS'; go_simp; rfl
            refine take_one 9 hS rfl (by kernel_rfl) rfl ?_
            apply Exists.intro
            refine And.intro (fun W' hS' => ?y9) (And.intro (fun _ _ _ h => h) ?_)
            case y9 => obtain ⟨d0, e0, e1⟩ := hS'; go_simp; rfl
            try go_simp
            refine take_one 10 hS rfl (by kernel_rfl) rfl ?_
            apply Exists.intro
            refine And.intro (fun W' hS' => ?y10) (And.intro (fun _ _ _ h => h) ?_)
            case y10 => obtain ⟨d0, e0, e1⟩ := hS'; go_simp; rfl
            refine take_one 11 hS rfl (by kernel_rfl) rfl ?_
            apply Exists.intro
            refine And.intro (fun W' hS' => ?y11) (And.intro (fun _ _ _ h => h) ?_)
            case y11 => obtain ⟨d0, e0, e1⟩ := hS'; go_simp; rfl
            refine take_one 12 hS rfl (by kernel_rfl) rfl ?_
            apply Exists.intro
            refine And.intro (fun W' hS' => ?y12) (And.intro (fun _ _ _ h => h) ?_)
            case y12 => obtain ⟨d0, e0, e1⟩ := hS'; go_simp; rfl
            refine take_one 13 hS rfl (by kernel_rfl) rfl ?_
            apply Exists.intro
            refine And.intro (fun W' hS' => ?y13) (And.intro (fun _ _ _ h => h) ?_)
            case y13 => obtain ⟨d0, e0, e1⟩ := hS'; go_simp; rfl
            refine take_one 14 hS rfl (by kernel_rfl) rfl ?_
            apply Exists.intro
            refine And.intro (fun W' hS' => ?y14) (And.intro (fun _ _ _ h => h) ?_)
            case y14 => obtain ⟨d0, e0, e1⟩ := hS'; go_simp; rfl
            refine take_one 15 hS rfl (by kernel_rfl) rfl ?_
            apply Exists.intro
            refine And.intro (fun W' hS' => ?y15) (And.intro (fun _ _ _ h => h) ?_)
            case y15 => obtain ⟨d0, e0, e1⟩ := hS'; go_simp; rfl
            try go_simp
            refine only_one 5 rfl (by kernel_rfl) rfl ?_
            obtain ⟨v5, w5, hr5, ho5, hg5⟩ := append_lns w3.drew w3.heap.size (.slice none 0 0) [] (World.ownsRow_nil _ _ _ _) A2 T1 c2 HTA.out (by rw [List.length_nil]; omega) (Nat.le_refl _)
            refine Lib.wp_append_run _ (.tmp 38) (.tmp 42) 24 24 rfl (.slice none 0 0) (.slice A2 T1.length c2) rfl rfl v5 w5 hr5 ?_
            have hC5 := hd.grown hg5 (fun q hq => by cases hq)
            have hS5 : w5.cell? ⟨w.heap.size, 5, none⟩ = some (.int .i64 hn) ∧ w5.cell? ⟨w.heap.size, 6, none⟩ = some (.int .i64 tn) ∧ w5.cell? ⟨w.heap.size, 8, none⟩ = some (.slice A l.length c) := ⟨cell_of_heap (hC5.keep HP3.out (fun h => h)) 5, cell_of_heap (hC5.keep HP3.out (fun h => h)) 6, cell_of_heap (hC5.keep HP3.out (fun h => h)) 8⟩
            rw [List.nil_append] at ho5
            refine ⟨fun _ => hS5, ?_⟩
            try go_simp
            refine only_one 8 rfl (by kernel_rfl) rfl ?_
            obtain ⟨v6, w6, hr6, ho6, hg6⟩ := append_lns w5 w3.heap.size v5 T1 ho5 A l c (HL3.out.chg hC5) (by omega) hC5.size
            refine Lib.wp_append_run _ (.tmp 43) (.tmp 45) 24 24 rfl v5 (.slice A l.length c) rfl rfl v6 w6 hr6 ?_
            have hC6 := hC5.grown hg6 (fun q hq => .inr (own_block ho5 hq))
            have hS6 : w6.cell? ⟨w.heap.size, 5, none⟩ = some (.int .i64 hn) ∧ w6.cell? ⟨w.heap.size, 6, none⟩ = some (.int .i64 tn) ∧ w6.cell? ⟨w.heap.size, 8, none⟩ = some (.slice A l.length c) := ⟨cell_of_heap (hC6.keep HP3.out (fun h => h)) 5, cell_of_heap (hC6.keep HP3.out (fun h => h)) 6, cell_of_heap (hC6.keep HP3.out (fun h => h)) 8⟩
            refine ⟨fun _ => hS6, ?_⟩
            try go_simp
            refine only_one 16 rfl (by kernel_rfl) rfl ?_
            obtain ⟨v7, w7, hr7, ho7, hg7⟩ := append_lns w6 w3.heap.size v6 (T1 ++ l) ho6 A4 T2 (c2 - dn) (HDL.out _ (HLA3.out.chg hC6) (by omega)) (by rw [List.length_append]; omega) hC6.size
            refine Lib.wp_append_run _ (.tmp 46) (.tmp 53) 24 24 rfl v6 (.slice A4 T2.length (c2 - dn)) rfl rfl v7 w7 hr7 ?_
            have hC7 := hC6.grown hg7 (fun q hq => .inr (own_block ho6 hq))
            have hS7 : w7.cell? ⟨w.heap.size, 5, none⟩ = some (.int .i64 hn) ∧ w7.cell? ⟨w.heap.size, 6, none⟩ = some (.int .i64 tn) ∧ w7.cell? ⟨w.heap.size, 8, none⟩ = some (.slice A l.length c) := ⟨cell_of_heap (hC7.keep HP3.out (fun h => h)) 5, cell_of_heap (hC7.keep HP3.out (fun h => h)) 6, cell_of_heap (hC7.keep HP3.out (fun h => h)) 8⟩
            refine ⟨fun _ => hS7, ?_⟩
            refine take_one 17 hS7 rfl (by kernel_rfl) rfl ?_
            apply Exists.intro
            refine And.intro (fun W' hS' => ?y17) (And.intro (fun _ _ _ h => h) ?_)
            case y17 => obtain ⟨d0, e0, e1⟩ := hS'; go_simp; rfl
            try go_simp
            refine all_done (by kernel_rfl) ?_ _
            have HF := Lib.hid (HC3.out.trans hC7)
            rw [← HLL.out] at ho7
            obtain ⟨A8, c8, rfl, _⟩ := own_lines ho7
            have HO7 := Lib.hid ho7
            have hsz7 : w3.heap.size ≤ w7.heap.size := hC7.size
            clear hS hS5 hS6 hS7 hd ho5 ho6 ho7 hC5 hC6 hC7 hg5 hg6 hg7 hr5 hr6 hr7 hwd htk hdr
            go_wp2_with fail
            go_meet
            exact ⟨A8, c8, rfl, HO7.out, HF.out, hsz7⟩
          case rest =>
            obtain ⟨A8, c8, rfl, hO, hC, hsz83⟩ := hcut
            have HO8 := Lib.hid hO
            have HC8 := Lib.hid hC
            have hsz8 := hC.size
            clear hO hC q5 q6 htk hdr hwd hS HLA3 HTL HDL HLL HP3 HC3 HL3 HO3 hd1 hd2 hlt1 hlt2
            obtain ⟨i0, hi, hz0, hz1, hz2⟩ := info_parts info5
            have hOL := outI_len L
            have HSZ3 := Lib.hid hsz3
            go_upto_block 0 with fail
            go_cut [9, 10] from 55 to 68 (fun s9 _ W => ∃ A9 c9, s9 = .slice A9 (outI L).length c9 ∧ (outI L).length ≤ c9 ∧ ReadsInt W .u8 A9 (outI L).length (outI L) ∧ Chg (fun _ => False) w W)
            case first =>
              go_wp2_with fail
              go_loopw [9, 10] (fun s9 i wr => ∃ j : Nat, j ≤ L.length ∧ i = .int .i64 j ∧ wr.ownsRow w3.heap.size 5 1 s9 (outI (L.take j)).length (u8s (outI (L.take j))) ∧ wr.ownsRow w3.heap.size 9 1 (.slice A8 L.length c8) L.length (L.map Value.string) ∧ Chg (fun _ => False) w wr ∧ w3.heap.size ≤ wr.heap.size) (fun _ i _ => L.length - (intOf i).toNat)
              case atStart => exact ⟨0, by omega, rfl, World.ownsRow_nil _ _ _ _, HO8.out, HC8.out, hsz83⟩
              case round =>
                obtain ⟨j, hj, rfl, hO, hR, hC, hsj⟩ := hrel
                have HOJ := Lib.hid hO
                have HRJ := Lib.hid hR
                have HCJ := Lib.hid hC
                clear hO hR hC
                by_cases hlt : j < L.length
                · obtain ⟨g, p, rfl, hcs⟩ := lns_cells (own_lns HRJ.out) (by omega)
                  have hcj := hcs j hlt
                  obtain ⟨x, hx⟩ : ∃ x, L.getD j ByteArray.empty = x := ⟨_, rfl⟩
                  rw [hx] at hcj
                  have HST := Lib.hid (outI_take L j x hlt hx)
                  have hxs : x.size ≤ sizes L := by rw [← hx]; exact size_le_sizes (by simp [List.getD, hlt])
                  have hZ := outI_len (L.take j)
                  have hZ1 := sizes_sub_take L j
                  have hZ2 : (L.take j).length ≤ L.length := List.length_take_le' _ _
                  clear hcs hx
                  generalize outI (L.take j) = Z at *
                  have hZl : Z.length ≤ 600000 := by omega
                  clear hZ hZ1 hZ2
                  obtain ⟨v5, w5, hr5, ho5, hg5⟩ := append_txt wr w3.heap.size u9 Z HOJ.out x (by omega) hsj
                  have HR5 := Lib.hid hr5
                  have HO5 := Lib.hid ho5
                  have HRW5 := Lib.hid (own_grown HRJ.out HOJ.out (by decide) hg5)
                  have HC5 := Lib.hid (HCJ.out.grown hg5 (fun q hq => .inr (by have := own_block HOJ.out hq; have := HSZ3.out; omega)))
                  have hsz5 : wr.heap.size ≤ w5.heap.size := hg5.size
                  have HBL := Lib.hid (bytesOf_length x)
                  clear hr5 ho5 hg5
                  go_wp2_with (first | (at_builtin; refine wpList_append_guarded rfl _ _ 22 9 rfl u9 (.string x) rfl rfl v5 w5 HR5.out ?_) | (at_builtin; refine wpList_append_own_at _ rfl _ _ 22 rfl w3.heap.size 5 i0 (.int .u8 0) 1 1 Tryd.underlying22 hi hz0 hz1 hz2 rfl (by decide) v5 _ _ rfl (HO5.out.alloc _) ⟨w5.heap.size, 0, none⟩ 1 1 [.int .u8 10] rfl rfl ?c1 ?c2 ?c3 ?c4 ?c5 ?_))
                  case c1 => exact cell_one_new _ _ _
                  case c2 => simp [Value.oneCell']
                  case c3 => unfold maxLen; rw [List.length_append, HBL.out]; omega
                  case c4 => rw [List.length_append, HBL.out]; omega
                  case c5 => simp; omega
                  intro v' w1 hown' hgrow _ hat
                  have HO1 : Hid (w1.ownsRow w3.heap.size 5 1 v' (outI (L.take (j + 1))).length (u8s (outI (L.take (j + 1))))) := Lib.hid (by
                    rw [HST.out, u8s_append, List.length_append, List.length_append]
                    try simp only [List.length_append] at hown'
                    exact hown')
                  have HRW1 := Lib.hid (own_grown (HRW5.out.alloc _) (HO5.out.alloc _) (by decide) hgrow)
                  have HC1 := Lib.hid ((HC5.out.alloc _).grown hgrow (fun q hq => .inr (by have := own_block HO5.out hq; have := HSZ3.out; omega)))
                  have hsz1 : w5.heap.size + 1 ≤ w1.heap.size := by have := hgrow.size; simp at this; omega
                  clear hown' hgrow hat
                  go_wp2_with fail
                  go_roundw
                  case rel => exact ⟨j + 1, by omega, by go_num, HO1.out, HRW1.out, HC1.out, by omega⟩
                  case measure => simp [intOf] <;> omega
                · obtain rfl : j = L.length := by omega
                  rw [List.take_length] at HOJ
                  obtain ⟨A9, c9, he9, hc9, hR9⟩ := own_bytes HOJ.out
                  subst he9
                  have HR9 := Lib.hid hR9
                  clear hR9
                  go_wp2_with fail
                  go_meet
                  exact ⟨A9, c9, rfl, hc9, HR9.out, HCJ.out⟩
            case rest =>
              obtain ⟨A9, c9, rfl, hc9, hR, hC⟩ := hcut
              have hob : (outB L).length = (outI L).length := by rw [outB_length, hOL]
              have hstr := outI_str L
              have HST := Lib.hid hstr
              have HC := Lib.hid hC
              rw [hob] at HS HE
              by_cases hb5 : 65536 < (outI L).length
              · have hd : decide ((65536 : Int) < ((outI L).length : Int)) = true := decide_eq_true (by omega)
                have HS1 : Hid (XS = ByteArray.empty) := Lib.hid (by rw [HS.out, if_pos hb5])
                have HE1 : Hid (XE = 5) := Lib.hid (by rw [HE.out, if_pos hb5])
                clear HS HE hR hC hob hstr HO8 HC8 hOL
                go_wp2_with fail
                go_ret2
                exact ⟨by rw [HS1.out, HE1.out]; rfl, HC.out⟩
              · have hd : decide ((65536 : Int) < ((outI L).length : Int)) = false := decide_eq_false (by omega)
                have hconv := Kd.C_string (P := Tryd.prog) (A := A9) (c := c9) Tryd.underlying22 Tryd.underlying5 Tryd.underlying9 (Kd.C_of_reads (d := (0 : Int)) (h1 := fun _ => rfl) hR)
                have HS1 : Hid (XS = strOfNums (outI L)) := Lib.hid (by rw [HS.out, if_neg hb5, hstr])
                have HE1 : Hid (XE = 0) := Lib.hid (by rw [HE.out, if_neg hb5])
                clear HS HE hR hC hob hstr HO8 HC8 hOL
                generalize outI L = Y at *
                go_wp2_with fail
                go_ret2
                exact ⟨by rw [HS1.out, HE1.out]; rfl, HC.out⟩
        · obtain ⟨hS, hE⟩ := not_ok (s := s) (k := 2) (ver := ver) (fr := fr) (nd := nd) (tk := tk) (hd := hn) (tl := tn) (tx := tx) (l := l) (fun h => by have := h.2.2.2; rw [← hae'.out] at this; omega)
          have HS : Hid (XS = ByteArray.empty) := Lib.hid (HXS.out.symm.trans hS)
          have HE : Hid (XE = 2) := Lib.hid (HXE.out.symm.trans hE)
          have hd1 : decide ((a.length : Int) < (hn : Int) + (tn : Int)) = true := decide_eq_true (by omega)
          have hd2 : decide (a.length < hn + tn) = true := decide_eq_true (by omega)
          clear hS hE hsz hfit
          go_wp2_with fail
          refine HCH.out.mono ?_
          rintro e w3 ⟨rfl, hC3⟩
          have HC3 := Lib.hid (HC2.out.trans hC3)
          have HP3 := Lib.hid (hC3.keep HP2.out (fun h => h))
          clear hC3 HCH q0 q1 q2 q3 q4 q5 q6 q7 q8
          have q0 := cell_of_heap HP3.out 0
          have q5 := cell_of_heap HP3.out 5
          have q6 := cell_of_heap HP3.out 6
          simp at q0 q5 q6
          go_wp2_with fail
          go_ret2
          exact ⟨by rw [HS.out, HE.out]; rfl, HC3.out⟩
    · obtain ⟨hS, hE⟩ := not_ok (s := s) (k := k) (ver := ver) (fr := fr) (nd := nd) (tk := tk) (hd := hd) (tl := tl) (tx := tx) (l := l) (fun h => hk2 h.2.1)
      have HS : Hid (XS = ByteArray.empty) := Lib.hid (HXS.out.symm.trans hS)
      have HE : Hid (XE = 2) := Lib.hid (HXE.out.symm.trans hE)
      have hkb : (k != 2) = true := bne_iff_ne.2 hk2
      clear hS hE hk2
      go_wp2_with fail
      refine HCH.out.mono ?_
      rintro e w3 ⟨rfl, hC3⟩
      have HC3 := Lib.hid (HC2.out.trans hC3)
      have HP3 := Lib.hid (hC3.keep HP2.out (fun h => h))
      clear hC3 HCH q0 q1 q2 q3 q4 q5 q6 q7 q8
      have q0 := cell_of_heap HP3.out 0
      have q5 := cell_of_heap HP3.out 5
      have q6 := cell_of_heap HP3.out 6
      simp at q0 q5 q6
      go_wp2_with fail
      go_ret2
      exact ⟨by rw [HS.out, HE.out]; rfl, HC3.out⟩
  · obtain ⟨hS, hE⟩ := not_ok (s := s) (k := k) (ver := ver) (fr := fr) (nd := nd) (tk := tk) (hd := hd) (tl := tl) (tx := tx) (l := l) (fun h => hck h.1)
    have HS : Hid (XS = ByteArray.empty) := Lib.hid (HXS.out.symm.trans hS)
    have HE : Hid (XE = 2) := Lib.hid (HXE.out.symm.trans hE)
    have hc2 : checkF k ver fr nd tk hd tl tx l = 2 := (checkF_02 k ver fr nd tk hd tl tx l).resolve_left hck
    rw [hc2] at hch
    have HCH := Lib.hid hch
    clear hS hE hck hch hc2
    go_wp2_with fail
    refine HCH.out.mono ?_
    rintro e w3 ⟨rfl, hC3⟩
    have HC3 := Lib.hid (HC2.out.trans hC3)
    have HP3 := Lib.hid (hC3.keep HP2.out (fun h => h))
    clear hC3 HCH q0 q1 q2 q3 q4 q5 q6 q7 q8
    have q0 := cell_of_heap HP3.out 0
    have q5 := cell_of_heap HP3.out 5
    have q6 := cell_of_heap HP3.out 6
    simp at q0 q5 q6
    go_wp2_with fail
    go_ret2
    exact ⟨by rw [HS.out, HE.out]; rfl, HC3.out⟩
end Go.Proofs.YteiedafdakffeaaDoor
