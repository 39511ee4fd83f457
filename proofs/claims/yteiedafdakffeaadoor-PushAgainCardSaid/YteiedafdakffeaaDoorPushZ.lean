/- push: Apply, walked. -/
import Derived.Test.YteiedafdakffeaaDoorPushY
namespace Go.Proofs.YteiedafdakffeaaDoor
set_option linter.unusedVariables false
set_option linter.unusedSimpArgs false
open Go Go.RowKit Go.Proofs
open Go.Proofs.YteiedafdakffeaaDoorW.PrintWords (Kd ReadsOf own_move print_drop_of print_take_of gate_dst gate_store)
def ApplyPost (w : World) (s : ByteArray) (n : Int) (en : Ending) (w' : World) : Prop := en = .returned (.tuple #[.string s, .int .i64 n]) ∧ Chg (fun _ => False) w w'
set_option maxRecDepth 100000 in
set_option maxHeartbeats 4000000 in
theorem apply_some (w : World) (s : ByteArray) (k ver fr nd tk hd tl : Int) (tx : ByteArray) (A : Option Addr) (l : List ByteArray) (c : Nat) (hW : WOk w) (hl : Lns w A l) (hlc : l.length ≤ c) (hbig : l.length ≤ 1000000000000) (hs : sizes l ≤ 4611686018427387904) :
    Calls Tryd.prog 19 #[.string s, .agg #[.int .i64 k, .int .i64 ver, .int .i64 fr, .int .i64 nd, .int .i64 tk, .int .i64 hd, .int .i64 tl, .string tx, .slice A l.length c]] w
      (ApplyPost w (applyS s k ver fr nd tk hd tl tx l) (applyE s k ver fr nd tk hd tl tx l)) := by
  have hal := (Chg.refl (fun _ => False) w).alloc (.cells #[.int .i64 k, .int .i64 ver, .int .i64 fr, .int .i64 nd, .int .i64 tk, .int .i64 hd, .int .i64 tl, .string tx, .slice A l.length c] 26)
  have hp := heap_new w (.cells #[.int .i64 k, .int .i64 ver, .int .i64 fr, .int .i64 nd, .int .i64 tk, .int .i64 hd, .int .i64 tl, .string tx, .slice A l.length c] 26)
  have hW1 := hW.chg hal
  obtain ⟨XS, hXS⟩ : ∃ XS, applyS s k ver fr nd tk hd tl tx l = XS := ⟨_, rfl⟩
  obtain ⟨XE, hXE⟩ : ∃ XE, applyE s k ver fr nd tk hd tl tx l = XE := ⟨_, rfl⟩
  rw [hXS, hXE]
  have HXS := Lib.hid hXS
  have HXE := Lib.hid hXE
  have HP := Lib.hid hp
  have HAL := Lib.hid hal
  have HL := Lib.hid hl
  -- the texts' lines: a row that reads
  have hlines : Calls Tryd.prog 45 #[.string s] (w.alloc (.cells #[.int .i64 k, .int .i64 ver, .int .i64 fr, .int .i64 nd, .int .i64 tk, .int .i64 hd, .int .i64 tl, .string tx, .slice A l.length c] 26)) fun e w' => ∃ Aa ca a ee, e = .returned (.tuple #[.slice Aa a.length ca, .int .i64 ee]) ∧ (s.size ≤ 65536 → ee = 0) ∧ (¬ s.size ≤ 65536 → ee = 5) ∧ a.length ≤ ca ∧ Lns w' Aa a ∧ (s.size ≤ 65536 → a = lnsOf s) ∧ a.length ≤ 65537 ∧ Chg (fun _ => False) (w.alloc (.cells #[.int .i64 k, .int .i64 ver, .int .i64 fr, .int .i64 nd, .int .i64 tk, .int .i64 hd, .int .i64 tl, .string tx, .slice A l.length c] 26)) w' := by
    by_cases h : s.size > 65536
    · refine (lines_long _ s hW1 h).mono ?_
      rintro e w' ⟨rfl, hC⟩
      exact ⟨none, 0, [], 5, rfl, fun h' => by omega, fun _ => rfl, by simp, fun i hi => by simp at hi, fun h' => by omega, by simp, hC⟩
    · refine (lines_fits _ s hW1 h).mono ?_
      rintro e w' ⟨v, rfl, ho, hC⟩
      obtain ⟨Aa, ca, rfl, hLa⟩ := own_lines ho
      refine ⟨Aa, ca, lnsOf s, 0, rfl, fun _ => rfl, fun h' => by omega, ?_, hLa, fun _ => rfl, by have := lnsOf_len s; omega, hC⟩
      rcases ho.2 with ⟨h1, h2⟩ | ⟨g', cap', cur, hv, hg', hh, r1, r2, r3, r4⟩
      · have : lnsOf s = [] := by simpa using h2
        rw [this]; simp
      · cases hv; exact r1
  have HLN := Lib.hid hlines
  clear hXS hXE hp hal hl hlines hW1 hW
  go_enter Tryd.func19, Tryd.ntmps19
  go_wp2_with fail
  refine HLN.out.mono ?_
  rintro e w2 ⟨Aa, ca, a, ee, rfl, he0, he5, hca, hLa, hae, hal2, hC2⟩
  have HE0 := Lib.hid he0
  have HE5 := Lib.hid he5
  clear he0 he5
  have HP2 := Lib.hid (hC2.keep HP.out (fun h => h))
  have HC2 := Lib.hid (HAL.out.trans hC2)
  have HLA := Lib.hid hLa
  have HAE := Lib.hid hae
  have HCK := Lib.hid (check_all w2 k ver fr nd tk hd tl tx A l c (HL.out.chg HC2.out) hbig hs)
  clear hC2 hLa hae HLN HAL HP
  go_wp2_with ((with_reducible refine gate_dst (N := 16) rfl ?_); refine wpList_load_row rfl 26 (.tmp 3) rfl w.heap.size rfl 26 _ (0, 0) _ HP2.out Tryd.underlying26 rfl infoP ?_)
  refine HCK.out.mono ?_
  rintro e w3 ⟨rfl, hC3⟩
  have HP3 := Lib.hid (hC3.keep HP2.out (fun h => h))
  have HC3 := Lib.hid (HC2.out.trans hC3)
  have HLA3 := Lib.hid (HLA.out.chg hC3)
  have c0 : w3.cell? ⟨w.heap.size, 0, none⟩ = some (.int .i64 k) := cell_of_heap HP3.out 0
  have c5 : w3.cell? ⟨w.heap.size, 5, none⟩ = some (.int .i64 hd) := cell_of_heap HP3.out 5
  have c6 : w3.cell? ⟨w.heap.size, 6, none⟩ = some (.int .i64 tl) := cell_of_heap HP3.out 6
  have c8 : w3.cell? ⟨w.heap.size, 8, none⟩ = some (.slice A l.length c) := cell_of_heap HP3.out 8
  clear hC3 HCK HP2 HC2 HLA
  have HNO : Hid (¬ applyOk s k ver fr nd tk hd tl tx l → XS = ByteArray.empty ∧ XE = 2) := Lib.hid fun h => ⟨by rw [← HXS.out]; unfold applyS; rw [if_neg h], by rw [← HXE.out]; unfold applyE; rw [if_neg h]⟩
  have hck02 := checkF_02 k ver fr nd tk hd tl tx l
  by_cases hck : checkF k ver fr nd tk hd tl tx l = 0
  · have hcb : (checkF k ver fr nd tk hd tl tx l != 0) = false := by rw [hck]; rfl
    by_cases hk : k = 2
    · have hkb : (k != 2) = false := by rw [hk]; rfl
      subst hk
      obtain ⟨⟨h5, h5'⟩, ⟨h6, h6'⟩, hsl, hll⟩ := delta_ok hck
      by_cases hss : s.size ≤ 65536
      · have hea : a = lnsOf s := HAE.out hss
        obtain rfl := HE0.out hss
        by_cases hht : hd + tl ≤ a.length
        · have hok : applyOk s 2 ver fr nd tk hd tl tx l := ⟨hck, rfl, hss, by rw [← hea]; exact hht⟩
          have HXS2 : Hid (XS = if 65536 < (outB (applyL a l hd.toNat tl.toNat)).length then ByteArray.empty else ⟨(outB (applyL a l hd.toNat tl.toNat)).toArray⟩) := Lib.hid (by rw [← HXS.out]; unfold applyS; rw [if_pos hok, ← hea])
          have HXE2 : Hid (XE = if 65536 < (outB (applyL a l hd.toNat tl.toNat)).length then 5 else 0) := Lib.hid (by rw [← HXE.out]; unfold applyE; rw [if_pos hok, ← hea])
          have hsa : sizes a ≤ 65536 := by rw [hea]; exact Nat.le_trans (lnsOf_sizes s) hss
          obtain ⟨hn, rfl⟩ := Int.eq_ofNat_of_zero_le h5
          obtain ⟨tn, rfl⟩ := Int.eq_ofNat_of_zero_le h6
          rw [Int.toNat_natCast, Int.toNat_natCast] at HXS2 HXE2
          have hhn : hn ≤ a.length := by omega
          have htn : tn ≤ a.length := by omega
          obtain ⟨hcut1, hlt1⟩ := take_row Aa ca a hn hhn hca
          obtain ⟨A3, hcut2, hlt2⟩ := drop_row Aa ca a (a.length - tn) (by omega) hca
          have hsub : ((a.length : Nat) : Int) - (tn : Int) = ((a.length - tn : Nat) : Int) := by omega
          have hw1 : IntKind.i64.wrap (((a.length : Nat) : Int) - (tn : Int)) = ((a.length - tn : Nat) : Int) := by rw [IntWalk.i64_in _ (by omega)]; exact hsub
          have HT := Lib.hid (hlt1 w3 HLA3.out (by omega))
          have HD := Lib.hid (hlt2 w3 HLA3.out (by omega))
          have hT1 : (a.take hn).length ≤ 65537 := by rw [List.length_take]; omega
          have hT2 : sizes (a.take hn) ≤ 65536 := Nat.le_trans (sizes_sub_take a hn) hsa
          have hD1 : (a.drop (a.length - tn)).length ≤ 65537 := by rw [List.length_drop]; omega
          have hD2 : sizes (a.drop (a.length - tn)) ≤ 65536 := Nat.le_trans (sizes_sub_drop a _) hsa
          have HAP : Hid (applyL a l hn tn = a.take hn ++ (l ++ a.drop (a.length - tn))) := Lib.hid rfl
          have hht2 : ¬ ((a.length : Nat) : Int) < (hn : Int) + (tn : Int) := by omega
          clear hlt1 hlt2 hck hck02 hsub hea hok hsa HAE HE0 HE5 HNO HXS HXE
          generalize checkF 2 ver fr nd tk (hn : Int) (tn : Int) tx l = ck at *
          generalize a.take hn = t1 at *
          generalize a.drop (a.length - tn) = t3 at *
          go_upto_region 5 with fail
          have hbl := (Chg.refl (fun _ => False) w3).alloc (.cells #[.pointer none, .slice none 0 0] 82)
          have HBL := Lib.hid hbl
          have HBN := Lib.hid (heap_new w3 (.cells #[.pointer none, .slice none 0 0] 82))
          have HBZ : Hid ((w3.alloc (.cells #[.pointer none, .slice none 0 0] 82)).heap.size = w3.heap.size + 1) := Lib.hid (by simp)
          have e5 := hbl.cell c5 (fun h => h)
          have e6 := hbl.cell c6 (fun h => h)
          have e8 := hbl.cell c8 (fun h => h)
          clear c0 c5 c6 c8 hbl
          generalize w3.alloc (.cells #[.pointer none, .slice none 0 0] 82) = wb at *
          obtain ⟨T, hTT⟩ : ∃ T, t1 ++ (l ++ t3) = T := ⟨_, rfl⟩
          have HTT := Lib.hid hTT
          have hTl : T.length ≤ 200000 := by rw [← hTT]; simp only [List.length_append]; omega
          have hTs : sizes T ≤ 200000 := by rw [← hTT]; simp only [sizes_append]; omega
          rw [hTT] at HAP
          clear hTT
          go_cut [52, 53, 54] from 38 to 51 (fun v52 v53 v54 W => v54 = .int .i64 0 ∧ v53 = .int .i64 (T.length : Nat) ∧ W.ownsRow wb.heap.size 9 1 v52 T.length (T.map Value.string) ∧ Chg (fun _ => False) wb W)
          case first =>
            have hS : wb.drew.cell? ⟨w.heap.size, 5, none⟩ = some (.int .i64 hn) ∧ wb.drew.cell? ⟨w.heap.size, 6, none⟩ = some (.int .i64 tn) ∧ wb.drew.cell? ⟨w.heap.size, 8, none⟩ = some (.slice A l.length c) := ⟨e5, e6, e8⟩
            refine region_lone (fun W' => W'.cell? ⟨w.heap.size, 5, none⟩ = some (.int .i64 hn) ∧ W'.cell? ⟨w.heap.size, 6, none⟩ = some (.int .i64 tn) ∧ W'.cell? ⟨w.heap.size, 8, none⟩ = some (.slice A l.length c)) [] (by kernel_rfl) ?_
            refine take_one 0 hS rfl (by kernel_rfl) rfl ?_
            apply Exists.intro
            refine And.intro (fun W' hS' => ?y0) (And.intro (fun _ _ _ h => h) ?_)
            case y0 => obtain ⟨d5, d6, d8⟩ := hS'; go_simp; rfl
            refine take_one 1 hS rfl (by kernel_rfl) rfl ?_
            apply Exists.intro
            refine And.intro (fun W' hS' => ?y1) (And.intro (fun _ _ _ h => h) ?_)
            case y1 => obtain ⟨d5, d6, d8⟩ := hS'; go_simp; rfl
            refine take_one 2 hS rfl (by kernel_rfl) rfl ?_
            apply Exists.intro
            refine And.intro (fun W' hS' => ?y2) (And.intro (fun _ _ _ h => h) ?_)
            case y2 => obtain ⟨d5, d6, d8⟩ := hS'; go_simp; rfl
            refine take_one 3 hS rfl (by kernel_rfl) rfl ?_
            apply Exists.intro
            refine And.intro (fun W' hS' => ?y3) (And.intro (fun _ _ _ h => h) ?_)
            case y3 => obtain ⟨d5, d6, d8⟩ := hS'; go_simp; rfl
            refine take_one 4 hS rfl (by kernel_rfl) rfl ?_
            apply Exists.intro
            refine And.intro (fun W' hS' => ?y4) (And.intro (fun _ _ _ h => h) ?_)
            case y4 => obtain ⟨d5, d6, d8⟩ := hS'; go_simp; rfl
            refine take_one 5 hS rfl (by kernel_rfl) rfl ?_
            apply Exists.intro
            refine And.intro (fun W' hS' => ?y5) (And.intro (fun _ _ _ h => h) ?_)
            case y5 => obtain ⟨d5, d6, d8⟩ := hS'; go_simp; rfl
            refine take_one 6 hS rfl (by kernel_rfl) rfl ?_
            apply Exists.intro
            refine And.intro (fun W' hS' => ?y6) (And.intro (fun _ _ _ h => h) ?_)
            case y6 => obtain ⟨d5, d6, d8⟩ := hS'; go_simp; rfl
            refine take_one 7 hS rfl (by kernel_rfl) rfl ?_
            apply Exists.intro
            refine And.intro (fun W' hS' => ?y7) (And.intro (fun _ _ _ h => h) ?_)
            case y7 => obtain ⟨d5, d6, d8⟩ := hS'; go_simp; rfl
            refine take_one 8 hS rfl (by kernel_rfl) rfl ?_
            apply Exists.intro
            refine And.intro (fun W' hS' => ?y8) (And.intro (fun _ _ _ h => h) ?_)
            case y8 => obtain ⟨d5, d6, d8⟩ := hS'; go_simp; rfl
            refine take_one 9 hS rfl (by kernel_rfl) rfl ?_
            apply Exists.intro
            refine And.intro (fun W' hS' => ?y9) (And.intro (fun _ _ _ h => h) ?_)
            case y9 => obtain ⟨d5, d6, d8⟩ := hS'; go_simp; rfl
            refine take_one 10 hS rfl (by kernel_rfl) rfl ?_
            apply Exists.intro
            refine And.intro (fun W' hS' => ?y10) (And.intro (fun _ _ _ h => h) ?_)
            case y10 => obtain ⟨d5, d6, d8⟩ := hS'; go_simp; rfl
            refine take_one 11 hS rfl (by kernel_rfl) rfl ?_
            apply Exists.intro
            refine And.intro (fun W' hS' => ?y11) (And.intro (fun _ _ _ h => h) ?_)
            case y11 => obtain ⟨d5, d6, d8⟩ := hS'; go_simp; rfl
            refine take_one 12 hS rfl (by kernel_rfl) rfl ?_
            apply Exists.intro
            refine And.intro (fun W' hS' => ?y12) (And.intro (fun _ _ _ h => h) ?_)
            case y12 => obtain ⟨d5, d6, d8⟩ := hS'; go_simp; rfl
            have hd := (Chg.refl (fun _ => False) wb).drew
            refine take_one 16 hS rfl (by kernel_rfl) rfl ?_
            apply Exists.intro
            refine And.intro (fun W' hS' => ?y16) (And.intro (fun _ _ _ h => h) ?_)
            case y16 => go_simp; rfl
            refine only_one 13 rfl (by kernel_rfl) rfl ?_
            go_simp
            have hal3 := (Chg.refl (fun _ => False) wb).alloc (.cells #[.slice Aa t1.length ca, .slice A l.length c, .slice A3 t3.length (ca - (a.length - tn))] 24)
            have hS3 := heap_new wb (.cells #[.slice Aa t1.length ca, .slice A l.length c, .slice A3 t3.length (ca - (a.length - tn))] 24)
            refine ⟨⟨hal3.cell e5 (fun h => h), hal3.cell e6 (fun h => h), hal3.cell e8 (fun h => h)⟩, ?_⟩
            refine only_one 14 rfl (by kernel_rfl) rfl ?_
            go_simp
            have hcc := concat3 (wb.alloc (.cells #[.slice Aa t1.length ca, .slice A l.length c, .slice A3 t3.length (ca - (a.length - tn))] 24)).drew wb.heap.size (fun i => if i = 0 then Aa else if i = 1 then A else A3) (fun i => if i = 0 then t1 else if i = 1 then l else t3) (fun i => if i = 0 then ca else if i = 1 then c else ca - (a.length - tn)) hS3 (fun i hi => by
                have : i = 0 ∨ i = 1 ∨ i = 2 := by omega
                rcases this with rfl | rfl | rfl
                · exact HT.out.chg ((HBL.out.trans hal3).drew)
                · exact HL.out.chg ((HC3.out.trans (HBL.out.trans hal3)).drew)
                · exact HD.out.chg ((HBL.out.trans hal3).drew)) (fun i hi => by
                have : i = 0 ∨ i = 1 ∨ i = 2 := by omega
                rcases this with rfl | rfl | rfl <;> simp <;> omega)
            refine hcc.mono ?_
            rintro e w6 ⟨v6, rfl, ho6, hC6⟩
            have hcat : catL (fun i => if i = 0 then t1 else if i = 1 then l else t3) 3 = T := by rw [← HTT.out]; simp [catL, List.range_succ]
            rw [hcat] at ho6
            obtain ⟨va, vc, hv6⟩ : ∃ va vc, v6 = .slice va T.length vc := by
              rcases ho6.2 with ⟨h1, h2⟩ | ⟨g', cap', cur, hv, hg', hh, r1, r2, r3, r4⟩
              · have : T = [] := by simpa using h2
                exact ⟨none, 0, by rw [h1, this]; rfl⟩
              · exact ⟨_, _, hv⟩
            subst hv6
            have hS6 := (hal3.drew.trans hC6)
            refine ⟨⟨hS6.cell e5 (fun h => h), hS6.cell e6 (fun h => h), hS6.cell e8 (fun h => h)⟩, ?_⟩
            refine take_one 15 ⟨hS6.cell e5 (fun h => h), hS6.cell e6 (fun h => h), hS6.cell e8 (fun h => h)⟩ rfl (by kernel_rfl) rfl ?_
            apply Exists.intro
            refine And.intro (fun W' hS' => ?y15) (And.intro (fun _ _ _ h => h) ?_)
            case y15 => go_simp; rfl
            refine all_done (by kernel_rfl) ?_ _
            go_simp
            go_wp2_with fail
            go_meet
            exact ⟨rfl, rfl, own_lower ho6 (by show wb.heap.size ≤ (wb.alloc _).heap.size; simp), hS6⟩
          case rest =>
            obtain ⟨rfl, rfl, ho, hC⟩ := hcut
            have hCw : Chg (fun _ => False) w wc := HC3.out.trans (HBL.out.trans hC)
            have hb0 : Lib.IsBuilder 82 5 w3.heap.size w3.heap.size (Lib.byteCells (outB (T.take 0))) wc := .inl ⟨Nat.le_refl _, .slice none 0 0, hC.keep HBN.out (fun h => h), World.ownsRow_nil _ _ _ _, by simp [Value.ownBlock]⟩
            have hne : u52.ownBlock ≠ some w3.heap.size := fun h => by have := own_block ho h; have := HBZ.out; omega
            obtain ⟨Ar, cr, rfl, hLr⟩ := own_lines ho
            have HO := Lib.hid ho
            have HB0 := Lib.hid hb0
            have HCW := Lib.hid hCw
            have HNE := Lib.hid hne
            have hsz3 := HC3.out.size
            have hmax : ∀ k, k ≤ T.length → (outB (T.take k)).length ≤ 400000 := fun k hk => by
              rw [outB_length, List.length_take]
              have := sizes_sub_take T k
              omega
            have HMX := Lib.hid hmax
            have HXA := Lib.hid (show applyL a l hn tn = T from HAP.out)
            rw [HXA.out] at HXS2 HXE2
            clear ho hC hb0 hCw hne hLr hmax HBL HBN e5 e6 e8 HT HD HAP hcut1 hcut2 hw1 HLA3 HL HP3 HBZ
            go_wp2_with fail
            go_loopw [10, 54] (fun _ i wr => ∃ j : Nat, j ≤ T.length ∧ i = .int .i64 j ∧ Lib.IsBuilder 82 5 w3.heap.size w3.heap.size (Lib.byteCells (outB (T.take j))) wr ∧ wr.ownsRow wb.heap.size 9 1 (.slice Ar T.length cr) T.length (T.map Value.string) ∧ Chg (fun _ => False) w wr) (fun _ i _ => T.length - (intOf i).toNat)
            case atStart => exact ⟨0, by omega, rfl, HB0.out, HO.out, HCW.out⟩
            case round =>
              obtain ⟨j, hj, rfl, hbj, hoj, hCj⟩ := hrel
              by_cases hlt : j < T.length
              · obtain ⟨Ar', cr', he, hLr⟩ := own_lines hoj
                cases he
                obtain ⟨g, p, rfl, cx⟩ := hLr j hlt
                have hot := outB_take T j hlt
                have hmx := HMX.out j hj
                have hmx1 := HMX.out (j + 1) (by omega)
                rw [hot, List.length_append, List.length_append] at hmx1
                have hzz : (T.getD j ByteArray.empty).data.toList.length = (T.getD j ByteArray.empty).size := by rw [Array.length_toList]; rfl
                have HOT := Lib.hid hot
                have HBJ := Lib.hid hbj
                have HOJ := Lib.hid hoj
                have HCJ := Lib.hid hCj
                have hszj := hCj.size
                clear hot hbj hoj hCj hLr
                generalize T.getD j ByteArray.empty = x at *
                have hws := writeString_some w3.heap.size w3.heap.size _ (x ++ ⟨#[10]⟩) wr HBJ.out (by rw [Lib.byteCells_length, line_size]; omega) (by
                  rcases HBJ.out with h | h
                  · exact Nat.le_of_lt h.lt
                  · exact Nat.le_of_lt h.lt)
                have HWS := Lib.hid hws
                clear hws
                go_wp2_with fail
                refine HWS.out.mono ?_
                rintro e w7 ⟨rfl, hb7, hbe7, hos7⟩
                have HB7 : Hid (Lib.IsBuilder 82 5 w3.heap.size w3.heap.size (Lib.byteCells (outB (T.take (j + 1)))) w7) := Lib.hid (by
                  rw [HOT.out, byteCells_append, ← strCells_line]
                  exact hb7)
                have HO7 := Lib.hid (own_others HOJ.out hos7 HNE.out)
                have HC7 := Lib.hid (chg_below HCJ.out hsz3 hbe7)
                clear hb7 hbe7 hos7 HWS
                go_wp2_with fail
                go_roundw
                case rel => exact ⟨j + 1, by omega, by go_num, HB7.out, HO7.out, HC7.out⟩
                case measure => simp [intOf] <;> omega
              · obtain rfl : j = T.length := by omega
                rw [List.take_length] at hbj
                have hlen := Tryd.Builder_Len w3.heap.size w3.heap.size _ wr hbj
                rw [Lib.byteCells_length] at hlen
                have HLEN := Lib.hid hlen
                have HSTR := Lib.hid (Tryd.Builder_String_any w3.heap.size w3.heap.size (outB T) wr hbj (by
                  rcases hbj with h | h
                  · exact Nat.le_of_lt h.lt
                  · exact Nat.le_of_lt h.lt))
                have HCJ := Lib.hid hCj
                clear hbj hoj hCj hlen
                generalize hN : (outB T).length = N at *
                go_wp2_with fail
                refine HLEN.out.mono ?_
                rintro e w7 ⟨rfl, rfl⟩
                by_cases hbg : 65536 < N
                · have HX1 : Hid (XS = ByteArray.empty) := Lib.hid (by rw [HXS2.out, if_pos hbg])
                  have HX2 : Hid (XE = 5) := Lib.hid (by rw [HXE2.out, if_pos hbg])
                  clear hN
                  go_wp2_with fail
                  go_ret2
                  exact ⟨by rw [HX1.out, HX2.out]; rfl, HCJ.out⟩
                · have HX1 : Hid (XS = ⟨(outB T).toArray⟩) := Lib.hid (by rw [HXS2.out, if_neg hbg])
                  have HX2 : Hid (XE = 0) := Lib.hid (by rw [HXE2.out, if_neg hbg])
                  clear hN
                  go_wp2_with fail
                  refine HSTR.out.mono ?_
                  rintro e w8 ⟨rfl, hbe8⟩
                  have HC8 := Lib.hid (chg_below HCJ.out hsz3 hbe8)
                  clear hbe8
                  go_wp2_with fail
                  go_ret2
                  exact ⟨by rw [HX1.out, HX2.out]; rfl, HC8.out⟩
        · have hht' : ((a.length : Nat) : Int) < hd + tl := by omega
          obtain ⟨hx1, hx2⟩ := HNO.out (fun h => by have := h.2.2.2; rw [← hea] at this; omega)
          have HX1 := Lib.hid hx1
          have HX2 := Lib.hid hx2
          clear hx1 hx2 hck hck02 hea
          generalize checkF 2 ver fr nd tk hd tl tx l = ck at *
          go_wp2_with fail
          go_ret2
          exact ⟨by rw [HX1.out, HX2.out]; rfl, HC3.out⟩
      · obtain rfl := HE5.out hss
        obtain ⟨hx1, hx2⟩ := HNO.out (fun h => hss h.2.2.1)
        have HX1 := Lib.hid hx1
        have HX2 := Lib.hid hx2
        clear hx1 hx2 hck hck02
        generalize checkF 2 ver fr nd tk hd tl tx l = ck at *
        go_wp2_with fail
        go_ret2
        exact ⟨by rw [HX1.out, HX2.out]; rfl, HC3.out⟩
    · have hkb : (k != 2) = true := bne_iff_ne.2 hk
      obtain ⟨hx1, hx2⟩ := HNO.out (fun h => hk h.2.1)
      have HX1 := Lib.hid hx1
      have HX2 := Lib.hid hx2
      clear hx1 hx2 hck hck02 hk
      generalize checkF k ver fr nd tk hd tl tx l = ck at *
      go_wp2_with fail
      go_ret2
      exact ⟨by rw [HX1.out, HX2.out]; rfl, HC3.out⟩
  · have hcb : (checkF k ver fr nd tk hd tl tx l != 0) = true := bne_iff_ne.2 hck
    obtain ⟨hx1, hx2⟩ := HNO.out (fun h => hck h.1)
    have HX1 := Lib.hid hx1
    have HX2 := Lib.hid hx2
    clear hx1 hx2 hck hck02
    generalize checkF k ver fr nd tk hd tl tx l = ck at *
    go_wp2_with fail
    go_ret2
    exact ⟨by rw [HX1.out, HX2.out]; rfl, HC3.out⟩
end Go.Proofs.YteiedafdakffeaaDoor
