/- push: the law PushCut, walked: it returns true at every input. -/
import Derived.Test.YteiedafdakffeaaDoorPuK
import Derived.OpenShut
namespace Go.Proofs.YteiedafdakffeaaDoor
set_option linter.unusedVariables false
set_option linter.unusedSimpArgs false
open Go Go.RowKit Go.Proofs
open Go.Proofs.YteiedafdakffeaaDoorW.PrintWords (Kd ReadsInt ReadsOf own_move print_drop_of print_take_of gate_dst gate_store bytesOf bytesOf_length)
set_option maxRecDepth 100000 in
set_option maxHeartbeats 8000000 in
theorem cut_any (w : World) (kd n0 n1 n2 n3 n4 n5 : Int) (tx0 : ByteArray) (A : Option Addr) (L : List ByteArray) (c : Nat) (at0 more : Int) (hW : WOk w) (hl : Lns w A L) (hs : ∀ s ∈ L, s.size ≤ 9223372036854775807) (hL : L.length ≤ 9223372036854775807)
    (hk : I64 kd) (h0 : I64 n0) (h1 : I64 n1) (h2 : I64 n2) (h3 : I64 n3) (h4 : I64 n4) (h5 : I64 n5) (ha : I64 at0) (hm0 : 0 ≤ more) (hm1 : more ≤ 255) :
    Calls Tryd.prog 6 #[.agg (seedC kd n0 n1 n2 n3 n4 n5 tx0 (.slice A L.length c)), .int .i64 at0, .int .u8 more] w fun e w' => e = .returned (.bool true) ∧ Chg (fun _ => False) w w' := by
  obtain ⟨i0, hi, hz0, hz1, hz2⟩ := info_parts info5
  have hal := (Chg.refl (fun _ => False) w).alloc (.cells (seedC kd n0 n1 n2 n3 n4 n5 tx0 (.slice A L.length c)) 44)
  have HMD := Lib.hid (made_some (w.alloc (.cells (seedC kd n0 n1 n2 n3 n4 n5 tx0 (.slice A L.length c)) 44)) kd n0 n1 n2 n3 n4 n5 tx0 A L c (hl.chg hal) hs hL hk h0 h1 h2 h3 h4 h5)
  have HAL := Lib.hid hal
  have HW := Lib.hid hW
  clear hal hl hs hW
  unfold seedC at *
  go_enter Tryd.func6, Tryd.ntmps6
  go_wp2_with fail
  refine HMD.out.mono ?_
  rintro e w3 ⟨k, V, tx, v, l, rfl, hck, ho, hC3⟩
  obtain ⟨A3, c3, rfl, hl3⟩ := own_lines ho
  have HC3 := Lib.hid (HAL.out.trans hC3)
  obtain ⟨⟨hk1, hk5⟩, hbt, hbf, hbs, hbn, _, _, _⟩ := check_bounds hck
  have hby := bytes_ok w3 k (V 1) (V 2) (V 3) (V 4) (V 5) (V 6) tx A3 l c3 hl3 hbn hbs hbt hk1 hk5 hck
  have hpos := pushB_pos k (V 1) (V 2) (V 3) (V 4) (V 5) (V 6) tx l
  have hle := pushB_le k (V 1) (V 2) (V 3) (V 4) (V 5) (V 6) tx l hbt hbs hbn
  have hbb := bys_push k (V 1) (V 2) (V 3) (V 4) (V 5) (V 6) tx l
  have hct := parse_cut hck
  have hap := parse_app hck [more]
  rw [if_pos (by simp)] at hap
  generalize pushB k (V 1) (V 2) (V 3) (V 4) (V 5) (V 6) tx l = b at *
  have HBY := Lib.hid hby
  have HBB := Lib.hid hbb
  have HCT := Lib.hid hct
  have HAP := Lib.hid hap
  clear hC3 ho hl3 hby hck hbb hct hap HMD HAL hk1 hk5 hbf
  unfold pk at *
  go_wp2_with fail
  refine HBY.out.mono ?_
  rintro e w4 ⟨v4, rfl, ho4, hC4⟩
  obtain ⟨A4, c4, rfl, hc4, hR4⟩ := own_bytes ho4
  have HC4 := Lib.hid (HC3.out.trans hC4)
  have hne : ((b.length : Int) == 0) = false := by rw [beq_eq_false_iff_ne]; omega
  have hr0 := Int.emod_nonneg at0 (show (b.length : Int) ≠ 0 by omega)
  have hr1 := Int.emod_lt_of_pos at0 (show (0 : Int) < (b.length : Int) by omega)
  have hbr := bring_some w4 at0 (b.length : Int) (by omega) (by omega) ha.1 ha.2
  obtain ⟨r, hr⟩ : ∃ r, at0 % (b.length : Int) = r := ⟨_, rfl⟩
  rw [hr] at hr0 hr1 hbr
  clear hr
  obtain ⟨hcut, hA, hC⟩ := print_take_of (P := Tryd.prog) (Value.int .u8) (0 : Int) 22 5 .i64 Tryd.underlying22 hi hz1 A4 c4 b r hr0 (by omega) hc4
  have HBR := Lib.hid hbr
  have HF := Lib.hid (fails_ok w4 3 A4 (b.take r.toNat) c4 (hA w4 hR4) hC (fun x hx => HBB.out x (List.mem_of_mem_take hx)) (HCT.out r.toNat (by omega)))
  have HR4 := Lib.hid hR4
  clear ho4 hC4 HBY HC3 hbr hR4 hA hC HCT
  generalize b.take r.toNat = bt at *
  go_wp2_with fail
  refine HBR.out.mono ?_
  rintro e w4' ⟨rfl, rfl⟩
  go_wp2_with fail
  refine HF.out.mono ?_
  rintro e w5 ⟨rfl, hC5⟩
  have HC5 := Lib.hid (HC4.out.trans hC5)
  have HCP := Lib.hid (copyB_some w5 A4 b c4 (reads_keep HR4.out hC5) hpos (by omega))
  clear hC5 HC4 HF HBR hcut
  go_wp2_with fail
  refine HCP.out.mono ?_
  rintro e w6 ⟨v6, rfl, ho6, hC6⟩
  have HC6 := Lib.hid (HC5.out.trans hC6)
  have HO6 := Lib.hid ho6
  have hO6 : (w6.alloc (.cells #[.int .u8 more] 5)).ownsRow w5.heap.size 5 1 v6 b.length (u8s b) := ho6.alloc _
  have hs6 := hC6.size
  obtain ⟨v7, w7, hrun, ho7, hg7, _, _⟩ := run_append_own_at (P := Tryd.prog) (w := w6.alloc (.cells #[.int .u8 more] 5)) w5.heap.size 22 22 5 i0 (.int .u8 0) 1 1 Tryd.underlying22 hi hz0 hz1 hz2 rfl (by decide) v6 b.length (u8s b) hO6 ⟨w6.heap.size, 0, none⟩ 1 1 [.int .u8 more] rfl (cell_one_new _ _ _) (by simp [Value.oneCell']) (by unfold maxLen; omega) (by omega) (by simp; omega)
  have ho7' : w7.ownsRow w5.heap.size 5 1 v7 (b ++ [more]).length (u8s (b ++ [more])) := by
    rw [List.length_append, u8s_append]
    exact ho7
  obtain ⟨A7, c7, rfl, hc7, hR7⟩ := own_bytes ho7'
  have hl7 : (b ++ [more]).length = b.length + 1 := by rw [List.length_append]; rfl
  have hC7 := (HC6.out.alloc (.cells #[.int .u8 more] 5)).grown hg7 (fun q hq => .inr (by have := own_block ho6 hq; have := HC5.out.size; omega))
  have HF7 := Lib.hid (fails_ok w7 4 A7 (b ++ [more]) c7 hR7 hc7 (fun x hx => by
    rcases List.mem_append.1 hx with h | h
    · exact HBB.out x h
    · obtain rfl : x = more := by simpa using h
      exact ⟨hm0, hm1⟩) HAP.out)
  have HC7 := Lib.hid hC7
  obtain ⟨va, vn, vc, rfl⟩ := own_slice ho6
  obtain ⟨N7, hN7⟩ : ∃ N, (b ++ [more]).length = N := ⟨_, rfl⟩
  rw [hN7] at hrun HF7
  clear ho6 hC6 HCP hO6 ho7 ho7' hg7 hc7 hR7 hC7 hl7 hN7 hs6 HC6
  have HRUN := Lib.hid hrun
  clear hrun
  go_wp2_with (at_builtin; refine wpList_append_guarded ?hg (.tmp 31) (.tmp 33) 22 22 rfl _ _ rfl rfl _ _ HRUN.out ?_; · kernel_rfl)
  refine HF7.out.mono ?_
  rintro e w8 ⟨rfl, hC8⟩
  have HC8 := Lib.hid (HC7.out.trans hC8)
  have HWK := Lib.hid (works_some w8 (HW.out.chg HC8.out))
  clear hC8 HC7 HF7 HRUN
  go_wp2_with fail
  refine HWK.out.mono ?_
  rintro e w9 ⟨rfl, hC9⟩
  have HC9 := Lib.hid (HC8.out.trans hC9)
  clear hC9 HWK HC8
  go_wp2_with fail
  go_ret
  exact ⟨rfl, HC9.out⟩
theorem PushCut_calls (kd n0 n1 n2 n3 n4 n5 : Int) (tx0 : ByteArray) (A : Option Addr) (L : List ByteArray) (c : Nat) (at0 more : Int) (w : World) (hW : WOk w) (hl : Lns w A L) (hs : ∀ s ∈ L, s.size ≤ 9223372036854775807) (hL : L.length ≤ 9223372036854775807)
    (hk : I64 kd) (h0 : I64 n0) (h1 : I64 n1) (h2 : I64 n2) (h3 : I64 n3) (h4 : I64 n4) (h5 : I64 n5) (ha : (Lit.int .i64 at0).wf = true) (hm : (Lit.int .u8 more).wf = true) :
    Calls Tryd.prog 6 #[.agg (seedC kd n0 n1 n2 n3 n4 n5 tx0 (.slice A L.length c)), .int .i64 at0, .int .u8 more] w fun e w' => e = .returned (.bool true) ∧ Chg (fun _ => False) w w' := by
  have hb := bounds_u8 hm
  have hi : I64 at0 := by
    simp [Lit.wf, IntKind.min, IntKind.max, IntKind.signed, IntKind.bits] at ha
    unfold I64
    omega
  exact cut_any w kd n0 n1 n2 n3 n4 n5 tx0 A L c at0 more hW hl hs hL hk h0 h1 h2 h3 h4 h5 hi hb.1 hb.2
end Go.Proofs.YteiedafdakffeaaDoor
