/- push: the law PushDiffs, walked: it returns true at every input. -/
import Derived.Test.YteiedafdakffeaaDoorPvF
import Derived.Test.YteiedafdakffeaaDoorPuF
import Derived.Test.YteiedafdakffeaaDoorPuJ
namespace Go.Proofs.YteiedafdakffeaaDoor
set_option linter.unusedVariables false
set_option linter.unusedSimpArgs false
open Go Go.RowKit Go.Proofs
open Go.Proofs.YteiedafdakffeaaDoorW.PrintWords (Kd ReadsInt ReadsOf own_move gate_dst gate_store bytesOf bytesOf_length)
attribute [local go_sem] Go.Proofs.YteiedafdakffeaaDoorW.PrintMore.min2_int Go.Proofs.YteiedafdakffeaaDoorW.PrintMore.min_two
theorem diffP_mk (X Y : List ByteArray) (hx : ∀ x ∈ X, no10 x) (hy : ∀ x ∈ Y, no10 x) (h1 : sizes X + X.length ≤ 65536) (h2 : sizes Y + Y.length ≤ 65536) (h3 : Y.length ≤ 1000) :
    diffP (mk X) (mk Y) = ⟨2, diffV (diffH X Y) (diffT X Y), ByteArray.empty, diffL X Y, 0⟩ := by
  obtain ⟨_, _, _, hl⟩ := diff_back X Y
  unfold diffP
  rw [if_neg (by rw [mk_size]; omega), if_neg (by rw [mk_size]; omega), lnsOf_mk X hx, lnsOf_mk Y hy, if_neg (by omega)]
theorem sizes_sub (X : List ByteArray) (Y : List ByteArray) (h1 : (diffL X Y).length ≤ Y.length) : sizes (diffL X Y) ≤ sizes Y := by
  obtain ⟨h, _, _, _⟩ := diff_back X Y
  have : sizes Y = sizes (X.take (diffH X Y)) + (sizes (diffL X Y) + sizes (X.drop (X.length - diffT X Y))) := by
    conv => lhs; rw [← h]
    unfold applyL
    rw [sizes_append, sizes_append]
  omega
theorem sub_no10 (X : List ByteArray) (Y : List ByteArray) (hy : ∀ x ∈ Y, no10 x) : ∀ x ∈ diffL X Y, no10 x := fun x hx => by
  obtain ⟨h, _, _, _⟩ := diff_back X Y
  refine hy x ?_
  rw [← h]
  unfold applyL
  simp [hx]
theorem diff_check (X Y : List ByteArray) (hy : ∀ x ∈ Y, no10 x) (h1 : sizes X + X.length ≤ 65536) (h2 : sizes Y + Y.length ≤ 65536) (h3 : Y.length ≤ 1000) :
    checkP 2 (diffV (diffH X Y) (diffT X Y)) ByteArray.empty (diffL X Y) = 0 := by
  obtain ⟨_, g1, g2, g3⟩ := diff_back X Y
  have hs := sizes_sub X Y (by omega)
  exact ok_delta 2 1 0 (diffH X Y : Nat) (diffT X Y : Nat) _ _ (by omega) (by omega) (by omega) (by omega) (by omega) (by omega) (by omega) (by omega) (by omega) (by omega) (flat_no10 (sub_no10 X Y hy)) (by omega) (by omega) rfl rfl rfl rfl rfl rfl
theorem diff_apply (X Y : List ByteArray) (hx : ∀ x ∈ X, no10 x) (hy : ∀ x ∈ Y, no10 x) (h1 : sizes X + X.length ≤ 65536) (h2 : sizes Y + Y.length ≤ 65536) (h3 : Y.length ≤ 1000) :
    applyS (mk X) 2 2 1 0 0 (diffH X Y : Nat) (diffT X Y : Nat) ByteArray.empty (diffL X Y) = mk Y ∧ applyE (mk X) 2 2 1 0 0 (diffH X Y : Nat) (diffT X Y : Nat) ByteArray.empty (diffL X Y) = 0 := by
  obtain ⟨g0, g1, g2, g3⟩ := diff_back X Y
  have hck := diff_check X Y hy h1 h2 h3
  have hok : applyOk (mk X) 2 2 1 0 0 (diffH X Y : Nat) (diffT X Y : Nat) ByteArray.empty (diffL X Y) := ⟨hck, rfl, by rw [mk_size]; omega, by rw [lnsOf_mk X hx]; omega⟩
  have hob : ¬ 65536 < (outB Y).length := by rw [outB_length]; omega
  unfold applyS applyE
  rw [if_pos hok, if_pos hok, lnsOf_mk X hx]
  simp only [Int.toNat_natCast, g0, if_neg hob]
  exact ⟨rfl, trivial⟩
/-- what the law asks of a difference -/
structure DiffOk (a b : ByteArray) (dk : Int) (dV : Nat → Int) (dx : ByteArray) (dl : List ByteArray) (de : Int) : Prop where
  e : de = 0
  s : applyS a dk (dV 1) (dV 2) (dV 3) (dV 4) (dV 5) (dV 6) dx dl = b
  h : applyE a dk (dV 1) (dV 2) (dV 3) (dV 4) (dV 5) (dV 6) dx dl = 0
  c : checkF dk (dV 1) (dV 2) (dV 3) (dV 4) (dV 5) (dV 6) dx dl = 0
theorem diff_ok (X Y : List ByteArray) (hx : ∀ x ∈ X, no10 x) (hy : ∀ x ∈ Y, no10 x) (h1 : sizes X + X.length ≤ 65536) (h2 : sizes Y + Y.length ≤ 65536) (h3 : Y.length ≤ 1000) :
    DiffOk (mk X) (mk Y) (diffP (mk X) (mk Y)).k (diffP (mk X) (mk Y)).V (diffP (mk X) (mk Y)).tx (diffP (mk X) (mk Y)).l (diffP (mk X) (mk Y)).e ∧ (diffP (mk X) (mk Y)).l = diffL X Y ∧ (diffP (mk X) (mk Y)).V 5 = (diffH X Y : Nat) := by
  rw [diffP_mk X Y hx hy h1 h2 h3]
  obtain ⟨g1, g2⟩ := diff_apply X Y hx hy h1 h2 h3
  exact ⟨⟨rfl, g1, g2, diff_check X Y hy h1 h2 h3⟩, rfl, rfl⟩
theorem join3 (a b c : List ByteArray) : (∀ x ∈ joinL a ++ joinL b ++ joinL c, no10 x) ∧ sizes (joinL a ++ joinL b ++ joinL c) + (joinL a ++ joinL b ++ joinL c).length ≤ 65536 ∧ (joinL a ++ joinL b ++ joinL c).length ≤ 1000 := by
  refine ⟨fun x hx => ?_, ?_, ?_⟩
  · rcases List.mem_append.1 hx with h | h
    · rcases List.mem_append.1 h with h | h
      · exact joinL_no10 a x h
      · exact joinL_no10 b x h
    · exact joinL_no10 c x h
  · rw [sizes_append, sizes_append, List.length_append, List.length_append]
    have := joinL_sizes a
    have := joinL_sizes b
    have := joinL_sizes c
    have := joinL_len a
    have := joinL_len b
    have := joinL_len c
    omega
  · rw [List.length_append, List.length_append]
    have := joinL_len a
    have := joinL_len b
    have := joinL_len c
    omega
theorem join_z (l : List ByteArray) : (mk (joinL l)).size ≤ 2440 := by
  rw [mk_size]
  have := joinL_sizes l
  have := joinL_len l
  omega
set_option maxRecDepth 100000 in
set_option maxHeartbeats 8000000 in
theorem diffs_any (w : World) (A0 : Option Addr) (l0 : List ByteArray) (c0 : Nat) (B0 : Option Addr) (m0 : List ByteArray) (d0 : Nat) (B1 : Option Addr) (m1 : List ByteArray) (d1 : Nat) (E0 : Option Addr) (n0 : List ByteArray) (e0 : Nat) (hW : WOk w)
    (hl : Lns w A0 l0) (hL : l0.length ≤ 9223372036854775807) (hls : ∀ s ∈ l0, s.size ≤ 9223372036854775807) (hm : Lns w B0 m0) (hM : m0.length ≤ 9223372036854775807) (hms : ∀ s ∈ m0, s.size ≤ 9223372036854775807)
    (hp : Lns w B1 m1) (hP : m1.length ≤ 9223372036854775807) (hps : ∀ s ∈ m1, s.size ≤ 9223372036854775807) (hn : Lns w E0 n0) (hN : n0.length ≤ 9223372036854775807) (hns : ∀ s ∈ n0, s.size ≤ 9223372036854775807) :
    Calls Tryd.prog 7 #[.slice A0 l0.length c0, .agg #[.slice B0 m0.length d0, .slice B1 m1.length d1], .slice E0 n0.length e0] w fun e w' => e = .returned (.bool true) ∧ Chg (fun _ => False) w w' := by
  have hal := (Chg.refl (fun _ => False) w).alloc (.cells #[.slice B0 m0.length d0, .slice B1 m1.length d1] 49)
  have HQX := Lib.hid (heap_new w (.cells #[.slice B0 m0.length d0, .slice B1 m1.length d1] 49))
  have HC := Lib.hid hal
  have HL := Lib.hid hl
  have HM := Lib.hid hm
  have HP := Lib.hid hp
  have HN := Lib.hid hn
  have HLS := Lib.hid hls
  have HMS := Lib.hid hms
  have HPS := Lib.hid hps
  have HNS := Lib.hid hns
  have HW := Lib.hid hW
  clear hal hl hm hp hn hls hms hps hns hW
  obtain ⟨hx1, hx2, hx3⟩ := join3 l0 m0 n0
  obtain ⟨hy1, hy2, hy3⟩ := join3 l0 m1 n0
  obtain ⟨hok1, hdl1, hdh1⟩ := diff_ok _ _ hx1 hy1 hx2 hy2 hy3
  obtain ⟨hok2, hdl2, _⟩ := diff_ok _ _ hx1 hx1 hx2 hx2 hx3
  obtain ⟨hfew, hhead⟩ := diff_few (joinL l0) (joinL m0) (joinL m1) (joinL n0)
  rw [← hdl1, joinL_len] at hfew
  rw [joinL_len] at hhead
  rw [diff_self] at hdl2
  have hsz1 := mk_size (joinL l0 ++ joinL m0 ++ joinL n0)
  have hsz2 := mk_size (joinL l0 ++ joinL m1 ++ joinL n0)
  have HSA := Lib.hid (show (mk (joinL l0) ++ mk (joinL m0)) ++ mk (joinL n0) = mk (joinL l0 ++ joinL m0 ++ joinL n0) by rw [mk_append, mk_append])
  have HSB := Lib.hid (show (mk (joinL l0) ++ mk (joinL m1)) ++ mk (joinL n0) = mk (joinL l0 ++ joinL m1 ++ joinL n0) by rw [mk_append, mk_append])
  have hh5 : ((min l0.length 40 : Nat) : Int) ≤ (diffP (mk (joinL l0 ++ joinL m0 ++ joinL n0)) (mk (joinL l0 ++ joinL m1 ++ joinL n0))).V 5 := by rw [hdh1]; omega
  have hza : (mk (joinL l0 ++ joinL m0 ++ joinL n0)).size ≤ 65536 := by omega
  have hzb : (mk (joinL l0 ++ joinL m1 ++ joinL n0)).size ≤ 65536 := by omega
  clear hdh1 hdl1 hhead hx1 hx2 hx3 hy1 hy2 hy3 hsz1 hsz2
  generalize mk (joinL l0 ++ joinL m0 ++ joinL n0) = a at *
  generalize mk (joinL l0 ++ joinL m1 ++ joinL n0) = b at *
  obtain ⟨D1, hD1⟩ : ∃ D, diffP a b = D := ⟨_, rfl⟩
  obtain ⟨D2, hD2⟩ : ∃ D, diffP a a = D := ⟨_, rfl⟩
  rw [hD1] at hok1 hfew hh5
  rw [hD2] at hok2 hdl2
  have HD1 := Lib.hid hD1
  have HD2 := Lib.hid hD2
  clear hD1 hD2
  obtain ⟨k1, V1, x1, p1, z1⟩ := D1
  obtain ⟨k2, V2, x2, p2, z2⟩ := D2
  simp only at hok1 hok2 hfew hh5 hdl2
  subst hdl2
  obtain ⟨rfl, hs1, hE1, hc1⟩ := hok1
  obtain ⟨rfl, hs2, hE2, hc2⟩ := hok2
  have HS1 := Lib.hid hs1
  have HE1 := Lib.hid hE1
  have HK1 := Lib.hid hc1
  have HS2 := Lib.hid hs2
  have HE2 := Lib.hid hE2
  clear hs1 hE1 hc1 hs2 hE2 hc2
  obtain ⟨_, _, _, _, hp1l, _⟩ := check_bounds HK1.out
  obtain ⟨_, _, _, hp1s, _, _⟩ := check_bounds HK1.out
  go_enter Tryd.func7, Tryd.ntmps7
  go_upto_region 1 with fail
  generalize w.alloc (.cells #[.slice B0 m0.length d0, .slice B1 m1.length d1] 49) = w1 at *
  go_cut [7] from 17 to 25 (fun s W => s = .string a ∧ Chg (fun _ => False) w1 W)
  case first =>
    have hd := (Chg.refl (fun _ => False) w1).drew
    have hz1 := join_z l0
    have hz2 := join_z m0
    have hz3 := join_z n0
    have hn1 : (9223372036854775807 < (mk (joinL l0)).size + (mk (joinL m0)).size) = False := eq_false (by omega)
    have hn2 : (9223372036854775807 < (mk (joinL l0)).size + (mk (joinL m0)).size + (mk (joinL n0)).size) = False := eq_false (by omega)
    have hn3 : (9223372036854775807 < (mk (joinL l0) ++ mk (joinL m0)).size + (mk (joinL n0)).size) = False := eq_false (by rw [ByteArray.size_append]; omega)
    have hS : w1.drew.cell? ⟨w.heap.size, 0, none⟩ = some (.slice B0 m0.length d0) := cell_of_heap HQX.out 0
    refine region_lone (fun W' => W'.cell? ⟨w.heap.size, 0, none⟩ = some (.slice B0 m0.length d0)) [] (by kernel_rfl) ?_
    refine take_one 0 hS rfl (by kernel_rfl) rfl ?_
    apply Exists.intro
    refine And.intro (fun W' hS' => ?y0) (And.intro (fun _ _ _ h => h) ?_)
    case y0 => have x0 := hS'; go_simp; rfl
    refine take_one 2 hS rfl (by kernel_rfl) rfl ?_
    apply Exists.intro
    refine And.intro (fun W' hS' => ?y2) (And.intro (fun _ _ _ h => h) ?_)
    case y2 => have x0 := hS'; go_simp; rfl
    refine take_one 3 hS rfl (by kernel_rfl) rfl ?_
    apply Exists.intro
    refine And.intro (fun W' hS' => ?y3) (And.intro (fun _ _ _ h => h) ?_)
    case y3 => have x0 := hS'; go_simp; rfl
    refine take_one 6 hS rfl (by kernel_rfl) rfl ?_
    apply Exists.intro
    refine And.intro (fun W' hS' => ?y6) (And.intro (fun _ _ _ h => h) ?_)
    case y6 => have x0 := hS'; go_simp; rfl
    refine only_one 1 rfl (by kernel_rfl) rfl ?_
    try go_simp
    refine (joined_some _ A0 l0 c0 (HL.out.chg (HC.out.trans hd)) hL HLS.out).mono ?_
    rintro e w21 ⟨rfl, hC1⟩
    have hS1 := hC1.cell hS (fun h => h)
    have hT1 := hd.trans hC1
    refine ⟨hS1, ?_⟩
    refine only_one 4 rfl (by kernel_rfl) rfl ?_
    try go_simp
    refine (joined_some _ B0 m0 d0 (HM.out.chg (HC.out.trans hT1)) hM HMS.out).mono ?_
    rintro e w24 ⟨rfl, hC4⟩
    have hS4 := hC4.cell hS1 (fun h => h)
    have hT4 := hT1.trans hC4
    refine ⟨hS4, ?_⟩
    refine take_one 5 hS4 rfl (by kernel_rfl) rfl ?_
    apply Exists.intro
    refine And.intro (fun W' hS' => ?y5) (And.intro (fun _ _ _ h => h) ?_)
    case y5 => have x0 := hS'; go_simp; rfl
    refine only_one 7 rfl (by kernel_rfl) rfl ?_
    try go_simp
    refine (joined_some _ E0 n0 e0 (HN.out.chg (HC.out.trans hT4)) hN HNS.out).mono ?_
    rintro e w27 ⟨rfl, hC7⟩
    have hS7 := hC7.cell hS4 (fun h => h)
    have hT7 := hT4.trans hC7
    refine ⟨hS7, ?_⟩
    refine take_one 8 hS7 rfl (by kernel_rfl) rfl ?_
    apply Exists.intro
    refine And.intro (fun W' hS' => ?y8) (And.intro (fun _ _ _ h => h) ?_)
    case y8 => have x0 := hS'; go_simp; rfl
    refine take_one 9 hS7 rfl (by kernel_rfl) rfl ?_
    apply Exists.intro
    refine And.intro (fun W' hS' => ?y9) (And.intro (fun _ _ _ h => h) ?_)
    case y9 => have x0 := hS'; go_simp; rfl
    try go_simp
    refine all_done (by kernel_rfl) ?_ _
    have HT := Lib.hid hT7
    clear hS hS1 hS4 hS7 hd hT1 hT4 hT7 hC1 hC4 hC7 hn1 hn2 hn3 hz1 hz2 hz3
    go_wp2_with fail
    go_meet
    exact ⟨by rw [HSA.out], HT.out⟩
  case rest =>
    obtain ⟨rfl, hC1⟩ := hcut
    have HQX2 := Lib.hid (hC1.keep HQX.out (fun h => h))
    have HC2 := Lib.hid (HC.out.trans hC1)
    clear hC1 HQX HC
    go_upto_region 2 with fail
    obtain ⟨w2, hw2⟩ : ∃ W : World, W = wc := ⟨_, rfl⟩
    subst hw2
    go_cut [8] from 26 to 34 (fun s W => s = .string b ∧ Chg (fun _ => False) w2 W)
    case first =>
      have hd := (Chg.refl (fun _ => False) w2).drew
      have hz1 := join_z l0
      have hz2 := join_z m1
      have hz3 := join_z n0
      have hn1 : (9223372036854775807 < (mk (joinL l0)).size + (mk (joinL m1)).size) = False := eq_false (by omega)
      have hn2 : (9223372036854775807 < (mk (joinL l0)).size + (mk (joinL m1)).size + (mk (joinL n0)).size) = False := eq_false (by omega)
      have hn3 : (9223372036854775807 < (mk (joinL l0) ++ mk (joinL m1)).size + (mk (joinL n0)).size) = False := eq_false (by rw [ByteArray.size_append]; omega)
      have hS : w2.drew.cell? ⟨w.heap.size, 1, none⟩ = some (.slice B1 m1.length d1) := cell_of_heap HQX2.out 1
      refine region_lone (fun W' => W'.cell? ⟨w.heap.size, 1, none⟩ = some (.slice B1 m1.length d1)) [] (by kernel_rfl) ?_
      refine take_one 0 hS rfl (by kernel_rfl) rfl ?_
      apply Exists.intro
      refine And.intro (fun W' hS' => ?y0) (And.intro (fun _ _ _ h => h) ?_)
      case y0 => have x0 := hS'; go_simp; rfl
      refine take_one 2 hS rfl (by kernel_rfl) rfl ?_
      apply Exists.intro
      refine And.intro (fun W' hS' => ?y2) (And.intro (fun _ _ _ h => h) ?_)
      case y2 => have x0 := hS'; go_simp; rfl
      refine take_one 3 hS rfl (by kernel_rfl) rfl ?_
      apply Exists.intro
      refine And.intro (fun W' hS' => ?y3) (And.intro (fun _ _ _ h => h) ?_)
      case y3 => have x0 := hS'; go_simp; rfl
      refine take_one 6 hS rfl (by kernel_rfl) rfl ?_
      apply Exists.intro
      refine And.intro (fun W' hS' => ?y6) (And.intro (fun _ _ _ h => h) ?_)
      case y6 => have x0 := hS'; go_simp; rfl
      refine only_one 1 rfl (by kernel_rfl) rfl ?_
      try go_simp
      refine (joined_some _ A0 l0 c0 (HL.out.chg (HC2.out.trans hd)) hL HLS.out).mono ?_
      rintro e w21 ⟨rfl, hC1⟩
      have hS1 := hC1.cell hS (fun h => h)
      have hT1 := hd.trans hC1
      refine ⟨hS1, ?_⟩
      refine only_one 4 rfl (by kernel_rfl) rfl ?_
      try go_simp
      refine (joined_some _ B1 m1 d1 (HP.out.chg (HC2.out.trans hT1)) hP HPS.out).mono ?_
      rintro e w24 ⟨rfl, hC4⟩
      have hS4 := hC4.cell hS1 (fun h => h)
      have hT4 := hT1.trans hC4
      refine ⟨hS4, ?_⟩
      refine take_one 5 hS4 rfl (by kernel_rfl) rfl ?_
      apply Exists.intro
      refine And.intro (fun W' hS' => ?y5) (And.intro (fun _ _ _ h => h) ?_)
      case y5 => have x0 := hS'; go_simp; rfl
      refine only_one 7 rfl (by kernel_rfl) rfl ?_
      try go_simp
      refine (joined_some _ E0 n0 e0 (HN.out.chg (HC2.out.trans hT4)) hN HNS.out).mono ?_
      rintro e w27 ⟨rfl, hC7⟩
      have hS7 := hC7.cell hS4 (fun h => h)
      have hT7 := hT4.trans hC7
      refine ⟨hS7, ?_⟩
      refine take_one 8 hS7 rfl (by kernel_rfl) rfl ?_
      apply Exists.intro
      refine And.intro (fun W' hS' => ?y8) (And.intro (fun _ _ _ h => h) ?_)
      case y8 => have x0 := hS'; go_simp; rfl
      refine take_one 9 hS7 rfl (by kernel_rfl) rfl ?_
      apply Exists.intro
      refine And.intro (fun W' hS' => ?y9) (And.intro (fun _ _ _ h => h) ?_)
      case y9 => have x0 := hS'; go_simp; rfl
      try go_simp
      refine all_done (by kernel_rfl) ?_ _
      have HT := Lib.hid hT7
      clear hS hS1 hS4 hS7 hd hT1 hT4 hT7 hC1 hC4 hC7 hn1 hn2 hn3 hz1 hz2 hz3
      go_wp2_with fail
      go_meet
      exact ⟨by rw [HSB.out], HT.out⟩
    case rest =>
      obtain ⟨rfl, hC3⟩ := hcut
      have HQX3 := Lib.hid (hC3.keep HQX2.out (fun h => h))
      have HC3 := Lib.hid (HC2.out.trans hC3)
      clear hC3 HQX2 HC2
      have HDF := Lib.hid (diff_some wc a b (HW.out.chg HC3.out))
      rw [HD1.out] at HDF
      go_wp2_with fail
      refine HDF.out.mono ?_
      unfold DiffPost pk
      simp only
      rintro e w4 ⟨A4, c4, rfl, hc4, hL4, hN4, hC4⟩
      have hal4 := (Chg.refl (fun _ => False) w4).alloc (.cells #[.int .i64 k1, .int .i64 (V1 1), .int .i64 (V1 2), .int .i64 (V1 3), .int .i64 (V1 4), .int .i64 (V1 5), .int .i64 (V1 6), .string x1, .slice A4 p1.length c4] 26)
      have hT4 := hC4.trans hal4
      have HA5 : Hid (PktAt (w4.alloc (.cells #[.int .i64 k1, .int .i64 (V1 1), .int .i64 (V1 2), .int .i64 (V1 3), .int .i64 (V1 4), .int .i64 (V1 5), .int .i64 (V1 6), .string x1, .slice A4 p1.length c4] 26)) w4.heap.size k1 V1 x1 (.slice A4 p1.length c4)) := Lib.hid (heap_new w4 _)
      have HLA5 := Lib.hid (hL4.chg hal4)
      have HQX5 := Lib.hid (hT4.keep HQX3.out (fun h => h))
      have HC5 := Lib.hid (HC3.out.trans hT4)
      clear hal4 hT4 hL4 hN4 hC4 HDF HQX3 HC3
      go_upto_region 4 with fail
      generalize w4.alloc (.cells #[.int .i64 k1, .int .i64 (V1 1), .int .i64 (V1 2), .int .i64 (V1 3), .int .i64 (V1 4), .int .i64 (V1 5), .int .i64 (V1 6), .string x1, .slice A4 p1.length c4] 26) = w5 at *
      generalize w4.heap.size = PA at *
      obtain ⟨q0, q1, q2, q3, q4, q5, q6, q7, q8⟩ := HA5.out.cells9
      have HAP := Lib.hid (apply_some w5 a k1 (V1 1) (V1 2) (V1 3) (V1 4) (V1 5) (V1 6) x1 A4 p1 c4 (HW.out.chg HC5.out) HLA5.out hc4 (by omega) (by omega))
      rw [HS1.out, HE1.out] at HAP
      go_wp2_with fail
      refine HAP.out.mono ?_
      unfold ApplyPost
      rintro e w6 ⟨rfl, hC6⟩
      have HA6 := Lib.hid (HA5.out.keep hC6 (fun h => h))
      have HLA6 := Lib.hid (HLA5.out.chg hC6)
      have HQX6 := Lib.hid (hC6.keep HQX5.out (fun h => h))
      have HC6 := Lib.hid (HC5.out.trans hC6)
      clear hC6 HAP HA5 HLA5 HQX5 HC5 q0 q1 q2 q3 q4 q5 q6 q7 q8
      have HDF := Lib.hid (diff_some w6 a a (HW.out.chg HC6.out))
      rw [HD2.out] at HDF
      go_wp2_with fail
      refine HDF.out.mono ?_
      unfold DiffPost pk
      simp only
      rintro e w7 ⟨A7, c7, rfl, hc7, hL7, hN7, hC7⟩
      have hal7 := (Chg.refl (fun _ => False) w7).alloc (.cells #[.int .i64 k2, .int .i64 (V2 1), .int .i64 (V2 2), .int .i64 (V2 3), .int .i64 (V2 4), .int .i64 (V2 5), .int .i64 (V2 6), .string x2, .slice A7 ([] : List ByteArray).length c7] 26)
      have hT7 := hC7.trans hal7
      have HQ8 : Hid (PktAt (w7.alloc (.cells #[.int .i64 k2, .int .i64 (V2 1), .int .i64 (V2 2), .int .i64 (V2 3), .int .i64 (V2 4), .int .i64 (V2 5), .int .i64 (V2 6), .string x2, .slice A7 ([] : List ByteArray).length c7] 26)) w7.heap.size k2 V2 x2 (.slice A7 ([] : List ByteArray).length c7)) := Lib.hid (heap_new w7 _)
      have HLQ8 := Lib.hid (hL7.chg hal7)
      have HA8 := Lib.hid (HA6.out.keep hT7 (fun h => h))
      have HLA8 := Lib.hid (HLA6.out.chg hT7)
      have HQX8 := Lib.hid (hT7.keep HQX6.out (fun h => h))
      have HC8 := Lib.hid (HC6.out.trans hT7)
      clear hal7 hT7 hL7 hN7 hC7 HDF HA6 HLA6 HQX6 HC6
      go_upto_region 6 with fail
      generalize w7.alloc (.cells #[.int .i64 k2, .int .i64 (V2 1), .int .i64 (V2 2), .int .i64 (V2 3), .int .i64 (V2 4), .int .i64 (V2 5), .int .i64 (V2 6), .string x2, .slice A7 ([] : List ByteArray).length c7] 26) = w8 at *
      generalize w7.heap.size = PQ at *
      obtain ⟨q0, q1, q2, q3, q4, q5, q6, q7, q8⟩ := HQ8.out.cells9
      have HAP := Lib.hid (apply_some w8 a k2 (V2 1) (V2 2) (V2 3) (V2 4) (V2 5) (V2 6) x2 A7 [] c7 (HW.out.chg HC8.out) HLQ8.out hc7 (by simp) (by simp [sizes]))
      rw [HS2.out, HE2.out] at HAP
      go_wp2_with fail
      refine HAP.out.mono ?_
      unfold ApplyPost
      rintro e w9 ⟨rfl, hC9⟩
      have HQ9 := Lib.hid (HQ8.out.keep hC9 (fun h => h))
      have HA9 := Lib.hid (HA8.out.keep hC9 (fun h => h))
      have HLA9 := Lib.hid (HLA8.out.chg hC9)
      have HQX9 := Lib.hid (hC9.keep HQX8.out (fun h => h))
      have HC9 := Lib.hid (HC8.out.trans hC9)
      clear hC9 HAP HQ8 HLQ8 HA8 HLA8 HQX8 HC8 q0 q1 q2 q3 q4 q5 q6 q7 q8
      have q8 : w9.cell? ⟨PQ, 8, none⟩ = some (.slice A7 0 c7) := cell_of_heap HQ9.out 8
      go_upto_region 9 with fail
      clear q8
      obtain ⟨q0, q1, q2, q3, q4, q5, q6, q7, q8⟩ := HA9.out.cells9
      have b1 : w9.cell? ⟨w.heap.size, 1, none⟩ = some (.slice B1 m1.length d1) := cell_of_heap HQX9.out 1
      obtain ⟨u1, hu1⟩ : ∃ u : Nat, u = min m1.length 40 := ⟨_, rfl⟩
      obtain ⟨u2, hu2⟩ : ∃ u : Nat, u = min l0.length 40 := ⟨_, rfl⟩
      have hm1 : (if (40 : Int) < (m1.length : Int) then (40 : Int) else (m1.length : Int)) = (u1 : Int) := by split <;> omega
      have hm2 : (if (40 : Int) < (l0.length : Int) then (40 : Int) else (l0.length : Int)) = (u2 : Int) := by split <;> omega
      have hm1' : min (m1.length : Int) 40 = (u1 : Int) := by omega
      have hm2' : min (l0.length : Int) 40 = (u2 : Int) := by omega
      have g1 : decide ((p1.length : Int) ≤ (u1 : Int)) = true := decide_eq_true (by omega)
      have g1' : decide (p1.length ≤ u1) = true := decide_eq_true (by omega)
      have g2 : decide ((u2 : Int) ≤ V1 5) = true := decide_eq_true (by omega)
      have hch := check_all w9 k1 (V1 1) (V1 2) (V1 3) (V1 4) (V1 5) (V1 6) x1 A4 p1 c4 HLA9.out (by omega) (by omega)
      rw [HK1.out] at hch
      have HCH := Lib.hid hch
      clear hu1 hu2 hch
      go_wp2_with fail
      refine HCH.out.mono ?_
      rintro e w10 ⟨rfl, hC10⟩
      have HC10 := Lib.hid (HC9.out.trans hC10)
      clear hC10 HCH
      go_wp2_with fail
      refine (works_some w10 (HW.out.chg HC10.out)).mono ?_
      rintro e w11 ⟨rfl, hC11⟩
      have HC11 := Lib.hid (HC10.out.trans hC11)
      clear hC11
      go_wp2_with fail
      go_ret
      exact ⟨rfl, HC11.out⟩
theorem PushDiffs_calls (A0 : Option Addr) (l0 : List ByteArray) (c0 : Nat) (B0 : Option Addr) (m0 : List ByteArray) (d0 : Nat) (B1 : Option Addr) (m1 : List ByteArray) (d1 : Nat) (E0 : Option Addr) (n0 : List ByteArray) (e0 : Nat) (w : World) (hW : WOk w)
    (hl : Lns w A0 l0) (hL : l0.length ≤ 9223372036854775807) (hls : ∀ s ∈ l0, s.size ≤ 9223372036854775807) (hm : Lns w B0 m0) (hM : m0.length ≤ 9223372036854775807) (hms : ∀ s ∈ m0, s.size ≤ 9223372036854775807)
    (hp : Lns w B1 m1) (hP : m1.length ≤ 9223372036854775807) (hps : ∀ s ∈ m1, s.size ≤ 9223372036854775807) (hn : Lns w E0 n0) (hN : n0.length ≤ 9223372036854775807) (hns : ∀ s ∈ n0, s.size ≤ 9223372036854775807) :
    Calls Tryd.prog 7 #[.slice A0 l0.length c0, .agg #[.slice B0 m0.length d0, .slice B1 m1.length d1], .slice E0 n0.length e0] w fun e w' => e = .returned (.bool true) ∧ Chg (fun _ => False) w w' :=
  diffs_any w A0 l0 c0 B0 m0 d0 B1 m1 d1 E0 n0 e0 hW hl hL hls hm hM hms hp hP hps hn hN hns
end Go.Proofs.YteiedafdakffeaaDoor
