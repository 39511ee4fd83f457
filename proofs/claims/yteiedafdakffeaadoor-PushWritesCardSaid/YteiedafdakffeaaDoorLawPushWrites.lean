/- push: the law PushWrites, walked: it returns true at every input. -/
import Derived.Test.YteiedafdakffeaaDoorPvD
import Derived.Test.YteiedafdakffeaaDoorPuF
import Derived.Test.YteiedafdakffeaaDoorPuJ
import Derived.Test.YteiedafdakffeaaDoorPuK
namespace Go.Proofs.YteiedafdakffeaaDoor
set_option linter.unusedVariables false
set_option linter.unusedSimpArgs false
open Go Go.RowKit Go.Proofs
open Go.Proofs.YteiedafdakffeaaDoorW.PrintWords (Kd ReadsInt ReadsOf own_move gate_dst gate_store bytesOf bytesOf_length)
/-- what Bytes of both tell: the same row, or none -/
def bytesR (k : Int) (V : Nat → Int) (tx : ByteArray) (l : List ByteArray) : List Int := if checkP k V tx l = 0 then pushB k (V 1) (V 2) (V 3) (V 4) (V 5) (V 6) tx l else []
def BytesPost (w : World) (k : Int) (V : Nat → Int) (tx : ByteArray) (l : List ByteArray) (e : Ending) (w' : World) : Prop := ∃ A c, e = .returned (.tuple #[.slice A (bytesR k V tx l).length c, .int .i64 (checkP k V tx l)]) ∧ ReadsInt w' .u8 A (bytesR k V tx l).length (bytesR k V tx l) ∧ Chg (fun _ => False) w w'
theorem checkP_02 (k : Int) (V : Nat → Int) (tx : ByteArray) (l : List ByteArray) : checkP k V tx l = 0 ∨ checkP k V tx l = 2 := checkF_02 _ _ _ _ _ _ _ _ _
theorem reads_nil (w : World) : ReadsInt w .u8 none 0 [] := ⟨rfl, by simp, fun h => absurd h (by simp)⟩
theorem bytes_any (w : World) (k : Int) (V : Nat → Int) (tx : ByteArray) (A : Option Addr) (l : List ByteArray) (c : Nat) (hl : Lns w A l) (hL : l.length ≤ 1000000000000) (hs : sizes l ≤ 4611686018427387904) :
    Calls Tryd.prog 22 #[.agg (pk k V tx (.slice A l.length c))] w (BytesPost w k V tx l) := by
  unfold BytesPost bytesR
  rcases checkP_02 k V tx l with h | h
  · obtain ⟨⟨h1, h5⟩, hbt, hbf, hbs, hbn, _, _, _⟩ := check_bounds h
    rw [if_pos h, h]
    refine (bytes_ok w k (V 1) (V 2) (V 3) (V 4) (V 5) (V 6) tx A l c hl hbn hbs hbt h1 h5 h).mono ?_
    rintro e w' ⟨v, rfl, ho, hC⟩
    obtain ⟨A', c', rfl, _, hR⟩ := own_bytes ho
    exact ⟨A', c', rfl, hR, hC⟩
  · rw [if_neg (by rw [h]; decide), h]
    refine (bytes_no w k (V 1) (V 2) (V 3) (V 4) (V 5) (V 6) tx A l c hl hL hs h).mono ?_
    rintro e w' ⟨rfl, hC⟩
    exact ⟨none, 0, rfl, reads_nil w', hC⟩
theorem rbytes_any (w : World) (k : Int) (V : Nat → Int) (tx : ByteArray) (A : Option Addr) (l : List ByteArray) (c : Nat) (hl : Lns w A l) (hL : l.length ≤ 1000000000000) (hs : sizes l ≤ 4611686018427387904) :
    Calls Tryd.prog 29 #[.agg (pk k V tx (.slice A l.length c))] w (BytesPost w k V tx l) := by
  unfold BytesPost bytesR
  rcases checkP_02 k V tx l with h | h
  · rw [if_pos h, h]
    refine (rbytes_ok w k V tx A l c hl h).mono ?_
    rintro e w' ⟨v, rfl, ho, hC⟩
    obtain ⟨A', c', rfl, _, hR⟩ := own_bytes ho
    exact ⟨A', c', rfl, hR, hC⟩
  · rw [if_neg (by rw [h]; decide), h]
    refine (rbytes_no w k V tx A l c hl hL hs h).mono ?_
    rintro e w' ⟨rfl, hC⟩
    exact ⟨none, 0, rfl, reads_nil w', hC⟩
/-- a row of texts in block g, whatever they are -/
def InRowS (w : World) (g n : Nat) : Prop := ∃ cur : Array Value, w.heap[g]? = some (.cells cur 9 (0, 0)) ∧ ∀ i, i < n → ∃ x : ByteArray, cur[i]? = some (.string x)
theorem InRowS.at {w : World} {g n : Nat} (h : InRowS w g n) (j : Nat) (hj : j < n) : ∃ x : ByteArray, w.cell? ⟨g, j, none⟩ = some (.string x) ∧ w.frozen? ⟨g, j, none⟩ = false := by
  obtain ⟨cur, hg, hc⟩ := h
  obtain ⟨x, hx⟩ := hc j hj
  exact ⟨x, (cell_of_heap hg j).trans hx, free_of_heap hg j⟩
theorem InRowS.set {w : World} {g n : Nat} (h : InRowS w g n) (j : Nat) (x : ByteArray) : InRowS (w.setCell ⟨g, j, none⟩ (.string x)) g n := by
  obtain ⟨cur, hg, hc⟩ := h
  refine ⟨_, heap_setCell_cells hg j _, fun i hi => ?_⟩
  obtain ⟨y, hy⟩ := hc i hi
  have hil : i < cur.size := (Array.getElem?_eq_some_iff.1 hy).1
  by_cases e : j = i
  · subst e
    exact ⟨x, by rw [Array.getElem?_setIfInBounds_self_of_lt hil]⟩
  · exact ⟨y, by rw [Array.getElem?_setIfInBounds_ne e]; exact hy⟩
theorem in_rowS {W : World} {base : Nat} {A : Option Addr} {n c : Nat} {l : List ByteArray} (h : W.ownsRow base 9 1 (.slice A n c) n (l.map Value.string)) (hl : l.length = n) (h0 : 0 < n) : ∃ g, A = some ⟨g, 0, none⟩ ∧ base ≤ g ∧ InRowS W g n := by
  obtain ⟨h1, h2⟩ := h
  rcases h2 with h2 | ⟨g, cap, cur, hv, hg, hh, hcs, hx⟩
  · exfalso
    have h3 := h2.2
    omega
  · cases hv
    refine ⟨g, rfl, hg, cur, hh, fun i hi => ?_⟩
    have hil : i < l.length := by omega
    have h3 : (List.take (n * 1) cur.toList)[i]? = (l.map Value.string)[i]? := by rw [hx.2.2]
    rw [List.getElem?_take_of_lt (by omega)] at h3
    refine ⟨l[i], ?_⟩
    rw [← Array.getElem?_toList, h3, List.getElem?_map, List.getElem?_eq_getElem hil]
    rfl
set_option maxRecDepth 100000 in
set_option maxHeartbeats 8000000 in
theorem writes_any (w : World) (k : Int) (V : Nat → Int) (tx : ByteArray) (A : Option Addr) (l : List ByteArray) (c : Nat) (k2 : Int) (V2 : Nat → Int) (ty : ByteArray) (B : Option Addr) (m : List ByteArray) (d : Nat) (hW : WOk w) (hl : Lns w A l) (hL : l.length ≤ 9223372036854775807) (hss : ∀ s ∈ l, s.size ≤ 9223372036854775807) (hm : Lns w B m) (hM : m.length ≤ 9223372036854775807) (hmm : ∀ s ∈ m, s.size ≤ 9223372036854775807) :
    Calls Tryd.prog 8 #[.agg (pk k V tx (.slice A l.length c)), .agg (pk k2 V2 ty (.slice B m.length d))] w fun e w' => e = .returned (.bool true) ∧ Chg (fun _ => False) w w' := by
  have hal := ((Chg.refl (fun _ => False) w).alloc (.cells (pk k V tx (.slice A l.length c)) 26)).alloc (.cells (pk k2 V2 ty (.slice B m.length d)) 26)
  have hp : PktAt ((w.alloc (.cells (pk k V tx (.slice A l.length c)) 26)).alloc (.cells (pk k2 V2 ty (.slice B m.length d)) 26)) w.heap.size k V tx (.slice A l.length c) := heap_alloc (heap_new w _)
  have hq : PktAt ((w.alloc (.cells (pk k V tx (.slice A l.length c)) 26)).alloc (.cells (pk k2 V2 ty (.slice B m.length d)) 26)) (w.heap.size + 1) k2 V2 ty (.slice B m.length d) := heap_new1 _ _ _
  have HP := Lib.hid hp
  have HQ := Lib.hid hq
  have HC := Lib.hid hal
  have HL := Lib.hid (hl.chg hal)
  have HM := Lib.hid (hm.chg hal)
  have HSS := Lib.hid hss
  have HMM := Lib.hid hmm
  have HW := Lib.hid hW
  clear hal hp hq hl hss hm hmm hW
  unfold pk at *
  go_enter Tryd.func8, Tryd.ntmps8
  go_upto_region 1 with fail
  generalize (w.alloc (.cells #[.int .i64 k, .int .i64 (V 1), .int .i64 (V 2), .int .i64 (V 3), .int .i64 (V 4), .int .i64 (V 5), .int .i64 (V 6), .string tx, .slice A l.length c] 26)).alloc (.cells #[.int .i64 k2, .int .i64 (V2 1), .int .i64 (V2 2), .int .i64 (V2 3), .int .i64 (V2 4), .int .i64 (V2 5), .int .i64 (V2 6), .string ty, .slice B m.length d] 26) = w1 at *
  go_cut [] from 12 to 15 (fun W => ∃ tx1 A1 l1 c1 ty1 B1 m1 d1, PktAt W w.heap.size k V tx1 (.slice A1 l1.length c1) ∧ W.ownsRow w.heap.size 9 1 (.slice A1 l1.length c1) l1.length (l1.map Value.string) ∧ l1.length ≤ 20 ∧ sizes l1 ≤ 2000 ∧ PktAt W (w.heap.size + 1) k2 V2 ty1 (.slice B1 m1.length d1) ∧ W.ownsRow w.heap.size 9 1 (.slice B1 m1.length d1) m1.length (m1.map Value.string) ∧ m1.length ≤ 20 ∧ sizes m1 ≤ 2000 ∧ Chg (fun _ => False) w W)
  case first =>
    have hd := (Chg.refl (fun _ => False) w1).drew
    have hS : PktAt w1.drew (w.heap.size + 1) k2 V2 ty (.slice B m.length d) := HQ.out
    have hPd : PktAt w1.drew w.heap.size k V tx (.slice A l.length c) := HP.out
    have hct := cut_some w1.drew k V tx A l c (HL.out.chg hd) hL HSS.out
    unfold pk at hct
    have HCT := Lib.hid hct
    clear hct
    refine region_lone (fun W' => PktAt W' (w.heap.size + 1) k2 V2 ty (.slice B m.length d)) [5] (by kernel_rfl) ?_
    refine take_one 2 hS rfl (by kernel_rfl) rfl ?_
    apply Exists.intro
    refine And.intro (fun W' hS' => ?y2) (And.intro (fun _ _ _ h => h) ?_)
    case y2 => have d0 := hS'; obtain ⟨g0, g1, g2, g3, g4, g5, g6, g7, g8⟩ := d0.cells9; go_simp; rfl
    refine only_one 0 rfl (by kernel_rfl) rfl ?_
    obtain ⟨g0, g1, g2, g3, g4, g5, g6, g7, g8⟩ := PktAt.cells9 hPd
    go_simp
    clear g0 g1 g2 g3 g4 g5 g6 g7 g8
    refine only_one 1 rfl (by kernel_rfl) rfl ?_
    try go_simp
    refine HCT.out.mono ?_
    unfold CutPost pk
    rintro e w3 ⟨tx1, A1, l1, c1, rfl, ho3, htx1, hl1, hs1, hC3⟩
    have hS3 : PktAt w3 (w.heap.size + 1) k2 V2 ty (.slice B m.length d) := PktAt.keep hS hC3 (fun h => h)
    have hP3 : PktAt w3 w.heap.size k V tx (.slice A l.length c) := PktAt.keep hPd hC3 (fun h => h)
    refine ⟨hS3, ?_⟩
    refine only_one 3 rfl (by kernel_rfl) rfl ?_
    have hct2 := cut_some w3 k2 V2 ty B m d ((HM.out.chg hd).chg hC3) hM HMM.out
    unfold pk at hct2
    try go_simp
    refine hct2.mono ?_
    unfold CutPost pk
    rintro e w4 ⟨ty1, B1, m1, d1, rfl, ho4, hty1, hm1, ht1, hC4⟩
    have hS4 : PktAt w4 (w.heap.size + 1) k2 V2 ty (.slice B m.length d) := PktAt.keep hS3 hC4 (fun h => h)
    have hP4 : PktAt w4 w.heap.size k V tx (.slice A l.length c) := PktAt.keep hP3 hC4 (fun h => h)
    refine ⟨hS4, ?_⟩
    try go_simp
    refine only_one 4 rfl (by kernel_rfl) rfl ?_
    refine wp_store_row 26 (.tmp 2) (.tmp 13) rfl w.heap.size #[.int .i64 k, .int .i64 (V 1), .int .i64 (V 2), .int .i64 (V 3), .int .i64 (V 4), .int .i64 (V 5), .int .i64 (V 6), .string tx1, .slice A1 l1.length c1] rfl rfl 26 _ hP4 infoP rfl (by simp [Value.oneCell']) ?_
    have hS5 : PktAt (w4.setRow w.heap.size #[.int .i64 k, .int .i64 (V 1), .int .i64 (V 2), .int .i64 (V 3), .int .i64 (V 4), .int .i64 (V 5), .int .i64 (V 6), .string tx1, .slice A1 l1.length c1]) (w.heap.size + 1) k2 V2 ty (.slice B m.length d) := (setRow_other _ _ _ _ (by omega)).trans hS4
    refine ⟨fun _ => hS5, ?_⟩
    try go_simp
    refine only_one 5 rfl (by kernel_rfl) rfl ?_
    refine wp_store_row 26 (.tmp 3) (.tmp 15) rfl (w.heap.size + 1) #[.int .i64 k2, .int .i64 (V2 1), .int .i64 (V2 2), .int .i64 (V2 3), .int .i64 (V2 4), .int .i64 (V2 5), .int .i64 (V2 6), .string ty1, .slice B1 m1.length d1] rfl rfl 26 _ hS5 infoP rfl (by simp [Value.oneCell']) ?_
    refine ⟨fun h => absurd (by decide) h, ?_⟩
    try go_simp
    refine all_done (by kernel_rfl) ?_ _
    have hF := (HC.out.trans hd).trans (hC3.trans hC4)
    have hO1 := own_lower (base' := w.heap.size) (own_chg ho3 hC4 (fun _ _ h => h)) (by have := HC.out.size; exact this)
    have hO2 := own_lower (base' := w.heap.size) ho4 (by have := (HC.out.trans hd).size; have := hC3.size; omega)
    have hne1 := fun q (hq : (Value.slice A1 l1.length c1).ownBlock = some q) (e : q = w.heap.size) => own_ne hO1 hP4 (by decide) (by rw [hq, e])
    have hne2 := fun q (hq : (Value.slice A1 l1.length c1).ownBlock = some q) (e : q = w.heap.size + 1) => own_ne hO1 hS4 (by decide) (by rw [hq, e])
    have hne3 := fun q (hq : (Value.slice B1 m1.length d1).ownBlock = some q) (e : q = w.heap.size) => own_ne hO2 hP4 (by decide) (by rw [hq, e])
    have hne4 := fun q (hq : (Value.slice B1 m1.length d1).ownBlock = some q) (e : q = w.heap.size + 1) => own_ne hO2 hS4 (by decide) (by rw [hq, e])
    have HP6 : Hid (PktAt ((w4.setRow w.heap.size #[.int .i64 k, .int .i64 (V 1), .int .i64 (V 2), .int .i64 (V 3), .int .i64 (V 4), .int .i64 (V 5), .int .i64 (V 6), .string tx1, .slice A1 l1.length c1]).setRow (w.heap.size + 1) #[.int .i64 k2, .int .i64 (V2 1), .int .i64 (V2 2), .int .i64 (V2 3), .int .i64 (V2 4), .int .i64 (V2 5), .int .i64 (V2 6), .string ty1, .slice B1 m1.length d1]) w.heap.size k V tx1 (.slice A1 l1.length c1)) := Lib.hid ((setRow_other _ _ _ _ (by omega)).trans (setRow_heap _ _ _ _ _ _ hP4))
    have HQ6 : Hid (PktAt ((w4.setRow w.heap.size #[.int .i64 k, .int .i64 (V 1), .int .i64 (V 2), .int .i64 (V 3), .int .i64 (V 4), .int .i64 (V 5), .int .i64 (V 6), .string tx1, .slice A1 l1.length c1]).setRow (w.heap.size + 1) #[.int .i64 k2, .int .i64 (V2 1), .int .i64 (V2 2), .int .i64 (V2 3), .int .i64 (V2 4), .int .i64 (V2 5), .int .i64 (V2 6), .string ty1, .slice B1 m1.length d1]) (w.heap.size + 1) k2 V2 ty1 (.slice B1 m1.length d1)) := Lib.hid (setRow_heap _ _ _ _ _ _ hS5)
    have HPO6 : Hid (((w4.setRow w.heap.size #[.int .i64 k, .int .i64 (V 1), .int .i64 (V 2), .int .i64 (V 3), .int .i64 (V 4), .int .i64 (V 5), .int .i64 (V 6), .string tx1, .slice A1 l1.length c1]).setRow (w.heap.size + 1) #[.int .i64 k2, .int .i64 (V2 1), .int .i64 (V2 2), .int .i64 (V2 3), .int .i64 (V2 4), .int .i64 (V2 5), .int .i64 (V2 6), .string ty1, .slice B1 m1.length d1]).ownsRow w.heap.size 9 1 (.slice A1 l1.length c1) l1.length (l1.map Value.string)) := Lib.hid (own_move hO1 (fun q hq => (setRow_other _ _ _ _ (fun e => hne2 q hq e)).trans (setRow_other _ _ _ _ (fun e => hne1 q hq e))))
    have HQO6 : Hid (((w4.setRow w.heap.size #[.int .i64 k, .int .i64 (V 1), .int .i64 (V 2), .int .i64 (V 3), .int .i64 (V 4), .int .i64 (V 5), .int .i64 (V 6), .string tx1, .slice A1 l1.length c1]).setRow (w.heap.size + 1) #[.int .i64 k2, .int .i64 (V2 1), .int .i64 (V2 2), .int .i64 (V2 3), .int .i64 (V2 4), .int .i64 (V2 5), .int .i64 (V2 6), .string ty1, .slice B1 m1.length d1]).ownsRow w.heap.size 9 1 (.slice B1 m1.length d1) m1.length (m1.map Value.string)) := Lib.hid (own_move hO2 (fun q hq => (setRow_other _ _ _ _ (fun e => hne4 q hq e)).trans (setRow_other _ _ _ _ (fun e => hne3 q hq e))))
    have HC6 : Hid (Chg (fun _ => False) w ((w4.setRow w.heap.size #[.int .i64 k, .int .i64 (V 1), .int .i64 (V 2), .int .i64 (V 3), .int .i64 (V 4), .int .i64 (V 5), .int .i64 (V 6), .string tx1, .slice A1 l1.length c1]).setRow (w.heap.size + 1) #[.int .i64 k2, .int .i64 (V2 1), .int .i64 (V2 2), .int .i64 (V2 3), .int .i64 (V2 4), .int .i64 (V2 5), .int .i64 (V2 6), .string ty1, .slice B1 m1.length d1])) := Lib.hid ⟨hF.os, hF.tape, hF.output, by rw [size_setRow, size_setRow]; exact hF.size, fun q hq _ => ((setRow_other _ _ _ _ (by omega)).trans (setRow_other _ _ _ _ (by omega))).trans (hF.block q hq (fun h => h))⟩
    clear hF hO1 hO2 hne1 hne2 hne3 hne4 hS hS3 hS4 hS5 hPd hP3 hP4 hd ho3 ho4 hC3 hC4
    go_wp2_with fail
    go_meet
    exact ⟨tx1, A1, l1, c1, ty1, B1, m1, d1, HP6.out, HPO6.out, hl1, hs1, HQ6.out, HQO6.out, hm1, ht1, HC6.out⟩
  case rest =>
    obtain ⟨tx1, A1, l1, c1, ty1, B1, m1, d1, hP, hPO, hl1, hs1, hQ, hQO, hm1, ht1, hC⟩ := hcut
    have HP2 := Lib.hid hP
    have HPO2 := Lib.hid hPO
    have HQ2 := Lib.hid hQ
    have HQO2 := Lib.hid hQO
    have HC2 := Lib.hid hC
    clear hP hPO hQ hQO hC HP HQ HC HL HM HSS HMM
    obtain ⟨ck, hck⟩ : ∃ ck, checkP k V tx1 l1 = ck := ⟨_, rfl⟩
    obtain ⟨br, hbr⟩ : ∃ br, bytesR k V tx1 l1 = br := ⟨_, rfl⟩
    obtain ⟨q0, q1, q2, q3, q4, q5, q6, q7, q8⟩ := HP2.out.cells9
    have hby := bytes_any wc k V tx1 A1 l1 c1 (own_lns HPO2.out) (by omega) (by omega)
    unfold BytesPost pk at hby
    rw [hck, hbr] at hby
    have HBY := Lib.hid hby
    have HCK := Lib.hid hck
    have HBR := Lib.hid hbr
    clear hby hck hbr
    go_wp2_with fail
    refine HBY.out.mono ?_
    rintro e w3 ⟨AA, ca, rfl, hRa, hC3⟩
    have HRA3 := Lib.hid hRa
    have HP3 := Lib.hid (HP2.out.keep hC3 (fun h => h))
    have HPO3 := Lib.hid (own_chg HPO2.out hC3 (fun _ _ h => h))
    have HQ3 := Lib.hid (HQ2.out.keep hC3 (fun h => h))
    have HQO3 := Lib.hid (own_chg HQO2.out hC3 (fun _ _ h => h))
    have HC3 := Lib.hid (HC2.out.trans hC3)
    clear hRa hC3 HBY q0 q1 q2 q3 q4 q5 q6 q7 q8 HP2 HPO2 HQ2 HQO2 HC2
    obtain ⟨q0, q1, q2, q3, q4, q5, q6, q7, q8⟩ := HP3.out.cells9
    have hby := rbytes_any w3 k V tx1 A1 l1 c1 (own_lns HPO3.out) (by omega) (by omega)
    unfold BytesPost pk at hby
    rw [HCK.out, HBR.out] at hby
    have HBY := Lib.hid hby
    clear hby
    go_wp2_with fail
    refine HBY.out.mono ?_
    rintro e w4 ⟨AB, cb, rfl, hRb, hC4⟩
    have HRB4 := Lib.hid hRb
    have HRA4 := Lib.hid (reads_keep HRA3.out hC4)
    have HP4 := Lib.hid (HP3.out.keep hC4 (fun h => h))
    have HPO4 := Lib.hid (own_chg HPO3.out hC4 (fun _ _ h => h))
    have HQ4 := Lib.hid (HQ3.out.keep hC4 (fun h => h))
    have HQO4 := Lib.hid (own_chg HQO3.out hC4 (fun _ _ h => h))
    have HC4 := Lib.hid (HC3.out.trans hC4)
    clear hRb hC4 HBY q0 q1 q2 q3 q4 q5 q6 q7 q8 HP3 HPO3 HQ3 HQO3 HC3 HRA3
    obtain ⟨q0, q1, q2, q3, q4, q5, q6, q7, q8⟩ := HP4.out.cells9
    have hcp := copy_some w4 k V tx1 A1 l1 c1 (own_lns HPO4.out) (by omega)
    unfold pk at hcp
    have HCP := Lib.hid hcp
    clear hcp
    go_wp2_with fail
    refine HCP.out.mono ?_
    rintro e w5 ⟨v5, rfl, ho5, hC5⟩
    obtain ⟨A5, c5, rfl, _⟩ := own_lines ho5
    have hal5 := (Chg.refl (fun _ => False) w5).alloc (.cells #[.int .i64 k, .int .i64 (V 1), .int .i64 (V 2), .int .i64 (V 3), .int .i64 (V 4), .int .i64 (V 5), .int .i64 (V 6), .string tx1, .slice A5 l1.length c5] 26)
    have hT5 := hC5.trans hal5
    have HCC6 : Hid (PktAt (w5.alloc (.cells #[.int .i64 k, .int .i64 (V 1), .int .i64 (V 2), .int .i64 (V 3), .int .i64 (V 4), .int .i64 (V 5), .int .i64 (V 6), .string tx1, .slice A5 l1.length c5] 26)) w5.heap.size k V tx1 (.slice A5 l1.length c5)) := Lib.hid (heap_new w5 _)
    have HCO6 := Lib.hid (own_chg ho5 hal5 (fun _ _ h => h))
    have HRB6 := Lib.hid (reads_keep HRB4.out hT5)
    have HRA6 := Lib.hid (reads_keep HRA4.out hT5)
    have HP6 := Lib.hid (HP4.out.keep hT5 (fun h => h))
    have HPO6 := Lib.hid (own_chg HPO4.out hT5 (fun _ _ h => h))
    have HQ6 := Lib.hid (HQ4.out.keep hT5 (fun h => h))
    have HQO6 := Lib.hid (own_chg HQO4.out hT5 (fun _ _ h => h))
    have HC6 := Lib.hid (HC4.out.trans hT5)
    have HPB : Hid (∀ i, (Value.slice A1 l1.length c1).ownBlock = some i → i < w4.heap.size) := Lib.hid (fun i hi => by obtain ⟨c, t, f, hc⟩ := own_cells HPO4.out hi; exact lt_of_heap hc)
    have HBND : Hid (w.heap.size + 1 < w4.heap.size) := Lib.hid HQ4.out.lt
    have hw45 : w4.heap.size ≤ w5.heap.size := hC5.size
    clear hal5 hT5 ho5 hC5 HCP q0 q1 q2 q3 q4 q5 q6 q7 q8 HP4 HPO4 HQ4 HQO4 HC4 HRA4 HRB4
    go_upto_region 5 with fail
    generalize w5.alloc (.cells #[.int .i64 k, .int .i64 (V 1), .int .i64 (V 2), .int .i64 (V 3), .int .i64 (V 4), .int .i64 (V 5), .int .i64 (V 6), .string tx1, .slice A5 l1.length c5] 26) = w6 at *
    generalize w5.heap.size = PC at *
    generalize w4.heap.size = LB at *
    go_cut [64] from 28 to 63 (fun s W => s = .bool false ∧ Chg (fun _ => False) w6 W)
    case first =>
      have hd := (Chg.refl (fun _ => False) w6).drew
      have hS : PktAt w6.drew w.heap.size k V tx1 (.slice A1 l1.length c1) ∧ PktAt w6.drew (w.heap.size + 1) k2 V2 ty1 (.slice B1 m1.length d1) ∧ PktAt w6.drew PC k V tx1 (.slice A5 l1.length c5) := ⟨HP6.out, HQ6.out, HCC6.out⟩
      refine region_lone (fun W' => PktAt W' w.heap.size k V tx1 (.slice A1 l1.length c1) ∧ PktAt W' (w.heap.size + 1) k2 V2 ty1 (.slice B1 m1.length d1) ∧ PktAt W' PC k V tx1 (.slice A5 l1.length c5)) [] (by kernel_rfl) ?_
      refine take_one 0 hS rfl (by kernel_rfl) rfl ?_
      apply Exists.intro
      refine And.intro (fun W' hS' => ?y0) (And.intro (fun _ _ _ h => h) ?_)
      case y0 => obtain ⟨d0, d1, d2⟩ := hS'; obtain ⟨g0, g1, g2, g3, g4, g5, g6, g7, g8⟩ := d0.cells9; obtain ⟨h0, h1, h2, h3, h4, h5, h6, h7, h8⟩ := d1.cells9; obtain ⟨i0, i1, i2, i3, i4, i5, i6, i7, i8⟩ := d2.cells9; go_simp; rfl
      refine take_one 2 hS rfl (by kernel_rfl) rfl ?_
      apply Exists.intro
      refine And.intro (fun W' hS' => ?y2) (And.intro (fun _ _ _ h => h) ?_)
      case y2 => obtain ⟨d0, d1, d2⟩ := hS'; obtain ⟨g0, g1, g2, g3, g4, g5, g6, g7, g8⟩ := d0.cells9; obtain ⟨h0, h1, h2, h3, h4, h5, h6, h7, h8⟩ := d1.cells9; obtain ⟨i0, i1, i2, i3, i4, i5, i6, i7, i8⟩ := d2.cells9; go_simp; rfl
      refine only_one 1 rfl (by kernel_rfl) rfl ?_
      have hch := check_all w6.drew k (V 1) (V 2) (V 3) (V 4) (V 5) (V 6) tx1 A1 l1 c1 ((own_lns HPO6.out).chg hd) (by omega) (by omega)
      rw [show checkF k (V 1) (V 2) (V 3) (V 4) (V 5) (V 6) tx1 l1 = ck from HCK.out] at hch
      try go_simp
      refine hch.mono ?_
      rintro e w21 ⟨rfl, hC1⟩
      have hS1 : PktAt w21 w.heap.size k V tx1 (.slice A1 l1.length c1) ∧ PktAt w21 (w.heap.size + 1) k2 V2 ty1 (.slice B1 m1.length d1) ∧ PktAt w21 PC k V tx1 (.slice A5 l1.length c5) := ⟨PktAt.keep hS.1 hC1 (fun h => h), PktAt.keep hS.2.1 hC1 (fun h => h), PktAt.keep hS.2.2 hC1 (fun h => h)⟩
      have hT1 := hd.trans hC1
      refine ⟨hS1, ?_⟩
      refine only_one 3 rfl (by kernel_rfl) rfl ?_
      have hch3 := rcheck_some w21 k V tx1 A1 l1 c1 ((own_lns HPO6.out).chg hT1) (by omega) (by omega)
      rw [HCK.out] at hch3
      unfold pk at hch3
      try go_simp
      refine hch3.mono ?_
      rintro e w23 ⟨rfl, hC3⟩
      have hS3 : PktAt w23 w.heap.size k V tx1 (.slice A1 l1.length c1) ∧ PktAt w23 (w.heap.size + 1) k2 V2 ty1 (.slice B1 m1.length d1) ∧ PktAt w23 PC k V tx1 (.slice A5 l1.length c5) := ⟨PktAt.keep hS1.1 hC3 (fun h => h), PktAt.keep hS1.2.1 hC3 (fun h => h), PktAt.keep hS1.2.2 hC3 (fun h => h)⟩
      have hT3 := hT1.trans hC3
      refine ⟨hS3, ?_⟩
      refine take_one 4 hS3 rfl (by kernel_rfl) rfl ?_
      apply Exists.intro
      refine And.intro (fun W' hS' => ?y4) (And.intro (fun _ _ _ h => h) ?_)
      case y4 => obtain ⟨d0, d1, d2⟩ := hS'; go_simp; rfl
      refine take_one 5 hS3 rfl (by kernel_rfl) rfl ?_
      apply Exists.intro
      refine And.intro (fun W' hS' => ?y5) (And.intro (fun _ _ _ h => h) ?_)
      case y5 => obtain ⟨d0, d1, d2⟩ := hS'; go_simp; rfl
      try go_simp
      refine take_one 6 hS3 rfl (by kernel_rfl) (by kernel_rfl) ?_
      apply Exists.intro
      refine And.intro (fun W' hS' => ?y6) (And.intro (fun _ _ _ h => h) ?_)
      case y6 => obtain ⟨d0, d1, d2⟩ := hS'; go_simp; rfl
      refine take_one 7 hS3 rfl (by kernel_rfl) (by kernel_rfl) ?_
      apply Exists.intro
      refine And.intro (fun W' hS' => ?y7) (And.intro (fun _ _ _ h => h) ?_)
      case y7 => obtain ⟨d0, d1, d2⟩ := hS'; go_simp; rfl
      refine only_one 8 rfl (by kernel_rfl) (by kernel_rfl) ?_
      have heq := eqBytes_some w23 AA AB br br ca cb (reads_keep HRA6.out hT3) (reads_keep HRB6.out hT3)
      rw [beq_self_eq_true] at heq
      try go_simp
      refine heq.mono ?_
      rintro e w28 ⟨rfl, rfl⟩
      have hS8 := hS3
      refine ⟨hS8, ?_⟩
      refine take_one 9 hS8 rfl (by kernel_rfl) (by kernel_rfl) ?_
      apply Exists.intro
      refine And.intro (fun W' hS' => ?y9) (And.intro (fun _ _ _ h => h) ?_)
      case y9 => obtain ⟨d0, d1, d2⟩ := hS'; go_simp; rfl
      refine take_one 10 hS8 rfl (by kernel_rfl) rfl ?_
      apply Exists.intro
      refine And.intro (fun W' hS' => ?y10) (And.intro (fun _ _ _ h => h) ?_)
      case y10 => obtain ⟨d0, d1, d2⟩ := hS'; go_simp; rfl
      refine take_one 11 hS8 rfl (by kernel_rfl) rfl ?_
      apply Exists.intro
      refine And.intro (fun W' hS' => ?y11) (And.intro (fun _ _ _ h => h) ?_)
      case y11 => obtain ⟨d0, d1, d2⟩ := hS'; go_simp; rfl
      try go_simp
      refine take_one 12 hS8 rfl (by kernel_rfl) (by kernel_rfl) ?_
      apply Exists.intro
      refine And.intro (fun W' hS' => ?y12) (And.intro (fun _ _ _ h => h) ?_)
      case y12 => obtain ⟨d0, d1, d2⟩ := hS'; go_simp; rfl
      refine take_one 13 hS8 rfl (by kernel_rfl) (by kernel_rfl) ?_
      apply Exists.intro
      refine And.intro (fun W' hS' => ?y13) (And.intro (fun _ _ _ h => h) ?_)
      case y13 => obtain ⟨d0, d1, d2⟩ := hS'; go_simp; rfl
      refine take_one 14 hS8 rfl (by kernel_rfl) (by kernel_rfl) ?_
      apply Exists.intro
      refine And.intro (fun W' hS' => ?y14) (And.intro (fun _ _ _ h => h) ?_)
      case y14 => obtain ⟨d0, d1, d2⟩ := hS'; go_simp; rfl
      refine take_one 15 hS8 rfl (by kernel_rfl) rfl ?_
      apply Exists.intro
      refine And.intro (fun W' hS' => ?y15) (And.intro (fun _ _ _ h => h) ?_)
      case y15 => obtain ⟨d0, d1, d2⟩ := hS'; go_simp; rfl
      refine take_one 16 hS8 rfl (by kernel_rfl) rfl ?_
      apply Exists.intro
      refine And.intro (fun W' hS' => ?y16) (And.intro (fun _ _ _ h => h) ?_)
      case y16 => obtain ⟨d0, d1, d2⟩ := hS'; go_simp; rfl
      try go_simp
      refine take_one 17 hS8 rfl (by kernel_rfl) (by kernel_rfl) ?_
      apply Exists.intro
      refine And.intro (fun W' hS' => ?y17) (And.intro (fun _ _ _ h => h) ?_)
      case y17 => obtain ⟨d0, d1, d2⟩ := hS'; obtain ⟨g0, g1, g2, g3, g4, g5, g6, g7, g8⟩ := d0.cells9; obtain ⟨h0, h1, h2, h3, h4, h5, h6, h7, h8⟩ := d1.cells9; obtain ⟨i0, i1, i2, i3, i4, i5, i6, i7, i8⟩ := d2.cells9; go_simp; rfl
      refine take_one 18 hS8 rfl (by kernel_rfl) (by kernel_rfl) ?_
      apply Exists.intro
      refine And.intro (fun W' hS' => ?y18) (And.intro (fun _ _ _ h => h) ?_)
      case y18 => obtain ⟨d0, d1, d2⟩ := hS'; obtain ⟨g0, g1, g2, g3, g4, g5, g6, g7, g8⟩ := d0.cells9; obtain ⟨h0, h1, h2, h3, h4, h5, h6, h7, h8⟩ := d1.cells9; obtain ⟨i0, i1, i2, i3, i4, i5, i6, i7, i8⟩ := d2.cells9; go_simp; rfl
      refine take_one 20 hS8 rfl (by kernel_rfl) (by kernel_rfl) ?_
      apply Exists.intro
      refine And.intro (fun W' hS' => ?y20) (And.intro (fun _ _ _ h => h) ?_)
      case y20 => obtain ⟨d0, d1, d2⟩ := hS'; obtain ⟨g0, g1, g2, g3, g4, g5, g6, g7, g8⟩ := d0.cells9; obtain ⟨h0, h1, h2, h3, h4, h5, h6, h7, h8⟩ := d1.cells9; obtain ⟨i0, i1, i2, i3, i4, i5, i6, i7, i8⟩ := d2.cells9; go_simp; rfl
      refine take_one 21 hS8 rfl (by kernel_rfl) (by kernel_rfl) ?_
      apply Exists.intro
      refine And.intro (fun W' hS' => ?y21) (And.intro (fun _ _ _ h => h) ?_)
      case y21 => obtain ⟨d0, d1, d2⟩ := hS'; obtain ⟨g0, g1, g2, g3, g4, g5, g6, g7, g8⟩ := d0.cells9; obtain ⟨h0, h1, h2, h3, h4, h5, h6, h7, h8⟩ := d1.cells9; obtain ⟨i0, i1, i2, i3, i4, i5, i6, i7, i8⟩ := d2.cells9; go_simp; rfl
      refine only_one 19 rfl (by kernel_rfl) (by kernel_rfl) ?_
      have hsm19 := same_some _ k V tx1 A1 l1 c1 k2 V2 ty1 B1 m1 d1 ((own_lns HPO6.out).chg hT3) ((own_lns HQO6.out).chg hT3) (by omega) (by omega)
      try go_simp
      refine hsm19.mono ?_
      rintro e w39 ⟨rfl, hC19⟩
      have hS19 : PktAt w39 w.heap.size k V tx1 (.slice A1 l1.length c1) ∧ PktAt w39 (w.heap.size + 1) k2 V2 ty1 (.slice B1 m1.length d1) ∧ PktAt w39 PC k V tx1 (.slice A5 l1.length c5) := ⟨PktAt.keep hS8.1 hC19 (fun h => h), PktAt.keep hS8.2.1 hC19 (fun h => h), PktAt.keep hS8.2.2 hC19 (fun h => h)⟩
      have hT19 := hT3.trans hC19
      refine ⟨hS19, ?_⟩
      refine only_one 22 rfl (by kernel_rfl) (by kernel_rfl) ?_
      have hsm22 := rsame_some w39 k V tx1 A1 l1 c1 k2 V2 ty1 B1 m1 d1 ((own_lns HPO6.out).chg hT19) ((own_lns HQO6.out).chg hT19) (by omega) (by omega)
      try go_simp
      refine hsm22.mono ?_
      rintro e w42 ⟨rfl, hC22⟩
      have hS22 : PktAt w42 w.heap.size k V tx1 (.slice A1 l1.length c1) ∧ PktAt w42 (w.heap.size + 1) k2 V2 ty1 (.slice B1 m1.length d1) ∧ PktAt w42 PC k V tx1 (.slice A5 l1.length c5) := ⟨PktAt.keep hS19.1 hC22 (fun h => h), PktAt.keep hS19.2.1 hC22 (fun h => h), PktAt.keep hS19.2.2 hC22 (fun h => h)⟩
      have hT22 := hT19.trans hC22
      refine ⟨hS22, ?_⟩
      refine take_one 23 hS22 rfl (by kernel_rfl) (by kernel_rfl) ?_
      apply Exists.intro
      refine And.intro (fun W' hS' => ?y23) (And.intro (fun _ _ _ h => h) ?_)
      case y23 => obtain ⟨d0, d1, d2⟩ := hS'; go_simp; rfl
      refine take_one 24 hS22 rfl (by kernel_rfl) rfl ?_
      apply Exists.intro
      refine And.intro (fun W' hS' => ?y24) (And.intro (fun _ _ _ h => h) ?_)
      case y24 => obtain ⟨d0, d1, d2⟩ := hS'; go_simp; rfl
      refine take_one 25 hS22 rfl (by kernel_rfl) rfl ?_
      apply Exists.intro
      refine And.intro (fun W' hS' => ?y25) (And.intro (fun _ _ _ h => h) ?_)
      case y25 => obtain ⟨d0, d1, d2⟩ := hS'; go_simp; rfl
      try go_simp
      refine take_one 26 hS22 rfl (by kernel_rfl) (by kernel_rfl) ?_
      apply Exists.intro
      refine And.intro (fun W' hS' => ?y26) (And.intro (fun _ _ _ h => h) ?_)
      case y26 => obtain ⟨d0, d1, d2⟩ := hS'; obtain ⟨g0, g1, g2, g3, g4, g5, g6, g7, g8⟩ := d0.cells9; obtain ⟨h0, h1, h2, h3, h4, h5, h6, h7, h8⟩ := d1.cells9; obtain ⟨i0, i1, i2, i3, i4, i5, i6, i7, i8⟩ := d2.cells9; go_simp; rfl
      refine take_one 27 hS22 rfl (by kernel_rfl) (by kernel_rfl) ?_
      apply Exists.intro
      refine And.intro (fun W' hS' => ?y27) (And.intro (fun _ _ _ h => h) ?_)
      case y27 => obtain ⟨d0, d1, d2⟩ := hS'; obtain ⟨g0, g1, g2, g3, g4, g5, g6, g7, g8⟩ := d0.cells9; obtain ⟨h0, h1, h2, h3, h4, h5, h6, h7, h8⟩ := d1.cells9; obtain ⟨i0, i1, i2, i3, i4, i5, i6, i7, i8⟩ := d2.cells9; go_simp; rfl
      refine only_one 28 rfl (by kernel_rfl) (by kernel_rfl) ?_
      have hsm28 := rsame_some w42 k V tx1 A5 l1 c5 k V tx1 A1 l1 c1 ((own_lns HCO6.out).chg hT22) ((own_lns HPO6.out).chg hT22) (by omega) (by omega)
      rw [sameF_refl] at hsm28
      try go_simp
      refine hsm28.mono ?_
      rintro e w48 ⟨rfl, hC28⟩
      have hS28 : PktAt w48 w.heap.size k V tx1 (.slice A1 l1.length c1) ∧ PktAt w48 (w.heap.size + 1) k2 V2 ty1 (.slice B1 m1.length d1) ∧ PktAt w48 PC k V tx1 (.slice A5 l1.length c5) := ⟨PktAt.keep hS22.1 hC28 (fun h => h), PktAt.keep hS22.2.1 hC28 (fun h => h), PktAt.keep hS22.2.2 hC28 (fun h => h)⟩
      have hT28 := hT22.trans hC28
      refine ⟨hS28, ?_⟩
      refine take_one 29 hS28 rfl (by kernel_rfl) (by kernel_rfl) ?_
      apply Exists.intro
      refine And.intro (fun W' hS' => ?y29) (And.intro (fun _ _ _ h => h) ?_)
      case y29 => obtain ⟨d0, d1, d2⟩ := hS'; go_simp; rfl
      refine take_one 30 hS28 rfl (by kernel_rfl) rfl ?_
      apply Exists.intro
      refine And.intro (fun W' hS' => ?y30) (And.intro (fun _ _ _ h => h) ?_)
      case y30 => obtain ⟨d0, d1, d2⟩ := hS'; go_simp; rfl
      refine take_one 31 hS28 rfl (by kernel_rfl) rfl ?_
      apply Exists.intro
      refine And.intro (fun W' hS' => ?y31) (And.intro (fun _ _ _ h => h) ?_)
      case y31 => obtain ⟨d0, d1, d2⟩ := hS'; go_simp; rfl
      try go_simp
      refine take_one 32 hS28 rfl (by kernel_rfl) (by kernel_rfl) ?_
      apply Exists.intro
      refine And.intro (fun W' hS' => ?y32) (And.intro (fun _ _ _ h => h) ?_)
      case y32 => obtain ⟨d0, d1, d2⟩ := hS'; obtain ⟨g0, g1, g2, g3, g4, g5, g6, g7, g8⟩ := d0.cells9; obtain ⟨h0, h1, h2, h3, h4, h5, h6, h7, h8⟩ := d1.cells9; obtain ⟨i0, i1, i2, i3, i4, i5, i6, i7, i8⟩ := d2.cells9; go_simp; rfl
      refine take_one 33 hS28 rfl (by kernel_rfl) (by kernel_rfl) ?_
      apply Exists.intro
      refine And.intro (fun W' hS' => ?y33) (And.intro (fun _ _ _ h => h) ?_)
      case y33 => obtain ⟨d0, d1, d2⟩ := hS'; obtain ⟨g0, g1, g2, g3, g4, g5, g6, g7, g8⟩ := d0.cells9; obtain ⟨h0, h1, h2, h3, h4, h5, h6, h7, h8⟩ := d1.cells9; obtain ⟨i0, i1, i2, i3, i4, i5, i6, i7, i8⟩ := d2.cells9; go_simp; rfl
      refine only_one 34 rfl (by kernel_rfl) (by kernel_rfl) ?_
      have hsm34 := same_some w48 k V tx1 A1 l1 c1 k V tx1 A5 l1 c5 ((own_lns HPO6.out).chg hT28) ((own_lns HCO6.out).chg hT28) (by omega) (by omega)
      rw [sameF_refl] at hsm34
      try go_simp
      refine hsm34.mono ?_
      rintro e w54 ⟨rfl, hC34⟩
      have hS34 : PktAt w54 w.heap.size k V tx1 (.slice A1 l1.length c1) ∧ PktAt w54 (w.heap.size + 1) k2 V2 ty1 (.slice B1 m1.length d1) ∧ PktAt w54 PC k V tx1 (.slice A5 l1.length c5) := ⟨PktAt.keep hS28.1 hC34 (fun h => h), PktAt.keep hS28.2.1 hC34 (fun h => h), PktAt.keep hS28.2.2 hC34 (fun h => h)⟩
      have hT34 := hT28.trans hC34
      refine ⟨hS34, ?_⟩
      refine take_one 35 hS34 rfl (by kernel_rfl) (by kernel_rfl) ?_
      apply Exists.intro
      refine And.intro (fun W' hS' => ?y35) (And.intro (fun _ _ _ h => h) ?_)
      case y35 => obtain ⟨d0, d1, d2⟩ := hS'; go_simp; rfl
      refine take_one 36 hS34 rfl (by kernel_rfl) rfl ?_
      apply Exists.intro
      refine And.intro (fun W' hS' => ?y36) (And.intro (fun _ _ _ h => h) ?_)
      case y36 => obtain ⟨d0, d1, d2⟩ := hS'; go_simp; rfl
      try go_simp
      refine all_done (by kernel_rfl) ?_ _
      have HT := Lib.hid hT34
      clear hS hS1 hS3 hS8 hS19 hS22 hS28 hS34 hd
      go_wp2_with fail
      go_meet
      exact ⟨rfl, HT.out⟩
    case rest =>
      obtain ⟨rfl, hC7⟩ := hcut
      have HP7 := Lib.hid (HP6.out.keep hC7 (fun h => h))
      have HPO7 := Lib.hid (own_chg HPO6.out hC7 (fun _ _ h => h))
      have HCC7 := Lib.hid (HCC6.out.keep hC7 (fun h => h))
      have HCO7 := Lib.hid (own_chg HCO6.out hC7 (fun _ _ h => h))
      have HC7 := Lib.hid (HC6.out.trans hC7)
      clear hC7 HP6 HPO6 HQ6 HQO6 HCC6 HCO6 HRA6 HRB6 HC6
      obtain ⟨q0, q1, q2, q3, q4, q5, q6, q7, q8⟩ := HP7.out.cells9
      have hcp := rcopy_some wc k V tx1 A1 l1 c1 (own_lns HPO7.out) (by omega)
      unfold pk at hcp
      have HCP := Lib.hid hcp
      clear hcp
      go_wp2_with fail
      refine HCP.out.mono ?_
      rintro e w8 ⟨v8, rfl, ho8, hC8⟩
      obtain ⟨A8, c8, rfl, _⟩ := own_lines ho8
      have hal8 := (Chg.refl (fun _ => False) w8).alloc (.cells #[.int .i64 k, .int .i64 (V 1), .int .i64 (V 2), .int .i64 (V 3), .int .i64 (V 4), .int .i64 (V 5), .int .i64 (V 6), .string tx1, .slice A8 l1.length c8] 26)
      have hT8 := hC8.trans hal8
      have HWA : Hid (PktAt (w8.alloc (.cells #[.int .i64 k, .int .i64 (V 1), .int .i64 (V 2), .int .i64 (V 3), .int .i64 (V 4), .int .i64 (V 5), .int .i64 (V 6), .string tx1, .slice A8 l1.length c8] 26)) w8.heap.size k V tx1 (.slice A8 l1.length c8)) := Lib.hid (heap_new w8 _)
      have HWO := Lib.hid (own_chg ho8 hal8 (fun _ _ h => h))
      have HP9 := Lib.hid (HP7.out.keep hT8 (fun h => h))
      have HPO9 := Lib.hid (own_chg HPO7.out hT8 (fun _ _ h => h))
      have HCC9 := Lib.hid (HCC7.out.keep hT8 (fun h => h))
      have HCO9 := Lib.hid (own_chg HCO7.out hT8 (fun _ _ h => h))
      have HC9 := Lib.hid (HC7.out.trans hT8)
      have HPLT : Hid (∀ i, (Value.slice A1 l1.length c1).ownBlock = some i → i < LB) := Lib.hid HPB.out
      have hcl : PC < wc.heap.size := HCC7.out.lt
      have HC5L : Hid (∀ i, (Value.slice A5 l1.length c5).ownBlock = some i → i < wc.heap.size) := Lib.hid (fun i hi => by obtain ⟨c, t, f, hc⟩ := own_cells HCO7.out hi; exact lt_of_heap hc)
      clear hal8 hT8 ho8 hC8 HCP q0 q1 q2 q3 q4 q5 q6 q7 q8 HP7 HPO7 HCC7 HCO7 HC7
      go_upto_block 0 with fail
      generalize w8.alloc (.cells #[.int .i64 k, .int .i64 (V 1), .int .i64 (V 2), .int .i64 (V 3), .int .i64 (V 4), .int .i64 (V 5), .int .i64 (V 6), .string tx1, .slice A8 l1.length c8] 26) = w9 at *
      generalize w8.heap.size = PW at *
      go_cut [11] from 67 to 77 (fun _ W => Chg (fun i => (Value.slice A5 l1.length c5).ownBlock = some i) w9 W)
      case first =>
        have q8 : ∀ W, Chg (fun i => (Value.slice A5 l1.length c5).ownBlock = some i) w9 W → W.cell? ⟨PC, 8, none⟩ = some (.slice A5 l1.length c5) := fun W hW => cell_of_heap (hW.keep HCC9.out (fun h => own_ne HCO9.out HCC9.out (by decide) h)) 8
        have HQ8 := Lib.hid q8
        clear q8
        by_cases h0 : 0 < l1.length
        · obtain ⟨g, rfl, hg, hin⟩ := in_rowS HCO9.out rfl h0
          have HIN := Lib.hid hin
          clear hin
          go_wp2_with fail
          go_loopw [11] (fun i wr => ∃ j : Nat, j ≤ l1.length ∧ i = .int .i64 j ∧ InRowS wr g l1.length ∧ Chg (fun i => (Value.slice (some ⟨g, 0, none⟩) l1.length c5).ownBlock = some i) w9 wr) (fun i _ => l1.length - (intOf i).toNat)
          case atStart => exact ⟨0, by omega, rfl, HIN.out, Chg.refl _ _⟩
          case round =>
            obtain ⟨j, hj, rfl, hin, hCh⟩ := hrel
            have HINJ := Lib.hid hin
            have HCHJ := Lib.hid hCh
            have q8 := HQ8.out wr hCh
            clear hCh
            by_cases hlt : j < l1.length
            · obtain ⟨x, hx, hf⟩ := hin.at j hlt
              clear hin
              go_wp2_with fail
              go_roundw
              case rel => exact ⟨j + 1, by omega, by go_num, HINJ.out.set j _, HCHJ.out.setCell (p := ⟨g, j, none⟩) (.inl rfl) _⟩
              case measure => simp [intOf] <;> omega
            · clear hin
              go_wp2_with fail
              go_meet
              exact HCHJ.out
        · have hd : decide (0 < l1.length) = false := decide_eq_false h0
          have hd' : decide ((0 : Int) < (l1.length : Int)) = false := decide_eq_false (by omega)
          have q8 := HQ8.out w9 (Chg.refl _ _)
          clear h0
          go_wp2_with fail
          go_loop [11] (fun i => i = .int .i64 0) (fun _ => 0)
          case atStart => rfl
          case round =>
            subst hrel
            go_wp2_with fail
            go_meet
            exact Chg.refl _ _
      case rest =>
        have hne : ∀ {X : Nat} {cs : Array Value} {t : TypeId}, w9.heap[X]? = some (.cells cs t (0, 0)) → t ≠ 9 → ¬ (Value.slice A5 l1.length c5).ownBlock = some X := fun h ht e => own_ne HCO9.out h ht e
        have hP := hcut.keep HP9.out (hne HP9.out (by decide))
        have hWa := hcut.keep HWA.out (hne HWA.out (by decide))
        have hge : ∀ i, (Value.slice A5 l1.length c5).ownBlock = some i → LB ≤ i := fun i hi => own_block HCO9.out hi
        have hPL := own_lns (own_chg HPO9.out hcut (fun i hi h2 => by have := HPLT.out i hi; have := hge i h2; omega))
        have hWL := own_lns (own_chg HWO.out hcut (fun i hi h2 => by have := own_block HWO.out hi; have := HC5L.out i h2; omega))
        have HT := Lib.hid (HC9.out.trans' hcut (fun i h1 h2 => by have := hge i h2; have := HBND.out; omega))
        obtain ⟨g0, g1, g2, g3, g4, g5, g6, g7, g8⟩ := PktAt.cells9 hP
        obtain ⟨h0, h1, h2, h3, h4, h5, h6, h7, h8⟩ := PktAt.cells9 hWa
        have hsm := rsame_some wc k V tx1 A1 l1 c1 k V tx1 A8 l1 c8 hPL hWL (by omega) (by omega)
        rw [sameF_refl] at hsm
        have HSM := Lib.hid hsm
        clear hsm hP hWa hne hge hPL hWL hcut
        go_wp2_with fail
        refine HSM.out.mono ?_
        rintro e w10 ⟨rfl, hC10⟩
        have HT10 := Lib.hid (HT.out.trans hC10)
        clear hC10 HSM g0 g1 g2 g3 g4 g5 g6 g7 g8 h0 h1 h2 h3 h4 h5 h6 h7 h8
        go_wp2_with fail
        refine (works_some w10 (HW.out.chg HT10.out)).mono ?_
        rintro e w11 ⟨rfl, hC11⟩
        have HT11 := Lib.hid (HT10.out.trans hC11)
        clear hC11
        go_wp2_with fail
        go_ret
        exact ⟨rfl, HT11.out⟩
theorem PushWrites_calls (k : Int) (V : Nat → Int) (tx : ByteArray) (A : Option Addr) (l : List ByteArray) (c : Nat) (k2 : Int) (V2 : Nat → Int) (ty : ByteArray) (B : Option Addr) (m : List ByteArray) (d : Nat) (w : World) (hW : WOk w) (hl : Lns w A l) (hL : l.length ≤ 9223372036854775807) (hss : ∀ s ∈ l, s.size ≤ 9223372036854775807) (hm : Lns w B m) (hM : m.length ≤ 9223372036854775807) (hmm : ∀ s ∈ m, s.size ≤ 9223372036854775807) :
    Calls Tryd.prog 8 #[.agg (pk k V tx (.slice A l.length c)), .agg (pk k2 V2 ty (.slice B m.length d))] w fun e w' => e = .returned (.bool true) ∧ Chg (fun _ => False) w w' :=
  writes_any w k V tx A l c k2 V2 ty B m d hW hl hL hss hm hM hmm
end Go.Proofs.YteiedafdakffeaaDoor
