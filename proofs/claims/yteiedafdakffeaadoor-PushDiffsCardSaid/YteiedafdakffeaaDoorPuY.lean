/- push: the document's Bytes answers as push's. -/
import Derived.Test.YteiedafdakffeaaDoorPuX
import Derived.Test.YteiedafdakffeaaDoorPuU
import Derived.Test.YteiedafdakffeaaDoorPuV
namespace Go.Proofs.YteiedafdakffeaaDoor
set_option linter.unusedVariables false
set_option linter.unusedSimpArgs false
open Go Go.RowKit Go.Proofs
open Go.Proofs.YteiedafdakffeaaDoorW.PrintWords (Kd bytesOf bytesOf_length ReadsInt ReadsOf gate_store gate_dst own_move)
set_option maxRecDepth 100000 in
theorem append_u8 (w : World) (base : Nat) (v : Value) (xs : List Int) (ho : w.ownsRow base 5 1 v xs.length (u8s xs)) (A : Option Addr) (ys : List Int) (c : Nat) (hR : ReadsInt w .u8 A ys.length ys) (hbig : xs.length + ys.length ≤ 140737488355328) (hb : base ≤ w.heap.size) :
    ∃ v' w', (Builtin.append_ #[22, 22] 22 #[v, .slice A ys.length c]).run Tryd.prog w = .ok v' w' ∧ w'.ownsRow base 5 1 v' (xs ++ ys).length (u8s (xs ++ ys)) ∧ w.grownBy w' v.ownBlock := by
  obtain ⟨i0, hi, hz0, hz1, hz2⟩ := info_parts info5
  by_cases h0 : 0 < ys.length
  · obtain ⟨x, rfl, hcell⟩ := hR.2.2 h0
    obtain ⟨v', w', h1, h2, h3, _⟩ := run_append_own_at (P := Tryd.prog) w base 22 22 5 i0 (.int .u8 0) 1 1 Tryd.underlying22 hi hz0 hz1 hz2 rfl (by decide) v xs.length (u8s xs) ho x ys.length c (u8s ys) (by simp [u8s]) (fun j u hj => by
        have hjl : j < ys.length := by
          have := (List.getElem?_eq_some_iff.1 hj).1
          simpa [u8s] using this
        rw [hcell j hjl]
        unfold u8s at hj
        rw [List.getElem?_map, List.getElem?_eq_getElem hjl] at hj
        rw [← hj]
        simp [List.getD, hjl]) (fun u hu => by
        unfold u8s at hu
        obtain ⟨n, _, rfl⟩ := List.mem_map.1 hu
        rfl) (by unfold maxLen; omega) (by omega) hb
    refine ⟨v', w', h1, ?_, h3⟩
    rw [List.length_append, u8s_append]
    exact h2
  · obtain rfl : ys = [] := List.length_eq_zero_iff.1 (by omega)
    have hz1' : i0.size = 1 := hz1
    refine ⟨v, w, ?_, by simpa using ho, ⟨rfl, rfl, rfl, Nat.le_refl _, fun _ _ _ => rfl⟩⟩
    rcases ho.2 with ⟨rfl, h2⟩ | ⟨g, cap, cur, rfl, _, _, hnc, _⟩
    · cases A <;> simp [Builtin.append_, run_underlying Tryd.underlying22, sizeOf, typeInfo, hi, Builtin.lenOf, Builtin.firstCells, storeCells, loadCells, loadCellsFrom]
    · cases A <;> simp [Builtin.append_, run_underlying Tryd.underlying22, sizeOf, typeInfo, hi, Builtin.lenOf, Builtin.firstCells, hnc, storeCells, loadCells, loadCellsFrom]
def rfB (l : List Int) (V : Nat → Int) : List Int := l.flatMap fun q => rowB (V (q.toNat + 1)) 7
theorem rfB_take (l : List Int) (V : Nat → Int) (j q : Nat) (h : j < l.length) (hq : l[j] = (q : Int)) : rfB (l.take (j + 1)) V = rfB (l.take j) V ++ rowB (V (q + 1)) 7 := by
  unfold rfB
  rw [List.take_add_one, List.getElem?_eq_getElem h, List.flatMap_append]
  simp [hq]
theorem rfB_len (l : List Int) (V : Nat → Int) : (rfB l V).length ≤ 7 * l.length := by
  induction l with
  | nil => simp [rfB]
  | cons q t ih =>
    have e : rfB (q :: t) V = rowB (V (q.toNat + 1)) 7 ++ rfB t V := rfl
    rw [e, List.length_append, rowB_length, List.length_cons]
    omega
theorem rfB_eq (k : Int) (h : 1 ≤ k ∧ k ≤ 5) (V : Nat → Int) : rfB (rfieldsL k) V = fieldsB (ownOf k) 0 0 V 6 := by
  have hk5 : k = 1 ∨ k = 2 ∨ k = 3 ∨ k = 4 ∨ k = 5 := by omega
  rcases hk5 with rfl | rfl | rfl | rfl | rfl <;> rfl
theorem lns_at {w : World} {g p : Nat} {l : List ByteArray} {j : Nat} {x : ByteArray} (h : Lns w (some ⟨g, p, none⟩) l) (hj : j < l.length) (hx : l.getD j ByteArray.empty = x) : w.cell? ⟨g, p + j, none⟩ = some (.string x) := by
  obtain ⟨g', p', e, hc⟩ := h j hj
  cases e
  rw [hc, hx]
set_option maxRecDepth 100000 in
set_option maxHeartbeats 4000000 in
theorem rbytes_no (w : World) (k : Int) (V : Nat → Int) (tx : ByteArray) (A : Option Addr) (l : List ByteArray) (c : Nat) (hl : Lns w A l) (hL : l.length ≤ 1000000000000) (hs : sizes l ≤ 4611686018427387904) (hno : checkP k V tx l = 2) :
    Calls Tryd.prog 29 #[.agg (pk k V tx (.slice A l.length c))] w fun e w' => e = .returned (.tuple #[.slice none 0 0, .int .i64 2]) ∧ Chg (fun _ => False) w w' := by
  have hal := (Chg.refl (fun _ => False) w).alloc (.cells (pk k V tx (.slice A l.length c)) 26)
  have hp : PktAt (w.alloc (.cells (pk k V tx (.slice A l.length c)) 26)) w.heap.size k V tx (.slice A l.length c) := heap_new w _
  have hch := rcheck_some (w.alloc (.cells (pk k V tx (.slice A l.length c)) 26)) k V tx A l c (hl.chg hal) hL hs
  rw [hno] at hch
  have HCH := Lib.hid hch
  have HAL := Lib.hid hal
  have HP := Lib.hid hp
  clear hno hch hal hp hl
  unfold pk at *
  go_enter Tryd.func29, Tryd.ntmps29
  go_wp2_with ((with_reducible refine gate_dst (N := 10) rfl ?_); refine wpList_load_row rfl 26 (.tmp 1) rfl w.heap.size rfl 26 _ (0, 0) _ HP.out Tryd.underlying26 rfl infoP ?_)
  refine HCH.out.mono ?_
  rintro e w2 ⟨rfl, hC2⟩
  have HC2 := Lib.hid (HAL.out.trans hC2)
  clear hC2 HCH HAL
  go_wp2_with fail
  go_ret2
  exact ⟨rfl, HC2.out⟩
set_option maxRecDepth 100000 in
set_option maxHeartbeats 8000000 in
theorem rbytes_ok (w : World) (k : Int) (V : Nat → Int) (tx : ByteArray) (A : Option Addr) (l : List ByteArray) (c : Nat) (hl : Lns w A l) (hok : checkP k V tx l = 0) :
    Calls Tryd.prog 29 #[.agg (pk k V tx (.slice A l.length c))] w fun e w' => ∃ v, e = .returned (.tuple #[v, .int .i64 0]) ∧ w'.ownsRow w.heap.size 5 1 v (pushB k (V 1) (V 2) (V 3) (V 4) (V 5) (V 6) tx l).length (u8s (pushB k (V 1) (V 2) (V 3) (V 4) (V 5) (V 6) tx l)) ∧ Chg (fun _ => False) w w' := by
  obtain ⟨hk, htx, _, hs, hL, _, _, _⟩ := check_bounds hok
  have hal := (Chg.refl (fun _ => False) w).alloc (.cells (pk k V tx (.slice A l.length c)) 26)
  have hp : PktAt (w.alloc (.cells (pk k V tx (.slice A l.length c)) 26)) w.heap.size k V tx (.slice A l.length c) := heap_new w _
  have hch := rcheck_some (w.alloc (.cells (pk k V tx (.slice A l.length c)) 26)) k V tx A l c (hl.chg hal) (by omega) (by omega)
  rw [hok] at hch
  have HCH := Lib.hid hch
  have HAL := Lib.hid hal
  have HP := Lib.hid hp
  have HL := Lib.hid hl
  have HPB : Hid (pushB k (V 1) (V 2) (V 3) (V 4) (V 5) (V 6) tx l = [k % 256] ++ rfB (rfieldsL k) V ++ (if k = 1 then textB tx else []) ++ (if k = 2 then rowB l.length 2 ++ linesB l else [])) := Lib.hid (by rw [pushB_eq, rfB_eq k hk V])
  clear hok hch hal hp hl hk
  unfold pk at *
  go_enter Tryd.func29, Tryd.ntmps29
  go_wp2_with ((with_reducible refine gate_dst (N := 10) rfl ?_); refine wpList_load_row rfl 26 (.tmp 1) rfl w.heap.size rfl 26 _ (0, 0) _ HP.out Tryd.underlying26 rfl infoP ?_)
  refine HCH.out.mono ?_
  rintro e w2 ⟨rfl, hC2⟩
  have HC2 := Lib.hid (HAL.out.trans hC2)
  have HP2 : Hid (PktAt w2 w.heap.size k V tx (.slice A l.length c)) := Lib.hid (hC2.keep HP.out (fun h => h))
  clear hC2 HCH HAL HP
  have q0 : w2.cell? ⟨w.heap.size, 0, none⟩ = some (.int .i64 k) := cell_of_heap HP2.out 0
  go_upto_region 5 with fail
  have hal3 := (Chg.refl (fun _ => False) w2).alloc (.cells #[.int .u8 (k % 256)] 5)
  have HO3 := Lib.hid (own_one (W := w2.alloc (.cells #[.int .u8 (k % 256)] 5)) HC2.out.size (heap_new w2 _))
  have HP3 := Lib.hid (HP2.out.keep hal3 (fun h => h))
  have HC3 := Lib.hid (HC2.out.trans hal3)
  clear q0 hal3 HP2
  generalize w2.alloc (.cells #[.int .u8 (k % 256)] 5) = w3 at *
  generalize w2.heap.size = KB at *
  obtain ⟨q0, q1, q2, q3, q4, q5, q6, q7, q8⟩ := HP3.out.cells9
  go_upto_region 6 with fail
  have hal4 := (Chg.refl (fun _ => False) w3).alloc (.cells #[.int .i64 (V 1), .int .i64 (V 2), .int .i64 (V 3), .int .i64 (V 4), .int .i64 (V 5), .int .i64 (V 6)] 3)
  have HA4 := Lib.hid (heap_new w3 (.cells #[.int .i64 (V 1), .int .i64 (V 2), .int .i64 (V 3), .int .i64 (V 4), .int .i64 (V 5), .int .i64 (V 6)] 3))
  have HP4 := Lib.hid (HP3.out.keep hal4 (fun h => h))
  have HC4 := Lib.hid (HC3.out.trans hal4)
  have HO4 := Lib.hid (own_chg HO3.out hal4 (fun _ _ h => h))
  clear q0 q1 q2 q3 q4 q5 q6 q7 q8 hal4 HP3 HC3 HO3 HC2
  generalize w3.alloc (.cells #[.int .i64 (V 1), .int .i64 (V 2), .int .i64 (V 3), .int .i64 (V 4), .int .i64 (V 5), .int .i64 (V 6)] 3) = w4 at *
  generalize w3.heap.size = AL at *
  have q0 : w4.cell? ⟨w.heap.size, 0, none⟩ = some (.int .i64 k) := cell_of_heap HP4.out 0
  go_wp2_with fail
  refine (rfields_some _ k).mono ?_
  rintro e w5 ⟨rfl, hF5, hC5⟩
  have HF5 := Lib.hid hF5
  have HP5 := Lib.hid (HP4.out.keep hC5 (fun h => h))
  have HA5 := Lib.hid (hC5.keep HA4.out (fun h => h))
  have HO5 := Lib.hid (own_chg HO4.out hC5 (fun _ _ h => h))
  have HC5 := Lib.hid (HC4.out.trans hC5)
  clear hF5 hC5 HP4 HA4 HO4 HC4 q0
  generalize w4.heap.size = F at *
  have hlen5 := rfields_len k
  have HAT := Lib.hid (rfields_at k)
  have hfl := rfB_len (rfieldsL k) V
  go_upto_block 0 with fail
  go_cut [5, 8] from 35 to 50 (fun s5 _ W => W.ownsRow w.heap.size 5 1 s5 ([k % 256] ++ rfB (rfieldsL k) V).length (u8s ([k % 256] ++ rfB (rfieldsL k) V)) ∧ PktAt W w.heap.size k V tx (.slice A l.length c) ∧ Chg (fun _ => False) w W)
  case first =>
    go_wp2_with fail
    go_loopw [5, 8] (fun s5 i wr => ∃ j : Nat, j ≤ (rfieldsL k).length ∧ i = .int .i64 j ∧ wr.ownsRow w.heap.size 5 1 s5 ([k % 256] ++ rfB ((rfieldsL k).take j) V).length (u8s ([k % 256] ++ rfB ((rfieldsL k).take j) V)) ∧ PktAt wr w.heap.size k V tx (.slice A l.length c) ∧ wr.heap[AL]? = some (.cells #[.int .i64 (V 1), .int .i64 (V 2), .int .i64 (V 3), .int .i64 (V 4), .int .i64 (V 5), .int .i64 (V 6)] 3 (0, 0)) ∧ wr.heap[F]? = some (.cells ((rfieldsL k).map (Value.int .i64)).toArray 3 (0, 0)) ∧ Chg (fun _ => False) w wr) (fun _ i _ => (rfieldsL k).length - (intOf i).toNat)
    case atStart => exact ⟨0, by omega, rfl, HO5.out, HP5.out, HA5.out, HF5.out, HC5.out⟩
    case round =>
      obtain ⟨j, hj, rfl, hO, hP, hA, hF, hC⟩ := hrel
      have HOJ := Lib.hid hO
      have HPJ := Lib.hid hP
      have HAJ := Lib.hid hA
      have HFJ := Lib.hid hF
      have HCJ := Lib.hid hC
      have hszJ := hC.size
      clear hO hP hA hF hC
      by_cases hlt : j < (rfieldsL k).length
      · obtain ⟨qn, hqn, hqe⟩ := HAT.out j hlt
        have hcF : wr.cell? ⟨F, j, none⟩ = some (.int .i64 (qn : Int)) := by
          rw [cell_of_heap HFJ.out j]
          simp [hlt, hqe]
        have hcA : wr.cell? ⟨AL, qn, none⟩ = some (.int .i64 (V (qn + 1))) := by
          rw [cell_of_heap HAJ.out qn]
          have : qn = 0 ∨ qn = 1 ∨ qn = 2 ∨ qn = 3 ∨ qn = 4 ∨ qn = 5 := by omega
          rcases this with rfl | rfl | rfl | rfl | rfl | rfl <;> rfl
        have HST := Lib.hid (rfB_take (rfieldsL k) V j qn hlt hqe)
        have hl1 := rfB_len ((rfieldsL k).take j) V
        have hl2 : ((rfieldsL k).take j).length ≤ 5 := Nat.le_trans (List.length_take_le _ _) (by omega)
        have hq0 : (0 : Int) ≤ (qn : Int) := by omega
        have hq6 : (qn : Int) < 6 := by omega
        have hj0 : (0 : Int) ≤ (j : Int) := by omega
        have hjl : (j : Int) < ((rfieldsL k).length : Int) := by omega
        clear hqe
        generalize rfB ((rfieldsL k).take j) V = X at *
        generalize V (qn + 1) = vq at *
        go_wp2_with fail
        refine (rrow_some wr vq 7 (by omega) (by omega)).mono ?_
        rintro e w6 ⟨v6, rfl, ho6, hG6⟩
        have hF6 : Chg (fun _ => False) wr w6 := hG6.chg.mono (fun i h1 h2 => by omega)
        obtain ⟨A6, c6, rfl, hc6, hR6⟩ := own_bytes ho6
        have ho6' := own_chg HOJ.out hF6 (fun _ _ h => h)
        have hsz6 := hF6.size
        obtain ⟨v7, w7, hr7, ho7, hg7⟩ := append_u8 w6 w.heap.size u5 ([k % 256] ++ X) ho6' A6 (rowB vq 7) c6 hR6 (by rw [rowB_length, List.length_append]; simp; omega) (by omega)
        have HR7 := Lib.hid hr7
        have HO7 := Lib.hid ho7
        have HP7 : Hid (PktAt w7 w.heap.size k V tx (.slice A l.length c)) := Lib.hid (grown_keep hg7 (HPJ.out.keep hF6 (fun h => h)) (own_ne ho6' (HPJ.out.keep hF6 (fun h => h)) (by decide)))
        have HA7 := Lib.hid (grown_keep hg7 (hF6.keep HAJ.out (fun h => h)) (own_ne ho6' (hF6.keep HAJ.out (fun h => h)) (by decide)))
        have HF7 := Lib.hid (grown_keep hg7 (hF6.keep HFJ.out (fun h => h)) (own_ne ho6' (hF6.keep HFJ.out (fun h => h)) (by decide)))
        have HC7 := Lib.hid ((HCJ.out.trans hF6).grown hg7 (fun q hq => .inr (own_block ho6' hq)))
        clear ho6 hG6 hF6 hR6 ho6' hr7 ho7 hg7 hcF hcA
        go_wp2_with (at_builtin; refine wpList_append_guarded rfl _ _ 22 22 rfl u5 (.slice A6 (rowB vq 7).length c6) rfl rfl v7 w7 HR7.out ?_)
        go_wp2_with fail
        go_roundw
        case rel => exact ⟨j + 1, by omega, by go_num, by rw [HST.out, ← List.append_assoc]; exact HO7.out, HP7.out, HA7.out, HF7.out, HC7.out⟩
        case measure => simp [intOf] <;> omega
      · obtain rfl : j = (rfieldsL k).length := by omega
        rw [List.take_length] at HOJ
        go_wp2_with fail
        go_meet
        exact ⟨HOJ.out, HPJ.out, HCJ.out⟩
  case rest =>
    obtain ⟨hO, hP, hC⟩ := hcut
    obtain ⟨X, hX⟩ : ∃ X, [k % 256] ++ rfB (rfieldsL k) V = X := ⟨_, rfl⟩
    have hXl : X.length ≤ 50 := by rw [← hX, List.length_append]; simp; omega
    rw [hX] at hO HPB
    have HOX := Lib.hid hO
    have HPX := Lib.hid hP
    have HCX := Lib.hid hC
    have hszX := hC.size
    have c0 : wc.cell? ⟨w.heap.size, 0, none⟩ = some (.int .i64 k) := cell_of_heap hP 0
    clear hX hO hP hC hfl hlen5 HAT HF5 HP5 HA5 HO5 HC5
    go_upto_if 53 with fail
    go_cut [5, 53] from 54 to 62 (fun s5 _ W => W.ownsRow w.heap.size 5 1 s5 (X ++ (if k = 1 then textB tx else [])).length (u8s (X ++ (if k = 1 then textB tx else []))) ∧ PktAt W w.heap.size k V tx (.slice A l.length c) ∧ Chg (fun _ => False) w W)
    case first =>
      by_cases hk1 : k = 1
      · have hkb : (k == 1) = true := beq_iff_eq.2 hk1
        have HK1 := Lib.hid hk1
        clear hk1
        go_upto_region 12 with fail
        have cT : wc.drew.cell? ⟨w.heap.size, 7, none⟩ = some (.string tx) := cell_of_heap HPX.out 7
        obtain ⟨i0, hi, hz0, hz1, hz2⟩ := info_parts info5
        have hd := (Chg.refl (fun _ => False) wc).drew
        refine region_lone (fun W' => W'.cell? ⟨w.heap.size, 7, none⟩ = some (.string tx)) [] (by kernel_rfl) ?_
        refine take_one 0 cT rfl (by kernel_rfl) rfl ?_
        apply Exists.intro
        refine And.intro (fun W' hS' => ?y0) (And.intro (fun _ _ _ h => h) ?_)
        case y0 => have d0 := hS'; go_simp; rfl
        refine take_one 1 cT rfl (by kernel_rfl) rfl ?_
        apply Exists.intro
        refine And.intro (fun W' hS' => ?y1) (And.intro (fun _ _ _ h => h) ?_)
        case y1 => have d0 := hS'; go_simp; rfl
        refine take_one 2 cT rfl (by kernel_rfl) rfl ?_
        apply Exists.intro
        refine And.intro (fun W' hS' => ?y2) (And.intro (fun _ _ _ h => h) ?_)
        case y2 => have d0 := hS'; go_simp; rfl
        refine take_one 3 cT rfl (by kernel_rfl) rfl ?_
        apply Exists.intro
        refine And.intro (fun W' hS' => ?y3) (And.intro (fun _ _ _ h => h) ?_)
        case y3 => have d0 := hS'; go_simp; rfl
        refine take_one 6 cT rfl (by kernel_rfl) rfl ?_
        apply Exists.intro
        refine And.intro (fun W' hS' => ?y6) (And.intro (fun _ _ _ h => h) ?_)
        case y6 => have d0 := hS'; go_simp; rfl
        refine take_one 7 cT rfl (by kernel_rfl) rfl ?_
        apply Exists.intro
        refine And.intro (fun W' hS' => ?y7) (And.intro (fun _ _ _ h => h) ?_)
        case y7 => have d0 := hS'; go_simp; rfl
        refine only_one 4 rfl (by kernel_rfl) rfl ?_
        go_simp
        refine (rrow_some _ (tx.size : Int) 3 (by omega) (by omega)).mono ?_
        rintro e w6 ⟨v6, rfl, ho6, hG6⟩
        have hF6 : Chg (fun _ => False) wc w6 := hd.trans (hG6.chg.mono (fun i h1 h2 => by simp at *; omega))
        obtain ⟨A6, c6, rfl, hc6, hR6⟩ := own_bytes ho6
        have ho6' := own_chg HOX.out hF6 (fun _ _ h => h)
        have hP6 : PktAt w6 w.heap.size k V tx (.slice A l.length c) := HPX.out.keep hF6 (fun h => h)
        have hsz6 := hF6.size
        obtain ⟨v7, w7, hr7, ho7, hg7⟩ := append_u8 w6 w.heap.size u5 X ho6' A6 (rowB (tx.size : Int) 3) c6 hR6 (by rw [rowB_length]; omega) (by omega)
        have hP7 : PktAt w7 w.heap.size k V tx (.slice A l.length c) := grown_keep hg7 hP6 (own_ne ho6' hP6 (by decide))
        have hC7 := (HCX.out.trans hF6).grown hg7 (fun q hq => .inr (own_block ho6' hq))
        refine ⟨cell_of_heap hP6 7, ?_⟩
        refine only_one 5 rfl (by kernel_rfl) rfl ?_
        refine Lib.wp_append_run _ (.tmp 54) (.tmp 58) 22 22 rfl u5 (.slice A6 (rowB (tx.size : Int) 3).length c6) rfl rfl v7 w7 hr7 ?_
        refine ⟨fun _ => cell_of_heap hP7 7, ?_⟩
        refine only_one 8 rfl (by kernel_rfl) rfl ?_
        refine wp_append_text (.tmp 59) (.tmp 61) 22 9 rfl w.heap.size 5 i0 Tryd.underlying22 Tryd.underlying9 hi hz0 hz1 hz2 v7 _ _ rfl ho7 tx rfl ?_ ?_ ?_ ?_
        · unfold maxLen; rw [List.length_append, rowB_length]; omega
        · rw [List.length_append, rowB_length]; omega
        · have := hC7.size; omega
        intro v8 w8 ho8 hg8
        have hP8 : PktAt w8 w.heap.size k V tx (.slice A l.length c) := grown_keep hg8 hP7 (own_ne ho7 hP7 (by decide))
        have hC8 := hC7.grown hg8 (fun q hq => .inr (own_block ho7 hq))
        have hS8 : w8.cell? ⟨w.heap.size, 7, none⟩ = some (.string tx) := cell_of_heap hP8 7
        refine ⟨fun _ => hS8, ?_⟩
        refine take_one 9 hS8 rfl (by kernel_rfl) rfl ?_
        apply Exists.intro
        refine And.intro (fun W' hS' => ?y9) (And.intro (fun _ _ _ h => h) ?_)
        case y9 => have d0 := hS'; go_simp; rfl
        refine all_done (by kernel_rfl) ?_ _
        clear cT hd
        go_wp2_with fail
        go_meet
        refine ⟨?_, hP8, hC8⟩
        rw [if_pos HK1.out]
        have e : X ++ textB tx = (X ++ rowB tx.size 3) ++ bytesOf tx := by rw [textB, List.append_assoc]
        rw [e, u8s_append, List.length_append, bytesOf_length, ← strCells_bytes]
        exact ho8
      · have hkb : (k == 1) = false := beq_eq_false_iff_ne.2 hk1
        have HK1 := Lib.hid hk1
        clear hk1
        go_wp2_with fail
        go_meet
        exact ⟨by rw [if_neg HK1.out, List.append_nil]; exact HOX.out, HPX.out, HCX.out⟩
    case rest =>
      obtain ⟨hO, hP, hC⟩ := hcut
      obtain ⟨Y, hY⟩ : ∃ Y, X ++ (if k = 1 then textB tx else []) = Y := ⟨_, rfl⟩
      have hYl : Y.length ≤ 66000 := by
        rw [← hY, List.length_append]
        split
        · rw [textB_length]; omega
        · simp; omega
      rw [hY] at hO HPB
      have HOY := Lib.hid hO
      have HPY := Lib.hid hP
      have HCY := Lib.hid hC
      have hszY := hC.size
      clear c0
      have c0 : wc.cell? ⟨w.heap.size, 0, none⟩ = some (.int .i64 k) := cell_of_heap hP 0
      clear hY hO hP hC HOX HPX HCX hszX
      go_upto_if 65 with fail
      go_cut [5, 9, 65] from 66 to 93 (fun s5 _ _ W => W.ownsRow w.heap.size 5 1 s5 (Y ++ (if k = 2 then rowB l.length 2 ++ linesB l else [])).length (u8s (Y ++ (if k = 2 then rowB l.length 2 ++ linesB l else []))) ∧ Chg (fun _ => False) w W)
      case first =>
        by_cases hk2 : k = 2
        · have hkb : (k == 2) = true := beq_iff_eq.2 hk2
          have HK2 := Lib.hid hk2
          have c8 : wc.cell? ⟨w.heap.size, 8, none⟩ = some (.slice A l.length c) := cell_of_heap HPY.out 8
          clear hk2
          go_wp2_with fail
          refine (rrow_some wc (l.length : Int) 2 (by omega) (by omega)).mono ?_
          rintro e w6 ⟨v6, rfl, ho6, hG6⟩
          have hF6 : Chg (fun _ => False) wc w6 := hG6.chg.mono (fun i h1 h2 => by omega)
          obtain ⟨A6, c6, rfl, hc6, hR6⟩ := own_bytes ho6
          have ho6' := own_chg HOY.out hF6 (fun _ _ h => h)
          have hsz6 := hF6.size
          obtain ⟨v7, w7, hr7, ho7, hg7⟩ := append_u8 w6 w.heap.size u5 Y ho6' A6 (rowB (l.length : Int) 2) c6 hR6 (by rw [rowB_length]; omega) (by omega)
          have HR7 := Lib.hid hr7
          have HO7 := Lib.hid ho7
          have HP7 : Hid (PktAt w7 w.heap.size k V tx (.slice A l.length c)) := Lib.hid (grown_keep hg7 (HPY.out.keep hF6 (fun h => h)) (own_ne ho6' (HPY.out.keep hF6 (fun h => h)) (by decide)))
          have HC7 := Lib.hid ((HCY.out.trans hF6).grown hg7 (fun q hq => .inr (own_block ho6' hq)))
          clear ho6 hG6 hF6 hR6 ho6' hr7 ho7 hg7 c8 c0 hsz6
          go_wp2_with (at_builtin; refine wpList_append_guarded rfl _ _ 22 22 rfl u5 (.slice A6 (rowB (l.length : Int) 2).length c6) rfl rfl v7 w7 HR7.out ?_)
          go_wp2_with fail
          go_loopw [5, 9] (fun s5 i wr => ∃ j : Nat, j ≤ l.length ∧ i = .int .i64 j ∧ wr.ownsRow w.heap.size 5 1 s5 (Y ++ rowB l.length 2 ++ linesB (l.take j)).length (u8s (Y ++ rowB l.length 2 ++ linesB (l.take j))) ∧ PktAt wr w.heap.size k V tx (.slice A l.length c) ∧ Chg (fun _ => False) w wr) (fun _ i _ => l.length - (intOf i).toNat)
          case atStart => exact ⟨0, by omega, rfl, by simpa [linesB] using HO7.out, HP7.out, HC7.out⟩
          case round =>
            obtain ⟨j, hj, rfl, hO, hP, hC⟩ := hrel
            have HOJ := Lib.hid hO
            have HPJ := Lib.hid hP
            have HCJ := Lib.hid hC
            have hszJ := hC.size
            have c8 : wr.cell? ⟨w.heap.size, 8, none⟩ = some (.slice A l.length c) := cell_of_heap hP 8
            clear hO hP hC
            by_cases hlt : j < l.length
            · obtain ⟨g, p, rfl, hcs⟩ := lns_cells (HL.out.chg HCJ.out) (by omega)
              have hcj := hcs j hlt
              have HST := Lib.hid (linesB_take l j hlt)
              have hx : (l.getD j ByteArray.empty).size ≤ sizes l := size_le_sizes (by simp [List.getD, hlt])
              have hll := linesB_length (l.take j)
              have hs3 := sizes_le l j
              have hl3 : (l.take j).length ≤ 1000 := Nat.le_trans (List.length_take_le _ _) (by omega)
              clear hcs
              obtain ⟨x, hxe⟩ : ∃ x, l.getD j ByteArray.empty = x := ⟨_, rfl⟩
              rw [hxe] at hcj HST hx
              have HXE := Lib.hid hxe
              clear hxe
              generalize linesB (l.take j) = Z at *
              have hZ : Z.length ≤ 70000 := by omega
              clear hll hs3 hl3
              go_upto_region 18 with fail
              have hj0 : (0 : Int) ≤ (j : Int) := by omega
              have hjl : (j : Int) < (l.length : Int) := by omega
              have cT : wr.drew.cell? ⟨w.heap.size, 8, none⟩ = some (.slice (some ⟨g, p, none⟩) l.length c) ∧ wr.drew.cell? ⟨g, p + j, none⟩ = some (.string x) := ⟨c8, hcj⟩
              obtain ⟨i0, hi, hz0, hz1, hz2⟩ := info_parts info5
              have hd := (Chg.refl (fun _ => False) wr).drew
              refine region_lone (fun W' => W'.cell? ⟨w.heap.size, 8, none⟩ = some (.slice (some ⟨g, p, none⟩) l.length c) ∧ W'.cell? ⟨g, p + j, none⟩ = some (.string x)) [] (by kernel_rfl) ?_
              refine take_one 0 cT rfl (by kernel_rfl) rfl ?_
              apply Exists.intro
              refine And.intro (fun W' hS' => ?y0) (And.intro (fun _ _ _ h => h) ?_)
              case y0 => obtain ⟨d0, d1⟩ := hS'; go_simp; rfl
              refine take_one 1 cT rfl (by kernel_rfl) rfl ?_
              apply Exists.intro
              refine And.intro (fun W' hS' => ?y1) (And.intro (fun _ _ _ h => h) ?_)
              case y1 => obtain ⟨d0, d1⟩ := hS'; go_simp; rfl
              refine take_one 2 cT rfl (by kernel_rfl) rfl ?_
              apply Exists.intro
              refine And.intro (fun W' hS' => ?y2) (And.intro (fun _ _ _ h => h) ?_)
              case y2 => obtain ⟨d0, d1⟩ := hS'; go_simp; rfl
              refine take_one 3 cT rfl (by kernel_rfl) rfl ?_
              apply Exists.intro
              refine And.intro (fun W' hS' => ?y3) (And.intro (fun _ _ _ h => h) ?_)
              case y3 => obtain ⟨d0, d1⟩ := hS'; go_simp; rfl
              refine take_one 4 cT rfl (by kernel_rfl) rfl ?_
              apply Exists.intro
              refine And.intro (fun W' hS' => ?y4) (And.intro (fun _ _ _ h => h) ?_)
              case y4 => obtain ⟨d0, d1⟩ := hS'; go_simp; rfl
              refine take_one 5 cT rfl (by kernel_rfl) rfl ?_
              apply Exists.intro
              refine And.intro (fun W' hS' => ?y5) (And.intro (fun _ _ _ h => h) ?_)
              case y5 => obtain ⟨d0, d1⟩ := hS'; go_simp; rfl
              refine take_one 6 cT rfl (by kernel_rfl) rfl ?_
              apply Exists.intro
              refine And.intro (fun W' hS' => ?y6) (And.intro (fun _ _ _ h => h) ?_)
              case y6 => obtain ⟨d0, d1⟩ := hS'; go_simp; rfl
              refine take_one 9 cT rfl (by kernel_rfl) rfl ?_
              apply Exists.intro
              refine And.intro (fun W' hS' => ?y9) (And.intro (fun _ _ _ h => h) ?_)
              case y9 => obtain ⟨d0, d1⟩ := hS'; go_simp; rfl
              refine take_one 10 cT rfl (by kernel_rfl) rfl ?_
              apply Exists.intro
              refine And.intro (fun W' hS' => ?y10) (And.intro (fun _ _ _ h => h) ?_)
              case y10 => obtain ⟨d0, d1⟩ := hS'; go_simp; rfl
              refine take_one 11 cT rfl (by kernel_rfl) rfl ?_
              apply Exists.intro
              refine And.intro (fun W' hS' => ?y11) (And.intro (fun _ _ _ h => h) ?_)
              case y11 => obtain ⟨d0, d1⟩ := hS'; go_simp; rfl
              refine take_one 12 cT rfl (by kernel_rfl) rfl ?_
              apply Exists.intro
              refine And.intro (fun W' hS' => ?y12) (And.intro (fun _ _ _ h => h) ?_)
              case y12 => obtain ⟨d0, d1⟩ := hS'; go_simp; rfl
              refine take_one 13 cT rfl (by kernel_rfl) rfl ?_
              apply Exists.intro
              refine And.intro (fun W' hS' => ?y13) (And.intro (fun _ _ _ h => h) ?_)
              case y13 => obtain ⟨d0, d1⟩ := hS'; go_simp; rfl
              refine only_one 7 rfl (by kernel_rfl) rfl ?_
              go_simp
              refine (rrow_some _ (x.size : Int) 3 (by omega) (by omega)).mono ?_
              rintro e w6 ⟨v6, rfl, ho6, hG6⟩
              have hF6 : Chg (fun _ => False) wr w6 := hd.trans (hG6.chg.mono (fun i h1 h2 => by simp at *; omega))
              obtain ⟨A6, c6, rfl, hc6, hR6⟩ := own_bytes ho6
              have ho6' := own_chg HOJ.out hF6 (fun _ _ h => h)
              have hP6 : PktAt w6 w.heap.size k V tx (.slice (some ⟨g, p, none⟩) l.length c) := HPJ.out.keep hF6 (fun h => h)
              have hsz6 := hF6.size
              obtain ⟨v7, w7, hr7, ho7, hg7⟩ := append_u8 w6 w.heap.size u5 (Y ++ rowB l.length 2 ++ Z) ho6' A6 (rowB (x.size : Int) 3) c6 hR6 (by simp only [List.length_append, rowB_length]; omega) (by omega)
              have hP7 : PktAt w7 w.heap.size k V tx (.slice (some ⟨g, p, none⟩) l.length c) := grown_keep hg7 hP6 (own_ne ho6' hP6 (by decide))
              have hC7 := (HCJ.out.trans hF6).grown hg7 (fun q hq => .inr (own_block ho6' hq))
              have hS6 : w6.cell? ⟨w.heap.size, 8, none⟩ = some (.slice (some ⟨g, p, none⟩) l.length c) ∧ w6.cell? ⟨g, p + j, none⟩ = some (.string x) := ⟨cell_of_heap hP6 8, hF6.cell hcj (fun h => h)⟩
              have hS7 : w7.cell? ⟨w.heap.size, 8, none⟩ = some (.slice (some ⟨g, p, none⟩) l.length c) ∧ w7.cell? ⟨g, p + j, none⟩ = some (.string x) := ⟨cell_of_heap hP7 8, lns_at (HL.out.chg hC7) hlt HXE.out⟩
              refine ⟨hS6, ?_⟩
              refine only_one 8 rfl (by kernel_rfl) rfl ?_
              refine Lib.wp_append_run _ (.tmp 79) (.tmp 86) 22 22 rfl u5 (.slice A6 (rowB (x.size : Int) 3).length c6) rfl rfl v7 w7 hr7 ?_
              refine ⟨fun _ => hS7, ?_⟩
              refine only_one 14 rfl (by kernel_rfl) rfl ?_
              refine wp_append_text (.tmp 87) (.tmp 92) 22 9 rfl w.heap.size 5 i0 Tryd.underlying22 Tryd.underlying9 hi hz0 hz1 hz2 v7 _ _ rfl ho7 x rfl ?_ ?_ ?_ ?_
              · unfold maxLen; simp only [List.length_append, rowB_length]; omega
              · simp only [List.length_append, rowB_length]; omega
              · have := hC7.size; omega
              intro v8 w8 ho8 hg8
              have hP8 : PktAt w8 w.heap.size k V tx (.slice (some ⟨g, p, none⟩) l.length c) := grown_keep hg8 hP7 (own_ne ho7 hP7 (by decide))
              have hC8 := hC7.grown hg8 (fun q hq => .inr (own_block ho7 hq))
              have hS8 : w8.cell? ⟨w.heap.size, 8, none⟩ = some (.slice (some ⟨g, p, none⟩) l.length c) ∧ w8.cell? ⟨g, p + j, none⟩ = some (.string x) := ⟨cell_of_heap hP8 8, lns_at (HL.out.chg hC8) hlt HXE.out⟩
              refine ⟨fun _ => hS8, ?_⟩
              refine take_one 15 hS8 rfl (by kernel_rfl) rfl ?_
              apply Exists.intro
              refine And.intro (fun W' hS' => ?y15) (And.intro (fun _ _ _ h => h) ?_)
              case y15 => obtain ⟨d0, d1⟩ := hS'; go_simp; rfl
              refine all_done (by kernel_rfl) ?_ _
              have HO9 : Hid (w8.ownsRow w.heap.size 5 1 v8 (Y ++ rowB l.length 2 ++ linesB (l.take (j + 1))).length (u8s (Y ++ rowB l.length 2 ++ linesB (l.take (j + 1))))) := Lib.hid (by
                rw [HST.out]
                have e : Y ++ rowB l.length 2 ++ (Z ++ textB x) = ((Y ++ rowB l.length 2 ++ Z) ++ rowB x.size 3) ++ bytesOf x := by rw [textB]; simp only [List.append_assoc]
                rw [e, u8s_append, List.length_append, bytesOf_length, ← strCells_bytes]
                exact ho8)
              have HP9 := Lib.hid hP8
              have HC9 := Lib.hid hC8
              clear cT hd c8 hcj hP8 hC8 ho8
              go_wp2_with fail
              go_roundw
              case rel => exact ⟨j + 1, by omega, by go_num, HO9.out, HP9.out, HC9.out⟩
              case measure => simp [intOf] <;> omega
            · obtain rfl : j = l.length := by omega
              rw [List.take_length] at HOJ
              go_wp2_with fail
              go_meet
              exact ⟨by rw [if_pos HK2.out, ← List.append_assoc]; exact HOJ.out, HCJ.out⟩
        · have hkb : (k == 2) = false := beq_eq_false_iff_ne.2 hk2
          have HK2 := Lib.hid hk2
          clear hk2
          go_wp2_with fail
          go_meet
          exact ⟨by rw [if_neg HK2.out, List.append_nil]; exact HOY.out, HCY.out⟩
      case rest =>
        obtain ⟨hO, hC⟩ := hcut
        have HO := Lib.hid hO
        have HC := Lib.hid hC
        clear hO hC HOY HPY HCY hszY c0
        go_wp2_with fail
        go_ret2
        exact ⟨_, rfl, by rw [HPB.out]; exact HO.out, HC.out⟩
end Go.Proofs.YteiedafdakffeaaDoor
