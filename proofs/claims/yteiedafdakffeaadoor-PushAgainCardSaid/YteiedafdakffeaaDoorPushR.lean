/- push: Same, Copy. -/
import Derived.Test.YteiedafdakffeaaDoorPushQ
namespace Go.Proofs.YteiedafdakffeaaDoor
set_option linter.unusedVariables false
set_option linter.unusedSimpArgs false
open Go Go.RowKit
open Go.Proofs.YteiedafdakffeaaDoorW.PrintWords (gate_store gate_dst own_move)
def sameN (V V' : Nat → Int) : Bool := sameTo V V' 0 0 6
def sameF (k : Int) (V : Nat → Int) (tx : ByteArray) (l : List ByteArray) (k' : Int) (V' : Nat → Int) (tx' : ByteArray) (l' : List ByteArray) : Bool :=
  (k == k') && (sameN V V' && ((tx.toList == tx'.toList) && decide (l = l')))
theorem sameTo_any (V V' : Nat → Int) (lo fr : Int) (n : Nat) (hn : n ≤ 6) : sameTo V V' lo fr n = sameTo V V' 0 0 n := by
  induction n with
  | zero => rfl
  | succ n ih => rw [sameTo_succ, sameTo_succ, ih (by omega), fieldAt_1 lo fr 0 0 n (by omega)]
def pk (k : Int) (V : Nat → Int) (tx : ByteArray) (s : Value) : Array Value := #[.int .i64 k, .int .i64 (V 1), .int .i64 (V 2), .int .i64 (V 3), .int .i64 (V 4), .int .i64 (V 5), .int .i64 (V 6), .string tx, s]
set_option maxRecDepth 100000 in
set_option maxHeartbeats 4000000 in
theorem same_some (w : World) (k : Int) (V : Nat → Int) (tx : ByteArray) (A : Option Addr) (l : List ByteArray) (c : Nat) (k' : Int) (V' : Nat → Int) (tx' : ByteArray) (A' : Option Addr) (l' : List ByteArray) (c' : Nat)
    (hl : Lns w A l) (hl' : Lns w A' l') (hb : l.length ≤ 9223372036854775807) (hb' : l'.length ≤ 9223372036854775807) :
    Calls Tryd.prog 21 #[.agg #[.int .i64 k, .int .i64 (V 1), .int .i64 (V 2), .int .i64 (V 3), .int .i64 (V 4), .int .i64 (V 5), .int .i64 (V 6), .string tx, .slice A l.length c],
      .agg #[.int .i64 k', .int .i64 (V' 1), .int .i64 (V' 2), .int .i64 (V' 3), .int .i64 (V' 4), .int .i64 (V' 5), .int .i64 (V' 6), .string tx', .slice A' l'.length c']] w fun e w' => e = .returned (.bool (sameF k V tx l k' V' tx' l')) ∧ Chg (fun _ => False) w w' := by
  have hal := ((Chg.refl (fun _ => False) w).alloc (.cells #[.int .i64 k, .int .i64 (V 1), .int .i64 (V 2), .int .i64 (V 3), .int .i64 (V 4), .int .i64 (V 5), .int .i64 (V 6), .string tx, .slice A l.length c] 26)).alloc (.cells #[.int .i64 k', .int .i64 (V' 1), .int .i64 (V' 2), .int .i64 (V' 3), .int .i64 (V' 4), .int .i64 (V' 5), .int .i64 (V' 6), .string tx', .slice A' l'.length c'] 26)
  have hp : PktAt ((w.alloc (.cells #[.int .i64 k, .int .i64 (V 1), .int .i64 (V 2), .int .i64 (V 3), .int .i64 (V 4), .int .i64 (V 5), .int .i64 (V 6), .string tx, .slice A l.length c] 26)).alloc (.cells #[.int .i64 k', .int .i64 (V' 1), .int .i64 (V' 2), .int .i64 (V' 3), .int .i64 (V' 4), .int .i64 (V' 5), .int .i64 (V' 6), .string tx', .slice A' l'.length c'] 26)) w.heap.size k V tx (.slice A l.length c) := heap_alloc (heap_new _ _)
  have hq : PktAt ((w.alloc (.cells #[.int .i64 k, .int .i64 (V 1), .int .i64 (V 2), .int .i64 (V 3), .int .i64 (V 4), .int .i64 (V 5), .int .i64 (V 6), .string tx, .slice A l.length c] 26)).alloc (.cells #[.int .i64 k', .int .i64 (V' 1), .int .i64 (V' 2), .int .i64 (V' 3), .int .i64 (V' 4), .int .i64 (V' 5), .int .i64 (V' 6), .string tx', .slice A' l'.length c'] 26)) (w.heap.size + 1) k' V' tx' (.slice A' l'.length c') := heap_new1 _ _ _
  have hf1 := fields_some _ w.heap.size k (V 1) (V 2) (V 3) (V 4) (V 5) (V 6) (.string tx) (.slice A l.length c) hp
  have HF1 := Lib.hid hf1
  have HP := Lib.hid hp
  have HQ := Lib.hid hq
  have HAL := Lib.hid hal
  have HL := Lib.hid hl
  have HL' := Lib.hid hl'
  clear hf1 hp hq hal hl hl'
  have HF : Hid (sameF k V tx l k' V' tx' l' = ((k == k') && (sameN V V' && ((tx.toList == tx'.toList) && decide (l = l'))))) := Lib.hid rfl
  generalize sameF k V tx l k' V' tx' l' = R at *
  go_enter Tryd.func21, Tryd.ntmps21
  go_wp2_with fail
  refine HF1.out.mono ?_
  rintro e w2 ⟨g, rfl, hgs, hg, hC2⟩
  have HP2 := Lib.hid (HP.out.keep hC2 (fun h => h))
  have hq2 := HQ.out.keep hC2 (fun h => h)
  have hf2 := fields_some w2 (w.heap.size + 1) k' (V' 1) (V' 2) (V' 3) (V' 4) (V' 5) (V' 6) (.string tx') (.slice A' l'.length c') hq2
  have HF2 := Lib.hid hf2
  have HQ2 := Lib.hid hq2
  have HG := Lib.hid hg
  have HC2 := Lib.hid (HAL.out.trans hC2)
  clear HF1 HP HQ hq2 hf2 hg hC2 HAL
  go_wp2_with fail
  refine HF2.out.mono ?_
  rintro e w3 ⟨g', rfl, hgs', hg', hC3⟩
  have HP3 := Lib.hid (HP2.out.keep hC3 (fun h => h))
  have HQ3 := Lib.hid (HQ2.out.keep hC3 (fun h => h))
  have HE := Lib.hid (equal_fields w3 g g' w.heap.size (w.heap.size + 1) (leastOf k) (fromOf k (V 1)) (leastOf k') (fromOf k' (V' 1)) V V' (hC3.keep HG.out (fun h => h)) hg' (fun j h1 h6 => HP3.out.cellN j h1 h6) (fun j h1 h6 => HQ3.out.cellN j h1 h6))
  have HC3 := Lib.hid (HC2.out.trans hC3)
  clear HF2 HP2 HQ2 HG hg' hC3 HC2
  go_wp2_with fail
  refine HE.out.mono ?_
  rintro e w4 ⟨rfl, hC4⟩
  have hp4 := HP3.out.keep hC4 (fun h => h)
  have hq4 := HQ3.out.keep hC4 (fun h => h)
  have c0 : w4.cell? ⟨w.heap.size, 0, none⟩ = some (.int .i64 k) := cell_of_heap hp4 0
  have c7 : w4.cell? ⟨w.heap.size, 7, none⟩ = some (.string tx) := cell_of_heap hp4 7
  have c8 : w4.cell? ⟨w.heap.size, 8, none⟩ = some (.slice A l.length c) := cell_of_heap hp4 8
  have d0 : w4.cell? ⟨w.heap.size + 1, 0, none⟩ = some (.int .i64 k') := cell_of_heap hq4 0
  have d7 : w4.cell? ⟨w.heap.size + 1, 7, none⟩ = some (.string tx') := cell_of_heap hq4 7
  have d8 : w4.cell? ⟨w.heap.size + 1, 8, none⟩ = some (.slice A' l'.length c') := cell_of_heap hq4 8
  have HC4 := Lib.hid (HC3.out.trans hC4)
  have HEQ := Lib.hid (equal_some w4 A A' l l' c c' (HL.out.chg HC4.out) (HL'.out.chg HC4.out) hb hb')
  have HSN : Hid (sameTo V V' (leastOf k) (fromOf k (V 1)) 6 = sameN V V') := Lib.hid (sameTo_any V V' _ _ 6 (Nat.le_refl _))
  clear HE hp4 hq4 hC4 HP3 HQ3 HC3 hb hb'
  rw [HSN.out]
  generalize sameN V V' = sn at *
  generalize decide (l = l') = dl at *
  cases hk : (k == k')
  · have HK : Hid (R = false) := Lib.hid (by rw [HF.out, hk]; rfl)
    go_wp2_with fail
    go_ret
    exact ⟨by rw [HK.out]; rfl, HC4.out⟩
  · cases sn
    · have HK : Hid (R = false) := Lib.hid (by rw [HF.out, Bool.false_and, Bool.and_false])
      go_wp2_with fail
      go_ret
      exact ⟨by rw [HK.out]; rfl, HC4.out⟩
    · cases ht : (tx.toList == tx'.toList)
      · have HK : Hid (R = false) := Lib.hid (by rw [HF.out, ht, Bool.false_and, Bool.and_false, Bool.and_false])
        go_wp2_with fail
        go_ret
        exact ⟨by rw [HK.out]; rfl, HC4.out⟩
      · have HK : Hid (R = dl) := Lib.hid (by rw [HF.out, hk, ht]; rfl)
        go_wp2_with fail
        refine HEQ.out.mono ?_
        rintro e w5 ⟨rfl, hC5⟩
        have HC5 := Lib.hid (HC4.out.trans hC5)
        clear hC5
        go_wp2_with fail
        go_ret
        exact ⟨by rw [HK.out]; rfl, HC5.out⟩
/-! ### Copy -/
theorem clone_some (w : World) (A : Option Addr) (l : List ByteArray) (c : Nat) (hl : Lns w A l) (hb : l.length * 16 ≤ 140737488355328) :
    Calls Tryd.prog 47 #[.slice A l.length c] w fun e w' => ∃ v, e = .returned v ∧ w'.ownsRow w.heap.size 9 1 v l.length (l.map Value.string) ∧ Chg (fun _ => False) w w' := by
  rcases Nat.eq_zero_or_pos l.length with h0 | h0
  · have el : l = [] := List.length_eq_zero_iff.1 h0
    subst el
    cases A with
    | none =>
      refine (Tryd.slices_Clone_string_nil 0 c w).mono ?_
      rintro e w' ⟨rfl, rfl⟩
      exact ⟨_, rfl, World.ownsRow_nil _ _ _ _, Chg.refl _ _⟩
    | some a =>
      refine (Tryd.slices_Clone_string_zero a c w).mono ?_
      rintro e w' ⟨v, rfl, ho, _, hB⟩
      exact ⟨v, rfl, ho, Below.chg hB (Nat.le_refl _) _⟩
  · obtain ⟨g, p, rfl, hc⟩ := lns_cells hl h0
    refine (Tryd.slices_Clone_string g p l.length c l w (Nat.le_refl _) hb hc).mono ?_
    rintro e w' ⟨v, rfl, ho, _, hB⟩
    rw [List.take_length] at ho
    exact ⟨v, rfl, ho, Below.chg hB (Nat.le_refl _) _⟩
theorem own_lower {W : World} {base base' : Nat} {e : TypeId} {size : Nat} {v : Value} {n : Nat} {xs : List Value} (h : W.ownsRow base e size v n xs) (hb : base' ≤ base) : W.ownsRow base' e size v n xs := own_mono h hb
set_option maxRecDepth 100000 in
set_option maxHeartbeats 4000000 in
theorem copy_some (w : World) (k : Int) (V : Nat → Int) (tx : ByteArray) (A : Option Addr) (l : List ByteArray) (c : Nat) (hl : Lns w A l) (hb : l.length * 16 ≤ 140737488355328) :
    Calls Tryd.prog 30 #[.agg (pk k V tx (.slice A l.length c))] w fun e w' => ∃ v, e = .returned (.agg (pk k V tx v)) ∧ w'.ownsRow w.heap.size 9 1 v l.length (l.map Value.string) ∧ Chg (fun _ => False) w w' := by
  have hal := ((Chg.refl (fun _ => False) w).alloc (.cells (pk k V tx (.slice A l.length c)) 26)).alloc (.cells zeroPkt 26)
  have hp : PktAt ((w.alloc (.cells (pk k V tx (.slice A l.length c)) 26)).alloc (.cells zeroPkt 26)) w.heap.size k V tx (.slice A l.length c) := heap_alloc (heap_new _ _)
  have hq : PktAt ((w.alloc (.cells (pk k V tx (.slice A l.length c)) 26)).alloc (.cells zeroPkt 26)) (w.heap.size + 1) 0 zeroV ByteArray.empty (.slice none 0 0) := heap_new1 _ _ _
  have hcl := clone_some ((w.alloc (.cells (pk k V tx (.slice A l.length c)) 26)).alloc (.cells zeroPkt 26)) A l c (hl.chg hal) hb
  have HCL := Lib.hid hcl
  have HP := Lib.hid hp
  have HQ := Lib.hid hq
  have HAL := Lib.hid hal
  clear hcl hp hq hal hl
  unfold pk zeroPkt at *
  go_enter Tryd.func30, Tryd.ntmps30
  go_wp2_with fail
  refine HCL.out.mono ?_
  rintro e w2 ⟨v, rfl, ho, hC2⟩
  obtain ⟨va, vn, vc, rfl⟩ := own_slice ho
  have hp2 := HP.out.keep hC2 (fun h => h)
  have hq2 := HQ.out.keep hC2 (fun h => h)
  have c8 : w2.cell? ⟨w.heap.size, 8, none⟩ = some (.slice A l.length c) := cell_of_heap hp2 8
  have f8 := hp2.free 8
  have hst := (Chg.refl (fun k => k = w.heap.size) w2).setCell (p := ⟨w.heap.size, 8, none⟩) (.inl rfl) (.slice va vn vc)
  have HP3 := Lib.hid (hp2.setL (.slice va vn vc))
  have HQ3 := Lib.hid (hq2.keep hst (by simp))
  have HO3 := Lib.hid (own_move ho (fun q hq => hst.block q (by obtain ⟨c, t, f, hc⟩ := own_cells ho hq; exact lt_of_heap hc) (fun e => by have := own_block ho hq; simp at this; omega)))
  have HC3 := Lib.hid ((HAL.out.trans hC2).trans' hst (fun i h1 h2 => by omega))
  clear HCL HP HQ HAL ho hC2 hp2 hq2 hst
  go_upto_region 2 with fail
  clear c8 f8
  generalize w2.setCell ⟨w.heap.size, 8, none⟩ (.slice va vn vc) = w3 at *
  go_wp2_with (first | ((with_reducible refine gate_dst (N := 7) rfl ?_); refine wpList_load_row rfl 26 (.tmp 1) rfl w.heap.size rfl 26 _ (0, 0) _ HP3.out Tryd.underlying26 rfl infoP ?_) | ((with_reducible refine gate_store (t := 26) (p := 2) (v := .tmp 7) rfl ?_); refine wpList_store_row rfl 26 (.tmp 2) (.tmp 7) rfl (w.heap.size + 1) _ rfl rfl 26 _ HQ3.out infoP rfl (by simp [Value.oneCell']) ?_))
  go_wp2_with fail
  refine bodyPost_ret (results_cell_row rfl _ _ (w.heap.size + 1) 26 _ (0, 0) _ rfl (setRow_heap _ _ _ _ _ _ HQ3.out) Tryd.underlying26 rfl infoP) rfl ?_
  have h9 := HC3.out
  refine ⟨_, rfl, ?_, ⟨h9.os, h9.tape, h9.output, by rw [size_setRow]; exact h9.size, fun q hq _ => (setRow_other _ _ _ _ (by omega)).trans (h9.block q hq (fun h => h))⟩⟩
  refine own_lower (own_move HO3.out (fun q hq => setRow_other _ _ _ _ (by have := own_block HO3.out hq; simp at this; omega))) (by simp; omega)
end Go.Proofs.YteiedafdakffeaaDoor
