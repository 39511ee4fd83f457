/- push: the document's copies, and a number's row of bytes. -/
import Derived.Test.YteiedafdakffeaaDoorPuS
namespace Go.Proofs.YteiedafdakffeaaDoor
set_option linter.unusedVariables false
set_option linter.unusedSimpArgs false
open Go Go.RowKit Go.Proofs
open Go.Proofs.YteiedafdakffeaaDoorW.PrintWords (Kd ReadsInt ReadsOf gate_store gate_dst own_move)
set_option maxRecDepth 100000 in
set_option maxHeartbeats 4000000 in
theorem copyT_some (w : World) (A : Option Addr) (l : List ByteArray) (c : Nat) (hl : Lns w A l) (hb : l.length * 16 ≤ 140737488355328) :
    Calls Tryd.prog 50 #[.slice A l.length c] w fun e w' => ∃ v, e = .returned v ∧ w'.ownsRow w.heap.size 9 1 v l.length (l.map Value.string) ∧ Chg (fun _ => False) w w' := by
  obtain ⟨v', w', hr, ho, hg⟩ := append_lns w w.heap.size (.slice none 0 0) [] (World.ownsRow_nil _ _ _ _) A l c hl (by simpa using hb) (Nat.le_refl _)
  have HC := Lib.hid ((Chg.refl (fun _ => False) w).grown hg (fun k hk => by cases hk))
  have HO : Hid (w'.ownsRow w.heap.size 9 1 v' l.length (l.map Value.string)) := Lib.hid (by simpa using ho)
  have HR := Lib.hid hr
  clear hg ho hl hr
  go_enter Tryd.func50, Tryd.ntmps50
  go_wp2_with (at_builtin; refine wpList_append_guarded rfl _ _ 24 24 rfl (.slice none 0 0) (.slice A l.length c) rfl rfl v' w' HR.out ?_)
  go_wp2_with fail
  go_ret
  exact ⟨_, rfl, HO.out, HC.out⟩
set_option maxRecDepth 100000 in
set_option maxHeartbeats 4000000 in
theorem rcopy_some (w : World) (k : Int) (V : Nat → Int) (tx : ByteArray) (A : Option Addr) (l : List ByteArray) (c : Nat) (hl : Lns w A l) (hb : l.length * 16 ≤ 140737488355328) :
    Calls Tryd.prog 32 #[.agg (pk k V tx (.slice A l.length c))] w fun e w' => ∃ v, e = .returned (.agg (pk k V tx v)) ∧ w'.ownsRow w.heap.size 9 1 v l.length (l.map Value.string) ∧ Chg (fun _ => False) w w' := by
  have hal := ((Chg.refl (fun _ => False) w).alloc (.cells (pk k V tx (.slice A l.length c)) 26)).alloc (.cells zeroPkt 26)
  have hp : PktAt ((w.alloc (.cells (pk k V tx (.slice A l.length c)) 26)).alloc (.cells zeroPkt 26)) w.heap.size k V tx (.slice A l.length c) := heap_alloc (heap_new _ _)
  have hq : PktAt ((w.alloc (.cells (pk k V tx (.slice A l.length c)) 26)).alloc (.cells zeroPkt 26)) (w.heap.size + 1) 0 zeroV ByteArray.empty (.slice none 0 0) := heap_new1 _ _ _
  have hcl := copyT_some ((w.alloc (.cells (pk k V tx (.slice A l.length c)) 26)).alloc (.cells zeroPkt 26)) A l c (hl.chg hal) hb
  have HCL := Lib.hid hcl
  have HP := Lib.hid hp
  have HQ := Lib.hid hq
  have HAL := Lib.hid hal
  clear hcl hp hq hal hl
  unfold pk zeroPkt at *
  go_enter Tryd.func32, Tryd.ntmps32
  go_wp2_with fail
  refine HCL.out.mono ?_
  rintro e w2 ⟨v, rfl, ho, hC2⟩
  obtain ⟨va, vn, vc, rfl⟩ := own_slice ho
  have hp2 := HP.out.keep hC2 (fun h => h)
  have hq2 := HQ.out.keep hC2 (fun h => h)
  have c8 : w2.cell? ⟨w.heap.size, 8, none⟩ = some (.slice A l.length c) := cell_of_heap hp2 8
  have f8 := hp2.free 8
  have hst := (Chg.refl (fun k => k = w.heap.size) w2).setCell (p := ⟨w.heap.size, 8, none⟩) (.inl rfl) (.slice va vn vc)
  have HP3 := Lib.hid (hp2.setL (.slice va vn vc))
  have HQ3 := Lib.hid (hq2.keep hst (by simp))
  have HO3 := Lib.hid (own_move ho (fun q hq => hst.block q (by obtain ⟨c, t, f, hc⟩ := own_cells ho hq; exact lt_of_heap hc) (fun e => by have := own_block ho hq; simp at this; omega)))
  have HC3 := Lib.hid ((HAL.out.trans hC2).trans' hst (fun i h1 h2 => by omega))
  clear HCL HP HQ HAL ho hC2 hp2 hq2 hst
  go_upto_region 2 with fail
  clear c8 f8
  generalize w2.setCell ⟨w.heap.size, 8, none⟩ (.slice va vn vc) = w3 at *
  go_wp2_with (first | ((with_reducible refine gate_dst (N := 7) rfl ?_); refine wpList_load_row rfl 26 (.tmp 1) rfl w.heap.size rfl 26 _ (0, 0) _ HP3.out Tryd.underlying26 rfl infoP ?_) | ((with_reducible refine gate_store (t := 26) (p := 2) (v := .tmp 7) rfl ?_); refine wpList_store_row rfl 26 (.tmp 2) (.tmp 7) rfl (w.heap.size + 1) _ rfl rfl 26 _ HQ3.out infoP rfl (by simp [Value.oneCell']) ?_))
  go_wp2_with fail
  refine bodyPost_ret (results_cell_row rfl _ _ (w.heap.size + 1) 26 _ (0, 0) _ rfl (setRow_heap _ _ _ _ _ _ HQ3.out) Tryd.underlying26 rfl infoP) rfl ?_
  have h9 := HC3.out
  refine ⟨_, rfl, ?_, ⟨h9.os, h9.tape, h9.output, by rw [size_setRow]; exact h9.size, fun q hq _ => (setRow_other _ _ _ _ (by omega)).trans (h9.block q hq (fun h => h))⟩⟩
  refine own_lower (own_move HO3.out (fun q hq => setRow_other _ _ _ _ (by have := own_block HO3.out hq; simp at this; omega))) (by simp; omega)
set_option maxRecDepth 100000 in
set_option maxHeartbeats 4000000 in
theorem rrow_some (w : World) (n : Int) (size : Nat) (hs1 : 1 ≤ size) (hs7 : size ≤ 7) :
    Calls Tryd.prog 65 #[.int .i64 n, .int .i64 size] w fun e w' => ∃ v', e = .returned v' ∧ w'.ownsRow w.heap.size 5 1 v' (rowB n size).length (u8s (rowB n size)) ∧ Grow w.heap.size w w' := by
  obtain ⟨i0, hi, hz0, hz1, hz2⟩ := info_parts info5
  go_enter Tryd.func65, Tryd.ntmps65
  go_wp2_with fail
  rw [show ((size : Int) - 1) = ((size - 1 : Nat) : Int) by omega]
  go_loopw [5, 6] (fun s5 i wr => ∃ k : Nat, k ≤ size ∧ i = .int .i64 ((size : Int) - 1 - k) ∧ wr.ownsRow w.heap.size 5 1 s5 ((rowB n size).take k).length (u8s ((rowB n size).take k)) ∧ Grow w.heap.size w wr) (fun _ i _ => (intOf i + 1).toNat)
  case atStart => exact ⟨0, by omega, by rw [show ((size - 1 : Nat) : Int) = (size : Int) - 1 - ((0 : Nat) : Int) by omega], World.ownsRow_nil _ _ _ _, Grow.refl _ _⟩
  case round =>
    obtain ⟨k, hk, rfl, ho, hG⟩ := hrel
    have hlen : ((rowB n size).take k).length = k := by rw [List.length_take, rowB_length]; omega
    by_cases hlt : k < size
    · have hsz := hG.chg.size
      obtain ⟨m, hm⟩ : ∃ m : Nat, m = size - 1 - k := ⟨_, rfl⟩
      have hmI : (size : Int) - 1 - (k : Int) = (m : Int) := by omega
      have hm6 : m ≤ 6 := by omega
      have HRT := Lib.hid (rowB_take n size k hlt)
      rw [hmI]
      rw [← hm] at HRT
      have HM := Lib.hid hm
      clear hm hmI
      go_wp2_with (at_builtin; refine wpList_append_own_at _ rfl _ _ 22 rfl w.heap.size 5 i0 (.int .u8 0) 1 1 Tryd.underlying22 hi hz0 hz1 hz2 rfl (by decide) _ _ _ rfl (ho.alloc _) ⟨wr.heap.size, 0, none⟩ 1 1 [.int .u8 (byteAt n m)] rfl rfl ?c1 ?c2 ?c3 ?c4 ?c5 ?_)
      case c1 => exact cell_one_new _ _ _
      case c2 => simp [Value.oneCell']
      case c3 => unfold maxLen; rw [hlen]; omega
      case c4 => rw [hlen]; omega
      case c5 => simp; omega
      intro v' w1 hown' hgrow _ hat
      have hG1 : Grow w.heap.size w w1 := (hG.alloc _).grown (ho.alloc _) hgrow
      have HR : Hid (w1.ownsRow w.heap.size 5 1 v' ((rowB n size).take (k + 1)).length (u8s ((rowB n size).take (k + 1)))) := Lib.hid (by
        rw [HRT.out, u8s_append]
        simp only [List.length_append, hlen, List.length_singleton]
        exact hown')
      have HG := Lib.hid hG1
      clear hG hG1 hgrow hown' ho hat
      go_wp2_with fail
      go_roundw
      case rel => exact ⟨k + 1, by omega, by have := HM.out; rw [show ((m : Int) - 1) = (size : Int) - 1 - ((k + 1 : Nat) : Int) by omega], HR.out, HG.out⟩
      case measure => simp [intOf] <;> omega
    · obtain rfl : k = size := by omega
      have hr := rowB_length n k
      have HR : Hid (wr.ownsRow w.heap.size 5 1 u5 (rowB n k).length (u8s (rowB n k))) := Lib.hid (by
        have e : (rowB n k).take k = rowB n k := List.take_of_length_le (by omega)
        rw [e] at ho
        exact ho)
      have HG := Lib.hid hG
      clear hG ho hlen hr
      rw [show (k : Int) - 1 - (k : Int) = -1 by omega]
      go_wp2_with fail
      go_ret
      exact ⟨_, rfl, HR.out, HG.out⟩
end Go.Proofs.YteiedafdakffeaaDoor
