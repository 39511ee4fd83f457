/- Copy. -/
import Derived.Test.YtkonpkejddcegaaDoorSaid1
namespace Go.Proofs.YtkonpkejddcegaaDoor
set_option linter.unusedVariables false
set_option linter.unusedSimpArgs false
open Go Go.RowKit Go.Proofs Go.Shelf
set_option maxHeartbeats 2000000 in
theorem copy_some {w : World} {b bu bd cu cd n : Nat} {U D : Nat → Nat → Bool} (h : IsOrd w b bu bd cu cd n U D) :
    Calls Tryd.prog 17 #[optr b] w fun e w' => ∃ b' bu' bd' cu' cd', e = .returned (optr b') ∧ w.heap.size ≤ b' ∧ w.heap.size ≤ bu' ∧ w.heap.size ≤ bd' ∧ IsOrd w' b' bu' bd' cu' cd' n U D ∧ Chg (fun _ => False) w w' := by
  have hM := many_some h
  have n1 := h.n1
  have n16 := h.n16
  have hl := h.lt
  have e0 := h.up
  have e1 := h.dn
  have H := Lib.hid h
  clear h
  unfold optr at *
  go_enter Tryd.func17, Tryd.ntmps17
  go_wp2_with fail
  refine hM.mono ?_
  rintro e w' ⟨rfl, rfl⟩
  clear hM
  go_wp2_with fail
  have hS : w.drew.cell? ⟨b, 0, none⟩ = some (.slice (some ⟨bu, 0, none⟩) n cu) ∧ w.drew.cell? ⟨b, 1, none⟩ = some (.slice (some ⟨bd, 0, none⟩) n cd) := ⟨e0, e1⟩
  refine region_lone (fun W' => W'.cell? ⟨b, 0, none⟩ = some (.slice (some ⟨bu, 0, none⟩) n cu) ∧ W'.cell? ⟨b, 1, none⟩ = some (.slice (some ⟨bd, 0, none⟩) n cd)) [] (by kernel_rfl) ?_
  refine take_one 0 hS rfl (by kernel_rfl) rfl ?_
  apply Exists.intro
  refine And.intro (fun W' hS' => ?y0) (And.intro (fun _ _ _ h => h) ?_)
  case y0 => obtain ⟨d1, d2⟩ := hS'; go_simp; rfl
  refine take_one 1 hS rfl (by kernel_rfl) rfl ?_
  apply Exists.intro
  refine And.intro (fun W' hS' => ?y1) (And.intro (fun _ _ _ h => h) ?_)
  case y1 => obtain ⟨d1, d2⟩ := hS'; go_simp; rfl
  refine take_one 2 hS rfl (by kernel_rfl) rfl ?_
  apply Exists.intro
  refine And.intro (fun W' hS' => ?y2) (And.intro (fun _ _ _ h => h) ?_)
  case y2 => obtain ⟨d1, d2⟩ := hS'; go_simp; rfl
  refine take_one 3 hS rfl (by kernel_rfl) rfl ?_
  apply Exists.intro
  refine And.intro (fun W' hS' => ?y3) (And.intro (fun _ _ _ h => h) ?_)
  case y3 => obtain ⟨d1, d2⟩ := hS'; go_simp; rfl
  refine take_one 5 hS rfl (by kernel_rfl) rfl ?_
  apply Exists.intro
  refine And.intro (fun W' hS' => ?y5) (And.intro (fun _ _ _ h => h) ?_)
  case y5 => obtain ⟨d1, d2⟩ := hS'; go_simp; rfl
  refine take_one 6 hS rfl (by kernel_rfl) rfl ?_
  apply Exists.intro
  refine And.intro (fun W' hS' => ?y6) (And.intro (fun _ _ _ h => h) ?_)
  case y6 => obtain ⟨d1, d2⟩ := hS'; go_simp; rfl
  refine take_one 7 hS rfl (by kernel_rfl) rfl ?_
  apply Exists.intro
  refine And.intro (fun W' hS' => ?y7) (And.intro (fun _ _ _ h => h) ?_)
  case y7 => obtain ⟨d1, d2⟩ := hS'; go_simp; rfl
  refine take_one 8 hS rfl (by kernel_rfl) rfl ?_
  apply Exists.intro
  refine And.intro (fun W' hS' => ?y8) (And.intro (fun _ _ _ h => h) ?_)
  case y8 => obtain ⟨d1, d2⟩ := hS'; go_simp; rfl
  refine only_one 4 rfl (by kernel_rfl) rfl ?_
  go_simp
  refine (clone_sets w.drew bu n cu ((List.range n).map fun j => ((msk n (U j) : Nat) : Int)) (by simp) (by omega) (fun j hj => ?_)).mono ?_
  · have hj' : j < n := by simpa using hj
    have := H.out.hu j hj'
    simpa [List.getD, hj'] using this
  rintro e w3 ⟨v1, rfl, ho1, hn1, hB1⟩
  have hg1 := fun k => own_block ho1 (k := k)
  rcases ho1.2 with ⟨rfl, h0⟩ | ⟨g1, cap1, cur1, rfl, _, hh1, _, _, _, ht1⟩
  · exact absurd rfl hn1
  have hC1 : Chg (fun _ => False) w w3 := ((Chg.refl _ w).drew).trans (Below.chg hB1 (Nat.le_refl _) _)
  have hS3 : w3.cell? ⟨b, 0, none⟩ = some (.slice (some ⟨bu, 0, none⟩) n cu) ∧ w3.cell? ⟨b, 1, none⟩ = some (.slice (some ⟨bd, 0, none⟩) n cd) := ⟨hC1.cell e0 (fun h => h), hC1.cell e1 (fun h => h)⟩
  refine ⟨hS3, ?_⟩
  refine only_one 9 rfl (by kernel_rfl) rfl ?_
  go_simp
  refine (clone_sets w3 bd n cd ((List.range n).map fun j => ((msk n (D j) : Nat) : Int)) (by simp) (by omega) (fun j hj => ?_)).mono ?_
  · have hj' : j < n := by simpa using hj
    have := hC1.cell (H.out.hd j hj') (fun h => h)
    simpa [List.getD, hj'] using this
  rintro e w4 ⟨v2, rfl, ho2, hn2, hB2⟩
  have hg2 := fun k => own_block ho2 (k := k)
  rcases ho2.2 with ⟨rfl, h0⟩ | ⟨g2, cap2, cur2, rfl, _, hh2, _, _, _, ht2⟩
  · exact absurd rfl hn2
  have hC2 : Chg (fun _ => False) w w4 := hC1.trans (Below.chg hB2 (Nat.le_refl _) _)
  have hS4 : w4.cell? ⟨b, 0, none⟩ = some (.slice (some ⟨bu, 0, none⟩) n cu) ∧ w4.cell? ⟨b, 1, none⟩ = some (.slice (some ⟨bd, 0, none⟩) n cd) := ⟨hC2.cell e0 (fun h => h), hC2.cell e1 (fun h => h)⟩
  refine ⟨hS4, ?_⟩
  go_simp
  refine take_one 10 hS4 rfl (by kernel_rfl) rfl ?_
  apply Exists.intro
  refine And.intro (fun W' hS' => ?y10) (And.intro (fun _ _ _ h => h) ?_)
  case y10 => obtain ⟨d1, d2⟩ := hS'; go_simp; rfl
  refine only_one 11 rfl (by kernel_rfl) rfl ?_
  go_simp
  have hS5 := And.intro (cell_alloc hS4.1 (.cells #[.slice (some ⟨g1, 0, none⟩) n cap1, .slice (some ⟨g2, 0, none⟩) n cap2] 46)) (cell_alloc hS4.2 (.cells #[.slice (some ⟨g1, 0, none⟩) n cap1, .slice (some ⟨g2, 0, none⟩) n cap2] 46))
  refine ⟨hS5, ?_⟩
  refine only_one 12 rfl (by kernel_rfl) rfl ?_
  go_simp
  refine all_done (by kernel_rfl) ?_ _
  clear hS hS3 hS4 hS5
  go_wp2
  go_ret
  have k1 : w.heap.size ≤ g1 := hg1 g1 (by simp [Value.ownBlock])
  have z1 := hC1.size
  have z2 := hC2.size
  have l1 := lt_of_heap hh1
  have hh1' := Below.chg hB2 (Nat.le_refl _) (fun _ => False) |>.keep hh1 (fun h => h)
  have row : ∀ (cur : Array Value) (U : Nat → Nat → Bool), cur.toList.take (n * 1) = List.map (Value.int .u32) (List.map (fun j => ((msk n (U j) : Nat) : Int)) (List.range n)) → ∀ i, i < n → cur[i]? = some (.int .u32 (msk n (U i) : Nat)) := by
    intro cur U ht i hi
    have h1 : (cur.toList.take (n * 1))[i]? = cur[i]? := by
      rw [List.getElem?_take_of_lt (by omega)]
      simp
    rw [← h1, ht]
    simp [hi]
  refine ⟨w4.heap.size, g1, g2, cap1, cap2, rfl, by omega, k1, by omega, ⟨heap_new _ _, ⟨cur1, heap_alloc hh1', row cur1 U ht1⟩, ⟨cur2, heap_alloc hh2, row cur2 D ht2⟩, n1, n16, ?_, ?_, by omega⟩, hC2.alloc _⟩
  · have := lt_of_heap hh1'; omega
  · have := lt_of_heap hh2; omega
end Go.Proofs.YtkonpkejddcegaaDoor
