/- push: each of the lines. -/
import Derived.Test.YteiedafdakffeaaDoorPushH
namespace Go.Proofs.YteiedafdakffeaaDoor
set_option linter.unusedVariables false
set_option linter.unusedSimpArgs false
open Go Go.RowKit
set_option maxRecDepth 100000 in
set_option maxHeartbeats 4000000 in
theorem contains_lines (w : World) (o c : Nat) (A : Option Addr) (l : List ByteArray) (cap : Nat) (hco : c ≠ o) (hl : LinesAt w o A l) (hbig : l.length ≤ 1000000000000) (hs : sizes l ≤ 4611686018427387904)
    (ho : w.heap[o]? = some (.cells #[.int .i64 0] 3 (0, 0))) (hc : w.cell? ⟨c, 0, none⟩ = some (.func (.func 62) #[] #[.pointer (some ⟨o, 0, none⟩)])) :
    Calls Tryd.prog 75 #[.slice A l.length cap, .func (.func 76) #[] #[.pointer (some ⟨c, 0, none⟩)]] w fun e w' =>
      e = .returned (.bool (!flat l)) ∧ (∃ m, w'.heap[o]? = some (.cells #[.int .i64 m] 3 (0, 0)) ∧ (flat l = true → m = sizes l)) ∧ Chg (fun k => k = o) w w' := by
  have hi := index_lines w o c A l cap hco hl hbig hs ho hc
  clear hl ho hc
  go_enter Tryd.func75, Tryd.ntmps75
  go_wp2_with fail
  refine hi.mono ?_
  rintro e w2 ⟨r, rfl, hr, hm, hC⟩
  have HC := Lib.hid hC
  have HM := Lib.hid hm
  clear hi hC hm
  cases hq : flat l
  · rw [hq] at hr
    go_wp2
    go_ret
    exact ⟨by first | rfl | (rw [hq]; rfl) | (rw [hq, ← hr]; rfl), HM.out, HC.out⟩
  · rw [hq] at hr
    go_wp2
    go_ret
    exact ⟨by first | rfl | (rw [hq]; rfl) | (rw [hq, ← hr]; rfl), HM.out, HC.out⟩
set_option maxRecDepth 100000 in
set_option maxHeartbeats 4000000 in
theorem each_lines (w : World) (o : Nat) (A : Option Addr) (l : List ByteArray) (cap : Nat) (hl : LinesAt w o A l) (hbig : l.length ≤ 1000000000000) (hs : sizes l ≤ 4611686018427387904)
    (ho : w.heap[o]? = some (.cells #[.int .i64 0] 3 (0, 0))) :
    Calls Tryd.prog 61 #[.slice A l.length cap, .func (.func 62) #[] #[.pointer (some ⟨o, 0, none⟩)]] w fun e w' =>
      e = .returned (.bool (flat l)) ∧ (∃ m, w'.heap[o]? = some (.cells #[.int .i64 m] 3 (0, 0)) ∧ (flat l = true → m = sizes l)) ∧ Chg (fun k => k = o) w w' := by
  have hlt := lt_of_heap ho
  have hA := (Chg.refl (fun _ => False) w).alloc (.cells #[.func (.func 62) #[] #[.pointer (some ⟨o, 0, none⟩)]] 96)
  have hi := contains_lines (w.alloc (.cells #[.func (.func 62) #[] #[.pointer (some ⟨o, 0, none⟩)]] 96)) o w.heap.size A l cap (by omega) (fun i h => by
    obtain ⟨g, p, e, h1, h2⟩ := hl i h
    exact ⟨g, p, e, h1, hA.cell h2 (fun h => h)⟩) hbig hs (hA.keep ho (fun h => h)) (cell_of_heap (heap_alloc_new w _) 0)
  have HI := Lib.hid hi
  have HA := Lib.hid (hA.mono (S' := fun k => k = o) (fun _ _ h => h.elim))
  clear hl ho hi hA
  go_enter Tryd.func61, Tryd.ntmps61
  go_wp2_with fail
  refine HI.out.mono ?_
  rintro e w2 ⟨rfl, hm, hC⟩
  have HC := Lib.hid hC
  have HM := Lib.hid hm
  clear HI hC hm
  cases hq : flat l
  · go_wp2
    go_ret
    exact ⟨by first | rfl | (rw [hq]; rfl), HM.out, HA.out.trans HC.out⟩
  · go_wp2
    go_ret
    exact ⟨by first | rfl | (rw [hq]; rfl), HM.out, HA.out.trans HC.out⟩
end Go.Proofs.YteiedafdakffeaaDoor
