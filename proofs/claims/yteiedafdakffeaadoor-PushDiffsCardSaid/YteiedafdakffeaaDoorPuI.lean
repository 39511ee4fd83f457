/- push: made: what a seed tells, is a packet that may be. -/
import Derived.Test.YteiedafdakffeaaDoorPuH
namespace Go.Proofs.YteiedafdakffeaaDoor
set_option linter.unusedVariables false
set_option linter.unusedSimpArgs false
open Go Go.RowKit Go.Proofs
open Go.Proofs.YteiedafdakffeaaDoorW.PrintWords (Kd ReadsInt ReadsOf own_move print_drop_of print_take_of gate_dst gate_store bytesOf bytesOf_length)
attribute [local go_sem] Go.Proofs.YteiedafdakffeaaDoorW.PrintMore.min2_int Go.Proofs.YteiedafdakffeaaDoorW.PrintMore.min_two Go.Proofs.YteiedafdakffeaaDoorW.PrintMore.max2_int Go.Proofs.YteiedafdakffeaaDoorW.PrintMore.max_two
def seedC (kd n0 n1 n2 n3 n4 n5 : Int) (tx : ByteArray) (s : Value) : Array Value := #[.int .i64 kd, .int .i64 n0, .int .i64 n1, .int .i64 n2, .int .i64 n3, .int .i64 n4, .int .i64 n5, .string tx, s]
def I64 (n : Int) : Prop := -9223372036854775808 ≤ n ∧ n ≤ 9223372036854775807
theorem fieldOk_own {own bit v lo hi : Int} (h : (bits .and .i64 own bit != 0) = true) (h1 : lo ≤ v) (h2 : v ≤ hi) : fieldOk own bit v lo hi = true := by
  unfold fieldOk
  rw [if_neg (bne_iff_ne.1 h)]
  simp [h1, h2]
theorem fieldOk_not {own bit v lo hi : Int} (h : (bits .and .i64 own bit == 0) = true) (h1 : v = 0) : fieldOk own bit v lo hi = true := by
  unfold fieldOk
  rw [if_pos (beq_iff_eq.1 h), h1]
  rfl
theorem checkP_of {k : Int} {V : Nat → Int} {tx : ByteArray} {l : List ByteArray} (hk : 1 ≤ k ∧ k ≤ 5)
    (f0 : fieldOk (ownOf k) 1 (V 1) (leastOf k) 9007199254740991 = true) (f1 : fieldOk (ownOf k) 2 (V 2) 1 (fromOf k (V 1)) = true) (f2 : fieldOk (ownOf k) 4 (V 3) 0 6 = true)
    (f3 : fieldOk (ownOf k) 8 (V 4) 0 9007199254740991 = true) (f4 : fieldOk (ownOf k) 16 (V 5) 0 65536 = true) (f5 : fieldOk (ownOf k) 32 (V 6) 0 65536 = true)
    (ht : textsB (k == 1) tx = true) (hl : listsB (k == 2) l = true) : checkP k V tx l = 0 := by
  unfold checkP checkF checkE
  rw [if_pos hk, ht, hl, if_pos]
  have ha : allOk (ownOf k) (leastOf k) (fromOf k (V 1)) (pushV k (V 1) (V 2) (V 3) (V 4) (V 5) (V 6)) = true := by
    refine List.all_eq_true.2 fun i hi => ?_
    have hi6 : i < 6 := List.mem_range.1 hi
    have : i = 0 ∨ i = 1 ∨ i = 2 ∨ i = 3 ∨ i = 4 ∨ i = 5 := by omega
    rcases this with rfl | rfl | rfl | rfl | rfl | rfl
    · exact f0
    · exact f1
    · exact f2
    · exact f3
    · exact f4
    · exact f5
  rw [ha]
  rfl
theorem no_text (b : Bool) : textsB b ByteArray.empty = true := by cases b <;> simp [textsB, ByteArray.toList_eq]
theorem no_lists (b : Bool) : listsB b [] = true := by cases b <;> rfl
theorem ok_renew (ver tk : Int) (V : Nat → Int) (h1 : 1 ≤ ver) (h2 : ver ≤ 9007199254740991) (h3 : 0 ≤ tk) (h4 : tk ≤ 9007199254740991) (v1 : V 1 = ver) (v2 : V 2 = 0) (v3 : V 3 = 0) (v4 : V 4 = tk) (v5 : V 5 = 0) (v6 : V 6 = 0) : checkP 3 V ByteArray.empty [] = 0 := by
  refine checkP_of ⟨by omega, by omega⟩ (fieldOk_own rfl ?_ (by omega)) (fieldOk_not rfl v2) (fieldOk_not rfl v3) (fieldOk_own rfl (by omega) (by omega)) (fieldOk_not rfl v5) (fieldOk_not rfl v6) (no_text _) (no_lists _)
  show (1 : Int) ≤ _
  omega
theorem ok_full (ver tk : Int) (V : Nat → Int) (tx : ByteArray) (h1 : 1 ≤ ver) (h2 : ver ≤ 9007199254740991) (h3 : 0 ≤ tk) (h4 : tk ≤ 9007199254740991) (ht : tx.size ≤ 65536) (v1 : V 1 = ver) (v2 : V 2 = 0) (v3 : V 3 = 0) (v4 : V 4 = tk) (v5 : V 5 = 0) (v6 : V 6 = 0) : checkP 1 V tx [] = 0 := by
  refine checkP_of ⟨by omega, by omega⟩ (fieldOk_own rfl ?_ (by omega)) (fieldOk_not rfl v2) (fieldOk_not rfl v3) (fieldOk_own rfl (by omega) (by omega)) (fieldOk_not rfl v5) (fieldOk_not rfl v6) (by unfold textsB; rw [decide_eq_true ht]; rfl) (no_lists _)
  show (1 : Int) ≤ _
  omega
theorem ok_ack (k ver nd : Int) (V : Nat → Int) (hk : k = 4 ∨ k = 5) (h1 : 1 ≤ ver) (h2 : ver ≤ 9007199254740991) (h3 : 0 ≤ nd) (h4 : nd ≤ 6) (v1 : V 1 = ver) (v2 : V 2 = 0) (v3 : V 3 = nd) (v4 : V 4 = 0) (v5 : V 5 = 0) (v6 : V 6 = 0) : checkP k V ByteArray.empty [] = 0 := by
  rcases hk with rfl | rfl
  · refine checkP_of ⟨by omega, by omega⟩ (fieldOk_own rfl ?_ (by omega)) (fieldOk_not rfl v2) (fieldOk_own rfl (by omega) (by omega)) (fieldOk_not rfl v4) (fieldOk_not rfl v5) (fieldOk_not rfl v6) (no_text _) (no_lists _)
    show (0 : Int) ≤ _
    omega
  · refine checkP_of ⟨by omega, by omega⟩ (fieldOk_own rfl ?_ (by omega)) (fieldOk_not rfl v2) (fieldOk_own rfl (by omega) (by omega)) (fieldOk_not rfl v4) (fieldOk_not rfl v5) (fieldOk_not rfl v6) (no_text _) (no_lists _)
    show (0 : Int) ≤ _
    omega
theorem ok_delta (ver fr tk hd tl : Int) (V : Nat → Int) (l : List ByteArray) (h1 : 2 ≤ ver) (h2 : ver ≤ 9007199254740991) (f1 : 1 ≤ fr) (f2 : fr ≤ ver - 1) (h3 : 0 ≤ tk) (h4 : tk ≤ 9007199254740991) (a1 : 0 ≤ hd) (a2 : hd ≤ 65536) (b1 : 0 ≤ tl) (b2 : tl ≤ 65536)
    (hf : flat l = true) (hs : sizes l ≤ 65536) (hl : l.length ≤ 1000) (v1 : V 1 = ver) (v2 : V 2 = fr) (v3 : V 3 = 0) (v4 : V 4 = tk) (v5 : V 5 = hd) (v6 : V 6 = tl) : checkP 2 V ByteArray.empty l = 0 := by
  have hfr : fromOf 2 (V 1) = ver - 1 := by
    show IntKind.i64.wrap (V 1 - 1) = _
    rw [v1]
    exact IntWalk.i64_in _ ⟨by omega, by omega⟩
  refine checkP_of ⟨by omega, by omega⟩ (fieldOk_own rfl ?_ (by omega)) (fieldOk_own rfl (by omega) (by omega)) (fieldOk_not rfl v3) (fieldOk_own rfl (by omega) (by omega)) (fieldOk_own rfl (by omega) (by omega)) (fieldOk_own rfl (by omega) (by omega)) (no_text _) (by unfold listsB; rw [hf, decide_eq_true hs, decide_eq_true hl]; rfl)
  show (2 : Int) ≤ _
  omega
def MadePost (w : World) (e : Ending) (w' : World) : Prop := ∃ k V tx v l, e = .returned (.agg (pk k V tx v)) ∧ checkP k V tx l = 0 ∧ w'.ownsRow w.heap.size 9 1 v l.length (l.map Value.string) ∧ Chg (fun _ => False) w w'
set_option maxRecDepth 100000 in
set_option maxHeartbeats 8000000 in
theorem made_some (w : World) (kd n0 n1 n2 n3 n4 n5 : Int) (tx : ByteArray) (A : Option Addr) (L : List ByteArray) (c : Nat) (hl : Lns w A L) (hs : ∀ s ∈ L, s.size ≤ 9223372036854775807) (hL : L.length ≤ 9223372036854775807)
    (hk : I64 kd) (h0 : I64 n0) (h1 : I64 n1) (h2 : I64 n2) (h3 : I64 n3) (h4 : I64 n4) (h5 : I64 n5) :
    Calls Tryd.prog 25 #[.agg (seedC kd n0 n1 n2 n3 n4 n5 tx (.slice A L.length c))] w (MadePost w) := by
  have HL := Lib.hid hl
  have HS := Lib.hid hs
  clear hl hs
  unfold seedC
  go_enter Tryd.func25, Tryd.ntmps25
  go_upto_region 1 with fail
  generalize hw1 : (w.alloc (.cells #[.int .i64 kd, .int .i64 n0, .int .i64 n1, .int .i64 n2, .int .i64 n3, .int .i64 n4, .int .i64 n5, .string tx, .slice A L.length c] 44)).alloc (.cells #[.int .i64 0, .int .i64 0, .int .i64 0, .int .i64 0, .int .i64 0, .int .i64 0, .int .i64 0, .string ⟨#[]⟩, .slice none 0 0] 26) = w1
  have hsd : w1.heap[w.heap.size]? = some (.cells (seedC kd n0 n1 n2 n3 n4 n5 tx (.slice A L.length c)) 44 (0, 0)) := by rw [← hw1]; exact heap_alloc (heap_new _ _)
  have HRS : Hid (w1.heap[w.heap.size + 1]? = some (.cells zeroPkt 26 (0, 0))) := Lib.hid (by rw [← hw1]; exact heap_new1 _ _ _)
  have HAL : Hid (Chg (fun _ => False) w w1) := Lib.hid (by rw [← hw1]; exact ((Chg.refl _ w).alloc _).alloc _)
  have HZ : Hid (w1.heap.size = w.heap.size + 2) := Lib.hid (by rw [← hw1]; simp)
  clear hw1
  have HSD := Lib.hid hsd
  have hS : w1.drew.cell? ⟨w.heap.size, 0, none⟩ = some (.int .i64 kd) ∧ w1.drew.cell? ⟨w.heap.size, 1, none⟩ = some (.int .i64 n0) := ⟨cell_of_heap hsd 0, cell_of_heap hsd 1⟩
  clear hsd
  have b0 := fun W => bring_some W kd 5 (by omega) (by omega) hk.1 hk.2
  have b1 := fun W => bring_some W n0 9007199254740991 (by omega) (by omega) h0.1 h0.2
  have r0 := Int.emod_nonneg kd (show (5 : Int) ≠ 0 by omega)
  have r0' := Int.emod_lt_of_pos kd (show (0 : Int) < 5 by omega)
  have r1 := Int.emod_nonneg n0 (show (9007199254740991 : Int) ≠ 0 by omega)
  have r1' := Int.emod_lt_of_pos n0 (show (0 : Int) < 9007199254740991 by omega)
  have hw1 : IntKind.i64.wrap (1 + kd % 5) = 1 + kd % 5 := IntWalk.i64_in _ ⟨by omega, by omega⟩
  have hw2 : IntKind.i64.wrap (1 + n0 % 9007199254740991) = 1 + n0 % 9007199254740991 := IntWalk.i64_in _ ⟨by omega, by omega⟩
  have FS : ∀ W : World, W.heap = (w1.alloc (.cells zeroPkt 26)).heap → (11 ∉ ([] : List Nat) → (W.setRow w1.heap.size (pk (1 + kd % 5) (setV zeroV 1 (1 + n0 % 9007199254740991)) ByteArray.empty (.slice none 0 0))).cell? ⟨w.heap.size, 0, none⟩ = some (.int .i64 kd) ∧ (W.setRow w1.heap.size (pk (1 + kd % 5) (setV zeroV 1 (1 + n0 % 9007199254740991)) ByteArray.empty (.slice none 0 0))).cell? ⟨w.heap.size, 1, none⟩ = some (.int .i64 n0)) := by
    intro W hW _
    have hz := HZ.out
    have h := (setRow_other W w1.heap.size w.heap.size (pk (1 + kd % 5) (setV zeroV 1 (1 + n0 % 9007199254740991)) ByteArray.empty (.slice none 0 0)) (by omega)).trans ((congrArg (·[w.heap.size]?) hW).trans (heap_alloc HSD.out))
    exact ⟨cell_of_heap h 0, cell_of_heap h 1⟩
  have FIN : ∀ W : World, W.heap = (w1.alloc (.cells zeroPkt 26)).heap → Chg (fun _ => False) w W → (Value.pointer (some ⟨w1.heap.size, 0, none⟩) = .pointer (some ⟨w.heap.size + 2, 0, none⟩) ∧ PktAt (W.setRow w1.heap.size (pk (1 + kd % 5) (setV zeroV 1 (1 + n0 % 9007199254740991)) ByteArray.empty (.slice none 0 0))) (w.heap.size + 2) (1 + kd % 5) (setV zeroV 1 (1 + n0 % 9007199254740991)) ByteArray.empty (.slice none 0 0) ∧ (W.setRow w1.heap.size (pk (1 + kd % 5) (setV zeroV 1 (1 + n0 % 9007199254740991)) ByteArray.empty (.slice none 0 0))).heap[w.heap.size]? = some (.cells (seedC kd n0 n1 n2 n3 n4 n5 tx (.slice A L.length c)) 44 (0, 0)) ∧ (W.setRow w1.heap.size (pk (1 + kd % 5) (setV zeroV 1 (1 + n0 % 9007199254740991)) ByteArray.empty (.slice none 0 0))).heap[w.heap.size + 1]? = some (.cells zeroPkt 26 (0, 0)) ∧ Chg (fun _ => False) w (W.setRow w1.heap.size (pk (1 + kd % 5) (setV zeroV 1 (1 + n0 % 9007199254740991)) ByteArray.empty (.slice none 0 0)))) := by
    intro W hW hC
    have hz := HZ.out
    refine ⟨by rw [hz], ?_, (setRow_other _ _ _ _ (by omega)).trans ((congrArg (·[w.heap.size]?) hW).trans (heap_alloc HSD.out)), (setRow_other _ _ _ _ (by omega)).trans ((congrArg (·[w.heap.size + 1]?) hW).trans (heap_alloc HRS.out)), ⟨hC.os, hC.tape, hC.output, by rw [size_setRow]; exact hC.size, fun q hq _ => (setRow_other _ _ _ _ (by omega)).trans (hC.block q hq (fun h => h))⟩⟩
    rw [← hz]
    exact setRow_heap _ _ _ _ _ _ ((congrArg (·[w1.heap.size]?) hW).trans (heap_new w1 _))
  go_cut [3] from 5 to 14 (fun s3 W => s3 = .pointer (some ⟨w.heap.size + 2, 0, none⟩) ∧ PktAt W (w.heap.size + 2) (1 + kd % 5) (setV zeroV 1 (1 + n0 % 9007199254740991)) ByteArray.empty (.slice none 0 0) ∧ W.heap[w.heap.size]? = some (.cells (seedC kd n0 n1 n2 n3 n4 n5 tx (.slice A L.length c)) 44 (0, 0)) ∧ W.heap[w.heap.size + 1]? = some (.cells zeroPkt 26 (0, 0)) ∧ Chg (fun _ => False) w W)
  case first =>
    refine region_lone (fun W' => W'.cell? ⟨w.heap.size, 0, none⟩ = some (.int .i64 kd) ∧ W'.cell? ⟨w.heap.size, 1, none⟩ = some (.int .i64 n0)) [] (by kernel_rfl) ?_
    refine take_one 0 hS rfl (by kernel_rfl) rfl ?_
    apply Exists.intro
    refine And.intro (fun W' hS' => ?y0) (And.intro (fun _ _ _ h => h) ?_)
    case y0 => obtain ⟨d0, d1⟩ := hS'; go_simp; rfl
    refine take_one 1 hS rfl (by kernel_rfl) rfl ?_
    apply Exists.intro
    refine And.intro (fun W' hS' => ?y1) (And.intro (fun _ _ _ h => h) ?_)
    case y1 => obtain ⟨d0, d1⟩ := hS'; go_simp; rfl
    refine take_one 4 hS rfl (by kernel_rfl) rfl ?_
    apply Exists.intro
    refine And.intro (fun W' hS' => ?y4) (And.intro (fun _ _ _ h => h) ?_)
    case y4 => obtain ⟨d0, d1⟩ := hS'; go_simp; rfl
    refine take_one 5 hS rfl (by kernel_rfl) rfl ?_
    apply Exists.intro
    refine And.intro (fun W' hS' => ?y5) (And.intro (fun _ _ _ h => h) ?_)
    case y5 => obtain ⟨d0, d1⟩ := hS'; go_simp; rfl
    refine take_one 6 hS rfl (by kernel_rfl) rfl ?_
    apply Exists.intro
    refine And.intro (fun W' hS' => ?y6) (And.intro (fun _ _ _ h => h) ?_)
    case y6 => obtain ⟨d0, d1⟩ := hS'; go_simp; rfl
    refine one_of_two 2 10 rfl rfl (by kernel_rfl) rfl rfl ?_ ?_
    · go_simp
      refine (b0 _).mono ?_
      rintro e W ⟨rfl, rfl⟩
      refine ⟨hS, ?_⟩
      refine take_one 3 hS rfl (by kernel_rfl) rfl ?_
      apply Exists.intro
      refine And.intro (fun W' hS' => ?ya3) (And.intro (fun _ _ _ h => h) ?_)
      case ya3 => obtain ⟨d0, d1⟩ := hS'; go_simp; rfl
      refine one_of_two 7 10 rfl rfl (by kernel_rfl) rfl rfl ?_ ?_
      · go_simp
        refine (b1 _).mono ?_
        rintro e W ⟨rfl, rfl⟩
        refine ⟨hS, ?_⟩
        refine take_one 8 hS rfl (by kernel_rfl) rfl ?_
        apply Exists.intro
        refine And.intro (fun W' hS' => ?yb8) (And.intro (fun _ _ _ h => h) ?_)
        case yb8 => obtain ⟨d0, d1⟩ := hS'; go_simp; rfl
        refine take_one 9 hS rfl (by kernel_rfl) rfl ?_
        apply Exists.intro
        refine And.intro (fun W' hS' => ?yb9) (And.intro (fun _ _ _ h => h) ?_)
        case yb9 => obtain ⟨d0, d1⟩ := hS'; go_simp; rfl
        refine only_one 10 rfl (by kernel_rfl) rfl ?_
        go_simp
        refine ⟨⟨cell_of_heap (heap_alloc HSD.out) 0, cell_of_heap (heap_alloc HSD.out) 1⟩, ?_⟩
        refine only_one 11 rfl (by kernel_rfl) rfl ?_
        refine wp_store_row 26 (.tmp 3) (.tmp 14) rfl w1.heap.size (pk (1 + kd % 5) (setV zeroV 1 (1 + n0 % 9007199254740991)) ByteArray.empty (.slice none 0 0)) rfl rfl 26 zeroPkt (heap_new w1 (.cells zeroPkt 26)) infoP rfl (by simp [pk, Value.oneCell']) ?_
        refine ⟨FS _ rfl, all_done (by kernel_rfl) ?_ _⟩
        go_wp2_with fail
        go_meet
        refine FIN _ rfl ?_
        first | exact (HAL.out.alloc _).drew | exact HAL.out.drew.alloc _
      · go_simp
        have hS : (w1.alloc (.cells zeroPkt 26)).cell? ⟨w.heap.size, 0, none⟩ = some (.int .i64 kd) ∧ (w1.alloc (.cells zeroPkt 26)).cell? ⟨w.heap.size, 1, none⟩ = some (.int .i64 n0) := ⟨cell_of_heap (heap_alloc HSD.out) 0, cell_of_heap (heap_alloc HSD.out) 1⟩
        refine ⟨hS, ?_⟩
        refine only_one 7 rfl (by kernel_rfl) rfl ?_
        go_simp
        refine (b1 _).mono ?_
        rintro e W ⟨rfl, rfl⟩
        refine ⟨hS, ?_⟩
        refine take_one 8 hS rfl (by kernel_rfl) rfl ?_
        apply Exists.intro
        refine And.intro (fun W' hS' => ?yc8) (And.intro (fun _ _ _ h => h) ?_)
        case yc8 => obtain ⟨d0, d1⟩ := hS'; go_simp; rfl
        refine take_one 9 hS rfl (by kernel_rfl) rfl ?_
        apply Exists.intro
        refine And.intro (fun W' hS' => ?yc9) (And.intro (fun _ _ _ h => h) ?_)
        case yc9 => obtain ⟨d0, d1⟩ := hS'; go_simp; rfl
        refine only_one 11 rfl (by kernel_rfl) rfl ?_
        refine wp_store_row 26 (.tmp 3) (.tmp 14) rfl w1.heap.size (pk (1 + kd % 5) (setV zeroV 1 (1 + n0 % 9007199254740991)) ByteArray.empty (.slice none 0 0)) rfl rfl 26 zeroPkt (heap_new w1 (.cells zeroPkt 26)) infoP rfl (by simp [pk, Value.oneCell']) ?_
        refine ⟨FS _ rfl, all_done (by kernel_rfl) ?_ _⟩
        go_wp2_with fail
        go_meet
        refine FIN _ rfl ?_
        first | exact (HAL.out.alloc _).drew | exact HAL.out.drew.alloc _
    · go_simp
      have hS : (w1.alloc (.cells zeroPkt 26)).cell? ⟨w.heap.size, 0, none⟩ = some (.int .i64 kd) ∧ (w1.alloc (.cells zeroPkt 26)).cell? ⟨w.heap.size, 1, none⟩ = some (.int .i64 n0) := ⟨cell_of_heap (heap_alloc HSD.out) 0, cell_of_heap (heap_alloc HSD.out) 1⟩
      refine ⟨hS, ?_⟩
      refine only_one 2 rfl (by kernel_rfl) rfl ?_
      go_simp
      refine (b0 _).mono ?_
      rintro e W ⟨rfl, rfl⟩
      refine ⟨hS, ?_⟩
      refine take_one 3 hS rfl (by kernel_rfl) rfl ?_
      apply Exists.intro
      refine And.intro (fun W' hS' => ?yd3) (And.intro (fun _ _ _ h => h) ?_)
      case yd3 => obtain ⟨d0, d1⟩ := hS'; go_simp; rfl
      refine only_one 7 rfl (by kernel_rfl) rfl ?_
      go_simp
      refine (b1 _).mono ?_
      rintro e W ⟨rfl, rfl⟩
      refine ⟨hS, ?_⟩
      refine take_one 8 hS rfl (by kernel_rfl) rfl ?_
      apply Exists.intro
      refine And.intro (fun W' hS' => ?ye8) (And.intro (fun _ _ _ h => h) ?_)
      case ye8 => obtain ⟨d0, d1⟩ := hS'; go_simp; rfl
      refine take_one 9 hS rfl (by kernel_rfl) rfl ?_
      apply Exists.intro
      refine And.intro (fun W' hS' => ?ye9) (And.intro (fun _ _ _ h => h) ?_)
      case ye9 => obtain ⟨d0, d1⟩ := hS'; go_simp; rfl
      refine only_one 11 rfl (by kernel_rfl) rfl ?_
      refine wp_store_row 26 (.tmp 3) (.tmp 14) rfl w1.heap.size (pk (1 + kd % 5) (setV zeroV 1 (1 + n0 % 9007199254740991)) ByteArray.empty (.slice none 0 0)) rfl rfl 26 zeroPkt (heap_new w1 (.cells zeroPkt 26)) infoP rfl (by simp [pk, Value.oneCell']) ?_
      refine ⟨FS _ rfl, all_done (by kernel_rfl) ?_ _⟩
      go_wp2_with fail
      go_meet
      refine FIN _ rfl ?_
      first | exact (HAL.out.alloc _).drew | exact HAL.out.drew.alloc _
  case rest =>
    obtain ⟨rfl, hP, hSd, hRs, hC⟩ := hcut
    have hK1 : 1 ≤ 1 + kd % 5 := by omega
    have hK5 : 1 + kd % 5 ≤ 5 := by omega
    have hV1 : 1 ≤ 1 + n0 % 9007199254740991 := by omega
    have hV2 : 1 + n0 % 9007199254740991 ≤ 9007199254740991 := by omega
    clear b0 b1 r0 r0' r1 r1' hw1 hw2 FIN FS HAL HRS HSD HZ hS
    generalize 1 + kd % 5 = K at *
    generalize 1 + n0 % 9007199254740991 = N1 at *
    have p0 : wc.cell? ⟨w.heap.size + 2, 0, none⟩ = some (.int .i64 K) := cell_of_heap hP 0
    have p1 : wc.cell? ⟨w.heap.size + 2, 1, none⟩ = some (.int .i64 N1) := cell_of_heap hP 1
    have p3 : wc.cell? ⟨w.heap.size + 2, 3, none⟩ = some (.int .i64 0) := cell_of_heap hP 3
    have p4 : wc.cell? ⟨w.heap.size + 2, 4, none⟩ = some (.int .i64 0) := cell_of_heap hP 4
    have s1 : wc.cell? ⟨w.heap.size, 1, none⟩ = some (.int .i64 n0) := cell_of_heap hSd 1
    have s2 : wc.cell? ⟨w.heap.size, 2, none⟩ = some (.int .i64 n1) := cell_of_heap hSd 2
    have s6 : wc.cell? ⟨w.heap.size, 6, none⟩ = some (.int .i64 n5) := cell_of_heap hSd 6
    have f1 : wc.frozen? ⟨w.heap.size + 2, 1, none⟩ = false := hP.free 1
    have f3 : wc.frozen? ⟨w.heap.size + 2, 3, none⟩ = false := hP.free 3
    have f4 : wc.frozen? ⟨w.heap.size + 2, 4, none⟩ = false := hP.free 4
    have b1 := bring_some wc n1 9007199254740992 (by omega) (by omega) h1.1 h1.2
    have b5 := bring_some wc n5 7 (by omega) (by omega) h5.1 h5.2
    have r1 := Int.emod_nonneg n1 (show (9007199254740992 : Int) ≠ 0 by omega)
    have r1' := Int.emod_lt_of_pos n1 (show (0 : Int) < 9007199254740992 by omega)
    have r5 := Int.emod_nonneg n5 (show (7 : Int) ≠ 0 by omega)
    have r5' := Int.emod_lt_of_pos n5 (show (0 : Int) < 7 by omega)
    have HP := Lib.hid hP
    have HSD := Lib.hid hSd
    have HRS := Lib.hid hRs
    have HC := Lib.hid hC
    clear hP hSd hRs hC
    go_upto_block 0 with fail
    go_cut [4] from 17 to 95 (fun _ W => ∃ V x v l, PktAt W (w.heap.size + 2) K V x v ∧ checkP K V x l = 0 ∧ W.ownsRow w.heap.size 9 1 v l.length (l.map Value.string) ∧ W.heap[w.heap.size + 1]? = some (.cells zeroPkt 26 (0, 0)) ∧ Chg (fun _ => False) w W)
    case first =>
      have hK : K = 1 ∨ K = 2 ∨ K = 3 ∨ K = 4 ∨ K = 5 := by omega
      rcases hK with rfl | rfl | rfl | rfl | rfl
      · go_wp2_with fail
        refine b1.mono ?_
        rintro e W ⟨rfl, rfl⟩
        go_upto_region 6 with fail
        have hst := (Chg.refl (fun k => k = w.heap.size + 2) W).setCell (p := ⟨w.heap.size + 2, 4, none⟩) (.inl rfl) (.int .i64 (n1 % 9007199254740992))
        have HP2 := Lib.hid (HP.out.setN 4 (n1 % 9007199254740992) (by omega) (by omega))
        have HSD2 := Lib.hid (heap_setCell HSD.out (a := ⟨w.heap.size + 2, 4, none⟩) (by simp) (.int .i64 (n1 % 9007199254740992)))
        have HRS2 := Lib.hid (heap_setCell HRS.out (a := ⟨w.heap.size + 2, 4, none⟩) (by simp) (.int .i64 (n1 % 9007199254740992)))
        have HC2 := Lib.hid (HC.out.trans' hst (fun i h1 h2 => by omega))
        clear b1 b5 p0 p1 p3 p4 s1 s2 s6 f1 f3 f4 hst HP HSD HRS HC
        generalize W.setCell ⟨w.heap.size + 2, 4, none⟩ (.int .i64 (n1 % 9007199254740992)) = W2 at *
        have s7 : W2.cell? ⟨w.heap.size, 7, none⟩ = some (.string tx) := cell_of_heap HSD2.out 7
        have p7 : W2.cell? ⟨w.heap.size + 2, 7, none⟩ = some (.string ByteArray.empty) := cell_of_heap HP2.out 7
        have f7 : W2.frozen? ⟨w.heap.size + 2, 7, none⟩ = false := HP2.out.free 7
        by_cases hx : tx.size ≤ 500
        · have hmn : min (tx.size : Int) 500 = (tx.size : Int) := by omega
          go_wp2_with fail
          go_meet
          have hst := (Chg.refl (fun k => k = w.heap.size + 2) W2).setCell (p := ⟨w.heap.size + 2, 7, none⟩) (.inl rfl) (.string (tx))
          exact ⟨_, _, _, [], HP2.out.setT (tx), ok_full N1 (n1 % 9007199254740992) _ _ hV1 hV2 r1 (by omega) (by omega) rfl rfl rfl rfl rfl rfl, World.ownsRow_nil _ _ _ _, heap_setCell HRS2.out (by simp) _, HC2.out.trans' hst (fun i h1 h2 => by omega)⟩
        · have hmn : min (tx.size : Int) 500 = 500 := by omega
          go_wp2_with fail
          go_meet
          have hst := (Chg.refl (fun k => k = w.heap.size + 2) W2).setCell (p := ⟨w.heap.size + 2, 7, none⟩) (.inl rfl) (.string (tx.extract 0 500))
          exact ⟨_, _, _, [], HP2.out.setT (tx.extract 0 500), ok_full N1 (n1 % 9007199254740992) _ _ hV1 hV2 r1 (by omega) (by simp; omega) rfl rfl rfl rfl rfl rfl, World.ownsRow_nil _ _ _ _, heap_setCell HRS2.out (by simp) _, HC2.out.trans' hst (fun i h1 h2 => by omega)⟩
      · go_upto_region 8 with fail
        go_cut [] from 39 to 42 (fun W => ∃ M, 2 ≤ M ∧ M ≤ 9007199254740991 ∧ PktAt W (w.heap.size + 2) 2 (setV (setV zeroV 1 N1) 1 M) ByteArray.empty (.slice none 0 0) ∧ W.heap[w.heap.size]? = some (.cells (seedC kd n0 n1 n2 n3 n4 n5 tx (.slice A L.length c)) 44 (0, 0)) ∧ W.heap[w.heap.size + 1]? = some (.cells zeroPkt 26 (0, 0)) ∧ Chg (fun _ => False) w W)
        case first =>
          by_cases hm : N1 < 2
          · go_wp2_with fail
            go_meet
            have hst := (Chg.refl (fun k => k = w.heap.size + 2) wc).setCell (p := ⟨w.heap.size + 2, 1, none⟩) (.inl rfl) (.int .i64 2)
            exact ⟨2, by omega, by omega, HP.out.setN 1 2 (by omega) (by omega), heap_setCell HSD.out (by simp) _, heap_setCell HRS.out (by simp) _, HC.out.trans' hst (fun i h1 h2 => by omega)⟩
          · go_wp2_with fail
            go_meet
            have hst := (Chg.refl (fun k => k = w.heap.size + 2) wc).setCell (p := ⟨w.heap.size + 2, 1, none⟩) (.inl rfl) (.int .i64 N1)
            exact ⟨N1, by omega, by omega, HP.out.setN 1 N1 (by omega) (by omega), heap_setCell HSD.out (by simp) _, heap_setCell HRS.out (by simp) _, HC.out.trans' hst (fun i h1 h2 => by omega)⟩
        case rest =>
          clear b1 b5 p0 p1 p3 p4 s1 s2 s6 f1 f3 f4 HP HSD HRS HC
          obtain ⟨M, hM2, hM3, hP, hSd, hRs, hC⟩ := hcut
          have p1 : wc.cell? ⟨w.heap.size + 2, 1, none⟩ = some (.int .i64 M) := cell_of_heap hP 1
          have p2 : wc.cell? ⟨w.heap.size + 2, 2, none⟩ = some (.int .i64 0) := cell_of_heap hP 2
          have f2 := hP.free 2
          have s3 : wc.cell? ⟨w.heap.size, 3, none⟩ = some (.int .i64 n2) := cell_of_heap hSd 3
          have hw : IntKind.i64.wrap (M - 1) = M - 1 := IntWalk.i64_in _ ⟨by omega, by omega⟩
          have r2 := Int.emod_nonneg n2 (show M - 1 ≠ 0 by omega)
          have r2' := Int.emod_lt_of_pos n2 (show (0 : Int) < M - 1 by omega)
          have hw2 : IntKind.i64.wrap (1 + n2 % (M - 1)) = 1 + n2 % (M - 1) := IntWalk.i64_in _ ⟨by omega, by omega⟩
          have HP := Lib.hid hP
          have HSD := Lib.hid hSd
          have HRS := Lib.hid hRs
          have HC := Lib.hid hC
          clear hP hSd hRs hC
          go_wp2_with fail
          refine (bring_some wc n2 (M - 1) (by omega) (by omega) h2.1 h2.2).mono ?_
          rintro e W ⟨rfl, rfl⟩
          go_upto_region 10 with fail
          have hst := (Chg.refl (fun k => k = w.heap.size + 2) W).setCell (p := ⟨w.heap.size + 2, 2, none⟩) (.inl rfl) (.int .i64 (1 + n2 % (M - 1)))
          have HP2 := Lib.hid (HP.out.setN 2 (1 + n2 % (M - 1)) (by omega) (by omega))
          have HSD2 := Lib.hid (heap_setCell HSD.out (a := ⟨w.heap.size + 2, 2, none⟩) (by simp) (.int .i64 (1 + n2 % (M - 1))))
          have HRS2 := Lib.hid (heap_setCell HRS.out (a := ⟨w.heap.size + 2, 2, none⟩) (by simp) (.int .i64 (1 + n2 % (M - 1))))
          have HC2 := Lib.hid (HC.out.trans' hst (fun i h1 h2 => by omega))
          clear p1 p2 f2 s3 hw hw2 hst HP HSD HRS HC
          have hF1 : 1 ≤ 1 + n2 % (M - 1) := by omega
          have hF2 : 1 + n2 % (M - 1) ≤ M - 1 := by omega
          clear r2 r2'
          generalize W.setCell ⟨w.heap.size + 2, 2, none⟩ (.int .i64 (1 + n2 % (M - 1))) = W2 at *
          generalize 1 + n2 % (M - 1) = F at *
          go_cut [] from 52 to 66 (fun W => ∃ V, (∀ l, flat l = true → sizes l ≤ 65536 → l.length ≤ 1000 → checkP 2 V ByteArray.empty l = 0) ∧ PktAt W (w.heap.size + 2) 2 V ByteArray.empty (.slice none 0 0) ∧ W.heap[w.heap.size]? = some (.cells (seedC kd n0 n1 n2 n3 n4 n5 tx (.slice A L.length c)) 44 (0, 0)) ∧ W.heap[w.heap.size + 1]? = some (.cells zeroPkt 26 (0, 0)) ∧ Chg (fun _ => False) w W)
          case first =>
            have hS : W2.drew.cell? ⟨w.heap.size, 2, none⟩ = some (.int .i64 n1) ∧ W2.drew.cell? ⟨w.heap.size, 4, none⟩ = some (.int .i64 n3) ∧ W2.drew.cell? ⟨w.heap.size, 5, none⟩ = some (.int .i64 n4) := ⟨cell_of_heap HSD2.out 2, cell_of_heap HSD2.out 4, cell_of_heap HSD2.out 5⟩
            have r3 := Int.emod_nonneg n3 (show (65537 : Int) ≠ 0 by omega)
            have r3' := Int.emod_lt_of_pos n3 (show (0 : Int) < 65537 by omega)
            have r4 := Int.emod_nonneg n4 (show (65537 : Int) ≠ 0 by omega)
            have r4' := Int.emod_lt_of_pos n4 (show (0 : Int) < 65537 by omega)
            refine region_lone (fun W' => W'.cell? ⟨w.heap.size, 2, none⟩ = some (.int .i64 n1) ∧ W'.cell? ⟨w.heap.size, 4, none⟩ = some (.int .i64 n3) ∧ W'.cell? ⟨w.heap.size, 5, none⟩ = some (.int .i64 n4)) [] (by kernel_rfl) ?_
            refine take_one 0 hS rfl (by kernel_rfl) rfl ?_
            apply Exists.intro
            refine And.intro (fun W' hS' => ?y0) (And.intro (fun _ _ _ h => h) ?_)
            case y0 => obtain ⟨d0, d1, d2⟩ := hS'; go_simp; rfl
            refine take_one 1 hS rfl (by kernel_rfl) rfl ?_
            apply Exists.intro
            refine And.intro (fun W' hS' => ?y1) (And.intro (fun _ _ _ h => h) ?_)
            case y1 => obtain ⟨d0, d1, d2⟩ := hS'; go_simp; rfl
            refine take_one 2 hS rfl (by kernel_rfl) rfl ?_
            apply Exists.intro
            refine And.intro (fun W' hS' => ?y2) (And.intro (fun _ _ _ h => h) ?_)
            case y2 => obtain ⟨d0, d1, d2⟩ := hS'; go_simp; rfl
            refine take_one 4 hS rfl (by kernel_rfl) rfl ?_
            apply Exists.intro
            refine And.intro (fun W' hS' => ?y4) (And.intro (fun _ _ _ h => h) ?_)
            case y4 => obtain ⟨d0, d1, d2⟩ := hS'; go_simp; rfl
            refine take_one 5 hS rfl (by kernel_rfl) rfl ?_
            apply Exists.intro
            refine And.intro (fun W' hS' => ?y5) (And.intro (fun _ _ _ h => h) ?_)
            case y5 => obtain ⟨d0, d1, d2⟩ := hS'; go_simp; rfl
            refine take_one 6 hS rfl (by kernel_rfl) rfl ?_
            apply Exists.intro
            refine And.intro (fun W' hS' => ?y6) (And.intro (fun _ _ _ h => h) ?_)
            case y6 => obtain ⟨d0, d1, d2⟩ := hS'; go_simp; rfl
            refine take_one 8 hS rfl (by kernel_rfl) rfl ?_
            apply Exists.intro
            refine And.intro (fun W' hS' => ?y8) (And.intro (fun _ _ _ h => h) ?_)
            case y8 => obtain ⟨d0, d1, d2⟩ := hS'; go_simp; rfl
            refine take_one 9 hS rfl (by kernel_rfl) rfl ?_
            apply Exists.intro
            refine And.intro (fun W' hS' => ?y9) (And.intro (fun _ _ _ h => h) ?_)
            case y9 => obtain ⟨d0, d1, d2⟩ := hS'; go_simp; rfl
            refine take_one 10 hS rfl (by kernel_rfl) rfl ?_
            apply Exists.intro
            refine And.intro (fun W' hS' => ?y10) (And.intro (fun _ _ _ h => h) ?_)
            case y10 => obtain ⟨d0, d1, d2⟩ := hS'; go_simp; rfl
            refine only_one 3 rfl (by kernel_rfl) rfl ?_
            go_simp
            refine (bring_some _ n1 9007199254740992 (by omega) (by omega) h1.1 h1.2).mono ?_
            rintro e W ⟨rfl, rfl⟩
            refine ⟨hS, ?_⟩
            refine take_one 12 hS rfl (by kernel_rfl) rfl ?_
            apply Exists.intro
            refine And.intro (fun W' hS' => ?y12) (And.intro (fun _ _ _ h => h) ?_)
            case y12 => obtain ⟨d0, d1, d2⟩ := hS'; go_simp; rfl
            refine only_one 7 rfl (by kernel_rfl) rfl ?_
            go_simp
            refine (bring_some _ n3 65537 (by omega) (by omega) h3.1 h3.2).mono ?_
            rintro e W ⟨rfl, rfl⟩
            refine ⟨hS, ?_⟩
            refine only_one 11 rfl (by kernel_rfl) rfl ?_
            go_simp
            refine (bring_some _ n4 65537 (by omega) (by omega) h4.1 h4.2).mono ?_
            rintro e W ⟨rfl, rfl⟩
            refine ⟨hS, ?_⟩
            have hP4 : PktAt W2.drew (w.heap.size + 2) 2 _ _ _ := HP2.out
            have hD4 : W2.drew.heap[w.heap.size]? = _ := HSD2.out
            have hR4 : W2.drew.heap[w.heap.size + 1]? = _ := HRS2.out
            have hC4 : Chg (fun _ => False) w W2.drew := HC2.out.drew
            have a4 : W2.cell? ⟨w.heap.size + 2, 4, none⟩ = some (.int .i64 0) := cell_of_heap HP2.out 4
            have b4 : W2.frozen? ⟨w.heap.size + 2, 4, none⟩ = false := HP2.out.free 4
            refine only_one 13 rfl (by kernel_rfl) rfl ?_
            go_simp
            have hP5 := hP4.setN 4 (n1 % 9007199254740992) (by omega) (by omega)
            have hD5 := heap_setCell hD4 (a := ⟨w.heap.size + 2, 4, none⟩) (by simp) (.int .i64 (n1 % 9007199254740992))
            have hR5 := heap_setCell hR4 (a := ⟨w.heap.size + 2, 4, none⟩) (by simp) (.int .i64 (n1 % 9007199254740992))
            have hC5 := hC4.setCell (p := ⟨w.heap.size + 2, 4, none⟩) (.inr (by simp)) (.int .i64 (n1 % 9007199254740992))
            have hS : (W2.drew.setCell ⟨w.heap.size + 2, 4, none⟩ (.int .i64 (n1 % 9007199254740992))).cell? ⟨w.heap.size, 2, none⟩ = some (.int .i64 n1) ∧ (W2.drew.setCell ⟨w.heap.size + 2, 4, none⟩ (.int .i64 (n1 % 9007199254740992))).cell? ⟨w.heap.size, 4, none⟩ = some (.int .i64 n3) ∧ (W2.drew.setCell ⟨w.heap.size + 2, 4, none⟩ (.int .i64 (n1 % 9007199254740992))).cell? ⟨w.heap.size, 5, none⟩ = some (.int .i64 n4) := ⟨cell_of_heap hD5 2, cell_of_heap hD5 4, cell_of_heap hD5 5⟩
            refine ⟨⟨cell_of_heap HSD2.out 2, cell_of_heap HSD2.out 4, cell_of_heap HSD2.out 5⟩, ?_⟩
            clear a4 b4
            refine take_one 14 hS rfl (by kernel_rfl) rfl ?_
            apply Exists.intro
            refine And.intro (fun W' hS' => ?y14) (And.intro (fun _ _ _ h => h) ?_)
            case y14 => obtain ⟨d0, d1, d2⟩ := hS'; go_simp; rfl
            have a5 : W2.cell? ⟨w.heap.size + 2, 5, none⟩ = some (.int .i64 0) := cell_of_heap HP2.out 5
            have b5 : W2.frozen? ⟨w.heap.size + 2, 5, none⟩ = false := HP2.out.free 5
            refine only_one 15 rfl (by kernel_rfl) rfl ?_
            go_simp
            have hP6 := hP5.setN 5 (n3 % 65537) (by omega) (by omega)
            have hD6 := heap_setCell hD5 (a := ⟨w.heap.size + 2, 5, none⟩) (by simp) (.int .i64 (n3 % 65537))
            have hR6 := heap_setCell hR5 (a := ⟨w.heap.size + 2, 5, none⟩) (by simp) (.int .i64 (n3 % 65537))
            have hC6 := hC5.setCell (p := ⟨w.heap.size + 2, 5, none⟩) (.inr (by simp)) (.int .i64 (n3 % 65537))
            have hS : ((W2.drew.setCell ⟨w.heap.size + 2, 4, none⟩ (.int .i64 (n1 % 9007199254740992))).setCell ⟨w.heap.size + 2, 5, none⟩ (.int .i64 (n3 % 65537))).cell? ⟨w.heap.size, 2, none⟩ = some (.int .i64 n1) ∧ ((W2.drew.setCell ⟨w.heap.size + 2, 4, none⟩ (.int .i64 (n1 % 9007199254740992))).setCell ⟨w.heap.size + 2, 5, none⟩ (.int .i64 (n3 % 65537))).cell? ⟨w.heap.size, 4, none⟩ = some (.int .i64 n3) ∧ ((W2.drew.setCell ⟨w.heap.size + 2, 4, none⟩ (.int .i64 (n1 % 9007199254740992))).setCell ⟨w.heap.size + 2, 5, none⟩ (.int .i64 (n3 % 65537))).cell? ⟨w.heap.size, 5, none⟩ = some (.int .i64 n4) := ⟨cell_of_heap hD6 2, cell_of_heap hD6 4, cell_of_heap hD6 5⟩
            refine ⟨⟨cell_of_heap HSD2.out 2, cell_of_heap HSD2.out 4, cell_of_heap HSD2.out 5⟩, ?_⟩
            clear a5 b5
            refine take_one 16 hS rfl (by kernel_rfl) rfl ?_
            apply Exists.intro
            refine And.intro (fun W' hS' => ?y16) (And.intro (fun _ _ _ h => h) ?_)
            case y16 => obtain ⟨d0, d1, d2⟩ := hS'; go_simp; rfl
            have a6 : W2.cell? ⟨w.heap.size + 2, 6, none⟩ = some (.int .i64 0) := cell_of_heap HP2.out 6
            have b6 : W2.frozen? ⟨w.heap.size + 2, 6, none⟩ = false := HP2.out.free 6
            refine only_one 17 rfl (by kernel_rfl) rfl ?_
            go_simp
            have hP7 := hP6.setN 6 (n4 % 65537) (by omega) (by omega)
            have hD7 := heap_setCell hD6 (a := ⟨w.heap.size + 2, 6, none⟩) (by simp) (.int .i64 (n4 % 65537))
            have hR7 := heap_setCell hR6 (a := ⟨w.heap.size + 2, 6, none⟩) (by simp) (.int .i64 (n4 % 65537))
            have hC7 := hC6.setCell (p := ⟨w.heap.size + 2, 6, none⟩) (.inr (by simp)) (.int .i64 (n4 % 65537))
            have hS : (((W2.drew.setCell ⟨w.heap.size + 2, 4, none⟩ (.int .i64 (n1 % 9007199254740992))).setCell ⟨w.heap.size + 2, 5, none⟩ (.int .i64 (n3 % 65537))).setCell ⟨w.heap.size + 2, 6, none⟩ (.int .i64 (n4 % 65537))).cell? ⟨w.heap.size, 2, none⟩ = some (.int .i64 n1) ∧ (((W2.drew.setCell ⟨w.heap.size + 2, 4, none⟩ (.int .i64 (n1 % 9007199254740992))).setCell ⟨w.heap.size + 2, 5, none⟩ (.int .i64 (n3 % 65537))).setCell ⟨w.heap.size + 2, 6, none⟩ (.int .i64 (n4 % 65537))).cell? ⟨w.heap.size, 4, none⟩ = some (.int .i64 n3) ∧ (((W2.drew.setCell ⟨w.heap.size + 2, 4, none⟩ (.int .i64 (n1 % 9007199254740992))).setCell ⟨w.heap.size + 2, 5, none⟩ (.int .i64 (n3 % 65537))).setCell ⟨w.heap.size + 2, 6, none⟩ (.int .i64 (n4 % 65537))).cell? ⟨w.heap.size, 5, none⟩ = some (.int .i64 n4) := ⟨cell_of_heap hD7 2, cell_of_heap hD7 4, cell_of_heap hD7 5⟩
            refine ⟨⟨cell_of_heap HSD2.out 2, cell_of_heap HSD2.out 4, cell_of_heap HSD2.out 5⟩, all_done (by kernel_rfl) ?_ _⟩
            clear a6 b6 hS
            go_wp2_with fail
            go_meet
            exact ⟨_, fun l l1 l2 l3 => ok_delta M F (n1 % 9007199254740992) (n3 % 65537) (n4 % 65537) _ l hM2 hM3 hF1 hF2 r1 (by omega) r3 (by omega) r4 (by omega) l1 l2 l3 rfl rfl rfl rfl rfl rfl, hP7, hD7, hR7, hC7⟩
          case rest =>
            clear HP2 HSD2 HRS2 HC2
            obtain ⟨V, hV, hP, hSd, hRs, hC⟩ := hcut
            have HV := Lib.hid hV
            have HP := Lib.hid hP
            have HSD := Lib.hid hSd
            have HRS := Lib.hid hRs
            have HC := Lib.hid hC
            clear hV hP hSd hRs hC
            obtain ⟨i9, hi9, hz90, hz91, hz92⟩ := info_parts info9
            go_wp2_with fail
            go_loopw [4] (fun i wr => ∃ (j : Nat) (acc : List ByteArray) (v : Value), j ≤ 20 ∧ j ≤ L.length ∧ i = .int .i64 j ∧ PktAt wr (w.heap.size + 2) 2 V ByteArray.empty v ∧ wr.ownsRow w.heap.size 9 1 v acc.length (acc.map Value.string) ∧ acc.length = j ∧ sizes acc ≤ 60 * j ∧ flat acc = true ∧ wr.heap[w.heap.size]? = some (.cells (seedC kd n0 n1 n2 n3 n4 n5 tx (.slice A L.length c)) 44 (0, 0)) ∧ wr.heap[w.heap.size + 1]? = some (.cells zeroPkt 26 (0, 0)) ∧ Chg (fun _ => False) w wr) (fun i _ => 20 - (intOf i).toNat)
            case atStart => exact ⟨0, [], .slice none 0 0, by omega, by omega, rfl, HP.out, World.ownsRow_nil _ _ _ _, rfl, by simp [sizes], rfl, HSD.out, HRS.out, HC.out⟩
            case round =>
              obtain ⟨j, acc, v, hj, hjL, rfl, hP, hO, hal, hsz, hfl, hSd, hRs, hCh⟩ := hrel
              have HPJ := Lib.hid hP
              have HOJ := Lib.hid hO
              have HAL := Lib.hid hal
              have HSZ := Lib.hid hsz
              have HFL := Lib.hid hfl
              have HSJ := Lib.hid hSd
              have HRJ := Lib.hid hRs
              have HCHJ := Lib.hid hCh
              have s8 : wr.cell? ⟨w.heap.size, 8, none⟩ = some (.slice A L.length c) := cell_of_heap hSd 8
              have hszr := hCh.size
              clear hP hO hal hsz hfl hSd hRs hCh HP HSD HRS HC
              by_cases hlt : j < L.length
              · by_cases hlt2 : j < 20
                · obtain ⟨g, p, rfl, hcs⟩ := lns_cells HL.out (by omega)
                  have hcj := HCHJ.out.cell (hcs j hlt) (fun h => h)
                  have hxs : (L.getD j ByteArray.empty).size ≤ 9223372036854775807 := HS.out _ (by simp [List.getD, hlt])
                  have HCW := Lib.hid (hcs j hlt)
                  clear hcs
                  generalize L.getD j ByteArray.empty = x at *
                  obtain ⟨va, vn, vc, rfl⟩ := own_slice HOJ.out
                  go_wp2_with fail
                  have hS : wr.drew.cell? ⟨w.heap.size + 2, 8, none⟩ = some (.slice va vn vc) ∧ wr.drew.cell? ⟨w.heap.size, 8, none⟩ = some (.slice (some ⟨g, p, none⟩) L.length c) ∧ wr.drew.cell? ⟨g, p + j, none⟩ = some (.string x) := ⟨cell_of_heap HPJ.out 8, s8, hcj⟩
                  refine region_lone (fun W' => W'.cell? ⟨w.heap.size + 2, 8, none⟩ = some (.slice va vn vc) ∧ W'.cell? ⟨w.heap.size, 8, none⟩ = some (.slice (some ⟨g, p, none⟩) L.length c) ∧ W'.cell? ⟨g, p + j, none⟩ = some (.string x)) [11] (by kernel_rfl) ?_
                  refine take_one 0 hS rfl (by kernel_rfl) rfl ?_
                  apply Exists.intro
                  refine And.intro (fun W' hS' => ?y0) (And.intro (fun _ _ _ h => h) ?_)
                  case y0 => obtain ⟨d0, d1, d2⟩ := hS'; go_simp; rfl
                  refine take_one 1 hS rfl (by kernel_rfl) rfl ?_
                  apply Exists.intro
                  refine And.intro (fun W' hS' => ?y1) (And.intro (fun _ _ _ h => h) ?_)
                  case y1 => obtain ⟨d0, d1, d2⟩ := hS'; go_simp; rfl
                  refine take_one 2 hS rfl (by kernel_rfl) rfl ?_
                  apply Exists.intro
                  refine And.intro (fun W' hS' => ?y2) (And.intro (fun _ _ _ h => h) ?_)
                  case y2 => obtain ⟨d0, d1, d2⟩ := hS'; go_simp; rfl
                  refine take_one 3 hS rfl (by kernel_rfl) rfl ?_
                  apply Exists.intro
                  refine And.intro (fun W' hS' => ?y3) (And.intro (fun _ _ _ h => h) ?_)
                  case y3 => obtain ⟨d0, d1, d2⟩ := hS'; go_simp; rfl
                  refine take_one 4 hS rfl (by kernel_rfl) rfl ?_
                  apply Exists.intro
                  refine And.intro (fun W' hS' => ?y4) (And.intro (fun _ _ _ h => h) ?_)
                  case y4 => obtain ⟨d0, d1, d2⟩ := hS'; go_simp; rfl
                  refine take_one 5 hS rfl (by kernel_rfl) rfl ?_
                  apply Exists.intro
                  refine And.intro (fun W' hS' => ?y5) (And.intro (fun _ _ _ h => h) ?_)
                  case y5 => obtain ⟨d0, d1, d2⟩ := hS'; go_simp; rfl
                  refine take_one 6 hS rfl (by kernel_rfl) rfl ?_
                  apply Exists.intro
                  refine And.intro (fun W' hS' => ?y6) (And.intro (fun _ _ _ h => h) ?_)
                  case y6 => obtain ⟨d0, d1, d2⟩ := hS'; go_simp; rfl
                  refine only_one 7 rfl (by kernel_rfl) rfl ?_
                  go_simp
                  have hd := (Chg.refl (fun _ => False) wr).drew
                  refine (flat_some _ x hxs).mono ?_
                  rintro en w9 ⟨r, rfl, hr10, hr60, hCh9⟩
                  have hP9 := (HPJ.out.keep hd (fun h => h)).keep hCh9 (fun h => h)
                  have hCH9 := (HCHJ.out.trans hd).trans hCh9
                  have hSD9 := hCH9.block w.heap.size
                  have hD9 := (hd.trans hCh9).keep HSJ.out (fun h => h)
                  have hR9 := (hd.trans hCh9).keep HRJ.out (fun h => h)
                  have hX9 := (hd.trans hCh9).cell hcj (fun h => h)
                  have hO9 : w9.ownsRow w.heap.size 9 1 (.slice va vn vc) acc.length (acc.map Value.string) := own_move HOJ.out (fun q hq => (hd.trans hCh9).block q (by obtain ⟨c, t, f, hc⟩ := own_cells HOJ.out hq; exact lt_of_heap hc) (fun h => h))
                  have hS9 : w9.cell? ⟨w.heap.size + 2, 8, none⟩ = some (.slice va vn vc) ∧ w9.cell? ⟨w.heap.size, 8, none⟩ = some (.slice (some ⟨g, p, none⟩) L.length c) ∧ w9.cell? ⟨g, p + j, none⟩ = some (.string x) := ⟨cell_of_heap hP9 8, cell_of_heap hD9 8, hX9⟩
                  refine ⟨hS9, ?_⟩
                  refine only_one 8 rfl (by kernel_rfl) rfl ?_
                  go_simp
                  refine ⟨⟨cell_of_heap (heap_alloc hP9) 8, cell_of_heap (heap_alloc hD9) 8, cell_alloc hX9 _⟩, ?_⟩
                  refine only_one 9 rfl (by kernel_rfl) rfl ?_
                  refine wp_append (.tmp 79) (.tmp 86) 24 rfl w.heap.size 9 i9 (.string ByteArray.empty) 1 16 Tryd.underlying24 hi9 hz90 hz91 hz92 rfl (by decide) (.slice va vn vc) acc.length (acc.map Value.string) rfl (hO9.alloc _) ⟨w9.heap.size, 0, none⟩ 1 1 [.string r] rfl rfl (cell_one_new _ _ _) (by simp [Value.oneCell']) ?_ ?_ ?_ ?_
                  · unfold maxLen; have := HAL.out; omega
                  · have := HAL.out; omega
                  · have := hCH9.size; simp; omega
                  intro v' w10 hO10 hg10
                  obtain ⟨va', vn', vc', rfl⟩ := own_slice hO10
                  have hP10 : PktAt w10 (w.heap.size + 2) 2 V ByteArray.empty (.slice va vn vc) := grown_keep hg10 (heap_alloc hP9) (own_ne hO9 hP9 (by decide))
                  have hD10 := grown_keep hg10 (heap_alloc hD9) (own_ne hO9 hD9 (by decide))
                  have hR10 := grown_keep hg10 (heap_alloc hR9) (own_ne hO9 hR9 (by decide))
                  have hCH10 := (hCH9.alloc (.cells #[.string r] 9)).grown hg10 (fun q hq => .inr (own_block hO9 hq))
                  have hS10 : w10.cell? ⟨w.heap.size + 2, 8, none⟩ = some (.slice va vn vc) ∧ w10.cell? ⟨w.heap.size, 8, none⟩ = some (.slice (some ⟨g, p, none⟩) L.length c) ∧ w10.cell? ⟨g, p + j, none⟩ = some (.string x) := ⟨cell_of_heap hP10 8, cell_of_heap hD10 8, hCH10.cell HCW.out (fun h => h)⟩
                  refine ⟨fun _ => hS10, ?_⟩
                  refine take_one 10 hS10 rfl (by kernel_rfl) rfl ?_
                  apply Exists.intro
                  refine And.intro (fun W' hS' => ?y10) (And.intro (fun _ _ _ h => h) ?_)
                  case y10 => obtain ⟨d0, d1, d2⟩ := hS'; go_simp; rfl
                  have c8 : w10.cell? ⟨w.heap.size + 2, 8, none⟩ = some (.slice va vn vc) := hS10.1
                  have f8 := hP10.free 8
                  refine only_one 11 rfl (by kernel_rfl) rfl ?_
                  go_simp
                  refine ⟨by kernel_rfl, ?_⟩
                  have hst := (Chg.refl (fun k => k = w.heap.size + 2) w10).setCell (p := ⟨w.heap.size + 2, 8, none⟩) (.inl rfl) (.slice va' vn' vc')
                  have HP11 := Lib.hid (hP10.setL (.slice va' vn' vc'))
                  have HD11 := Lib.hid (hst.keep hD10 (by simp))
                  have HR11 := Lib.hid (hst.keep hR10 (by simp))
                  have HO11 : Hid ((w10.setCell ⟨w.heap.size + 2, 8, none⟩ (.slice va' vn' vc')).ownsRow w.heap.size 9 1 (.slice va' vn' vc') (acc ++ [r]).length ((acc ++ [r]).map Value.string)) := Lib.hid (by
                    rw [List.length_append, List.map_append]
                    exact own_move hO10 (fun q hq => hst.block q (by obtain ⟨c, t, f, hc⟩ := own_cells hO10 hq; exact lt_of_heap hc) (fun e => own_ne hO10 hP10 (by decide) (by rw [hq, e]))))
                  have HCH11 := Lib.hid (hCH10.trans' hst (fun i h1 h2 => by omega))
                  clear hst c8 f8 hCH10 hP10 hO10 hg10 hP9 hCH9 hO9 hCh9 hd hS hS9 hS10 hD9 hD10 hR9 hR10 hX9 s8 hcj hSD9
                  generalize w10.setCell ⟨w.heap.size + 2, 8, none⟩ (.slice va' vn' vc') = w11 at *
                  have HLN : Hid ((acc ++ [r]).length = j + 1) := Lib.hid (by rw [List.length_append, HAL.out]; rfl)
                  have HSZ2 : Hid (sizes (acc ++ [r]) ≤ 60 * (j + 1)) := Lib.hid (by rw [sizes_snoc]; have := HSZ.out; omega)
                  have HFL2 : Hid (flat (acc ++ [r]) = true) := Lib.hid (by have := HFL.out; unfold flat at *; rw [List.all_append, this]; simp [hr10])
                  clear hr10 hr60
                  go_wp2_with fail
                  go_roundw
                  case rel => exact ⟨j + 1, acc ++ [r], _, by omega, by omega, by go_num, HP11.out, HO11.out, HLN.out, HSZ2.out, HFL2.out, HD11.out, HR11.out, HCH11.out⟩
                  case measure => simp [intOf] <;> omega
                · go_wp2_with fail
                  go_meet
                  exact ⟨V, ByteArray.empty, v, acc, HPJ.out, HV.out acc HFL.out (by have := HSZ.out; omega) (by have := HAL.out; omega), HOJ.out, HRJ.out, HCHJ.out⟩
              · go_wp2_with fail
                go_meet
                exact ⟨V, ByteArray.empty, v, acc, HPJ.out, HV.out acc HFL.out (by have := HSZ.out; omega) (by have := HAL.out; omega), HOJ.out, HRJ.out, HCHJ.out⟩
      · go_wp2_with fail
        refine b1.mono ?_
        rintro e W ⟨rfl, rfl⟩
        go_wp2_with fail
        go_meet
        have hst := (Chg.refl (fun k => k = w.heap.size + 2) W).setCell (p := ⟨w.heap.size + 2, 4, none⟩) (.inl rfl) (.int .i64 (n1 % 9007199254740992))
        exact ⟨_, _, _, [], HP.out.setN 4 _ (by omega) (by omega), ok_renew N1 (n1 % 9007199254740992) _ hV1 hV2 r1 (by omega) rfl rfl rfl rfl rfl rfl, World.ownsRow_nil _ _ _ _, heap_setCell HRS.out (by simp) _, HC.out.trans' hst (fun i h1 h2 => by omega)⟩
      · go_wp2_with fail
        refine b5.mono ?_
        rintro e W ⟨rfl, rfl⟩
        go_wp2_with fail
        go_meet
        have hst := (Chg.refl (fun k => k = w.heap.size + 2) W).setCell (p := ⟨w.heap.size + 2, 3, none⟩) (.inl rfl) (.int .i64 (n5 % 7))
        exact ⟨_, _, _, [], HP.out.setN 3 _ (by omega) (by omega), ok_ack 4 N1 (n5 % 7) _ (.inl rfl) hV1 hV2 r5 (by omega) rfl rfl rfl rfl rfl rfl, World.ownsRow_nil _ _ _ _, heap_setCell HRS.out (by simp) _, HC.out.trans' hst (fun i h1 h2 => by omega)⟩
      · go_wp2_with fail
        refine b5.mono ?_
        rintro e W ⟨rfl, rfl⟩
        go_wp2_with fail
        go_meet
        have hst := (Chg.refl (fun k => k = w.heap.size + 2) W).setCell (p := ⟨w.heap.size + 2, 3, none⟩) (.inl rfl) (.int .i64 (n5 % 7))
        exact ⟨_, _, _, [], HP.out.setN 3 _ (by omega) (by omega), ok_ack 5 N1 (n5 % 7) _ (.inr rfl) hV1 hV2 r5 (by omega) rfl rfl rfl rfl rfl rfl, World.ownsRow_nil _ _ _ _, heap_setCell HRS.out (by simp) _, HC.out.trans' hst (fun i h1 h2 => by omega)⟩
    case rest =>
      obtain ⟨V, x, v, l, hP, hck, hO, hR, hC⟩ := hcut
      obtain ⟨va, vn, vc, rfl⟩ := own_slice hO
      have HP3 := Lib.hid hP
      have HQ3 := Lib.hid hR
      have HO3 := Lib.hid hO
      have HC3 := Lib.hid hC
      have HCK := Lib.hid hck
      clear hP hR hO hC hck
      unfold PktAt at HP3
      go_wp2_with (first | ((with_reducible refine gate_dst (N := 96) rfl ?_); refine wpList_load_row rfl 26 (.tmp 3) rfl (w.heap.size + 2) rfl 26 _ (0, 0) _ HP3.out Tryd.underlying26 rfl infoP ?_) | ((with_reducible refine gate_store (t := 26) (p := 2) (v := .tmp 96) rfl ?_); refine wpList_store_row rfl 26 (.tmp 2) (.tmp 96) rfl (w.heap.size + 1) _ rfl rfl 26 _ HQ3.out infoP rfl (by simp [Value.oneCell']) ?_))
      go_wp2_with fail
      refine bodyPost_ret (results_cell_row rfl _ _ (w.heap.size + 1) 26 _ (0, 0) _ rfl (setRow_heap _ _ _ _ _ _ HQ3.out) Tryd.underlying26 rfl infoP) rfl ?_
      have h9 := HC3.out
      exact ⟨K, V, x, _, l, rfl, HCK.out, own_move HO3.out (fun q hq => setRow_other _ _ _ _ (fun e => own_ne HO3.out HQ3.out (by decide) (by rw [hq, e]))), ⟨h9.os, h9.tape, h9.output, by rw [size_setRow]; exact h9.size, fun q hq _ => (setRow_other _ _ _ _ (by omega)).trans (h9.block q hq (fun h => h))⟩⟩
end Go.Proofs.YteiedafdakffeaaDoor
