/- Up, Down. -/
import Derived.Test.YtfhmmekamommcaaGreatDoorOrd5
namespace Go.Proofs.YtfhmmekamommcaaGreatDoor
set_option linter.unusedVariables false
set_option linter.unusedSimpArgs false
open Go Go.RowKit Go.Proofs Go.Shelf
theorem up1_any {w : World} {b bu bd cu cd n Bo : Nat} {U D : Nat → Nat → Bool} (h : IsOrd w b bu bd cu cd n U D) (ho : w.cell? ⟨Bo, 0, none⟩ = some (.pointer (some ⟨b, 0, none⟩))) :
    Calls Tryz.prog 142 #[.pointer (some ⟨Bo, 0, none⟩)] w fun e w' => e = .returned (.slice (some ⟨bu, 0, none⟩) n cu) ∧ w = w' := by
  have h1 := h.up
  go_enter Tryz.func142, Tryz.ntmps142
  go_wp2
  go_ret
  exact ⟨rfl, rfl⟩
theorem down1_any {w : World} {b bu bd cu cd n Bo : Nat} {U D : Nat → Nat → Bool} (h : IsOrd w b bu bd cu cd n U D) (ho : w.cell? ⟨Bo, 0, none⟩ = some (.pointer (some ⟨b, 0, none⟩))) :
    Calls Tryz.prog 143 #[.pointer (some ⟨Bo, 0, none⟩)] w fun e w' => e = .returned (.slice (some ⟨bd, 0, none⟩) n cd) ∧ w = w' := by
  have h1 := h.dn
  go_enter Tryz.func143, Tryz.ntmps143
  go_wp2
  go_ret
  exact ⟨rfl, rfl⟩
/-- those of a thing -/
def rowOf (n : Nat) (U : Nat → Nat → Bool) (a : Int) : List Nat := if 0 ≤ a ∧ a < n then els n (U a.toNat) else []
theorem list_any (w : World) (b : Nat) (f : Nat) (c : Array Value) : Calls Tryz.prog 141 #[.pointer (some ⟨b, 0, none⟩), .func (.func f) #[] c] w fun e w' => e = .returned (.func (.func 173) #[] #[.pointer (some ⟨w.heap.size, 0, none⟩), .pointer (some ⟨w.heap.size + 1, 0, none⟩)]) ∧
    w' = (w.alloc (.cells #[.pointer (some ⟨b, 0, none⟩)] 55)).alloc (.cells #[.func (.func f) #[] c] 190) := by
  go_enter Tryz.func141, Tryz.ntmps141
  go_wp2
  go_ret
  exact ⟨rfl, rfl⟩
theorem list1_up {w : World} {b bu bd cu cd n Bo Bo2 Bw : Nat} {U D : Nat → Nat → Bool} (h : IsOrd w b bu bd cu cd n U D) (hT : TabOk w) (hg : 0 < w.heap.size) (ho : w.cell? ⟨Bo, 0, none⟩ = some (.pointer (some ⟨b, 0, none⟩)))
    (hw : w.cell? ⟨Bw, 0, none⟩ = some (.func (.func 142) #[] #[.pointer (some ⟨Bo2, 0, none⟩)])) (ho2 : w.cell? ⟨Bo2, 0, none⟩ = some (.pointer (some ⟨b, 0, none⟩))) (a : Int) :
    Calls Tryz.prog 173 #[.int .i64 a, .pointer (some ⟨Bo, 0, none⟩), .pointer (some ⟨Bw, 0, none⟩)] w (SeqPost w (rowOf n U a) (fun _ => False)) := by
  have hT0 : 1 < w.heap.size := World.block_lt_of_cell? _ _ (hT 0 (by omega))
  have hI := is_some h a
  unfold optr at hI
  by_cases ha : 0 ≤ a ∧ a < n
  · obtain ⟨x, rfl⟩ := Int.eq_ofNat_of_zero_le ha.1
    have hx : x < n := by omega
    have e1 : decide (0 ≤ (x : Int) ∧ (x : Int) < n) = true := decide_eq_true ha
    have e2 : rowOf n U (x : Int) = els n (U x) := by unfold rowOf; rw [if_pos ha]; rfl
    rw [e1] at hI
    rw [e2]
    have hc := h.hu x hx
    have hU := up1_any h ho2
    have hn := h.n16
    have hT' : TabOk (w.alloc (.cells #[.int .u32 (msk n (U x) : Nat)] 153)) := hT.alloc _
    have hC := collect_set (w.alloc (.cells #[.int .u32 (msk n (U x) : Nat)] 153)) w.heap.size n (U x) h.n16 (heap_new _ _) hT' (by omega)
    have HC := Lib.hid hC
    obtain ⟨ha1, ha2⟩ := ha
    clear e1 e2 hC hT hT' h hg
    go_enter Tryz.func173, Tryz.ntmps173
    go_wp2_with fail
    refine hI.mono ?_
    rintro e w' ⟨rfl, rfl⟩
    go_wp2_with fail
    refine hU.mono ?_
    rintro e w' ⟨rfl, rfl⟩
    go_wp2_with fail
    refine (all_any _ _).mono ?_
    rintro e w' ⟨rfl, rfl⟩
    go_wp2_with fail
    refine HC.out.mono ?_
    rintro e w' ⟨v, rfl, h1, h2⟩
    have H1 := Lib.hid h1
    have H2 := Lib.hid h2
    clear h1 h2
    go_wp2
    go_ret
    exact ⟨v, rfl, own_mono H1.out (by simp), ((Chg.refl _ _).alloc _).trans' H2.out (fun i hi e => by omega)⟩
  · have e1 : decide (0 ≤ a ∧ a < n) = false := decide_eq_false ha
    have e2 : rowOf n U a = [] := by unfold rowOf; rw [if_neg ha]
    rw [e1] at hI
    rw [e2]
    clear e1 e2 ha h hT
    go_enter Tryz.func173, Tryz.ntmps173
    go_wp2_with fail
    refine hI.mono ?_
    rintro e w' ⟨rfl, rfl⟩
    go_wp2
    go_ret
    exact ⟨_, rfl, by simpa [nints] using World.ownsRow_nil _ _ _ _, Chg.refl _ _⟩
theorem list1_down {w : World} {b bu bd cu cd n Bo Bo2 Bw : Nat} {U D : Nat → Nat → Bool} (h : IsOrd w b bu bd cu cd n U D) (hT : TabOk w) (hg : 0 < w.heap.size) (ho : w.cell? ⟨Bo, 0, none⟩ = some (.pointer (some ⟨b, 0, none⟩)))
    (hw : w.cell? ⟨Bw, 0, none⟩ = some (.func (.func 143) #[] #[.pointer (some ⟨Bo2, 0, none⟩)])) (ho2 : w.cell? ⟨Bo2, 0, none⟩ = some (.pointer (some ⟨b, 0, none⟩))) (a : Int) :
    Calls Tryz.prog 173 #[.int .i64 a, .pointer (some ⟨Bo, 0, none⟩), .pointer (some ⟨Bw, 0, none⟩)] w (SeqPost w (rowOf n D a) (fun _ => False)) := by
  have hT0 : 1 < w.heap.size := World.block_lt_of_cell? _ _ (hT 0 (by omega))
  have hI := is_some h a
  unfold optr at hI
  by_cases ha : 0 ≤ a ∧ a < n
  · obtain ⟨x, rfl⟩ := Int.eq_ofNat_of_zero_le ha.1
    have hx : x < n := by omega
    have e1 : decide (0 ≤ (x : Int) ∧ (x : Int) < n) = true := decide_eq_true ha
    have e2 : rowOf n D (x : Int) = els n (D x) := by unfold rowOf; rw [if_pos ha]; rfl
    rw [e1] at hI
    rw [e2]
    have hc := h.hd x hx
    have hU := down1_any h ho2
    have hn := h.n16
    have hT' : TabOk (w.alloc (.cells #[.int .u32 (msk n (D x) : Nat)] 153)) := hT.alloc _
    have hC := collect_set (w.alloc (.cells #[.int .u32 (msk n (D x) : Nat)] 153)) w.heap.size n (D x) h.n16 (heap_new _ _) hT' (by omega)
    have HC := Lib.hid hC
    obtain ⟨ha1, ha2⟩ := ha
    clear e1 e2 hC hT hT' h hg
    go_enter Tryz.func173, Tryz.ntmps173
    go_wp2_with fail
    refine hI.mono ?_
    rintro e w' ⟨rfl, rfl⟩
    go_wp2_with fail
    refine hU.mono ?_
    rintro e w' ⟨rfl, rfl⟩
    go_wp2_with fail
    refine (all_any _ _).mono ?_
    rintro e w' ⟨rfl, rfl⟩
    go_wp2_with fail
    refine HC.out.mono ?_
    rintro e w' ⟨v, rfl, h1, h2⟩
    have H1 := Lib.hid h1
    have H2 := Lib.hid h2
    clear h1 h2
    go_wp2
    go_ret
    exact ⟨v, rfl, own_mono H1.out (by simp), ((Chg.refl _ _).alloc _).trans' H2.out (fun i hi e => by omega)⟩
  · have e1 : decide (0 ≤ a ∧ a < n) = false := decide_eq_false ha
    have e2 : rowOf n D a = [] := by unfold rowOf; rw [if_neg ha]
    rw [e1] at hI
    rw [e2]
    clear e1 e2 ha h hT
    go_enter Tryz.func173, Tryz.ntmps173
    go_wp2_with fail
    refine hI.mono ?_
    rintro e w' ⟨rfl, rfl⟩
    go_wp2
    go_ret
    exact ⟨_, rfl, by simpa [nints] using World.ownsRow_nil _ _ _ _, Chg.refl _ _⟩
theorem three_new (w : World) (o1 o2 o3 : Obj) : (((w.alloc o1).alloc o2).alloc o3).heap[w.heap.size]? = some o1 ∧ (((w.alloc o1).alloc o2).alloc o3).heap[w.heap.size + 1]? = some o2 ∧ (((w.alloc o1).alloc o2).alloc o3).heap[w.heap.size + 2]? = some o3 ∧ (((w.alloc o1).alloc o2).alloc o3).heap.size = w.heap.size + 3 := by
  refine ⟨heap_alloc (heap_alloc (heap_new w o1)), ?_, ?_, by simp⟩
  · have := heap_alloc (o' := o3) (heap_new (w.alloc o1) o2)
    rwa [World.size_alloc] at this
  · have := heap_new ((w.alloc o1).alloc o2) o3
    rwa [World.size_alloc, World.size_alloc] at this
theorem up_some {w : World} {b bu bd cu cd n : Nat} {U D : Nat → Nat → Bool} (h : IsOrd w b bu bd cu cd n U D) (hT : TabOk w) (a : Int) :
    Calls Tryz.prog 119 #[optr b, .int .i64 a] w (SeqPost w (rowOf n U a) (fun _ => False)) := by
  have hT0 : 1 < w.heap.size := World.block_lt_of_cell? _ _ (hT 0 (by omega))
  have hl := h.lt
  have e0 := three_new w (.cells #[.pointer (some ⟨b, 0, none⟩)] 55) (.cells #[.pointer (some ⟨b, 0, none⟩)] 55) (.cells #[.func (.func 142) #[] #[.pointer (some ⟨w.heap.size, 0, none⟩)]] 190)
  obtain ⟨e1, e2, e3, e4⟩ := e0
  have hO : IsOrd (((w.alloc (.cells #[.pointer (some ⟨b, 0, none⟩)] 55)).alloc (.cells #[.pointer (some ⟨b, 0, none⟩)] 55)).alloc (.cells #[.func (.func 142) #[] #[.pointer (some ⟨w.heap.size, 0, none⟩)]] 190)) b bu bd cu cd n U D :=
    h.keep fun k c t f _ e => heap_alloc (heap_alloc (heap_alloc e))
  have hL := list1_up hO (((hT.alloc _).alloc _).alloc _) (by simp) (cell_of_heap e2 0) (cell_of_heap e3 0) (cell_of_heap e1 0) a
  have HL := Lib.hid hL
  have hA := list_any (w.alloc (.cells #[.pointer (some ⟨b, 0, none⟩)] 55)) b 142 #[.pointer (some ⟨w.heap.size, 0, none⟩)]
  rw [World.size_alloc] at hA
  have HA := Lib.hid hA
  unfold optr
  clear hO hL e1 e2 e3 hT h hA hl
  go_enter Tryz.func119, Tryz.ntmps119
  go_wp2_with fail
  refine HA.out.mono ?_
  rintro e w' ⟨rfl, rfl⟩
  go_wp2_with fail
  refine HL.out.mono ?_
  rintro e w' ⟨v, rfl, h1, h2⟩
  have H1 := Lib.hid h1
  have H2 := Lib.hid h2
  clear h1 h2
  go_wp2
  go_ret
  exact ⟨v, rfl, own_mono H1.out (by simp; omega), (((Chg.refl _ _).alloc _).alloc _).alloc _ |>.trans H2.out⟩
theorem down_some {w : World} {b bu bd cu cd n : Nat} {U D : Nat → Nat → Bool} (h : IsOrd w b bu bd cu cd n U D) (hT : TabOk w) (a : Int) :
    Calls Tryz.prog 120 #[optr b, .int .i64 a] w (SeqPost w (rowOf n D a) (fun _ => False)) := by
  have hT0 : 1 < w.heap.size := World.block_lt_of_cell? _ _ (hT 0 (by omega))
  have hl := h.lt
  have e0 := three_new w (.cells #[.pointer (some ⟨b, 0, none⟩)] 55) (.cells #[.pointer (some ⟨b, 0, none⟩)] 55) (.cells #[.func (.func 143) #[] #[.pointer (some ⟨w.heap.size, 0, none⟩)]] 190)
  obtain ⟨e1, e2, e3, e4⟩ := e0
  have hO : IsOrd (((w.alloc (.cells #[.pointer (some ⟨b, 0, none⟩)] 55)).alloc (.cells #[.pointer (some ⟨b, 0, none⟩)] 55)).alloc (.cells #[.func (.func 143) #[] #[.pointer (some ⟨w.heap.size, 0, none⟩)]] 190)) b bu bd cu cd n U D :=
    h.keep fun k c t f _ e => heap_alloc (heap_alloc (heap_alloc e))
  have hL := list1_down hO (((hT.alloc _).alloc _).alloc _) (by simp) (cell_of_heap e2 0) (cell_of_heap e3 0) (cell_of_heap e1 0) a
  have HL := Lib.hid hL
  have hA := list_any (w.alloc (.cells #[.pointer (some ⟨b, 0, none⟩)] 55)) b 143 #[.pointer (some ⟨w.heap.size, 0, none⟩)]
  rw [World.size_alloc] at hA
  have HA := Lib.hid hA
  unfold optr
  clear hO hL e1 e2 e3 hT h hA hl
  go_enter Tryz.func120, Tryz.ntmps120
  go_wp2_with fail
  refine HA.out.mono ?_
  rintro e w' ⟨rfl, rfl⟩
  go_wp2_with fail
  refine HL.out.mono ?_
  rintro e w' ⟨v, rfl, h1, h2⟩
  have H1 := Lib.hid h1
  have H2 := Lib.hid h2
  clear h1 h2
  go_wp2
  go_ret
  exact ⟨v, rfl, own_mono H1.out (by simp; omega), (((Chg.refl _ _).alloc _).alloc _).alloc _ |>.trans H2.out⟩
end Go.Proofs.YtfhmmekamommcaaGreatDoor
