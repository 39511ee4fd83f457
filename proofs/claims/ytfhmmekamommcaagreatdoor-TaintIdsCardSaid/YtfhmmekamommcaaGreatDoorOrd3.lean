/- (*Order).Add -/
import Derived.Test.YtfhmmekamommcaaGreatDoorOrd2
import Derived.RegionTactic
import Derived.Deep.RegionHeld3
import Derived.Deep.DeepCutAuto
import Derived.Test.YtfhmmekamommcaaGreatDoorInRound
import Derived.BigRegionIn
namespace Go.Proofs.YtfhmmekamommcaaGreatDoor
set_option linter.unusedVariables false
set_option linter.unusedSimpArgs false
open Go Go.RowKit Go.Proofs Go.Shelf
attribute [local go_sem] Oper.semAt_some
theorem two_new1 (w : World) (o o' : Obj) : (((w.alloc o).alloc o').drew).heap[w.heap.size]? = some o := heap_alloc (heap_new w o)
theorem two_new2 (w : World) (o o' : Obj) : (((w.alloc o).alloc o').drew).heap[w.heap.size + 1]? = some o' := by
  have := heap_new (w.alloc o) o'
  rwa [World.size_alloc] at this
/-- rows with more in those that a list names -/
def upd (U : Nat → Nat → Bool) (l : List Nat) (o : Nat → Bool) : Nat → Nat → Bool := fun i j => U i j || (decide (i ∈ l) && o j)
set_option maxHeartbeats 1000000 in
theorem add_ok {w : World} {b bu bd cu cd n : Nat} {U D : Nat → Nat → Bool} (h : IsOrd w b bu bd cu cd n U D) (hT : TabOk w) (x y : Nat) (hx : x < n) (hy : y < n) (hr : U y x = false)
    (h1 : b ≠ 1) (h2 : bu ≠ 1) (h3 : bd ≠ 1) :
    Calls Tryz.prog 51 #[optr b, .int .i64 (x : Int), .int .i64 (y : Int)] w fun e w' => e = .returned (.int .i64 0) ∧
      IsOrd w' b bu bd cu cd n (upd U (els n (D x)) (U y)) (upd D (els n (U y)) (D x)) ∧ Chg (fun k => k = bu ∨ k = bd) w w' := by
  have hn := h.n16
  have a1 : decide (0 ≤ (x : Int) ∧ (x : Int) < n) = true := decide_eq_true (by omega)
  have a2 : decide (0 ≤ (y : Int) ∧ (y : Int) < n) = true := decide_eq_true (by omega)
  have a3 : ((n : Int) == 0) = false := by rw [beq_eq_false_iff_ne]; have := h.n1; omega
  unfold optr
  refine (callsIn_wide (n := 9)).1 ?_
  refine callsIn_of_wp_marks Tryz.func51 rfl trivial ?_ rfl
  simp only [Tryz.ntmps51, List.size_toArray, List.length_cons, List.length_nil, Nat.reduceAdd, Nat.reduceSub, Array.replicate_succ, Array.replicate_zero, List.push_toArray, List.append_toArray, List.nil_append, List.cons_append]
  have hW : IsOrd (w.alloc (.cells #[optr b] 55)) b bu bd cu cd n U D := h.keep fun k c t f _ e => heap_alloc e
  have hbox := heap_new w (.cells #[optr b] 55)
  have hTW : TabOk (w.alloc (.cells #[optr b] 55)) := hT.alloc _
  have hC1 : Chg (fun k => k = bu ∨ k = bd) w (w.alloc (.cells #[optr b] 55)) := (Chg.refl _ _).alloc _
  have hsz : (w.alloc (.cells #[optr b] 55)).heap.size = w.heap.size + 1 := by simp
  unfold optr at *
  generalize hW1 : w.alloc (.cells #[.pointer (some ⟨b, 0, none⟩)] 55) = W1 at *
  have hI1 := is_some hW x
  have hI2 := is_some hW y
  have hM := many_some hW
  have hHas := has_any W1 (msk n (U y)) x (msk_lt16 n _ hn) (by omega)
  have e4 : (msk n (U y)).testBit x = false := by rw [msk_bit]; simp [hr]
  rw [e4] at hHas
  rw [a1] at hI1
  rw [a2] at hI2
  unfold optr at hI1 hI2 hM
  have hup := hW.up
  have hdn := hW.dn
  have hcu := hW.hu y hy
  have hcd := hW.hd x hx
  have hcb : W1.cell? ⟨w.heap.size, 0, none⟩ = some (.pointer (some ⟨b, 0, none⟩)) := cell_of_heap hbox 0
  obtain ⟨l1, l2, l3⟩ := hW.lt
  have l4 : w.heap.size < W1.heap.size := by omega
  have Hsz := Lib.hid hsz
  have HW1 := Lib.hid hW1
  clear a1 a2 e4 hsz hW1
  refine wpIn_wide.2 ?_
  go_wp2_with fail
  rw [HW1.out]
  refine hM.mono ?_
  rintro e w' ⟨rfl, rfl⟩
  go_wp2_with fail
  refine hI1.mono ?_
  rintro e w' ⟨rfl, rfl⟩
  go_wp2_with fail
  refine hI2.mono ?_
  rintro e w' ⟨rfl, rfl⟩
  go_wp2_with fail
  refine hHas.mono ?_
  rintro e w' ⟨rfl, rfl⟩
  clear hM hI1 hI2 hHas
  go_upto_region 8 with fail
  go_cut [7, 8] from 34 to 47 (fun s7 s8 W => ∃ B7 B8 : Nat, s7 = .pointer (some ⟨B7, 0, none⟩) ∧ s8 = .pointer (some ⟨B8, 0, none⟩) ∧ B7 ≠ B8 ∧ w.heap.size < B7 ∧ w.heap.size < B8 ∧ W.heap[B7]? = some (.cells #[.int .u32 (msk n (D x) : Nat)] 153 (0, 0)) ∧ W.heap[B8]? = some (.cells #[.int .u32 (msk n (U y) : Nat)] 153 (0, 0)) ∧ Chg (fun _ => False) W1 W)
  case first =>
    have e1 := World.new_ne W1 _ hcb
    have e2 := World.new_ne W1 _ hup
    have e3 := World.new_ne W1 _ hdn
    have e4 := World.new_ne W1 _ hcu
    have e5 := World.new_ne W1 _ hcd
    go_region_held3 (fun W => W.cell? ⟨w.heap.size, 0, none⟩ = some (.pointer (some ⟨b, 0, none⟩)) ∧ W.cell? ⟨b, 0, none⟩ = some (.slice (some ⟨bu, 0, none⟩) n cu) ∧ W.cell? ⟨b, 1, none⟩ = some (.slice (some ⟨bd, 0, none⟩) n cd) ∧ W.cell? ⟨bu, y, none⟩ = some (.int .u32 (msk n (U y) : Nat)) ∧ W.cell? ⟨bd, x, none⟩ = some (.int .u32 (msk n (D x) : Nat))) (go_keep) (first | fail)
    · go_wp2_with fail
      go_meet
      exact ⟨W1.heap.size, W1.heap.size + 1, rfl, rfl, by omega, by omega, by omega, two_new1 _ _ _, two_new2 _ _ _, (((Chg.refl _ _).alloc _).alloc _).drew⟩
    · go_wp2_with fail
      go_meet
      exact ⟨W1.heap.size + 1, W1.heap.size, rfl, rfl, by omega, by omega, by omega, two_new2 _ _ _, two_new1 _ _ _, (((Chg.refl _ _).alloc _).alloc _).drew⟩
  case rest =>
    obtain ⟨B7, B8, rfl, rfl, hne, hb7, hb8, hB7, hB8, hC⟩ := hcut
    have hc7 := cell_of_heap hB7 0
    go_wp2_with (go_at_call 92; refine (all_any _ _).mono ?_; rintro e w' ⟨rfl, rfl⟩)
    have hNc : Chg (fun k => k = bu ∨ k = bd) w wc := hC1.trans' hC (fun _ _ h => h.elim)
    have hO := hW.chg hC (fun _ _ h => h)
    have hBox := hC.keep hbox (fun h => h)
    have hTc := hTW.chg hC (fun h => h)
    obtain ⟨m1, m2, m3⟩ := hO.lt
    have m4 := lt_of_heap hBox
    have m7 := lt_of_heap hB7
    have m8 := lt_of_heap hB8
    have n1 := h.ne1
    have n2 := h.ne2
    have n3 := h.ne3
    have ql := h.lt
    have hg0 : 1 < wc.heap.size := by
      have := hTc 0 (by omega)
      exact World.block_lt_of_cell? _ _ this
    refine range_set1 (Bs := wc.heap.size) (by simp) rfl n (D x) hn (heap_new _ _) (by omega) (hTc.alloc _)
      (fun pre W => IsOrd W b bu bd cu cd n (upd U pre (U y)) D ∧ W.heap[w.heap.size]? = some (.cells #[.pointer (some ⟨b, 0, none⟩)] 55 (0, 0)) ∧
        W.heap[B7]? = some (.cells #[.int .u32 (msk n (D x) : Nat)] 153 (0, 0)) ∧ W.heap[B8]? = some (.cells #[.int .u32 (msk n (U y) : Nat)] 153 (0, 0)) ∧ Chg (fun k => k = bu ∨ k = bd) w W)
      (fun _ _ _ => False) ?hI (fun _ _ _ _ _ h => h) ?h0 ?body ?done (fun _ _ _ _ _ h => h.elim)
    case hI =>
      rintro s W W' hs ⟨i1, i2, i3, i4, i5⟩
      refine ⟨i1.keep (fun k c t f hk e => hs.cells e (by omega)), hs.cells i2 (by omega), hs.cells i3 (by omega), hs.cells i4 (by omega), hs.chg i5 (by simp; omega) (.inr (by omega))⟩
    case h0 =>
      refine ⟨?_, heap_alloc hBox, heap_alloc hB7, heap_alloc hB8, hNc.alloc _⟩
      have e : upd U [] (U y) = U := by funext i j; simp [upd]
      rw [e]
      exact hO.keep (fun k c t f _ e => heap_alloc e)
    case body =>
      rintro l t z W ht hp hz hl ⟨i1, i2, i3, i4, i5⟩
      have c1 := cell_of_heap i2 0
      have c2 := i1.up
      have c3 := i1.hu z hz
      have c4 := i1.fu z
      have c5 := cell_of_heap i4 0
      have hor : bits BinOp.or IntKind.u32 ((msk n (upd U (els t (D x)) (U y) z) : Nat) : Int) ((msk n (U y) : Nat) : Int) = ((msk n (fun j => upd U (els t (D x)) (U y) z j || U y j) : Nat) : Int) := by
        rw [u32_or_nat _ _ (Nat.lt_of_lt_of_le (msk_lt16 n _ hn) (by omega)) (Nat.lt_of_lt_of_le (msk_lt16 n _ hn) (by omega)), msk_or]
      simp at c1 c5
      generalize hq1 : msk n (upd U (els t (D x)) (U y) z) = q1 at c3 hor
      generalize hq2 : msk n (U y) = q2 at c5 hor
      generalize hq3 : msk n (fun j => upd U (els t (D x)) (U y) z j || U y j) = q3 at hor
      have I1 := Lib.hid i1
      have I5 := Lib.hid i5
      clear i1 i5 h hT hr h1 h3 a3 hW hbox hTW hC1 hup hdn hcu hcd hcb l1 l2 l3 l4 Hsz HW1 hB7 hB8 hC hc7 hNc hO hBox hTc hx hy hg0
      gi_wp2
      have hS : W.drew.cell? ⟨w.heap.size, 0, none⟩ = some (.pointer (some ⟨b, 0, none⟩)) ∧ W.drew.cell? ⟨b, 0, none⟩ = some (.slice (some ⟨bu, 0, none⟩) n cu) ∧ W.drew.cell? ⟨bu, z, none⟩ = some (.int .u32 (q1 : Int)) ∧ W.drew.cell? ⟨B8, 0, none⟩ = some (.int .u32 (q2 : Int)) := ⟨c1, c2, c3, c5⟩
      refine region_in_round (fun W' => W'.cell? ⟨w.heap.size, 0, none⟩ = some (.pointer (some ⟨b, 0, none⟩)) ∧ W'.cell? ⟨b, 0, none⟩ = some (.slice (some ⟨bu, 0, none⟩) n cu) ∧ W'.cell? ⟨bu, z, none⟩ = some (.int .u32 (q1 : Int)) ∧ W'.cell? ⟨B8, 0, none⟩ = some (.int .u32 (q2 : Int))) [10] (by kernel_rfl) (by kernel_rfl) (fun ⟨_, _, h⟩ => h) ?_
      refine take_one 0 hS rfl (by kernel_rfl) rfl ?_
      apply Exists.intro
      refine And.intro (fun W' hS' => ?y0) (And.intro (fun _ _ _ h => h) ?_)
      case y0 => obtain ⟨d1, d2, d3, d4⟩ := hS'; go_simp; rfl
      refine take_one 1 hS rfl (by kernel_rfl) rfl ?_
      apply Exists.intro
      refine And.intro (fun W' hS' => ?y1) (And.intro (fun _ _ _ h => h) ?_)
      case y1 => obtain ⟨d1, d2, d3, d4⟩ := hS'; go_simp; rfl
      refine take_one 2 hS rfl (by kernel_rfl) rfl ?_
      apply Exists.intro
      refine And.intro (fun W' hS' => ?y2) (And.intro (fun _ _ _ h => h) ?_)
      case y2 => obtain ⟨d1, d2, d3, d4⟩ := hS'; go_simp; rfl
      refine take_one 3 hS rfl (by kernel_rfl) rfl ?_
      apply Exists.intro
      refine And.intro (fun W' hS' => ?y3) (And.intro (fun _ _ _ h => h) ?_)
      case y3 => obtain ⟨d1, d2, d3, d4⟩ := hS'; go_simp; rfl
      refine take_one 4 hS rfl (by kernel_rfl) rfl ?_
      apply Exists.intro
      refine And.intro (fun W' hS' => ?y4) (And.intro (fun _ _ _ h => h) ?_)
      case y4 => obtain ⟨d1, d2, d3, d4⟩ := hS'; go_simp; rfl
      refine take_one 5 hS rfl (by kernel_rfl) rfl ?_
      apply Exists.intro
      refine And.intro (fun W' hS' => ?y5) (And.intro (fun _ _ _ h => h) ?_)
      case y5 => obtain ⟨d1, d2, d3, d4⟩ := hS'; go_simp; rfl
      refine take_one 6 hS rfl (by kernel_rfl) rfl ?_
      apply Exists.intro
      refine And.intro (fun W' hS' => ?y6) (And.intro (fun _ _ _ h => h) ?_)
      case y6 => obtain ⟨d1, d2, d3, d4⟩ := hS'; go_simp; rfl
      refine take_one 7 hS rfl (by kernel_rfl) rfl ?_
      apply Exists.intro
      refine And.intro (fun W' hS' => ?y7) (And.intro (fun _ _ _ h => h) ?_)
      case y7 => obtain ⟨d1, d2, d3, d4⟩ := hS'; go_simp; rfl
      refine take_one 8 hS rfl (by kernel_rfl) rfl ?_
      apply Exists.intro
      refine And.intro (fun W' hS' => ?y8) (And.intro (fun _ _ _ h => h) ?_)
      case y8 => obtain ⟨d1, d2, d3, d4⟩ := hS'; go_simp; rfl
      refine take_one 9 hS rfl (by kernel_rfl) rfl ?_
      apply Exists.intro
      refine And.intro (fun W' hS' => ?y9) (And.intro (fun _ _ _ h => h) ?_)
      case y9 => obtain ⟨d1, d2, d3, d4⟩ := hS'; go_simp; rfl
      refine only_one 10 rfl (by kernel_rfl) rfl ?_
      go_simp
      refine all_done (by kernel_rfl) ?_ _
      refine ⟨(KeepsOthers.setCell _ _ _).trans (KeepsOthers.drew _), ⟨fun c e => heap_setCell e (by simp; omega) _, fun h => (h.setCell h2 _ _)⟩, ?_, heap_setCell i2 (by simp; omega) _, heap_setCell i3 (by simp; omega) _, (by rw [← hq2]; exact heap_setCell i4 (by simp; omega) _), (I5.out.setCell (.inl (.inl rfl)) _).drew⟩
      rw [← hq3]
      refine ((I1.out.setU z _).congr (fun i j hi hj => ?_) (fun _ _ _ _ => rfl)).drew
      unfold upd
      by_cases e : i = z
      · subst e; cases U i j <;> cases U y j <;> simp
      · simp [e]
    case done =>
      rintro E W hE ⟨i1, i2, i3, i4, i5⟩ hd
      simp at hE
      have c5 := cell_of_heap i4 0
      simp at c5
      have hgW : 1 < W.heap.size := Nat.lt_of_lt_of_le hg0 (Nat.le_trans (by simp) (Nat.le_trans hE (Nat.le_of_lt (lt_of_heap hd))))
      go_wp2_with (go_at_call 92; refine (all_any _ _).mono ?_; rintro e w' ⟨rfl, rfl⟩)
      have m9 := lt_of_heap hd
      have k1 := i1.lt
      have k2 := lt_of_heap i2
      have k3 := lt_of_heap i3
      have k4 := lt_of_heap i4
      have hTW2 := (hT.chg i5 (by simp; omega))
      refine range_set1 (Bs := W.heap.size) (by simp) rfl n (U y) hn (heap_new _ _) (by omega) (hTW2.alloc _)
        (fun pre W => IsOrd W b bu bd cu cd n (upd U (els n (D x)) (U y)) (upd D pre (D x)) ∧ W.heap[w.heap.size]? = some (.cells #[.pointer (some ⟨b, 0, none⟩)] 55 (0, 0)) ∧
          W.heap[B7]? = some (.cells #[.int .u32 (msk n (D x) : Nat)] 153 (0, 0)) ∧ W.heap[E]? = some (.deferred (some [])) ∧ Chg (fun k => k = bu ∨ k = bd) w W)
        (fun _ _ _ => False) ?hI (fun _ _ _ _ _ h => h) ?h0 ?body ?done (fun _ _ _ _ _ h => h.elim)
      case hI =>
        rintro s W3 W' hs ⟨i1, i2, i3, i4, i5⟩
        refine ⟨i1.keep (fun k c t f hk e => hs.cells e (by omega)), hs.cells i2 (by omega), hs.cells i3 (by omega), hs.old i4 (by simp; omega) (by omega), hs.chg i5 (by simp; omega) (.inr (by omega))⟩
      case h0 =>
        refine ⟨?_, heap_alloc i2, heap_alloc i3, heap_alloc hd, i5.alloc _⟩
        have e : upd D [] (D x) = D := by funext i j; simp [upd]
        rw [e]
        exact i1.keep (fun k c t f _ e => heap_alloc e)
      case body =>
        clear i1 i2 i3 i4 i5 c5 hd hTW2
        rintro l t z W2 ht hp hz hl ⟨i1, i2, i3, i4, i5⟩
        have c1 := cell_of_heap i2 0
        have c2 := i1.dn
        have c3 := i1.hd z hz
        have c4 := i1.fd z
        have c5 := cell_of_heap i3 0
        have hor : bits BinOp.or IntKind.u32 ((msk n (upd D (els t (U y)) (D x) z) : Nat) : Int) ((msk n (D x) : Nat) : Int) = ((msk n (fun j => upd D (els t (U y)) (D x) z j || D x j) : Nat) : Int) := by
          rw [u32_or_nat _ _ (Nat.lt_of_lt_of_le (msk_lt16 n _ hn) (by omega)) (Nat.lt_of_lt_of_le (msk_lt16 n _ hn) (by omega)), msk_or]
        simp at c1 c5
        generalize hq1 : msk n (upd D (els t (U y)) (D x) z) = q1 at c3 hor
        generalize hq2 : msk n (D x) = q2 at c5 hor
        generalize hq3 : msk n (fun j => upd D (els t (U y)) (D x) z j || D x j) = q3 at hor
        have I1 := Lib.hid i1
        have I5 := Lib.hid i5
        clear i1 i5 h hT hr h1 h2 a3 hW hbox hTW hC1 hup hdn hcu hcd hcb l1 l2 l3 l4 Hsz HW1 hB7 hB8 hC hc7 hNc hO hBox hTc hx hy hg0 hgW
        gi_wp2
        have hS : W2.drew.cell? ⟨w.heap.size, 0, none⟩ = some (.pointer (some ⟨b, 0, none⟩)) ∧ W2.drew.cell? ⟨b, 1, none⟩ = some (.slice (some ⟨bd, 0, none⟩) n cd) ∧ W2.drew.cell? ⟨bd, z, none⟩ = some (.int .u32 (q1 : Int)) ∧ W2.drew.cell? ⟨B7, 0, none⟩ = some (.int .u32 (q2 : Int)) := ⟨c1, c2, c3, c5⟩
        refine region_in_round (fun W' => W'.cell? ⟨w.heap.size, 0, none⟩ = some (.pointer (some ⟨b, 0, none⟩)) ∧ W'.cell? ⟨b, 1, none⟩ = some (.slice (some ⟨bd, 0, none⟩) n cd) ∧ W'.cell? ⟨bd, z, none⟩ = some (.int .u32 (q1 : Int)) ∧ W'.cell? ⟨B7, 0, none⟩ = some (.int .u32 (q2 : Int))) [10] (by kernel_rfl) (by kernel_rfl) (fun ⟨_, _, h⟩ => h) ?_
        refine take_one 0 hS rfl (by kernel_rfl) rfl ?_
        apply Exists.intro
        refine And.intro (fun W' hS' => ?z0) (And.intro (fun _ _ _ h => h) ?_)
        case z0 => obtain ⟨d1, d2, d3, d4⟩ := hS'; go_simp; rfl
        refine take_one 1 hS rfl (by kernel_rfl) rfl ?_
        apply Exists.intro
        refine And.intro (fun W' hS' => ?z1) (And.intro (fun _ _ _ h => h) ?_)
        case z1 => obtain ⟨d1, d2, d3, d4⟩ := hS'; go_simp; rfl
        refine take_one 2 hS rfl (by kernel_rfl) rfl ?_
        apply Exists.intro
        refine And.intro (fun W' hS' => ?z2) (And.intro (fun _ _ _ h => h) ?_)
        case z2 => obtain ⟨d1, d2, d3, d4⟩ := hS'; go_simp; rfl
        refine take_one 3 hS rfl (by kernel_rfl) rfl ?_
        apply Exists.intro
        refine And.intro (fun W' hS' => ?z3) (And.intro (fun _ _ _ h => h) ?_)
        case z3 => obtain ⟨d1, d2, d3, d4⟩ := hS'; go_simp; rfl
        refine take_one 4 hS rfl (by kernel_rfl) rfl ?_
        apply Exists.intro
        refine And.intro (fun W' hS' => ?z4) (And.intro (fun _ _ _ h => h) ?_)
        case z4 => obtain ⟨d1, d2, d3, d4⟩ := hS'; go_simp; rfl
        refine take_one 5 hS rfl (by kernel_rfl) rfl ?_
        apply Exists.intro
        refine And.intro (fun W' hS' => ?z5) (And.intro (fun _ _ _ h => h) ?_)
        case z5 => obtain ⟨d1, d2, d3, d4⟩ := hS'; go_simp; rfl
        refine take_one 6 hS rfl (by kernel_rfl) rfl ?_
        apply Exists.intro
        refine And.intro (fun W' hS' => ?z6) (And.intro (fun _ _ _ h => h) ?_)
        case z6 => obtain ⟨d1, d2, d3, d4⟩ := hS'; go_simp; rfl
        refine take_one 7 hS rfl (by kernel_rfl) rfl ?_
        apply Exists.intro
        refine And.intro (fun W' hS' => ?z7) (And.intro (fun _ _ _ h => h) ?_)
        case z7 => obtain ⟨d1, d2, d3, d4⟩ := hS'; go_simp; rfl
        refine take_one 8 hS rfl (by kernel_rfl) rfl ?_
        apply Exists.intro
        refine And.intro (fun W' hS' => ?z8) (And.intro (fun _ _ _ h => h) ?_)
        case z8 => obtain ⟨d1, d2, d3, d4⟩ := hS'; go_simp; rfl
        refine take_one 9 hS rfl (by kernel_rfl) rfl ?_
        apply Exists.intro
        refine And.intro (fun W' hS' => ?z9) (And.intro (fun _ _ _ h => h) ?_)
        case z9 => obtain ⟨d1, d2, d3, d4⟩ := hS'; go_simp; rfl
        refine only_one 10 rfl (by kernel_rfl) rfl ?_
        go_simp
        refine all_done (by kernel_rfl) ?_ _
        refine ⟨(KeepsOthers.setCell _ _ _).trans (KeepsOthers.drew _), ⟨fun c e => heap_setCell e (by simp; omega) _, fun h => (h.setCell h3 _ _)⟩, ?_, heap_setCell i2 (by simp; omega) _, (by rw [← hq2]; exact heap_setCell i3 (by simp; omega) _), heap_setCell i4 (by simp; omega) _, (I5.out.setCell (.inl (.inr rfl)) _).drew⟩
        rw [← hq3]
        refine ((I1.out.setD z _).congr (fun _ _ _ _ => rfl) (fun i j hi hj => ?_)).drew
        show (if i = z then _ else upd D (els t (U y)) (D x) i j) = upd D (els t (U y) ++ [z]) (D x) i j
        unfold upd
        by_cases e : i = z
        · subst e; cases D i j <;> cases D x j <;> simp
        · simp [e]
      case done =>
        rintro E2 W2 hE2 ⟨i1, i2, i3, i4, i5⟩ hd2
        clear h hT hr h2 a3 hW hbox hTW hC1 hup hdn hcu hcd hcb l1 l2 l3 l4 Hsz HW1 hB7 hB8 hC hc7 hNc hO hBox hTc hx hy hg0 hgW c5 hTW2 i2 i3
        go_wp2
        have hEE : E ≠ E2 := by simp at hE2; omega
        have hb2 : w.heap.size ≤ E2 := by simp at hE2; omega
        refine ⟨by simp, .inl ⟨_, _, rfl, run_takeDeferred hd2, ?_⟩⟩
        refine ⟨by simp, .inl ⟨_, _, rfl, run_takeDeferred ((World.putObj_heap_other hEE).trans i4), ?_⟩⟩
        refine ⟨_, results_tmp rfl _ _ _, rfl, ?_, ?_⟩
        · refine i1.keep (fun k c t f hk e => ?_)
          rw [World.putObj_heap_other (by omega), World.putObj_heap_other (by omega)]
          exact e
        · exact (i5.grown (grownBy_putObj' W2 E2 _) (fun k e => by cases e; exact .inr hb2)).grown (grownBy_putObj' _ E _) (fun k e => by cases e; exact .inr (by omega))
end Go.Proofs.YtfhmmekamommcaaGreatDoor
