/- taint.numbers, walked: the numbers of an id. -/
import Derived.Test.YtfhmmekamommcaaGreatDoorIdSplit
import Derived.Test.YtfhmmekamommcaaGreatDoorTxtDigits
import Derived.Maps.AppendAt
namespace Go.Proofs.YtfhmmekamommcaaGreatDoor
set_option linter.unusedVariables false
set_option linter.unusedSimpArgs false
open Go Go.RowKit Go.Proofs Go.Shelf
attribute [local go_sem] Oper.semAt_some
theorem infoIntI : (Tryz.prog.info? 3).map (fun i => (i.zero, i.size, i.bytes)) = some (some (.int .i64 0), 1, 8) := by kernel_rfl
/-- numbers as values -/
def natV (l : List Nat) : List Value := l.map fun (n : Nat) => Value.int .i64 (n : Int)
theorem natV_len (l : List Nat) : (natV l).length = l.length := by simp [natV]
theorem splitSeq_any (L : List UInt8) (w : World) : Calls Tryz.prog 97 #[.string (bs L), .string ⟨#[46]⟩] w fun e w' =>
    e = .returned (.func (.func 154) #[] #[.pointer (some ⟨w.heap.size + 1, 0, none⟩), .pointer (some ⟨w.heap.size, 0, none⟩), .pointer (some ⟨w.heap.size + 1 + 1, 0, none⟩)]) ∧
    w' = ((w.alloc (.cells #[.string (bs L)] 9)).alloc (.cells #[.string ⟨#[46]⟩] 9)).alloc (.cells #[.int .i64 0] 3) := by
  have h1 : Calls Tryz.prog 124 #[.string (bs L), .string ⟨#[46]⟩, .int .i64 0] w fun e w' =>
    e = .returned (.func (.func 154) #[] #[.pointer (some ⟨w.heap.size + 1, 0, none⟩), .pointer (some ⟨w.heap.size, 0, none⟩), .pointer (some ⟨w.heap.size + 1 + 1, 0, none⟩)]) ∧
    w' = ((w.alloc (.cells #[.string (bs L)] 9)).alloc (.cells #[.string ⟨#[46]⟩] 9)).alloc (.cells #[.int .i64 0] 3) := by
    go_enter Tryz.func124, Tryz.ntmps124
    go_wp2
    go_ret
    exact ⟨rfl, rfl⟩
  go_enter Tryz.func97, Tryz.ntmps97
  go_wp2_with (go_at_call 124; refine h1.mono ?_; rintro e w' ⟨rfl, rfl⟩)
  go_ret
  exact ⟨rfl, rfl⟩
theorem idRow_pre {L : List UInt8} (h : idAll L = true) : idRow L = (pieces 46 L).map valL := by
  unfold idRow
  rw [if_pos h]
  rfl
theorem own_lenI {W : World} {base : Nat} {e : TypeId} {size : Nat} {a : Option Addr} {l c n : Nat} {xs : List Value} (h : W.ownsRow base e size (.slice a l c) n xs) : l = n := by
  rcases h.2 with ⟨h1, h2⟩ | ⟨g, cap, cur, h1, _⟩
  · cases h1; exact h2.symm
  · cases h1; rfl
theorem resNums : Tryz.f65.results = #[.cell 2 50, .cell 3 4] := by kernel_rfl
theorem cell_put {W : World} {D k i : Nat} {o o' : Obj} {x : Option Value} (h : W.cell? ⟨k, i, none⟩ = x) (hd : W.heap[D]? = some o) (ho : o.isCells = false) (hx : x.isSome = true) : (W.putObj D o').cell? ⟨k, i, none⟩ = x := by
  by_cases e : D = k
  · subst e
    unfold World.cell? at h
    simp only [hd] at h
    cases o <;> first | (simp [Obj.isCells] at ho; done) | (simp at h; subst h; simp at hx)
  · rw [World.cell?_of_block (w := W) (World.putObj_heap_other (fun x => e x.symm))]
    exact h
theorem keeps_below {W W' : World} (h : Below W.heap.size W W') : KeepsOthers W W' := ⟨h.size, fun k o hk _ => (h.block k (lt_of_heap hk)).trans hk⟩
theorem keeps_append {W W' : World} {base : Nat} {e : TypeId} {size : Nat} {v : Value} {n : Nat} {xs : List Value} (h : W.ownsRow base e size v n xs) (hg : W.grownBy W' v.ownBlock) : KeepsOthers W W' :=
  KeepsOthers.of_grownBy hg fun j o hj ho => by
    obtain ⟨cur, _, _, hc⟩ := own_cells h hj
    rw [hc] at ho
    cases ho
    rfl
set_option maxRecDepth 100000 in
set_option maxHeartbeats 4000000 in
theorem idnums_any (L : List UInt8) (hL : L.length ≤ 1000000000) (w : World) (hW : WOk w) : Calls Tryz.prog 65 #[.string (bs L)] w fun e w' =>
    ∃ v, e = .returned (.tuple #[v, .bool (idOk L)]) ∧ w'.ownsRow w.heap.size 3 1 v (idRow L).length (natV (idRow L)) ∧ Chg (fun _ => False) w w' := by
  obtain ⟨i0, hi, hz0, hz1, hz2⟩ := info_parts infoIntI
  refine (callsIn_wide (n := 9)).1 ?_
  refine callsIn_of_wp_marks Tryz.func65 rfl trivial ?_ rfl
  simp only [Tryz.ntmps65, List.size_toArray, List.length_cons, List.length_nil, Nat.reduceAdd, Nat.reduceSub, Array.replicate_succ, Array.replicate_zero, List.push_toArray, List.append_toArray, List.nil_append, List.cons_append]
  refine wpIn_wide.2 ?_
  go_wp2_with (go_at_call 97; refine (splitSeq_any L _).mono ?_; rintro e w' ⟨rfl, rfl⟩)
  have hA := ((((Chg.refl (fun _ => False) w).alloc (.cells #[.slice none 0 0] 50)).alloc (.cells #[.bool false] 4)))
  have b0 : ((w.alloc (.cells #[.slice none 0 0] 50)).alloc (.cells #[.bool false] 4)).heap[w.heap.size]? = some (.cells #[.slice none 0 0] 50 (0, 0)) := heap_alloc (heap_new _ _)
  have b1 : ((w.alloc (.cells #[.slice none 0 0] 50)).alloc (.cells #[.bool false] 4)).heap[w.heap.size + 1]? = some (.cells #[.bool false] 4 (0, 0)) := by
    have := heap_new (w.alloc (.cells #[.slice none 0 0] 50)) (.cells #[.bool false] 4)
    rwa [World.size_alloc] at this
  have hs2 : ((w.alloc (.cells #[.slice none 0 0] 50)).alloc (.cells #[.bool false] 4)).heap.size = w.heap.size + 2 := by simp
  generalize ((w.alloc (.cells #[.slice none 0 0] 50)).alloc (.cells #[.bool false] 4)) = W2 at *
  have e0 := heap_new W2 (.cells #[.string (bs L)] 9)
  have e1 := heap_new (W2.alloc (.cells #[.string (bs L)] 9)) (.cells #[.string ⟨#[46]⟩] 9)
  have e2 := heap_new ((W2.alloc (.cells #[.string (bs L)] 9)).alloc (.cells #[.string ⟨#[46]⟩] 9)) (.cells #[.int .i64 0] 3)
  simp only [World.size_alloc, hs2] at e0 e1 e2
  refine range_split1 (Bs := w.heap.size + 2) (by simp) rfl L (by omega) (heap_alloc (heap_alloc e0)) (heap_alloc e1) e2
    (fun pre W => pre.all okP = true ∧ (∃ v, W.heap[w.heap.size]? = some (.cells #[v] 50 (0, 0)) ∧ W.ownsRow (w.heap.size + 5) 3 1 v pre.length (natV (pre.map valL))) ∧ W.heap[w.heap.size + 1]? = some (.cells #[.bool false] 4 (0, 0)) ∧ Chg (fun _ => False) w W ∧ w.heap.size + 5 ≤ W.heap.size)
    (fun c pre W => c = .ret ∧ pre.all okP = false ∧ W.heap[w.heap.size]? = some (.cells #[.slice none 0 0] 50 (0, 0)) ∧ W.heap[w.heap.size + 1]? = some (.cells #[.bool false] 4 (0, 0)) ∧ Chg (fun _ => False) w W) ?hI ?hIx ?h0 ?body ?done ?stop
  case hI =>
    rintro s W W' hs ⟨i1, ⟨v, i2, i3⟩, i4, i5, i6⟩
    exact ⟨i1, ⟨v, hs.cells i2 (by omega), own_keep i3 fun k c t f hk e => hs.cells e (by omega)⟩, hs.cells i4 (by omega), hs.chg i5 (by simp; omega) (.inr (by omega)), Nat.le_trans i6 hs.size⟩
  case hIx =>
    rintro c s W W' hs ⟨i0, i1, i2, i4, i5⟩
    exact ⟨i0, i1, hs.cells i2 (by omega), hs.cells i4 (by omega), hs.chg i5 (by simp; omega) (.inr (by omega))⟩
  case h0 =>
    exact ⟨rfl, ⟨_, heap_alloc (heap_alloc (heap_alloc b0)), World.ownsRow_nil _ _ _ _⟩, heap_alloc (heap_alloc (heap_alloc b1)), ((hA.alloc _).alloc _).alloc _, by simp; omega⟩
  case body =>
    rintro l pre x W hpre ⟨i1, ⟨v, i2, i3⟩, i4, i5, i6⟩
    obtain ⟨L1, L2⟩ := pieces_len_le 46 L
    have hx : x.length ≤ 140737488351232 := Nat.le_trans (L2 x (hpre.subset (by simp))) (Nat.le_trans hL (by decide))
    have hk : pre.length + 1 ≤ 1000000001 := by
      have := hpre.length_le
      rw [List.length_append] at this
      exact Nat.le_trans this (Nat.le_trans L1 (Nat.add_le_add_right hL 1))
    have hN := numbers_any x hx W (hW.mono (i5.below _ (Nat.le_refl _) (fun _ _ h => h)))
    have c0 := cell_of_heap i2 0
    have c1 := cell_of_heap i4 0
    simp only [List.getElem?_toArray, List.getElem?_cons_zero] at c0 c1
    have g0 := lt_of_heap i2
    have g1 := lt_of_heap i4
    have hW5 := i6
    have I5 := Lib.hid i5
    have I1 := Lib.hid i1
    clear i5 i1 hpre hA e0 e1 e2 b0 b1 L1 L2 hx
    by_cases hok : okP x = true
    · obtain ⟨n1, n2, n3, n4⟩ := okP_val hok
      rw [n1, n2] at hN
      have hn3 : (1 : Int) ≤ (valL x : Nat) := Int.ofNat_le.2 n3
      obtain ⟨A, n, c, rfl⟩ := own_slice i3
      have HOK := Lib.hid hok
      clear n1 n2 hok
      generalize hvx : valL x = vx at *
      gi_wp2_with (first
        | (refine ⟨trivial, ?_⟩; gi_at_call 98; refine (CallsIn.inRound l (callsIn_wide.2 hN)).mono ?_; rintro e W1 ⟨rfl, hB1⟩
           have d0 := (hB1.block _ g0).trans i2
           have d1 := (hB1.block _ g1).trans i4
           have dr : W1.ownsRow (w.heap.size + 5) 3 1 (.slice A n c) pre.length (natV (pre.map valL)) := own_keep i3 fun k c t f hk e => (hB1.block _ (lt_of_heap e)).trans e
           have dc0 := cell_of_heap d0 0
           have dc1 := cell_of_heap d1 0
           have df0 := free_of_heap d0 0
           simp only [List.getElem?_toArray, List.getElem?_cons_zero] at dc0 dc1
           have hB1s := hB1.size
           clear hN)
        | (gi_at_builtin
           refine wpListIn_append_own _ rfl _ _ 50 rfl (w.heap.size + 5) 3 i0 (.int .i64 0) 1 8 Tryz.underlying50 hi hz0 hz1 hz2 rfl (by decide) (.slice A n c) pre.length (natV (pre.map valL)) rfl (dr.alloc _) ⟨W1.heap.size, 0, none⟩ 1 1 [.int .i64 (vx : Int)] rfl rfl (cell_one_new _ _ _) (by simp [Value.oneCell']) (Nat.le_trans hk (by decide)) (Nat.le_trans (Nat.mul_le_mul_right 8 hk) (by decide)) (by simp; omega) ?_
           intro v' w1 hown' hgrow hnil'
           have q0 := grown_keep hgrow (heap_alloc d0) (fun e => by have := own_block dr e; omega)
           have q1 := grown_keep hgrow (heap_alloc d1) (fun e => by have := own_block dr e; omega)
           have qc0 := cell_of_heap q0 0
           have qf0 := free_of_heap q0 0
           simp only [List.getElem?_toArray, List.getElem?_cons_zero] at qc0
           obtain ⟨A', n', c', rfl⟩ := own_slice hown'))
      have hKO := ((keeps_below hB1).trans (KeepsOthers.alloc _ (.cells #[.int .i64 (vx : Int)] 3))).trans (keeps_append (dr.alloc _) hgrow)
      have hCh := ((I5.out.trans (Below.chg hB1 (Nat.le_refl _) _)).alloc (.cells #[.int .i64 (vx : Int)] 3)).grown hgrow (fun k e => .inr (Nat.le_trans (Nat.le_add_right _ _) (own_block dr e)))
      refine ⟨hKO.trans (KeepsOthers.setCell _ _ _), ?kp, ?i1, ⟨.slice A' n' c', ?i2, ?i3⟩, ?i4, hCh.setCell (.inr (Nat.le_refl _)) _, ?i6⟩
      case kp =>
        intro k c t f hk e
        refine heap_setCell (grown_keep hgrow (heap_alloc ((hB1.block _ (lt_of_heap e)).trans e)) (fun e => by have := own_block dr e; omega)) (by simp; omega) _
      case i1 =>
        rw [List.all_append, I1.out]
        simp [HOK.out]
      case i2 => rw [heap_setCell_cells q0]; rfl
      case i3 =>
        rw [List.length_append, List.map_append]
        unfold natV at hown' ⊢
        rw [List.map_append]
        simp only [List.map_cons, List.map_nil, hvx]
        exact own_keep hown' fun k c t f hk e => heap_setCell e (by simp; omega) _
      case i4 => exact heap_setCell q1 (by simp) _
      case i6 =>
        have := hgrow.size
        simp [World.setCell] at this ⊢
        omega
    · have hbad : ¬ (numE x = 0 ∧ 1 ≤ numR x) := fun h => hok ((okP_iff x).2 h)
      have HOK := Lib.hid (Bool.eq_false_iff.2 hok)
      obtain ⟨A, n, c, rfl⟩ := own_slice i3
      clear hok
      generalize numE x = nE at *
      generalize numR x = nR at *
      by_cases hE : nE = 0
      · subst hE
        have hlt : nR < 1 := by simp at hbad; omega
        clear hbad
        gi_wp2_with (first
          | (refine ⟨trivial, ?_⟩; gi_at_call 98; refine (CallsIn.inRound l (callsIn_wide.2 hN)).mono ?_; rintro e W1 ⟨rfl, hB1⟩
             have d0 := (hB1.block _ g0).trans i2
             have d1 := (hB1.block _ g1).trans i4
             have dc0 := cell_of_heap d0 0
             have dc1 := cell_of_heap d1 0
             have df0 := free_of_heap d0 0
             have df1 := free_of_heap d1 0
             simp only [List.getElem?_toArray, List.getElem?_cons_zero] at dc0 dc1
             clear hN))
        have hCh := I5.out.trans (Below.chg hB1 (Nat.le_refl _) (fun _ => False))
        refine ⟨(keeps_below hB1).trans ((KeepsOthers.setCell _ _ _).trans (KeepsOthers.setCell _ _ _)), rfl, ?_, ?_, ?_, (hCh.setCell (.inr (Nat.le_refl _)) _).setCell (.inr (by simp)) _⟩
        · rw [List.all_append]
          simp [HOK.out]
        · refine heap_setCell ?_ (by simp) _
          rw [heap_setCell_cells d0]; rfl
        · rw [heap_setCell_cells (heap_setCell d1 (by simp) _)]; rfl
      · have hE2 : (nE != 0) = true := bne_iff_ne.2 hE
        clear hE hbad
        gi_wp2_with (first
          | (refine ⟨trivial, ?_⟩; gi_at_call 98; refine (CallsIn.inRound l (callsIn_wide.2 hN)).mono ?_; rintro e W1 ⟨rfl, hB1⟩
             have d0 := (hB1.block _ g0).trans i2
             have d1 := (hB1.block _ g1).trans i4
             have dc0 := cell_of_heap d0 0
             have dc1 := cell_of_heap d1 0
             have df0 := free_of_heap d0 0
             have df1 := free_of_heap d1 0
             simp only [List.getElem?_toArray, List.getElem?_cons_zero] at dc0 dc1
             clear hN))
        have hCh := I5.out.trans (Below.chg hB1 (Nat.le_refl _) (fun _ => False))
        refine ⟨(keeps_below hB1).trans ((KeepsOthers.setCell _ _ _).trans (KeepsOthers.setCell _ _ _)), rfl, ?_, ?_, ?_, (hCh.setCell (.inr (Nat.le_refl _)) _).setCell (.inr (by simp)) _⟩
        · rw [List.all_append]
          simp [HOK.out]
        · refine heap_setCell ?_ (by simp) _
          rw [heap_setCell_cells d0]; rfl
        · rw [heap_setCell_cells (heap_setCell d1 (by simp) _)]; rfl
  case done =>
    rintro D W hD ⟨i1, ⟨v, i2, i3⟩, i4, i5, i6⟩ hd
    have c0 := cell_of_heap i2 0
    have c1 := cell_of_heap i4 0
    have f0 := free_of_heap i2 0
    have f1 := free_of_heap i4 0
    simp only [List.getElem?_toArray, List.getElem?_cons_zero] at c0 c1
    have hD2 := hD
    simp at hD2
    have m1 := lt_of_heap i2
    obtain ⟨A, n, c, rfl⟩ := own_slice i3
    have hn : n = (pieces 46 L).length := own_lenI i3
    subst hn
    go_wp2_with fail
    have k1 : ((W.setCell ⟨w.heap.size, 0, none⟩ (.slice A (pieces 46 L).length c)).setCell ⟨w.heap.size + 1, 0, none⟩ (.bool (decide (((pieces 46 L).length : Int) ≤ 8)))).heap[D]? = some (.deferred (some [])) :=
      heap_setCell (heap_setCell hd (by simp; omega) _) (by simp; omega) _
    have k2 : ((W.setCell ⟨w.heap.size, 0, none⟩ (.slice A (pieces 46 L).length c)).setCell ⟨w.heap.size + 1, 0, none⟩ (.bool (decide (((pieces 46 L).length : Int) ≤ 8)))).heap[w.heap.size]? = some (.cells #[.slice A (pieces 46 L).length c] 50 (0, 0)) := by
      refine heap_setCell ?_ (by simp) _
      rw [heap_setCell_cells i2]; rfl
    have k3 : ((W.setCell ⟨w.heap.size, 0, none⟩ (.slice A (pieces 46 L).length c)).setCell ⟨w.heap.size + 1, 0, none⟩ (.bool (decide (((pieces 46 L).length : Int) ≤ 8)))).heap[w.heap.size + 1]? = some (.cells #[.bool (decide (((pieces 46 L).length : Int) ≤ 8))] 4 (0, 0)) := by
      rw [heap_setCell_cells (heap_setCell i4 (by simp) _)]; rfl
    have k4 := (i5.setCell (.inr (Nat.le_refl _) : (fun _ => False) (⟨w.heap.size, 0, none⟩ : Addr).block ∨ w.heap.size ≤ (⟨w.heap.size, 0, none⟩ : Addr).block) (.slice A (pieces 46 L).length c)).setCell (p := ⟨w.heap.size + 1, 0, none⟩) (.inr (by simp)) (.bool (decide (((pieces 46 L).length : Int) ≤ 8)))
    have k5 : ((W.setCell ⟨w.heap.size, 0, none⟩ (.slice A (pieces 46 L).length c)).setCell ⟨w.heap.size + 1, 0, none⟩ (.bool (decide (((pieces 46 L).length : Int) ≤ 8)))).ownsRow (w.heap.size + 5) 3 1 (.slice A (pieces 46 L).length c) (pieces 46 L).length (natV ((pieces 46 L).map valL)) :=
      own_keep i3 fun k c t f hk e => heap_setCell (heap_setCell e (by simp; omega) _) (by simp; omega) _
    generalize ((W.setCell ⟨w.heap.size, 0, none⟩ (.slice A (pieces 46 L).length c)).setCell ⟨w.heap.size + 1, 0, none⟩ (.bool (decide (((pieces 46 L).length : Int) ≤ 8)))) = W3 at *
    refine ⟨by simp, .inl ⟨_, _, rfl, run_takeDeferred k1, ?_⟩⟩
    have r1 := cell_of_heap ((World.putObj_heap_other (w := W3) (o := .deferred none) (show w.heap.size ≠ D by omega)).trans k2) 0
    have r2 := cell_of_heap ((World.putObj_heap_other (w := W3) (o := .deferred none) (show w.heap.size + 1 ≠ D by omega)).trans k3) 0
    simp only [List.getElem?_toArray, List.getElem?_cons_zero] at r1 r2
    have hall : idAll L = true := i1
    refine ⟨.tuple #[.slice A (pieces 46 L).length c, .bool (decide (((pieces 46 L).length : Int) ≤ 8))], ?_, .slice A (pieces 46 L).length c, ?_, ?_, ?_⟩
    · simp only [results, resNums]
      go_simp
    · have : idOk L = decide (((pieces 46 L).length : Int) ≤ 8) := by
        unfold idOk
        rw [hall, Bool.true_and]
        exact decide_eq_decide.2 (by unfold parts; omega)
      rw [this]
    · rw [idRow_pre hall, List.length_map]
      exact own_mono (own_keep k5 fun k c t f hk e => (World.putObj_heap_other (fun (e2 : k = D) => by rw [e2, k1] at e; cases e)).trans e) (Nat.le_add_right _ _)
    · exact k4.grown (grownBy_putObj' _ D _) (fun k e => .inr (by cases e; omega))
  case stop =>
    rintro D c pre W hD hpre ⟨rfl, i1, i2, i4, i5⟩ hd
    have hD2 := hD
    simp at hD2
    go_wp2_with fail
    refine ⟨by simp, .inl ⟨_, _, rfl, run_takeDeferred hd, ?_⟩⟩
    have r1 := cell_of_heap ((World.putObj_heap_other (w := W) (o := .deferred none) (show w.heap.size ≠ D by omega)).trans i2) 0
    have r2 := cell_of_heap ((World.putObj_heap_other (w := W) (o := .deferred none) (show w.heap.size + 1 ≠ D by omega)).trans i4) 0
    simp only [List.getElem?_toArray, List.getElem?_cons_zero] at r1 r2
    have hall : idAll L = false := by
      obtain ⟨t, ht⟩ := hpre
      unfold idAll parts
      rw [← ht, List.all_append, i1, Bool.false_and]
    refine ⟨.tuple #[.slice none 0 0, .bool false], ?_, .slice none 0 0, ?_, ?_, ?_⟩
    · simp only [results, resNums]
      go_simp
    · unfold idOk
      rw [hall, Bool.false_and]
    · unfold idRow
      rw [hall]
      exact World.ownsRow_nil _ _ _ _
    · exact i5.grown (grownBy_putObj' _ D _) (fun k e => .inr (by cases e; omega))
end Go.Proofs.YtfhmmekamommcaaGreatDoor
