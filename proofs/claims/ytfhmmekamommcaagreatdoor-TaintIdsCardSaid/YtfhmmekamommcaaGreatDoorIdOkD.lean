/- A run of an operation never takes back what was drawn; an append that says so. (And: Drawn, IdOkD.) -/
import Derived.Test.YtfhmmekamommcaaGreatDoorFrame
import Derived.OwnWalkIn
import Derived.Laws.AppendOwn
import Derived.Test.YtfhmmekamommcaaGreatDoorIdFns
import Derived.Sort.Grow
/- A run of an operation never takes back what was drawn; an append that says so. -/
namespace Go.Proofs.YtfhmmekamommcaaGreatDoor
set_option linter.unusedVariables false
set_option linter.unusedSimpArgs false
open Go Go.RowKit
theorem ask_drawn {α : Type} (a : Ask α) : ∀ w : World, w.drawn ≤ (w.ask a).2.drawn := by
  induction a with
  | done a => intro w; exact Nat.le_refl _
  | ask what range k ih =>
    intro w
    unfold World.ask
    simp only
    split
    · exact ih _ w
    · refine Nat.le_trans (Nat.le_succ w.drawn) ?_
      exact ih _ { w with drawn := w.drawn + 1 }
theorem sys_drawn (w : World) (c : Sys) : w.drawn ≤ (w.sys c).2.drawn := by
  unfold World.sys
  have h := ask_drawn (Kernel.perform c w.os) w
  split
  · exact Nat.le_refl _
  · rename_i r os w2 he
    rw [he] at h
    exact h
theorem viewStore_drawn {p : Program} {w w' : World} {at_ : Addr} {u : TypeId} {k : Addr} {v : Value} {b : Bool} {l : List Addr} (h : w.viewStore p at_ u k v b = .ok (w', l)) : w'.drawn = w.drawn := by
  unfold World.viewStore at h
  simp only [bind, Except.bind, pure, Except.pure, throw, throwThe, MonadExceptOf.throw] at h
  repeat' split at h
  all_goals first
    | (cases h; rfl)
    | (cases h; done)
theorem farStore_drawn {p : Program} {w w' : World} {a : Addr} {v : Value} {b : Bool} {l : List Addr} (h : w.farStore p a v b = .ok (w', l)) : w'.drawn = w.drawn := by
  unfold World.farStore at h
  split at h
  · split at h
    · rename_i r he
      cases h
      exact viewStore_drawn he
    · cases h
  · cases h
theorem freeze_drawn (w : World) (a : Addr) (n : Nat) : (w.freeze a n).drawn = w.drawn := by
  unfold World.freeze
  split <;> rfl
theorem run_drawn {α : Type} (p : Program) (s : Sem α) : ∀ (w : World) (a : α) (w' : World), s.run p w = .ok a w' → w.drawn ≤ w'.drawn := by
  induction s with
  | pure a => intro w b w' h; simp only [Sem.run] at h; cases h; exact Nat.le_refl _
  | load m a k ih =>
    intro w b w' h
    simp only [Sem.run] at h
    repeat' split at h
    all_goals first
      | exact ih _ _ _ _ h
      | cases h
  | store m a v k ih =>
    intro w b w' h
    cases v <;> simp only [Sem.run] at h <;> (repeat' split at h) <;> first
      | (have h2 := ih _ _ _ h; exact h2)
      | (cases h; done)
      | (rename_i he; exact Nat.le_trans (Nat.le_of_eq (farStore_drawn he).symm) (ih _ _ _ h))
  | new o k ih => intro w b w' h; simp only [Sem.run] at h; have h2 := ih _ _ _ _ h; exact h2
  | shape r k ih => intro w b w' h; simp only [Sem.run] at h; exact ih _ _ _ _ h
  | freeze a n k ih => intro w b w' h; simp only [Sem.run] at h; have h2 := ih _ _ _ h; rwa [freeze_drawn] at h2
  | frozen a k ih => intro w b w' h; simp only [Sem.run] at h; exact ih _ _ _ _ h
  | getObj r k ih =>
    intro w b w' h
    simp only [Sem.run] at h
    repeat' split at h
    all_goals first
      | exact ih _ _ _ _ h
      | cases h
  | setObj r o k ih =>
    intro w b w' h
    simp only [Sem.run] at h
    repeat' split at h
    all_goals first
      | (have h2 := ih _ _ _ h; exact h2)
      | cases h
  | choose q k ih =>
    intro w b w' h
    simp only [Sem.run] at h
    split at h
    · exact ih _ _ _ _ h
    · refine Nat.le_trans (Nat.le_succ w.drawn) ?_
      have h2 := ih _ _ _ _ h
      exact h2
  | sys c k ih => intro w b w' h; simp only [Sem.run] at h; exact Nat.le_trans (sys_drawn w c) (ih _ _ _ _ h)
  | program k ih => intro w b w' h; simp only [Sem.run] at h; exact ih _ _ _ _ h
  | mark m k ih => intro w b w' h; simp only [Sem.run] at h; exact ih _ _ _ h
  | halt h => intro w b w' h; simp only [Sem.run] at h; cases h
/-- an append in a round: what its run hands on -/
theorem in_append {F : Fence} {n : Nat} {P : Program} (w : World) {ops : Array Oper} {rest : List Oper} {o : Oper} {a : Act} {Q : Exit → Act → World → Prop} (hg : o.guard = none) (s x : Operand) (t : TypeId)
    (hop : o.op = Op.call { callee := Callee.builtin Builtin.append, args := #[s, x], argTypes := #[t, t] }) (vs vx : Value) (hs : a.eval s = vs) (hx : a.eval x = vx)
    (h : ∃ v' w', (Builtin.append_ #[t, t] o.type #[vs, vx]).run P w = .ok v' w' ∧ wpListIn F n P ops Q rest (a.put o.dst v') w') : wpListIn F n P ops Q (o :: rest) a w := by
  obtain ⟨v', w', hrun, hK⟩ := h
  refine wpListIn_plain hg fun K hK' => ?_
  unfold Oper.wpIn
  refine ⟨by simp [Oper.about, hop, resolve, Target.leads, Sem.run_pure], ?_⟩
  rw [Oper.semAt_plain F _ _ (by rw [hop]; intro c hc'; cases hc')]
  simp [execOp, hop, resolve, invoke, builtin, hs, hx, hrun, Result.andThen]
  exact hK' _ _ hK
end Go.Proofs.YtfhmmekamommcaaGreatDoor

/- The numbers of an id that is one: walked once more, telling that nothing drawn was taken back; the comparison of two ids. -/
namespace Go.Proofs.YtfhmmekamommcaaGreatDoor
set_option linter.unusedVariables false
set_option linter.unusedSimpArgs false
open Go Go.RowKit Go.Proofs Go.Shelf Go.Sort
attribute [local go_sem] Oper.semAt_some
structure Gd (w w' : World) : Prop where
  chg : Chg (fun _ => False) w w'
  drawn : w.drawn ≤ w'.drawn
theorem Gd.refl (w : World) : Gd w w := ⟨Chg.refl _ _, Nat.le_refl _⟩
theorem Gd.trans {a b c : World} (h : Gd a b) (k : Gd b c) : Gd a c := ⟨h.chg.trans k.chg, Nat.le_trans h.drawn k.drawn⟩
theorem Gd.alloc {a b : World} (h : Gd a b) (o : Obj) : Gd a (b.alloc o) := ⟨h.chg.alloc o, h.drawn⟩
theorem Gd.behind {w w' : World} (h : Gd w w') : ∃ q os, w' = grow (w.drewN q) os := by
  obtain ⟨⟨h1, h2, h3, h4, h5⟩, hd⟩ := h
  refine ⟨w'.drawn - w.drawn, w'.heap.extract w.heap.size w'.heap.size, ?_⟩
  cases w with
  | mk heap tape drawn os output =>
    cases w' with
    | mk heap' tape' drawn' os' output' =>
      simp only at h1 h2 h3 h4 h5 hd
      subst h1 h2 h3
      have e1 : heap' = heap ++ heap'.extract heap.size heap'.size := by
        apply Array.ext
        · simp; omega
        · intro i hi hi2
          by_cases hlt : i < heap.size
          · have := h5 i hlt (fun x => x)
            rw [Array.getElem?_eq_getElem hi, Array.getElem?_eq_getElem hlt] at this
            rw [Array.getElem_append_left hlt]
            exact Option.some.inj this
          · rw [Array.getElem_append_right (by omega)]
            simp only [Array.getElem_extract]
            congr 1
            omega
      unfold grow World.drewN
      simp only
      rw [← e1]
      congr 1
      omega
theorem trim_gd (b : UInt8) (t : List UInt8) (hl : (b :: t).length ≤ 140737488351232) (hd : (b :: t).all dgB = true) (w : World) :
    Calls Tryz.prog 125 #[.string (bs (b :: t)), .string ⟨#[48, 49, 50, 51, 52, 53, 54, 55, 56, 57]⟩] w fun e w' => e = .returned (.string (bs [])) ∧ Gd w w' := by
  have h0 : 0 < (bs (b :: t)).size := by rw [bs_size]; simp
  have h116 : (Tryz.prog.info? (Tryz.lays160_ren.t 116)).map (fun i => (i.zero, i.size)) = some (some (.agg (Array.replicate 256 (.bool false))), 256) := by kernel_rfl
  have hT := Any.strings_Trim_set Tryz.lays160 (zero_of_info h116).1 (zero_of_info h116).2 (bs (b :: t)) ⟨#[48, 49, 50, 51, 52, 53, 54, 55, 56, 57]⟩ w (by decide) h0 (by rw [bs_size]; exact Nat.le_trans hl (by decide)) (by decide) (ascii_of_all (by decide))
  have htr : Lib.trimS (bs (b :: t)).data.toList [48, 49, 50, 51, 52, 53, 54, 55, 56, 57] = [] := (trim_digs (b :: t)).2 hd
  refine Calls.mono (show Calls Tryz.prog 125 _ w _ from hT) ?_
  rintro e w' ⟨rfl, q, rfl⟩
  refine ⟨?_, ⟨(((Chg.refl _ _).alloc _).alloc _).drewN q, Nat.le_add_right _ _⟩⟩
  have : (⟨#[48, 49, 50, 51, 52, 53, 54, 55, 56, 57]⟩ : ByteArray).data.toList = [48, 49, 50, 51, 52, 53, 54, 55, 56, 57] := rfl
  rw [this, htr]
  rfl
theorem number_gd (p : List UInt8) (hl : p.length ≤ 140737488351232) (hok : okP p = true) (w : World) :
    Calls Tryz.prog 98 #[.string (bs p)] w fun e w' => e = .returned (.tuple #[.int .i64 (valL p : Nat), .int .i64 0]) ∧ Gd w w' := by
  obtain ⟨_, _, v1, v2⟩ := okP_val hok
  have hnum : numOk p = true := by unfold okP at hok; simp only [Bool.and_eq_true] at hok; exact hok.1.1
  cases p with
  | nil => cases hnum
  | cons b t =>
    unfold numOk at hnum
    simp only [Bool.and_eq_true, Bool.or_eq_true, bne_iff_ne, List.isEmpty_iff] at hnum
    obtain ⟨hd, hb⟩ := hnum
    have hb48 : b ≠ 48 := by
      rintro rfl
      rcases hb with hb | hb
      · exact hb rfl
      · subst hb
        revert v1
        decide
    have hT := trim_gd b t hl hd w
    have hat := atoi_digits b t hd
    have hat : Lib.atoiAll (bs (b :: t)).data.toList = _ := hat
    rw [if_pos (Nat.lt_of_le_of_lt v2 (by decide))] at hat
    have hA := fun w' => Tryz.strconv_Atoi_ok (bs (b :: t)) (by rw [bs_size]; exact Nat.le_trans hl (by decide)) _ hat w'
    have hne : (bs (b :: t)).toList.isEmpty = false := by simp [bs, ByteArray.toList_eq]
    have hs0 : 0 < (bs (b :: t)).size := by rw [bs_size]; simp
    have hh : ∀ h : 0 < (bs (b :: t)).size, (bs (b :: t))[0]'h = b := fun _ => rfl
    have h48 : ((((bs (b :: t))[0]'hs0).toNat : Int) == 48) = false := by
      rw [hh hs0, beq_eq_false_iff_ne]
      intro e
      exact hb48 (UInt8.toNat_inj.1 (by simpa using Int.ofNat.inj e))
    have hTn : (bs []).toList.isEmpty = true := by simp [bs, ByteArray.toList_eq]
    have hv : ¬ ((9007199254740991 : Int) < ((valL (b :: t) : Nat) : Int)) := fun h => absurd (Int.ofNat_lt.1 h) (Nat.not_lt.2 v2)
    have HA := Lib.hid hA
    clear hat hA hb hb48 hd hh hok hl v1 v2
    generalize ((valL (b :: t) : Nat) : Int) = v at *
    generalize bs [] = T at *
    generalize bs (b :: t) = s at *
    go_enter Tryz.func98, Tryz.ntmps98
    go_wp2_with fail
    refine hT.mono ?_
    rintro e w' ⟨rfl, hB⟩
    have hAt := HA.out w'
    have HB := Lib.hid hB
    clear hB HA hT
    go_wp2_with fail
    refine hAt.mono ?_
    rintro e w2 ⟨rfl, hw2⟩
    have HW2 := Lib.hid hw2
    clear hAt hw2
    go_wp2
    go_ret2
    refine ⟨rfl, HB.out.trans ?_⟩
    rcases HW2.out with rfl | ⟨T, rfl⟩
    · exact Gd.refl _
    · refine ⟨Below.chg (bytes_below _ _ _) (Nat.le_refl _) _, ?_⟩
      unfold Lib.bytesWorld
      rw [freeze_drawn]
      exact Nat.le_succ _
set_option maxRecDepth 100000 in
set_option maxHeartbeats 4000000 in
theorem idnums_gd (L : List UInt8) (hL : L.length ≤ 1000000000) (hok : idOk L = true) (w : World) : Calls Tryz.prog 65 #[.string (bs L)] w fun e w' =>
    ∃ v, e = .returned (.tuple #[v, .bool true]) ∧ w'.ownsRow w.heap.size 3 1 v (idNs L).length (natV (idNs L)) ∧ Gd w w' := by
  obtain ⟨i0, hi, hz0, hz1, hz2⟩ := info_parts infoIntI
  refine (callsIn_wide (n := 9)).1 ?_
  refine callsIn_of_wp_marks Tryz.func65 rfl trivial ?_ rfl
  simp only [Tryz.ntmps65, List.size_toArray, List.length_cons, List.length_nil, Nat.reduceAdd, Nat.reduceSub, Array.replicate_succ, Array.replicate_zero, List.push_toArray, List.append_toArray, List.nil_append, List.cons_append]
  refine wpIn_wide.2 ?_
  go_wp2_with (go_at_call 97; refine (splitSeq_any L _).mono ?_; rintro e w' ⟨rfl, rfl⟩)
  have hA : Gd w ((w.alloc (.cells #[.slice none 0 0] 50)).alloc (.cells #[.bool false] 4)) := ((Gd.refl w).alloc _).alloc _
  have b0 : ((w.alloc (.cells #[.slice none 0 0] 50)).alloc (.cells #[.bool false] 4)).heap[w.heap.size]? = some (.cells #[.slice none 0 0] 50 (0, 0)) := heap_alloc (heap_new _ _)
  have b1 : ((w.alloc (.cells #[.slice none 0 0] 50)).alloc (.cells #[.bool false] 4)).heap[w.heap.size + 1]? = some (.cells #[.bool false] 4 (0, 0)) := by
    have := heap_new (w.alloc (.cells #[.slice none 0 0] 50)) (.cells #[.bool false] 4)
    rwa [World.size_alloc] at this
  have hs2 : ((w.alloc (.cells #[.slice none 0 0] 50)).alloc (.cells #[.bool false] 4)).heap.size = w.heap.size + 2 := by simp
  generalize ((w.alloc (.cells #[.slice none 0 0] 50)).alloc (.cells #[.bool false] 4)) = W2 at *
  have e0 := heap_new W2 (.cells #[.string (bs L)] 9)
  have e1 := heap_new (W2.alloc (.cells #[.string (bs L)] 9)) (.cells #[.string ⟨#[46]⟩] 9)
  have e2 := heap_new ((W2.alloc (.cells #[.string (bs L)] 9)).alloc (.cells #[.string ⟨#[46]⟩] 9)) (.cells #[.int .i64 0] 3)
  simp only [World.size_alloc, hs2] at e0 e1 e2
  refine range_split1 (Bs := w.heap.size + 2) (by simp) rfl L (by omega) (heap_alloc (heap_alloc e0)) (heap_alloc e1) e2
    (fun pre W => pre.all okP = true ∧ (∃ v, W.heap[w.heap.size]? = some (.cells #[v] 50 (0, 0)) ∧ W.ownsRow (w.heap.size + 5) 3 1 v pre.length (natV (pre.map valL))) ∧ W.heap[w.heap.size + 1]? = some (.cells #[.bool false] 4 (0, 0)) ∧ Gd w W ∧ w.heap.size + 5 ≤ W.heap.size)
    (fun c pre W => c = .ret ∧ pre.all okP = false ∧ W.heap[w.heap.size]? = some (.cells #[.slice none 0 0] 50 (0, 0)) ∧ W.heap[w.heap.size + 1]? = some (.cells #[.bool false] 4 (0, 0)) ∧ Chg (fun _ => False) w W) ?hI ?hIx ?h0 ?body ?done ?stop
  case hI =>
    rintro s W W' hs ⟨i1, ⟨v, i2, i3⟩, i4, i5, i6⟩
    exact ⟨i1, ⟨v, hs.cells i2 (by omega), own_keep i3 fun k c t f hk e => hs.cells e (by omega)⟩, hs.cells i4 (by omega), ⟨hs.chg i5.chg (by simp; omega) (.inr (by omega)), by rw [hs.drawn]; exact i5.drawn⟩, Nat.le_trans i6 hs.size⟩
  case hIx =>
    rintro c s W W' hs ⟨i0, i1, i2, i4, i5⟩
    exact ⟨i0, i1, hs.cells i2 (by omega), hs.cells i4 (by omega), hs.chg i5 (by simp; omega) (.inr (by omega))⟩
  case h0 =>
    exact ⟨rfl, ⟨_, heap_alloc (heap_alloc (heap_alloc b0)), World.ownsRow_nil _ _ _ _⟩, heap_alloc (heap_alloc (heap_alloc b1)), ((hA.alloc _).alloc _).alloc _, by simp; omega⟩
  case body =>
    rintro l pre x W hpre ⟨i1, ⟨v, i2, i3⟩, i4, i5, i6⟩
    obtain ⟨L1, L2⟩ := pieces_len_le 46 L
    have hx : x.length ≤ 140737488351232 := Nat.le_trans (L2 x (hpre.subset (by simp))) (Nat.le_trans hL (by decide))
    have hk : pre.length + 1 ≤ 1000000001 := by
      have := hpre.length_le
      rw [List.length_append] at this
      exact Nat.le_trans this (Nat.le_trans L1 (Nat.add_le_add_right hL 1))
    have hok1 : okP x = true := List.all_eq_true.1 (idOk_all hok).1 x (hpre.subset (by simp))
    have hN := number_gd x hx hok1 W
    have c0 := cell_of_heap i2 0
    have c1 := cell_of_heap i4 0
    simp only [List.getElem?_toArray, List.getElem?_cons_zero] at c0 c1
    have g0 := lt_of_heap i2
    have g1 := lt_of_heap i4
    have hW5 := i6
    have I5 := Lib.hid i5
    have I1 := Lib.hid i1
    clear i5 i1 hpre hA e0 e1 e2 b0 b1 L1 L2 hx
    obtain ⟨_, _, n3, n4⟩ := okP_val hok1
    have hn3 : (1 : Int) ≤ (valL x : Nat) := Int.ofNat_le.2 n3
    obtain ⟨A, n, c, rfl⟩ := own_slice i3
    have HOK := Lib.hid hok1
    clear hok1
    generalize hvx : valL x = vx at *
    gi_wp2_with (first
      | (refine ⟨trivial, ?_⟩; gi_at_call 98; refine (CallsIn.inRound l (callsIn_wide.2 hN)).mono ?_; rintro e W1 ⟨rfl, hG1⟩
         have hB1 := hG1.chg.below W.heap.size (Nat.le_refl _) (fun _ _ h => h)
         have d0 := (hB1.block _ g0).trans i2
         have d1 := (hB1.block _ g1).trans i4
         have dr : W1.ownsRow (w.heap.size + 5) 3 1 (.slice A n c) pre.length (natV (pre.map valL)) := own_keep i3 fun k c t f hk e => (hB1.block _ (lt_of_heap e)).trans e
         have dc0 := cell_of_heap d0 0
         have dc1 := cell_of_heap d1 0
         have df0 := free_of_heap d0 0
         simp only [List.getElem?_toArray, List.getElem?_cons_zero] at dc0 dc1
         have hB1s := hB1.size
         clear hN)
      | (gi_at_builtin
         refine in_append _ rfl _ _ 50 rfl (.slice A n c) (.slice (some ⟨W1.heap.size, 0, none⟩) 1 1) rfl rfl ?_
         obtain ⟨v', w1, hrun, hown', hgrow, _⟩ := run_append_own (P := Tryz.prog) (W1.alloc (.cells #[.int .i64 (vx : Int)] 3)) (w.heap.size + 5) 50 50 3 i0 (.int .i64 0) 1 8 Tryz.underlying50 hi hz0 hz1 hz2 rfl (by decide) (.slice A n c) pre.length (natV (pre.map valL)) (dr.alloc _) ⟨W1.heap.size, 0, none⟩ 1 1 [.int .i64 (vx : Int)] rfl (cell_one_new _ _ _) (by simp [Value.oneCell']) (Nat.le_trans hk (by decide)) (Nat.le_trans (Nat.mul_le_mul_right 8 hk) (by decide)) (by simp; omega)
         have hdr := run_drawn _ _ _ _ _ hrun
         refine ⟨v', w1, hrun, ?_⟩
         clear hrun
         have q0 := grown_keep hgrow (heap_alloc d0) (fun e => by have := own_block dr e; omega)
         have q1 := grown_keep hgrow (heap_alloc d1) (fun e => by have := own_block dr e; omega)
         have qc0 := cell_of_heap q0 0
         have qf0 := free_of_heap q0 0
         simp only [List.getElem?_toArray, List.getElem?_cons_zero] at qc0
         obtain ⟨A', n', c', rfl⟩ := own_slice hown'))
    have hKO := ((keeps_below hB1).trans (KeepsOthers.alloc _ (.cells #[.int .i64 (vx : Int)] 3))).trans (keeps_append (dr.alloc _) hgrow)
    have hCh := ((I5.out.chg.trans hG1.chg).alloc (.cells #[.int .i64 (vx : Int)] 3)).grown hgrow (fun k e => .inr (Nat.le_trans (Nat.le_add_right _ _) (own_block dr e)))
    have hDr : w.drawn ≤ w1.drawn := Nat.le_trans I5.out.drawn (Nat.le_trans hG1.drawn hdr)
    refine ⟨hKO.trans (KeepsOthers.setCell _ _ _), ?kp, ?i1, ⟨.slice A' n' c', ?i2, ?i3⟩, ?i4, ⟨hCh.setCell (.inr (Nat.le_refl _)) _, hDr⟩, ?i6⟩
    case kp =>
      intro k c t f hk e
      refine heap_setCell (grown_keep hgrow (heap_alloc ((hB1.block _ (lt_of_heap e)).trans e)) (fun e => by have := own_block dr e; omega)) (by simp; omega) _
    case i1 =>
      rw [List.all_append, I1.out]
      simp [HOK.out]
    case i2 => rw [heap_setCell_cells q0]; rfl
    case i3 =>
      rw [List.length_append, List.map_append]
      unfold natV at hown' ⊢
      rw [List.map_append]
      simp only [List.map_cons, List.map_nil, hvx]
      exact own_keep hown' fun k c t f hk e => heap_setCell e (by simp; omega) _
    case i4 => exact heap_setCell q1 (by simp) _
    case i6 =>
      have := hgrow.size
      simp [World.setCell] at this ⊢
      omega
  case done =>
    rintro D W hD ⟨i1, ⟨v, i2, i3⟩, i4, i5, i6⟩ hd
    have c0 := cell_of_heap i2 0
    have c1 := cell_of_heap i4 0
    have f0 := free_of_heap i2 0
    have f1 := free_of_heap i4 0
    simp only [List.getElem?_toArray, List.getElem?_cons_zero] at c0 c1
    have hD2 := hD
    simp at hD2
    have m1 := lt_of_heap i2
    obtain ⟨A, n, c, rfl⟩ := own_slice i3
    have hn : n = (pieces 46 L).length := own_lenI i3
    subst hn
    go_wp2_with fail
    have k1 : ((W.setCell ⟨w.heap.size, 0, none⟩ (.slice A (pieces 46 L).length c)).setCell ⟨w.heap.size + 1, 0, none⟩ (.bool (decide (((pieces 46 L).length : Int) ≤ 8)))).heap[D]? = some (.deferred (some [])) :=
      heap_setCell (heap_setCell hd (by simp; omega) _) (by simp; omega) _
    have k2 : ((W.setCell ⟨w.heap.size, 0, none⟩ (.slice A (pieces 46 L).length c)).setCell ⟨w.heap.size + 1, 0, none⟩ (.bool (decide (((pieces 46 L).length : Int) ≤ 8)))).heap[w.heap.size]? = some (.cells #[.slice A (pieces 46 L).length c] 50 (0, 0)) := by
      refine heap_setCell ?_ (by simp) _
      rw [heap_setCell_cells i2]; rfl
    have k3 : ((W.setCell ⟨w.heap.size, 0, none⟩ (.slice A (pieces 46 L).length c)).setCell ⟨w.heap.size + 1, 0, none⟩ (.bool (decide (((pieces 46 L).length : Int) ≤ 8)))).heap[w.heap.size + 1]? = some (.cells #[.bool (decide (((pieces 46 L).length : Int) ≤ 8))] 4 (0, 0)) := by
      rw [heap_setCell_cells (heap_setCell i4 (by simp) _)]; rfl
    have kd := i5.drawn
    have k4 := (i5.chg.setCell (.inr (Nat.le_refl _) : (fun _ => False) (⟨w.heap.size, 0, none⟩ : Addr).block ∨ w.heap.size ≤ (⟨w.heap.size, 0, none⟩ : Addr).block) (.slice A (pieces 46 L).length c)).setCell (p := ⟨w.heap.size + 1, 0, none⟩) (.inr (by simp)) (.bool (decide (((pieces 46 L).length : Int) ≤ 8)))
    have k5 : ((W.setCell ⟨w.heap.size, 0, none⟩ (.slice A (pieces 46 L).length c)).setCell ⟨w.heap.size + 1, 0, none⟩ (.bool (decide (((pieces 46 L).length : Int) ≤ 8)))).ownsRow (w.heap.size + 5) 3 1 (.slice A (pieces 46 L).length c) (pieces 46 L).length (natV ((pieces 46 L).map valL)) :=
      own_keep i3 fun k c t f hk e => heap_setCell (heap_setCell e (by simp; omega) _) (by simp; omega) _
    have kd3 : w.drawn ≤ ((W.setCell ⟨w.heap.size, 0, none⟩ (.slice A (pieces 46 L).length c)).setCell ⟨w.heap.size + 1, 0, none⟩ (.bool (decide (((pieces 46 L).length : Int) ≤ 8)))).drawn := kd
    generalize ((W.setCell ⟨w.heap.size, 0, none⟩ (.slice A (pieces 46 L).length c)).setCell ⟨w.heap.size + 1, 0, none⟩ (.bool (decide (((pieces 46 L).length : Int) ≤ 8)))) = W3 at *
    refine ⟨by simp, .inl ⟨_, _, rfl, run_takeDeferred k1, ?_⟩⟩
    have r1 := cell_of_heap ((World.putObj_heap_other (w := W3) (o := .deferred none) (show w.heap.size ≠ D by omega)).trans k2) 0
    have r2 := cell_of_heap ((World.putObj_heap_other (w := W3) (o := .deferred none) (show w.heap.size + 1 ≠ D by omega)).trans k3) 0
    simp only [List.getElem?_toArray, List.getElem?_cons_zero] at r1 r2
    have hall : idAll L = true := i1
    refine ⟨.tuple #[.slice A (pieces 46 L).length c, .bool (decide (((pieces 46 L).length : Int) ≤ 8))], ?_, .slice A (pieces 46 L).length c, ?_, ?_, ?_⟩
    · simp only [results, resNums]
      go_simp
    · have : decide (((pieces 46 L).length : Int) ≤ 8) = true := by
        have h8 := (idOk_all hok).2
        unfold parts at h8
        exact decide_eq_true (by omega)
      rw [this]
    · rw [idNs_len]
      exact own_mono (own_keep k5 fun k c t f hk e => (World.putObj_heap_other (fun (e2 : k = D) => by rw [e2, k1] at e; cases e)).trans e) (Nat.le_add_right _ _)
    · exact ⟨k4.grown (grownBy_putObj' _ D _) (fun k e => .inr (by cases e; omega)), kd3⟩
  case stop =>
    rintro D c pre W hD hpre ⟨rfl, i1, i2, i4, i5⟩ hd
    have hall : pre.all okP = true := List.all_eq_true.2 fun x hx => List.all_eq_true.1 (idOk_all hok).1 x (hpre.subset hx)
    rw [hall] at i1
    cases i1
end Go.Proofs.YtfhmmekamommcaaGreatDoor
