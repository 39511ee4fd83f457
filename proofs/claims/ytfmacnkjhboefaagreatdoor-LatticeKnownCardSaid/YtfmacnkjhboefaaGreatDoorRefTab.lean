/- The document's lattice: its tables. -/
import Derived.Test.YtfmacnkjhboefaaGreatDoorRefLat
import Derived.Deep.MidRow
namespace Go.Proofs.YtfmacnkjhboefaaGreatDoor
set_option linter.unusedVariables false
set_option linter.unusedSimpArgs false
open Go Go.RowKit Go.Proofs Go.Shelf Go.Sort
theorem own_keep1 {W W' : World} {base : Nat} {e : TypeId} {size : Nat} {v : Value} {n : Nat} {xs : List Value} (h : W.ownsRow base e size v n xs)
    (hk : ∀ k c t f, v.ownBlock = some k → W.heap[k]? = some (.cells c t f) → W'.heap[k]? = some (.cells c t f)) : W'.ownsRow base e size v n xs := by
  obtain ⟨h1, h2⟩ := h
  refine ⟨h1, ?_⟩
  rcases h2 with h2 | ⟨g, cap, cur, hv, hg, hh, r⟩
  · exact .inl h2
  · exact .inr ⟨g, cap, cur, hv, hg, hk _ _ _ _ (by rw [hv]; rfl) hh, r⟩
/-- a change of a block of another type -/
theorem RefO.other {w w' : World} {B base n la : Nat} {P : List (Nat × Nat)} (h : RefO w B base n P) (hc : Chg (fun k => k = la) w w') {c : Array Value} {t : TypeId} {f : Nat × Nat} (hl : w.heap[la]? = some (.cells c t f)) (t1 : t ≠ 89) (t2 : t ≠ 41) : RefO w' B base n P := by
  obtain ⟨v, hb, hr⟩ := h.row
  refine ⟨⟨v, hc.keep hb ?_, own_keep1 hr fun k c' t' f' hk hh => hc.keep hh ?_⟩, h.inn, h.n16, h.len⟩
  · rintro rfl
    rw [hb] at hl
    cases hl
    exact t1 rfl
  · rintro rfl
    rcases hr.2 with ⟨e, _⟩ | ⟨g, cap, cur, e, _, hh', _⟩
    · rw [e] at hk; cases hk
    · rw [e] at hk
      cases hk
      rw [hh'] at hl
      cases hl
      exact t2 rfl
theorem Chg.setRow {S : Nat → Prop} {a w : World} (h : Chg S a w) {g : Nat} (hp : S g ∨ a.heap.size ≤ g) (cs : Array Value) : Chg S a (w.setRow g cs) :=
  ⟨h.os, h.tape, h.output, by rw [setRow_size]; exact h.size, fun k hk hs => (setRow_other w g k cs (by rintro rfl; exact hp.elim hs (fun x => absurd hk (by omega)))).trans (h.block k hk hs)⟩
theorem Chg.setCells {S : Nat → Prop} {a : World} {b : Nat} (hp : S b ∨ a.heap.size ≤ b) : ∀ (vs : List Value) (o : Nat) (w : World), Chg S a w → Chg S a (w.setCells b o vs)
  | [], _, _, h => h
  | v :: r, o, w, h => Chg.setCells hp r (o + 1) _ (h.setCell hp v)
theorem heap_setCells {b : Nat} {t : TypeId} : ∀ (vs : List Value) (o : Nat) (w : World) (c : Array Value), w.heap[b]? = some (.cells c t (0, 0)) → ∃ c', (w.setCells b o vs).heap[b]? = some (.cells c' t (0, 0))
  | [], _, _, c, h => ⟨c, h⟩
  | v :: r, o, w, c, h => heap_setCells r (o + 1) _ _ (heap_setCell_cells h o v)
/-- a table, as values -/
def bl (f : Nat → Nat → Bool) : Array Value := ((List.range 100).map fun k => Value.bool (f (k / 10) (k % 10))).toArray
theorem bl_size (f : Nat → Nat → Bool) : (bl f).size = 100 := by simp [bl]
theorem bl_get (f : Nat → Nat → Bool) (i j : Nat) (hi : i < 10) (hj : j < 10) : (bl f)[i * 10 + j]? = some (.bool (f i j)) := by
  have e1 : (i * 10 + j) / 10 = i := by omega
  have e2 : (i * 10 + j) % 10 = j := by omega
  have e3 : i * 10 + j < 100 := by omega
  simp [bl, e1, e2, e3]
theorem bl_at (f : Nat → Nat → Bool) (k : Nat) (hk : k < 100) : (bl f)[k]? = some (.bool (f (k / 10) (k % 10))) := by simp [bl, hk]
theorem bl_one (f : Nat → Nat → Bool) : (bl f).all (·.oneCell') = true := by
  rw [Array.all_eq_true_iff_forall_mem]
  intro x hx
  simp [bl] at hx
  obtain ⟨k, _, rfl⟩ := hx
  rfl
theorem bl_set (f : Nat → Nat → Bool) (i j : Nat) (hi : i < 10) (hj : j < 10) (x : Bool) : (bl f).setIfInBounds (i * 10 + j) (.bool x) = bl (fun a b => if a = i ∧ b = j then x else f a b) := by
  apply Array.ext_getElem?
  intro k
  by_cases hk : k < 100
  · rw [bl_at _ k hk]
    by_cases e : i * 10 + j = k
    · subst e
      rw [Array.getElem?_setIfInBounds_self, if_pos (by rw [bl_size]; exact hk)]
      have e1 : (i * 10 + j) / 10 = i := by omega
      have e2 : (i * 10 + j) % 10 = j := by omega
      rw [e1, e2, if_pos ⟨rfl, rfl⟩]
    · rw [Array.getElem?_setIfInBounds_ne e, bl_at _ k hk, if_neg (by omega)]
  · rw [Array.getElem?_eq_none (by rw [Array.size_setIfInBounds, bl_size]; omega), Array.getElem?_eq_none (by rw [bl_size]; omega)]
theorem bl_congr {f g : Nat → Nat → Bool} (h : ∀ i j, i < 10 → j < 10 → f i j = g i j) : bl f = bl g := by
  unfold bl
  congr 1
  refine List.map_congr_left fun k hk => ?_
  have := List.mem_range.1 hk
  rw [h (k / 10) (k % 10) (by omega) (by omega)]
/-- a taile, as values -/
def il (f : Nat → Nat → Int) : Array Value := ((List.range 100).map fun k => Value.int .i64 (f (k / 10) (k % 10))).toArray
theorem il_size (f : Nat → Nat → Int) : (il f).size = 100 := by simp [il]
theorem il_get (f : Nat → Nat → Int) (i j : Nat) (hi : i < 10) (hj : j < 10) : (il f)[i * 10 + j]? = some (.int .i64 (f i j)) := by
  have e1 : (i * 10 + j) / 10 = i := by omega
  have e2 : (i * 10 + j) % 10 = j := by omega
  have e3 : i * 10 + j < 100 := by omega
  simp [il, e1, e2, e3]
theorem il_at (f : Nat → Nat → Int) (k : Nat) (hk : k < 100) : (il f)[k]? = some (.int .i64 (f (k / 10) (k % 10))) := by simp [il, hk]
theorem il_one (f : Nat → Nat → Int) : (il f).all (·.oneCell') = true := by
  rw [Array.all_eq_true_iff_forall_mem]
  intro x hx
  simp [il] at hx
  obtain ⟨k, _, rfl⟩ := hx
  rfl
theorem il_set (f : Nat → Nat → Int) (i j : Nat) (hi : i < 10) (hj : j < 10) (x : Int) : (il f).setIfInBounds (i * 10 + j) (.int .i64 x) = il (fun a b => if a = i ∧ b = j then x else f a b) := by
  apply Array.ext_getElem?
  intro k
  by_cases hk : k < 100
  · rw [il_at _ k hk]
    by_cases e : i * 10 + j = k
    · subst e
      rw [Array.getElem?_setIfInBounds_self, if_pos (by rw [il_size]; exact hk)]
      have e1 : (i * 10 + j) / 10 = i := by omega
      have e2 : (i * 10 + j) % 10 = j := by omega
      rw [e1, e2, if_pos ⟨rfl, rfl⟩]
    · rw [Array.getElem?_setIfInBounds_ne e, il_at _ k hk, if_neg (by omega)]
  · rw [Array.getElem?_eq_none (by rw [Array.size_setIfInBounds, il_size]; omega), Array.getElem?_eq_none (by rw [il_size]; omega)]
theorem il_congr {f g : Nat → Nat → Int} (h : ∀ i j, i < 10 → j < 10 → f i j = g i j) : il f = il g := by
  unfold il
  congr 1
  refine List.map_congr_left fun k hk => ?_
  have := List.mem_range.1 hk
  rw [h (k / 10) (k % 10) (by omega) (by omega)]
/-- the document's lattice, cell by cell -/
structure RefC (w : World) (la : Nat) (nv : Value) (bo : Nat) (Le : Nat → Nat → Bool) (J M : Nat → Nat → Int) : Prop where
  blk : ∃ c, w.heap[la]? = some (.cells c 87 (0, 0))
  nam : w.cell? ⟨la, 0, none⟩ = some nv
  ord : w.cell? ⟨la, 1, none⟩ = some (refp bo)
  le : w.rangeAt la 2 (bl Le).toList
  jn : w.rangeAt la 102 (il J).toList
  mt : w.rangeAt la 202 (il M).toList
theorem range_keep {w w' : World} {b o : Nat} {cs : List Value} (h : w.rangeAt b o cs) (hk : w'.heap[b]? = w.heap[b]?) : w'.rangeAt b o cs := fun j v hv =>
  (World.cell?_of_block (w := w) hk).trans (h j v hv)
theorem RefC.keep {w w' : World} {la bo : Nat} {nv : Value} {Le : Nat → Nat → Bool} {J M : Nat → Nat → Int} (h : RefC w la nv bo Le J M) (hk : w'.heap[la]? = w.heap[la]?) : RefC w' la nv bo Le J M := by
  obtain ⟨c, hc⟩ := h.blk
  exact ⟨⟨c, hk.trans hc⟩, (World.cell?_of_block (w := w) hk).trans h.nam, (World.cell?_of_block (w := w) hk).trans h.ord, range_keep h.le hk, range_keep h.jn hk, range_keep h.mt hk⟩
theorem RefC.lt {w : World} {la bo : Nat} {nv : Value} {Le : Nat → Nat → Bool} {J M : Nat → Nat → Int} (h : RefC w la nv bo Le J M) : la < w.heap.size := by
  obtain ⟨c, hc⟩ := h.blk; exact lt_of_heap hc
theorem RefC.same {w w' : World} {la bo : Nat} {nv : Value} {Le : Nat → Nat → Bool} {J M : Nat → Nat → Int} (h : RefC w la nv bo Le J M) (hc : Chg (fun _ => False) w w') : RefC w' la nv bo Le J M := h.keep (hc.block _ h.lt (fun x => x))
theorem RefC.there {w : World} {la bo : Nat} {nv : Value} {Le : Nat → Nat → Bool} {J M : Nat → Nat → Int} (h : RefC w la nv bo Le J M) : w.there la 2 100 ∧ w.there la 102 100 ∧ w.there la 202 100 := by
  obtain ⟨c, hc⟩ := h.blk
  refine ⟨fun j hj => ⟨?_, free_of_heap hc _⟩, fun j hj => ⟨?_, free_of_heap hc _⟩, fun j hj => ⟨?_, free_of_heap hc _⟩⟩
  · rw [h.le j _ (by rw [Array.getElem?_toList]; exact bl_at Le j hj)]; rfl
  · rw [h.jn j _ (by rw [Array.getElem?_toList]; exact il_at J j hj)]; rfl
  · rw [h.mt j _ (by rw [Array.getElem?_toList]; exact il_at M j hj)]; rfl
theorem RefC.setLe {w : World} {la bo : Nat} {nv : Value} {Le : Nat → Nat → Bool} {J M : Nat → Nat → Int} (h : RefC w la nv bo Le J M) (f : Nat → Nat → Bool) : RefC (w.setCells la 2 (bl f).toList) la nv bo f J M := by
  obtain ⟨c, hc⟩ := h.blk
  have hz : (bl f).toList.length = 100 := by rw [Array.length_toList, bl_size]
  refine ⟨heap_setCells _ _ _ _ hc, ?_, ?_, World.rangeAt_setCells_same w la 2 _ (by rw [hz]; exact h.there.1), World.rangeAt_setCells_apart h.jn la 2 _ (by rw [hz]; omega), World.rangeAt_setCells_apart h.mt la 2 _ (by rw [hz]; omega)⟩
  · rw [World.cell?_setCells_out la _ 2 w _ (fun _ _ => .inl (by simp))]; exact h.nam
  · rw [World.cell?_setCells_out la _ 2 w _ (fun _ _ => .inl (by simp))]; exact h.ord
theorem RefC.setJ {w : World} {la bo : Nat} {nv : Value} {Le : Nat → Nat → Bool} {J M : Nat → Nat → Int} (h : RefC w la nv bo Le J M) (f : Nat → Nat → Int) : RefC (w.setCells la 102 (il f).toList) la nv bo Le f M := by
  obtain ⟨c, hc⟩ := h.blk
  have hz : (il f).toList.length = 100 := by rw [Array.length_toList, il_size]
  have hy : (bl Le).toList.length = 100 := by rw [Array.length_toList, bl_size]
  refine ⟨heap_setCells _ _ _ _ hc, ?_, ?_, World.rangeAt_setCells_apart h.le la 102 _ (by rw [hy]; omega), World.rangeAt_setCells_same w la 102 _ (by rw [hz]; exact h.there.2.1), World.rangeAt_setCells_apart h.mt la 102 _ (by rw [hz]; omega)⟩
  · rw [World.cell?_setCells_out la _ 102 w _ (fun _ _ => .inl (by simp))]; exact h.nam
  · rw [World.cell?_setCells_out la _ 102 w _ (fun _ _ => .inl (by simp))]; exact h.ord
theorem RefC.setM {w : World} {la bo : Nat} {nv : Value} {Le : Nat → Nat → Bool} {J M : Nat → Nat → Int} (h : RefC w la nv bo Le J M) (f : Nat → Nat → Int) : RefC (w.setCells la 202 (il f).toList) la nv bo Le J f := by
  obtain ⟨c, hc⟩ := h.blk
  have hz : (il f).toList.length = 100 := by rw [Array.length_toList, il_size]
  have hy : (bl Le).toList.length = 100 := by rw [Array.length_toList, bl_size]
  have hx : (il J).toList.length = 100 := by rw [Array.length_toList, il_size]
  refine ⟨heap_setCells _ _ _ _ hc, ?_, ?_, World.rangeAt_setCells_apart h.le la 202 _ (by rw [hy]; omega), World.rangeAt_setCells_apart h.jn la 202 _ (by rw [hx]; omega), World.rangeAt_setCells_same w la 202 _ (by rw [hz]; exact h.there.2.2)⟩
  · rw [World.cell?_setCells_out la _ 202 w _ (fun _ _ => .inl (by simp))]; exact h.nam
  · rw [World.cell?_setCells_out la _ 202 w _ (fun _ _ => .inl (by simp))]; exact h.ord
theorem RefC.leAt {w : World} {la bo : Nat} {nv : Value} {Le : Nat → Nat → Bool} {J M : Nat → Nat → Int} (h : RefC w la nv bo Le J M) (i j : Nat) (hi : i < 10) (hj : j < 10) : w.cell? ⟨la, 2 + i * 10 + j, none⟩ = some (.bool (Le i j)) := by
  rw [Nat.add_assoc]; exact h.le (i * 10 + j) _ (by rw [Array.getElem?_toList]; exact bl_get Le i j hi hj)
theorem RefC.jnAt {w : World} {la bo : Nat} {nv : Value} {Le : Nat → Nat → Bool} {J M : Nat → Nat → Int} (h : RefC w la nv bo Le J M) (i j : Nat) (hi : i < 10) (hj : j < 10) : w.cell? ⟨la, 102 + i * 10 + j, none⟩ = some (.int .i64 (J i j)) := by
  rw [Nat.add_assoc]; exact h.jn (i * 10 + j) _ (by rw [Array.getElem?_toList]; exact il_get J i j hi hj)
theorem RefC.mtAt {w : World} {la bo : Nat} {nv : Value} {Le : Nat → Nat → Bool} {J M : Nat → Nat → Int} (h : RefC w la nv bo Le J M) (i j : Nat) (hi : i < 10) (hj : j < 10) : w.cell? ⟨la, 202 + i * 10 + j, none⟩ = some (.int .i64 (M i j)) := by
  rw [Nat.add_assoc]; exact h.mt (i * 10 + j) _ (by rw [Array.getElem?_toList]; exact il_get M i j hi hj)
theorem RefC.toT {w : World} {la bo n base : Nat} {nv : Value} {Le : Nat → Nat → Bool} {J M : Nat → Nat → Int} {P : List (Nat × Nat)} (h : RefC w la nv bo Le J M) (ho : RefO w bo base n P) : RefT w la bo n Le :=
  ⟨h.ord, ho.cells.1, h.leAt, ho.n16.2⟩
/-- a table of yes and no, filled up to a place -/
def tabB (n : Nat) (f : Nat → Nat → Bool) (k q : Nat) : Nat → Nat → Bool := fun i j => if (i < k ∧ j < n) ∨ (i = k ∧ j < q) then f i j else false
theorem tabB_next (n : Nat) (f : Nat → Nat → Bool) (k : Nat) : tabB n f k n = tabB n f (k + 1) 0 := by
  funext i j
  unfold tabB
  by_cases h : (i < k ∧ j < n) ∨ (i = k ∧ j < n)
  · rw [if_pos h, if_pos (by omega)]
  · rw [if_neg h, if_neg (by omega)]
theorem tabB_set (n : Nat) (f : Nat → Nat → Bool) (k q : Nat) (hq : q < n) : (fun i j => if i = k ∧ j = q then f k q else tabB n f k q i j) = tabB n f k (q + 1) := by
  funext i j
  unfold tabB
  by_cases h : i = k ∧ j = q
  · obtain ⟨rfl, rfl⟩ := h
    rw [if_pos ⟨rfl, rfl⟩, if_pos (by omega)]
  · rw [if_neg h]
    by_cases h2 : (i < k ∧ j < n) ∨ (i = k ∧ j < q)
    · rw [if_pos h2, if_pos (by omega)]
    · rw [if_neg h2, if_neg (by omega)]
theorem tabB_zero (n : Nat) (f : Nat → Nat → Bool) : (fun _ _ => false) = tabB n f 0 0 := by
  funext i j; unfold tabB; rw [if_neg (by omega)]
theorem tabB_agree (n : Nat) (f : Nat → Nat → Bool) : Agree n (tabB n f n 0) f := fun i j hi hj => by unfold tabB; rw [if_pos (by omega)]
theorem infoB : (Tryz.prog.info? 83).map (·.size) = some 100 := by kernel_rfl
theorem infoI : (Tryz.prog.info? 85).map (·.size) = some 100 := by kernel_rfl
theorem exec_load_mid {P : Program} {op : Oper} {a : Act} {w : World} (ty : TypeId) (x : Operand) (ho : op.op = .load ty x) (b o : Nat) (hx : a.eval x = .pointer (some ⟨b, o, none⟩)) (cs : Array Value) (d : TypeDesc) (hc : w.rangeAt b o cs.toList)
    (hu : P.underlying ty = some d) (hd : d.isRow = true) (hi : (P.info? ty).map (·.size) = some cs.size) : (execOp a.eval op).run P w = .ok (.value (.agg cs)) w := by
  have h := run_loadVar_mid w b o ty cs.toList d hc hu hd (by rw [Array.length_toList]; exact hi)
  rw [Array.toArray_toList] at h
  unfold execOp
  simp only [ho, hx, Instr.loadAt, Instr.sureAddr, Sem.run_bind, Sem.run_pure, Result.andThen_ok, h]
set_option maxRecDepth 100000 in
set_option maxHeartbeats 16000000 in
theorem reftables_any {w : World} {la bo base n : Nat} {nv : Value} {P : List (Nat × Nat)} {R : Nat → Nat → Bool} (ho : RefO w bo base n P) (hL : Least n (fun i j => (i, j) ∈ P) R) (hc : RefC w la nv bo (fun _ _ => false) (fun _ _ => 0) (fun _ _ => 0)) :
    Calls Tryz.prog 37 #[refp la] w fun e w' => e = .returned (.tuple #[]) ∧ RefC w' la nv bo (tabB n R n 0) (tabJ n (joinD n R) (fun _ _ => 0) n 0) (tabJ n (meetD n R) (fun _ _ => 0) n 0) ∧ Chg (fun k => k = la) w w' := by
  have n10 := ho.n16.2
  have HO := Lib.hid ho
  have HL := Lib.hid hL
  have HC := Lib.hid hc
  have hle := hc.le
  have z1 := hc.ord
  clear ho hL hc
  unfold refp at *
  go_enter Tryz.func37, Tryz.ntmps37
  go_upto_region 1 with (first
    | (refine wpList_load_mid rfl 83 (.tmp 11) rfl la 2 rfl (bl (fun _ _ => false)).toList _ hle Tryz.underlying83 rfl (by rw [Array.length_toList, bl_size]; exact infoB) ?_)
    | (refine wpList_store_row rfl 83 (.tmp 2) (.tmp 12) rfl w.heap.size (bl (fun _ _ => false)) rfl rfl 83 _ (heap_new w _) (by rw [bl_size]; exact infoB) (by rw [bl_size]; rfl) (bl_one _) ?_))
  have hb1 : ((w.alloc (.cells Tryz.zeroCells83 83)).setRow w.heap.size (bl (fun _ _ => false))).heap[w.heap.size]? = some (.cells (bl (tabB n R 0 0)) 83 (0, 0)) := by
    rw [← tabB_zero]; exact setRow_heap _ _ _ _ _ _ (heap_new w _)
  have hC1 := Chg.setRow ((Chg.refl (fun _ => False) w).alloc (.cells Tryz.zeroCells83 83)) (g := w.heap.size) (.inr (Nat.le_refl _)) (bl (fun _ _ => false))
  generalize ((w.alloc (.cells Tryz.zeroCells83 83)).setRow w.heap.size (bl (fun _ _ => false))) = w1 at *
  have hg1 : w.heap.size ≤ w.heap.size := Nat.le_refl _
  generalize hG1 : w.heap.size = g1 at hb1 hg1 ⊢
  have HB := Lib.hid hb1
  have HC1 := Lib.hid hC1
  have hlag : la < g1 := by have := HC.out.lt; omega
  clear hb1 hC1 hle z1 hg1
  go_wp2_with fail
  go_loopw [3] (fun i wr => ∃ k : Nat, i = .int .i64 k ∧ k ≤ n ∧ wr.heap[g1]? = some (.cells (bl (tabB n R k 0)) 83 (0, 0)) ∧ Chg (fun _ => False) w wr) (fun i _ => n - (intOf i).toNat)
  case atStart => exact ⟨0, rfl, by omega, HB.out, HC1.out⟩
  case round =>
    clear HB HC1
    obtain ⟨k, rfl, k0, hB, hC⟩ := hrel
    have z1 := (HC.out.same hC).ord
    have z2 := (HO.out.same hC).cells.1
    unfold refp at z1
    by_cases hk : k < n
    · have hw3 : IntKind.i64.wrap ((k : Int) + 1) = k + 1 := IntWalk.i64_in _ ⟨by omega, by omega⟩
      have HB := Lib.hid hB
      have HD := Lib.hid hC
      clear hB hC
      go_upto_block 2 with fail
      clear z1 z2
      go_wp2_with fail
      go_loopw [4] (fun i wr => ∃ q : Nat, i = .int .i64 q ∧ q ≤ n ∧ wr.heap[g1]? = some (.cells (bl (tabB n R k q)) 83 (0, 0)) ∧ Chg (fun _ => False) w wr) (fun i _ => n - (intOf i).toNat)
      case atStart => exact ⟨0, rfl, by omega, HB.out, HD.out⟩
      case round =>
        clear HB HD
        obtain ⟨q, rfl, q0, hB, hC⟩ := hrel
        have z1 := (HC.out.same hC).ord
        have z2 := (HO.out.same hC).cells.1
        unfold refp at z1
        by_cases hq : q < n
        · have hw4 : IntKind.i64.wrap ((q : Int) + 1) = q + 1 := IntWalk.i64_in _ ⟨by omega, by omega⟩
          have hk10 : (k : Int) < 10 := by omega
          have hq10 : (q : Int) < 10 := by omega
          have hk00 : ¬ (k : Int) < 0 := by omega
          have hq00 : ¬ (q : Int) < 0 := by omega
          go_upto_region 7 with fail
          refine region_lone (fun (W' : World) => W'.cell? ⟨la, 1, none⟩ = some (.pointer (some ⟨bo, 0, none⟩))) [] (by kernel_rfl) ?_
          have hSz : (fun (W' : World) => W'.cell? ⟨la, 1, none⟩ = some (.pointer (some ⟨bo, 0, none⟩))) wr.drew := z1
          have hCz := hC.drew
          have HB := Lib.hid (show wr.drew.heap[g1]? = _ from hB)
          clear hB hC z1 z2
          refine take_one 0 hSz rfl (by kernel_rfl) rfl ?_
          apply Exists.intro
          refine And.intro (fun W' hS' => ?y0) (And.intro (fun _ _ _ h => h) ?_)
          case y0 => have d0 := hS'; go_simp; rfl
          refine take_one 1 hSz rfl (by kernel_rfl) rfl ?_
          apply Exists.intro
          refine And.intro (fun W' hS' => ?y1) (And.intro (fun _ _ _ h => h) ?_)
          case y1 => have d0 := hS'; go_simp; rfl
          refine take_one 2 hSz rfl (by kernel_rfl) rfl ?_
          apply Exists.intro
          refine And.intro (fun W' hS' => ?y2) (And.intro (fun _ _ _ h => h) ?_)
          case y2 => have d0 := hS'; go_simp; rfl
          refine take_one 3 hSz rfl (by kernel_rfl) rfl ?_
          apply Exists.intro
          refine And.intro (fun W' hS' => ?y3) (And.intro (fun _ _ _ h => h) ?_)
          case y3 => have d0 := hS'; go_simp; rfl
          refine take_one 4 hSz rfl (by kernel_rfl) rfl ?_
          apply Exists.intro
          refine And.intro (fun W' hS' => ?y4) (And.intro (fun _ _ _ h => h) ?_)
          case y4 => have d0 := hS'; go_simp; rfl
          refine take_one 5 hSz rfl (by kernel_rfl) rfl ?_
          apply Exists.intro
          refine And.intro (fun W' hS' => ?y5) (And.intro (fun _ _ _ h => h) ?_)
          case y5 => have d0 := hS'; go_simp; rfl
          refine take_one 6 hSz rfl (by kernel_rfl) rfl ?_
          apply Exists.intro
          refine And.intro (fun W' hS' => ?y6) (And.intro (fun _ _ _ h => h) ?_)
          case y6 => have d0 := hS'; go_simp; rfl
          refine take_one 7 hSz rfl (by kernel_rfl) rfl ?_
          apply Exists.intro
          refine And.intro (fun W' hS' => ?y7) (And.intro (fun _ _ _ h => h) ?_)
          case y7 => have d0 := hS'; go_simp; rfl
          try go_simp
          refine take_one 9 hSz rfl (by kernel_rfl) rfl ?_
          apply Exists.intro
          refine And.intro (fun W' hS' => ?y9) (And.intro (fun _ _ _ h => h) ?_)
          case y9 => have d0 := hS'; go_simp; rfl
          refine only_one 8 rfl (by kernel_rfl) rfl ?_
          try go_simp
          refine (refatmost_any (HO.out.same hCz) HL.out (k : Int) (q : Int)).mono ?_
          rintro e8 w8 ⟨rfl, hD8⟩
          rw [atM_nat hk hq]
          have hC8 := hCz.trans hD8
          have hB8 := hD8.keep HB.out (fun x => x)
          have hS8 : (fun (W' : World) => W'.cell? ⟨la, 1, none⟩ = some (.pointer (some ⟨bo, 0, none⟩))) w8 := (HC.out.same hC8).ord
          have x0 : w8.cell? ⟨g1, k * 10 + q, none⟩ = some (.bool (tabB n R k q k q)) := by rw [cell_of_heap hB8]; exact bl_get _ k q (by omega) (by omega)
          have x1 := free_of_heap hB8 (k * 10 + q)
          have hC9 := hC8.setCell (p := ⟨g1, k * 10 + q, none⟩) (.inr (by show w.heap.size ≤ g1; omega)) (.bool (R k q))
          try refine ⟨hS8, ?_⟩
          refine take_one 10 hS8 rfl (by kernel_rfl) rfl ?_
          apply Exists.intro
          refine And.intro (fun W' hS' => ?y10) (And.intro (fun _ _ _ h => h) ?_)
          case y10 => have d0 := hS'; go_simp; rfl
          refine only_one 11 rfl (by kernel_rfl) rfl ?_
          try go_simp
          refine ⟨by kernel_rfl, ?_⟩
          have HB5 := Lib.hid (heap_setCell_cells hB8 (k * 10 + q) (.bool (R k q)))
          clear hSz hCz HB hS8 hC8 hB8 x0 x1 hD8
          generalize w8.setCell ⟨g1, k * 10 + q, none⟩ (.bool (R k q)) = wm at *
          go_wp2_with fail
          go_roundw
          case rel =>
            refine ⟨q + 1, by go_num, by omega, ?_, hC9⟩
            have := HB5.out
            rw [bl_set _ k q (by omega) (by omega), tabB_set n R k q hq] at this
            exact this
          case measure => simp [intOf]; omega
        · have hqn : q = n := by omega
          have HQ := Lib.hid hqn
          have HB := Lib.hid hB
          clear hqn hB
          go_wp2_with fail
          go_roundw
          case rel =>
            refine ⟨k + 1, by go_num, by omega, ?_, hC⟩
            have := HB.out
            rw [HQ.out, tabB_next] at this
            exact this
          case measure => simp [intOf]; omega
    · have hkn : k = n := by omega
      rw [hkn] at hB
      have HB := Lib.hid hB
      have hCw := hC
      have HCw := Lib.hid (HC.out.same hC)
      have hth := HCw.out.there.1
      clear hB hkn
      go_upto_region 9 with (first
        | (refine wpList_load_row rfl 83 (.tmp 2) rfl g1 rfl _ _ _ _ HB.out Tryz.underlying83 rfl (by rw [bl_size]; exact infoB) ?_)
        | (refine wpList_store_mid rfl 83 (.tmp 49) (.tmp 47) rfl la 2 (bl (tabB n R n 0)) rfl rfl (by rw [bl_size]; exact hth) (by rw [bl_size]; exact infoB) (bl_one _) ?_))
      have hE := HCw.out.setLe (tabB n R n 0)
      have hCE : Chg (fun k => k = la) w (wr.setCells la 2 (bl (tabB n R n 0)).toList) := Chg.setCells (S := fun k => k = la) (b := la) (.inl rfl) _ _ _ (hC.mono (fun _ _ e => e.elim))
      clear hth HCw HB hC z1 z2
      generalize wr.setCells la 2 (bl (tabB n R n 0)).toList = w2 at *
      have HE := Lib.hid hE
      have HCE := Lib.hid hCE
      clear hE hCE hCw
      obtain ⟨cla, hcla⟩ := HC.out.blk
      have HO2 := Lib.hid (HO.out.other HCE.out hcla (by decide) (by decide))
      have hla2 := HE.out.lt
      clear hcla
      go_simp
      go_cut [5, 6] from 50 to 57 (fun p5 p6 W => ∃ gJ gM, p5 = .pointer (some ⟨gJ, 0, none⟩) ∧ p6 = .pointer (some ⟨gM, 0, none⟩) ∧ gJ ≠ gM ∧ w2.heap.size ≤ gJ ∧ w2.heap.size ≤ gM ∧ W.heap[gJ]? = some (.cells (il (fun _ _ => 0)) 85 (0, 0)) ∧ W.heap[gM]? = some (.cells (il (fun _ _ => 0)) 85 (0, 0)) ∧ Chg (fun _ => False) w2 W)
      case first =>
        refine region_lone (fun (W' : World) => W'.rangeAt la 102 (il (fun _ _ => 0)).toList ∧ W'.rangeAt la 202 (il (fun _ _ => 0)).toList) [] (by kernel_rfl) ?_
        have hSz : (fun (W' : World) => W'.rangeAt la 102 (il (fun _ _ => 0)).toList ∧ W'.rangeAt la 202 (il (fun _ _ => 0)).toList) w2.drew := ⟨HE.out.jn, HE.out.mt⟩
        refine take_one 0 hSz rfl (by kernel_rfl) rfl ?_
        apply Exists.intro
        refine And.intro (fun W' hS' => ?y0) (And.intro (fun _ _ _ h => h) ?_)
        case y0 => obtain ⟨d0, d1⟩ := hS'; go_simp; rfl
        refine take_one 1 hSz rfl (by kernel_rfl) rfl ?_
        apply Exists.intro
        refine And.intro (fun W' hS' => ?y1) (And.intro (fun _ _ _ h => h) ?_)
        case y1 => obtain ⟨d0, d1⟩ := hS'; go_simp; rfl
        refine take_one 2 hSz rfl (by kernel_rfl) rfl ?_
        apply Exists.intro
        refine And.intro (fun W' hS' => ?y2) (And.intro (fun _ _ _ h => h) ?_)
        case y2 => obtain ⟨d0, d1⟩ := hS'; go_simp; rfl
        refine take_one 3 hSz rfl (by kernel_rfl) rfl ?_
        refine ⟨.agg (il (fun _ _ => 0)), fun W' hS' => exec_load_mid 85 (.tmp 52) rfl la 102 rfl _ _ hS'.1 Tryz.underlying85 rfl (by rw [il_size]; exact infoI), fun _ _ _ h => h, ?_⟩
        refine take_one 4 hSz rfl (by kernel_rfl) rfl ?_
        apply Exists.intro
        refine And.intro (fun W' hS' => ?y4) (And.intro (fun _ _ _ h => h) ?_)
        case y4 => obtain ⟨d0, d1⟩ := hS'; go_simp; rfl
        refine take_one 5 hSz rfl (by kernel_rfl) rfl ?_
        apply Exists.intro
        refine And.intro (fun W' hS' => ?y5) (And.intro (fun _ _ _ h => h) ?_)
        case y5 => obtain ⟨d0, d1⟩ := hS'; go_simp; rfl
        refine take_one 6 hSz rfl (by kernel_rfl) rfl ?_
        apply Exists.intro
        refine And.intro (fun W' hS' => ?y6) (And.intro (fun _ _ _ h => h) ?_)
        case y6 => obtain ⟨d0, d1⟩ := hS'; go_simp; rfl
        refine take_one 7 hSz rfl (by kernel_rfl) rfl ?_
        refine ⟨.agg (il (fun _ _ => 0)), fun W' hS' => exec_load_mid 85 (.tmp 56) rfl la 202 rfl _ _ hS'.2 Tryz.underlying85 rfl (by rw [il_size]; exact infoI), fun _ _ _ h => h, ?_⟩
        refine one_of_two 8 9 rfl rfl (by kernel_rfl) rfl rfl ?_ ?_
        · try go_simp
          refine ⟨⟨range_keep hSz.1 (Below.heap_alloc w2.drew _ _ hla2), range_keep hSz.2 (Below.heap_alloc w2.drew _ _ hla2)⟩, ?_⟩
          refine only_one 9 rfl (by kernel_rfl) rfl ?_
          try go_simp
          have hC2 := (((Chg.refl (fun _ => False) w2).alloc (.cells Tryz.zeroCells85 85)).alloc (.cells Tryz.zeroCells85 85)).drew
          have hJ2 : (((w2.alloc (.cells Tryz.zeroCells85 85)).alloc (.cells Tryz.zeroCells85 85)).drew).heap[w2.heap.size]? = some (.cells Tryz.zeroCells85 85 (0, 0)) := heap_alloc (heap_new w2 _)
          have hM2 : (((w2.alloc (.cells Tryz.zeroCells85 85)).alloc (.cells Tryz.zeroCells85 85)).drew).heap[(w2.heap.size + 1)]? = some (.cells Tryz.zeroCells85 85 (0, 0)) := heap_new1 w2 _ _
          have hgne : w2.heap.size ≠ (w2.heap.size + 1) := by omega
          have hgJ : w2.heap.size ≤ w2.heap.size := by omega
          have hgM : w2.heap.size ≤ (w2.heap.size + 1) := by omega
          have hlJ : la ≠ w2.heap.size := by omega
          have hlM : la ≠ (w2.heap.size + 1) := by omega
          refine ⟨⟨range_keep (w := w2) HE.out.jn (hC2.block _ hla2 (fun x => x)), range_keep (w := w2) HE.out.mt (hC2.block _ hla2 (fun x => x))⟩, ?_⟩
          generalize (((w2.alloc (.cells Tryz.zeroCells85 85)).alloc (.cells Tryz.zeroCells85 85)).drew) = x2 at *
          generalize hgMe : (w2.heap.size + 1) = gM at *
          generalize hgJe : w2.heap.size = gJ at hJ2 hgne hlJ ⊢
          refine only_one 10 rfl (by kernel_rfl) rfl ?_
          refine wp_store_row 85 (.tmp 5) (.tmp 53) rfl gJ (il (fun _ _ => 0)) rfl rfl 85 _ hJ2 (by rw [il_size]; exact infoI) (by rw [il_size]; rfl) (il_one _) ?_
          have hJ3 := setRow_heap x2 gJ _ (il (fun _ _ => 0)) _ _ hJ2
          have hM3 := (setRow_other x2 gJ gM (il (fun _ _ => 0)) (fun e => hgne e.symm)).trans hM2
          have hC3 := Chg.setRow hC2 (.inr (by omega)) (g := gJ) (il (fun _ _ => 0))
          refine ⟨fun _ => ⟨range_keep (w := w2) HE.out.jn (hC3.block _ hla2 (fun x => x)), range_keep (w := w2) HE.out.mt (hC3.block _ hla2 (fun x => x))⟩, ?_⟩
          refine only_one 11 rfl (by kernel_rfl) rfl ?_
          refine wp_store_row 85 (.tmp 6) (.tmp 57) rfl gM (il (fun _ _ => 0)) rfl rfl 85 _ hM3 (by rw [il_size]; exact infoI) (by rw [il_size]; rfl) (il_one _) ?_
          have hM4 := setRow_heap (x2.setRow gJ (il (fun _ _ => 0))) gM _ (il (fun _ _ => 0)) _ _ hM3
          have hJ4 := (setRow_other (x2.setRow gJ (il (fun _ _ => 0))) gM gJ (il (fun _ _ => 0)) hgne).trans hJ3
          have hC4 := Chg.setRow hC3 (.inr (by omega)) (g := gM) (il (fun _ _ => 0))
          refine ⟨fun _ => ⟨range_keep (w := w2) HE.out.jn (hC4.block _ hla2 (fun x => x)), range_keep (w := w2) HE.out.mt (hC4.block _ hla2 (fun x => x))⟩, ?_⟩
          refine all_done (by kernel_rfl) ?_ _
          go_wp2_with fail
          go_meet
          exact ⟨gJ, gM, rfl, rfl, hgne, by omega, by omega, hJ4, hM4, hC4⟩
        · try go_simp
          refine ⟨⟨range_keep hSz.1 (Below.heap_alloc w2.drew _ _ hla2), range_keep hSz.2 (Below.heap_alloc w2.drew _ _ hla2)⟩, ?_⟩
          refine only_one 8 rfl (by kernel_rfl) rfl ?_
          try go_simp
          have hC2 := (((Chg.refl (fun _ => False) w2).alloc (.cells Tryz.zeroCells85 85)).alloc (.cells Tryz.zeroCells85 85)).drew
          have hJ2 : (((w2.alloc (.cells Tryz.zeroCells85 85)).alloc (.cells Tryz.zeroCells85 85)).drew).heap[(w2.heap.size + 1)]? = some (.cells Tryz.zeroCells85 85 (0, 0)) := heap_new1 w2 _ _
          have hM2 : (((w2.alloc (.cells Tryz.zeroCells85 85)).alloc (.cells Tryz.zeroCells85 85)).drew).heap[w2.heap.size]? = some (.cells Tryz.zeroCells85 85 (0, 0)) := heap_alloc (heap_new w2 _)
          have hgne : (w2.heap.size + 1) ≠ w2.heap.size := by omega
          have hgJ : w2.heap.size ≤ (w2.heap.size + 1) := by omega
          have hgM : w2.heap.size ≤ w2.heap.size := by omega
          have hlJ : la ≠ (w2.heap.size + 1) := by omega
          have hlM : la ≠ w2.heap.size := by omega
          refine ⟨⟨range_keep (w := w2) HE.out.jn (hC2.block _ hla2 (fun x => x)), range_keep (w := w2) HE.out.mt (hC2.block _ hla2 (fun x => x))⟩, ?_⟩
          generalize (((w2.alloc (.cells Tryz.zeroCells85 85)).alloc (.cells Tryz.zeroCells85 85)).drew) = x2 at *
          generalize hgJe : (w2.heap.size + 1) = gJ at *
          generalize hgMe : w2.heap.size = gM at hM2 hgne hlM ⊢
          refine only_one 10 rfl (by kernel_rfl) rfl ?_
          refine wp_store_row 85 (.tmp 5) (.tmp 53) rfl gJ (il (fun _ _ => 0)) rfl rfl 85 _ hJ2 (by rw [il_size]; exact infoI) (by rw [il_size]; rfl) (il_one _) ?_
          have hJ3 := setRow_heap x2 gJ _ (il (fun _ _ => 0)) _ _ hJ2
          have hM3 := (setRow_other x2 gJ gM (il (fun _ _ => 0)) (fun e => hgne e.symm)).trans hM2
          have hC3 := Chg.setRow hC2 (.inr (by omega)) (g := gJ) (il (fun _ _ => 0))
          refine ⟨fun _ => ⟨range_keep (w := w2) HE.out.jn (hC3.block _ hla2 (fun x => x)), range_keep (w := w2) HE.out.mt (hC3.block _ hla2 (fun x => x))⟩, ?_⟩
          refine only_one 11 rfl (by kernel_rfl) rfl ?_
          refine wp_store_row 85 (.tmp 6) (.tmp 57) rfl gM (il (fun _ _ => 0)) rfl rfl 85 _ hM3 (by rw [il_size]; exact infoI) (by rw [il_size]; rfl) (il_one _) ?_
          have hM4 := setRow_heap (x2.setRow gJ (il (fun _ _ => 0))) gM _ (il (fun _ _ => 0)) _ _ hM3
          have hJ4 := (setRow_other (x2.setRow gJ (il (fun _ _ => 0))) gM gJ (il (fun _ _ => 0)) hgne).trans hJ3
          have hC4 := Chg.setRow hC3 (.inr (by omega)) (g := gM) (il (fun _ _ => 0))
          refine ⟨fun _ => ⟨range_keep (w := w2) HE.out.jn (hC4.block _ hla2 (fun x => x)), range_keep (w := w2) HE.out.mt (hC4.block _ hla2 (fun x => x))⟩, ?_⟩
          refine all_done (by kernel_rfl) ?_ _
          go_wp2_with fail
          go_meet
          exact ⟨gJ, gM, rfl, rfl, hgne, by omega, by omega, hJ4, hM4, hC4⟩
      case rest =>
        obtain ⟨gJ, gM, rfl, rfl, hne, hgJ, hgM, hJ, hM, hD⟩ := hcut
        have hlJ : la < gJ := by omega
        have hlM : la < gM := by omega
        have hJ0 : wc.heap[gJ]? = some (.cells (il (tabJ n (joinD n R) (fun _ _ => 0) 0 0)) 85 (0, 0)) := by
          rw [hJ, il_congr (fun i j _ _ => tabJ_zero n (joinD n R) (fun _ _ => 0) i j)]
        have hM0 : wc.heap[gM]? = some (.cells (il (tabJ n (meetD n R) (fun _ _ => 0) 0 0)) 85 (0, 0)) := by
          rw [hM, il_congr (fun i j _ _ => tabJ_zero n (meetD n R) (fun _ _ => 0) i j)]
        clear hJ hM
        have HJ := Lib.hid hJ0
        have HM := Lib.hid hM0
        have HD := Lib.hid hD
        clear hJ0 hM0 hD
        go_wp2_with fail
        go_loopw [7] (fun i wr => ∃ k : Nat, i = .int .i64 k ∧ k ≤ n ∧ wr.heap[gJ]? = some (.cells (il (tabJ n (joinD n R) (fun _ _ => 0) k 0)) 85 (0, 0)) ∧ wr.heap[gM]? = some (.cells (il (tabJ n (meetD n R) (fun _ _ => 0) k 0)) 85 (0, 0)) ∧ Chg (fun _ => False) w2 wr) (fun i _ => n - (intOf i).toNat)
        case atStart => exact ⟨0, rfl, by omega, HJ.out, HM.out, HD.out⟩
        case round =>
          clear HJ HM HD
          obtain ⟨k, rfl, k0, hJ, hM, hC⟩ := hrel
          have z1 := (HE.out.same hC).ord
          have z2 := (HO2.out.same hC).cells.1
          unfold refp at z1
          by_cases hk : k < n
          · have hw3 : IntKind.i64.wrap ((k : Int) + 1) = k + 1 := IntWalk.i64_in _ ⟨by omega, by omega⟩
            have HJ := Lib.hid hJ
            have HM := Lib.hid hM
            have HD := Lib.hid hC
            clear hJ hM hC
            go_upto_block 6 with fail
            clear z1 z2
            go_wp2_with fail
            go_loopw [8] (fun i wr => ∃ q : Nat, i = .int .i64 q ∧ q ≤ n ∧ wr.heap[gJ]? = some (.cells (il (tabJ n (joinD n R) (fun _ _ => 0) k q)) 85 (0, 0)) ∧ wr.heap[gM]? = some (.cells (il (tabJ n (meetD n R) (fun _ _ => 0) k q)) 85 (0, 0)) ∧ Chg (fun _ => False) w2 wr) (fun i _ => n - (intOf i).toNat)
            case atStart => exact ⟨0, rfl, by omega, HJ.out, HM.out, HD.out⟩
            case round =>
              clear HJ HM HD
              obtain ⟨q, rfl, q0, hJ, hM, hC⟩ := hrel
              have z1 := (HE.out.same hC).ord
              have z2 := (HO2.out.same hC).cells.1
              unfold refp at z1
              by_cases hq : q < n
              · have hw4 : IntKind.i64.wrap ((q : Int) + 1) = q + 1 := IntWalk.i64_in _ ⟨by omega, by omega⟩
                have hk10 : (k : Int) < 10 := by omega
                have hq10 : (q : Int) < 10 := by omega
                have hk00 : ¬ (k : Int) < 0 := by omega
                have hq00 : ¬ (q : Int) < 0 := by omega
                go_upto_region 16 with fail
                refine region_lone (fun (W' : World) => W'.cell? ⟨la, 1, none⟩ = some (.pointer (some ⟨bo, 0, none⟩))) [] (by kernel_rfl) ?_
                have hSz : (fun (W' : World) => W'.cell? ⟨la, 1, none⟩ = some (.pointer (some ⟨bo, 0, none⟩))) wr.drew := z1
                have hCz := hC.drew
                have hJz : wr.drew.heap[gJ]? = _ := hJ
                have hMz : wr.drew.heap[gM]? = _ := hM
                have x0 : wr.cell? ⟨gJ, k * 10 + q, none⟩ = some (.int .i64 (tabJ n (joinD n R) (fun _ _ => 0) k q k q)) := by rw [cell_of_heap (show wr.heap[gJ]? = _ from hJz)]; exact il_get _ k q (by omega) (by omega)
                have x1 := free_of_heap (show wr.heap[gJ]? = _ from hJz) (k * 10 + q)
                have HJ := Lib.hid hJz
                have HM := Lib.hid hMz
                clear hJ hM hC z1 z2 hJz hMz
                refine take_one 0 hSz rfl (by kernel_rfl) rfl ?_
                apply Exists.intro
                refine And.intro (fun W' hS' => ?y0) (And.intro (fun _ _ _ h => h) ?_)
                case y0 => have d0 := hS'; go_simp; rfl
                refine take_one 1 hSz rfl (by kernel_rfl) rfl ?_
                apply Exists.intro
                refine And.intro (fun W' hS' => ?y1) (And.intro (fun _ _ _ h => h) ?_)
                case y1 => have d0 := hS'; go_simp; rfl
                refine take_one 2 hSz rfl (by kernel_rfl) rfl ?_
                apply Exists.intro
                refine And.intro (fun W' hS' => ?y2) (And.intro (fun _ _ _ h => h) ?_)
                case y2 => have d0 := hS'; go_simp; rfl
                refine take_one 3 hSz rfl (by kernel_rfl) rfl ?_
                apply Exists.intro
                refine And.intro (fun W' hS' => ?y3) (And.intro (fun _ _ _ h => h) ?_)
                case y3 => have d0 := hS'; go_simp; rfl
                refine take_one 4 hSz rfl (by kernel_rfl) rfl ?_
                apply Exists.intro
                refine And.intro (fun W' hS' => ?y4) (And.intro (fun _ _ _ h => h) ?_)
                case y4 => have d0 := hS'; go_simp; rfl
                refine take_one 6 hSz rfl (by kernel_rfl) rfl ?_
                apply Exists.intro
                refine And.intro (fun W' hS' => ?y6) (And.intro (fun _ _ _ h => h) ?_)
                case y6 => have d0 := hS'; go_simp; rfl
                refine only_one 5 rfl (by kernel_rfl) rfl ?_
                try go_simp
                refine (refjoin_some ((HE.out.same hCz).toT (HO2.out.same hCz)) k q hk hq).mono ?_
                rintro e5 w5 ⟨rfl, rfl⟩
                rw [joinD_congr (tabB_agree n R) hk hq]
                try refine ⟨hSz, ?_⟩
                refine take_one 7 hSz rfl (by kernel_rfl) rfl ?_
                apply Exists.intro
                refine And.intro (fun W' hS' => ?y7) (And.intro (fun _ _ _ h => h) ?_)
                case y7 => have d0 := hS'; go_simp; rfl
                refine only_one 8 rfl (by kernel_rfl) rfl ?_
                try go_simp
                refine ⟨hSz, ?_⟩
                try go_simp
                refine ⟨by kernel_rfl, ?_⟩
                have hJ5 := heap_setCell_cells (show wr.heap[gJ]? = _ from HJ.out) (k * 10 + q) (.int .i64 (joinD n R k q))
                rw [il_set _ k q (by omega) (by omega), il_congr (fun i j _ _ => tabJ_set n (joinD n R) (fun _ _ => 0) k q hq i j)] at hJ5
                have hM5 := heap_setCell (show wr.heap[gM]? = _ from HM.out) (a := ⟨gJ, k * 10 + q, none⟩) (fun e => hne e.symm) (.int .i64 (joinD n R k q))
                have hC5 : Chg (fun _ => False) w2 (wr.setCell ⟨gJ, k * 10 + q, none⟩ (.int .i64 (joinD n R k q))).drew := (Chg.setCell (show Chg (fun _ => False) w2 wr from ⟨hCz.os, hCz.tape, hCz.output, hCz.size, hCz.block⟩) (p := ⟨gJ, k * 10 + q, none⟩) (.inr (by show w2.heap.size ≤ gJ; omega)) (.int .i64 (joinD n R k q))).drew
                clear hSz hCz HJ HM x0 x1
                have hJ6 : (wr.setCell ⟨gJ, k * 10 + q, none⟩ (.int .i64 (joinD n R k q))).drew.heap[gJ]? = _ := hJ5
                have hM6 : (wr.setCell ⟨gJ, k * 10 + q, none⟩ (.int .i64 (joinD n R k q))).drew.heap[gM]? = _ := hM5
                clear hJ5 hM5
                generalize (wr.setCell ⟨gJ, k * 10 + q, none⟩ (.int .i64 (joinD n R k q))).drew = wm at *
                have hJ5 := hJ6
                have hM5 := hM6
                clear hJ6 hM6
                have z1 := (HE.out.same hC5).ord
                unfold refp at z1
                go_upto_region 17 with fail
                refine region_lone (fun (W' : World) => W'.cell? ⟨la, 1, none⟩ = some (.pointer (some ⟨bo, 0, none⟩))) [] (by kernel_rfl) ?_
                have hSz : (fun (W' : World) => W'.cell? ⟨la, 1, none⟩ = some (.pointer (some ⟨bo, 0, none⟩))) wm.drew := z1
                have hCz := hC5.drew
                have hJz : wm.drew.heap[gJ]? = _ := hJ5
                have hMz : wm.drew.heap[gM]? = _ := hM5
                have x0 : wm.cell? ⟨gM, k * 10 + q, none⟩ = some (.int .i64 (tabJ n (meetD n R) (fun _ _ => 0) k q k q)) := by rw [cell_of_heap (show wm.heap[gM]? = _ from hMz)]; exact il_get _ k q (by omega) (by omega)
                have x1 := free_of_heap (show wm.heap[gM]? = _ from hMz) (k * 10 + q)
                have HJ := Lib.hid hJz
                have HM := Lib.hid hMz
                clear hJ5 hM5 hC5 z1 hJz hMz
                refine take_one 0 hSz rfl (by kernel_rfl) rfl ?_
                apply Exists.intro
                refine And.intro (fun W' hS' => ?y0) (And.intro (fun _ _ _ h => h) ?_)
                case y0 => have d0 := hS'; go_simp; rfl
                refine take_one 1 hSz rfl (by kernel_rfl) rfl ?_
                apply Exists.intro
                refine And.intro (fun W' hS' => ?y1) (And.intro (fun _ _ _ h => h) ?_)
                case y1 => have d0 := hS'; go_simp; rfl
                refine take_one 2 hSz rfl (by kernel_rfl) rfl ?_
                apply Exists.intro
                refine And.intro (fun W' hS' => ?y2) (And.intro (fun _ _ _ h => h) ?_)
                case y2 => have d0 := hS'; go_simp; rfl
                refine take_one 3 hSz rfl (by kernel_rfl) rfl ?_
                apply Exists.intro
                refine And.intro (fun W' hS' => ?y3) (And.intro (fun _ _ _ h => h) ?_)
                case y3 => have d0 := hS'; go_simp; rfl
                refine take_one 4 hSz rfl (by kernel_rfl) rfl ?_
                apply Exists.intro
                refine And.intro (fun W' hS' => ?y4) (And.intro (fun _ _ _ h => h) ?_)
                case y4 => have d0 := hS'; go_simp; rfl
                refine take_one 6 hSz rfl (by kernel_rfl) rfl ?_
                apply Exists.intro
                refine And.intro (fun W' hS' => ?y6) (And.intro (fun _ _ _ h => h) ?_)
                case y6 => have d0 := hS'; go_simp; rfl
                refine only_one 5 rfl (by kernel_rfl) rfl ?_
                try go_simp
                refine (refmeet_some ((HE.out.same hCz).toT (HO2.out.same hCz)) k q hk hq).mono ?_
                rintro e5 w5 ⟨rfl, rfl⟩
                rw [meetD_congr (tabB_agree n R) hk hq]
                try refine ⟨hSz, ?_⟩
                refine take_one 7 hSz rfl (by kernel_rfl) rfl ?_
                apply Exists.intro
                refine And.intro (fun W' hS' => ?y7) (And.intro (fun _ _ _ h => h) ?_)
                case y7 => have d0 := hS'; go_simp; rfl
                refine only_one 8 rfl (by kernel_rfl) rfl ?_
                try go_simp
                refine ⟨hSz, ?_⟩
                try go_simp
                refine ⟨by kernel_rfl, ?_⟩
                have hM5 := heap_setCell_cells (show wm.heap[gM]? = _ from HM.out) (k * 10 + q) (.int .i64 (meetD n R k q))
                rw [il_set _ k q (by omega) (by omega), il_congr (fun i j _ _ => tabJ_set n (meetD n R) (fun _ _ => 0) k q hq i j)] at hM5
                have hJ5 := heap_setCell (show wm.heap[gJ]? = _ from HJ.out) (a := ⟨gM, k * 10 + q, none⟩) hne (.int .i64 (meetD n R k q))
                have hC5 : Chg (fun _ => False) w2 (wm.setCell ⟨gM, k * 10 + q, none⟩ (.int .i64 (meetD n R k q))).drew := (Chg.setCell (show Chg (fun _ => False) w2 wm from ⟨hCz.os, hCz.tape, hCz.output, hCz.size, hCz.block⟩) (p := ⟨gM, k * 10 + q, none⟩) (.inr (by show w2.heap.size ≤ gM; omega)) (.int .i64 (meetD n R k q))).drew
                have HJ2 := Lib.hid (show (wm.setCell ⟨gM, k * 10 + q, none⟩ (.int .i64 (meetD n R k q))).drew.heap[gJ]? = _ from hJ5)
                have HM2 := Lib.hid (show (wm.setCell ⟨gM, k * 10 + q, none⟩ (.int .i64 (meetD n R k q))).drew.heap[gM]? = _ from hM5)
                clear hSz hCz HJ HM x0 x1 hJ5 hM5
                generalize (wm.setCell ⟨gM, k * 10 + q, none⟩ (.int .i64 (meetD n R k q))).drew = wm2 at *
                go_wp2_with fail
                go_roundw
                case rel => exact ⟨q + 1, by go_num, by omega, HJ2.out, HM2.out, hC5⟩
                case measure => simp [intOf]; omega
              · have hqn : q = n := by omega
                rw [hqn, il_congr (fun i j _ _ => tabJ_next n (joinD n R) (fun _ _ => 0) k i j)] at hJ
                rw [hqn, il_congr (fun i j _ _ => tabJ_next n (meetD n R) (fun _ _ => 0) k i j)] at hM
                have HJ := Lib.hid hJ
                have HM := Lib.hid hM
                clear hqn hJ hM
                go_wp2_with fail
                go_roundw
                case rel => exact ⟨k + 1, by go_num, by omega, HJ.out, HM.out, hC⟩
                case measure => simp [intOf]; omega
          · have hkn : k = n := by omega
            rw [hkn] at hJ hM
            have HJ := Lib.hid hJ
            have HM := Lib.hid hM
            have HE5 := Lib.hid (HE.out.same hC)
            have th1 := HE5.out.there.2.1
            clear hJ hM hkn
            go_upto_region 19 with (first
              | (refine wpList_load_row rfl 85 (.tmp 5) rfl gJ rfl _ _ _ _ HJ.out Tryz.underlying85 rfl (by rw [il_size]; exact infoI) ?_)
              | (refine wpList_store_mid rfl 85 (.tmp 99) (.tmp 97) rfl la 102 (il (tabJ n (joinD n R) (fun _ _ => 0) n 0)) rfl rfl (by rw [il_size]; exact th1) (by rw [il_size]; exact infoI) (il_one _) ?_))
            have HE6 := Lib.hid (HE5.out.setJ (tabJ n (joinD n R) (fun _ _ => 0) n 0))
            have hC6 : Chg (fun k => k = la) w2 (wr.setCells la 102 (il (tabJ n (joinD n R) (fun _ _ => 0) n 0)).toList) := Chg.setCells (S := fun k => k = la) (b := la) (.inl rfl) _ _ _ (hC.mono (fun _ _ e => e.elim))
            have hM6 : (wr.setCells la 102 (il (tabJ n (joinD n R) (fun _ _ => 0) n 0)).toList).heap[gM]? = some (.cells (il (tabJ n (meetD n R) (fun _ _ => 0) n 0)) 85 (0, 0)) :=
              (Chg.setCells (S := fun k => k = la) (b := la) (.inl rfl) _ _ _ (Chg.refl _ wr)).keep HM.out (by show ¬ gM = la; omega)
            have th2 := HE6.out.there.2.2
            clear HJ HM HE5 th1 hC z1 z2
            generalize wr.setCells la 102 (il (tabJ n (joinD n R) (fun _ _ => 0) n 0)).toList = w6 at *
            have HM6 := Lib.hid hM6
            clear hM6
            go_wp2_with (first
              | (refine wpList_load_row rfl 85 (.tmp 6) rfl gM rfl _ _ _ _ HM6.out Tryz.underlying85 rfl (by rw [il_size]; exact infoI) ?_)
              | (refine wpList_store_mid rfl 85 (.tmp 103) (.tmp 101) rfl la 202 (il (tabJ n (meetD n R) (fun _ _ => 0) n 0)) rfl rfl (by rw [il_size]; exact th2) (by rw [il_size]; exact infoI) (il_one _) ?_))
            go_end0
            exact ⟨rfl, HE6.out.setM _, HCE.out.trans (Chg.setCells (S := fun k => k = la) (b := la) (.inl rfl) _ _ _ hC6)⟩
end Go.Proofs.YtfmacnkjhboefaaGreatDoor
