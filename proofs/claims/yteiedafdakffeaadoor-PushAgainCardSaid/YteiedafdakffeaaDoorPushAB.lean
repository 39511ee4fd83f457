/- push: fails; an append behind Diff's lines. -/
import Derived.Test.YteiedafdakffeaaDoorPushAA
import Derived.ArgAppend
namespace Go.Proofs.YteiedafdakffeaaDoor
set_option linter.unusedVariables false
set_option linter.unusedSimpArgs false
open Go Go.RowKit Go.Proofs
open Go.Proofs.YteiedafdakffeaaDoorW.PrintWords (Kd ReadsInt ReadsOf own_move print_drop_of print_take_of gate_dst gate_store bytesOf bytesOf_length)
set_option maxRecDepth 100000 in
set_option maxHeartbeats 4000000 in
theorem fails_ok (w : World) (e : Int) (B : Option Addr) (b : List Int) (d : Nat) (hR : ReadsInt w .u8 B b.length b) (hd : b.length ≤ d) (hb : ∀ x ∈ b, 0 ≤ x ∧ x ≤ 255) (hpe : parseP b = noPkt e) :
    Calls Tryd.prog 26 #[.int .i64 e, .slice B b.length d] w fun en w' => en = .returned (.bool true) ∧ Chg (fun _ => False) w w' := by
  have hpa := parse_some w B b d hR hd hb
  rw [hpe] at hpa
  have HPA := Lib.hid hpa
  clear hpa hR hb hpe
  go_enter Tryd.func26, Tryd.ntmps26
  go_wp2_with fail
  refine HPA.out.mono ?_
  rintro en w3 ⟨v3, rfl, ho3, hC3⟩
  obtain ⟨A3, c3, rfl, hL3⟩ := own_lines ho3
  have hal3 := (Chg.refl (fun _ => False) w3).alloc (.cells #[.int .i64 0, .int .i64 0, .int .i64 0, .int .i64 0, .int .i64 0, .int .i64 0, .int .i64 0, .string ByteArray.empty, .slice A3 0 c3] 26)
  have hsame := same_some (w3.alloc (.cells #[.int .i64 0, .int .i64 0, .int .i64 0, .int .i64 0, .int .i64 0, .int .i64 0, .int .i64 0, .string ByteArray.empty, .slice A3 0 c3] 26)) 0 zeroV ByteArray.empty A3 [] c3 0 zeroV ByteArray.empty none [] 0 (fun i hi => by simp at hi) (fun i hi => by simp at hi) (by simp) (by simp)
  have hst : sameF 0 zeroV ByteArray.empty [] 0 zeroV ByteArray.empty [] = true := by kernel_rfl
  rw [hst] at hsame
  have HSAME := Lib.hid hsame
  have HC4 := Lib.hid (hC3.trans hal3)
  clear hC3 ho3 hL3 HPA hal3 hsame hst
  go_wp2_with fail
  refine HSAME.out.mono ?_
  rintro en w5 ⟨rfl, hC5⟩
  have HC5 := Lib.hid (HC4.out.trans hC5)
  clear hC5
  go_wp2_with fail
  go_ret
  exact ⟨rfl, HC5.out⟩
theorem run_room1 (w : World) (g off n cap q : Nat) (y x : Value) (hy : w.cell? ⟨q, 0, none⟩ = some y) (h1 : y.oneCell' = true) (hx : w.cell? ⟨g, off + n, none⟩ = some x) (hf : w.frozen? ⟨g, off + n, none⟩ = false) (hroom : n + 1 ≤ cap) :
    (Builtin.append_ #[24, 24] 24 #[.slice (some ⟨g, off, none⟩) n cap, .slice (some ⟨q, 0, none⟩) 1 1]).run Tryd.prog w = .ok (.slice (some ⟨g, off, none⟩) (n + 1) cap) (w.setCell ⟨g, off + n, none⟩ y) := by
  obtain ⟨i9, hi9, hz90, hz91, hz92⟩ := info_parts info9
  have hfc := run_firstCells_some (P := Tryd.prog) w 1 1 ⟨q, 0, none⟩ 1 1 [y] rfl (by
    intro j u hj
    match j, hj with
    | 0, hj => simp at hj; subst hj; simpa [Addr.add] using hy)
  have ea : (⟨g, off, none⟩ : Addr).add n = ⟨g, off + n, none⟩ := by
    unfold Addr.add
    by_cases e : n = 0
    · subst e; simp
    · simp [e]
  have hst : (storeCells ⟨g, off + n, none⟩ [y]).run Tryd.prog w = .ok () (w.setCell ⟨g, off + n, none⟩ y) := by
    have := run_storeCells_cells (P := Tryd.prog) g (off + n) [y] 0 w (fun j hj => by
      obtain rfl : j = 0 := by simpa using hj
      simp [hx]) (fun j hj => by
      obtain rfl : j = 0 := by simpa using hj
      simpa using hf) (fun v hv => by
      rw [List.mem_singleton.1 hv]
      exact h1)
    rw [this]
    simp [World.setCells]
  simp [Builtin.append_, run_underlying Tryd.underlying24, sizeOf, typeInfo, hi9, hz91, Builtin.lenOf, hroom, hfc, ea, hst]
set_option maxRecDepth 100000 in
theorem append_new (w : World) (base c q : Nat) (A : Option Addr) (l : List ByteArray) (y : ByteArray) (hN : NewAt base w A c) (hL : Lns w A l) (h0 : 0 < l.length) (hlc : l.length ≤ c) (hy : w.cell? ⟨q, 0, none⟩ = some (.string y)) (hb : base ≤ w.heap.size) (hbig : l.length ≤ 1000000) :
    ∃ A' c' w', (Builtin.append_ #[24, 24] 24 #[.slice A l.length c, .slice (some ⟨q, 0, none⟩) 1 1]).run Tryd.prog w = .ok (.slice A' (l.length + 1) c') w' ∧ l.length + 1 ≤ c' ∧ Lns w' A' (l ++ [y]) ∧ NewAt base w' A' c' ∧
      Chg (fun k => base ≤ k) w w' ∧ (∀ (k : Nat) (cs : Array Value) (t : TypeId) (f : Nat × Nat), t ≠ 9 → w.heap[k]? = some (Obj.cells cs t f) → w'.heap[k]? = some (Obj.cells cs t f)) := by
  obtain ⟨i9, hi9, hz90, hz91, hz92⟩ := info_parts info9
  obtain ⟨g, off, rfl, hc⟩ := lns_cells hL h0
  rcases hN with ⟨e, _⟩ | ⟨g', off', cur, e, hg, hh, ho⟩
  · cases e
  cases e
  by_cases hroom : l.length + 1 ≤ c
  · have hin : off + l.length < cur.size := by omega
    have hx : w.cell? ⟨g, off + l.length, none⟩ = some cur[off + l.length] := by rw [cell_of_heap hh]; exact Array.getElem?_eq_getElem hin
    have hr := run_room1 w g off l.length c q (.string y) _ hy rfl hx (free_of_heap hh _) hroom
    refine ⟨_, c, _, hr, hroom, fun i hi => ⟨g, off, rfl, ?_⟩, .inr ⟨g, off, _, rfl, hg, heap_setCell_cells hh _ _, by rw [Array.size_setIfInBounds]; exact ho⟩, (Chg.refl (fun k => base ≤ k) w).setCell (p := ⟨g, off + l.length, none⟩) (.inl hg) _, fun k cs t f ht hk => heap_setCell hk (fun e => by
      rw [e] at hk
      rw [hh] at hk
      cases hk
      exact ht rfl) _⟩
    rw [cell_of_heap (heap_setCell_cells hh _ _), Array.getElem?_setIfInBounds]
    rw [List.length_append, List.length_singleton] at hi
    by_cases e : i = l.length
    · subst e
      rw [if_pos rfl, if_pos hin]
      simp [List.getD]
    · rw [if_neg (by omega)]
      have := hc i (by omega)
      rw [cell_of_heap hh] at this
      rw [this]
      congr 2
      simp [List.getD, List.getElem?_append_left (show i < l.length by omega)]
  · obtain ⟨v', w', hr, ho', hg'⟩ := run_append_arg_grows (P := Tryd.prog) (w := w) 24 24 9 i9 (.string ByteArray.empty) 1 16 Tryd.underlying24 hi9 hz90 hz91 hz92 rfl (by decide) ⟨g, off, none⟩ l.length c (l.map Value.string) (by simp) (fun j u hj => by
        rw [List.getElem?_map] at hj
        obtain ⟨x, hx, rfl⟩ := Option.map_eq_some_iff.1 hj
        have hjl : j < l.length := (List.getElem?_eq_some_iff.1 hx).1
        have := hc j hjl
        rw [show l.getD j ByteArray.empty = x by simp [List.getD, hx]] at this
        rw [← this]
        congr 1
        unfold Addr.add
        by_cases e : j = 0
        · subst e; simp
        · simp [e]) ⟨q, 0, none⟩ 1 1 [.string y] (by simp) (by
        intro j u hj
        match j, hj with
        | 0, hj => simp at hj; subst hj; simpa [Addr.add] using hy) (by omega) (by unfold maxLen; omega) (by omega)
    have ho2 : w'.ownsRow w.heap.size 9 1 v' (l ++ [y]).length ((l ++ [y]).map Value.string) := by
      rw [List.length_append, List.map_append]
      exact ho'
    have hcap : ∃ A' c', v' = .slice A' (l.length + 1) c' ∧ l.length + 1 ≤ c' := by
      rcases ho2.2 with ⟨_, h2⟩ | ⟨g', cap', cur, hv, hg', hh, r1, r2, r3, r4⟩
      · simp at h2
      · exact ⟨_, _, by rw [hv, List.length_append]; rfl, by rw [List.length_append] at r1; exact r1⟩
    obtain ⟨A', c', rfl, hc'⟩ := hcap
    obtain ⟨A2, c2, e2, hL2⟩ := own_lines ho2
    simp at e2
    obtain ⟨rfl, rfl⟩ := e2
    have hN2 : NewAt base w' A' c' := by
      rcases ho2.2 with ⟨h1, h2⟩ | ⟨g', cap', cur', hv, hg', hh', r1, r2, r3, r4⟩
      · simp at h2
      · simp at hv
        obtain ⟨rfl, rfl⟩ := hv
        exact .inr ⟨g', 0, cur', rfl, by omega, hh', by omega⟩
    exact ⟨A', c', w', hr, hc', hL2, hN2, ((Chg.refl (fun k => base ≤ k) w).grown hg' (fun k e => by cases e)), fun k cs t f _ hk => (hg'.block k (lt_of_heap hk) (by simp)).trans hk⟩
theorem newAt_set {base P : Nat} {w : World} {A : Option Addr} {c : Nat} {cs : Array Value} {t : TypeId} {f : Nat × Nat} (h : NewAt base w A c) (hP : w.heap[P]? = some (.cells cs t f)) (ht : t ≠ 9) (i : Nat) (v : Value) : NewAt base (w.setCell ⟨P, i, none⟩ v) A c := by
  rcases h with h | ⟨g', off, cur, e', hg, hh, ho⟩
  · exact .inl h
  · exact .inr ⟨g', off, cur, e', hg, heap_setCell hh (fun e => by
      rw [e] at hh
      rw [hP] at hh
      cases hh
      exact ht rfl) v, ho⟩
theorem lns_set {base P : Nat} {w : World} {A : Option Addr} {c : Nat} {l : List ByteArray} {cs : Array Value} {t : TypeId} {f : Nat × Nat} (h : NewAt base w A c) (hl : Lns w A l) (hP : w.heap[P]? = some (.cells cs t f)) (ht : t ≠ 9) (i : Nat) (v : Value) : Lns (w.setCell ⟨P, i, none⟩ v) A l := fun j hj => by
  obtain ⟨g, p, e, hc⟩ := hl j hj
  rcases h with ⟨rfl, _⟩ | ⟨g', off, cur, e', hg, hh, ho⟩
  · cases e
  · rw [e'] at e
    cases e
    have hne : g ≠ P := fun e => by
      rw [e, hP] at hh
      cases hh
      exact ht rfl
    exact ⟨g, p, e', (World.cell?_of_block (w := w) (Below.heap_setCell w ⟨P, i, none⟩ v g hne)).trans hc⟩
end Go.Proofs.YteiedafdakffeaaDoor
