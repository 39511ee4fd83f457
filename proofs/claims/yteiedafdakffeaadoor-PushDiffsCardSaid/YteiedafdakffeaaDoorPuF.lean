/- push: the law's helpers: EqBytes, is, fails. (And what follows from it: PushAA, PushAB, PushAC, PushAD.) -/
import Derived.Test.YteiedafdakffeaaDoorPuE
import Derived.Test.YteiedafdakffeaaDoorPuC
import Derived.ArgAppend
/- push: the law's helpers: EqBytes, is, fails. -/
namespace Go.Proofs.YteiedafdakffeaaDoor
set_option linter.unusedVariables false
set_option linter.unusedSimpArgs false
open Go Go.RowKit Go.Proofs
open Go.Proofs.YteiedafdakffeaaDoorW.PrintWords (Kd ReadsInt ReadsOf own_move print_drop_of print_take_of gate_dst gate_store bytesOf bytesOf_length)
theorem eqBytes_some (w : World) (A B : Option Addr) (l m : List Int) (c d : Nat) (hl : ReadsInt w .u8 A l.length l) (hm : ReadsInt w .u8 B m.length m) :
    Calls Tryd.prog 23 #[.slice A l.length c, .slice B m.length d] w fun e w' => e = .returned (.bool ((strOfNums l).toList == (strOfNums m).toList)) ∧ w' = w := by
  have h1 := Kd.C_string (P := Tryd.prog) (A := A) (c := c) Tryd.underlying22 Tryd.underlying5 Tryd.underlying9 (Kd.C_of_reads (d := (0 : Int)) (h1 := fun _ => rfl) hl)
  have h2 := Kd.C_string (P := Tryd.prog) (A := B) (c := d) Tryd.underlying22 Tryd.underlying5 Tryd.underlying9 (Kd.C_of_reads (d := (0 : Int)) (h1 := fun _ => rfl) hm)
  go_enter Tryd.func23, Tryd.ntmps23
  go_wp2
  go_ret
  exact ⟨by first | rfl | simp, by first | rfl | skip⟩
/-- bytes of one's own, as they read -/
theorem own_bytes {W : World} {base : Nat} {v : Value} {l : List Int} (h : W.ownsRow base 5 1 v l.length (u8s l)) : ∃ A c, v = .slice A l.length c ∧ l.length ≤ c ∧ ReadsInt W .u8 A l.length l := by
  rcases h.2 with ⟨rfl, h2⟩ | ⟨g, cap, cur, rfl, hg, hh, r1, r2, r3, r4⟩
  · have : l = [] := by simpa [u8s] using h2
    subst this
    exact ⟨none, 0, rfl, Nat.le_refl _, rfl, by simp, fun h => absurd h (by simp)⟩
  · refine ⟨_, cap, rfl, r1, rfl, by unfold maxLen at r2; omega, fun h0 => ⟨_, rfl, fun i hi => ?_⟩⟩
    have ea : (⟨g, 0, none⟩ : Addr).add i = ⟨g, i, none⟩ := by
      unfold Addr.add
      by_cases e : i = 0
      · subst e; simp
      · simp [e]
    rw [ea, cell_of_heap hh]
    have h5 : (cur.toList.take (l.length * 1))[i]? = (u8s l)[i]? := by rw [r4]
    rw [List.getElem?_take, if_pos (by omega)] at h5
    rw [← Array.getElem?_toList, h5, u8s, List.getElem?_map, List.getElem?_eq_getElem hi]
    simp [List.getD, hi]
set_option maxRecDepth 100000 in
set_option maxHeartbeats 4000000 in
theorem is_ok (w : World) (k : Int) (V : Nat → Int) (tx : ByteArray) (B : Option Addr) (b : List Int) (d : Nat) (hR : ReadsInt w .u8 B b.length b) (hd : b.length ≤ d) (hb : ∀ x ∈ b, 0 ≤ x ∧ x ≤ 255) (htx : tx.size ≤ 65536)
    (h1 : 1 ≤ k) (h5 : k ≤ 5) (hok : checkF k (V 1) (V 2) (V 3) (V 4) (V 5) (V 6) tx [] = 0) (hpb : pushB k (V 1) (V 2) (V 3) (V 4) (V 5) (V 6) tx [] = b) (hpe : (parseP b).e = 0)
    (hsm : sameF k V tx [] (parseP b).k (parseP b).V (parseP b).tx (parseP b).l = true) (hpl : (parseP b).l.length ≤ 100000) :
    Calls Tryd.prog 44 #[.agg #[.int .i64 k, .int .i64 (V 1), .int .i64 (V 2), .int .i64 (V 3), .int .i64 (V 4), .int .i64 (V 5), .int .i64 (V 6), .string tx, .slice none 0 0], .slice B b.length d] w fun e w' => e = .returned (.bool true) ∧ Chg (fun _ => False) w w' := by
  have hal := (Chg.refl (fun _ => False) w).alloc (.cells #[.int .i64 k, .int .i64 (V 1), .int .i64 (V 2), .int .i64 (V 3), .int .i64 (V 4), .int .i64 (V 5), .int .i64 (V 6), .string tx, .slice none 0 0] 26)
  have hp : PktAt (w.alloc (.cells #[.int .i64 k, .int .i64 (V 1), .int .i64 (V 2), .int .i64 (V 3), .int .i64 (V 4), .int .i64 (V 5), .int .i64 (V 6), .string tx, .slice none 0 0] 26)) w.heap.size k V tx (.slice none 0 0) := heap_new _ _
  have hby := bytes_ok (w.alloc (.cells #[.int .i64 k, .int .i64 (V 1), .int .i64 (V 2), .int .i64 (V 3), .int .i64 (V 4), .int .i64 (V 5), .int .i64 (V 6), .string tx, .slice none 0 0] 26)) k (V 1) (V 2) (V 3) (V 4) (V 5) (V 6) tx none [] 0 (fun i hi => by simp at hi) (by simp) (by simp [sizes]) htx h1 h5 hok
  rw [hpb] at hby
  have HBY := Lib.hid hby
  have HP := Lib.hid hp
  have HAL := Lib.hid hal
  have HR := Lib.hid hR
  have HB := Lib.hid hb
  obtain ⟨p, hpp⟩ : ∃ p, parseP b = p := ⟨_, rfl⟩
  have hpar : ∀ W, ReadsInt W .u8 B b.length b → Calls Tryd.prog 12 #[.slice B b.length d] W (ParsePost W (parseP b)) := fun W h => parse_some W B b d h hd hb
  rw [hpp] at hpe hsm hpl hpar
  have HPAR := Lib.hid hpar
  obtain ⟨pk', pV, ptx, pl, pe⟩ := p
  simp only at hpe hsm hpl
  subst hpe
  have HSM := Lib.hid hsm
  clear hby hp hal hR hb hpp hpar hok hpb hsm h1 h5
  go_enter Tryd.func44, Tryd.ntmps44
  go_wp2_with fail
  refine HBY.out.mono ?_
  rintro e w2 ⟨v2, rfl, ho2, hC2⟩
  obtain ⟨A2, c2, rfl, hc2, hR2⟩ := own_bytes ho2
  have HP2 := Lib.hid (HP.out.keep hC2 (fun h => h))
  have HC2 := Lib.hid (HAL.out.trans hC2)
  have HR2 := Lib.hid hR2
  have HPA2 := Lib.hid (HPAR.out w2 (reads_keep HR.out HC2.out))
  clear ho2 hC2 hR2 HBY HP HAL HPAR
  go_wp2_with fail
  refine HPA2.out.mono ?_
  rintro e w3 ⟨v3, rfl, ho3, hC3⟩
  obtain ⟨A3, c3, rfl, hL3⟩ := own_lines ho3
  have hp3 := HP2.out.keep hC3 (fun h => h)
  have HC3 := Lib.hid (HC2.out.trans hC3)
  have HL3 := Lib.hid hL3
  have HR3 := Lib.hid (reads_keep HR2.out hC3)
  have HRb := Lib.hid (reads_keep HR.out HC3.out)
  have g0 : w3.cell? ⟨w.heap.size, 0, none⟩ = some (.int .i64 k) := cell_of_heap hp3 0
  have g1 : w3.cell? ⟨w.heap.size, 1, none⟩ = some (.int .i64 (V 1)) := cell_of_heap hp3 1
  have g2 : w3.cell? ⟨w.heap.size, 2, none⟩ = some (.int .i64 (V 2)) := cell_of_heap hp3 2
  have g3 : w3.cell? ⟨w.heap.size, 3, none⟩ = some (.int .i64 (V 3)) := cell_of_heap hp3 3
  have g4 : w3.cell? ⟨w.heap.size, 4, none⟩ = some (.int .i64 (V 4)) := cell_of_heap hp3 4
  have g5 : w3.cell? ⟨w.heap.size, 5, none⟩ = some (.int .i64 (V 5)) := cell_of_heap hp3 5
  have g6 : w3.cell? ⟨w.heap.size, 6, none⟩ = some (.int .i64 (V 6)) := cell_of_heap hp3 6
  have g7 : w3.cell? ⟨w.heap.size, 7, none⟩ = some (.string tx) := cell_of_heap hp3 7
  have g8 : w3.cell? ⟨w.heap.size, 8, none⟩ = some (.slice none 0 0) := cell_of_heap hp3 8
  have hlt3 := hp3.lt
  have hal3 := (Chg.refl (fun _ => False) w3).alloc (.cells #[.int .i64 pk', .int .i64 (pV 1), .int .i64 (pV 2), .int .i64 (pV 3), .int .i64 (pV 4), .int .i64 (pV 5), .int .i64 (pV 6), .string ptx, .slice A3 pl.length c3] 26)
  have heq := eqBytes_some (w3.alloc (.cells #[.int .i64 pk', .int .i64 (pV 1), .int .i64 (pV 2), .int .i64 (pV 3), .int .i64 (pV 4), .int .i64 (pV 5), .int .i64 (pV 6), .string ptx, .slice A3 pl.length c3] 26)) A2 B b b c2 d (reads_keep HR3.out hal3) (reads_keep HRb.out hal3)
  rw [beq_self_eq_true] at heq
  have HEQ := Lib.hid heq
  have hsame := same_some (w3.alloc (.cells #[.int .i64 pk', .int .i64 (pV 1), .int .i64 (pV 2), .int .i64 (pV 3), .int .i64 (pV 4), .int .i64 (pV 5), .int .i64 (pV 6), .string ptx, .slice A3 pl.length c3] 26)) k V tx none [] 0 pk' pV ptx A3 pl c3 (fun i hi => by simp at hi) (HL3.out.chg hal3) (by simp) (by omega)
  rw [HSM.out] at hsame
  have HSAME := Lib.hid hsame
  have HC4 := Lib.hid (HC3.out.trans hal3)
  clear hC3 ho3 hL3 HPA2 HP2 HC2 HR2 hp3 hal3 heq hsame HSM
  go_wp2_with fail
  refine HEQ.out.mono ?_
  rintro e w4 ⟨rfl, rfl⟩
  go_wp2_with fail
  refine HSAME.out.mono ?_
  rintro e w5 ⟨rfl, hC5⟩
  have HC5 := Lib.hid (HC4.out.trans hC5)
  clear hC5
  go_wp2_with fail
  go_ret
  exact ⟨rfl, HC5.out⟩
end Go.Proofs.YteiedafdakffeaaDoor

/- push: fails; an append behind Diff's lines. -/
namespace Go.Proofs.YteiedafdakffeaaDoor
set_option linter.unusedVariables false
set_option linter.unusedSimpArgs false
open Go Go.RowKit Go.Proofs
open Go.Proofs.YteiedafdakffeaaDoorW.PrintWords (Kd ReadsInt ReadsOf own_move print_drop_of print_take_of gate_dst gate_store bytesOf bytesOf_length)
set_option maxRecDepth 100000 in
set_option maxHeartbeats 4000000 in
theorem fails_ok (w : World) (e : Int) (B : Option Addr) (b : List Int) (d : Nat) (hR : ReadsInt w .u8 B b.length b) (hd : b.length ≤ d) (hb : ∀ x ∈ b, 0 ≤ x ∧ x ≤ 255) (hpe : parseP b = noPkt e) :
    Calls Tryd.prog 26 #[.int .i64 e, .slice B b.length d] w fun en w' => en = .returned (.bool true) ∧ Chg (fun _ => False) w w' := by
  have hpa := parse_some w B b d hR hd hb
  rw [hpe] at hpa
  have HPA := Lib.hid hpa
  clear hpa hR hb hpe
  go_enter Tryd.func26, Tryd.ntmps26
  go_wp2_with fail
  refine HPA.out.mono ?_
  rintro en w3 ⟨v3, rfl, ho3, hC3⟩
  obtain ⟨A3, c3, rfl, hL3⟩ := own_lines ho3
  have hal3 := (Chg.refl (fun _ => False) w3).alloc (.cells #[.int .i64 0, .int .i64 0, .int .i64 0, .int .i64 0, .int .i64 0, .int .i64 0, .int .i64 0, .string ByteArray.empty, .slice A3 0 c3] 26)
  have hsame := same_some (w3.alloc (.cells #[.int .i64 0, .int .i64 0, .int .i64 0, .int .i64 0, .int .i64 0, .int .i64 0, .int .i64 0, .string ByteArray.empty, .slice A3 0 c3] 26)) 0 zeroV ByteArray.empty A3 [] c3 0 zeroV ByteArray.empty none [] 0 (fun i hi => by simp at hi) (fun i hi => by simp at hi) (by simp) (by simp)
  have hst : sameF 0 zeroV ByteArray.empty [] 0 zeroV ByteArray.empty [] = true := by kernel_rfl
  rw [hst] at hsame
  have HSAME := Lib.hid hsame
  have HC4 := Lib.hid (hC3.trans hal3)
  clear hC3 ho3 hL3 HPA hal3 hsame hst
  go_wp2_with fail
  refine HSAME.out.mono ?_
  rintro en w5 ⟨rfl, hC5⟩
  have HC5 := Lib.hid (HC4.out.trans hC5)
  clear hC5
  go_wp2_with fail
  go_ret
  exact ⟨rfl, HC5.out⟩
theorem run_room1 (w : World) (g off n cap q : Nat) (y x : Value) (hy : w.cell? ⟨q, 0, none⟩ = some y) (h1 : y.oneCell' = true) (hx : w.cell? ⟨g, off + n, none⟩ = some x) (hf : w.frozen? ⟨g, off + n, none⟩ = false) (hroom : n + 1 ≤ cap) :
    (Builtin.append_ #[24, 24] 24 #[.slice (some ⟨g, off, none⟩) n cap, .slice (some ⟨q, 0, none⟩) 1 1]).run Tryd.prog w = .ok (.slice (some ⟨g, off, none⟩) (n + 1) cap) (w.setCell ⟨g, off + n, none⟩ y) := by
  obtain ⟨i9, hi9, hz90, hz91, hz92⟩ := info_parts info9
  have hfc := run_firstCells_some (P := Tryd.prog) w 1 1 ⟨q, 0, none⟩ 1 1 [y] rfl (by
    intro j u hj
    match j, hj with
    | 0, hj => simp at hj; subst hj; simpa [Addr.add] using hy)
  have ea : (⟨g, off, none⟩ : Addr).add n = ⟨g, off + n, none⟩ := by
    unfold Addr.add
    by_cases e : n = 0
    · subst e; simp
    · simp [e]
  have hst : (storeCells ⟨g, off + n, none⟩ [y]).run Tryd.prog w = .ok () (w.setCell ⟨g, off + n, none⟩ y) := by
    have := run_storeCells_cells (P := Tryd.prog) g (off + n) [y] 0 w (fun j hj => by
      obtain rfl : j = 0 := by simpa using hj
      simp [hx]) (fun j hj => by
      obtain rfl : j = 0 := by simpa using hj
      simpa using hf) (fun v hv => by
      rw [List.mem_singleton.1 hv]
      exact h1)
    rw [this]
    simp [World.setCells]
  simp [Builtin.append_, run_underlying Tryd.underlying24, sizeOf, typeInfo, hi9, hz91, Builtin.lenOf, hroom, hfc, ea, hst]
set_option maxRecDepth 100000 in
theorem append_new (w : World) (base c q : Nat) (A : Option Addr) (l : List ByteArray) (y : ByteArray) (hN : NewAt base w A c) (hL : Lns w A l) (h0 : 0 < l.length) (hlc : l.length ≤ c) (hy : w.cell? ⟨q, 0, none⟩ = some (.string y)) (hb : base ≤ w.heap.size) (hbig : l.length ≤ 1000000) :
    ∃ A' c' w', (Builtin.append_ #[24, 24] 24 #[.slice A l.length c, .slice (some ⟨q, 0, none⟩) 1 1]).run Tryd.prog w = .ok (.slice A' (l.length + 1) c') w' ∧ l.length + 1 ≤ c' ∧ Lns w' A' (l ++ [y]) ∧ NewAt base w' A' c' ∧
      Chg (fun k => base ≤ k) w w' ∧ (∀ (k : Nat) (cs : Array Value) (t : TypeId) (f : Nat × Nat), t ≠ 9 → w.heap[k]? = some (Obj.cells cs t f) → w'.heap[k]? = some (Obj.cells cs t f)) := by
  obtain ⟨i9, hi9, hz90, hz91, hz92⟩ := info_parts info9
  obtain ⟨g, off, rfl, hc⟩ := lns_cells hL h0
  rcases hN with ⟨e, _⟩ | ⟨g', off', cur, e, hg, hh, ho⟩
  · cases e
  cases e
  by_cases hroom : l.length + 1 ≤ c
  · have hin : off + l.length < cur.size := by omega
    have hx : w.cell? ⟨g, off + l.length, none⟩ = some cur[off + l.length] := by rw [cell_of_heap hh]; exact Array.getElem?_eq_getElem hin
    have hr := run_room1 w g off l.length c q (.string y) _ hy rfl hx (free_of_heap hh _) hroom
    refine ⟨_, c, _, hr, hroom, fun i hi => ⟨g, off, rfl, ?_⟩, .inr ⟨g, off, _, rfl, hg, heap_setCell_cells hh _ _, by rw [Array.size_setIfInBounds]; exact ho⟩, (Chg.refl (fun k => base ≤ k) w).setCell (p := ⟨g, off + l.length, none⟩) (.inl hg) _, fun k cs t f ht hk => heap_setCell hk (fun e => by
      rw [e] at hk
      rw [hh] at hk
      cases hk
      exact ht rfl) _⟩
    rw [cell_of_heap (heap_setCell_cells hh _ _), Array.getElem?_setIfInBounds]
    rw [List.length_append, List.length_singleton] at hi
    by_cases e : i = l.length
    · subst e
      rw [if_pos rfl, if_pos hin]
      simp [List.getD]
    · rw [if_neg (by omega)]
      have := hc i (by omega)
      rw [cell_of_heap hh] at this
      rw [this]
      congr 2
      simp [List.getD, List.getElem?_append_left (show i < l.length by omega)]
  · obtain ⟨v', w', hr, ho', hg'⟩ := run_append_arg_grows (P := Tryd.prog) (w := w) 24 24 9 i9 (.string ByteArray.empty) 1 16 Tryd.underlying24 hi9 hz90 hz91 hz92 rfl (by decide) ⟨g, off, none⟩ l.length c (l.map Value.string) (by simp) (fun j u hj => by
        rw [List.getElem?_map] at hj
        obtain ⟨x, hx, rfl⟩ := Option.map_eq_some_iff.1 hj
        have hjl : j < l.length := (List.getElem?_eq_some_iff.1 hx).1
        have := hc j hjl
        rw [show l.getD j ByteArray.empty = x by simp [List.getD, hx]] at this
        rw [← this]
        congr 1
        unfold Addr.add
        by_cases e : j = 0
        · subst e; simp
        · simp [e]) ⟨q, 0, none⟩ 1 1 [.string y] (by simp) (by
        intro j u hj
        match j, hj with
        | 0, hj => simp at hj; subst hj; simpa [Addr.add] using hy) (by omega) (by unfold maxLen; omega) (by omega)
    have ho2 : w'.ownsRow w.heap.size 9 1 v' (l ++ [y]).length ((l ++ [y]).map Value.string) := by
      rw [List.length_append, List.map_append]
      exact ho'
    have hcap : ∃ A' c', v' = .slice A' (l.length + 1) c' ∧ l.length + 1 ≤ c' := by
      rcases ho2.2 with ⟨_, h2⟩ | ⟨g', cap', cur, hv, hg', hh, r1, r2, r3, r4⟩
      · simp at h2
      · exact ⟨_, _, by rw [hv, List.length_append]; rfl, by rw [List.length_append] at r1; exact r1⟩
    obtain ⟨A', c', rfl, hc'⟩ := hcap
    obtain ⟨A2, c2, e2, hL2⟩ := own_lines ho2
    simp at e2
    obtain ⟨rfl, rfl⟩ := e2
    have hN2 : NewAt base w' A' c' := by
      rcases ho2.2 with ⟨h1, h2⟩ | ⟨g', cap', cur', hv, hg', hh', r1, r2, r3, r4⟩
      · simp at h2
      · simp at hv
        obtain ⟨rfl, rfl⟩ := hv
        exact .inr ⟨g', 0, cur', rfl, by omega, hh', by omega⟩
    exact ⟨A', c', w', hr, hc', hL2, hN2, ((Chg.refl (fun k => base ≤ k) w).grown hg' (fun k e => by cases e)), fun k cs t f _ hk => (hg'.block k (lt_of_heap hk) (by simp)).trans hk⟩
theorem newAt_set {base P : Nat} {w : World} {A : Option Addr} {c : Nat} {cs : Array Value} {t : TypeId} {f : Nat × Nat} (h : NewAt base w A c) (hP : w.heap[P]? = some (.cells cs t f)) (ht : t ≠ 9) (i : Nat) (v : Value) : NewAt base (w.setCell ⟨P, i, none⟩ v) A c := by
  rcases h with h | ⟨g', off, cur, e', hg, hh, ho⟩
  · exact .inl h
  · exact .inr ⟨g', off, cur, e', hg, heap_setCell hh (fun e => by
      rw [e] at hh
      rw [hP] at hh
      cases hh
      exact ht rfl) v, ho⟩
theorem lns_set {base P : Nat} {w : World} {A : Option Addr} {c : Nat} {l : List ByteArray} {cs : Array Value} {t : TypeId} {f : Nat × Nat} (h : NewAt base w A c) (hl : Lns w A l) (hP : w.heap[P]? = some (.cells cs t f)) (ht : t ≠ 9) (i : Nat) (v : Value) : Lns (w.setCell ⟨P, i, none⟩ v) A l := fun j hj => by
  obtain ⟨g, p, e, hc⟩ := hl j hj
  rcases h with ⟨rfl, _⟩ | ⟨g', off, cur, e', hg, hh, ho⟩
  · cases e
  · rw [e'] at e
    cases e
    have hne : g ≠ P := fun e => by
      rw [e, hP] at hh
      cases hh
      exact ht rfl
    exact ⟨g, p, e', (World.cell?_of_block (w := w) (Below.heap_setCell w ⟨P, i, none⟩ v g hne)).trans hc⟩
end Go.Proofs.YteiedafdakffeaaDoor

/- push: what the closed examples come to. -/
namespace Go.Proofs.YteiedafdakffeaaDoor
set_option linter.unusedVariables false
set_option linter.unusedSimpArgs false
open Go Go.RowKit Go.Proofs
def vA : Nat → Int
  | 1 => 3
  | 4 => 258
  | _ => 0
def vB : Nat → Int
  | 1 => 2
  | 3 => 1
  | _ => 0
def wantA : List Int := [3, 0, 0, 0, 0, 0, 0, 3, 0, 0, 0, 0, 0, 1, 2]
def wantB : List Int := [4, 0, 0, 0, 0, 0, 0, 2, 0, 0, 0, 0, 0, 0, 1]
def tx1 : ByteArray := ⟨#[97, 10, 98, 10, 99]⟩
def tx2 : ByteArray := ⟨#[97, 10, 120, 10, 99]⟩
def tx3 : ByteArray := ⟨#[97, 10, 97]⟩
def tx4 : ByteArray := ⟨#[97]⟩
def txX : ByteArray := ⟨#[120]⟩
def txY : ByteArray := ⟨#[121]⟩
theorem ckA : checkF 3 (vA 1) (vA 2) (vA 3) (vA 4) (vA 5) (vA 6) ByteArray.empty [] = 0 := by kernel_rfl
theorem byA : pushB 3 (vA 1) (vA 2) (vA 3) (vA 4) (vA 5) (vA 6) ByteArray.empty [] = wantA := by kernel_rfl
theorem peA : (parseP wantA).e = 0 := by kernel_rfl
theorem smA : sameF 3 vA ByteArray.empty [] (parseP wantA).k (parseP wantA).V (parseP wantA).tx (parseP wantA).l = true := by kernel_rfl
theorem plA : (parseP wantA).l.length ≤ 100000 := by rw [show (parseP wantA).l = [] by kernel_rfl]; simp
theorem ckB : checkF 4 (vB 1) (vB 2) (vB 3) (vB 4) (vB 5) (vB 6) ByteArray.empty [] = 0 := by kernel_rfl
theorem byB : pushB 4 (vB 1) (vB 2) (vB 3) (vB 4) (vB 5) (vB 6) ByteArray.empty [] = wantB := by kernel_rfl
theorem peB : (parseP wantB).e = 0 := by kernel_rfl
theorem smB : sameF 4 vB ByteArray.empty [] (parseP wantB).k (parseP wantB).V (parseP wantB).tx (parseP wantB).l = true := by kernel_rfl
theorem plB : (parseP wantB).l.length ≤ 100000 := by rw [show (parseP wantB).l = [] by kernel_rfl]; simp
theorem bytesA : ∀ x ∈ wantA, 0 ≤ x ∧ x ≤ 255 := by decide
theorem bytesB : ∀ x ∈ wantB, 0 ≤ x ∧ x ≤ 255 := by decide
theorem ckC : checkF 4 0 0 0 1 0 0 ByteArray.empty [] = 2 := by kernel_rfl
theorem pfD : parseP [6] = noPkt 4 := by kernel_rfl
theorem pfE : parseP [3, 0] = noPkt 3 := by kernel_rfl
theorem dfF : diffP tx1 tx2 = ⟨2, diffV 1 1, ByteArray.empty, [txX], 0⟩ := by kernel_rfl
theorem dfG : diffP tx3 tx4 = ⟨2, diffV 1 0, ByteArray.empty, [], 0⟩ := by kernel_rfl
theorem apS : applyS tx1 2 2 1 0 0 1 1 ByteArray.empty [txX, txY] = ⟨#[97, 10, 120, 10, 121, 10, 99, 10]⟩ := by kernel_rfl
theorem apE : applyE tx1 2 2 1 0 0 1 1 ByteArray.empty [txX, txY] = 0 := by kernel_rfl
theorem apE2 : applyE tx3 2 2 1 0 0 3 0 ByteArray.empty [] = 2 := by kernel_rfl
end Go.Proofs.YteiedafdakffeaaDoor

/- push: works. -/
namespace Go.Proofs.YteiedafdakffeaaDoor
set_option linter.unusedVariables false
set_option linter.unusedSimpArgs false
open Go Go.RowKit Go.Proofs
open Go.Proofs.YteiedafdakffeaaDoorW.PrintWords (Kd ReadsInt ReadsOf own_move print_drop_of print_take_of gate_dst gate_store bytesOf bytesOf_length)
theorem reads_new (W : World) (b : List Int) (hb : b.length ≤ 1000000) : ReadsInt (W.alloc (.cells (u8s b).toArray 5)) .u8 (some ⟨W.heap.size, 0, none⟩) b.length b := by
  have h : (W.alloc (.cells (u8s b).toArray 5)).ownsRow W.heap.size 5 1 (.slice (some ⟨W.heap.size, 0, none⟩) b.length b.length) b.length (u8s b) := by
    have := World.ownsRow_lit (base := W.heap.size) (e := 5) (size := 1) W (u8s b).toArray b.length (Nat.le_refl _) (by unfold maxLen; omega) (by simp [u8s])
    simpa using this
  obtain ⟨A, c, e, _, hr⟩ := own_bytes h
  cases e
  exact hr
set_option maxRecDepth 100000 in
set_option maxHeartbeats 8000000 in
theorem works_some (w : World) (hW : WOk w) : Calls Tryd.prog 15 #[] w fun e w' => e = .returned (.bool true) ∧ Chg (fun _ => False) w w' := by
  have HW := Lib.hid hW
  clear hW
  go_enter Tryd.func15, Tryd.ntmps15
  go_wp2_with fail
  refine (is_ok _ 3 vA ByteArray.empty (some ⟨w.heap.size, 0, none⟩) wantA 15 (reads_new w wantA (by decide)) (by decide) bytesA (by decide) (by omega) (by omega) ckA byA peA smA plA).mono ?_
  rintro e w2 ⟨rfl, hC2⟩
  have HC2 := Lib.hid (((Chg.refl (fun _ => False) w).alloc _).trans hC2)
  clear hC2
  go_wp2_with fail
  refine (is_ok _ 4 vB ByteArray.empty (some ⟨w2.heap.size, 0, none⟩) wantB 15 (reads_new w2 wantB (by decide)) (by decide) bytesB (by decide) (by omega) (by omega) ckB byB peB smB plB).mono ?_
  rintro e w3 ⟨rfl, hC3⟩
  have HC3 := Lib.hid (HC2.out.trans (((Chg.refl (fun _ => False) w2).alloc _).trans hC3))
  clear hC3 HC2
  go_wp2_with fail
  have hck := check_all w3 4 0 0 0 1 0 0 ByteArray.empty none [] 0 (fun i hi => by simp at hi) (by simp) (by simp [sizes])
  rw [ckC] at hck
  refine hck.mono ?_
  rintro e w4 ⟨rfl, hC4⟩
  have HC4 := Lib.hid (HC3.out.trans hC4)
  clear hC4 HC3 hck
  go_wp2_with fail
  refine (fails_ok _ 4 (some ⟨w4.heap.size, 0, none⟩) [6] 1 (reads_new w4 [6] (by decide)) (by decide) (by decide) pfD).mono ?_
  rintro e w5 ⟨rfl, hC5⟩
  have HC5 := Lib.hid (HC4.out.trans (((Chg.refl (fun _ => False) w4).alloc _).trans hC5))
  clear hC5 HC4
  go_wp2_with fail
  refine (fails_ok _ 3 (some ⟨w5.heap.size, 0, none⟩) [3, 0] 2 (reads_new w5 [3, 0] (by decide)) (by decide) (by decide) pfE).mono ?_
  rintro e w6 ⟨rfl, hC6⟩
  have HC6 := Lib.hid (HC5.out.trans (((Chg.refl (fun _ => False) w5).alloc _).trans hC6))
  clear hC6 HC5
  have hdf := diff_some w6 tx1 tx2 (HW.out.chg HC6.out)
  rw [dfF] at hdf
  have HDF := Lib.hid hdf
  clear hdf
  go_wp2_with fail
  refine HDF.out.mono ?_
  rintro e w7 ⟨A7, c7, rfl, hc7, hL7, hN7, hC7⟩
  unfold pk
  have hb7 := hC7.size
  have hb6 := HC6.out.size
  have hal7 := (Chg.refl (fun _ => False) w7).alloc (.cells #[.int .i64 2, .int .i64 (diffV 1 1 1), .int .i64 (diffV 1 1 2), .int .i64 (diffV 1 1 3), .int .i64 (diffV 1 1 4), .int .i64 (diffV 1 1 5), .int .i64 (diffV 1 1 6), .string ByteArray.empty, .slice A7 1 c7] 26)
  have hP7 : PktAt (w7.alloc (.cells #[.int .i64 2, .int .i64 (diffV 1 1 1), .int .i64 (diffV 1 1 2), .int .i64 (diffV 1 1 3), .int .i64 (diffV 1 1 4), .int .i64 (diffV 1 1 5), .int .i64 (diffV 1 1 6), .string ByteArray.empty, .slice A7 1 c7] 26)) w7.heap.size 2 (diffV 1 1) ByteArray.empty (.slice A7 1 c7) := heap_new _ _
  have hsz7 : (w7.alloc (.cells #[.int .i64 2, .int .i64 (diffV 1 1 1), .int .i64 (diffV 1 1 2), .int .i64 (diffV 1 1 3), .int .i64 (diffV 1 1 4), .int .i64 (diffV 1 1 5), .int .i64 (diffV 1 1 6), .string ByteArray.empty, .slice A7 1 c7] 26)).heap.size = w7.heap.size + 1 := by simp
  have hdf := diff_some (w7.alloc (.cells #[.int .i64 2, .int .i64 (diffV 1 1 1), .int .i64 (diffV 1 1 2), .int .i64 (diffV 1 1 3), .int .i64 (diffV 1 1 4), .int .i64 (diffV 1 1 5), .int .i64 (diffV 1 1 6), .string ByteArray.empty, .slice A7 1 c7] 26)) tx3 tx4 (HW.out.chg ((HC6.out.trans hC7).trans hal7))
  rw [dfG] at hdf
  have HDG := Lib.hid hdf
  have HP7 := Lib.hid hP7
  have HL7 := Lib.hid (hL7.chg hal7)
  have HN7 := Lib.hid (hN7.chg hal7)
  have HC7 := Lib.hid ((HC6.out.trans hC7).trans hal7)
  clear hdf hP7 hL7 hN7 hC7 hal7 HDF HC6
  go_wp2_with fail
  refine HDG.out.mono ?_
  rintro e w8 ⟨A8, c8, rfl, hc8, hL8, hN8, hC8⟩
  unfold pk
  have hb8 := hC8.size
  have hal8 := (Chg.refl (fun _ => False) w8).alloc (.cells #[.int .i64 2, .int .i64 (diffV 1 0 1), .int .i64 (diffV 1 0 2), .int .i64 (diffV 1 0 3), .int .i64 (diffV 1 0 4), .int .i64 (diffV 1 0 5), .int .i64 (diffV 1 0 6), .string ByteArray.empty, .slice A8 0 c8] 26)
  have HP8 := Lib.hid ((HP7.out.keep hC8 (fun h => h)).keep hal8 (fun h => h))
  have HL8 := Lib.hid ((HL7.out.chg hC8).chg hal8)
  have HN8 := Lib.hid ((HN7.out.chg hC8).chg hal8)
  have HC8 := Lib.hid ((HC7.out.trans hC8).trans hal8)
  have hQ8 : PktAt (w8.alloc (.cells #[.int .i64 2, .int .i64 (diffV 1 0 1), .int .i64 (diffV 1 0 2), .int .i64 (diffV 1 0 3), .int .i64 (diffV 1 0 4), .int .i64 (diffV 1 0 5), .int .i64 (diffV 1 0 6), .string ByteArray.empty, .slice A8 0 c8] 26)) w8.heap.size 2 (diffV 1 0) ByteArray.empty (.slice A8 0 c8) := heap_new _ _
  have HQ8 := Lib.hid hQ8
  have hsz8 : (w8.alloc (.cells #[.int .i64 2, .int .i64 (diffV 1 0 1), .int .i64 (diffV 1 0 2), .int .i64 (diffV 1 0 3), .int .i64 (diffV 1 0 4), .int .i64 (diffV 1 0 5), .int .i64 (diffV 1 0 6), .string ByteArray.empty, .slice A8 0 c8] 26)).heap.size = w8.heap.size + 1 := by simp
  clear hL8 hN8 hC8 hal8 HP7 HL7 HN7 HC7 HDG hQ8
  go_upto_region 7 with fail
  generalize w8.alloc (.cells #[.int .i64 2, .int .i64 (diffV 1 0 1), .int .i64 (diffV 1 0 2), .int .i64 (diffV 1 0 3), .int .i64 (diffV 1 0 4), .int .i64 (diffV 1 0 5), .int .i64 (diffV 1 0 6), .string ByteArray.empty, .slice A8 0 c8] 26) = w9 at *
  have hCy := (Chg.refl (fun _ => False) w9).alloc (.cells #[.string txY] 9)
  obtain ⟨A9, c9, w10, hrun, hc9, hL10, hN10, hC10, hk10⟩ := append_new (w9.alloc (.cells #[.string txY] 9)) w6.heap.size c7 w9.heap.size A7 [txX] txY (HN8.out.chg hCy) (HL8.out.chg hCy) (by simp) hc7 (cell_of_heap (heap_new w9 _) 0) (by simp; omega) (by simp)
  have hP10 : PktAt w10 w7.heap.size 2 (diffV 1 1) ByteArray.empty (.slice A7 1 c7) := hk10 _ _ _ _ (by decide) (HP8.out.keep hCy (fun h => h))
  have hQ10 : PktAt w10 w8.heap.size 2 (diffV 1 0) ByteArray.empty (.slice A8 0 c8) := hk10 _ _ _ _ (by decide) (HQ8.out.keep hCy (fun h => h))
  have HP10 := Lib.hid hP10
  have HQ10 := Lib.hid hQ10
  have HL10 := Lib.hid hL10
  have HN10 := Lib.hid hN10
  have HC10 := Lib.hid ((HC8.out.trans hCy).trans' hC10 (fun i h1 h2 => by have := HC8.out.size; omega))
  have g8 : w9.cell? ⟨w7.heap.size, 8, none⟩ = some (.slice A7 1 c7) := cell_of_heap HP8.out 8
  have r8 : w10.cell? ⟨w7.heap.size, 8, none⟩ = some (.slice A7 1 c7) := cell_of_heap HP10.out 8
  have f8 := HP10.out.free 8
  clear hC10 hk10 hL10 hN10 hP10 hQ10 hCy HP8 HL8 HN8 HC8 HQ8
  have hrun2 : (Builtin.append_ #[24, 24] 24 #[.slice A7 1 c7, .slice (some ⟨w9.heap.size, 0, none⟩) 1 1]).run Tryd.prog (w9.alloc (.cells #[.string ⟨#[121]⟩] 9)) = .ok (.slice A9 2 c9) w10 := hrun
  have hz9 : w8.heap.size < w9.heap.size := by omega
  have hz8 : w7.heap.size < w8.heap.size := by omega
  clear hrun hsz7 hsz8 hb8
  go_upto_region 8 with (at_builtin; refine Lib.wpList_append_run _ rfl _ _ _ _ rfl _ _ rfl rfl _ _ hrun2 ?_)
  have hst := (Chg.refl (fun k => k = w7.heap.size) w10).setCell (p := ⟨w7.heap.size, 8, none⟩) (.inl rfl) (.slice A9 2 c9)
  have HP11 := Lib.hid (HP10.out.setL (.slice A9 2 c9))
  have HQ11 := Lib.hid (HQ10.out.keep hst (by omega))
  have HL11 := Lib.hid (lns_set HN10.out HL10.out HP10.out (by decide) 8 (.slice A9 2 c9))
  have HN11 := Lib.hid (newAt_set HN10.out HP10.out (by decide) 8 (.slice A9 2 c9))
  have HC11 := Lib.hid (HC10.out.trans' hst (fun i h1 h2 => by omega))
  clear hst r8 f8 g8 hrun2 HP10 HQ10 HL10 HN10 HC10
  generalize w10.setCell ⟨w7.heap.size, 8, none⟩ (.slice A9 2 c9) = w11 at *
  have hap := apply_some w11 tx1 2 2 1 0 0 1 1 ByteArray.empty A9 [txX, txY] c9 (HW.out.chg HC11.out) HL11.out hc9 (by simp) (by decide)
  rw [apS, apE] at hap
  have HAP := Lib.hid hap
  clear hap
  go_wp2_with ((with_reducible refine gate_dst (N := 46) rfl ?_); refine wpList_load_row rfl 26 (.tmp 1) rfl w7.heap.size rfl 26 _ (0, 0) _ HP11.out Tryd.underlying26 rfl infoP ?_)
  refine HAP.out.mono ?_
  rintro e w12 ⟨rfl, hC12⟩
  have hp12 := HP11.out.keep hC12 (fun h => h)
  have hq12 := HQ11.out.keep hC12 (fun h => h)
  have d5 : w12.cell? ⟨w8.heap.size, 5, none⟩ = some (.int .i64 1) := cell_of_heap hq12 5
  have e5 := hq12.free 5
  have hst := (Chg.refl (fun k => k = w8.heap.size) w12).setCell (p := ⟨w8.heap.size, 5, none⟩) (.inl rfl) (.int .i64 3)
  have HP13 := Lib.hid (hp12.keep hst (by omega))
  have HQ13 := Lib.hid (hq12.setN 5 3 (by omega) (by omega))
  have hC12' := HC11.out.trans hC12
  have HC13 := Lib.hid (hC12'.trans' hst (fun i h1 h2 => by omega))
  have HL13 := Lib.hid (lns_set (HN11.out.chg hC12) (HL11.out.chg hC12) hq12 (by decide) 5 (.int .i64 3))
  clear hC12 hC12' hst hp12 hq12 HAP HP11 HQ11 HC11 HN11 HL11
  go_upto_region 10 with fail
  clear d5 e5
  generalize w12.setCell ⟨w8.heap.size, 5, none⟩ (.int .i64 3) = w13 at *
  have hap := apply_some w13 tx3 2 2 1 0 0 3 0 ByteArray.empty A8 [] c8 (HW.out.chg HC13.out) (fun i hi => by simp at hi) hc8 (by simp) (by simp [sizes])
  rw [apE2] at hap
  have HAP := Lib.hid hap
  clear hap
  generalize applyS tx3 2 2 1 0 0 3 0 ByteArray.empty [] = sx at *
  go_wp2_with ((with_reducible refine gate_dst (N := 52) rfl ?_); refine wpList_load_row rfl 26 (.tmp 3) rfl w8.heap.size rfl 26 _ (0, 0) _ HQ13.out Tryd.underlying26 rfl infoP ?_)
  refine HAP.out.mono ?_
  rintro e w14 ⟨rfl, hC14⟩
  have hp14 := HP13.out.keep hC14 (fun h => h)
  have hq14 := HQ13.out.keep hC14 (fun h => h)
  have p5 : w14.cell? ⟨w7.heap.size, 5, none⟩ = some (.int .i64 1) := cell_of_heap hp14 5
  have p6 : w14.cell? ⟨w7.heap.size, 6, none⟩ = some (.int .i64 1) := cell_of_heap hp14 6
  have p8 : w14.cell? ⟨w7.heap.size, 8, none⟩ = some (.slice A9 2 c9) := cell_of_heap hp14 8
  have q6 : w14.cell? ⟨w8.heap.size, 6, none⟩ = some (.int .i64 0) := cell_of_heap hq14 6
  have q8 : w14.cell? ⟨w8.heap.size, 8, none⟩ = some (.slice A8 0 c8) := cell_of_heap hq14 8
  obtain ⟨g, po, rfl, cx⟩ := (HL13.out.chg hC14) 0 (by simp)
  have HC14 := Lib.hid (HC13.out.trans hC14)
  have cx2 : w14.cell? ⟨g, po, none⟩ = some (.string ⟨#[120]⟩) := cx
  clear hC14 hp14 hq14 cx HAP HP13 HQ13 HC13 HL13
  have t1 : ((⟨#[120]⟩ : ByteArray).toList == (⟨#[120]⟩ : ByteArray).toList) = true := beq_self_eq_true _
  have t2 : ((⟨#[97, 10, 120, 10, 121, 10, 99, 10]⟩ : ByteArray).toList == (⟨#[97, 10, 120, 10, 121, 10, 99, 10]⟩ : ByteArray).toList) = true := beq_self_eq_true _
  go_wp2_with fail
  go_ret
  exact ⟨rfl, HC14.out⟩
end Go.Proofs.YteiedafdakffeaaDoor
