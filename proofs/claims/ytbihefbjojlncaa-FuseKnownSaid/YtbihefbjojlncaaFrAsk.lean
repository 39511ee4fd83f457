/- The document's box: New, Ask, Did. -/
import Derived.Test.YtbihefbjojlncaaFrSet
namespace Go.Proofs.Ytbihefbjojlncaa
set_option linter.unusedVariables false
set_option linter.unusedSimpArgs false
open Go Go.RowKit
theorem refset_len (f : FE) : ∀ L : List FE, (refset L f).length ≤ L.length + 1
  | [] => by unfold refset nzl; split <;> simp
  | e :: r => by
    have ih := refset_len f r
    have : (nzl f).length ≤ 1 := by unfold nzl; split <;> simp
    unfold refset
    split
    · simp; omega
    · split <;> simp <;> omega
theorem RefAt.i64 {w : World} {b base : Nat} {S : FS} {L : List FE} (h : RefAt w b base S L) : ∀ e ∈ L, I64 e.1 ∧ I64 e.2.1 := fun e he => by
  have := (h.keys.ent e he).2.2
  exact ⟨i64_small (by omega) (by omega), i64_small (by omega) (by omega)⟩
theorem setR (w : World) (b base : Nat) (S : FS) (L : List FE) (d l x p q r : Int) (h : RefAt w b base S L) (hbase : base ≤ w.heap.size) (hL : L.length < 100000) (hd : 0 ≤ d ∧ d ≤ 1000) (hl : 0 ≤ l ∧ l ≤ 9)
    (h0 : 0 ≤ x) (h1 : x ≤ 18014398513481987) (h2 : x % 4 = 0 → x < 4000) (hf : entS (S.set d l x) d l = (d, l, p, q, r)) :
    Calls Try.prog 29 #[.pointer (some ⟨b, 0, none⟩), .agg #[.int .i64 d, .int .i64 l, .int .i64 p, .int .i64 q, .int .i64 r]] w fun e w' =>
      e = .returned (.tuple #[]) ∧ (∃ L', RefAt w' b base (S.set d l x) L' ∧ L'.length ≤ L.length + 1) ∧ Chg (fun i => i = b) w w' := by
  have hk := h.keys.set (x := x) hd hl h0
  have hlen := refset_len (entS (S.set d l x) d l) L
  have := refset_some w b base S.most S.rest S.now L (d, l, p, q, r) h.row hbase h.lt (by omega) h.i64 (show I64 d from i64_small hd.1 (by omega)) (show I64 l from i64_small hl.1 (by omega))
  rw [← hf] at this
  have he : entV (entS (S.set d l x) d l) = .agg #[.int .i64 d, .int .i64 l, .int .i64 p, .int .i64 q, .int .i64 r] := by rw [hf]; rfl
  rw [he] at this
  exact this.mono fun e w' ⟨a, b', c⟩ => ⟨a, ⟨_, ⟨b', hk, h.ok.set d l h0 h1 h2, by omega⟩, hlen⟩, c⟩
theorem ent_cases {S : FS} {d l : Int} : ∃ st un : Int, S.N d l % 4 = st ∧ S.N d l / 4 = un ∧ entS S d l = (if st = 0 then (d, l, 0, un, 0) else (d, l, st, 0, un)) := by
  refine ⟨_, _, rfl, rfl, ?_⟩
  unfold entS FS.state
  split <;> rfl
/-- the tick is told -/
theorem RefAt.tick {w : World} {b base : Nat} {S : FS} {L : List FE} (h : RefAt w b base S L) (hb : b < base) {t nw : Int} (ht : t ≤ 4503599627370496) (hn : max S.now t = nw) : RefAt (w.setCell ⟨b, 2, none⟩ (.int .i64 nw)) b base (S.tick t) L := by
  obtain ⟨v, hh, hr⟩ := h.row
  refine ⟨⟨v, ?_, own_keep hr fun k c ty f hk hh' => heap_setCell hh' (by simp; omega) _⟩, h.keys.tick t, h.ok.tick ht, h.few⟩
  rw [heap_setCell_cells hh]
  simp [FS.tick, hn]
theorem refnew_no (w : World) (most rest : Int) (h : ¬ (1 ≤ most ∧ most ≤ 1000 ∧ 1 ≤ rest ∧ rest ≤ 1000000)) :
    Calls Try.prog 10 #[.int .i64 most, .int .i64 rest] w fun e w' => e = .returned (.tuple #[.pointer none, .int .i64 2]) ∧ w' = w := by
  by_cases h1 : most < 1
  · go_enter Try.func10, Try.ntmps10
    go_wp2
    go_ret2
    exact ⟨rfl, rfl⟩
  by_cases h2 : 1000 < most
  · go_enter Try.func10, Try.ntmps10
    go_wp2
    go_ret2
    exact ⟨rfl, rfl⟩
  by_cases h3 : rest < 1
  · go_enter Try.func10, Try.ntmps10
    go_wp2
    go_ret2
    exact ⟨rfl, rfl⟩
  have h4 : 1000000 < rest := by omega
  go_enter Try.func10, Try.ntmps10
  go_wp2
  go_ret2
  exact ⟨rfl, rfl⟩
theorem refnew_some (w : World) (most rest : Int) (h : 1 ≤ most ∧ most ≤ 1000) (h' : 1 ≤ rest ∧ rest ≤ 1000000) :
    Calls Try.prog 10 #[.int .i64 most, .int .i64 rest] w fun e w' => e = .returned (.tuple #[.pointer (some ⟨w.heap.size, 0, none⟩), .int .i64 0]) ∧ RefAt w' w.heap.size (w.heap.size + 1) (FS.new most rest) [] ∧ Chg (fun _ => False) w w' ∧ w'.heap.size = w.heap.size + 1 := by
  have h1 : ¬ most < 1 := by omega
  have h2 : ¬ 1000 < most := by omega
  have h3 : ¬ rest < 1 := by omega
  have h4 : ¬ 1000000 < rest := by omega
  have hb : ∀ W : World, Sem.run Try.prog (Instr.build 37 #[(0, Value.int .i64 most), (1, Value.int .i64 rest)]) W = .ok (.agg #[.int .i64 most, .int .i64 rest, .int .i64 0, .slice none 0 0]) W := fun W => run_build W _ _ _ (by kernel_rfl)
  go_enter Try.func10, Try.ntmps10
  go_wp2
  go_ret2
  exact ⟨rfl, ⟨⟨_, heap_new _ _, World.ownsRow_nil _ _ _ _⟩, Keys.new most rest, FS.new_ok h h', by simp⟩, (Chg.refl _ _).alloc _, by simp⟩
set_option maxRecDepth 100000 in
set_option maxHeartbeats 8000000 in
theorem refask_no {w : World} {b base : Nat} {S : FS} {L : List FE} {d l t : Int} (hm : mayAt d l t = false) :
    Calls Try.prog 15 #[.pointer (some ⟨b, 0, none⟩), .agg #[.int .i64 d, .int .i64 l], .int .i64 t] w fun e w' => e = .returned (.int .i64 9) ∧ Chg (fun _ => False) w w' := by
  have hal := (Chg.refl (fun _ => False) w).alloc (.cells #[.int .i64 d, .int .i64 l] 32)
  have hk0 := heap_new w (.cells #[.int .i64 d, .int .i64 l] 32)
  have c0 := cell_of_heap hk0 0
  have c1 := cell_of_heap hk0 1
  simp only [List.getElem?_toArray, List.getElem?_cons_zero, List.getElem?_cons_succ] at c0 c1
  have hmy := fun W => may_some W d l t
  rw [hm] at hmy
  go_enter Try.func15, Try.ntmps15
  go_wp2_with (first | (go_at_call 27; refine (hmy _).mono ?_; rintro e w1 ⟨rfl, hC1⟩))
  go_ret
  exact ⟨rfl, hal.trans hC1⟩
set_option maxRecDepth 100000 in
set_option maxHeartbeats 8000000 in
theorem refdid_no {w : World} {b base : Nat} {S : FS} {L : List FE} {d l t : Int} {well : Bool} (hm : mayAt d l t = false) :
    Calls Try.prog 13 #[.pointer (some ⟨b, 0, none⟩), .agg #[.int .i64 d, .int .i64 l], .bool well, .int .i64 t] w fun e w' => e = .returned (.int .i64 9) ∧ Chg (fun _ => False) w w' := by
  have hal := (Chg.refl (fun _ => False) w).alloc (.cells #[.int .i64 d, .int .i64 l] 32)
  have hk0 := heap_new w (.cells #[.int .i64 d, .int .i64 l] 32)
  have c0 := cell_of_heap hk0 0
  have c1 := cell_of_heap hk0 1
  simp only [List.getElem?_toArray, List.getElem?_cons_zero, List.getElem?_cons_succ] at c0 c1
  have hmy := fun W => may_some W d l t
  rw [hm] at hmy
  go_enter Try.func13, Try.ntmps13
  go_wp2_with (first | (go_at_call 27; refine (hmy _).mono ?_; rintro e w1 ⟨rfl, hC1⟩))
  go_ret
  exact ⟨rfl, hal.trans hC1⟩
set_option maxRecDepth 100000 in
set_option maxHeartbeats 8000000 in
theorem refask_may {w : World} {b base : Nat} {S : FS} {L : List FE} {d l t : Int} (h : RefAt w b base S L) (hbb : b < base) (hbase : base ≤ w.heap.size) (hL : L.length < 100000) (hm : mayAt d l t = true) :
    Calls Try.prog 15 #[.pointer (some ⟨b, 0, none⟩), .agg #[.int .i64 d, .int .i64 l], .int .i64 t] w fun e w' => ∃ L', e = .returned (.int .i64 ((S.tick t).ask1 d l).2) ∧ RefAt w' b base ((S.tick t).ask1 d l).1 L' ∧ L'.length ≤ L.length + 1 ∧ Chg (fun i => i = b) w w' := by
  have hal := (Chg.refl (fun _ => False) w).alloc (.cells #[.int .i64 d, .int .i64 l] 32)
  have hR := h.same hal
  have hk0 := heap_new w (.cells #[.int .i64 d, .int .i64 l] 32)
  have hbw := h.lt
  have c0 := cell_of_heap hk0 0
  have c1 := cell_of_heap hk0 1
  simp only [List.getElem?_toArray, List.getElem?_cons_zero, List.getElem?_cons_succ] at c0 c1
  obtain ⟨t0, t1, d0, d1, l0, l1⟩ := mayAt_iff.1 hm
  have hd : I64 d := i64_small d0 (by omega)
  have hl : I64 l := i64_small l0 (by omega)
  have hmy := fun W => may_some W d l t
  rw [hm] at hmy
  obtain ⟨nw, hnw⟩ : ∃ z, max S.now t = z := ⟨_, rfl⟩
  have hok1 := h.ok.tick t1
  obtain ⟨st, un, hst, hun, hent⟩ := ent_cases (S := S.tick t) (d := d) (l := l)
  have hnum := hok1.num d l
  have hst0 : 0 ≤ st ∧ st < 4 := by omega
  have hun0 : 0 ≤ un ∧ un ≤ 4503599628370496 := by omega
  have hun2 : st = 0 → un < 1000 := by omega
  have hnw0 : 0 ≤ nw ∧ nw ≤ 4503599627370496 := by have := h.ok.now; omega
  have hrest := h.ok.rest
  have hmost := h.ok.most
  have hnowT : (S.tick t).now = nw := hnw
  have hrestT : (S.tick t).rest = S.rest := rfl
  have hmostT : (S.tick t).most = S.most := rfl
  have HST := Lib.hid hst
  have HUN := Lib.hid hun
  have HENT := Lib.hid hent
  have HNUM := Lib.hid hnum
  have HNOW := Lib.hid hnowT
  have HU2 := Lib.hid hun2
  clear hst hun hent hnum hnowT hun2
  have hw1 : IntKind.i64.wrap (nw + S.rest) = nw + S.rest := IntWalk.i64_in _ ⟨by omega, by omega⟩
  go_enter Try.func15, Try.ntmps15
  go_upto_region 3 with (first | (go_at_call 27; refine (hmy _).mono ?_; rintro e w1 ⟨rfl, hC1⟩))
  have hR1 := hR.same hC1
  have hC01 := hal.trans hC1
  have x0 := hC1.cell c0 (fun x => x)
  have x1 := hC1.cell c1 (fun x => x)
  obtain ⟨v, hbh, _⟩ := hR1.row
  have hbc := cell_of_heap hbh 2
  have hbf := free_of_heap hbh 2
  simp only [List.getElem?_toArray, List.getElem?_cons_zero, List.getElem?_cons_succ] at hbc
  clear hk0 c0 c1 hal hR hC1
  go_cut [] from 12 to 20 (fun W => W = w1.setCell ⟨b, 2, none⟩ (.int .i64 nw))
  case first =>
    by_cases hlt : S.now < t
    · obtain rfl : nw = t := by omega
      go_wp2_with fail
      go_meet
      rfl
    · obtain rfl : nw = S.now := by omega
      go_wp2_with fail
      go_meet
      rfl
  case rest =>
  obtain rfl := hcut
  have hR2 := hR1.tick hbb t1 hnw
  have y0 := cell_setCell (o := 2) x0 (show b ≠ w.heap.size by omega) (.int .i64 nw)
  have y1 := cell_setCell (o := 2) x1 (show b ≠ w.heap.size by omega) (.int .i64 nw)
  have hC2 := Chg.setCell (S := fun i => i = b) (hC01.mono (fun _ _ x => x.elim)) (p := ⟨b, 2, none⟩) (.inl rfl) (.int .i64 nw)
  have hlk : w1.heap.size ≤ (w1.setCell ⟨b, 2, none⟩ (.int .i64 nw)).heap.size := by simp [World.setCell]
  clear hR1 hC01 x0 x1 hbh hbc hbf
  generalize w1.setCell ⟨b, 2, none⟩ (.int .i64 nw) = w2 at *
  have hat := refat_some w2 b base (S.tick t) L d l hR2 hd hl
  have hC2b : w.heap.size ≤ w2.heap.size := hC2.size
  have HE : (S.tick t).ask1 d l = if st = 0 then (S.tick t, 0) else if nw < un then (S.tick t, 170) else ((S.tick t).set d l ((nw + S.rest) * 4 + 2), 0) := by unfold FS.ask1; rw [HST.out, HUN.out, HNOW.out]; rfl
  by_cases c1 : st = 0
  · have HF := Lib.hid (HE.trans (if_pos c1))
    clear HE
    have hEV : entV (entS (S.tick t) d l) = .agg #[.int .i64 d, .int .i64 l, .int .i64 0, .int .i64 un, .int .i64 0] := by rw [HENT.out, if_pos c1]; rfl
    rw [hEV] at hat
    clear hEV
    go_wp2_with (first | (go_at_call 28; refine hat.mono ?_; rintro e w3 ⟨rfl, hC3⟩; have hR3 := hR2.same hC3; have z0 := hC3.cell y0 (fun x => x); have z1 := hC3.cell y1 (fun x => x); have hC3' := hC2.trans (hC3.mono (fun _ _ x => x.elim)); have hsz3 := hC3.size; clear hR2 y0 y1 hC2 hC3))
    go_ret
    rw [HF.out]
    exact ⟨L, rfl, hR3.same ((Chg.refl _ _).alloc _), by omega, hC3'.alloc _⟩
  · replace HE := HE.trans (if_neg c1)
    have hEV : entV (entS (S.tick t) d l) = .agg #[.int .i64 d, .int .i64 l, .int .i64 st, .int .i64 0, .int .i64 un] := by rw [HENT.out, if_neg c1]; rfl
    rw [hEV] at hat
    clear hEV
    go_upto_region 7 with (first | (go_at_call 28; refine hat.mono ?_; rintro e w3 ⟨rfl, hC3⟩; have hR3 := hR2.same hC3; have z0 := hC3.cell y0 (fun x => x); have z1 := hC3.cell y1 (fun x => x); have hC3' := hC2.trans (hC3.mono (fun _ _ x => x.elim)); have hsz3 := hC3.size; clear hR2 y0 y1 hC2 hC3))
    have hR4 := hR3.same ((Chg.refl _ _).alloc (.cells #[.int .i64 d, .int .i64 l, .int .i64 st, .int .i64 0, .int .i64 un] 77))
    have hC4 := hC3'.alloc (.cells #[.int .i64 d, .int .i64 l, .int .i64 st, .int .i64 0, .int .i64 un] 77)
    have hf4 := heap_new w3 (.cells #[.int .i64 d, .int .i64 l, .int .i64 st, .int .i64 0, .int .i64 un] 77)
    have a0 := cell_alloc z0 (.cells #[.int .i64 d, .int .i64 l, .int .i64 st, .int .i64 0, .int .i64 un] 77)
    have a1 := cell_alloc z1 (.cells #[.int .i64 d, .int .i64 l, .int .i64 st, .int .i64 0, .int .i64 un] 77)
    have a5 := cell_of_heap hf4 4
    obtain ⟨v4, hb4, _⟩ := hR4.row
    have a6 := cell_of_heap hb4 2
    have a7 := cell_of_heap hb4 1
    simp only [List.getElem?_toArray, List.getElem?_cons_zero, List.getElem?_cons_succ] at a5 a6 a7
    rw [HNOW.out] at a6
    rw [show (S.tick t).rest = S.rest from rfl] at a7
    clear hR3 hC3' z0 z1 hf4 hb4
    generalize w3.alloc (.cells #[.int .i64 d, .int .i64 l, .int .i64 st, .int .i64 0, .int .i64 un] 77) = w4 at *
    go_quiet (fail)
    have hR5 := hR4.same ((Chg.refl _ _).drewN nq)
    have hC5 := hC4.drewN nq
    have b0 : (w4.drewN nq).cell? ⟨w.heap.size, 0, none⟩ = some (.int .i64 d) := a0
    have b1 : (w4.drewN nq).cell? ⟨w.heap.size, 1, none⟩ = some (.int .i64 l) := a1
    have b2 : (w4.drewN nq).cell? ⟨b, 2, none⟩ = some (.int .i64 nw) := a6
    have b3 : (w4.drewN nq).cell? ⟨b, 1, none⟩ = some (.int .i64 S.rest) := a7
    clear hR4 hC4 a0 a1 a5 a6 a7
    generalize w4.drewN nq = w5 at *
    by_cases c2 : nw < un
    · have HF := Lib.hid (HE.trans (if_pos c2))
      clear HE
      go_wp2_with fail
      go_ret
      rw [HF.out]
      exact ⟨L, rfl, hR5, by omega, hC5⟩
    · have HF := Lib.hid (HE.trans (if_neg c2))
      clear HE
      have hbd : ∀ W : World, Sem.run Try.prog (Instr.build 77 #[(0, .agg #[.int .i64 d, .int .i64 l]), (1, Value.int .i64 2), (3, Value.int .i64 (nw + S.rest))]) W = .ok (.agg #[.int .i64 d, .int .i64 l, .int .i64 2, .int .i64 0, .int .i64 (nw + S.rest)]) W := fun W => run_build W _ _ _ (by kernel_rfl)
      have hset := fun W hW hbs => setR W b base (S.tick t) L d l ((nw + S.rest) * 4 + 2) 2 0 (nw + S.rest) hW hbs hL ⟨d0, d1⟩ ⟨l0, l1⟩ (by omega) (by omega) (by omega) (by rw [entS_set, if_neg (by omega), show ((nw + S.rest) * 4 + 2) % 4 = 2 by omega, show ((nw + S.rest) * 4 + 2) / 4 = nw + S.rest by omega])
      have HSET := Lib.hid hset
      have hbs5 : base ≤ w5.heap.size := Nat.le_trans hbase hC5.size
      clear hset
      go_upto_region 9 with fail
      go_still_tail 12, (by kernel_rfl)
      change wpList _ _ _ _ _ w5.drew
      have hR6 := hR5.same ((Chg.refl _ _).drew)
      go_wp2_with (first | (go_at_call 29; refine (HSET.out _ hR6 hbs5).mono ?_; rintro e w7 ⟨rfl, ⟨L', hR7, hL7⟩, hC7⟩))
      go_ret
      rw [HF.out]
      exact ⟨L', rfl, hR7, hL7, hC5.drew.trans hC7⟩
set_option maxRecDepth 100000 in
set_option maxHeartbeats 16000000 in
theorem refdid_may {w : World} {b base : Nat} {S : FS} {L : List FE} {d l t : Int} {well : Bool} (h : RefAt w b base S L) (hbb : b < base) (hbase : base ≤ w.heap.size) (hL : L.length < 100000) (hm : mayAt d l t = true) :
    Calls Try.prog 13 #[.pointer (some ⟨b, 0, none⟩), .agg #[.int .i64 d, .int .i64 l], .bool well, .int .i64 t] w fun e w' => ∃ L', e = .returned (.int .i64 0) ∧ RefAt w' b base ((S.tick t).did1 d l well) L' ∧ L'.length ≤ L.length + 1 ∧ Chg (fun i => i = b) w w' := by
  have hal := (Chg.refl (fun _ => False) w).alloc (.cells #[.int .i64 d, .int .i64 l] 32)
  have hR := h.same hal
  have hk0 := heap_new w (.cells #[.int .i64 d, .int .i64 l] 32)
  have hbw := h.lt
  have c0 := cell_of_heap hk0 0
  have c1 := cell_of_heap hk0 1
  simp only [List.getElem?_toArray, List.getElem?_cons_zero, List.getElem?_cons_succ] at c0 c1
  obtain ⟨t0, t1, d0, d1, l0, l1⟩ := mayAt_iff.1 hm
  have hd : I64 d := i64_small d0 (by omega)
  have hl : I64 l := i64_small l0 (by omega)
  have hmy := fun W => may_some W d l t
  rw [hm] at hmy
  obtain ⟨nw, hnw⟩ : ∃ z, max S.now t = z := ⟨_, rfl⟩
  have hok1 := h.ok.tick t1
  obtain ⟨st, un, hst, hun, hent⟩ := ent_cases (S := S.tick t) (d := d) (l := l)
  have hnum := hok1.num d l
  have hst0 : 0 ≤ st ∧ st < 4 := by omega
  have hun0 : 0 ≤ un ∧ un ≤ 4503599628370496 := by omega
  have hun2 : st = 0 → un < 1000 := by omega
  have hnw0 : 0 ≤ nw ∧ nw ≤ 4503599627370496 := by have := h.ok.now; omega
  have hrest := h.ok.rest
  have hmost := h.ok.most
  have hnowT : (S.tick t).now = nw := hnw
  have hrestT : (S.tick t).rest = S.rest := rfl
  have hmostT : (S.tick t).most = S.most := rfl
  have HST := Lib.hid hst
  have HUN := Lib.hid hun
  have HENT := Lib.hid hent
  have HNUM := Lib.hid hnum
  have HNOW := Lib.hid hnowT
  have HU2 := Lib.hid hun2
  clear hst hun hent hnum hnowT hun2
  have hw1 : IntKind.i64.wrap (nw + S.rest) = nw + S.rest := IntWalk.i64_in _ ⟨by omega, by omega⟩
  go_enter Try.func13, Try.ntmps13
  go_upto_region 3 with (first | (go_at_call 27; refine (hmy _).mono ?_; rintro e w1 ⟨rfl, hC1⟩))
  have hR1 := hR.same hC1
  have hC01 := hal.trans hC1
  have x0 := hC1.cell c0 (fun x => x)
  have x1 := hC1.cell c1 (fun x => x)
  obtain ⟨v, hbh, _⟩ := hR1.row
  have hbc := cell_of_heap hbh 2
  have hbf := free_of_heap hbh 2
  simp only [List.getElem?_toArray, List.getElem?_cons_zero, List.getElem?_cons_succ] at hbc
  clear hk0 c0 c1 hal hR hC1
  go_cut [] from 14 to 22 (fun W => W = w1.setCell ⟨b, 2, none⟩ (.int .i64 nw))
  case first =>
    by_cases hlt : S.now < t
    · obtain rfl : nw = t := by omega
      go_wp2_with fail
      go_meet
      rfl
    · obtain rfl : nw = S.now := by omega
      go_wp2_with fail
      go_meet
      rfl
  case rest =>
  obtain rfl := hcut
  have hR2 := hR1.tick hbb t1 hnw
  have y0 := cell_setCell (o := 2) x0 (show b ≠ w.heap.size by omega) (.int .i64 nw)
  have y1 := cell_setCell (o := 2) x1 (show b ≠ w.heap.size by omega) (.int .i64 nw)
  have hC2 := Chg.setCell (S := fun i => i = b) (hC01.mono (fun _ _ x => x.elim)) (p := ⟨b, 2, none⟩) (.inl rfl) (.int .i64 nw)
  have hlk : w1.heap.size ≤ (w1.setCell ⟨b, 2, none⟩ (.int .i64 nw)).heap.size := by simp [World.setCell]
  clear hR1 hC01 x0 x1 hbh hbc hbf
  generalize w1.setCell ⟨b, 2, none⟩ (.int .i64 nw) = w2 at *
  have hat := refat_some w2 b base (S.tick t) L d l hR2 hd hl
  have hC2b : w.heap.size ≤ w2.heap.size := hC2.size
  have HE : (S.tick t).did1 d l well = if st = 1 then S.tick t else if well then (S.tick t).set d l 0 else if st = 0 ∧ un + 1 < S.most then (S.tick t).set d l ((un + 1) * 4) else (S.tick t).set d l ((nw + S.rest) * 4 + 1) := by unfold FS.did1; rw [HST.out, HUN.out, HNOW.out]; rfl
  by_cases c1 : st = 1
  · have HF := Lib.hid (HE.trans (if_pos c1))
    clear HE
    have hEV : entV (entS (S.tick t) d l) = .agg #[.int .i64 d, .int .i64 l, .int .i64 1, .int .i64 0, .int .i64 un] := by rw [HENT.out, if_neg (by omega), c1]; rfl
    rw [hEV] at hat
    clear hEV
    go_wp2_with (first | (go_at_call 28; refine hat.mono ?_; rintro e w3 ⟨rfl, hC3⟩; have hR3 := hR2.same hC3; have z0 := hC3.cell y0 (fun x => x); have z1 := hC3.cell y1 (fun x => x); have hC3' := hC2.trans (hC3.mono (fun _ _ x => x.elim)); have hsz3 := hC3.size; clear hR2 y0 y1 hC2 hC3))
    go_ret
    rw [HF.out]
    exact ⟨L, rfl, hR3.same ((Chg.refl _ _).alloc _), by omega, hC3'.alloc _⟩
  · replace HE := HE.trans (if_neg c1)
    have hs1 : (st == 1) = false := by simpa using c1
    by_cases c0 : st = 0
    · have hEV : entV (entS (S.tick t) d l) = .agg #[.int .i64 d, .int .i64 l, .int .i64 0, .int .i64 un, .int .i64 0] := by rw [HENT.out, if_pos c0]; rfl
      rw [hEV] at hat
      have hu9 := HU2.out c0
      have hw2 : IntKind.i64.wrap (un + 1) = un + 1 := IntWalk.i64_in _ ⟨by omega, by omega⟩
      clear hEV
      go_upto_region 6 with (first | (go_at_call 28; refine hat.mono ?_; rintro e w3 ⟨rfl, hC3⟩; have hR3 := hR2.same hC3; have z0 := hC3.cell y0 (fun x => x); have z1 := hC3.cell y1 (fun x => x); have hC3' := hC2.trans (hC3.mono (fun _ _ x => x.elim)); have hsz3 := hC3.size; clear hR2 y0 y1 hC2 hC3))
      have hR4 := hR3.same ((Chg.refl _ _).alloc (.cells #[.int .i64 d, .int .i64 l, .int .i64 0, .int .i64 un, .int .i64 0] 77))
      have hC4 := hC3'.alloc (.cells #[.int .i64 d, .int .i64 l, .int .i64 0, .int .i64 un, .int .i64 0] 77)
      have hf4 := heap_new w3 (.cells #[.int .i64 d, .int .i64 l, .int .i64 0, .int .i64 un, .int .i64 0] 77)
      have a0 := cell_alloc z0 (.cells #[.int .i64 d, .int .i64 l, .int .i64 0, .int .i64 un, .int .i64 0] 77)
      have a1 := cell_alloc z1 (.cells #[.int .i64 d, .int .i64 l, .int .i64 0, .int .i64 un, .int .i64 0] 77)
      have a4 := cell_of_heap hf4 3
      have a2 := cell_of_heap hf4 2
      obtain ⟨v4, hb4, _⟩ := hR4.row
      have a6 := cell_of_heap hb4 2
      have a7 := cell_of_heap hb4 1
      have a8 := cell_of_heap hb4 0
      simp only [List.getElem?_toArray, List.getElem?_cons_zero, List.getElem?_cons_succ] at a2 a4 a6 a7 a8
      rw [HNOW.out] at a6
      rw [show (S.tick t).rest = S.rest from rfl] at a7
      rw [show (S.tick t).most = S.most from rfl] at a8
      clear hR3 hC3' z0 z1 hf4 hb4
      generalize w3.alloc (.cells #[.int .i64 d, .int .i64 l, .int .i64 0, .int .i64 un, .int .i64 0] 77) = w4 at *
      cases well
      · replace HE := HE.trans (if_neg (by decide))
        by_cases c2 : un + 1 < S.most
        · have HF := Lib.hid (HE.trans (if_pos ⟨c0, c2⟩))
          clear HE c0 c1
          go_upto_region 9 with fail
          go_quiet (fail)
          have hR5 := hR4.same ((Chg.refl _ _).drewN nq)
          have hC5 := hC4.drewN nq
          have b0 : (w4.drewN nq).cell? ⟨w.heap.size, 0, none⟩ = some (.int .i64 d) := a0
          have b1 : (w4.drewN nq).cell? ⟨w.heap.size, 1, none⟩ = some (.int .i64 l) := a1
          have b2 : (w4.drewN nq).cell? ⟨w3.heap.size, 3, none⟩ = some (.int .i64 un) := a4
          clear hR4 hC4 a0 a1 a2 a4 a6 a7 a8
          generalize w4.drewN nq = w5 at *
          have hbd : ∀ W : World, Sem.run Try.prog (Instr.build 77 #[(0, .agg #[.int .i64 d, .int .i64 l]), (2, Value.int .i64 (un + 1))]) W = .ok (.agg #[.int .i64 d, .int .i64 l, .int .i64 0, .int .i64 (un + 1), .int .i64 0]) W := fun W => run_build W _ _ _ (by kernel_rfl)
          have hset := fun W hW hbs => setR W b base (S.tick t) L d l ((un + 1) * 4) 0 (un + 1) 0 hW hbs hL ⟨d0, d1⟩ ⟨l0, l1⟩ (by omega) (by omega) (by omega) (by rw [entS_set, if_pos (by omega), show (un + 1) * 4 / 4 = un + 1 by omega])
          have HSET := Lib.hid hset
          have hbs5 : base ≤ w5.heap.size := Nat.le_trans hbase hC5.size
          clear hset
          go_wp2_with (first | (go_at_call 29; refine (HSET.out _ hR5 hbs5).mono ?_; rintro e w7 ⟨rfl, ⟨L', hR7, hL7⟩, hC7⟩))
          go_ret
          rw [HF.out]
          exact ⟨L', rfl, hR7, hL7, hC5.trans hC7⟩
        · have HF := Lib.hid (HE.trans (if_neg (fun x => c2 x.2)))
          clear HE c0 c1
          go_upto_region 9 with fail
          go_quiet (fail)
          have hR5 := hR4.same ((Chg.refl _ _).drewN nq)
          have hC5 := hC4.drewN nq
          have b0 : (w4.drewN nq).cell? ⟨w.heap.size, 0, none⟩ = some (.int .i64 d) := a0
          have b1 : (w4.drewN nq).cell? ⟨w.heap.size, 1, none⟩ = some (.int .i64 l) := a1
          have b2 : (w4.drewN nq).cell? ⟨b, 2, none⟩ = some (.int .i64 nw) := a6
          have b3 : (w4.drewN nq).cell? ⟨b, 1, none⟩ = some (.int .i64 S.rest) := a7
          clear hR4 hC4 a0 a1 a2 a4 a6 a7 a8
          generalize w4.drewN nq = w5 at *
          have hbd : ∀ W : World, Sem.run Try.prog (Instr.build 77 #[(0, .agg #[.int .i64 d, .int .i64 l]), (1, Value.int .i64 1), (3, Value.int .i64 (nw + S.rest))]) W = .ok (.agg #[.int .i64 d, .int .i64 l, .int .i64 1, .int .i64 0, .int .i64 (nw + S.rest)]) W := fun W => run_build W _ _ _ (by kernel_rfl)
          have hset := fun W hW hbs => setR W b base (S.tick t) L d l ((nw + S.rest) * 4 + 1) 1 0 (nw + S.rest) hW hbs hL ⟨d0, d1⟩ ⟨l0, l1⟩ (by omega) (by omega) (by omega) (by rw [entS_set, if_neg (by omega), show ((nw + S.rest) * 4 + 1) % 4 = 1 by omega, show ((nw + S.rest) * 4 + 1) / 4 = nw + S.rest by omega])
          have HSET := Lib.hid hset
          have hbs5 : base ≤ w5.heap.size := Nat.le_trans hbase hC5.size
          clear hset
          go_upto_region 5 with fail
          go_still_tail 12, (by kernel_rfl)
          change wpList _ _ _ _ _ w5.drew
          have hR6 := hR5.same ((Chg.refl _ _).drew)
          go_wp2_with (first | (go_at_call 29; refine (HSET.out _ hR6 hbs5).mono ?_; rintro e w7 ⟨rfl, ⟨L', hR7, hL7⟩, hC7⟩))
          go_ret
          rw [HF.out]
          exact ⟨L', rfl, hR7, hL7, hC5.drew.trans hC7⟩
      · have HF := Lib.hid (HE.trans (if_pos rfl))
        clear HE c0 c1
        have hbd : ∀ W : World, Sem.run Try.prog (Instr.build 77 #[(0, .agg #[.int .i64 d, .int .i64 l])]) W = .ok (.agg #[.int .i64 d, .int .i64 l, .int .i64 0, .int .i64 0, .int .i64 0]) W := fun W => run_build W _ _ _ (by kernel_rfl)
        have hset := fun W hW hbs => setR W b base (S.tick t) L d l 0 0 0 0 hW hbs hL ⟨d0, d1⟩ ⟨l0, l1⟩ (by omega) (by omega) (by omega) (by rw [entS_set, if_pos (by omega)]; rfl)
        have HSET := Lib.hid hset
        have hbs5 : base ≤ w4.heap.size := Nat.le_trans hbase hC4.size
        clear hset
        go_wp2_with (first | (go_at_call 29; refine (HSET.out _ hR4 hbs5).mono ?_; rintro e w7 ⟨rfl, ⟨L', hR7, hL7⟩, hC7⟩))
        go_ret
        rw [HF.out]
        exact ⟨L', rfl, hR7, hL7, hC4.trans hC7⟩
    · have hs0 : (st == 0) = false := by simpa using c0
      have hEV : entV (entS (S.tick t) d l) = .agg #[.int .i64 d, .int .i64 l, .int .i64 st, .int .i64 0, .int .i64 un] := by rw [HENT.out, if_neg c0]; rfl
      rw [hEV] at hat
      clear hEV
      go_upto_region 6 with (first | (go_at_call 28; refine hat.mono ?_; rintro e w3 ⟨rfl, hC3⟩; have hR3 := hR2.same hC3; have z0 := hC3.cell y0 (fun x => x); have z1 := hC3.cell y1 (fun x => x); have hC3' := hC2.trans (hC3.mono (fun _ _ x => x.elim)); have hsz3 := hC3.size; clear hR2 y0 y1 hC2 hC3))
      have hR4 := hR3.same ((Chg.refl _ _).alloc (.cells #[.int .i64 d, .int .i64 l, .int .i64 st, .int .i64 0, .int .i64 un] 77))
      have hC4 := hC3'.alloc (.cells #[.int .i64 d, .int .i64 l, .int .i64 st, .int .i64 0, .int .i64 un] 77)
      have hf4 := heap_new w3 (.cells #[.int .i64 d, .int .i64 l, .int .i64 st, .int .i64 0, .int .i64 un] 77)
      have a0 := cell_alloc z0 (.cells #[.int .i64 d, .int .i64 l, .int .i64 st, .int .i64 0, .int .i64 un] 77)
      have a1 := cell_alloc z1 (.cells #[.int .i64 d, .int .i64 l, .int .i64 st, .int .i64 0, .int .i64 un] 77)
      have a4 := cell_of_heap hf4 3
      have a2 := cell_of_heap hf4 2
      obtain ⟨v4, hb4, _⟩ := hR4.row
      have a6 := cell_of_heap hb4 2
      have a7 := cell_of_heap hb4 1
      have a8 := cell_of_heap hb4 0
      simp only [List.getElem?_toArray, List.getElem?_cons_zero, List.getElem?_cons_succ] at a2 a4 a6 a7 a8
      rw [HNOW.out] at a6
      rw [show (S.tick t).rest = S.rest from rfl] at a7
      rw [show (S.tick t).most = S.most from rfl] at a8
      clear hR3 hC3' z0 z1 hf4 hb4
      generalize w3.alloc (.cells #[.int .i64 d, .int .i64 l, .int .i64 st, .int .i64 0, .int .i64 un] 77) = w4 at *
      cases well
      · replace HE := HE.trans (if_neg (by decide))
        have HF := Lib.hid (HE.trans (if_neg (fun x => c0 x.1)))
        clear HE
        go_upto_region 9 with fail
        go_quiet (fail)
        have hR5 := hR4.same ((Chg.refl _ _).drewN nq)
        have hC5 := hC4.drewN nq
        have b0 : (w4.drewN nq).cell? ⟨w.heap.size, 0, none⟩ = some (.int .i64 d) := a0
        have b1 : (w4.drewN nq).cell? ⟨w.heap.size, 1, none⟩ = some (.int .i64 l) := a1
        have b2 : (w4.drewN nq).cell? ⟨b, 2, none⟩ = some (.int .i64 nw) := a6
        have b3 : (w4.drewN nq).cell? ⟨b, 1, none⟩ = some (.int .i64 S.rest) := a7
        clear hR4 hC4 a0 a1 a2 a4 a6 a7 a8
        generalize w4.drewN nq = w5 at *
        have hbd : ∀ W : World, Sem.run Try.prog (Instr.build 77 #[(0, .agg #[.int .i64 d, .int .i64 l]), (1, Value.int .i64 1), (3, Value.int .i64 (nw + S.rest))]) W = .ok (.agg #[.int .i64 d, .int .i64 l, .int .i64 1, .int .i64 0, .int .i64 (nw + S.rest)]) W := fun W => run_build W _ _ _ (by kernel_rfl)
        have hset := fun W hW hbs => setR W b base (S.tick t) L d l ((nw + S.rest) * 4 + 1) 1 0 (nw + S.rest) hW hbs hL ⟨d0, d1⟩ ⟨l0, l1⟩ (by omega) (by omega) (by omega) (by rw [entS_set, if_neg (by omega), show ((nw + S.rest) * 4 + 1) % 4 = 1 by omega, show ((nw + S.rest) * 4 + 1) / 4 = nw + S.rest by omega])
        have HSET := Lib.hid hset
        have hbs5 : base ≤ w5.heap.size := Nat.le_trans hbase hC5.size
        clear hset
        go_upto_region 5 with fail
        go_still_tail 12, (by kernel_rfl)
        change wpList _ _ _ _ _ w5.drew
        have hR6 := hR5.same ((Chg.refl _ _).drew)
        go_wp2_with (first | (go_at_call 29; refine (HSET.out _ hR6 hbs5).mono ?_; rintro e w7 ⟨rfl, ⟨L', hR7, hL7⟩, hC7⟩))
        go_ret
        rw [HF.out]
        exact ⟨L', rfl, hR7, hL7, hC5.drew.trans hC7⟩
      · have HF := Lib.hid (HE.trans (if_pos rfl))
        clear HE
        have hbd : ∀ W : World, Sem.run Try.prog (Instr.build 77 #[(0, .agg #[.int .i64 d, .int .i64 l])]) W = .ok (.agg #[.int .i64 d, .int .i64 l, .int .i64 0, .int .i64 0, .int .i64 0]) W := fun W => run_build W _ _ _ (by kernel_rfl)
        have hset := fun W hW hbs => setR W b base (S.tick t) L d l 0 0 0 0 hW hbs hL ⟨d0, d1⟩ ⟨l0, l1⟩ (by omega) (by omega) (by omega) (by rw [entS_set, if_pos (by omega)]; rfl)
        have HSET := Lib.hid hset
        have hbs5 : base ≤ w4.heap.size := Nat.le_trans hbase hC4.size
        clear hset
        go_wp2_with (first | (go_at_call 29; refine (HSET.out _ hR4 hbs5).mono ?_; rintro e w7 ⟨rfl, ⟨L', hR7, hL7⟩, hC7⟩))
        go_ret
        rw [HF.out]
        exact ⟨L', rfl, hR7, hL7, hC4.trans hC7⟩
end Go.Proofs.Ytbihefbjojlncaa
