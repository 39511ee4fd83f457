/- made -/
import Derived.Test.YtkonpkejddcegaaDoorOrdWorks
namespace Go.Proofs.YtkonpkejddcegaaDoor
set_option linter.unusedVariables false
set_option linter.unusedSimpArgs false
open Go Go.RowKit Go.Proofs Go.Shelf
/-- a slice of pairs that came in -/
def InPairs (w : World) (v : Value) (L : List (Int × Int)) : Prop := ∃ a cap, v = .slice a L.length cap ∧ ∀ i, i < L.length → ∃ g o, a = some ⟨g, o, none⟩ ∧ w.cell? ⟨g, o + i * 2, none⟩ = some (.int .i64 (L.getD i (0, 0)).1) ∧ w.cell? ⟨g, o + i * 2 + 1, none⟩ = some (.int .i64 (L.getD i (0, 0)).2)
def InB (L : List (Int × Int)) : Prop := L.length ≤ 140737488355328 ∧ ∀ i, i < L.length → (-9223372036854775808 ≤ (L.getD i (0, 0)).1 ∧ (L.getD i (0, 0)).1 ≤ 9223372036854775807) ∧ (-9223372036854775808 ≤ (L.getD i (0, 0)).2 ∧ (L.getD i (0, 0)).2 ≤ 9223372036854775807)
def stp (n : Nat) (s : (Nat → Nat → Bool) × List (Nat × Nat)) (p : Int × Int) : (Nat → Nat → Bool) × List (Nat × Nat) :=
  (addR n s.1 (p.1 % n) (p.2 % n), if addE n s.1 (p.1 % n) (p.2 % n) = 0 then s.2 ++ [((p.1 % n).toNat, (p.2 % n).toNat)] else s.2)
def mkTo (n : Nat) (L : List (Int × Int)) (k : Nat) : (Nat → Nat → Bool) × List (Nat × Nat) := (L.take k).foldl (stp n) (idR, [])
theorem mkTo_succ (n : Nat) (L : List (Int × Int)) (k : Nat) (h : k < L.length) : mkTo n L (k + 1) = stp n (mkTo n L k) (L.getD k (0, 0)) := by
  unfold mkTo
  rw [List.take_succ_eq_append_getElem h, List.foldl_append]
  simp [List.getD, h]
theorem mkTo_len (n : Nat) (L : List (Int × Int)) (k : Nat) : (mkTo n L k).2.length ≤ k := by
  unfold mkTo
  have key : ∀ (l : List (Int × Int)) (s : (Nat → Nat → Bool) × List (Nat × Nat)), (l.foldl (stp n) s).2.length ≤ s.2.length + l.length := by
    intro l
    induction l with
    | nil => intro s; simp
    | cons x l ih =>
      intro s
      rw [List.foldl_cons]
      refine Nat.le_trans (ih _) ?_
      unfold stp
      simp only [List.length_cons]
      split
      · simp; omega
      · omega
  have := key (L.take k) (idR, [])
  simp at this
  simp
  omega
theorem mkTo_po (n : Nat) (L : List (Int × Int)) (k : Nat) : PO n (mkTo n L k).1 := by
  unfold mkTo
  have key : ∀ (l : List (Int × Int)) (s : (Nat → Nat → Bool) × List (Nat × Nat)), PO n s.1 → PO n (l.foldl (stp n) s).1 := by
    intro l
    induction l with
    | nil => intro s h; exact h
    | cons x l ih => intro s h; rw [List.foldl_cons]; exact ih _ (h.add _ _)
  exact key _ _ (PO.id n)
/-- how many things -/
def nOf (many : Int) : Nat := (1 + many % 16).toNat
theorem nOf_bd (many : Int) : 1 ≤ nOf many ∧ nOf many ≤ 16 := by unfold nOf; omega
def MadePost (w : World) (n : Nat) (L : List (Int × Int)) (e : Ending) (w' : World) : Prop :=
  ∃ b bu bd vt, e = .returned (.tuple #[.pointer (some ⟨b, 0, none⟩), vt]) ∧ w.heap.size ≤ b ∧ w.heap.size ≤ bu ∧ w.heap.size ≤ bd ∧ IsOrd w' b bu bd n n n (mkTo n L 40).1 (flp (mkTo n L 40).1) ∧
    w'.ownsRow w.heap.size 31 2 vt (mkTo n L 40).2.length (prs (mkTo n L 40).2) ∧ Chg (fun _ => False) w w'
theorem bring_q (w : World) (i n : Int) (hn : 0 < n) (hn2 : n ≤ 1000000) (h1 : -9223372036854775808 ≤ i) (h2 : i ≤ 9223372036854775807) :
    Calls Tryd.prog 21 #[.int .i64 i, .int .i64 n] w fun e w' => e = .returned (.int .i64 (i % n)) ∧ w' = w := (bring_any w i n hn hn2 h1 h2).mono fun e w' h => ⟨h.1, h.2.symm⟩
theorem quiet_again {P : Program} {f : FuncId} {args : Array Value} {w : World} {a n : Nat} {v : Value}
    (h : Calls P f args (w.drewN (a + n)) fun e w' => e = .returned v ∧ w' = w.drewN (a + n)) :
    Calls P f args (w.drewN (a + n)) fun e w'' => e = .returned v ∧ ∃ m, w'' = w.drewN (a + m) :=
  h.mono fun _ _ ⟨he, hm⟩ => ⟨he, n, hm⟩
set_option maxHeartbeats 2000000 in
theorem made_any (w : World) (many : Int) (v : Value) (L : List (Int × Int)) (hT : TabOk w) (hg : 0 < w.heap.size) (hL : InPairs w v L) (hB : InB L) (hm1 : -9223372036854775808 ≤ many) (hm2 : many ≤ 9223372036854775807) :
    Calls Tryd.prog 9 #[.int .i64 many, v] w (MadePost w (nOf many) L) := by
  have hn := nOf_bd many
  have hbr := bring_any w many 16 (by omega) (by omega) hm1 hm2
  have hnn : 1 + many % 16 = (nOf many : Int) := by unfold nOf; omega
  have hnew := fun W => new_id (nOf many) hn.1 hn.2 W
  obtain ⟨hn1, hn2⟩ := hn
  have k1 := Int.emod_nonneg many (by omega : (16 : Int) ≠ 0)
  have k2 := Int.emod_lt_of_pos many (by omega : (0 : Int) < 16)
  have Hnn := Lib.hid hnn
  have HL := Lib.hid hL
  have HB := Lib.hid hB
  have HT := Lib.hid hT
  clear hnn hL hB hT
  generalize nOf many = n at *
  obtain ⟨sa, sc, rfl, hcells⟩ := HL.out
  have HCE := Lib.hid hcells
  have hlen := HB.out.1
  clear hcells HL
  go_enter Tryd.func9, Tryd.ntmps9
  go_wp2_with fail
  refine hbr.mono ?_
  rintro e w' ⟨rfl, rfl⟩
  clear hbr
  go_wp2_with fail
  rw [Hnn.out]
  refine (hnew _).mono ?_
  rintro e w1 ⟨b, bu, bd, rfl, hb, hbu, hbd, hO, hC⟩
  clear hnew
  have HO := Lib.hid hO
  have HC := Lib.hid hC
  clear hO hC
  have hM := many_some HO.out
  unfold optr at hM
  go_wp2_with fail
  refine hM.mono ?_
  rintro e w' ⟨rfl, rfl⟩
  clear hM
  go_wp2_with fail
  have hsz1 := HC.out.size
  have hlt := HO.out.lt
  go_loopw [9, 10] (fun t i wr => ∃ k : Nat, k ≤ L.length ∧ k ≤ 40 ∧ i = .int .i64 k ∧ IsOrd wr b bu bd n n n (mkTo n L k).1 (flp (mkTo n L k).1) ∧ wr.ownsRow w1.heap.size 31 2 t (mkTo n L k).2.length (prs (mkTo n L k).2) ∧ Chg (fun _ => False) w wr ∧ w1.heap.size ≤ wr.heap.size) (fun _ i _ => 40 - (intOf i).toNat)
  case atStart =>
    refine ⟨0, by omega, by omega, rfl, HO.out, ?_, HC.out, Nat.le_refl _⟩
    simpa [mkTo, prs] using World.ownsRow_nil _ _ _ _
  case round =>
    obtain ⟨k, hk1, hk2, rfl, hO, hrow, hC, hsz⟩ := hrel
    obtain ⟨ta, tl, tc, rfl⟩ := own_slice hrow
    have HO2 := Lib.hid hO
    have HR2 := Lib.hid hrow
    have HC2 := Lib.hid hC
    clear hO hrow hC
    by_cases hlt1 : k < L.length
    · by_cases hlt2 : k < 40
      · obtain ⟨g, o, rfl, c1, c2⟩ := HCE.out k hlt1
        have d1 := HC2.out.cell c1 (fun h => h)
        have d2 := HC2.out.cell c2 (fun h => h)
        obtain ⟨⟨x1, x2⟩, y1, y2⟩ := HB.out.2 k hlt1
        have hsucc := mkTo_succ n L k hlt1
        have Hsucc := Lib.hid hsucc
        generalize hx : (L.getD k (0, 0)).1 = x at *
        generalize hy : (L.getD k (0, 0)).2 = y at *
        have Hx := Lib.hid hx
        have Hy := Lib.hid hy
        clear c1 c2 hsucc hx hy
        go_wp2_with fail
        go_quiet ((go_at_call 21; exact Calls.quiet_of_same (bring_q _ _ _ (by omega) (by omega) (by omega) (by omega))))
        go_wp2_with fail
        have hOq : ∀ q, IsOrd (wr.drewN q) b bu bd n n n (mkTo n L k).1 (flp (mkTo n L k).1) := fun q => HO2.out.keep fun _ _ _ _ _ e => e
        have hTq : ∀ q, TabOk (wr.drewN q) := fun q => HT.out.chg (HC2.out.drewN q) (fun h => h)
        refine (add_any (hOq _) (hTq _) (x % n) (y % n) (by omega) (by omega) (by omega)).mono ?_
        rintro e w3 ⟨rfl, hO3, hC3⟩
        have hrow3 : w3.ownsRow w1.heap.size 31 2 (.slice ta tl tc) (mkTo n L k).2.length (prs (mkTo n L k).2) := own_keep HR2.out fun j c t f hj e => hC3.keep e (by omega)
        have hch3 : Chg (fun _ => False) w w3 := (HC2.out.drewN _).trans' hC3 (fun i hi h => by omega)
        have hsz3 : w1.heap.size ≤ w3.heap.size := Nat.le_trans hsz hC3.size
        have HO3 := Lib.hid hO3
        have HR3 := Lib.hid hrow3
        have HC3 := Lib.hid hch3
        have hlen2 := mkTo_len n L k
        clear hOq hTq hO3 hC3 hrow3 hch3 d1 d2 x1 x2 y1 y2
        by_cases hE : addE n (mkTo n L k).1 (x % n) (y % n) = 0
        · have hfin : mkTo n L (k + 1) = (addR n (mkTo n L k).1 (x % n) (y % n), (mkTo n L k).2 ++ [((x % n).toNat, (y % n).toNat)]) := by
            rw [Hsucc.out]; unfold stp; rw [Hx.out, Hy.out, if_pos hE]
          have Hfin := Lib.hid hfin
          rw [hE]
          clear hE hfin
          obtain ⟨i0, hi, hz0, hz1, hz2⟩ := info_parts infoPair
          have g1 := Int.emod_nonneg x (by omega : (n : Int) ≠ 0)
          have g2 := Int.emod_nonneg y (by omega : (n : Int) ≠ 0)
          go_wp2_with (at_builtin; refine wpList_append_own_at _ rfl _ _ 22 rfl w1.heap.size 31 i0 (.agg #[.int .i64 0, .int .i64 0]) 2 16 Tryd.underlying22 hi hz0 hz1 hz2 rfl (by decide) _ _ _ rfl (HR3.out.alloc _) ⟨w3.heap.size, 0, none⟩ 1 1 [.int .i64 (x % n), .int .i64 (y % n)] rfl rfl ?c1 ?c2 ?c3 ?c4 ?c5 ?_)
          case c1 => exact cell_two_new _ _ _ _
          case c2 => simp [Value.oneCell']
          case c3 => unfold maxLen; omega
          case c4 => omega
          case c5 => simp; omega
          intro v' w4 hown' hgrow hnil hat
          have hrb := fun j (hk : (Value.slice ta tl tc).ownBlock = some j) => own_block HR3.out hk
          have hch4 : Chg (fun _ => False) w w4 := (HC3.out.alloc _).grown hgrow (fun j e => .inr (by have := hrb _ e; omega))
          have hO4 := HO3.out.keep (w' := w4) fun j c t f hj e => grown_keep hgrow (heap_alloc e) (fun e2 => by have := hrb _ e2; omega)
          have hsz4 : w1.heap.size ≤ w4.heap.size := by have := hgrow.size; simp at this; omega
          have HO4 := Lib.hid hO4
          have HC4 := Lib.hid hch4
          have HN4 := Lib.hid hown'
          obtain ⟨ua, ul, uc, rfl⟩ := own_slice hown'
          clear hgrow hown' hrb hch4 hO4 hnil hat
          go_wp2
          go_roundw
          case rel =>
            refine ⟨k + 1, by omega, by omega, by go_num, ?_, ?_, HC4.out, hsz4⟩
            · rw [Hfin.out]; exact HO4.out
            · rw [Hfin.out, prs_snoc, List.length_append]
              have e1 : (((x % n).toNat : Nat) : Int) = x % n := by omega
              have e2 : (((y % n).toNat : Nat) : Int) = y % n := by omega
              rw [e1, e2]
              exact HN4.out
          case measure => simp [intOf]; omega
        · have hfin : mkTo n L (k + 1) = (addR n (mkTo n L k).1 (x % n) (y % n), (mkTo n L k).2) := by
            rw [Hsucc.out]; unfold stp; rw [Hx.out, Hy.out, if_neg hE]
          have Hfin := Lib.hid hfin
          have hEb : (addE n (mkTo n L k).1 (x % n) (y % n) == 0) = false := by rw [beq_eq_false_iff_ne]; exact hE
          clear hE hfin
          go_wp2
          go_roundw
          case rel =>
            refine ⟨k + 1, by omega, by omega, by go_num, ?_, ?_, HC3.out, hsz3⟩
            · rw [Hfin.out]; exact HO3.out
            · rw [Hfin.out]; exact HR3.out
          case measure => simp [intOf]; omega
      · have hk40 : k = 40 := by omega
        have hend : mkTo n L k = mkTo n L 40 := by rw [hk40]
        have Hend := Lib.hid hend
        clear hk40 hend
        go_wp2
        go_ret2
        refine ⟨b, bu, bd, _, rfl, hb, hbu, hbd, ?_, ?_, HC2.out⟩
        · rw [← Hend.out]; exact HO2.out
        · rw [← Hend.out]; exact own_mono HR2.out hsz1
    · have hend : mkTo n L k = mkTo n L 40 := by
        unfold mkTo
        rw [List.take_of_length_le (by omega), List.take_of_length_le (by omega)]
      have Hend := Lib.hid hend
      clear hend
      go_wp2
      go_ret2
      refine ⟨b, bu, bd, _, rfl, hb, hbu, hbd, ?_, ?_, HC2.out⟩
      · rw [← Hend.out]; exact HO2.out
      · rw [← Hend.out]; exact own_mono HR2.out hsz1
end Go.Proofs.YtkonpkejddcegaaDoor
