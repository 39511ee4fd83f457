/- push: the law's helpers: EqBytes, is, fails. -/
import Derived.Test.YteiedafdakffeaaDoorPushZ
import Derived.Test.YteiedafdakffeaaDoorPushP
namespace Go.Proofs.YteiedafdakffeaaDoor
set_option linter.unusedVariables false
set_option linter.unusedSimpArgs false
open Go Go.RowKit Go.Proofs
open Go.Proofs.YteiedafdakffeaaDoorW.PrintWords (Kd ReadsInt ReadsOf own_move print_drop_of print_take_of gate_dst gate_store bytesOf bytesOf_length)
theorem eqBytes_some (w : World) (A B : Option Addr) (l m : List Int) (c d : Nat) (hl : ReadsInt w .u8 A l.length l) (hm : ReadsInt w .u8 B m.length m) :
    Calls Tryd.prog 23 #[.slice A l.length c, .slice B m.length d] w fun e w' => e = .returned (.bool ((strOfNums l).toList == (strOfNums m).toList)) ∧ w' = w := by
  have h1 := Kd.C_string (P := Tryd.prog) (A := A) (c := c) Tryd.underlying22 Tryd.underlying5 Tryd.underlying9 (Kd.C_of_reads (d := (0 : Int)) (h1 := fun _ => rfl) hl)
  have h2 := Kd.C_string (P := Tryd.prog) (A := B) (c := d) Tryd.underlying22 Tryd.underlying5 Tryd.underlying9 (Kd.C_of_reads (d := (0 : Int)) (h1 := fun _ => rfl) hm)
  go_enter Tryd.func23, Tryd.ntmps23
  go_wp2
  go_ret
  exact ⟨by first | rfl | simp, by first | rfl | skip⟩
/-- bytes of one's own, as they read -/
theorem own_bytes {W : World} {base : Nat} {v : Value} {l : List Int} (h : W.ownsRow base 5 1 v l.length (u8s l)) : ∃ A c, v = .slice A l.length c ∧ l.length ≤ c ∧ ReadsInt W .u8 A l.length l := by
  rcases h.2 with ⟨rfl, h2⟩ | ⟨g, cap, cur, rfl, hg, hh, r1, r2, r3, r4⟩
  · have : l = [] := by simpa [u8s] using h2
    subst this
    exact ⟨none, 0, rfl, Nat.le_refl _, rfl, by simp, fun h => absurd h (by simp)⟩
  · refine ⟨_, cap, rfl, r1, rfl, by unfold maxLen at r2; omega, fun h0 => ⟨_, rfl, fun i hi => ?_⟩⟩
    have ea : (⟨g, 0, none⟩ : Addr).add i = ⟨g, i, none⟩ := by
      unfold Addr.add
      by_cases e : i = 0
      · subst e; simp
      · simp [e]
    rw [ea, cell_of_heap hh]
    have h5 : (cur.toList.take (l.length * 1))[i]? = (u8s l)[i]? := by rw [r4]
    rw [List.getElem?_take, if_pos (by omega)] at h5
    rw [← Array.getElem?_toList, h5, u8s, List.getElem?_map, List.getElem?_eq_getElem hi]
    simp [List.getD, hi]
set_option maxRecDepth 100000 in
set_option maxHeartbeats 4000000 in
theorem is_ok (w : World) (k : Int) (V : Nat → Int) (tx : ByteArray) (B : Option Addr) (b : List Int) (d : Nat) (hR : ReadsInt w .u8 B b.length b) (hd : b.length ≤ d) (hb : ∀ x ∈ b, 0 ≤ x ∧ x ≤ 255) (htx : tx.size ≤ 65536)
    (h1 : 1 ≤ k) (h5 : k ≤ 5) (hok : checkF k (V 1) (V 2) (V 3) (V 4) (V 5) (V 6) tx [] = 0) (hpb : pushB k (V 1) (V 2) (V 3) (V 4) (V 5) (V 6) tx [] = b) (hpe : (parseP b).e = 0)
    (hsm : sameF k V tx [] (parseP b).k (parseP b).V (parseP b).tx (parseP b).l = true) (hpl : (parseP b).l.length ≤ 100000) :
    Calls Tryd.prog 44 #[.agg #[.int .i64 k, .int .i64 (V 1), .int .i64 (V 2), .int .i64 (V 3), .int .i64 (V 4), .int .i64 (V 5), .int .i64 (V 6), .string tx, .slice none 0 0], .slice B b.length d] w fun e w' => e = .returned (.bool true) ∧ Chg (fun _ => False) w w' := by
  have hal := (Chg.refl (fun _ => False) w).alloc (.cells #[.int .i64 k, .int .i64 (V 1), .int .i64 (V 2), .int .i64 (V 3), .int .i64 (V 4), .int .i64 (V 5), .int .i64 (V 6), .string tx, .slice none 0 0] 26)
  have hp : PktAt (w.alloc (.cells #[.int .i64 k, .int .i64 (V 1), .int .i64 (V 2), .int .i64 (V 3), .int .i64 (V 4), .int .i64 (V 5), .int .i64 (V 6), .string tx, .slice none 0 0] 26)) w.heap.size k V tx (.slice none 0 0) := heap_new _ _
  have hby := bytes_ok (w.alloc (.cells #[.int .i64 k, .int .i64 (V 1), .int .i64 (V 2), .int .i64 (V 3), .int .i64 (V 4), .int .i64 (V 5), .int .i64 (V 6), .string tx, .slice none 0 0] 26)) k (V 1) (V 2) (V 3) (V 4) (V 5) (V 6) tx none [] 0 (fun i hi => by simp at hi) (by simp) (by simp [sizes]) htx h1 h5 hok
  rw [hpb] at hby
  have HBY := Lib.hid hby
  have HP := Lib.hid hp
  have HAL := Lib.hid hal
  have HR := Lib.hid hR
  have HB := Lib.hid hb
  obtain ⟨p, hpp⟩ : ∃ p, parseP b = p := ⟨_, rfl⟩
  have hpar : ∀ W, ReadsInt W .u8 B b.length b → Calls Tryd.prog 12 #[.slice B b.length d] W (ParsePost W (parseP b)) := fun W h => parse_some W B b d h hd hb
  rw [hpp] at hpe hsm hpl hpar
  have HPAR := Lib.hid hpar
  obtain ⟨pk', pV, ptx, pl, pe⟩ := p
  simp only at hpe hsm hpl
  subst hpe
  have HSM := Lib.hid hsm
  clear hby hp hal hR hb hpp hpar hok hpb hsm h1 h5
  go_enter Tryd.func44, Tryd.ntmps44
  go_wp2_with fail
  refine HBY.out.mono ?_
  rintro e w2 ⟨v2, rfl, ho2, hC2⟩
  obtain ⟨A2, c2, rfl, hc2, hR2⟩ := own_bytes ho2
  have HP2 := Lib.hid (HP.out.keep hC2 (fun h => h))
  have HC2 := Lib.hid (HAL.out.trans hC2)
  have HR2 := Lib.hid hR2
  have HPA2 := Lib.hid (HPAR.out w2 (reads_keep HR.out HC2.out))
  clear ho2 hC2 hR2 HBY HP HAL HPAR
  go_wp2_with fail
  refine HPA2.out.mono ?_
  rintro e w3 ⟨v3, rfl, ho3, hC3⟩
  obtain ⟨A3, c3, rfl, hL3⟩ := own_lines ho3
  have hp3 := HP2.out.keep hC3 (fun h => h)
  have HC3 := Lib.hid (HC2.out.trans hC3)
  have HL3 := Lib.hid hL3
  have HR3 := Lib.hid (reads_keep HR2.out hC3)
  have HRb := Lib.hid (reads_keep HR.out HC3.out)
  have g0 : w3.cell? ⟨w.heap.size, 0, none⟩ = some (.int .i64 k) := cell_of_heap hp3 0
  have g1 : w3.cell? ⟨w.heap.size, 1, none⟩ = some (.int .i64 (V 1)) := cell_of_heap hp3 1
  have g2 : w3.cell? ⟨w.heap.size, 2, none⟩ = some (.int .i64 (V 2)) := cell_of_heap hp3 2
  have g3 : w3.cell? ⟨w.heap.size, 3, none⟩ = some (.int .i64 (V 3)) := cell_of_heap hp3 3
  have g4 : w3.cell? ⟨w.heap.size, 4, none⟩ = some (.int .i64 (V 4)) := cell_of_heap hp3 4
  have g5 : w3.cell? ⟨w.heap.size, 5, none⟩ = some (.int .i64 (V 5)) := cell_of_heap hp3 5
  have g6 : w3.cell? ⟨w.heap.size, 6, none⟩ = some (.int .i64 (V 6)) := cell_of_heap hp3 6
  have g7 : w3.cell? ⟨w.heap.size, 7, none⟩ = some (.string tx) := cell_of_heap hp3 7
  have g8 : w3.cell? ⟨w.heap.size, 8, none⟩ = some (.slice none 0 0) := cell_of_heap hp3 8
  have hlt3 := hp3.lt
  have hal3 := (Chg.refl (fun _ => False) w3).alloc (.cells #[.int .i64 pk', .int .i64 (pV 1), .int .i64 (pV 2), .int .i64 (pV 3), .int .i64 (pV 4), .int .i64 (pV 5), .int .i64 (pV 6), .string ptx, .slice A3 pl.length c3] 26)
  have heq := eqBytes_some (w3.alloc (.cells #[.int .i64 pk', .int .i64 (pV 1), .int .i64 (pV 2), .int .i64 (pV 3), .int .i64 (pV 4), .int .i64 (pV 5), .int .i64 (pV 6), .string ptx, .slice A3 pl.length c3] 26)) A2 B b b c2 d (reads_keep HR3.out hal3) (reads_keep HRb.out hal3)
  rw [beq_self_eq_true] at heq
  have HEQ := Lib.hid heq
  have hsame := same_some (w3.alloc (.cells #[.int .i64 pk', .int .i64 (pV 1), .int .i64 (pV 2), .int .i64 (pV 3), .int .i64 (pV 4), .int .i64 (pV 5), .int .i64 (pV 6), .string ptx, .slice A3 pl.length c3] 26)) k V tx none [] 0 pk' pV ptx A3 pl c3 (fun i hi => by simp at hi) (HL3.out.chg hal3) (by simp) (by omega)
  rw [HSM.out] at hsame
  have HSAME := Lib.hid hsame
  have HC4 := Lib.hid (HC3.out.trans hal3)
  clear hC3 ho3 hL3 HPA2 HP2 HC2 HR2 hp3 hal3 heq hsame HSM
  go_wp2_with fail
  refine HEQ.out.mono ?_
  rintro e w4 ⟨rfl, rfl⟩
  go_wp2_with fail
  refine HSAME.out.mono ?_
  rintro e w5 ⟨rfl, hC5⟩
  have HC5 := Lib.hid (HC4.out.trans hC5)
  clear hC5
  go_wp2_with fail
  go_ret
  exact ⟨rfl, HC5.out⟩
end Go.Proofs.YteiedafdakffeaaDoor
