/- push: the document's difference. -/
import Derived.Test.YteiedafdakffeaaDoorPvA
import Derived.Test.YteiedafdakffeaaDoorPuV
namespace Go.Proofs.YteiedafdakffeaaDoor
set_option linter.unusedVariables false
set_option linter.unusedSimpArgs false
open Go Go.RowKit Go.Proofs
open Go.Proofs.YteiedafdakffeaaDoorW.PrintWords (Kd ReadsInt ReadsOf gate_store gate_dst own_move print_mid_of)
theorem own_cap {W : World} {base : Nat} {e : TypeId} {size n c : Nat} {A : Option Addr} {xs : List Value} (h : W.ownsRow base e size (.slice A n c) n xs) : n ≤ c := by
  rcases h.2 with ⟨h1, h2⟩ | ⟨g, cap, cur, h1, _, _, hnc, _⟩
  · cases h1; exact Nat.le_refl _
  · cases h1; exact hnc
theorem own_lns {W : World} {base c : Nat} {A : Option Addr} {l : List ByteArray} (h : W.ownsRow base 9 1 (.slice A l.length c) l.length (l.map Value.string)) : Lns W A l := by
  obtain ⟨A', c', he, hl⟩ := own_lines h
  cases he
  exact hl
theorem own_set {w w' : World} {base n : Nat} {v : Value} {xs : List Value} {P : Nat} {k : Int} {V : Nat → Int} {tx : ByteArray} {s : Value} (h : w.ownsRow base 9 1 v n xs) (hP : PktAt w P k V tx s) (hC : Chg (fun i => i = P) w w') : w'.ownsRow base 9 1 v n xs :=
  own_chg h hC (fun i hi e => own_ne h hP (by decide) (by rw [hi, e]))
theorem mid_row (A : Option Addr) (c : Nat) (a : List ByteArray) (lo hi : Nat) (h1 : lo ≤ hi) (hn : hi ≤ a.length) (hc : a.length ≤ c) :
    ∃ A', (∀ W : World, (Instr.slice 24 (.slice A a.length c) (some (.int .i64 (lo : Int))) (some (.int .i64 (hi : Int))) none).run Tryd.prog W = .ok (.slice A' ((a.take hi).drop lo).length (c - lo)) W) ∧ (∀ w, Lns w A a → a.length ≤ 9223372036854775807 → Lns w A' ((a.take hi).drop lo)) := by
  obtain ⟨i9, hi9, hz90, hz91, hz92⟩ := info_parts info9
  obtain ⟨A', g1, g2, g3⟩ := print_mid_of (P := Tryd.prog) Value.string ByteArray.empty 24 9 .i64 .i64 Tryd.underlying24 hi9 hz91 A c a (lo : Int) (hi : Int) (by omega) (by omega) (by omega) hc
  simp only [Int.toNat_natCast] at g1 g2
  exact ⟨A', g1, fun w h hb => lns_of_reads (g2 w (reads_of_lns h hb))⟩
theorem rlns_any (w : World) (s : ByteArray) : Calls Tryd.prog 49 #[.string s] w fun e w' => ∃ v l x, e = .returned (.tuple #[v, .int .i64 x]) ∧ ((s.size > 65536 ∧ x = 5) ∨ (¬ s.size > 65536 ∧ x = 0 ∧ l = lnsOf s)) ∧ w'.ownsRow w.heap.size 9 1 v l.length (l.map Value.string) ∧ l.length ≤ 65537 ∧ Chg (fun _ => False) w w' := by
  by_cases h : s.size > 65536
  · refine (rlns_long w s h).mono ?_
    rintro e w' ⟨rfl, hC⟩
    exact ⟨.slice none 0 0, [], 5, rfl, .inl ⟨h, rfl⟩, World.ownsRow_nil _ _ _ _, by simp, hC⟩
  · refine (rlns_fits w s h).mono ?_
    rintro e w' ⟨v, rfl, hO, hC⟩
    exact ⟨v, lnsOf s, 0, rfl, .inr ⟨h, rfl, rfl⟩, hO, by have := lnsOf_len s; omega, hC⟩
def RDiffPost (w : World) (p : Pkt) (en : Ending) (w' : World) : Prop :=
  ∃ A c, en = .returned (.tuple #[.agg (pk p.k p.V p.tx (.slice A p.l.length c)), .int .i64 p.e]) ∧ Lns w' A p.l ∧ Chg (fun _ => False) w w'
theorem rdiff_no {w W : World} (P : Nat) (e : Int) (hC : Chg (fun _ => False) w W) (hP : w.heap.size ≤ P) : RDiffPost w (noPkt e) (.returned (.tuple #[.agg zeroPkt, .int .i64 e])) (W.setRow P zeroPkt) :=
  ⟨none, 0, rfl, fun i hi => by simp [noPkt] at hi, ⟨hC.os, hC.tape, hC.output, by rw [size_setRow]; exact hC.size, fun k hk _ => (setRow_other W P k zeroPkt (by omega)).trans (hC.block k hk (fun h => h))⟩⟩
theorem results18 (tmps : Array Value) (w : World) (g : Nat) (cs : Array Value) (fr : Nat × Nat) (e : Int)
    (hp : tmps.getD 4 undef = .pointer (some ⟨g, 0, none⟩)) (he : tmps.getD 5 undef = .int .i64 e) (hg : w.heap[g]? = some (.cells cs 26 fr)) (hs : cs.size = 9) :
    (results Tryd.f18 tmps).run Tryd.prog w = .ok (.tuple #[.agg cs, .int .i64 e]) w := by
  have hp' : tmps[4]?.getD undef = .pointer (some ⟨g, 0, none⟩) := by simpa using hp
  have he' : tmps[5]?.getD undef = .int .i64 e := by simpa using he
  have hi : (Tryd.prog.info? 26).map (·.size) = some cs.size := by rw [hs]; kernel_rfl
  have hr : Tryd.f18.results = #[.cell 4 26, .tmp 5] := rfl
  have hl := run_loadVar_row (P := Tryd.prog) w g 26 26 cs fr _ hg Tryd.underlying26 rfl hi
  simp [results, hr, hp', he', asAddr, hl]
theorem diffV_head (j : Nat) : setV (diffV j 0) 5 ((j : Int) + 1) 1 = diffV (j + 1) 0 1 ∧ setV (diffV j 0) 5 ((j : Int) + 1) 2 = diffV (j + 1) 0 2 ∧ setV (diffV j 0) 5 ((j : Int) + 1) 3 = diffV (j + 1) 0 3 ∧ setV (diffV j 0) 5 ((j : Int) + 1) 4 = diffV (j + 1) 0 4 ∧ setV (diffV j 0) 5 ((j : Int) + 1) 5 = diffV (j + 1) 0 5 ∧ setV (diffV j 0) 5 ((j : Int) + 1) 6 = diffV (j + 1) 0 6 := ⟨rfl, rfl, rfl, rfl, rfl, rfl⟩
theorem diffV_tail (h j : Nat) : setV (diffV h j) 6 ((j : Int) + 1) 1 = diffV h (j + 1) 1 ∧ setV (diffV h j) 6 ((j : Int) + 1) 2 = diffV h (j + 1) 2 ∧ setV (diffV h j) 6 ((j : Int) + 1) 3 = diffV h (j + 1) 3 ∧ setV (diffV h j) 6 ((j : Int) + 1) 4 = diffV h (j + 1) 4 ∧ setV (diffV h j) 6 ((j : Int) + 1) 5 = diffV h (j + 1) 5 ∧ setV (diffV h j) 6 ((j : Int) + 1) 6 = diffV h (j + 1) 6 := ⟨rfl, rfl, rfl, rfl, rfl, rfl⟩
theorem rev_getD (a : List ByteArray) (h j : Nat) (hj : h + j < a.length) : ((a.drop h).reverse).getD j ByteArray.empty = a.getD (a.length - 1 - j) ByteArray.empty := by
  have h1 : j < (a.drop h).length := by rw [List.length_drop]; omega
  simp only [List.getD]
  rw [List.getElem?_reverse h1, List.length_drop, List.getElem?_drop]
  congr 2
  omega
theorem diff_mid (b : List ByteArray) (h t : Nat) (ht : h + t ≤ b.length) : (b.take (b.length - t)).drop h = (((b.drop h).reverse).drop t).reverse := by
  rw [List.drop_reverse, List.reverse_reverse, List.length_drop, List.drop_take]
  congr 1
  omega
set_option maxRecDepth 100000 in
set_option maxHeartbeats 8000000 in
theorem rdiff_some (w : World) (s t : ByteArray) : Calls Tryd.prog 18 #[.string s, .string t] w (RDiffPost w (diffP s t)) := by
  have hal := (Chg.refl (fun _ => False) w).alloc (.cells #[.int .i64 0, .int .i64 0, .int .i64 0, .int .i64 0, .int .i64 0, .int .i64 0, .int .i64 0, .string ByteArray.empty, .slice none 0 0] 26)
  have HR := Lib.hid (show PktAt (w.alloc (.cells #[.int .i64 0, .int .i64 0, .int .i64 0, .int .i64 0, .int .i64 0, .int .i64 0, .int .i64 0, .string ByteArray.empty, .slice none 0 0] 26)) w.heap.size 0 zeroV ByteArray.empty (.slice none 0 0) from heap_new _ _)
  have HAL := Lib.hid hal
  have HLA := Lib.hid (rlns_any (w.alloc (.cells #[.int .i64 0, .int .i64 0, .int .i64 0, .int .i64 0, .int .i64 0, .int .i64 0, .int .i64 0, .string ByteArray.empty, .slice none 0 0] 26)) s)
  clear hal
  obtain ⟨PP, hPP⟩ : ∃ PP, diffP s t = PP := ⟨_, rfl⟩
  rw [hPP]
  have HPP0 := Lib.hid hPP
  clear hPP
  go_enter Tryd.func18, Tryd.ntmps18
  go_wp2_with fail
  refine HLA.out.mono ?_
  rintro e w2 ⟨v2, a, x, rfl, ha, ho2, hla, hC2⟩
  obtain ⟨A2, c2, rfl, _⟩ := own_lines ho2
  have hca := own_cap ho2
  have HA := Lib.hid ha
  have HR2 := Lib.hid (HR.out.keep hC2 (fun h => h))
  have HC2 := Lib.hid (HAL.out.trans hC2)
  have HL2 : Hid (w2.ownsRow w.heap.size 9 1 (.slice A2 a.length c2) a.length (a.map Value.string)) := Lib.hid (own_lower ho2 (by simp))
  clear ha ho2 hC2 HLA HAL HR
  go_wp2_with fail
  refine (rlns_any w2 t).mono ?_
  rintro e w3 ⟨v3, b, y, rfl, hb, ho3, hlb, hC3⟩
  obtain ⟨A3, c3, rfl, _⟩ := own_lines ho3
  have hcb := own_cap ho3
  have HB := Lib.hid hb
  have HR3 := Lib.hid (HR2.out.keep hC3 (fun h => h))
  have HC3 := Lib.hid (HC2.out.trans hC3)
  have HL3 : Hid (w3.ownsRow w.heap.size 9 1 (.slice A3 b.length c3) b.length (b.map Value.string)) := Lib.hid (own_lower ho3 HC2.out.size)
  have HL2 := Lib.hid (own_chg HL2.out hC3 (fun _ _ h => h))
  clear hb ho3 hC3 HR2 HC2
  by_cases hbad : s.size > 65536 ∨ t.size > 65536
  · have HE : Hid (PP = noPkt 5) := Lib.hid (by
      rw [← HPP0.out]
      unfold diffP
      rcases hbad with h | h
      · rw [if_pos h]
      · by_cases h' : s.size > 65536
        · rw [if_pos h']
        · rw [if_neg h', if_pos h])
    have hxy : x = 5 ∨ x = 0 ∧ y = 5 := by
      rcases HA.out with ⟨h1, h2⟩ | ⟨h1, h2, h3⟩
      · exact .inl h2
      · rcases HB.out with ⟨g1, g2⟩ | ⟨g1, _⟩
        · exact .inr ⟨h2, g2⟩
        · exact absurd (hbad.resolve_left h1) g1
    clear hbad HA HB HPP0
    rcases hxy with rfl | ⟨rfl, rfl⟩
    all_goals
      go_wp2_with ((with_reducible refine gate_store (t := 26) (p := 4) (v := .tmp 27) rfl ?_); refine wpList_store_row rfl 26 (.tmp 4) (.tmp 27) rfl w.heap.size zeroPkt rfl rfl 26 _ HR3.out infoP rfl zeroPkt_all ?_)
      go_wp2_with fail
      rw [HE.out]
      exact bodyPost_ret (results18 _ _ w.heap.size zeroPkt (0, 0) 5 rfl rfl (setRow_heap _ _ _ _ _ _ HR3.out) rfl) rfl (rdiff_no w.heap.size 5 HC3.out (Nat.le_refl _))
  · have hs : ¬ s.size > 65536 := fun h => hbad (.inl h)
    have ht : ¬ t.size > 65536 := fun h => hbad (.inr h)
    obtain ⟨_, rfl, ha⟩ := HA.out.resolve_left (fun h => hs h.1)
    obtain ⟨_, rfl, hb⟩ := HB.out.resolve_left (fun h => ht h.1)
    have HPP : Hid (PP = if 1000 < (diffL a b).length then noPkt 5 else ⟨2, diffV (diffH a b) (diffT a b), ByteArray.empty, diffL a b, 0⟩) := Lib.hid (by
      rw [← HPP0.out]
      unfold diffP
      rw [if_neg hs, if_neg ht, ha, hb])
    clear HA HB hs ht hbad ha hb HPP0
    have hal := (Chg.refl (fun _ => False) w3).alloc (.cells #[.int .i64 2, .int .i64 2, .int .i64 1, .int .i64 0, .int .i64 0, .int .i64 0, .int .i64 0, .string ⟨#[]⟩, .slice none 0 0] 26)
    have hp4 : PktAt (w3.alloc (.cells #[.int .i64 2, .int .i64 2, .int .i64 1, .int .i64 0, .int .i64 0, .int .i64 0, .int .i64 0, .string ⟨#[]⟩, .slice none 0 0] 26)) w3.heap.size 2 (diffV 0 0) ByteArray.empty (.slice none 0 0) := heap_new _ _
    have HP4 := Lib.hid hp4
    have HR4 := Lib.hid (HR3.out.keep hal (fun h => h))
    have HLA4 := Lib.hid (own_chg HL2.out hal (fun _ _ h => h))
    have HLB4 := Lib.hid (own_chg HL3.out hal (fun _ _ h => h))
    have HC4 := Lib.hid (HC3.out.trans hal)
    have hsz3 : w.heap.size < w3.heap.size := HR3.out.lt
    clear hal hp4 HR3 HC3 HL2 HL3
    go_upto_block 0 with fail
    generalize w3.alloc (.cells #[.int .i64 2, .int .i64 2, .int .i64 1, .int .i64 0, .int .i64 0, .int .i64 0, .int .i64 0, .string ⟨#[]⟩, .slice none 0 0] 26) = w4 at *
    generalize w3.heap.size = P at *
    obtain ⟨H, hH⟩ : ∃ H, alikeN a b = H := ⟨_, rfl⟩
    have hHle := alikeN_le a b
    rw [hH] at hHle
    have HHD := Lib.hid hH
    clear hH
    go_cut [] from 29 to 57 (fun W => PktAt W P 2 (diffV H 0) ByteArray.empty (.slice none 0 0) ∧ PktAt W w.heap.size 0 zeroV ByteArray.empty (.slice none 0 0) ∧ W.ownsRow w.heap.size 9 1 (.slice A2 a.length c2) a.length (a.map Value.string) ∧ W.ownsRow w.heap.size 9 1 (.slice A3 b.length c3) b.length (b.map Value.string) ∧ Chg (fun _ => False) w W)
    case first =>
      go_wp2_with fail
      go_loopg [] a.length (fun n wr => ∃ j : Nat, j + n = a.length ∧ j ≤ b.length ∧ H = j + alikeN (a.drop j) (b.drop j) ∧ PktAt wr P 2 (diffV j 0) ByteArray.empty (.slice none 0 0) ∧ PktAt wr w.heap.size 0 zeroV ByteArray.empty (.slice none 0 0) ∧ wr.ownsRow w.heap.size 9 1 (.slice A2 a.length c2) a.length (a.map Value.string) ∧ wr.ownsRow w.heap.size 9 1 (.slice A3 b.length c3) b.length (b.map Value.string) ∧ Chg (fun _ => False) w wr)
      case atStart => exact ⟨0, by omega, by omega, by rw [← HHD.out]; simp, HP4.out, HR4.out, HLA4.out, HLB4.out, HC4.out⟩
      case round =>
        obtain ⟨j, hjn, hjb, hHj, hP, hRr, hLa, hLb, hC⟩ := hrel
        have HHJ := Lib.hid hHj
        have HPJ := Lib.hid hP
        have HRJ := Lib.hid hRr
        have HLAJ := Lib.hid hLa
        have HLBJ := Lib.hid hLb
        have HCJ := Lib.hid hC
        have hszJ := hC.size
        have h5 : wr.cell? ⟨P, 5, none⟩ = some (.int .i64 (j : Int)) := cell_of_heap hP 5
        clear hHj hP hRr hLa hLb hC
        have hjla : j ≤ a.length := by omega
        by_cases h1 : j < a.length
        · have d1 : decide (j < a.length) = true := decide_eq_true h1
          have d1' : decide ((j : Int) < (a.length : Int)) = true := decide_eq_true (by omega)
          by_cases h2 : j < b.length
          · have d2 : decide (j < b.length) = true := decide_eq_true h2
            have d2' : decide ((j : Int) < (b.length : Int)) = true := decide_eq_true (by omega)
            obtain ⟨g, p, rfl, hca1⟩ := lns_cells (own_lns HLAJ.out) (by omega)
            obtain ⟨g', p', rfl, hcb1⟩ := lns_cells (own_lns HLBJ.out) (by omega)
            have ca := hca1 j h1
            have cb := hcb1 j h2
            have HST := Lib.hid (alikeN_step a b j h1 h2)
            obtain ⟨x, hx⟩ : ∃ x, a.getD j ByteArray.empty = x := ⟨_, rfl⟩
            obtain ⟨y, hy⟩ : ∃ y, b.getD j ByteArray.empty = y := ⟨_, rfl⟩
            rw [hx] at ca HST
            rw [hy] at cb HST
            have hj0 : (0 : Int) ≤ (j : Int) := by omega
            have hi1 : (j : Int) < (a.length : Int) := by omega
            have hi2 : (j : Int) < (b.length : Int) := by omega
            have hS : wr.drew.cell? ⟨P, 5, none⟩ = some (.int .i64 (j : Int)) ∧ wr.drew.cell? ⟨g, p + j, none⟩ = some (.string x) ∧ wr.drew.cell? ⟨g', p' + j, none⟩ = some (.string y) := ⟨h5, ca, cb⟩
            clear hca1 hcb1 hx hy ca cb
            go_upto_region 6 with fail
            refine region_lone (fun W' => W'.cell? ⟨P, 5, none⟩ = some (.int .i64 (j : Int)) ∧ W'.cell? ⟨g, p + j, none⟩ = some (.string x) ∧ W'.cell? ⟨g', p' + j, none⟩ = some (.string y)) [] (by kernel_rfl) ?_
            refine take_one 0 hS rfl (by kernel_rfl) rfl ?_
            apply Exists.intro
            refine And.intro (fun W' hS' => ?y0) (And.intro (fun _ _ _ h => h) ?_)
            case y0 => obtain ⟨d0, e0, e1⟩ := hS'; go_simp; rfl
            refine take_one 1 hS rfl (by kernel_rfl) rfl ?_
            apply Exists.intro
            refine And.intro (fun W' hS' => ?y1) (And.intro (fun _ _ _ h => h) ?_)
            case y1 => obtain ⟨d0, e0, e1⟩ := hS'; go_simp; rfl
            refine take_one 2 hS rfl (by kernel_rfl) rfl ?_
            apply Exists.intro
            refine And.intro (fun W' hS' => ?y2) (And.intro (fun _ _ _ h => h) ?_)
            case y2 => obtain ⟨d0, e0, e1⟩ := hS'; go_simp; rfl
            refine take_one 3 hS rfl (by kernel_rfl) rfl ?_
            apply Exists.intro
            refine And.intro (fun W' hS' => ?y3) (And.intro (fun _ _ _ h => h) ?_)
            case y3 => obtain ⟨d0, e0, e1⟩ := hS'; go_simp; rfl
            refine take_one 4 hS rfl (by kernel_rfl) rfl ?_
            apply Exists.intro
            refine And.intro (fun W' hS' => ?y4) (And.intro (fun _ _ _ h => h) ?_)
            case y4 => obtain ⟨d0, e0, e1⟩ := hS'; go_simp; rfl
            refine take_one 5 hS rfl (by kernel_rfl) rfl ?_
            apply Exists.intro
            refine And.intro (fun W' hS' => ?y5) (And.intro (fun _ _ _ h => h) ?_)
            case y5 => obtain ⟨d0, e0, e1⟩ := hS'; go_simp; rfl
            try go_simp
            refine take_one 6 hS rfl (by kernel_rfl) (by kernel_rfl) ?_
            apply Exists.intro
            refine And.intro (fun W' hS' => ?y6) (And.intro (fun _ _ _ h => h) ?_)
            case y6 => obtain ⟨d0, e0, e1⟩ := hS'; go_simp; rfl
            refine take_one 7 hS rfl (by kernel_rfl) (by kernel_rfl) ?_
            apply Exists.intro
            refine And.intro (fun W' hS' => ?y7) (And.intro (fun _ _ _ h => h) ?_)
            case y7 => obtain ⟨d0, e0, e1⟩ := hS'; go_simp; rfl
            refine take_one 8 hS rfl (by kernel_rfl) (by kernel_rfl) ?_
            apply Exists.intro
            refine And.intro (fun W' hS' => ?y8) (And.intro (fun _ _ _ h => h) ?_)
            case y8 => obtain ⟨d0, e0, e1⟩ := hS'; go_simp; rfl
            refine take_one 9 hS rfl (by kernel_rfl) (by kernel_rfl) ?_
            apply Exists.intro
            refine And.intro (fun W' hS' => ?y9) (And.intro (fun _ _ _ h => h) ?_)
            case y9 => obtain ⟨d0, e0, e1⟩ := hS'; go_simp; rfl
            refine take_one 10 hS rfl (by kernel_rfl) (by kernel_rfl) ?_
            apply Exists.intro
            refine And.intro (fun W' hS' => ?y10) (And.intro (fun _ _ _ h => h) ?_)
            case y10 => obtain ⟨d0, e0, e1⟩ := hS'; go_simp; rfl
            refine take_one 11 hS rfl (by kernel_rfl) rfl ?_
            apply Exists.intro
            refine And.intro (fun W' hS' => ?y11) (And.intro (fun _ _ _ h => h) ?_)
            case y11 => obtain ⟨d0, e0, e1⟩ := hS'; go_simp; rfl
            refine take_one 12 hS rfl (by kernel_rfl) rfl ?_
            apply Exists.intro
            refine And.intro (fun W' hS' => ?y12) (And.intro (fun _ _ _ h => h) ?_)
            case y12 => obtain ⟨d0, e0, e1⟩ := hS'; go_simp; rfl
            try go_simp
            refine take_one 13 hS rfl (by kernel_rfl) (by kernel_rfl) ?_
            apply Exists.intro
            refine And.intro (fun W' hS' => ?y13) (And.intro (fun _ _ _ h => h) ?_)
            case y13 => obtain ⟨d0, e0, e1⟩ := hS'; go_simp; rfl
            refine take_one 14 hS rfl (by kernel_rfl) (by kernel_rfl) ?_
            apply Exists.intro
            refine And.intro (fun W' hS' => ?y14) (And.intro (fun _ _ _ h => h) ?_)
            case y14 => obtain ⟨d0, e0, e1⟩ := hS'; go_simp; rfl
            refine take_one 15 hS rfl (by kernel_rfl) (by kernel_rfl) ?_
            apply Exists.intro
            refine And.intro (fun W' hS' => ?y15) (And.intro (fun _ _ _ h => h) ?_)
            case y15 => obtain ⟨d0, e0, e1⟩ := hS'; go_simp; rfl
            refine take_one 16 hS rfl (by kernel_rfl) (by kernel_rfl) ?_
            apply Exists.intro
            refine And.intro (fun W' hS' => ?y16) (And.intro (fun _ _ _ h => h) ?_)
            case y16 => obtain ⟨d0, e0, e1⟩ := hS'; go_simp; rfl
            refine take_one 17 hS rfl (by kernel_rfl) (by kernel_rfl) ?_
            apply Exists.intro
            refine And.intro (fun W' hS' => ?y17) (And.intro (fun _ _ _ h => h) ?_)
            case y17 => obtain ⟨d0, e0, e1⟩ := hS'; go_simp; rfl
            refine take_one 18 hS rfl (by kernel_rfl) (by kernel_rfl) ?_
            apply Exists.intro
            refine And.intro (fun W' hS' => ?y18) (And.intro (fun _ _ _ h => h) ?_)
            case y18 => obtain ⟨d0, e0, e1⟩ := hS'; go_simp; rfl
            refine take_one 19 hS rfl (by kernel_rfl) (by kernel_rfl) ?_
            apply Exists.intro
            refine And.intro (fun W' hS' => ?y19) (And.intro (fun _ _ _ h => h) ?_)
            case y19 => obtain ⟨d0, e0, e1⟩ := hS'; go_simp; rfl
            refine take_one 20 hS rfl (by kernel_rfl) (by kernel_rfl) ?_
            apply Exists.intro
            refine And.intro (fun W' hS' => ?y20) (And.intro (fun _ _ _ h => h) ?_)
            case y20 => obtain ⟨d0, e0, e1⟩ := hS'; go_simp; rfl
            try go_simp
            refine take_one 21 hS rfl (by kernel_rfl) (by kernel_rfl) ?_
            apply Exists.intro
            refine And.intro (fun W' hS' => ?y21) (And.intro (fun _ _ _ h => h) ?_)
            case y21 => obtain ⟨d0, e0, e1⟩ := hS'; go_simp; rfl
            refine take_one 22 hS rfl (by kernel_rfl) (by kernel_rfl) ?_
            apply Exists.intro
            refine And.intro (fun W' hS' => ?y22) (And.intro (fun _ _ _ h => h) ?_)
            case y22 => obtain ⟨d0, e0, e1⟩ := hS'; go_simp; rfl
            refine take_one 23 hS rfl (by kernel_rfl) (by kernel_rfl) ?_
            apply Exists.intro
            refine And.intro (fun W' hS' => ?y23) (And.intro (fun _ _ _ h => h) ?_)
            case y23 => obtain ⟨d0, e0, e1⟩ := hS'; go_simp; rfl
            refine take_one 24 hS rfl (by kernel_rfl) rfl ?_
            apply Exists.intro
            refine And.intro (fun W' hS' => ?y24) (And.intro (fun _ _ _ h => h) ?_)
            case y24 => obtain ⟨d0, e0, e1⟩ := hS'; go_simp; rfl
            try go_simp
            refine all_done (by kernel_rfl) ?_ _
            clear hS
            try go_simp
            obtain ⟨q, hq⟩ : ∃ q, (x.toList == y.toList) = q := ⟨_, rfl⟩
            rw [hq]
            have hqx := ba_eq x y
            rw [hq] at hqx
            cases q
            · have hne : x ≠ y := by simpa using hqx
              have HE : Hid (H = j) := Lib.hid (by have := HHJ.out; rw [HST.out, if_neg hne] at this; omega)
              clear hq hqx hne HST
              go_wp2_with fail
              go_meet
              rw [HE.out]
              exact ⟨HPJ.out, HRJ.out, own_chg HLAJ.out (Chg.refl (fun _ => False) wr).drew (fun _ _ h => h), own_chg HLBJ.out (Chg.refl (fun _ => False) wr).drew (fun _ _ h => h), HCJ.out.drew⟩
            · have hxy : x = y := by simpa using hqx
              have HE : Hid (H = (j + 1) + alikeN (a.drop (j + 1)) (b.drop (j + 1))) := Lib.hid (by have := HHJ.out; rw [HST.out, if_pos hxy] at this; omega)
              have hd := (Chg.refl (fun _ => False) wr).drew
              have hPd : PktAt wr.drew P 2 (diffV j 0) ByteArray.empty (.slice none 0 0) := HPJ.out
              have f5 := hPd.free 5
              have h5d : wr.drew.cell? ⟨P, 5, none⟩ = some (.int .i64 (j : Int)) := h5
              have hst := (Chg.refl (fun i => i = P) wr.drew).setCell (p := ⟨P, 5, none⟩) (.inl rfl) (.int .i64 ((j : Int) + 1))
              obtain ⟨e1, e2, e3, e4, e5, e6⟩ := diffV_head j
              have HP9 := Lib.hid (PktAt.ext (V' := diffV (j + 1) 0) (hPd.setN 5 ((j : Int) + 1) (by omega) (by omega)) e1.symm e2.symm e3.symm e4.symm e5.symm e6.symm)
              have HR9 := Lib.hid (PktAt.keep (HRJ.out.keep hd (fun h => h)) hst (fun (h : w.heap.size = P) => by omega))
              have HLA9 := Lib.hid (own_set (own_chg HLAJ.out hd (fun _ _ h => h)) hPd hst)
              have HLB9 := Lib.hid (own_set (own_chg HLBJ.out hd (fun _ _ h => h)) hPd hst)
              have HC9 := Lib.hid ((HCJ.out.trans hd).trans' hst (fun i h1 h2 => by omega))
              clear hq hqx hxy HST e1 e2 e3 e4 e5 e6 hst hPd hd
              go_wp2_with fail
              go_roundg (gk - 1)
              case rel => exact ⟨j + 1, by omega, by omega, HE.out, HP9.out, HR9.out, HLA9.out, HLB9.out, HC9.out⟩
              case measure => omega
          · have d2 : decide (j < b.length) = false := decide_eq_false h2
            have d2' : decide ((j : Int) < (b.length : Int)) = false := decide_eq_false (by omega)
            have HE : Hid (H = j) := Lib.hid (by have := HHJ.out; rw [alikeN_end a b j (.inr (by omega))] at this; omega)
            have hS : wr.drew.cell? ⟨P, 5, none⟩ = some (.int .i64 (j : Int)) := h5
            clear h2
            go_upto_region 6 with fail
            refine region_lone (fun W' => W'.cell? ⟨P, 5, none⟩ = some (.int .i64 (j : Int))) [] (by kernel_rfl) ?_
            refine take_one 0 hS rfl (by kernel_rfl) rfl ?_
            apply Exists.intro
            refine And.intro (fun W' hS' => ?y0) (And.intro (fun _ _ _ h => h) ?_)
            case y0 => have d0 := hS'; go_simp; rfl
            refine take_one 1 hS rfl (by kernel_rfl) rfl ?_
            apply Exists.intro
            refine And.intro (fun W' hS' => ?y1) (And.intro (fun _ _ _ h => h) ?_)
            case y1 => have d0 := hS'; go_simp; rfl
            refine take_one 2 hS rfl (by kernel_rfl) rfl ?_
            apply Exists.intro
            refine And.intro (fun W' hS' => ?y2) (And.intro (fun _ _ _ h => h) ?_)
            case y2 => have d0 := hS'; go_simp; rfl
            refine take_one 3 hS rfl (by kernel_rfl) rfl ?_
            apply Exists.intro
            refine And.intro (fun W' hS' => ?y3) (And.intro (fun _ _ _ h => h) ?_)
            case y3 => have d0 := hS'; go_simp; rfl
            refine take_one 4 hS rfl (by kernel_rfl) rfl ?_
            apply Exists.intro
            refine And.intro (fun W' hS' => ?y4) (And.intro (fun _ _ _ h => h) ?_)
            case y4 => have d0 := hS'; go_simp; rfl
            refine take_one 5 hS rfl (by kernel_rfl) rfl ?_
            apply Exists.intro
            refine And.intro (fun W' hS' => ?y5) (And.intro (fun _ _ _ h => h) ?_)
            case y5 => have d0 := hS'; go_simp; rfl
            try go_simp
            refine take_one 6 hS rfl (by kernel_rfl) (by kernel_rfl) ?_
            apply Exists.intro
            refine And.intro (fun W' hS' => ?y6) (And.intro (fun _ _ _ h => h) ?_)
            case y6 => have d0 := hS'; go_simp; rfl
            refine take_one 7 hS rfl (by kernel_rfl) (by kernel_rfl) ?_
            apply Exists.intro
            refine And.intro (fun W' hS' => ?y7) (And.intro (fun _ _ _ h => h) ?_)
            case y7 => have d0 := hS'; go_simp; rfl
            refine take_one 8 hS rfl (by kernel_rfl) (by kernel_rfl) ?_
            apply Exists.intro
            refine And.intro (fun W' hS' => ?y8) (And.intro (fun _ _ _ h => h) ?_)
            case y8 => have d0 := hS'; go_simp; rfl
            refine take_one 9 hS rfl (by kernel_rfl) (by kernel_rfl) ?_
            apply Exists.intro
            refine And.intro (fun W' hS' => ?y9) (And.intro (fun _ _ _ h => h) ?_)
            case y9 => have d0 := hS'; go_simp; rfl
            refine take_one 10 hS rfl (by kernel_rfl) (by kernel_rfl) ?_
            apply Exists.intro
            refine And.intro (fun W' hS' => ?y10) (And.intro (fun _ _ _ h => h) ?_)
            case y10 => have d0 := hS'; go_simp; rfl
            refine take_one 11 hS rfl (by kernel_rfl) rfl ?_
            apply Exists.intro
            refine And.intro (fun W' hS' => ?y11) (And.intro (fun _ _ _ h => h) ?_)
            case y11 => have d0 := hS'; go_simp; rfl
            refine take_one 12 hS rfl (by kernel_rfl) rfl ?_
            apply Exists.intro
            refine And.intro (fun W' hS' => ?y12) (And.intro (fun _ _ _ h => h) ?_)
            case y12 => have d0 := hS'; go_simp; rfl
            try go_simp
            refine skip_one 13 hS rfl (by kernel_rfl) (by kernel_rfl) (fun _ _ _ h => h) ?_
            refine skip_one 14 hS rfl (by kernel_rfl) (by kernel_rfl) (fun _ _ _ h => h) ?_
            refine skip_one 15 hS rfl (by kernel_rfl) (by kernel_rfl) (fun _ _ _ h => h) ?_
            refine skip_one 16 hS rfl (by kernel_rfl) (by kernel_rfl) (fun _ _ _ h => h) ?_
            refine skip_one 17 hS rfl (by kernel_rfl) (by kernel_rfl) (fun _ _ _ h => h) ?_
            refine skip_one 18 hS rfl (by kernel_rfl) (by kernel_rfl) (fun _ _ _ h => h) ?_
            refine skip_one 19 hS rfl (by kernel_rfl) (by kernel_rfl) (fun _ _ _ h => h) ?_
            refine skip_one 20 hS rfl (by kernel_rfl) (by kernel_rfl) (fun _ _ _ h => h) ?_
            try go_simp
            refine skip_one 21 hS rfl (by kernel_rfl) (by kernel_rfl) (fun _ _ _ h => h) ?_
            refine skip_one 22 hS rfl (by kernel_rfl) (by kernel_rfl) (fun _ _ _ h => h) ?_
            refine skip_one 23 hS rfl (by kernel_rfl) (by kernel_rfl) (fun _ _ _ h => h) ?_
            refine take_one 24 hS rfl (by kernel_rfl) rfl ?_
            apply Exists.intro
            refine And.intro (fun W' hS' => ?y24) (And.intro (fun _ _ _ h => h) ?_)
            case y24 => have d0 := hS'; go_simp; rfl
            try go_simp
            refine all_done (by kernel_rfl) ?_ _
            clear hS
            go_wp2_with fail
            go_meet
            rw [HE.out]
            exact ⟨HPJ.out, HRJ.out, own_chg HLAJ.out (Chg.refl (fun _ => False) wr).drew (fun _ _ h => h), own_chg HLBJ.out (Chg.refl (fun _ => False) wr).drew (fun _ _ h => h), HCJ.out.drew⟩
        · have d1 : decide (j < a.length) = false := decide_eq_false h1
          have d1' : decide ((j : Int) < (a.length : Int)) = false := decide_eq_false (by omega)
          have HE : Hid (H = j) := Lib.hid (by have := HHJ.out; rw [alikeN_end a b j (.inl (by omega))] at this; omega)
          have hS : wr.drew.cell? ⟨P, 5, none⟩ = some (.int .i64 (j : Int)) := h5
          clear h1
          go_upto_region 6 with fail
          refine region_lone (fun W' => W'.cell? ⟨P, 5, none⟩ = some (.int .i64 (j : Int))) [] (by kernel_rfl) ?_
          refine take_one 0 hS rfl (by kernel_rfl) rfl ?_
          apply Exists.intro
          refine And.intro (fun W' hS' => ?y0) (And.intro (fun _ _ _ h => h) ?_)
          case y0 => have d0 := hS'; go_simp; rfl
          refine take_one 1 hS rfl (by kernel_rfl) rfl ?_
          apply Exists.intro
          refine And.intro (fun W' hS' => ?y1) (And.intro (fun _ _ _ h => h) ?_)
          case y1 => have d0 := hS'; go_simp; rfl
          refine take_one 2 hS rfl (by kernel_rfl) rfl ?_
          apply Exists.intro
          refine And.intro (fun W' hS' => ?y2) (And.intro (fun _ _ _ h => h) ?_)
          case y2 => have d0 := hS'; go_simp; rfl
          refine take_one 3 hS rfl (by kernel_rfl) rfl ?_
          apply Exists.intro
          refine And.intro (fun W' hS' => ?y3) (And.intro (fun _ _ _ h => h) ?_)
          case y3 => have d0 := hS'; go_simp; rfl
          refine take_one 4 hS rfl (by kernel_rfl) rfl ?_
          apply Exists.intro
          refine And.intro (fun W' hS' => ?y4) (And.intro (fun _ _ _ h => h) ?_)
          case y4 => have d0 := hS'; go_simp; rfl
          refine take_one 5 hS rfl (by kernel_rfl) rfl ?_
          apply Exists.intro
          refine And.intro (fun W' hS' => ?y5) (And.intro (fun _ _ _ h => h) ?_)
          case y5 => have d0 := hS'; go_simp; rfl
          try go_simp
          refine skip_one 6 hS rfl (by kernel_rfl) (by kernel_rfl) (fun _ _ _ h => h) ?_
          refine skip_one 7 hS rfl (by kernel_rfl) (by kernel_rfl) (fun _ _ _ h => h) ?_
          refine skip_one 8 hS rfl (by kernel_rfl) (by kernel_rfl) (fun _ _ _ h => h) ?_
          refine skip_one 9 hS rfl (by kernel_rfl) (by kernel_rfl) (fun _ _ _ h => h) ?_
          refine skip_one 10 hS rfl (by kernel_rfl) (by kernel_rfl) (fun _ _ _ h => h) ?_
          refine take_one 11 hS rfl (by kernel_rfl) rfl ?_
          apply Exists.intro
          refine And.intro (fun W' hS' => ?y11) (And.intro (fun _ _ _ h => h) ?_)
          case y11 => have d0 := hS'; go_simp; rfl
          refine take_one 12 hS rfl (by kernel_rfl) rfl ?_
          apply Exists.intro
          refine And.intro (fun W' hS' => ?y12) (And.intro (fun _ _ _ h => h) ?_)
          case y12 => have d0 := hS'; go_simp; rfl
          try go_simp
          refine skip_one 13 hS rfl (by kernel_rfl) (by kernel_rfl) (fun _ _ _ h => h) ?_
          refine skip_one 14 hS rfl (by kernel_rfl) (by kernel_rfl) (fun _ _ _ h => h) ?_
          refine skip_one 15 hS rfl (by kernel_rfl) (by kernel_rfl) (fun _ _ _ h => h) ?_
          refine skip_one 16 hS rfl (by kernel_rfl) (by kernel_rfl) (fun _ _ _ h => h) ?_
          refine skip_one 17 hS rfl (by kernel_rfl) (by kernel_rfl) (fun _ _ _ h => h) ?_
          refine skip_one 18 hS rfl (by kernel_rfl) (by kernel_rfl) (fun _ _ _ h => h) ?_
          refine skip_one 19 hS rfl (by kernel_rfl) (by kernel_rfl) (fun _ _ _ h => h) ?_
          refine skip_one 20 hS rfl (by kernel_rfl) (by kernel_rfl) (fun _ _ _ h => h) ?_
          try go_simp
          refine skip_one 21 hS rfl (by kernel_rfl) (by kernel_rfl) (fun _ _ _ h => h) ?_
          refine skip_one 22 hS rfl (by kernel_rfl) (by kernel_rfl) (fun _ _ _ h => h) ?_
          refine skip_one 23 hS rfl (by kernel_rfl) (by kernel_rfl) (fun _ _ _ h => h) ?_
          refine take_one 24 hS rfl (by kernel_rfl) rfl ?_
          apply Exists.intro
          refine And.intro (fun W' hS' => ?y24) (And.intro (fun _ _ _ h => h) ?_)
          case y24 => have d0 := hS'; go_simp; rfl
          try go_simp
          refine all_done (by kernel_rfl) ?_ _
          clear hS
          go_wp2_with fail
          go_meet
          rw [HE.out]
          exact ⟨HPJ.out, HRJ.out, own_chg HLAJ.out (Chg.refl (fun _ => False) wr).drew (fun _ _ h => h), own_chg HLBJ.out (Chg.refl (fun _ => False) wr).drew (fun _ _ h => h), HCJ.out.drew⟩
    case rest =>
      obtain ⟨hP, hRr, hLa, hLb, hC⟩ := hcut
      have HP5 := Lib.hid hP
      have HR5 := Lib.hid hRr
      have HLA5 := Lib.hid hLa
      have HLB5 := Lib.hid hLb
      have HC5 := Lib.hid hC
      clear hP hRr hLa hLb hC HP4 HR4 HLA4 HLB4 HC4
      obtain ⟨T, hT⟩ : ∃ T, alikeN ((a.drop H).reverse) ((b.drop H).reverse) = T := ⟨_, rfl⟩
      have hTle := alikeN_le ((a.drop H).reverse) ((b.drop H).reverse)
      rw [hT] at hTle
      simp only [List.length_reverse, List.length_drop] at hTle
      have HPP2 : Hid (PP = if 1000 < ((b.take (b.length - T)).drop H).length then noPkt 5 else ⟨2, diffV H T, ByteArray.empty, (b.take (b.length - T)).drop H, 0⟩) := Lib.hid (by
        have e1 : diffH a b = H := HHD.out
        have e2 : diffT a b = T := by unfold diffT diffA diffB; rw [HHD.out]; exact hT
        have e3 : diffL a b = (b.take (b.length - T)).drop H := by
          rw [diff_mid b H T (by omega)]
          unfold diffL diffB
          rw [e2, HHD.out]
        rw [HPP.out, e1, e2, e3])
      have HTT := Lib.hid hT
      clear hT HPP
      go_upto_block 2 with fail
      go_cut [] from 58 to 100 (fun W => PktAt W P 2 (diffV H T) ByteArray.empty (.slice none 0 0) ∧ PktAt W w.heap.size 0 zeroV ByteArray.empty (.slice none 0 0) ∧ W.ownsRow w.heap.size 9 1 (.slice A2 a.length c2) a.length (a.map Value.string) ∧ W.ownsRow w.heap.size 9 1 (.slice A3 b.length c3) b.length (b.map Value.string) ∧ Chg (fun _ => False) w W)
      case first =>
        go_wp2_with fail
        go_loopg [] a.length (fun n wr => ∃ j : Nat, j + n = a.length ∧ H + j ≤ a.length ∧ H + j ≤ b.length ∧ T = j + alikeN (((a.drop H).reverse).drop j) (((b.drop H).reverse).drop j) ∧ PktAt wr P 2 (diffV H j) ByteArray.empty (.slice none 0 0) ∧ PktAt wr w.heap.size 0 zeroV ByteArray.empty (.slice none 0 0) ∧ wr.ownsRow w.heap.size 9 1 (.slice A2 a.length c2) a.length (a.map Value.string) ∧ wr.ownsRow w.heap.size 9 1 (.slice A3 b.length c3) b.length (b.map Value.string) ∧ Chg (fun _ => False) w wr)
        case atStart => exact ⟨0, by omega, by omega, by omega, by rw [← HTT.out]; simp, HP5.out, HR5.out, HLA5.out, HLB5.out, HC5.out⟩
        case round =>
          obtain ⟨j, hjn, hja, hjb, hTj, hP, hRr, hLa, hLb, hC⟩ := hrel
          have HTJ := Lib.hid hTj
          have HPJ := Lib.hid hP
          have HRJ := Lib.hid hRr
          have HLAJ := Lib.hid hLa
          have HLBJ := Lib.hid hLb
          have HCJ := Lib.hid hC
          have hszJ := hC.size
          have h5 : wr.cell? ⟨P, 5, none⟩ = some (.int .i64 (H : Int)) := cell_of_heap hP 5
          have h6 : wr.cell? ⟨P, 6, none⟩ = some (.int .i64 (j : Int)) := cell_of_heap hP 6
          clear hTj hP hRr hLa hLb hC
          obtain ⟨u, hu⟩ : ∃ u : Nat, u = H + j := ⟨_, rfl⟩
          have hwu : IntKind.i64.wrap ((H : Int) + (j : Int)) = (u : Int) := by rw [show (H : Int) + (j : Int) = (u : Int) by omega]; exact IntWalk.i64_in _ ⟨by omega, by omega⟩
          have HU := Lib.hid hu
          by_cases h1 : u < a.length
          · have d1 : decide (u < a.length) = true := decide_eq_true h1
            have d1' : decide ((u : Int) < (a.length : Int)) = true := decide_eq_true (by omega)
            by_cases h2 : u < b.length
            · have d2 : decide (u < b.length) = true := decide_eq_true h2
              have d2' : decide ((u : Int) < (b.length : Int)) = true := decide_eq_true (by omega)
              obtain ⟨a1, ha1⟩ : ∃ n : Nat, n = a.length - 1 := ⟨_, rfl⟩
              obtain ⟨b1, hb1⟩ : ∃ n : Nat, n = b.length - 1 := ⟨_, rfl⟩
              obtain ⟨m, hm⟩ : ∃ n : Nat, n = a1 - j := ⟨_, rfl⟩
              obtain ⟨m', hm'⟩ : ∃ n : Nat, n = b1 - j := ⟨_, rfl⟩
              have hw1 : IntKind.i64.wrap ((a.length : Int) - 1) = (a1 : Int) := by rw [show (a.length : Int) - 1 = (a1 : Int) by omega]; exact IntWalk.i64_in _ ⟨by omega, by omega⟩
              have hw2 : IntKind.i64.wrap ((b.length : Int) - 1) = (b1 : Int) := by rw [show (b.length : Int) - 1 = (b1 : Int) by omega]; exact IntWalk.i64_in _ ⟨by omega, by omega⟩
              have hw3 : IntKind.i64.wrap ((a1 : Int) - (j : Int)) = (m : Int) := by rw [show (a1 : Int) - (j : Int) = (m : Int) by omega]; exact IntWalk.i64_in _ ⟨by omega, by omega⟩
              have hw4 : IntKind.i64.wrap ((b1 : Int) - (j : Int)) = (m' : Int) := by rw [show (b1 : Int) - (j : Int) = (m' : Int) by omega]; exact IntWalk.i64_in _ ⟨by omega, by omega⟩
              obtain ⟨g, p, rfl, hca1⟩ := lns_cells (own_lns HLAJ.out) (by omega)
              obtain ⟨g', p', rfl, hcb1⟩ := lns_cells (own_lns HLBJ.out) (by omega)
              have ca := hca1 m (by omega)
              have cb := hcb1 m' (by omega)
              have hst := alikeN_step ((a.drop H).reverse) ((b.drop H).reverse) j (by rw [List.length_reverse, List.length_drop]; omega) (by rw [List.length_reverse, List.length_drop]; omega)
              rw [rev_getD a H j (by omega), rev_getD b H j (by omega), show a.length - 1 - j = m by omega, show b.length - 1 - j = m' by omega] at hst
              obtain ⟨x, hx⟩ : ∃ x, a.getD m ByteArray.empty = x := ⟨_, rfl⟩
              obtain ⟨y, hy⟩ : ∃ y, b.getD m' ByteArray.empty = y := ⟨_, rfl⟩
              rw [hx] at ca hst
              rw [hy] at cb hst
              have HST := Lib.hid hst
              have hj0 : (0 : Int) ≤ (m : Int) := by omega
              have hj1 : (0 : Int) ≤ (m' : Int) := by omega
              have hi1 : (m : Int) < (a.length : Int) := by omega
              have hi2 : (m' : Int) < (b.length : Int) := by omega
              have hS : wr.drew.cell? ⟨P, 5, none⟩ = some (.int .i64 (H : Int)) ∧ wr.drew.cell? ⟨P, 6, none⟩ = some (.int .i64 (j : Int)) ∧ wr.drew.cell? ⟨g, p + m, none⟩ = some (.string x) ∧ wr.drew.cell? ⟨g', p' + m', none⟩ = some (.string y) := ⟨h5, h6, ca, cb⟩
              clear hca1 hcb1 hx hy ca cb hst hu ha1 hb1 hm hm'
              go_upto_region 8 with fail
              refine region_lone (fun W' => W'.cell? ⟨P, 5, none⟩ = some (.int .i64 (H : Int)) ∧ W'.cell? ⟨P, 6, none⟩ = some (.int .i64 (j : Int)) ∧ W'.cell? ⟨g, p + m, none⟩ = some (.string x) ∧ W'.cell? ⟨g', p' + m', none⟩ = some (.string y)) [] (by kernel_rfl) ?_
              refine take_one 0 hS rfl (by kernel_rfl) rfl ?_
              apply Exists.intro
              refine And.intro (fun W' hS' => ?y0) (And.intro (fun _ _ _ h => h) ?_)
              case y0 => obtain ⟨d0, e0, e1, e2⟩ := hS'; go_simp; rfl
              refine take_one 1 hS rfl (by kernel_rfl) rfl ?_
              apply Exists.intro
              refine And.intro (fun W' hS' => ?y1) (And.intro (fun _ _ _ h => h) ?_)
              case y1 => obtain ⟨d0, e0, e1, e2⟩ := hS'; go_simp; rfl
              refine take_one 2 hS rfl (by kernel_rfl) rfl ?_
              apply Exists.intro
              refine And.intro (fun W' hS' => ?y2) (And.intro (fun _ _ _ h => h) ?_)
              case y2 => obtain ⟨d0, e0, e1, e2⟩ := hS'; go_simp; rfl
              refine take_one 3 hS rfl (by kernel_rfl) rfl ?_
              apply Exists.intro
              refine And.intro (fun W' hS' => ?y3) (And.intro (fun _ _ _ h => h) ?_)
              case y3 => obtain ⟨d0, e0, e1, e2⟩ := hS'; go_simp; rfl
              refine take_one 4 hS rfl (by kernel_rfl) rfl ?_
              apply Exists.intro
              refine And.intro (fun W' hS' => ?y4) (And.intro (fun _ _ _ h => h) ?_)
              case y4 => obtain ⟨d0, e0, e1, e2⟩ := hS'; go_simp; rfl
              refine take_one 5 hS rfl (by kernel_rfl) rfl ?_
              apply Exists.intro
              refine And.intro (fun W' hS' => ?y5) (And.intro (fun _ _ _ h => h) ?_)
              case y5 => obtain ⟨d0, e0, e1, e2⟩ := hS'; go_simp; rfl
              refine take_one 6 hS rfl (by kernel_rfl) rfl ?_
              apply Exists.intro
              refine And.intro (fun W' hS' => ?y6) (And.intro (fun _ _ _ h => h) ?_)
              case y6 => obtain ⟨d0, e0, e1, e2⟩ := hS'; go_simp; rfl
              refine take_one 7 hS rfl (by kernel_rfl) rfl ?_
              apply Exists.intro
              refine And.intro (fun W' hS' => ?y7) (And.intro (fun _ _ _ h => h) ?_)
              case y7 => obtain ⟨d0, e0, e1, e2⟩ := hS'; go_simp; rfl
              try go_simp
              refine take_one 8 hS rfl (by kernel_rfl) rfl ?_
              apply Exists.intro
              refine And.intro (fun W' hS' => ?y8) (And.intro (fun _ _ _ h => h) ?_)
              case y8 => obtain ⟨d0, e0, e1, e2⟩ := hS'; go_simp; rfl
              try go_simp
              refine take_one 9 hS rfl (by kernel_rfl) (by kernel_rfl) ?_
              apply Exists.intro
              refine And.intro (fun W' hS' => ?y9) (And.intro (fun _ _ _ h => h) ?_)
              case y9 => obtain ⟨d0, e0, e1, e2⟩ := hS'; go_simp; rfl
              refine take_one 10 hS rfl (by kernel_rfl) (by kernel_rfl) ?_
              apply Exists.intro
              refine And.intro (fun W' hS' => ?y10) (And.intro (fun _ _ _ h => h) ?_)
              case y10 => obtain ⟨d0, e0, e1, e2⟩ := hS'; go_simp; rfl
              refine take_one 11 hS rfl (by kernel_rfl) (by kernel_rfl) ?_
              apply Exists.intro
              refine And.intro (fun W' hS' => ?y11) (And.intro (fun _ _ _ h => h) ?_)
              case y11 => obtain ⟨d0, e0, e1, e2⟩ := hS'; go_simp; rfl
              refine take_one 12 hS rfl (by kernel_rfl) (by kernel_rfl) ?_
              apply Exists.intro
              refine And.intro (fun W' hS' => ?y12) (And.intro (fun _ _ _ h => h) ?_)
              case y12 => obtain ⟨d0, e0, e1, e2⟩ := hS'; go_simp; rfl
              refine take_one 13 hS rfl (by kernel_rfl) (by kernel_rfl) ?_
              apply Exists.intro
              refine And.intro (fun W' hS' => ?y13) (And.intro (fun _ _ _ h => h) ?_)
              case y13 => obtain ⟨d0, e0, e1, e2⟩ := hS'; go_simp; rfl
              refine take_one 14 hS rfl (by kernel_rfl) (by kernel_rfl) ?_
              apply Exists.intro
              refine And.intro (fun W' hS' => ?y14) (And.intro (fun _ _ _ h => h) ?_)
              case y14 => obtain ⟨d0, e0, e1, e2⟩ := hS'; go_simp; rfl
              refine take_one 15 hS rfl (by kernel_rfl) (by kernel_rfl) ?_
              apply Exists.intro
              refine And.intro (fun W' hS' => ?y15) (And.intro (fun _ _ _ h => h) ?_)
              case y15 => obtain ⟨d0, e0, e1, e2⟩ := hS'; go_simp; rfl
              refine take_one 16 hS rfl (by kernel_rfl) (by kernel_rfl) ?_
              apply Exists.intro
              refine And.intro (fun W' hS' => ?y16) (And.intro (fun _ _ _ h => h) ?_)
              case y16 => obtain ⟨d0, e0, e1, e2⟩ := hS'; go_simp; rfl
              try go_simp
              refine take_one 17 hS rfl (by kernel_rfl) rfl ?_
              apply Exists.intro
              refine And.intro (fun W' hS' => ?y17) (And.intro (fun _ _ _ h => h) ?_)
              case y17 => obtain ⟨d0, e0, e1, e2⟩ := hS'; go_simp; rfl
              refine take_one 18 hS rfl (by kernel_rfl) rfl ?_
              apply Exists.intro
              refine And.intro (fun W' hS' => ?y18) (And.intro (fun _ _ _ h => h) ?_)
              case y18 => obtain ⟨d0, e0, e1, e2⟩ := hS'; go_simp; rfl
              try go_simp
              refine take_one 19 hS rfl (by kernel_rfl) (by kernel_rfl) ?_
              apply Exists.intro
              refine And.intro (fun W' hS' => ?y19) (And.intro (fun _ _ _ h => h) ?_)
              case y19 => obtain ⟨d0, e0, e1, e2⟩ := hS'; go_simp; rfl
              refine take_one 20 hS rfl (by kernel_rfl) (by kernel_rfl) ?_
              apply Exists.intro
              refine And.intro (fun W' hS' => ?y20) (And.intro (fun _ _ _ h => h) ?_)
              case y20 => obtain ⟨d0, e0, e1, e2⟩ := hS'; go_simp; rfl
              refine take_one 21 hS rfl (by kernel_rfl) (by kernel_rfl) ?_
              apply Exists.intro
              refine And.intro (fun W' hS' => ?y21) (And.intro (fun _ _ _ h => h) ?_)
              case y21 => obtain ⟨d0, e0, e1, e2⟩ := hS'; go_simp; rfl
              refine take_one 22 hS rfl (by kernel_rfl) (by kernel_rfl) ?_
              apply Exists.intro
              refine And.intro (fun W' hS' => ?y22) (And.intro (fun _ _ _ h => h) ?_)
              case y22 => obtain ⟨d0, e0, e1, e2⟩ := hS'; go_simp; rfl
              refine take_one 23 hS rfl (by kernel_rfl) (by kernel_rfl) ?_
              apply Exists.intro
              refine And.intro (fun W' hS' => ?y23) (And.intro (fun _ _ _ h => h) ?_)
              case y23 => obtain ⟨d0, e0, e1, e2⟩ := hS'; go_simp; rfl
              refine take_one 24 hS rfl (by kernel_rfl) (by kernel_rfl) ?_
              apply Exists.intro
              refine And.intro (fun W' hS' => ?y24) (And.intro (fun _ _ _ h => h) ?_)
              case y24 => obtain ⟨d0, e0, e1, e2⟩ := hS'; go_simp; rfl
              refine take_one 25 hS rfl (by kernel_rfl) (by kernel_rfl) ?_
              apply Exists.intro
              refine And.intro (fun W' hS' => ?y25) (And.intro (fun _ _ _ h => h) ?_)
              case y25 => obtain ⟨d0, e0, e1, e2⟩ := hS'; go_simp; rfl
              refine take_one 26 hS rfl (by kernel_rfl) (by kernel_rfl) ?_
              apply Exists.intro
              refine And.intro (fun W' hS' => ?y26) (And.intro (fun _ _ _ h => h) ?_)
              case y26 => obtain ⟨d0, e0, e1, e2⟩ := hS'; go_simp; rfl
              try go_simp
              refine take_one 27 hS rfl (by kernel_rfl) (by kernel_rfl) ?_
              apply Exists.intro
              refine And.intro (fun W' hS' => ?y27) (And.intro (fun _ _ _ h => h) ?_)
              case y27 => obtain ⟨d0, e0, e1, e2⟩ := hS'; go_simp; rfl
              refine take_one 28 hS rfl (by kernel_rfl) (by kernel_rfl) ?_
              apply Exists.intro
              refine And.intro (fun W' hS' => ?y28) (And.intro (fun _ _ _ h => h) ?_)
              case y28 => obtain ⟨d0, e0, e1, e2⟩ := hS'; go_simp; rfl
              refine take_one 29 hS rfl (by kernel_rfl) (by kernel_rfl) ?_
              apply Exists.intro
              refine And.intro (fun W' hS' => ?y29) (And.intro (fun _ _ _ h => h) ?_)
              case y29 => obtain ⟨d0, e0, e1, e2⟩ := hS'; go_simp; rfl
              refine take_one 30 hS rfl (by kernel_rfl) (by kernel_rfl) ?_
              apply Exists.intro
              refine And.intro (fun W' hS' => ?y30) (And.intro (fun _ _ _ h => h) ?_)
              case y30 => obtain ⟨d0, e0, e1, e2⟩ := hS'; go_simp; rfl
              refine take_one 31 hS rfl (by kernel_rfl) (by kernel_rfl) ?_
              apply Exists.intro
              refine And.intro (fun W' hS' => ?y31) (And.intro (fun _ _ _ h => h) ?_)
              case y31 => obtain ⟨d0, e0, e1, e2⟩ := hS'; go_simp; rfl
              refine take_one 32 hS rfl (by kernel_rfl) (by kernel_rfl) ?_
              apply Exists.intro
              refine And.intro (fun W' hS' => ?y32) (And.intro (fun _ _ _ h => h) ?_)
              case y32 => obtain ⟨d0, e0, e1, e2⟩ := hS'; go_simp; rfl
              refine take_one 33 hS rfl (by kernel_rfl) (by kernel_rfl) ?_
              apply Exists.intro
              refine And.intro (fun W' hS' => ?y33) (And.intro (fun _ _ _ h => h) ?_)
              case y33 => obtain ⟨d0, e0, e1, e2⟩ := hS'; go_simp; rfl
              refine take_one 34 hS rfl (by kernel_rfl) (by kernel_rfl) ?_
              apply Exists.intro
              refine And.intro (fun W' hS' => ?y34) (And.intro (fun _ _ _ h => h) ?_)
              case y34 => obtain ⟨d0, e0, e1, e2⟩ := hS'; go_simp; rfl
              try go_simp
              refine take_one 35 hS rfl (by kernel_rfl) (by kernel_rfl) ?_
              apply Exists.intro
              refine And.intro (fun W' hS' => ?y35) (And.intro (fun _ _ _ h => h) ?_)
              case y35 => obtain ⟨d0, e0, e1, e2⟩ := hS'; go_simp; rfl
              refine take_one 36 hS rfl (by kernel_rfl) (by kernel_rfl) ?_
              apply Exists.intro
              refine And.intro (fun W' hS' => ?y36) (And.intro (fun _ _ _ h => h) ?_)
              case y36 => obtain ⟨d0, e0, e1, e2⟩ := hS'; go_simp; rfl
              refine take_one 37 hS rfl (by kernel_rfl) (by kernel_rfl) ?_
              apply Exists.intro
              refine And.intro (fun W' hS' => ?y37) (And.intro (fun _ _ _ h => h) ?_)
              case y37 => obtain ⟨d0, e0, e1, e2⟩ := hS'; go_simp; rfl
              refine take_one 38 hS rfl (by kernel_rfl) rfl ?_
              apply Exists.intro
              refine And.intro (fun W' hS' => ?y38) (And.intro (fun _ _ _ h => h) ?_)
              case y38 => obtain ⟨d0, e0, e1, e2⟩ := hS'; go_simp; rfl
              try go_simp
              refine all_done (by kernel_rfl) ?_ _
              clear hS hwu hw1 hw2 hw3 hw4
              try go_simp
              obtain ⟨q, hq⟩ : ∃ q, (x.toList == y.toList) = q := ⟨_, rfl⟩
              rw [hq]
              have hqx := ba_eq x y
              rw [hq] at hqx
              cases q
              · have hne : x ≠ y := by simpa using hqx
                have HE : Hid (T = j) := Lib.hid (by have := HTJ.out; rw [HST.out, if_neg hne] at this; omega)
                clear hq hqx hne HST
                go_wp2_with fail
                go_meet
                rw [HE.out]
                exact ⟨HPJ.out, HRJ.out, own_chg HLAJ.out (Chg.refl (fun _ => False) wr).drew (fun _ _ h => h), own_chg HLBJ.out (Chg.refl (fun _ => False) wr).drew (fun _ _ h => h), HCJ.out.drew⟩
              · have hxy : x = y := by simpa using hqx
                have HE : Hid (T = (j + 1) + alikeN (((a.drop H).reverse).drop (j + 1)) (((b.drop H).reverse).drop (j + 1))) := Lib.hid (by have := HTJ.out; rw [HST.out, if_pos hxy] at this; omega)
                have hd := (Chg.refl (fun _ => False) wr).drew
                have hPd : PktAt wr.drew P 2 (diffV H j) ByteArray.empty (.slice none 0 0) := HPJ.out
                have f6 := hPd.free 6
                have h6d : wr.drew.cell? ⟨P, 6, none⟩ = some (.int .i64 (j : Int)) := h6
                have hst := (Chg.refl (fun i => i = P) wr.drew).setCell (p := ⟨P, 6, none⟩) (.inl rfl) (.int .i64 ((j : Int) + 1))
                obtain ⟨e1, e2, e3, e4, e5, e6⟩ := diffV_tail H j
                have HP9 := Lib.hid (PktAt.ext (V' := diffV H (j + 1)) (hPd.setN 6 ((j : Int) + 1) (by omega) (by omega)) e1.symm e2.symm e3.symm e4.symm e5.symm e6.symm)
                have HR9 := Lib.hid (PktAt.keep (HRJ.out.keep hd (fun h => h)) hst (fun (h : w.heap.size = P) => by omega))
                have HLA9 := Lib.hid (own_set (own_chg HLAJ.out hd (fun _ _ h => h)) hPd hst)
                have HLB9 := Lib.hid (own_set (own_chg HLBJ.out hd (fun _ _ h => h)) hPd hst)
                have HC9 := Lib.hid ((HCJ.out.trans hd).trans' hst (fun i h1 h2 => by omega))
                have hua : H + (j + 1) ≤ a.length := by have := HU.out; omega
                have hub : H + (j + 1) ≤ b.length := by have := HU.out; omega
                clear hq hqx hxy HST e1 e2 e3 e4 e5 e6 hst hPd hd
                go_wp2_with fail
                go_roundg (gk - 1)
                case rel => exact ⟨j + 1, by omega, hua, hub, HE.out, HP9.out, HR9.out, HLA9.out, HLB9.out, HC9.out⟩
                case measure => omega
            · have d2 : decide (u < b.length) = false := decide_eq_false h2
              have d2' : decide ((u : Int) < (b.length : Int)) = false := decide_eq_false (by omega)
              have HE : Hid (T = j) := Lib.hid (by have := HTJ.out; rw [alikeN_end _ _ j (.inr (by rw [List.length_reverse, List.length_drop]; omega))] at this; omega)
              have hS : wr.drew.cell? ⟨P, 5, none⟩ = some (.int .i64 (H : Int)) ∧ wr.drew.cell? ⟨P, 6, none⟩ = some (.int .i64 (j : Int)) := ⟨h5, h6⟩
              clear h2 hu
              go_upto_region 8 with fail
              refine region_lone (fun W' => W'.cell? ⟨P, 5, none⟩ = some (.int .i64 (H : Int)) ∧ W'.cell? ⟨P, 6, none⟩ = some (.int .i64 (j : Int))) [] (by kernel_rfl) ?_
              refine take_one 0 hS rfl (by kernel_rfl) rfl ?_
              apply Exists.intro
              refine And.intro (fun W' hS' => ?y0) (And.intro (fun _ _ _ h => h) ?_)
              case y0 => obtain ⟨d0, e0⟩ := hS'; go_simp; rfl
              refine take_one 1 hS rfl (by kernel_rfl) rfl ?_
              apply Exists.intro
              refine And.intro (fun W' hS' => ?y1) (And.intro (fun _ _ _ h => h) ?_)
              case y1 => obtain ⟨d0, e0⟩ := hS'; go_simp; rfl
              refine take_one 2 hS rfl (by kernel_rfl) rfl ?_
              apply Exists.intro
              refine And.intro (fun W' hS' => ?y2) (And.intro (fun _ _ _ h => h) ?_)
              case y2 => obtain ⟨d0, e0⟩ := hS'; go_simp; rfl
              refine take_one 3 hS rfl (by kernel_rfl) rfl ?_
              apply Exists.intro
              refine And.intro (fun W' hS' => ?y3) (And.intro (fun _ _ _ h => h) ?_)
              case y3 => obtain ⟨d0, e0⟩ := hS'; go_simp; rfl
              refine take_one 4 hS rfl (by kernel_rfl) rfl ?_
              apply Exists.intro
              refine And.intro (fun W' hS' => ?y4) (And.intro (fun _ _ _ h => h) ?_)
              case y4 => obtain ⟨d0, e0⟩ := hS'; go_simp; rfl
              refine take_one 5 hS rfl (by kernel_rfl) rfl ?_
              apply Exists.intro
              refine And.intro (fun W' hS' => ?y5) (And.intro (fun _ _ _ h => h) ?_)
              case y5 => obtain ⟨d0, e0⟩ := hS'; go_simp; rfl
              refine take_one 6 hS rfl (by kernel_rfl) rfl ?_
              apply Exists.intro
              refine And.intro (fun W' hS' => ?y6) (And.intro (fun _ _ _ h => h) ?_)
              case y6 => obtain ⟨d0, e0⟩ := hS'; go_simp; rfl
              refine take_one 7 hS rfl (by kernel_rfl) rfl ?_
              apply Exists.intro
              refine And.intro (fun W' hS' => ?y7) (And.intro (fun _ _ _ h => h) ?_)
              case y7 => obtain ⟨d0, e0⟩ := hS'; go_simp; rfl
              try go_simp
              refine take_one 8 hS rfl (by kernel_rfl) rfl ?_
              apply Exists.intro
              refine And.intro (fun W' hS' => ?y8) (And.intro (fun _ _ _ h => h) ?_)
              case y8 => obtain ⟨d0, e0⟩ := hS'; go_simp; rfl
              try go_simp
              refine take_one 9 hS rfl (by kernel_rfl) (by kernel_rfl) ?_
              apply Exists.intro
              refine And.intro (fun W' hS' => ?y9) (And.intro (fun _ _ _ h => h) ?_)
              case y9 => obtain ⟨d0, e0⟩ := hS'; go_simp; rfl
              refine take_one 10 hS rfl (by kernel_rfl) (by kernel_rfl) ?_
              apply Exists.intro
              refine And.intro (fun W' hS' => ?y10) (And.intro (fun _ _ _ h => h) ?_)
              case y10 => obtain ⟨d0, e0⟩ := hS'; go_simp; rfl
              refine take_one 11 hS rfl (by kernel_rfl) (by kernel_rfl) ?_
              apply Exists.intro
              refine And.intro (fun W' hS' => ?y11) (And.intro (fun _ _ _ h => h) ?_)
              case y11 => obtain ⟨d0, e0⟩ := hS'; go_simp; rfl
              refine take_one 12 hS rfl (by kernel_rfl) (by kernel_rfl) ?_
              apply Exists.intro
              refine And.intro (fun W' hS' => ?y12) (And.intro (fun _ _ _ h => h) ?_)
              case y12 => obtain ⟨d0, e0⟩ := hS'; go_simp; rfl
              refine take_one 13 hS rfl (by kernel_rfl) (by kernel_rfl) ?_
              apply Exists.intro
              refine And.intro (fun W' hS' => ?y13) (And.intro (fun _ _ _ h => h) ?_)
              case y13 => obtain ⟨d0, e0⟩ := hS'; go_simp; rfl
              refine take_one 14 hS rfl (by kernel_rfl) (by kernel_rfl) ?_
              apply Exists.intro
              refine And.intro (fun W' hS' => ?y14) (And.intro (fun _ _ _ h => h) ?_)
              case y14 => obtain ⟨d0, e0⟩ := hS'; go_simp; rfl
              refine take_one 15 hS rfl (by kernel_rfl) (by kernel_rfl) ?_
              apply Exists.intro
              refine And.intro (fun W' hS' => ?y15) (And.intro (fun _ _ _ h => h) ?_)
              case y15 => obtain ⟨d0, e0⟩ := hS'; go_simp; rfl
              refine take_one 16 hS rfl (by kernel_rfl) (by kernel_rfl) ?_
              apply Exists.intro
              refine And.intro (fun W' hS' => ?y16) (And.intro (fun _ _ _ h => h) ?_)
              case y16 => obtain ⟨d0, e0⟩ := hS'; go_simp; rfl
              try go_simp
              refine take_one 17 hS rfl (by kernel_rfl) rfl ?_
              apply Exists.intro
              refine And.intro (fun W' hS' => ?y17) (And.intro (fun _ _ _ h => h) ?_)
              case y17 => obtain ⟨d0, e0⟩ := hS'; go_simp; rfl
              refine take_one 18 hS rfl (by kernel_rfl) rfl ?_
              apply Exists.intro
              refine And.intro (fun W' hS' => ?y18) (And.intro (fun _ _ _ h => h) ?_)
              case y18 => obtain ⟨d0, e0⟩ := hS'; go_simp; rfl
              try go_simp
              refine skip_one 19 hS rfl (by kernel_rfl) (by kernel_rfl) (fun _ _ _ h => h) ?_
              refine skip_one 20 hS rfl (by kernel_rfl) (by kernel_rfl) (fun _ _ _ h => h) ?_
              refine skip_one 21 hS rfl (by kernel_rfl) (by kernel_rfl) (fun _ _ _ h => h) ?_
              refine skip_one 22 hS rfl (by kernel_rfl) (by kernel_rfl) (fun _ _ _ h => h) ?_
              refine skip_one 23 hS rfl (by kernel_rfl) (by kernel_rfl) (fun _ _ _ h => h) ?_
              refine skip_one 24 hS rfl (by kernel_rfl) (by kernel_rfl) (fun _ _ _ h => h) ?_
              refine skip_one 25 hS rfl (by kernel_rfl) (by kernel_rfl) (fun _ _ _ h => h) ?_
              refine skip_one 26 hS rfl (by kernel_rfl) (by kernel_rfl) (fun _ _ _ h => h) ?_
              try go_simp
              refine skip_one 27 hS rfl (by kernel_rfl) (by kernel_rfl) (fun _ _ _ h => h) ?_
              refine skip_one 28 hS rfl (by kernel_rfl) (by kernel_rfl) (fun _ _ _ h => h) ?_
              refine skip_one 29 hS rfl (by kernel_rfl) (by kernel_rfl) (fun _ _ _ h => h) ?_
              refine skip_one 30 hS rfl (by kernel_rfl) (by kernel_rfl) (fun _ _ _ h => h) ?_
              refine skip_one 31 hS rfl (by kernel_rfl) (by kernel_rfl) (fun _ _ _ h => h) ?_
              refine skip_one 32 hS rfl (by kernel_rfl) (by kernel_rfl) (fun _ _ _ h => h) ?_
              refine skip_one 33 hS rfl (by kernel_rfl) (by kernel_rfl) (fun _ _ _ h => h) ?_
              refine skip_one 34 hS rfl (by kernel_rfl) (by kernel_rfl) (fun _ _ _ h => h) ?_
              try go_simp
              refine skip_one 35 hS rfl (by kernel_rfl) (by kernel_rfl) (fun _ _ _ h => h) ?_
              refine skip_one 36 hS rfl (by kernel_rfl) (by kernel_rfl) (fun _ _ _ h => h) ?_
              refine skip_one 37 hS rfl (by kernel_rfl) (by kernel_rfl) (fun _ _ _ h => h) ?_
              refine take_one 38 hS rfl (by kernel_rfl) rfl ?_
              apply Exists.intro
              refine And.intro (fun W' hS' => ?y38) (And.intro (fun _ _ _ h => h) ?_)
              case y38 => obtain ⟨d0, e0⟩ := hS'; go_simp; rfl
              try go_simp
              refine all_done (by kernel_rfl) ?_ _
              clear hS hwu
              go_wp2_with fail
              go_meet
              rw [HE.out]
              exact ⟨HPJ.out, HRJ.out, own_chg HLAJ.out (Chg.refl (fun _ => False) wr).drew (fun _ _ h => h), own_chg HLBJ.out (Chg.refl (fun _ => False) wr).drew (fun _ _ h => h), HCJ.out.drew⟩
          · have d1 : decide (u < a.length) = false := decide_eq_false h1
            have d1' : decide ((u : Int) < (a.length : Int)) = false := decide_eq_false (by omega)
            have HE : Hid (T = j) := Lib.hid (by have := HTJ.out; rw [alikeN_end _ _ j (.inl (by rw [List.length_reverse, List.length_drop]; omega))] at this; omega)
            have hS : wr.drew.cell? ⟨P, 5, none⟩ = some (.int .i64 (H : Int)) ∧ wr.drew.cell? ⟨P, 6, none⟩ = some (.int .i64 (j : Int)) := ⟨h5, h6⟩
            clear h1 hu
            go_upto_region 8 with fail
            refine region_lone (fun W' => W'.cell? ⟨P, 5, none⟩ = some (.int .i64 (H : Int)) ∧ W'.cell? ⟨P, 6, none⟩ = some (.int .i64 (j : Int))) [] (by kernel_rfl) ?_
            refine take_one 0 hS rfl (by kernel_rfl) rfl ?_
            apply Exists.intro
            refine And.intro (fun W' hS' => ?y0) (And.intro (fun _ _ _ h => h) ?_)
            case y0 => obtain ⟨d0, e0⟩ := hS'; go_simp; rfl
            refine take_one 1 hS rfl (by kernel_rfl) rfl ?_
            apply Exists.intro
            refine And.intro (fun W' hS' => ?y1) (And.intro (fun _ _ _ h => h) ?_)
            case y1 => obtain ⟨d0, e0⟩ := hS'; go_simp; rfl
            refine take_one 2 hS rfl (by kernel_rfl) rfl ?_
            apply Exists.intro
            refine And.intro (fun W' hS' => ?y2) (And.intro (fun _ _ _ h => h) ?_)
            case y2 => obtain ⟨d0, e0⟩ := hS'; go_simp; rfl
            refine take_one 3 hS rfl (by kernel_rfl) rfl ?_
            apply Exists.intro
            refine And.intro (fun W' hS' => ?y3) (And.intro (fun _ _ _ h => h) ?_)
            case y3 => obtain ⟨d0, e0⟩ := hS'; go_simp; rfl
            refine take_one 4 hS rfl (by kernel_rfl) rfl ?_
            apply Exists.intro
            refine And.intro (fun W' hS' => ?y4) (And.intro (fun _ _ _ h => h) ?_)
            case y4 => obtain ⟨d0, e0⟩ := hS'; go_simp; rfl
            refine take_one 5 hS rfl (by kernel_rfl) rfl ?_
            apply Exists.intro
            refine And.intro (fun W' hS' => ?y5) (And.intro (fun _ _ _ h => h) ?_)
            case y5 => obtain ⟨d0, e0⟩ := hS'; go_simp; rfl
            refine take_one 6 hS rfl (by kernel_rfl) rfl ?_
            apply Exists.intro
            refine And.intro (fun W' hS' => ?y6) (And.intro (fun _ _ _ h => h) ?_)
            case y6 => obtain ⟨d0, e0⟩ := hS'; go_simp; rfl
            refine take_one 7 hS rfl (by kernel_rfl) rfl ?_
            apply Exists.intro
            refine And.intro (fun W' hS' => ?y7) (And.intro (fun _ _ _ h => h) ?_)
            case y7 => obtain ⟨d0, e0⟩ := hS'; go_simp; rfl
            try go_simp
            refine take_one 8 hS rfl (by kernel_rfl) rfl ?_
            apply Exists.intro
            refine And.intro (fun W' hS' => ?y8) (And.intro (fun _ _ _ h => h) ?_)
            case y8 => obtain ⟨d0, e0⟩ := hS'; go_simp; rfl
            try go_simp
            refine skip_one 9 hS rfl (by kernel_rfl) (by kernel_rfl) (fun _ _ _ h => h) ?_
            refine skip_one 10 hS rfl (by kernel_rfl) (by kernel_rfl) (fun _ _ _ h => h) ?_
            refine skip_one 11 hS rfl (by kernel_rfl) (by kernel_rfl) (fun _ _ _ h => h) ?_
            refine skip_one 12 hS rfl (by kernel_rfl) (by kernel_rfl) (fun _ _ _ h => h) ?_
            refine skip_one 13 hS rfl (by kernel_rfl) (by kernel_rfl) (fun _ _ _ h => h) ?_
            refine skip_one 14 hS rfl (by kernel_rfl) (by kernel_rfl) (fun _ _ _ h => h) ?_
            refine skip_one 15 hS rfl (by kernel_rfl) (by kernel_rfl) (fun _ _ _ h => h) ?_
            refine skip_one 16 hS rfl (by kernel_rfl) (by kernel_rfl) (fun _ _ _ h => h) ?_
            try go_simp
            refine take_one 17 hS rfl (by kernel_rfl) rfl ?_
            apply Exists.intro
            refine And.intro (fun W' hS' => ?y17) (And.intro (fun _ _ _ h => h) ?_)
            case y17 => obtain ⟨d0, e0⟩ := hS'; go_simp; rfl
            refine take_one 18 hS rfl (by kernel_rfl) rfl ?_
            apply Exists.intro
            refine And.intro (fun W' hS' => ?y18) (And.intro (fun _ _ _ h => h) ?_)
            case y18 => obtain ⟨d0, e0⟩ := hS'; go_simp; rfl
            try go_simp
            refine skip_one 19 hS rfl (by kernel_rfl) (by kernel_rfl) (fun _ _ _ h => h) ?_
            refine skip_one 20 hS rfl (by kernel_rfl) (by kernel_rfl) (fun _ _ _ h => h) ?_
            refine skip_one 21 hS rfl (by kernel_rfl) (by kernel_rfl) (fun _ _ _ h => h) ?_
            refine skip_one 22 hS rfl (by kernel_rfl) (by kernel_rfl) (fun _ _ _ h => h) ?_
            refine skip_one 23 hS rfl (by kernel_rfl) (by kernel_rfl) (fun _ _ _ h => h) ?_
            refine skip_one 24 hS rfl (by kernel_rfl) (by kernel_rfl) (fun _ _ _ h => h) ?_
            refine skip_one 25 hS rfl (by kernel_rfl) (by kernel_rfl) (fun _ _ _ h => h) ?_
            refine skip_one 26 hS rfl (by kernel_rfl) (by kernel_rfl) (fun _ _ _ h => h) ?_
            try go_simp
            refine skip_one 27 hS rfl (by kernel_rfl) (by kernel_rfl) (fun _ _ _ h => h) ?_
            refine skip_one 28 hS rfl (by kernel_rfl) (by kernel_rfl) (fun _ _ _ h => h) ?_
            refine skip_one 29 hS rfl (by kernel_rfl) (by kernel_rfl) (fun _ _ _ h => h) ?_
            refine skip_one 30 hS rfl (by kernel_rfl) (by kernel_rfl) (fun _ _ _ h => h) ?_
            refine skip_one 31 hS rfl (by kernel_rfl) (by kernel_rfl) (fun _ _ _ h => h) ?_
            refine skip_one 32 hS rfl (by kernel_rfl) (by kernel_rfl) (fun _ _ _ h => h) ?_
            refine skip_one 33 hS rfl (by kernel_rfl) (by kernel_rfl) (fun _ _ _ h => h) ?_
            refine skip_one 34 hS rfl (by kernel_rfl) (by kernel_rfl) (fun _ _ _ h => h) ?_
            try go_simp
            refine skip_one 35 hS rfl (by kernel_rfl) (by kernel_rfl) (fun _ _ _ h => h) ?_
            refine skip_one 36 hS rfl (by kernel_rfl) (by kernel_rfl) (fun _ _ _ h => h) ?_
            refine skip_one 37 hS rfl (by kernel_rfl) (by kernel_rfl) (fun _ _ _ h => h) ?_
            refine take_one 38 hS rfl (by kernel_rfl) rfl ?_
            apply Exists.intro
            refine And.intro (fun W' hS' => ?y38) (And.intro (fun _ _ _ h => h) ?_)
            case y38 => obtain ⟨d0, e0⟩ := hS'; go_simp; rfl
            try go_simp
            refine all_done (by kernel_rfl) ?_ _
            clear hS hwu
            go_wp2_with fail
            go_meet
            rw [HE.out]
            exact ⟨HPJ.out, HRJ.out, own_chg HLAJ.out (Chg.refl (fun _ => False) wr).drew (fun _ _ h => h), own_chg HLBJ.out (Chg.refl (fun _ => False) wr).drew (fun _ _ h => h), HCJ.out.drew⟩
      case rest =>
        obtain ⟨hP, hRr, hLa, hLb, hC⟩ := hcut
        obtain ⟨A6, hcut6, hlm⟩ := mid_row A3 c3 b H (b.length - T) (by omega) (by omega) hcb
        have hl6 := hlm wc (own_lns hLb) (by omega)
        have hll : ((b.take (b.length - T)).drop H).length ≤ b.length := by rw [List.length_drop, List.length_take]; omega
        have hcp := copyT_some wc A6 ((b.take (b.length - T)).drop H) (c3 - H) hl6 (by omega)
        have h5 : wc.cell? ⟨P, 5, none⟩ = some (.int .i64 (H : Int)) := cell_of_heap hP 5
        have h6 : wc.cell? ⟨P, 6, none⟩ = some (.int .i64 (T : Int)) := cell_of_heap hP 6
        have hsub : (b.length : Int) - (T : Int) = ((b.length - T : Nat) : Int) := by omega
        rw [← hsub] at hcut6
        have HP6 := Lib.hid hP
        have HR6 := Lib.hid hRr
        have HC6 := Lib.hid hC
        have hsz6 := hC.size
        have HCP := Lib.hid hcp
        clear hP hRr hLa hLb hC HP5 HR5 HLA5 HLB5 HC5 hlm hl6 hcp hsub
        generalize (b.take (b.length - T)).drop H = L at *
        go_wp2_with fail
        refine HCP.out.mono ?_
        rintro e w7 ⟨v7, rfl, ho7, hC7⟩
        obtain ⟨A7, c7, rfl, _⟩ := own_lines ho7
        have hP7 := HP6.out.keep hC7 (fun h => h)
        have hR7 := HR6.out.keep hC7 (fun h => h)
        have c8 : w7.cell? ⟨P, 8, none⟩ = some (.slice none 0 0) := cell_of_heap hP7 8
        have f8 := hP7.free 8
        have hst := (Chg.refl (fun i => i = P) w7).setCell (p := ⟨P, 8, none⟩) (.inl rfl) (.slice A7 L.length c7)
        have HP8 := Lib.hid (hP7.setL (.slice A7 L.length c7))
        have HR8 := Lib.hid (hR7.keep hst (fun (h : w.heap.size = P) => by omega))
        have HL8 := Lib.hid (own_set ho7 hP7 hst)
        have HC8 := Lib.hid ((HC6.out.trans hC7).trans' hst (fun i h1 h2 => by omega))
        clear ho7 hC7 hP7 hR7 hst HCP HP6 HR6 HC6 h5 h6 hcut6
        go_upto_region 11 with fail
        clear c8 f8
        generalize w7.setCell ⟨P, 8, none⟩ (.slice A7 L.length c7) = w8 at *
        have c8 : w8.cell? ⟨P, 8, none⟩ = some (.slice A7 L.length c7) := cell_of_heap HP8.out 8
        by_cases hbig : 1000 < L.length
        · have hd : decide ((1000 : Int) < (L.length : Int)) = true := decide_eq_true (by omega)
          have HE : Hid (PP = noPkt 5) := Lib.hid (by rw [HPP2.out, if_pos hbig])
          clear HPP2
          go_wp2_with ((with_reducible refine gate_store (t := 26) (p := 4) (v := .tmp 116) rfl ?_); refine wpList_store_row rfl 26 (.tmp 4) (.tmp 116) rfl w.heap.size zeroPkt rfl rfl 26 _ HR8.out infoP rfl zeroPkt_all ?_)
          go_wp2_with fail
          rw [HE.out]
          exact bodyPost_ret (results18 _ _ w.heap.size zeroPkt (0, 0) 5 rfl rfl (setRow_heap _ _ _ _ _ _ HR8.out) rfl) rfl (rdiff_no w.heap.size 5 HC8.out (Nat.le_refl _))
        · have hd : decide ((1000 : Int) < (L.length : Int)) = false := decide_eq_false (by omega)
          have HE : Hid (PP = ⟨2, diffV H T, ByteArray.empty, L, 0⟩) := Lib.hid (by rw [HPP2.out, if_neg hbig])
          clear HPP2
          go_wp2_with (first | ((with_reducible refine gate_dst (N := 117) rfl ?_); refine wpList_load_row rfl 26 (.tmp 10) rfl P rfl 26 _ (0, 0) _ HP8.out Tryd.underlying26 rfl infoP ?_) | ((with_reducible refine gate_store (t := 26) (p := 4) (v := .tmp 117) rfl ?_); refine wpList_store_row rfl 26 (.tmp 4) (.tmp 117) rfl w.heap.size _ rfl rfl 26 _ HR8.out infoP rfl (by simp [Value.oneCell']) ?_))
          go_wp2_with fail
          rw [HE.out]
          refine bodyPost_ret (results18 _ _ w.heap.size _ (0, 0) 0 rfl rfl (setRow_heap _ _ _ _ _ _ HR8.out) rfl) rfl ⟨A7, c7, rfl, own_lns (own_move HL8.out (fun q hq => setRow_other _ _ _ _ (fun e => own_ne HL8.out HR8.out (by decide) (by rw [hq, e])))), ?_⟩
          have h9 := HC8.out
          exact ⟨h9.os, h9.tape, h9.output, by rw [size_setRow]; exact h9.size, fun q hq _ => (setRow_other _ _ _ _ (by omega)).trans (h9.block q hq (fun h => h))⟩
end Go.Proofs.YteiedafdakffeaaDoor
