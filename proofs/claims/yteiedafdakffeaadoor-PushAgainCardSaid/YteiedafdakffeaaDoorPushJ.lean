/- push: Check. -/
import Derived.Test.YteiedafdakffeaaDoorPushI
import Derived.StillTailTactics
namespace Go.Proofs.YteiedafdakffeaaDoor
set_option linter.unusedVariables false
set_option linter.unusedSimpArgs false
open Go Go.RowKit
def pushV (k ver fr nd tk hd tl : Int) : Nat → Int
  | 1 => ver
  | 2 => fr
  | 3 => nd
  | 4 => tk
  | 5 => hd
  | 6 => tl
  | _ => k
set_option maxRecDepth 100000 in
theorem index_kinds (k : Int) (h1 : 1 ≤ k) (h5 : k ≤ 5) (W : World) : Sem.run Tryd.prog (Instr.index 42 (.agg #[.int .i64 0, .int .i64 73, .int .i64 187, .int .i64 9, .int .i64 5, .int .i64 5]) (.int .i64 k)) W = .ok (.int .i64 (ownOf k)) W := by
  have hk5 : k = 1 ∨ k = 2 ∨ k = 3 ∨ k = 4 ∨ k = 5 := by omega
  rcases hk5 with rfl | rfl | rfl | rfl | rfl <;> (go_simp; first | rfl | done)
theorem bits64 (k : Int) (h1 : 1 ≤ k) (h5 : k ≤ 5) : (bits .and .i64 (ownOf k) 64 != 0) = (k == 1) := by
  have hk5 : k = 1 ∨ k = 2 ∨ k = 3 ∨ k = 4 ∨ k = 5 := by omega
  rcases hk5 with rfl | rfl | rfl | rfl | rfl <;> rfl
theorem bits128 (k : Int) (h1 : 1 ≤ k) (h5 : k ≤ 5) : (bits .and .i64 (ownOf k) 128 != 0) = (k == 2) := by
  have hk5 : k = 1 ∨ k = 2 ∨ k = 3 ∨ k = 4 ∨ k = 5 := by omega
  rcases hk5 with rfl | rfl | rfl | rfl | rfl <;> rfl
def textsB (b : Bool) (tx : ByteArray) : Bool := (b || tx.toList.isEmpty) && decide (tx.size ≤ 65536)
def listsB (b : Bool) (l : List ByteArray) : Bool := (b || l.isEmpty) && (flat l && (decide (sizes l ≤ 65536) && decide (l.length ≤ 1000)))
def checkE (a b c : Bool) : Int := if a && (b && c) then 0 else 2
set_option maxRecDepth 100000 in
set_option maxHeartbeats 4000000 in
theorem check_any (w : World) (k ver fr nd tk hd tl : Int) (tx : ByteArray) (A : Option Addr) (l : List ByteArray) (cap : Nat) (hl : ∀ o, w.heap.size ≤ o → LinesAt w o A l) (hbig : l.length ≤ 1000000000000) (hs : sizes l ≤ 4611686018427387904) (h1 : 1 ≤ k) (h5 : k ≤ 5) :
    Calls Tryd.prog 24 #[.agg #[.int .i64 k, .int .i64 ver, .int .i64 fr, .int .i64 nd, .int .i64 tk, .int .i64 hd, .int .i64 tl, .string tx, .slice A l.length cap]] w fun e w' => e = .returned (.int .i64 (checkE (allOk (ownOf k) (leastOf k) (fromOf k ver) (pushV k ver fr nd tk hd tl)) (textsB (k == 1) tx) (listsB (k == 2) l))) ∧ Chg (fun _ => False) w w' := by
  have hidx := index_kinds k h1 h5
  have hk := known_some k
  have hkk : (decide (1 ≤ k) && decide (k ≤ 5)) = true := by rw [decide_eq_true h1, decide_eq_true h5]; rfl
  rw [hkk] at hk
  have HK := Lib.hid hk
  clear hk hkk
  go_enter Tryd.func24, Tryd.ntmps24
  go_wp2_with fail
  refine (HK.out _).mono ?_
  rintro e w2 ⟨rfl, rfl⟩
  clear HK
  go_upto_region 3 with fail
  go_cut [3] from 13 to 16 (fun s3 W => ∃ o : Nat, s3 = .pointer (some ⟨o, 0, none⟩) ∧ w.heap.size < o ∧ W.heap[o]? = some (.cells #[.int .i64 (ownOf k)] 3 (0, 0)) ∧ W.heap[w.heap.size]? = some (.cells #[.int .i64 k, .int .i64 ver, .int .i64 fr, .int .i64 nd, .int .i64 tk, .int .i64 hd, .int .i64 tl, .string tx, .slice A l.length cap] 26 (0, 0)) ∧ Chg (fun _ => False) w W)
  case first =>
    have hB := heap_alloc_new w (.cells #[.int .i64 k, .int .i64 ver, .int .i64 fr, .int .i64 nd, .int .i64 tk, .int .i64 hd, .int .i64 tl, .string tx, .slice A l.length cap] 26)
    have hCw := (Chg.refl (fun _ => False) w).alloc (.cells #[.int .i64 k, .int .i64 ver, .int .i64 fr, .int .i64 nd, .int .i64 tk, .int .i64 hd, .int .i64 tl, .string tx, .slice A l.length cap] 26)
    have hsz : (w.alloc (.cells #[.int .i64 k, .int .i64 ver, .int .i64 fr, .int .i64 nd, .int .i64 tk, .int .i64 hd, .int .i64 tl, .string tx, .slice A l.length cap] 26)).heap.size = w.heap.size + 1 := by simp
    generalize w.alloc (.cells #[.int .i64 k, .int .i64 ver, .int .i64 fr, .int .i64 nd, .int .i64 tk, .int .i64 hd, .int .i64 tl, .string tx, .slice A l.length cap] 26) = W1 at *
    have hS : W1.drew.cell? ⟨w.heap.size, 0, none⟩ = some (.int .i64 k) := (cell_of_heap hB 0)
    refine region_lone (fun W' => W'.cell? ⟨w.heap.size, 0, none⟩ = some (.int .i64 k)) [] (by kernel_rfl) ?_
    refine take_one 1 hS rfl (by kernel_rfl) rfl ?_
    apply Exists.intro
    refine And.intro (fun W' hS' => ?y1) (And.intro (fun _ _ _ h => h) ?_)
    case y1 => go_simp; rfl
    refine take_one 2 hS rfl (by kernel_rfl) rfl ?_
    apply Exists.intro
    refine And.intro (fun W' hS' => ?y2) (And.intro (fun _ _ _ h => h) ?_)
    case y2 => go_simp; rfl
    refine one_of_two 0 4 rfl rfl (by kernel_rfl) rfl rfl ?_ ?_
    · go_simp
      refine (kinds_some _).mono ?_
      rintro e w2 ⟨rfl, hC2⟩
      have hS2 := hC2.cell hS (fun h => h)
      refine ⟨hS2, ?_⟩
      unfold kindsV
      refine take_one 3 hS2 rfl (by kernel_rfl) rfl ?_
      apply Exists.intro
      refine And.intro (fun W' hS' => ?y3) (And.intro (fun _ _ _ h => h) ?_)
      case y3 => go_simp; rfl
      go_simp
      refine only_one 4 rfl (by kernel_rfl) rfl ?_
      have hS3 : (w2.alloc (.cells #[.int .i64 0] 3)).cell? ⟨w.heap.size, 0, none⟩ = some (.int .i64 k) := ((Chg.refl (fun _ => False) w2).alloc _).cell hS2 (fun h => h)
      go_simp
      refine only_one 5 rfl (by kernel_rfl) rfl ?_
      go_simp
      refine ⟨((Chg.refl (fun _ => False) w2).alloc _).cell hS2 (fun h => h), ?_⟩
      refine all_done (by kernel_rfl) ?_ _
      go_wp2_with fail
      go_meet
      have hsz2 := hC2.size
      exact ⟨w2.heap.size, rfl, by simp at hsz2; omega, heap_alloc_new _ _, (((Chg.refl (fun _ => False) w2).alloc _).keep (hC2.keep hB (fun h => h)) (fun h => h)), ((hCw.drew).trans hC2).alloc _⟩
    · go_simp
      refine ⟨cell_of_heap hB 0, ?_⟩
      refine only_one 0 rfl (by kernel_rfl) rfl ?_
      go_simp
      refine (kinds_some _).mono ?_
      rintro e w2 ⟨rfl, hC2⟩
      have hB2 := ((Chg.refl (fun _ => False) W1.drew).alloc (.cells #[.int .i64 0] 3)).keep hB (fun h => h)
      have hB3 := hC2.keep hB2 (fun h => h)
      have hN : w2.heap[w.heap.size + 1]? = some (.cells #[.int .i64 0] 3 (0, 0)) := by
        rw [← hsz]
        exact hC2.keep (heap_alloc_new W1.drew (.cells #[.int .i64 0] 3)) (fun h => h)
      have hf := free_of_heap hN 0
      have hcN : w2.cell? ⟨w.heap.size + 1, 0, none⟩ = some (.int .i64 0) := cell_of_heap hN 0
      have hszW := hC2.size
      have hS2 : w2.cell? ⟨w.heap.size, 0, none⟩ = some (.int .i64 k) := cell_of_heap hB3 0
      refine ⟨hS2, ?_⟩
      unfold kindsV
      refine take_one 3 hS2 rfl (by kernel_rfl) rfl ?_
      apply Exists.intro
      refine And.intro (fun W' hS' => ?z3) (And.intro (fun _ _ _ h => h) ?_)
      case z3 => go_simp; rfl
      go_simp
      refine only_one 5 rfl (by kernel_rfl) rfl ?_
      go_simp
      refine all_done (by kernel_rfl) ?_ _
      go_wp2_with fail
      go_meet
      exact ⟨w.heap.size + 1, rfl, by omega, heap_setCell_cells hN 0 _, heap_setCell hB3 (by simp) _, (((hCw.drew).alloc _).trans hC2).setCell (.inr (by simp)) _⟩
  case rest =>
    obtain ⟨o, rfl, hlo, hO, hP, hC⟩ := hcut
    have hfs := fields_some wc w.heap.size k ver fr nd tk hd tl (.string tx) (.slice A l.length cap) hP
    have HO := Lib.hid hO
    have HP := Lib.hid hP
    have HC := Lib.hid hC
    clear hidx hO hP hC
    go_wp2_with fail
    refine hfs.mono ?_
    rintro e w2 ⟨g, rfl, hgs, hg, hC2⟩
    have hO2 := hC2.keep HO.out (fun h => h)
    have hP2 := hC2.keep HP.out (fun h => h)
    have hef := each_fields w2 g w.heap.size o (ownOf k) (leastOf k) (fromOf k ver) (pushV k ver fr nd tk hd tl) (cell_of_heap hO2 0) (fun j j1 j2 => by
      have : j = 1 ∨ j = 2 ∨ j = 3 ∨ j = 4 ∨ j = 5 ∨ j = 6 := by omega
      rcases this with rfl | rfl | rfl | rfl | rfl | rfl <;> exact cell_of_heap hP2 _) hg
    have HO2 := Lib.hid hO2
    have HP2 := Lib.hid hP2
    have HC2 := Lib.hid (HC.out.trans hC2)
    clear hfs hg hO2 hP2 hC2
    go_wp2_with fail
    refine hef.mono ?_
    rintro e w3 ⟨rfl, hC3⟩
    have HO3 := Lib.hid (hC3.keep HO2.out (fun h => h))
    have HP3 := Lib.hid (hC3.keep HP2.out (fun h => h))
    have HC3 := Lib.hid (HC2.out.trans hC3)
    clear hef hC3
    have hz3 := HC3.out.size
    have c7 : w3.cell? ⟨w.heap.size, 7, none⟩ = some (.string tx) := cell_of_heap HP3.out 7
    have c8 : w3.cell? ⟨w.heap.size, 8, none⟩ = some (.slice A l.length cap) := cell_of_heap HP3.out 8
    have q7 := World.block_lt_of_cell? w3 _ c7
    have hel := each_lines (w3.alloc (.cells #[.int .i64 0] 3)) w3.heap.size A l cap (fun i hi => by
      obtain ⟨g2, p, e, h1, h2⟩ := hl w3.heap.size hz3 i hi
      exact ⟨g2, p, e, h1, (HC3.out.alloc _).cell h2 (fun h => h)⟩) hbig hs (heap_alloc_new w3 _)
    have HEL := Lib.hid hel
    clear hel
    go_wp2_with fail
    refine HEL.out.mono ?_
    rintro e w4 ⟨rfl, ⟨m, hm, hms⟩, hC4⟩
    have hO4 := hC4.keep (((Chg.refl (fun _ => False) w3).alloc _).keep HO3.out (fun h => h)) (fun h => by have := lt_of_heap HO3.out; omega)
    have hP4 := hC4.keep (((Chg.refl (fun _ => False) w3).alloc _).keep HP3.out (fun h => h)) (fun h => by have := lt_of_heap HP3.out; omega)
    have o4 : w4.cell? ⟨o, 0, none⟩ = some (.int .i64 (ownOf k)) := cell_of_heap hO4 0
    have p7 : w4.cell? ⟨w.heap.size, 7, none⟩ = some (.string tx) := cell_of_heap hP4 7
    have p8 : w4.cell? ⟨w.heap.size, 8, none⟩ = some (.slice A l.length cap) := cell_of_heap hP4 8
    have m5 : w4.cell? ⟨w3.heap.size, 0, none⟩ = some (.int .i64 m) := cell_of_heap hm 0
    have HCE := Lib.hid ((HC3.out.alloc (.cells #[.int .i64 0] 3)).trans' hC4 (fun i h1 h2 => by have := HC3.out.size; omega))
    have HM := Lib.hid hms
    have b64 := bits64 k h1 h5
    have b128 := bits128 k h1 h5
    have hmb : ∃ M : Int, m = M := ⟨m, rfl⟩
    clear HEL hm hms hC4 hO4 hP4 c7 c8 q7 hz3 HO HP HC HO2 HP2 HC2 HO3 HP3 HC3 h1 h5
    obtain ⟨eok, hE⟩ : ∃ eok, allOk (ownOf k) (leastOf k) (fromOf k ver) (pushV k ver fr nd tk hd tl) = eok := ⟨_, rfl⟩
    try simp only [hE]
    have HE := Lib.hid hE
    clear hE
    obtain ⟨own, hown⟩ : ∃ own, ownOf k = own := ⟨_, rfl⟩
    rw [hown] at o4 b64 b128
    try simp only [hown]
    have HOW := Lib.hid hown
    clear hown
    obtain ⟨fl, hfl⟩ : ∃ fl, flat l = fl := ⟨_, rfl⟩
    rw [hfl] at HM
    try simp only [hfl]
    have HF := Lib.hid hfl
    clear hfl
    go_upto_region 7 with fail
    go_cut [7] from 24 to 37 (fun s7 W => s7 = .bool (textsB (k == 1) tx) ∧ w4 = W)
    case first =>
      cases hB : (k == 1)
      · rw [hB] at b64
        cases hz : tx.toList.isEmpty
        · go_wp2_with fail
          go_meet
          exact ⟨by unfold textsB; rw [hB, hz]; rfl, rfl⟩
        · have hs : tx.size ≤ 65536 := by
            have : tx.toList = [] := by simpa using hz
            rw [ByteArray.toList_eq] at this
            have h2 : tx.data.size = 0 := by rw [← Array.length_toList, this]; rfl
            show tx.data.size ≤ 65536
            omega
          have hs' : (tx.size : Int) ≤ 65536 := by omega
          go_wp2_with fail
          go_meet
          exact ⟨by unfold textsB; rw [hB, hz, decide_eq_true hs]; rfl, rfl⟩
      · rw [hB] at b64
        by_cases hs : tx.size ≤ 65536
        · have hs' : (tx.size : Int) ≤ 65536 := by omega
          go_wp2_with fail
          go_meet
          exact ⟨by unfold textsB; rw [hB, decide_eq_true hs]; rfl, rfl⟩
        · have hs' : ¬ (tx.size : Int) ≤ 65536 := by omega
          go_wp2_with fail
          go_meet
          exact ⟨by unfold textsB; rw [hB, decide_eq_false hs]; rfl, rfl⟩
    case rest =>
      obtain ⟨rfl, rfl⟩ := hcut
      have hl8 : l = [] ∨ 0 < l.length := by cases l <;> simp
      go_upto_region 8 with fail
      go_cut [8] from 38 to 59 (fun s8 W => s8 = .bool (listsB (k == 2) l) ∧ w4 = W)
      case first =>
        cases hB : (k == 2)
        · rw [hB] at b128
          cases l with
          | nil =>
            obtain rfl : fl = true := HF.out.symm.trans rfl
            have hm0 : m = ((0 : Nat) : Int) := HM.out rfl
            subst hm0
            go_wp2_with fail
            go_meet
            exact ⟨by rw [hB]; rfl, rfl⟩
          | cons x t =>
            have hne : (((x :: t).length : Nat) : Int) ≠ 0 := by simp; omega
            go_wp2_with fail
            go_meet
            exact ⟨by rw [hB]; rfl, rfl⟩
        · rw [hB] at b128
          cases fl
          · go_wp2_with fail
            go_meet
            exact ⟨by unfold listsB; rw [hB, HF.out]; rfl, rfl⟩
          · have hm0 := HM.out rfl
            subst hm0
            by_cases hs6 : sizes l ≤ 65536
            · by_cases hs7 : l.length ≤ 1000
              · go_wp2_with fail
                go_meet
                exact ⟨by unfold listsB; rw [hB, HF.out, decide_eq_true hs6, decide_eq_true hs7]; first | rfl | (simp; omega), rfl⟩
              · go_wp2_with fail
                go_meet
                exact ⟨by unfold listsB; rw [hB, HF.out, decide_eq_true hs6, decide_eq_false hs7]; first | rfl | (simp; omega), rfl⟩
            · go_wp2_with fail
              go_meet
              exact ⟨by unfold listsB; rw [hB, HF.out, decide_eq_false hs6]; first | rfl | (simp; omega), rfl⟩
      case rest =>
        obtain ⟨rfl, rfl⟩ := hcut
        generalize hT : textsB (k == 1) tx = tok at *
        generalize hL : listsB (k == 2) l = lok at *
        have HR : Hid (Chg (fun _ => False) w w4) := HCE
        cases eok <;> cases tok <;> cases lok
        all_goals
          go_wp2_with fail
          go_ret
          exact ⟨by rw [HE.out, hT, hL]; rfl, HR.out⟩
end Go.Proofs.YteiedafdakffeaaDoor
