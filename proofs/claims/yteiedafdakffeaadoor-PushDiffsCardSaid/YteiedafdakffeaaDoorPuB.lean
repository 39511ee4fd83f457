/- push: Check. (And what follows from it: PushJ, PushK, PushL, PushM.) -/
import Derived.Test.YteiedafdakffeaaDoorPuA
import Derived.StillTailTactics
import Derived.Maps.AppendAt
import Derived.Lib.AppendStr
import Derived.IntWalk
import Derived.Test.YteiedafdakffeaaDoorWWords
/- push: Check. -/
namespace Go.Proofs.YteiedafdakffeaaDoor
set_option linter.unusedVariables false
set_option linter.unusedSimpArgs false
open Go Go.RowKit
def pushV (k ver fr nd tk hd tl : Int) : Nat → Int
  | 1 => ver
  | 2 => fr
  | 3 => nd
  | 4 => tk
  | 5 => hd
  | 6 => tl
  | _ => k
set_option maxRecDepth 100000 in
theorem index_kinds (k : Int) (h1 : 1 ≤ k) (h5 : k ≤ 5) (W : World) : Sem.run Tryd.prog (Instr.index 42 (.agg #[.int .i64 0, .int .i64 73, .int .i64 187, .int .i64 9, .int .i64 5, .int .i64 5]) (.int .i64 k)) W = .ok (.int .i64 (ownOf k)) W := by
  have hk5 : k = 1 ∨ k = 2 ∨ k = 3 ∨ k = 4 ∨ k = 5 := by omega
  rcases hk5 with rfl | rfl | rfl | rfl | rfl <;> (go_simp; first | rfl | done)
theorem bits64 (k : Int) (h1 : 1 ≤ k) (h5 : k ≤ 5) : (bits .and .i64 (ownOf k) 64 != 0) = (k == 1) := by
  have hk5 : k = 1 ∨ k = 2 ∨ k = 3 ∨ k = 4 ∨ k = 5 := by omega
  rcases hk5 with rfl | rfl | rfl | rfl | rfl <;> rfl
theorem bits128 (k : Int) (h1 : 1 ≤ k) (h5 : k ≤ 5) : (bits .and .i64 (ownOf k) 128 != 0) = (k == 2) := by
  have hk5 : k = 1 ∨ k = 2 ∨ k = 3 ∨ k = 4 ∨ k = 5 := by omega
  rcases hk5 with rfl | rfl | rfl | rfl | rfl <;> rfl
def textsB (b : Bool) (tx : ByteArray) : Bool := (b || tx.toList.isEmpty) && decide (tx.size ≤ 65536)
def listsB (b : Bool) (l : List ByteArray) : Bool := (b || l.isEmpty) && (flat l && (decide (sizes l ≤ 65536) && decide (l.length ≤ 1000)))
def checkE (a b c : Bool) : Int := if a && (b && c) then 0 else 2
set_option maxRecDepth 100000 in
set_option maxHeartbeats 4000000 in
theorem check_any (w : World) (k ver fr nd tk hd tl : Int) (tx : ByteArray) (A : Option Addr) (l : List ByteArray) (cap : Nat) (hl : ∀ o, w.heap.size ≤ o → LinesAt w o A l) (hbig : l.length ≤ 1000000000000) (hs : sizes l ≤ 4611686018427387904) (h1 : 1 ≤ k) (h5 : k ≤ 5) :
    Calls Tryd.prog 24 #[.agg #[.int .i64 k, .int .i64 ver, .int .i64 fr, .int .i64 nd, .int .i64 tk, .int .i64 hd, .int .i64 tl, .string tx, .slice A l.length cap]] w fun e w' => e = .returned (.int .i64 (checkE (allOk (ownOf k) (leastOf k) (fromOf k ver) (pushV k ver fr nd tk hd tl)) (textsB (k == 1) tx) (listsB (k == 2) l))) ∧ Chg (fun _ => False) w w' := by
  have hidx := index_kinds k h1 h5
  have hk := known_some k
  have hkk : (decide (1 ≤ k) && decide (k ≤ 5)) = true := by rw [decide_eq_true h1, decide_eq_true h5]; rfl
  rw [hkk] at hk
  have HK := Lib.hid hk
  clear hk hkk
  go_enter Tryd.func24, Tryd.ntmps24
  go_wp2_with fail
  refine (HK.out _).mono ?_
  rintro e w2 ⟨rfl, rfl⟩
  clear HK
  go_upto_region 3 with fail
  go_cut [3] from 13 to 16 (fun s3 W => ∃ o : Nat, s3 = .pointer (some ⟨o, 0, none⟩) ∧ w.heap.size < o ∧ W.heap[o]? = some (.cells #[.int .i64 (ownOf k)] 3 (0, 0)) ∧ W.heap[w.heap.size]? = some (.cells #[.int .i64 k, .int .i64 ver, .int .i64 fr, .int .i64 nd, .int .i64 tk, .int .i64 hd, .int .i64 tl, .string tx, .slice A l.length cap] 26 (0, 0)) ∧ Chg (fun _ => False) w W)
  case first =>
    have hB := heap_alloc_new w (.cells #[.int .i64 k, .int .i64 ver, .int .i64 fr, .int .i64 nd, .int .i64 tk, .int .i64 hd, .int .i64 tl, .string tx, .slice A l.length cap] 26)
    have hCw := (Chg.refl (fun _ => False) w).alloc (.cells #[.int .i64 k, .int .i64 ver, .int .i64 fr, .int .i64 nd, .int .i64 tk, .int .i64 hd, .int .i64 tl, .string tx, .slice A l.length cap] 26)
    have hsz : (w.alloc (.cells #[.int .i64 k, .int .i64 ver, .int .i64 fr, .int .i64 nd, .int .i64 tk, .int .i64 hd, .int .i64 tl, .string tx, .slice A l.length cap] 26)).heap.size = w.heap.size + 1 := by simp
    generalize w.alloc (.cells #[.int .i64 k, .int .i64 ver, .int .i64 fr, .int .i64 nd, .int .i64 tk, .int .i64 hd, .int .i64 tl, .string tx, .slice A l.length cap] 26) = W1 at *
    have hS : W1.drew.cell? ⟨w.heap.size, 0, none⟩ = some (.int .i64 k) := (cell_of_heap hB 0)
    refine region_lone (fun W' => W'.cell? ⟨w.heap.size, 0, none⟩ = some (.int .i64 k)) [] (by kernel_rfl) ?_
    refine take_one 1 hS rfl (by kernel_rfl) rfl ?_
    apply Exists.intro
    refine And.intro (fun W' hS' => ?y1) (And.intro (fun _ _ _ h => h) ?_)
    case y1 => go_simp; rfl
    refine take_one 2 hS rfl (by kernel_rfl) rfl ?_
    apply Exists.intro
    refine And.intro (fun W' hS' => ?y2) (And.intro (fun _ _ _ h => h) ?_)
    case y2 => go_simp; rfl
    refine one_of_two 0 4 rfl rfl (by kernel_rfl) rfl rfl ?_ ?_
    · go_simp
      refine (kinds_some _).mono ?_
      rintro e w2 ⟨rfl, hC2⟩
      have hS2 := hC2.cell hS (fun h => h)
      refine ⟨hS2, ?_⟩
      unfold kindsV
      refine take_one 3 hS2 rfl (by kernel_rfl) rfl ?_
      apply Exists.intro
      refine And.intro (fun W' hS' => ?y3) (And.intro (fun _ _ _ h => h) ?_)
      case y3 => go_simp; rfl
      go_simp
      refine only_one 4 rfl (by kernel_rfl) rfl ?_
      have hS3 : (w2.alloc (.cells #[.int .i64 0] 3)).cell? ⟨w.heap.size, 0, none⟩ = some (.int .i64 k) := ((Chg.refl (fun _ => False) w2).alloc _).cell hS2 (fun h => h)
      go_simp
      refine only_one 5 rfl (by kernel_rfl) rfl ?_
      go_simp
      refine ⟨((Chg.refl (fun _ => False) w2).alloc _).cell hS2 (fun h => h), ?_⟩
      refine all_done (by kernel_rfl) ?_ _
      go_wp2_with fail
      go_meet
      have hsz2 := hC2.size
      exact ⟨w2.heap.size, rfl, by simp at hsz2; omega, heap_alloc_new _ _, (((Chg.refl (fun _ => False) w2).alloc _).keep (hC2.keep hB (fun h => h)) (fun h => h)), ((hCw.drew).trans hC2).alloc _⟩
    · go_simp
      refine ⟨cell_of_heap hB 0, ?_⟩
      refine only_one 0 rfl (by kernel_rfl) rfl ?_
      go_simp
      refine (kinds_some _).mono ?_
      rintro e w2 ⟨rfl, hC2⟩
      have hB2 := ((Chg.refl (fun _ => False) W1.drew).alloc (.cells #[.int .i64 0] 3)).keep hB (fun h => h)
      have hB3 := hC2.keep hB2 (fun h => h)
      have hN : w2.heap[w.heap.size + 1]? = some (.cells #[.int .i64 0] 3 (0, 0)) := by
        rw [← hsz]
        exact hC2.keep (heap_alloc_new W1.drew (.cells #[.int .i64 0] 3)) (fun h => h)
      have hf := free_of_heap hN 0
      have hcN : w2.cell? ⟨w.heap.size + 1, 0, none⟩ = some (.int .i64 0) := cell_of_heap hN 0
      have hszW := hC2.size
      have hS2 : w2.cell? ⟨w.heap.size, 0, none⟩ = some (.int .i64 k) := cell_of_heap hB3 0
      refine ⟨hS2, ?_⟩
      unfold kindsV
      refine take_one 3 hS2 rfl (by kernel_rfl) rfl ?_
      apply Exists.intro
      refine And.intro (fun W' hS' => ?z3) (And.intro (fun _ _ _ h => h) ?_)
      case z3 => go_simp; rfl
      go_simp
      refine only_one 5 rfl (by kernel_rfl) rfl ?_
      go_simp
      refine all_done (by kernel_rfl) ?_ _
      go_wp2_with fail
      go_meet
      exact ⟨w.heap.size + 1, rfl, by omega, heap_setCell_cells hN 0 _, heap_setCell hB3 (by simp) _, (((hCw.drew).alloc _).trans hC2).setCell (.inr (by simp)) _⟩
  case rest =>
    obtain ⟨o, rfl, hlo, hO, hP, hC⟩ := hcut
    have hfs := fields_some wc w.heap.size k ver fr nd tk hd tl (.string tx) (.slice A l.length cap) hP
    have HO := Lib.hid hO
    have HP := Lib.hid hP
    have HC := Lib.hid hC
    clear hidx hO hP hC
    go_wp2_with fail
    refine hfs.mono ?_
    rintro e w2 ⟨g, rfl, hgs, hg, hC2⟩
    have hO2 := hC2.keep HO.out (fun h => h)
    have hP2 := hC2.keep HP.out (fun h => h)
    have hef := each_fields w2 g w.heap.size o (ownOf k) (leastOf k) (fromOf k ver) (pushV k ver fr nd tk hd tl) (cell_of_heap hO2 0) (fun j j1 j2 => by
      have : j = 1 ∨ j = 2 ∨ j = 3 ∨ j = 4 ∨ j = 5 ∨ j = 6 := by omega
      rcases this with rfl | rfl | rfl | rfl | rfl | rfl <;> exact cell_of_heap hP2 _) hg
    have HO2 := Lib.hid hO2
    have HP2 := Lib.hid hP2
    have HC2 := Lib.hid (HC.out.trans hC2)
    clear hfs hg hO2 hP2 hC2
    go_wp2_with fail
    refine hef.mono ?_
    rintro e w3 ⟨rfl, hC3⟩
    have HO3 := Lib.hid (hC3.keep HO2.out (fun h => h))
    have HP3 := Lib.hid (hC3.keep HP2.out (fun h => h))
    have HC3 := Lib.hid (HC2.out.trans hC3)
    clear hef hC3
    have hz3 := HC3.out.size
    have c7 : w3.cell? ⟨w.heap.size, 7, none⟩ = some (.string tx) := cell_of_heap HP3.out 7
    have c8 : w3.cell? ⟨w.heap.size, 8, none⟩ = some (.slice A l.length cap) := cell_of_heap HP3.out 8
    have q7 := World.block_lt_of_cell? w3 _ c7
    have hel := each_lines (w3.alloc (.cells #[.int .i64 0] 3)) w3.heap.size A l cap (fun i hi => by
      obtain ⟨g2, p, e, h1, h2⟩ := hl w3.heap.size hz3 i hi
      exact ⟨g2, p, e, h1, (HC3.out.alloc _).cell h2 (fun h => h)⟩) hbig hs (heap_alloc_new w3 _)
    have HEL := Lib.hid hel
    clear hel
    go_wp2_with fail
    refine HEL.out.mono ?_
    rintro e w4 ⟨rfl, ⟨m, hm, hms⟩, hC4⟩
    have hO4 := hC4.keep (((Chg.refl (fun _ => False) w3).alloc _).keep HO3.out (fun h => h)) (fun h => by have := lt_of_heap HO3.out; omega)
    have hP4 := hC4.keep (((Chg.refl (fun _ => False) w3).alloc _).keep HP3.out (fun h => h)) (fun h => by have := lt_of_heap HP3.out; omega)
    have o4 : w4.cell? ⟨o, 0, none⟩ = some (.int .i64 (ownOf k)) := cell_of_heap hO4 0
    have p7 : w4.cell? ⟨w.heap.size, 7, none⟩ = some (.string tx) := cell_of_heap hP4 7
    have p8 : w4.cell? ⟨w.heap.size, 8, none⟩ = some (.slice A l.length cap) := cell_of_heap hP4 8
    have m5 : w4.cell? ⟨w3.heap.size, 0, none⟩ = some (.int .i64 m) := cell_of_heap hm 0
    have HCE := Lib.hid ((HC3.out.alloc (.cells #[.int .i64 0] 3)).trans' hC4 (fun i h1 h2 => by have := HC3.out.size; omega))
    have HM := Lib.hid hms
    have b64 := bits64 k h1 h5
    have b128 := bits128 k h1 h5
    have hmb : ∃ M : Int, m = M := ⟨m, rfl⟩
    clear HEL hm hms hC4 hO4 hP4 c7 c8 q7 hz3 HO HP HC HO2 HP2 HC2 HO3 HP3 HC3 h1 h5
    obtain ⟨eok, hE⟩ : ∃ eok, allOk (ownOf k) (leastOf k) (fromOf k ver) (pushV k ver fr nd tk hd tl) = eok := ⟨_, rfl⟩
    try simp only [hE]
    have HE := Lib.hid hE
    clear hE
    obtain ⟨own, hown⟩ : ∃ own, ownOf k = own := ⟨_, rfl⟩
    rw [hown] at o4 b64 b128
    try simp only [hown]
    have HOW := Lib.hid hown
    clear hown
    obtain ⟨fl, hfl⟩ : ∃ fl, flat l = fl := ⟨_, rfl⟩
    rw [hfl] at HM
    try simp only [hfl]
    have HF := Lib.hid hfl
    clear hfl
    go_upto_region 7 with fail
    go_cut [7] from 24 to 37 (fun s7 W => s7 = .bool (textsB (k == 1) tx) ∧ w4 = W)
    case first =>
      cases hB : (k == 1)
      · rw [hB] at b64
        cases hz : tx.toList.isEmpty
        · go_wp2_with fail
          go_meet
          exact ⟨by unfold textsB; rw [hB, hz]; rfl, rfl⟩
        · have hs : tx.size ≤ 65536 := by
            have : tx.toList = [] := by simpa using hz
            rw [ByteArray.toList_eq] at this
            have h2 : tx.data.size = 0 := by rw [← Array.length_toList, this]; rfl
            show tx.data.size ≤ 65536
            omega
          have hs' : (tx.size : Int) ≤ 65536 := by omega
          go_wp2_with fail
          go_meet
          exact ⟨by unfold textsB; rw [hB, hz, decide_eq_true hs]; rfl, rfl⟩
      · rw [hB] at b64
        by_cases hs : tx.size ≤ 65536
        · have hs' : (tx.size : Int) ≤ 65536 := by omega
          go_wp2_with fail
          go_meet
          exact ⟨by unfold textsB; rw [hB, decide_eq_true hs]; rfl, rfl⟩
        · have hs' : ¬ (tx.size : Int) ≤ 65536 := by omega
          go_wp2_with fail
          go_meet
          exact ⟨by unfold textsB; rw [hB, decide_eq_false hs]; rfl, rfl⟩
    case rest =>
      obtain ⟨rfl, rfl⟩ := hcut
      have hl8 : l = [] ∨ 0 < l.length := by cases l <;> simp
      go_upto_region 8 with fail
      go_cut [8] from 38 to 59 (fun s8 W => s8 = .bool (listsB (k == 2) l) ∧ w4 = W)
      case first =>
        cases hB : (k == 2)
        · rw [hB] at b128
          cases l with
          | nil =>
            obtain rfl : fl = true := HF.out.symm.trans rfl
            have hm0 : m = ((0 : Nat) : Int) := HM.out rfl
            subst hm0
            go_wp2_with fail
            go_meet
            exact ⟨by rw [hB]; rfl, rfl⟩
          | cons x t =>
            have hne : (((x :: t).length : Nat) : Int) ≠ 0 := by simp; omega
            go_wp2_with fail
            go_meet
            exact ⟨by rw [hB]; rfl, rfl⟩
        · rw [hB] at b128
          cases fl
          · go_wp2_with fail
            go_meet
            exact ⟨by unfold listsB; rw [hB, HF.out]; rfl, rfl⟩
          · have hm0 := HM.out rfl
            subst hm0
            by_cases hs6 : sizes l ≤ 65536
            · by_cases hs7 : l.length ≤ 1000
              · go_wp2_with fail
                go_meet
                exact ⟨by unfold listsB; rw [hB, HF.out, decide_eq_true hs6, decide_eq_true hs7]; first | rfl | (simp; omega), rfl⟩
              · go_wp2_with fail
                go_meet
                exact ⟨by unfold listsB; rw [hB, HF.out, decide_eq_true hs6, decide_eq_false hs7]; first | rfl | (simp; omega), rfl⟩
            · go_wp2_with fail
              go_meet
              exact ⟨by unfold listsB; rw [hB, HF.out, decide_eq_false hs6]; first | rfl | (simp; omega), rfl⟩
      case rest =>
        obtain ⟨rfl, rfl⟩ := hcut
        generalize hT : textsB (k == 1) tx = tok at *
        generalize hL : listsB (k == 2) l = lok at *
        have HR : Hid (Chg (fun _ => False) w w4) := HCE
        cases eok <;> cases tok <;> cases lok
        all_goals
          go_wp2_with fail
          go_ret
          exact ⟨by rw [HE.out, hT, hL]; rfl, HR.out⟩
end Go.Proofs.YteiedafdakffeaaDoor

/- push: Check at unknown kinds; what an append to a row of bytes keeps; row. -/
namespace Go.Proofs.YteiedafdakffeaaDoor
set_option linter.unusedVariables false
set_option linter.unusedSimpArgs false
open Go Go.RowKit
set_option maxRecDepth 100000 in
set_option maxHeartbeats 4000000 in
theorem check_un (w : World) (k ver fr nd tk hd tl : Int) (tx : ByteArray) (s : Value) (h : ¬ (1 ≤ k ∧ k ≤ 5)) :
    Calls Tryd.prog 24 #[.agg #[.int .i64 k, .int .i64 ver, .int .i64 fr, .int .i64 nd, .int .i64 tk, .int .i64 hd, .int .i64 tl, .string tx, s]] w fun e w' => e = .returned (.int .i64 2) ∧ Chg (fun _ => False) w w' := by
  have hk := known_some k
  have hkk : (decide (1 ≤ k) && decide (k ≤ 5)) = false := by
    by_cases h1 : 1 ≤ k
    · rw [decide_eq_true h1, decide_eq_false (by omega)]; rfl
    · rw [decide_eq_false h1]; rfl
  rw [hkk] at hk
  have HK := Lib.hid hk
  clear hk hkk h
  go_enter Tryd.func24, Tryd.ntmps24
  go_wp2_with fail
  refine (HK.out _).mono ?_
  rintro e w2 ⟨rfl, rfl⟩
  clear HK
  go_wp2_with fail
  go_ret
  exact ⟨rfl, (Chg.refl _ _).alloc _⟩
/-- what appends to rows of bytes keep: blocks below base, and those of other types -/
structure Grow (base : Nat) (w w' : World) : Prop where
  chg : Chg (fun k => base ≤ k) w w'
  keep : ∀ (k : Nat) (c : Array Value) (t : TypeId) (f : Nat × Nat), t ≠ 5 → w.heap[k]? = some (Obj.cells c t f) → w'.heap[k]? = some (Obj.cells c t f)
theorem Grow.refl (base : Nat) (w : World) : Grow base w w := ⟨Chg.refl _ _, fun _ _ _ _ _ h => h⟩
theorem Grow.trans {base : Nat} {a b c : World} (h : Grow base a b) (k : Grow base b c) : Grow base a c := ⟨h.chg.trans k.chg, fun i x t f ht hh => k.keep i x t f ht (h.keep i x t f ht hh)⟩
theorem Grow.alloc {base : Nat} {a w : World} (h : Grow base a w) (o : Obj) : Grow base a (w.alloc o) := ⟨h.chg.alloc o, fun k c t f ht hh => heap_alloc (h.keep k c t f ht hh)⟩
theorem Grow.drew {base : Nat} {a w : World} (h : Grow base a w) : Grow base a w.drew := ⟨h.chg.drew, fun k c t f ht hh => h.keep k c t f ht hh⟩
theorem Grow.grown {base : Nat} {a w w' : World} {v : Value} {n : Nat} {xs : List Value} (h : Grow base a w) (ho : w.ownsRow base 5 1 v n xs) (hg : w.grownBy w' v.ownBlock) : Grow base a w' :=
  ⟨h.chg.grown hg (fun k hk => .inl (own_block ho hk)), fun k c t f ht hh => grown_keep hg (h.keep k c t f ht hh) (own_ne ho (h.keep k c t f ht hh) ht)⟩
theorem Grow.cell {base : Nat} {a w : World} (h : Grow base a w) {g i : Nat} {c : Array Value} {t : TypeId} {f : Nat × Nat} (ht : t ≠ 5) (hh : a.heap[g]? = some (.cells c t f)) : w.cell? ⟨g, i, none⟩ = c[i]? := cell_of_heap (h.keep g c t f ht hh) i
def u8s (xs : List Int) : List Value := xs.map (Value.int .u8)
theorem u8s_append (a b : List Int) : u8s (a ++ b) = u8s a ++ u8s b := by simp [u8s]
/-- byte i of size of a number -/
def byteAt (n : Int) (c : Nat) : Int := n / 2 ^ (8 * c) % 256
def rowB (n : Int) (size : Nat) : List Int := (List.range size).map fun i => byteAt n (size - 1 - i)
theorem rowB_take (n : Int) (size k : Nat) (h : k < size) : (rowB n size).take (k + 1) = (rowB n size).take k ++ [byteAt n (size - 1 - k)] := by
  have hl : k < (rowB n size).length := by simp [rowB, h]
  rw [List.take_add_one, List.getElem?_eq_getElem hl]
  simp [rowB]
theorem rowB_length (n : Int) (size : Nat) : (rowB n size).length = size := by simp [rowB]
theorem info5 : (Tryd.prog.info? 5).map (fun i => (i.zero, i.size, i.bytes)) = some (some (.int .u8 0), 1, 1) := by kernel_rfl
set_option maxRecDepth 100000 in
set_option maxHeartbeats 4000000 in
theorem row_some (w : World) (base : Nat) (v : Value) (xs : List Int) (n : Int) (size : Nat) (hown : w.ownsRow base 5 1 v xs.length (u8s xs)) (hb : base ≤ w.heap.size) (hs7 : size ≤ 7) (hbig : xs.length + size ≤ 140737488355328) :
    Calls Tryd.prog 58 #[v, .int .i64 n, .int .i64 size] w fun e w' => ∃ v', e = .returned v' ∧ w'.ownsRow base 5 1 v' (xs ++ rowB n size).length (u8s (xs ++ rowB n size)) ∧ Grow base w w' := by
  obtain ⟨i0, hi, hz0, hz1, hz2⟩ := info_parts info5
  have HO := Lib.hid hown
  clear hown
  go_enter Tryd.func58, Tryd.ntmps58
  go_wp2_with fail
  go_loopw [0, 7, 9] (fun s0 s7 i wr => ∃ k : Nat, k ≤ size ∧ i = .int .i64 k ∧ wr.ownsRow base 5 1 s0 (xs ++ (rowB n size).take k).length (u8s (xs ++ (rowB n size).take k)) ∧ Grow base w wr) (fun _ _ i _ => size - (intOf i).toNat)
  case atStart => exact ⟨0, by omega, rfl, by simpa using HO.out, Grow.refl _ _⟩
  case round =>
    obtain ⟨k, hk, rfl, ho, hG⟩ := hrel
    have hlen : ((rowB n size).take k).length = k := by rw [List.length_take, rowB_length]; omega
    by_cases hlt : k < size
    · have hsz := hG.chg.size
      go_wp2_with (at_builtin; refine wpList_append_own_at _ rfl _ _ 22 rfl base 5 i0 (.int .u8 0) 1 1 Tryd.underlying22 hi hz0 hz1 hz2 rfl (by decide) _ _ _ rfl (ho.alloc _) ⟨wr.heap.size, 0, none⟩ 1 1 [.int .u8 (byteAt n (size - 1 - k))] rfl rfl ?c1 ?c2 ?c3 ?c4 ?c5 ?_)
      case c1 => exact cell_one_new _ _ _
      case c2 => simp [Value.oneCell']
      case c3 => unfold maxLen; rw [List.length_append, hlen]; omega
      case c4 => rw [List.length_append, hlen]; omega
      case c5 => simp; omega
      intro v' w1 hown' hgrow _ hat
      have hG1 : Grow base w w1 := (hG.alloc _).grown (ho.alloc _) hgrow
      have HR : Hid (w1.ownsRow base 5 1 v' (xs ++ (rowB n size).take (k + 1)).length (u8s (xs ++ (rowB n size).take (k + 1)))) := Lib.hid (by
        have e := rowB_take n size k hlt
        rw [e, ← List.append_assoc, u8s_append]
        simp only [List.length_append, hlen, List.length_singleton]
        exact hown')
      have HG := Lib.hid hG1
      clear hG hG1 hgrow hown' ho hat
      go_wp2
      go_roundw
      case rel => exact ⟨k + 1, by omega, by go_num, HR.out, HG.out⟩
      case measure => simp [intOf] <;> omega
    · obtain rfl : k = size := by omega
      have hr := rowB_length n k
      have HR : Hid (wr.ownsRow base 5 1 u0 (xs ++ rowB n k).length (u8s (xs ++ rowB n k))) := Lib.hid (by
        have e : (rowB n k).take k = rowB n k := List.take_of_length_le (by omega)
        rw [e] at ho
        exact ho)
      have HG := Lib.hid hG
      clear hG ho hlen hr
      go_wp2
      go_ret
      exact ⟨_, rfl, HR.out, HG.out⟩
end Go.Proofs.YteiedafdakffeaaDoor

/- push: Check at all packets; lines as they lie; an append of a text, as one operation. -/
namespace Go.Proofs.YteiedafdakffeaaDoor
set_option linter.unusedVariables false
set_option linter.unusedSimpArgs false
open Go Go.RowKit
open Go.Proofs.YteiedafdakffeaaDoorW.PrintWords (Kd bytesOf bytesOf_length)
/-- lines as they lie -/
def Lns (w : World) (A : Option Addr) (l : List ByteArray) : Prop := ∀ i, i < l.length → ∃ g p, A = some ⟨g, p, none⟩ ∧ w.cell? ⟨g, p + i, none⟩ = some (.string (l.getD i ByteArray.empty))
theorem Lns.at {w : World} {A : Option Addr} {l : List ByteArray} (h : Lns w A l) (o : Nat) (ho : w.heap.size ≤ o) : LinesAt w o A l := fun i hi => by
  obtain ⟨g, p, e, hc⟩ := h i hi
  have := World.block_lt_of_cell? w _ hc
  exact ⟨g, p, e, by simp at this; omega, hc⟩
theorem Lns.chg {w w' : World} {A : Option Addr} {l : List ByteArray} (h : Lns w A l) (hC : Chg (fun _ => False) w w') : Lns w' A l := fun i hi => by
  obtain ⟨g, p, e, hc⟩ := h i hi
  exact ⟨g, p, e, hC.cell hc (fun h => h)⟩
theorem Lns.low {w w' : World} {A : Option Addr} {l : List ByteArray} {base : Nat} (h : Lns w A l) (hb : w.heap.size ≤ base) (hC : Chg (fun k => base ≤ k) w w') : Lns w' A l := fun i hi => by
  obtain ⟨g, p, e, hc⟩ := h i hi
  have := World.block_lt_of_cell? w _ hc
  exact ⟨g, p, e, hC.cell hc (fun h => by simp at this h; omega)⟩
theorem C_cells {w : World} {A : Option Addr} {n : Nat} {xs : List ByteArray} (h : Kd.C Kd.string w A n xs) (h0 : 0 < n) : ∃ b o, A = some ⟨b, o, none⟩ ∧ b < w.heap.size ∧ ∀ j x, xs[j]? = some x → w.cell? ⟨b, o + j, none⟩ = some (.string x) := by
  obtain ⟨hl, _, hc⟩ := h
  obtain ⟨⟨b, o, s⟩, rfl, hcells⟩ := hc h0
  have hx : xs[0]? = some xs[0] := List.getElem?_eq_getElem (by omega)
  obtain ⟨c, hc1, hc2, hc3⟩ := hcells 0 _ hx
  have hc2' : c = [Value.string xs[0]] := hc2
  have g0 := hc3 0 (Value.string xs[0]) (by rw [hc2']; rfl)
  have hs : s = none := by simpa [Addr.add] using World.cell?_spot g0
  subst hs
  refine ⟨b, o, rfl, World.block_lt_of_cell? w _ (by simpa [Addr.add] using g0), fun j x hj => ?_⟩
  obtain ⟨c, hc1, hc2, hc3⟩ := hcells j x hj
  have hc2' : c = [Value.string x] := hc2
  have := hc3 0 (Value.string x) (by rw [hc2']; rfl)
  have hz : Kd.string.sz = 1 := rfl
  rw [hz, Nat.mul_one, Nat.add_zero] at this
  by_cases hj0 : j = 0
  · subst hj0; simpa [Addr.add] using this
  · simpa [Addr.add, hj0] using this
theorem lns_of_C {w : World} {A : Option Addr} {l : List ByteArray} (h : Kd.C Kd.string w A l.length l) : Lns w A l := fun i hi => by
  obtain ⟨b, o, e, _, hc⟩ := C_cells h (by omega)
  exact ⟨b, o, e, by rw [hc i l[i] (List.getElem?_eq_getElem hi)]; simp [List.getD, hi]⟩
def checkF (k ver fr nd tk hd tl : Int) (tx : ByteArray) (l : List ByteArray) : Int :=
  if 1 ≤ k ∧ k ≤ 5 then checkE (allOk (ownOf k) (leastOf k) (fromOf k ver) (pushV k ver fr nd tk hd tl)) (textsB (k == 1) tx) (listsB (k == 2) l) else 2
theorem check_all (w : World) (k ver fr nd tk hd tl : Int) (tx : ByteArray) (A : Option Addr) (l : List ByteArray) (cap : Nat) (hl : Lns w A l) (hbig : l.length ≤ 1000000000000) (hs : sizes l ≤ 4611686018427387904) :
    Calls Tryd.prog 24 #[.agg #[.int .i64 k, .int .i64 ver, .int .i64 fr, .int .i64 nd, .int .i64 tk, .int .i64 hd, .int .i64 tl, .string tx, .slice A l.length cap]] w fun e w' => e = .returned (.int .i64 (checkF k ver fr nd tk hd tl tx l)) ∧ Chg (fun _ => False) w w' := by
  by_cases h : 1 ≤ k ∧ k ≤ 5
  · have := check_any w k ver fr nd tk hd tl tx A l cap (fun o ho => hl.at o ho) hbig hs h.1 h.2
    unfold checkF
    rw [if_pos h]
    exact this
  · unfold checkF
    rw [if_neg h]
    exact check_un w k ver fr nd tk hd tl tx _ h
theorem strCells_bytes (s : ByteArray) : Lib.strCells s = u8s (bytesOf s) := by
  simp [Lib.strCells, u8s, bytesOf]
/-- an append of a text onto an owned row of bytes, as one operation -/
theorem wp_append_text {P : Program} {o : Oper} {a : Act} {w : World} {K : Act → World → Prop} {Q : Exit → Act → World → Prop} (sl x : Operand) (t u : TypeId)
    (ho : o.op = .call { callee := .builtin .append, args := #[sl, x], argTypes := #[t, u] })
    (base : Nat) (e : TypeId) (i : TypeInfo) (ht : P.underlying t = some (.slice e)) (hu : P.underlying u = some .string) (hi : P.info? e = some i) (hz : i.zero = some (.int .u8 0))
    (hsize : i.size = 1) (hby : i.bytes = 1)
    (v : Value) (n : Nat) (xs : List Value) (hs : a.eval sl = v) (hown : w.ownsRow base e 1 v n xs) (s : ByteArray) (hx : a.eval x = .string s)
    (h63 : n + s.size ≤ maxLen) (hbytes : n + s.size ≤ 140737488355328) (hbase : base ≤ w.heap.size)
    (h : ∀ v' w', w'.ownsRow base e 1 v' (n + s.size) (xs ++ Lib.strCells s) → w.grownBy w' v.ownBlock → K (a.put o.dst v') w') : o.wp P a w K Q := by
  obtain ⟨v', w', hr, h2, h3, h4⟩ := Lib.run_append_own_string (P := P) w base t u o.type e i ht hu hi hz hsize hby v n xs hown s h63 hbytes hbase
  unfold Oper.wp execOp
  simp only [ho, resolve, invoke, builtin, Sem.run_bind, Sem.run_pure, Result.andThen_ok, List.map_toArray, List.map_cons, List.map_nil, hs, hx, hr]
  exact h _ _ h2 h3
/-- one byte in a block of its own -/
theorem own_one {W : World} {base g : Nat} {x : Int} (hg : base ≤ g) (h : W.heap[g]? = some (.cells #[.int .u8 x] 5 (0, 0))) : W.ownsRow base 5 1 (.slice (some ⟨g, 0, none⟩) 1 1) 1 (u8s [x]) :=
  ⟨by simp [u8s], .inr ⟨g, 1, _, rfl, hg, h, Nat.le_refl _, by unfold maxLen; omega, rfl, rfl⟩⟩
/-! ### what Bytes tells -/
def fieldB (own lo fr : Int) (V : Nat → Int) (i : Nat) : List Int := if bits .and .i64 own (fieldAt lo fr i).2.1 = 0 then [] else rowB (V (fieldAt lo fr i).1) 7
def fieldsB (own lo fr : Int) (V : Nat → Int) (n : Nat) : List Int := (List.range n).flatMap (fieldB own lo fr V)
theorem fieldsB_succ (own lo fr : Int) (V : Nat → Int) (n : Nat) : fieldsB own lo fr V (n + 1) = fieldsB own lo fr V n ++ fieldB own lo fr V n := by
  simp [fieldsB, List.range_succ]
theorem fieldB_len (own lo fr : Int) (V : Nat → Int) (i : Nat) : (fieldB own lo fr V i).length ≤ 7 := by
  unfold fieldB; split
  · simp
  · rw [rowB_length]; omega
theorem fieldsB_len (own lo fr : Int) (V : Nat → Int) (n : Nat) : (fieldsB own lo fr V n).length ≤ 7 * n := by
  induction n with
  | zero => simp [fieldsB]
  | succ n ih => rw [fieldsB_succ, List.length_append]; have := fieldB_len own lo fr V n; omega
def textB (s : ByteArray) : List Int := rowB s.size 3 ++ bytesOf s
theorem textB_length (s : ByteArray) : (textB s).length = 3 + s.size := by rw [textB, List.length_append, rowB_length, bytesOf_length]
def linesB (l : List ByteArray) : List Int := l.flatMap textB
theorem linesB_take (l : List ByteArray) (k : Nat) (h : k < l.length) : linesB (l.take (k + 1)) = linesB (l.take k) ++ textB (l.getD k ByteArray.empty) := by
  have e : l.take (k + 1) = l.take k ++ [l[k]] := by rw [List.take_add_one, List.getElem?_eq_getElem h]; rfl
  unfold linesB
  rw [e, List.flatMap_append]
  simp [List.getD, h]
theorem linesB_length (l : List ByteArray) : (linesB l).length = 3 * l.length + sizes l := by
  induction l with
  | nil => rfl
  | cons x t ih =>
    have : linesB (x :: t) = textB x ++ linesB t := rfl
    rw [this, List.length_append, ih, textB_length]
    have e : sizes (x :: t) = x.size + sizes t := by simp [sizes]
    rw [e, List.length_cons]; omega
def pushB (k ver fr nd tk hd tl : Int) (tx : ByteArray) (l : List ByteArray) : List Int :=
  [k % 256] ++ fieldsB (ownOf k) (leastOf k) (fromOf k ver) (pushV k ver fr nd tk hd tl) 6 ++ (if k = 1 then textB tx else []) ++ (if k = 2 then rowB l.length 2 ++ linesB l else [])
end Go.Proofs.YteiedafdakffeaaDoor

/- push: Bytes. -/
namespace Go.Proofs.YteiedafdakffeaaDoor
set_option linter.unusedVariables false
set_option linter.unusedSimpArgs false
open Go Go.RowKit
open Go.Proofs.YteiedafdakffeaaDoorW.PrintWords (Kd bytesOf bytesOf_length)
def packet (k ver fr nd tk hd tl : Int) (tx : ByteArray) (s : Value) : Array Value := #[.int .i64 k, .int .i64 ver, .int .i64 fr, .int .i64 nd, .int .i64 tk, .int .i64 hd, .int .i64 tl, .string tx, s]
set_option maxRecDepth 100000 in
set_option maxHeartbeats 4000000 in
theorem bytes_no (w : World) (k ver fr nd tk hd tl : Int) (tx : ByteArray) (A : Option Addr) (l : List ByteArray) (cap : Nat) (hl : Lns w A l) (hbig : l.length ≤ 1000000000000) (hs : sizes l ≤ 4611686018427387904) (hno : checkF k ver fr nd tk hd tl tx l = 2) :
    Calls Tryd.prog 22 #[.agg #[.int .i64 k, .int .i64 ver, .int .i64 fr, .int .i64 nd, .int .i64 tk, .int .i64 hd, .int .i64 tl, .string tx, .slice A l.length cap]] w fun e w' => e = .returned (.tuple #[.slice none 0 0, .int .i64 2]) ∧ Chg (fun _ => False) w w' := by
  have hCw := (Chg.refl (fun _ => False) w).alloc (.cells #[.int .i64 k, .int .i64 ver, .int .i64 fr, .int .i64 nd, .int .i64 tk, .int .i64 hd, .int .i64 tl, .string tx, .slice A l.length cap] 26)
  have hch := check_all (w.alloc (.cells #[.int .i64 k, .int .i64 ver, .int .i64 fr, .int .i64 nd, .int .i64 tk, .int .i64 hd, .int .i64 tl, .string tx, .slice A l.length cap] 26)) k ver fr nd tk hd tl tx A l cap (hl.chg hCw) hbig hs
  rw [hno] at hch
  have HCH := Lib.hid hch
  have HCW := Lib.hid hCw
  clear hno hch hCw hl
  go_enter Tryd.func22, Tryd.ntmps22
  go_wp2_with fail
  refine HCH.out.mono ?_
  rintro e w2 ⟨rfl, hC2⟩
  have HC2 := Lib.hid (HCW.out.trans hC2)
  clear hC2 HCH HCW
  go_wp2_with fail
  go_ret2
  exact ⟨rfl, HC2.out⟩
set_option maxRecDepth 100000 in
set_option maxHeartbeats 4000000 in
theorem bytes_ok (w : World) (k ver fr nd tk hd tl : Int) (tx : ByteArray) (A : Option Addr) (l : List ByteArray) (cap : Nat) (hl : Lns w A l) (hbig : l.length ≤ 1000) (hs : sizes l ≤ 65536) (htx : tx.size ≤ 65536) (h1 : 1 ≤ k) (h5 : k ≤ 5) (hok : checkF k ver fr nd tk hd tl tx l = 0) :
    Calls Tryd.prog 22 #[.agg #[.int .i64 k, .int .i64 ver, .int .i64 fr, .int .i64 nd, .int .i64 tk, .int .i64 hd, .int .i64 tl, .string tx, .slice A l.length cap]] w fun e w' => ∃ v, e = .returned (.tuple #[v, .int .i64 0]) ∧ w'.ownsRow w.heap.size 5 1 v (pushB k ver fr nd tk hd tl tx l).length (u8s (pushB k ver fr nd tk hd tl tx l)) ∧ Chg (fun _ => False) w w' := by
  have hB := heap_alloc_new w (.cells #[.int .i64 k, .int .i64 ver, .int .i64 fr, .int .i64 nd, .int .i64 tk, .int .i64 hd, .int .i64 tl, .string tx, .slice A l.length cap] 26)
  have hCw := (Chg.refl (fun _ => False) w).alloc (.cells #[.int .i64 k, .int .i64 ver, .int .i64 fr, .int .i64 nd, .int .i64 tk, .int .i64 hd, .int .i64 tl, .string tx, .slice A l.length cap] 26)
  have hch := check_all (w.alloc (.cells #[.int .i64 k, .int .i64 ver, .int .i64 fr, .int .i64 nd, .int .i64 tk, .int .i64 hd, .int .i64 tl, .string tx, .slice A l.length cap] 26)) k ver fr nd tk hd tl tx A l cap (hl.chg hCw) (by omega) (by omega)
  rw [hok] at hch
  have HCH := Lib.hid hch
  have HCW := Lib.hid hCw
  have HB := Lib.hid hB
  have HL := Lib.hid hl
  have hidx := index_kinds k h1 h5
  clear hok hch hCw hl hB
  go_enter Tryd.func22, Tryd.ntmps22
  go_wp2_with fail
  refine HCH.out.mono ?_
  rintro e w2 ⟨rfl, hC2⟩
  have HB2 := Lib.hid (hC2.keep HB.out (fun h => h))
  have HC2 := Lib.hid (HCW.out.trans hC2)
  have hsz2 := HC2.out.size
  clear hC2 HCH HCW HB
  go_upto_region 4 with fail
  have hS : w2.drew.cell? ⟨w.heap.size, 0, none⟩ = some (.int .i64 k) := (cell_of_heap HB2.out 0)
  go_cut [5, 6] from 16 to 23 (fun s5 s6 W => s5 = .int .i64 (ownOf k) ∧ W.ownsRow w.heap.size 5 1 s6 1 (u8s [k % 256]) ∧ W.heap[w.heap.size]? = some (.cells #[.int .i64 k, .int .i64 ver, .int .i64 fr, .int .i64 nd, .int .i64 tk, .int .i64 hd, .int .i64 tl, .string tx, .slice A l.length cap] 26 (0, 0)) ∧ Chg (fun _ => False) w W)
  case first =>
    refine region_lone (fun W' => W'.cell? ⟨w.heap.size, 0, none⟩ = some (.int .i64 k)) [] (by kernel_rfl) ?_
    refine take_one 1 hS rfl (by kernel_rfl) rfl ?_
    apply Exists.intro
    refine And.intro (fun W' hS' => ?y1) (And.intro (fun _ _ _ h => h) ?_)
    case y1 => go_simp; rfl
    refine take_one 2 hS rfl (by kernel_rfl) rfl ?_
    apply Exists.intro
    refine And.intro (fun W' hS' => ?y2) (And.intro (fun _ _ _ h => h) ?_)
    case y2 => go_simp; rfl
    refine take_one 4 hS rfl (by kernel_rfl) rfl ?_
    apply Exists.intro
    refine And.intro (fun W' hS' => ?y4) (And.intro (fun _ _ _ h => h) ?_)
    case y4 => go_simp; rfl
    refine take_one 5 hS rfl (by kernel_rfl) rfl ?_
    apply Exists.intro
    refine And.intro (fun W' hS' => ?y5) (And.intro (fun _ _ _ h => h) ?_)
    case y5 => go_simp; rfl
    refine take_one 6 hS rfl (by kernel_rfl) rfl ?_
    apply Exists.intro
    refine And.intro (fun W' hS' => ?y6) (And.intro (fun _ _ _ h => h) ?_)
    case y6 => go_simp; rfl
    refine one_of_two 0 7 rfl rfl (by kernel_rfl) rfl rfl ?_ ?_
    · go_simp
      refine (kinds_some _).mono ?_
      rintro e w3 ⟨rfl, hC3⟩
      have hS3 := hC3.cell hS (fun h => h)
      refine ⟨hS3, ?_⟩
      unfold kindsV
      refine take_one 3 hS3 rfl (by kernel_rfl) rfl ?_
      apply Exists.intro
      refine And.intro (fun W' hS' => ?y3) (And.intro (fun _ _ _ h => h) ?_)
      case y3 => go_simp; rfl
      refine take_one 8 hS3 rfl (by kernel_rfl) rfl ?_
      apply Exists.intro
      refine And.intro (fun W' hS' => ?y8) (And.intro (fun _ _ _ h => h) ?_)
      case y8 => go_simp; rfl
      go_simp
      refine only_one 7 rfl (by kernel_rfl) rfl ?_
      have hS4 : (w3.alloc (.cells #[.int .u8 (k % 256)] 5)).cell? ⟨w.heap.size, 0, none⟩ = some (.int .i64 k) := ((Chg.refl (fun _ => False) w3).alloc _).cell hS3 (fun h => h)
      go_simp
      refine ⟨hS4, ?_⟩
      refine take_one 9 hS4 rfl (by kernel_rfl) rfl ?_
      apply Exists.intro
      refine And.intro (fun W' hS' => ?y9) (And.intro (fun _ _ _ h => h) ?_)
      case y9 => go_simp; rfl
      go_simp
      refine all_done (by kernel_rfl) ?_ _
      go_wp2_with fail
      go_meet
      have hsz3 := hC3.size
      exact ⟨rfl, own_one (by simp at hsz3; omega) (heap_alloc_new _ _), heap_alloc (hC3.keep (w := w2.drew) HB2.out (fun h => h)), (((HC2.out.drew).trans hC3).alloc _)⟩
    · go_simp
      have hS3 : (w2.drew.alloc (.cells #[.int .u8 (k % 256)] 5)).cell? ⟨w.heap.size, 0, none⟩ = some (.int .i64 k) := ((Chg.refl (fun _ => False) w2.drew).alloc _).cell hS (fun h => h)
      refine ⟨hS3, ?_⟩
      refine only_one 0 rfl (by kernel_rfl) rfl ?_
      go_simp
      refine (kinds_some _).mono ?_
      rintro e w3 ⟨rfl, hC3⟩
      have hS4 := hC3.cell hS3 (fun h => h)
      refine ⟨hS4, ?_⟩
      unfold kindsV
      refine take_one 3 hS4 rfl (by kernel_rfl) rfl ?_
      apply Exists.intro
      refine And.intro (fun W' hS' => ?z3) (And.intro (fun _ _ _ h => h) ?_)
      case z3 => go_simp; rfl
      refine take_one 8 hS4 rfl (by kernel_rfl) rfl ?_
      apply Exists.intro
      refine And.intro (fun W' hS' => ?z8) (And.intro (fun _ _ _ h => h) ?_)
      case z8 => go_simp; rfl
      refine take_one 9 hS4 rfl (by kernel_rfl) rfl ?_
      apply Exists.intro
      refine And.intro (fun W' hS' => ?z9) (And.intro (fun _ _ _ h => h) ?_)
      case z9 => go_simp; rfl
      go_simp
      refine all_done (by kernel_rfl) ?_ _
      go_wp2_with fail
      go_meet
      have hN : w3.heap[w2.heap.size]? = some (.cells #[.int .u8 (k % 256)] 5 (0, 0)) := hC3.keep (heap_alloc_new w2.drew _) (fun h => h)
      exact ⟨rfl, own_one hsz2 hN, hC3.keep (heap_alloc (w := w2.drew) HB2.out) (fun h => h), (((HC2.out.drew).alloc _).trans hC3)⟩
  case rest =>
    obtain ⟨rfl, ho, hP, hC⟩ := hcut
    have hfs := fields_some wc w.heap.size k ver fr nd tk hd tl (.string tx) (.slice A l.length cap) hP
    have HO := Lib.hid ho
    have HP := Lib.hid hP
    have HC := Lib.hid hC
    have HFS := Lib.hid hfs
    clear hidx ho hP hC hfs hS HB2 HC2
    go_wp2_with fail
    refine HFS.out.mono ?_
    rintro e w4 ⟨g, rfl, hgs, hg, hC4⟩
    clear HFS
    have HG := Lib.hid hg
    have HO4 : Hid (w4.ownsRow w.heap.size 5 1 u6 1 (u8s [k % 256])) := Lib.hid (own_keep HO.out fun _ _ _ _ _ e => hC4.keep e (fun h => h))
    have HP4 := Lib.hid (hC4.keep HP.out (fun h => h))
    have HC5 := Lib.hid (HC.out.trans hC4)
    clear HO HP HC hg hC4 hgs
    go_upto_block 0 with fail
    go_cut [6, 8, 26] from 27 to 41 (fun s6 _ _ W => W.ownsRow w.heap.size 5 1 s6 ([k % 256] ++ fieldsB (ownOf k) (leastOf k) (fromOf k ver) (pushV k ver fr nd tk hd tl) 6).length (u8s ([k % 256] ++ fieldsB (ownOf k) (leastOf k) (fromOf k ver) (pushV k ver fr nd tk hd tl) 6)) ∧ W.heap[w.heap.size]? = some (.cells #[.int .i64 k, .int .i64 ver, .int .i64 fr, .int .i64 nd, .int .i64 tk, .int .i64 hd, .int .i64 tl, .string tx, .slice A l.length cap] 26 (0, 0)) ∧ Chg (fun _ => False) w W)
    case first =>
      go_wp2_with fail
      go_loopw [6, 8, 26] (fun s6 _ i wr => ∃ j : Nat, j ≤ 6 ∧ i = .int .i64 j ∧ wr.ownsRow w.heap.size 5 1 s6 ([k % 256] ++ fieldsB (ownOf k) (leastOf k) (fromOf k ver) (pushV k ver fr nd tk hd tl) j).length (u8s ([k % 256] ++ fieldsB (ownOf k) (leastOf k) (fromOf k ver) (pushV k ver fr nd tk hd tl) j)) ∧ wr.heap[w.heap.size]? = some (.cells #[.int .i64 k, .int .i64 ver, .int .i64 fr, .int .i64 nd, .int .i64 tk, .int .i64 hd, .int .i64 tl, .string tx, .slice A l.length cap] 26 (0, 0)) ∧ wr.heap[g]? = some (.cells (fieldCells w.heap.size (leastOf k) (fromOf k ver)) 66 (0, 0)) ∧ Chg (fun _ => False) w wr) (fun _ _ i _ => 6 - (intOf i).toNat)
      case atStart => exact ⟨0, by omega, rfl, by simpa [fieldsB] using HO4.out, HP4.out, HG.out, HC5.out⟩
      case round =>
        obtain ⟨j, hj, rfl, ho, hP, hg, hC⟩ := hrel
        by_cases hlt : j < 6
        · obtain ⟨f1, f2, f3, f4⟩ := fieldCells_at w.heap.size (leastOf k) (fromOf k ver) j hlt
          obtain ⟨p1, p2⟩ := fieldAt_place (leastOf k) (fromOf k ver) j
          have c1 : wr.cell? ⟨g, j * 4, none⟩ = some (.int .i64 (fieldAt (leastOf k) (fromOf k ver) j).2.1) := (cell_of_heap hg _).trans f1
          have c2 : wr.cell? ⟨g, j * 4 + 1, none⟩ = some (.pointer (some ⟨w.heap.size, (fieldAt (leastOf k) (fromOf k ver) j).1, none⟩)) := (cell_of_heap hg _).trans f2
          have c3 : wr.cell? ⟨g, j * 4 + 2, none⟩ = some (.int .i64 (fieldAt (leastOf k) (fromOf k ver) j).2.2.1) := (cell_of_heap hg _).trans f3
          have c4 : wr.cell? ⟨g, j * 4 + 3, none⟩ = some (.int .i64 (fieldAt (leastOf k) (fromOf k ver) j).2.2.2) := (cell_of_heap hg _).trans f4
          have c5 : wr.cell? ⟨w.heap.size, (fieldAt (leastOf k) (fromOf k ver) j).1, none⟩ = some (.int .i64 (pushV k ver fr nd tk hd tl (fieldAt (leastOf k) (fromOf k ver) j).1)) := (cell_of_heap hP _).trans (by
            generalize (fieldAt (leastOf k) (fromOf k ver) j).1 = q at *
            have : q = 1 ∨ q = 2 ∨ q = 3 ∨ q = 4 ∨ q = 5 ∨ q = 6 := by omega
            rcases this with rfl | rfl | rfl | rfl | rfl | rfl <;> rfl)
          have hsu := fieldsB_succ (ownOf k) (leastOf k) (fromOf k ver) (pushV k ver fr nd tk hd tl) j
          have hfl := fieldsB_len (ownOf k) (leastOf k) (fromOf k ver) (pushV k ver fr nd tk hd tl) j
          have hfb : fieldB (ownOf k) (leastOf k) (fromOf k ver) (pushV k ver fr nd tk hd tl) j = if bits .and .i64 (ownOf k) (fieldAt (leastOf k) (fromOf k ver) j).2.1 = 0 then [] else rowB (pushV k ver fr nd tk hd tl (fieldAt (leastOf k) (fromOf k ver) j).1) 7 := rfl
          have HOJ := Lib.hid ho
          have HPJ := Lib.hid hP
          have HGJ := Lib.hid hg
          have HCJ := Lib.hid hC
          have hszJ := hC.size
          clear ho hP hg hC f1 f2 f3 f4 p1 p2
          generalize (fieldAt (leastOf k) (fromOf k ver) j).1 = q at *
          generalize (fieldAt (leastOf k) (fromOf k ver) j).2.1 = x1 at *
          generalize (fieldAt (leastOf k) (fromOf k ver) j).2.2.1 = x2 at *
          generalize (fieldAt (leastOf k) (fromOf k ver) j).2.2.2 = x3 at *
          generalize hV : pushV k ver fr nd tk hd tl q = v at *
          generalize hown : ownOf k = own at *
          clear hV hown
          by_cases hz : bits .and .i64 own x1 = 0
          · have hz2 : (bits .and .i64 own x1 != 0) = false := by rw [hz]; rfl
            rw [if_pos hz] at hfb
            rw [hfb, List.append_nil] at hsu
            have HSU := Lib.hid hsu
            clear hz hsu hfb hfl c5
            go_wp2_with fail
            go_roundw
            case rel => exact ⟨j + 1, by omega, by go_num, by rw [HSU.out]; exact own_keep HOJ.out fun _ _ _ _ _ e => heap_alloc e, heap_alloc HPJ.out, heap_alloc HGJ.out, HCJ.out.alloc _⟩
            case measure => simp [intOf] <;> omega
          · have hz2 : (bits .and .i64 own x1 != 0) = true := bne_iff_ne.2 hz
            rw [if_neg hz] at hfb
            rw [hfb] at hsu
            have HSU := Lib.hid hsu
            have c6 := ((Chg.refl (fun _ => False) wr).alloc (.cells #[.int .i64 x1, .pointer (some ⟨w.heap.size, q, none⟩), .int .i64 x2, .int .i64 x3] 66)).cell c5 (fun h => h)
            have hrow := row_some (wr.alloc (.cells #[.int .i64 x1, .pointer (some ⟨w.heap.size, q, none⟩), .int .i64 x2, .int .i64 x3] 66)) w.heap.size u6 ([k % 256] ++ fieldsB own (leastOf k) (fromOf k ver) (pushV k ver fr nd tk hd tl) j) v 7 (own_keep HOJ.out fun _ _ _ _ _ e => heap_alloc e) (by simp; omega) (by omega) (by rw [List.length_append]; simp; omega)
            have HROW := Lib.hid hrow
            clear hz hsu hfb hfl hrow
            go_wp2_with fail
            refine HROW.out.mono ?_
            rintro e w6 ⟨v6, rfl, ho6, hG6⟩
            have HP6 := Lib.hid (hG6.keep _ _ _ _ (by decide) (heap_alloc HPJ.out))
            have HG6 := Lib.hid (hG6.keep _ _ _ _ (by decide) (heap_alloc HGJ.out))
            have HC6 := Lib.hid ((HCJ.out.alloc _).trans' hG6.chg (fun i h1 h2 => by omega))
            have HO6 := Lib.hid ho6
            clear HROW ho6 hG6 c1 c2 c3 c4 c5 c6
            go_wp2_with fail
            go_roundw
            case rel => exact ⟨j + 1, by omega, by go_num, by rw [HSU.out, ← List.append_assoc]; exact HO6.out, HP6.out, HG6.out, HC6.out⟩
            case measure => simp [intOf] <;> omega
        · obtain rfl : j = 6 := by omega
          have HO6 := Lib.hid ho
          have HP6 := Lib.hid hP
          have HC6 := Lib.hid hC
          clear ho hP hg hC
          go_wp2_with fail
          go_meet
          exact ⟨HO6.out, HP6.out, HC6.out⟩
    case rest =>
      obtain ⟨ho, hP, hC⟩ := hcut
      have b64 := bits64 k h1 h5
      have b128 := bits128 k h1 h5
      have hfl := fieldsB_len (ownOf k) (leastOf k) (fromOf k ver) (pushV k ver fr nd tk hd tl) 6
      obtain ⟨X, hX⟩ : ∃ X, [k % 256] ++ fieldsB (ownOf k) (leastOf k) (fromOf k ver) (pushV k ver fr nd tk hd tl) 6 = X := ⟨_, rfl⟩
      have hXl : X.length ≤ 50 := by rw [← hX, List.length_append]; simp; omega
      rw [hX] at ho
      have HX := Lib.hid hX
      have HOX := Lib.hid ho
      have HPX := Lib.hid hP
      have HCX := Lib.hid hC
      have hszX := hC.size
      clear hX ho hP hC hfl HO4 HP4 HC5 HG h1 h5
      go_upto_if 44 with fail
      go_cut [6] from 42 to 52 (fun s6 W => W.ownsRow w.heap.size 5 1 s6 (X ++ (if k = 1 then textB tx else [])).length (u8s (X ++ (if k = 1 then textB tx else []))) ∧ W.heap[w.heap.size]? = some (.cells #[.int .i64 k, .int .i64 ver, .int .i64 fr, .int .i64 nd, .int .i64 tk, .int .i64 hd, .int .i64 tl, .string tx, .slice A l.length cap] 26 (0, 0)) ∧ Chg (fun _ => False) w W)
      case first =>
        by_cases hk1 : k = 1
        · have hkb : (k == 1) = true := beq_iff_eq.2 hk1
          have HK1 := Lib.hid hk1
          clear hk1 b64
          go_wp2_with fail
          have cT : wc.drew.cell? ⟨w.heap.size, 7, none⟩ = some (.string tx) := (cell_of_heap HPX.out 7)
          obtain ⟨i0, hi, hz0, hz1, hz2⟩ := info_parts info5
          refine region_lone (fun W' => W'.cell? ⟨w.heap.size, 7, none⟩ = some (.string tx)) [] (by kernel_rfl) ?_
          refine take_one 0 cT rfl (by kernel_rfl) rfl ?_
          apply Exists.intro
          refine And.intro (fun W' hS' => ?y0) (And.intro (fun _ _ _ h => h) ?_)
          case y0 => go_simp; rfl
          refine take_one 1 cT rfl (by kernel_rfl) rfl ?_
          apply Exists.intro
          refine And.intro (fun W' hS' => ?y1) (And.intro (fun _ _ _ h => h) ?_)
          case y1 => go_simp; rfl
          refine take_one 2 cT rfl (by kernel_rfl) rfl ?_
          apply Exists.intro
          refine And.intro (fun W' hS' => ?y2) (And.intro (fun _ _ _ h => h) ?_)
          case y2 => go_simp; rfl
          refine take_one 3 cT rfl (by kernel_rfl) rfl ?_
          apply Exists.intro
          refine And.intro (fun W' hS' => ?y3) (And.intro (fun _ _ _ h => h) ?_)
          case y3 => go_simp; rfl
          refine take_one 5 cT rfl (by kernel_rfl) rfl ?_
          apply Exists.intro
          refine And.intro (fun W' hS' => ?y5) (And.intro (fun _ _ _ h => h) ?_)
          case y5 => go_simp; rfl
          refine take_one 6 cT rfl (by kernel_rfl) rfl ?_
          apply Exists.intro
          refine And.intro (fun W' hS' => ?y6) (And.intro (fun _ _ _ h => h) ?_)
          case y6 => go_simp; rfl
          refine only_one 4 rfl (by kernel_rfl) rfl ?_
          go_simp
          refine (row_some wc.drew w.heap.size u6 X (tx.size : Int) 3 HOX.out hszX (by omega) (by omega)).mono ?_
          rintro e w6 ⟨v6, rfl, ho6, hG6⟩
          have hP6 := hG6.keep _ _ _ _ (by decide) HPX.out
          refine ⟨cell_of_heap hP6 7, ?_⟩
          refine only_one 7 rfl (by kernel_rfl) rfl ?_
          refine wp_append_text (.tmp 49) (.tmp 51) 22 9 rfl w.heap.size 5 i0 Tryd.underlying22 Tryd.underlying9 hi hz0 hz1 hz2 v6 _ _ rfl ho6 tx rfl ?_ ?_ ?_ ?_
          · unfold maxLen; rw [List.length_append, rowB_length]; omega
          · rw [List.length_append, rowB_length]; omega
          · have := hG6.chg.size; have h2 : wc.drew.heap.size = wc.heap.size := rfl; omega
          intro v7 w7 ho7 hg7
          have hG7 := hG6.grown ho6 hg7
          have hP7 := hG7.keep _ _ _ _ (by decide) HPX.out
          refine ⟨fun _ => cell_of_heap hP7 7, ?_⟩
          refine take_one 8 (cell_of_heap hP7 7) rfl (by kernel_rfl) rfl ?_
          apply Exists.intro
          refine And.intro (fun W' hS' => ?y8) (And.intro (fun _ _ _ h => h) ?_)
          case y8 => go_simp; rfl
          go_simp
          refine all_done (by kernel_rfl) ?_ _
          go_wp2_with fail
          go_meet
          refine ⟨?_, hP7, HCX.out.drew.trans' hG7.chg (fun i h1 h2 => by omega)⟩
          rw [if_pos HK1.out]
          have e : X ++ textB tx = (X ++ rowB tx.size 3) ++ bytesOf tx := by rw [textB, List.append_assoc]
          rw [e, u8s_append, List.length_append, bytesOf_length, ← strCells_bytes]
          exact ho7
        · have hkb : (k == 1) = false := beq_eq_false_iff_ne.2 hk1
          have HK1 := Lib.hid hk1
          clear hk1 b64
          go_wp2_with fail
          go_meet
          exact ⟨by rw [if_neg HK1.out, List.append_nil]; exact HOX.out, HPX.out, HCX.out⟩
      case rest =>
        obtain ⟨ho, hP, hC⟩ := hcut
        obtain ⟨Y, hY⟩ : ∃ Y, X ++ (if k = 1 then textB tx else []) = Y := ⟨_, rfl⟩
        have hYl : Y.length ≤ 70000 := by
          rw [← hY, List.length_append]
          have : (if k = 1 then textB tx else []).length ≤ 65539 := by
            split
            · rw [textB_length]; omega
            · simp
          omega
        rw [hY] at ho
        have HY := Lib.hid hY
        have HOY := Lib.hid ho
        have HPY := Lib.hid hP
        have HCY := Lib.hid hC
        have hszY := hC.size
        clear hY ho hP hC HOX HPX HCX hszX
        by_cases hk2 : k = 2
        · have hkb : (k == 2) = true := beq_iff_eq.2 hk2
          have HK2 := Lib.hid hk2
          clear hk2
          rw [hkb] at b128
          clear hkb b64
          have cL : wc.cell? ⟨w.heap.size, 8, none⟩ = some (.slice A l.length cap) := (cell_of_heap HPY.out 8)
          have hrow := row_some wc w.heap.size u6 Y (l.length : Int) 2 HOY.out hszY (by omega) (by omega)
          have HROW := Lib.hid hrow
          clear hrow
          go_wp2_with fail
          refine HROW.out.mono ?_
          rintro e w6 ⟨v6, rfl, ho6, hG6⟩
          have HP6 := Lib.hid (hG6.keep _ _ _ _ (by decide) HPY.out)
          have HC6 := Lib.hid (HCY.out.trans' hG6.chg (fun i h1 h2 => by omega))
          have HO6 := Lib.hid ho6
          have c8 : w6.cell? ⟨w.heap.size, 8, none⟩ = some (.slice A l.length cap) := cell_of_heap HP6.out 8
          have hsz6 := HC6.out.size
          have HE : Hid (pushB k ver fr nd tk hd tl tx l = Y ++ (rowB l.length 2 ++ linesB l)) := Lib.hid (by unfold pushB; rw [if_pos HK2.out, HX.out, HY.out])
          have hll := linesB_length
          have HLL := Lib.hid hll
          clear HROW ho6 hG6 cL HOY HPY HCY hszY hll
          obtain ⟨i0, hi, hz0, hz1, hz2⟩ := info_parts info5
          go_wp2_with fail
          clear c8
          go_loopw [6, 10, 64] (fun s6 _ i wr => ∃ j : Nat, j ≤ l.length ∧ i = .int .i64 j ∧ wr.ownsRow w.heap.size 5 1 s6 (Y ++ (rowB l.length 2 ++ linesB (l.take j))).length (u8s (Y ++ (rowB l.length 2 ++ linesB (l.take j)))) ∧ Chg (fun _ => False) w wr) (fun _ _ i _ => l.length - (intOf i).toNat)
          case atStart => exact ⟨0, by omega, rfl, by simpa [linesB] using HO6.out, HC6.out⟩
          case round =>
            obtain ⟨j, hj, rfl, ho, hC⟩ := hrel
            by_cases hlt : j < l.length
            · obtain ⟨gl, pl, rfl, hcl⟩ := (HL.out.chg hC) j hlt
              have hsuc := linesB_take l j hlt
              have hln := HLL.out (l.take (j + 1))
              have hsl := sizes_le l (j + 1)
              rw [hsuc, List.length_append, textB_length, List.length_take] at hln
              have hmn : min (j + 1) l.length = j + 1 := by omega
              rw [hmn] at hln
              have HSU := Lib.hid hsuc
              have hszr := hC.size
              have HCR := Lib.hid hC
              have HOR := Lib.hid ho
              clear hsuc hmn hC ho
              generalize hS : l.getD j ByteArray.empty = S at *
              clear hS
              have hrow := row_some wr w.heap.size u6 (Y ++ (rowB l.length 2 ++ linesB (l.take j))) (S.size : Int) 3 HOR.out hszr (by omega) (by rw [List.length_append, List.length_append, rowB_length]; omega)
              have HROW := Lib.hid hrow
              clear hrow
              go_wp2_with fail
              refine HROW.out.mono ?_
              rintro e w7 ⟨v7, rfl, ho7, hG7⟩
              have hsz7 := hG7.chg.size
              have HG7 := Lib.hid hG7
              have HO7 := Lib.hid ho7
              clear HROW hG7 hcl ho7
              go_wp2_with (at_builtin; refine Lib.wpList_append_own_string _ rfl _ _ 22 9 rfl w.heap.size 5 i0 Tryd.underlying22 Tryd.underlying9 hi hz0 hz1 hz2 _ _ _ rfl HO7.out S rfl ?c1 ?c2 ?c3 ?_)
              case c1 => unfold maxLen; simp only [List.length_append, rowB_length]; omega
              case c2 => simp only [List.length_append, rowB_length]; omega
              case c3 => omega
              intro v8 w8 ho8 hg8 _
              have HG8 := Lib.hid (HG7.out.grown HO7.out hg8)
              have HO8 : Hid (w8.ownsRow w.heap.size 5 1 v8 (Y ++ (rowB l.length 2 ++ linesB (l.take (j + 1)))).length (u8s (Y ++ (rowB l.length 2 ++ linesB (l.take (j + 1)))))) := Lib.hid (by
                have e : Y ++ (rowB l.length 2 ++ linesB (l.take (j + 1))) = ((Y ++ (rowB l.length 2 ++ linesB (l.take j))) ++ rowB S.size 3) ++ bytesOf S := by rw [HSU.out, textB]; simp only [List.append_assoc]
                rw [e, u8s_append _ (bytesOf S), List.length_append, bytesOf_length, ← strCells_bytes]
                simp only [List.append_assoc, List.length_append] at ho8 ⊢
                exact ho8)
              clear ho8 hg8
              go_wp2_with fail
              go_roundw
              case rel => exact ⟨j + 1, by omega, by go_num, HO8.out, HCR.out.trans' HG8.out.chg (fun i h1 h2 => by omega)⟩
              case measure => simp [intOf] <;> omega
            · obtain rfl : j = l.length := by omega
              rw [List.take_length] at ho
              have HOR := Lib.hid ho
              have HCR := Lib.hid hC
              clear ho hC
              go_wp2_with fail
              go_ret2
              exact ⟨_, rfl, by rw [HE.out]; exact HOR.out, HCR.out⟩
        · have hkb : (k == 2) = false := beq_eq_false_iff_ne.2 hk2
          have HE : Hid (pushB k ver fr nd tk hd tl tx l = Y) := Lib.hid (by unfold pushB; rw [if_neg hk2, List.append_nil, HX.out, HY.out])
          rw [hkb] at b128
          clear hk2 hkb b64
          go_wp2_with fail
          go_ret2
          exact ⟨_, rfl, by rw [HE.out]; exact HOY.out, HCY.out⟩
end Go.Proofs.YteiedafdakffeaaDoor
