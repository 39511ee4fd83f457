/- push: Bytes. -/
import Derived.Test.YteiedafdakffeaaDoorPushL
namespace Go.Proofs.YteiedafdakffeaaDoor
set_option linter.unusedVariables false
set_option linter.unusedSimpArgs false
open Go Go.RowKit
open Go.Proofs.YteiedafdakffeaaDoorW.PrintWords (Kd bytesOf bytesOf_length)
def packet (k ver fr nd tk hd tl : Int) (tx : ByteArray) (s : Value) : Array Value := #[.int .i64 k, .int .i64 ver, .int .i64 fr, .int .i64 nd, .int .i64 tk, .int .i64 hd, .int .i64 tl, .string tx, s]
set_option maxRecDepth 100000 in
set_option maxHeartbeats 4000000 in
theorem bytes_no (w : World) (k ver fr nd tk hd tl : Int) (tx : ByteArray) (A : Option Addr) (l : List ByteArray) (cap : Nat) (hl : Lns w A l) (hbig : l.length ≤ 1000000000000) (hs : sizes l ≤ 4611686018427387904) (hno : checkF k ver fr nd tk hd tl tx l = 2) :
    Calls Tryd.prog 22 #[.agg #[.int .i64 k, .int .i64 ver, .int .i64 fr, .int .i64 nd, .int .i64 tk, .int .i64 hd, .int .i64 tl, .string tx, .slice A l.length cap]] w fun e w' => e = .returned (.tuple #[.slice none 0 0, .int .i64 2]) ∧ Chg (fun _ => False) w w' := by
  have hCw := (Chg.refl (fun _ => False) w).alloc (.cells #[.int .i64 k, .int .i64 ver, .int .i64 fr, .int .i64 nd, .int .i64 tk, .int .i64 hd, .int .i64 tl, .string tx, .slice A l.length cap] 26)
  have hch := check_all (w.alloc (.cells #[.int .i64 k, .int .i64 ver, .int .i64 fr, .int .i64 nd, .int .i64 tk, .int .i64 hd, .int .i64 tl, .string tx, .slice A l.length cap] 26)) k ver fr nd tk hd tl tx A l cap (hl.chg hCw) hbig hs
  rw [hno] at hch
  have HCH := Lib.hid hch
  have HCW := Lib.hid hCw
  clear hno hch hCw hl
  go_enter Tryd.func22, Tryd.ntmps22
  go_wp2_with fail
  refine HCH.out.mono ?_
  rintro e w2 ⟨rfl, hC2⟩
  have HC2 := Lib.hid (HCW.out.trans hC2)
  clear hC2 HCH HCW
  go_wp2_with fail
  go_ret2
  exact ⟨rfl, HC2.out⟩
set_option maxRecDepth 100000 in
set_option maxHeartbeats 4000000 in
theorem bytes_ok (w : World) (k ver fr nd tk hd tl : Int) (tx : ByteArray) (A : Option Addr) (l : List ByteArray) (cap : Nat) (hl : Lns w A l) (hbig : l.length ≤ 1000) (hs : sizes l ≤ 65536) (htx : tx.size ≤ 65536) (h1 : 1 ≤ k) (h5 : k ≤ 5) (hok : checkF k ver fr nd tk hd tl tx l = 0) :
    Calls Tryd.prog 22 #[.agg #[.int .i64 k, .int .i64 ver, .int .i64 fr, .int .i64 nd, .int .i64 tk, .int .i64 hd, .int .i64 tl, .string tx, .slice A l.length cap]] w fun e w' => ∃ v, e = .returned (.tuple #[v, .int .i64 0]) ∧ w'.ownsRow w.heap.size 5 1 v (pushB k ver fr nd tk hd tl tx l).length (u8s (pushB k ver fr nd tk hd tl tx l)) ∧ Chg (fun _ => False) w w' := by
  have hB := heap_alloc_new w (.cells #[.int .i64 k, .int .i64 ver, .int .i64 fr, .int .i64 nd, .int .i64 tk, .int .i64 hd, .int .i64 tl, .string tx, .slice A l.length cap] 26)
  have hCw := (Chg.refl (fun _ => False) w).alloc (.cells #[.int .i64 k, .int .i64 ver, .int .i64 fr, .int .i64 nd, .int .i64 tk, .int .i64 hd, .int .i64 tl, .string tx, .slice A l.length cap] 26)
  have hch := check_all (w.alloc (.cells #[.int .i64 k, .int .i64 ver, .int .i64 fr, .int .i64 nd, .int .i64 tk, .int .i64 hd, .int .i64 tl, .string tx, .slice A l.length cap] 26)) k ver fr nd tk hd tl tx A l cap (hl.chg hCw) (by omega) (by omega)
  rw [hok] at hch
  have HCH := Lib.hid hch
  have HCW := Lib.hid hCw
  have HB := Lib.hid hB
  have HL := Lib.hid hl
  have hidx := index_kinds k h1 h5
  clear hok hch hCw hl hB
  go_enter Tryd.func22, Tryd.ntmps22
  go_wp2_with fail
  refine HCH.out.mono ?_
  rintro e w2 ⟨rfl, hC2⟩
  have HB2 := Lib.hid (hC2.keep HB.out (fun h => h))
  have HC2 := Lib.hid (HCW.out.trans hC2)
  have hsz2 := HC2.out.size
  clear hC2 HCH HCW HB
  go_upto_region 4 with fail
  have hS : w2.drew.cell? ⟨w.heap.size, 0, none⟩ = some (.int .i64 k) := (cell_of_heap HB2.out 0)
  go_cut [5, 6] from 16 to 23 (fun s5 s6 W => s5 = .int .i64 (ownOf k) ∧ W.ownsRow w.heap.size 5 1 s6 1 (u8s [k % 256]) ∧ W.heap[w.heap.size]? = some (.cells #[.int .i64 k, .int .i64 ver, .int .i64 fr, .int .i64 nd, .int .i64 tk, .int .i64 hd, .int .i64 tl, .string tx, .slice A l.length cap] 26 (0, 0)) ∧ Chg (fun _ => False) w W)
  case first =>
    refine region_lone (fun W' => W'.cell? ⟨w.heap.size, 0, none⟩ = some (.int .i64 k)) [] (by kernel_rfl) ?_
    refine take_one 1 hS rfl (by kernel_rfl) rfl ?_
    apply Exists.intro
    refine And.intro (fun W' hS' => ?y1) (And.intro (fun _ _ _ h => h) ?_)
    case y1 => go_simp; rfl
    refine take_one 2 hS rfl (by kernel_rfl) rfl ?_
    apply Exists.intro
    refine And.intro (fun W' hS' => ?y2) (And.intro (fun _ _ _ h => h) ?_)
    case y2 => go_simp; rfl
    refine take_one 4 hS rfl (by kernel_rfl) rfl ?_
    apply Exists.intro
    refine And.intro (fun W' hS' => ?y4) (And.intro (fun _ _ _ h => h) ?_)
    case y4 => go_simp; rfl
    refine take_one 5 hS rfl (by kernel_rfl) rfl ?_
    apply Exists.intro
    refine And.intro (fun W' hS' => ?y5) (And.intro (fun _ _ _ h => h) ?_)
    case y5 => go_simp; rfl
    refine take_one 6 hS rfl (by kernel_rfl) rfl ?_
    apply Exists.intro
    refine And.intro (fun W' hS' => ?y6) (And.intro (fun _ _ _ h => h) ?_)
    case y6 => go_simp; rfl
    refine one_of_two 0 7 rfl rfl (by kernel_rfl) rfl rfl ?_ ?_
    · go_simp
      refine (kinds_some _).mono ?_
      rintro e w3 ⟨rfl, hC3⟩
      have hS3 := hC3.cell hS (fun h => h)
      refine ⟨hS3, ?_⟩
      unfold kindsV
      refine take_one 3 hS3 rfl (by kernel_rfl) rfl ?_
      apply Exists.intro
      refine And.intro (fun W' hS' => ?y3) (And.intro (fun _ _ _ h => h) ?_)
      case y3 => go_simp; rfl
      refine take_one 8 hS3 rfl (by kernel_rfl) rfl ?_
      apply Exists.intro
      refine And.intro (fun W' hS' => ?y8) (And.intro (fun _ _ _ h => h) ?_)
      case y8 => go_simp; rfl
      go_simp
      refine only_one 7 rfl (by kernel_rfl) rfl ?_
      have hS4 : (w3.alloc (.cells #[.int .u8 (k % 256)] 5)).cell? ⟨w.heap.size, 0, none⟩ = some (.int .i64 k) := ((Chg.refl (fun _ => False) w3).alloc _).cell hS3 (fun h => h)
      go_simp
      refine ⟨hS4, ?_⟩
      refine take_one 9 hS4 rfl (by kernel_rfl) rfl ?_
      apply Exists.intro
      refine And.intro (fun W' hS' => ?y9) (And.intro (fun _ _ _ h => h) ?_)
      case y9 => go_simp; rfl
      go_simp
      refine all_done (by kernel_rfl) ?_ _
      go_wp2_with fail
      go_meet
      have hsz3 := hC3.size
      exact ⟨rfl, own_one (by simp at hsz3; omega) (heap_alloc_new _ _), heap_alloc (hC3.keep (w := w2.drew) HB2.out (fun h => h)), (((HC2.out.drew).trans hC3).alloc _)⟩
    · go_simp
      have hS3 : (w2.drew.alloc (.cells #[.int .u8 (k % 256)] 5)).cell? ⟨w.heap.size, 0, none⟩ = some (.int .i64 k) := ((Chg.refl (fun _ => False) w2.drew).alloc _).cell hS (fun h => h)
      refine ⟨hS3, ?_⟩
      refine only_one 0 rfl (by kernel_rfl) rfl ?_
      go_simp
      refine (kinds_some _).mono ?_
      rintro e w3 ⟨rfl, hC3⟩
      have hS4 := hC3.cell hS3 (fun h => h)
      refine ⟨hS4, ?_⟩
      unfold kindsV
      refine take_one 3 hS4 rfl (by kernel_rfl) rfl ?_
      apply Exists.intro
      refine And.intro (fun W' hS' => ?z3) (And.intro (fun _ _ _ h => h) ?_)
      case z3 => go_simp; rfl
      refine take_one 8 hS4 rfl (by kernel_rfl) rfl ?_
      apply Exists.intro
      refine And.intro (fun W' hS' => ?z8) (And.intro (fun _ _ _ h => h) ?_)
      case z8 => go_simp; rfl
      refine take_one 9 hS4 rfl (by kernel_rfl) rfl ?_
      apply Exists.intro
      refine And.intro (fun W' hS' => ?z9) (And.intro (fun _ _ _ h => h) ?_)
      case z9 => go_simp; rfl
      go_simp
      refine all_done (by kernel_rfl) ?_ _
      go_wp2_with fail
      go_meet
      have hN : w3.heap[w2.heap.size]? = some (.cells #[.int .u8 (k % 256)] 5 (0, 0)) := hC3.keep (heap_alloc_new w2.drew _) (fun h => h)
      exact ⟨rfl, own_one hsz2 hN, hC3.keep (heap_alloc (w := w2.drew) HB2.out) (fun h => h), (((HC2.out.drew).alloc _).trans hC3)⟩
  case rest =>
    obtain ⟨rfl, ho, hP, hC⟩ := hcut
    have hfs := fields_some wc w.heap.size k ver fr nd tk hd tl (.string tx) (.slice A l.length cap) hP
    have HO := Lib.hid ho
    have HP := Lib.hid hP
    have HC := Lib.hid hC
    have HFS := Lib.hid hfs
    clear hidx ho hP hC hfs hS HB2 HC2
    go_wp2_with fail
    refine HFS.out.mono ?_
    rintro e w4 ⟨g, rfl, hgs, hg, hC4⟩
    clear HFS
    have HG := Lib.hid hg
    have HO4 : Hid (w4.ownsRow w.heap.size 5 1 u6 1 (u8s [k % 256])) := Lib.hid (own_keep HO.out fun _ _ _ _ _ e => hC4.keep e (fun h => h))
    have HP4 := Lib.hid (hC4.keep HP.out (fun h => h))
    have HC5 := Lib.hid (HC.out.trans hC4)
    clear HO HP HC hg hC4 hgs
    go_upto_block 0 with fail
    go_cut [6, 8, 26] from 27 to 41 (fun s6 _ _ W => W.ownsRow w.heap.size 5 1 s6 ([k % 256] ++ fieldsB (ownOf k) (leastOf k) (fromOf k ver) (pushV k ver fr nd tk hd tl) 6).length (u8s ([k % 256] ++ fieldsB (ownOf k) (leastOf k) (fromOf k ver) (pushV k ver fr nd tk hd tl) 6)) ∧ W.heap[w.heap.size]? = some (.cells #[.int .i64 k, .int .i64 ver, .int .i64 fr, .int .i64 nd, .int .i64 tk, .int .i64 hd, .int .i64 tl, .string tx, .slice A l.length cap] 26 (0, 0)) ∧ Chg (fun _ => False) w W)
    case first =>
      go_wp2_with fail
      go_loopw [6, 8, 26] (fun s6 _ i wr => ∃ j : Nat, j ≤ 6 ∧ i = .int .i64 j ∧ wr.ownsRow w.heap.size 5 1 s6 ([k % 256] ++ fieldsB (ownOf k) (leastOf k) (fromOf k ver) (pushV k ver fr nd tk hd tl) j).length (u8s ([k % 256] ++ fieldsB (ownOf k) (leastOf k) (fromOf k ver) (pushV k ver fr nd tk hd tl) j)) ∧ wr.heap[w.heap.size]? = some (.cells #[.int .i64 k, .int .i64 ver, .int .i64 fr, .int .i64 nd, .int .i64 tk, .int .i64 hd, .int .i64 tl, .string tx, .slice A l.length cap] 26 (0, 0)) ∧ wr.heap[g]? = some (.cells (fieldCells w.heap.size (leastOf k) (fromOf k ver)) 66 (0, 0)) ∧ Chg (fun _ => False) w wr) (fun _ _ i _ => 6 - (intOf i).toNat)
      case atStart => exact ⟨0, by omega, rfl, by simpa [fieldsB] using HO4.out, HP4.out, HG.out, HC5.out⟩
      case round =>
        obtain ⟨j, hj, rfl, ho, hP, hg, hC⟩ := hrel
        by_cases hlt : j < 6
        · obtain ⟨f1, f2, f3, f4⟩ := fieldCells_at w.heap.size (leastOf k) (fromOf k ver) j hlt
          obtain ⟨p1, p2⟩ := fieldAt_place (leastOf k) (fromOf k ver) j
          have c1 : wr.cell? ⟨g, j * 4, none⟩ = some (.int .i64 (fieldAt (leastOf k) (fromOf k ver) j).2.1) := (cell_of_heap hg _).trans f1
          have c2 : wr.cell? ⟨g, j * 4 + 1, none⟩ = some (.pointer (some ⟨w.heap.size, (fieldAt (leastOf k) (fromOf k ver) j).1, none⟩)) := (cell_of_heap hg _).trans f2
          have c3 : wr.cell? ⟨g, j * 4 + 2, none⟩ = some (.int .i64 (fieldAt (leastOf k) (fromOf k ver) j).2.2.1) := (cell_of_heap hg _).trans f3
          have c4 : wr.cell? ⟨g, j * 4 + 3, none⟩ = some (.int .i64 (fieldAt (leastOf k) (fromOf k ver) j).2.2.2) := (cell_of_heap hg _).trans f4
          have c5 : wr.cell? ⟨w.heap.size, (fieldAt (leastOf k) (fromOf k ver) j).1, none⟩ = some (.int .i64 (pushV k ver fr nd tk hd tl (fieldAt (leastOf k) (fromOf k ver) j).1)) := (cell_of_heap hP _).trans (by
            generalize (fieldAt (leastOf k) (fromOf k ver) j).1 = q at *
            have : q = 1 ∨ q = 2 ∨ q = 3 ∨ q = 4 ∨ q = 5 ∨ q = 6 := by omega
            rcases this with rfl | rfl | rfl | rfl | rfl | rfl <;> rfl)
          have hsu := fieldsB_succ (ownOf k) (leastOf k) (fromOf k ver) (pushV k ver fr nd tk hd tl) j
          have hfl := fieldsB_len (ownOf k) (leastOf k) (fromOf k ver) (pushV k ver fr nd tk hd tl) j
          have hfb : fieldB (ownOf k) (leastOf k) (fromOf k ver) (pushV k ver fr nd tk hd tl) j = if bits .and .i64 (ownOf k) (fieldAt (leastOf k) (fromOf k ver) j).2.1 = 0 then [] else rowB (pushV k ver fr nd tk hd tl (fieldAt (leastOf k) (fromOf k ver) j).1) 7 := rfl
          have HOJ := Lib.hid ho
          have HPJ := Lib.hid hP
          have HGJ := Lib.hid hg
          have HCJ := Lib.hid hC
          have hszJ := hC.size
          clear ho hP hg hC f1 f2 f3 f4 p1 p2
          generalize (fieldAt (leastOf k) (fromOf k ver) j).1 = q at *
          generalize (fieldAt (leastOf k) (fromOf k ver) j).2.1 = x1 at *
          generalize (fieldAt (leastOf k) (fromOf k ver) j).2.2.1 = x2 at *
          generalize (fieldAt (leastOf k) (fromOf k ver) j).2.2.2 = x3 at *
          generalize hV : pushV k ver fr nd tk hd tl q = v at *
          generalize hown : ownOf k = own at *
          clear hV hown
          by_cases hz : bits .and .i64 own x1 = 0
          · have hz2 : (bits .and .i64 own x1 != 0) = false := by rw [hz]; rfl
            rw [if_pos hz] at hfb
            rw [hfb, List.append_nil] at hsu
            have HSU := Lib.hid hsu
            clear hz hsu hfb hfl c5
            go_wp2_with fail
            go_roundw
            case rel => exact ⟨j + 1, by omega, by go_num, by rw [HSU.out]; exact own_keep HOJ.out fun _ _ _ _ _ e => heap_alloc e, heap_alloc HPJ.out, heap_alloc HGJ.out, HCJ.out.alloc _⟩
            case measure => simp [intOf] <;> omega
          · have hz2 : (bits .and .i64 own x1 != 0) = true := bne_iff_ne.2 hz
            rw [if_neg hz] at hfb
            rw [hfb] at hsu
            have HSU := Lib.hid hsu
            have c6 := ((Chg.refl (fun _ => False) wr).alloc (.cells #[.int .i64 x1, .pointer (some ⟨w.heap.size, q, none⟩), .int .i64 x2, .int .i64 x3] 66)).cell c5 (fun h => h)
            have hrow := row_some (wr.alloc (.cells #[.int .i64 x1, .pointer (some ⟨w.heap.size, q, none⟩), .int .i64 x2, .int .i64 x3] 66)) w.heap.size u6 ([k % 256] ++ fieldsB own (leastOf k) (fromOf k ver) (pushV k ver fr nd tk hd tl) j) v 7 (own_keep HOJ.out fun _ _ _ _ _ e => heap_alloc e) (by simp; omega) (by omega) (by rw [List.length_append]; simp; omega)
            have HROW := Lib.hid hrow
            clear hz hsu hfb hfl hrow
            go_wp2_with fail
            refine HROW.out.mono ?_
            rintro e w6 ⟨v6, rfl, ho6, hG6⟩
            have HP6 := Lib.hid (hG6.keep _ _ _ _ (by decide) (heap_alloc HPJ.out))
            have HG6 := Lib.hid (hG6.keep _ _ _ _ (by decide) (heap_alloc HGJ.out))
            have HC6 := Lib.hid ((HCJ.out.alloc _).trans' hG6.chg (fun i h1 h2 => by omega))
            have HO6 := Lib.hid ho6
            clear HROW ho6 hG6 c1 c2 c3 c4 c5 c6
            go_wp2_with fail
            go_roundw
            case rel => exact ⟨j + 1, by omega, by go_num, by rw [HSU.out, ← List.append_assoc]; exact HO6.out, HP6.out, HG6.out, HC6.out⟩
            case measure => simp [intOf] <;> omega
        · obtain rfl : j = 6 := by omega
          have HO6 := Lib.hid ho
          have HP6 := Lib.hid hP
          have HC6 := Lib.hid hC
          clear ho hP hg hC
          go_wp2_with fail
          go_meet
          exact ⟨HO6.out, HP6.out, HC6.out⟩
    case rest =>
      obtain ⟨ho, hP, hC⟩ := hcut
      have b64 := bits64 k h1 h5
      have b128 := bits128 k h1 h5
      have hfl := fieldsB_len (ownOf k) (leastOf k) (fromOf k ver) (pushV k ver fr nd tk hd tl) 6
      obtain ⟨X, hX⟩ : ∃ X, [k % 256] ++ fieldsB (ownOf k) (leastOf k) (fromOf k ver) (pushV k ver fr nd tk hd tl) 6 = X := ⟨_, rfl⟩
      have hXl : X.length ≤ 50 := by rw [← hX, List.length_append]; simp; omega
      rw [hX] at ho
      have HX := Lib.hid hX
      have HOX := Lib.hid ho
      have HPX := Lib.hid hP
      have HCX := Lib.hid hC
      have hszX := hC.size
      clear hX ho hP hC hfl HO4 HP4 HC5 HG h1 h5
      go_upto_if 44 with fail
      go_cut [6] from 42 to 52 (fun s6 W => W.ownsRow w.heap.size 5 1 s6 (X ++ (if k = 1 then textB tx else [])).length (u8s (X ++ (if k = 1 then textB tx else []))) ∧ W.heap[w.heap.size]? = some (.cells #[.int .i64 k, .int .i64 ver, .int .i64 fr, .int .i64 nd, .int .i64 tk, .int .i64 hd, .int .i64 tl, .string tx, .slice A l.length cap] 26 (0, 0)) ∧ Chg (fun _ => False) w W)
      case first =>
        by_cases hk1 : k = 1
        · have hkb : (k == 1) = true := beq_iff_eq.2 hk1
          have HK1 := Lib.hid hk1
          clear hk1 b64
          go_wp2_with fail
          have cT : wc.drew.cell? ⟨w.heap.size, 7, none⟩ = some (.string tx) := (cell_of_heap HPX.out 7)
          obtain ⟨i0, hi, hz0, hz1, hz2⟩ := info_parts info5
          refine region_lone (fun W' => W'.cell? ⟨w.heap.size, 7, none⟩ = some (.string tx)) [] (by kernel_rfl) ?_
          refine take_one 0 cT rfl (by kernel_rfl) rfl ?_
          apply Exists.intro
          refine And.intro (fun W' hS' => ?y0) (And.intro (fun _ _ _ h => h) ?_)
          case y0 => go_simp; rfl
          refine take_one 1 cT rfl (by kernel_rfl) rfl ?_
          apply Exists.intro
          refine And.intro (fun W' hS' => ?y1) (And.intro (fun _ _ _ h => h) ?_)
          case y1 => go_simp; rfl
          refine take_one 2 cT rfl (by kernel_rfl) rfl ?_
          apply Exists.intro
          refine And.intro (fun W' hS' => ?y2) (And.intro (fun _ _ _ h => h) ?_)
          case y2 => go_simp; rfl
          refine take_one 3 cT rfl (by kernel_rfl) rfl ?_
          apply Exists.intro
          refine And.intro (fun W' hS' => ?y3) (And.intro (fun _ _ _ h => h) ?_)
          case y3 => go_simp; rfl
          refine take_one 5 cT rfl (by kernel_rfl) rfl ?_
          apply Exists.intro
          refine And.intro (fun W' hS' => ?y5) (And.intro (fun _ _ _ h => h) ?_)
          case y5 => go_simp; rfl
          refine take_one 6 cT rfl (by kernel_rfl) rfl ?_
          apply Exists.intro
          refine And.intro (fun W' hS' => ?y6) (And.intro (fun _ _ _ h => h) ?_)
          case y6 => go_simp; rfl
          refine only_one 4 rfl (by kernel_rfl) rfl ?_
          go_simp
          refine (row_some wc.drew w.heap.size u6 X (tx.size : Int) 3 HOX.out hszX (by omega) (by omega)).mono ?_
          rintro e w6 ⟨v6, rfl, ho6, hG6⟩
          have hP6 := hG6.keep _ _ _ _ (by decide) HPX.out
          refine ⟨cell_of_heap hP6 7, ?_⟩
          refine only_one 7 rfl (by kernel_rfl) rfl ?_
          refine wp_append_text (.tmp 49) (.tmp 51) 22 9 rfl w.heap.size 5 i0 Tryd.underlying22 Tryd.underlying9 hi hz0 hz1 hz2 v6 _ _ rfl ho6 tx rfl ?_ ?_ ?_ ?_
          · unfold maxLen; rw [List.length_append, rowB_length]; omega
          · rw [List.length_append, rowB_length]; omega
          · have := hG6.chg.size; have h2 : wc.drew.heap.size = wc.heap.size := rfl; omega
          intro v7 w7 ho7 hg7
          have hG7 := hG6.grown ho6 hg7
          have hP7 := hG7.keep _ _ _ _ (by decide) HPX.out
          refine ⟨fun _ => cell_of_heap hP7 7, ?_⟩
          refine take_one 8 (cell_of_heap hP7 7) rfl (by kernel_rfl) rfl ?_
          apply Exists.intro
          refine And.intro (fun W' hS' => ?y8) (And.intro (fun _ _ _ h => h) ?_)
          case y8 => go_simp; rfl
          go_simp
          refine all_done (by kernel_rfl) ?_ _
          go_wp2_with fail
          go_meet
          refine ⟨?_, hP7, HCX.out.drew.trans' hG7.chg (fun i h1 h2 => by omega)⟩
          rw [if_pos HK1.out]
          have e : X ++ textB tx = (X ++ rowB tx.size 3) ++ bytesOf tx := by rw [textB, List.append_assoc]
          rw [e, u8s_append, List.length_append, bytesOf_length, ← strCells_bytes]
          exact ho7
        · have hkb : (k == 1) = false := beq_eq_false_iff_ne.2 hk1
          have HK1 := Lib.hid hk1
          clear hk1 b64
          go_wp2_with fail
          go_meet
          exact ⟨by rw [if_neg HK1.out, List.append_nil]; exact HOX.out, HPX.out, HCX.out⟩
      case rest =>
        obtain ⟨ho, hP, hC⟩ := hcut
        obtain ⟨Y, hY⟩ : ∃ Y, X ++ (if k = 1 then textB tx else []) = Y := ⟨_, rfl⟩
        have hYl : Y.length ≤ 70000 := by
          rw [← hY, List.length_append]
          have : (if k = 1 then textB tx else []).length ≤ 65539 := by
            split
            · rw [textB_length]; omega
            · simp
          omega
        rw [hY] at ho
        have HY := Lib.hid hY
        have HOY := Lib.hid ho
        have HPY := Lib.hid hP
        have HCY := Lib.hid hC
        have hszY := hC.size
        clear hY ho hP hC HOX HPX HCX hszX
        by_cases hk2 : k = 2
        · have hkb : (k == 2) = true := beq_iff_eq.2 hk2
          have HK2 := Lib.hid hk2
          clear hk2
          rw [hkb] at b128
          clear hkb b64
          have cL : wc.cell? ⟨w.heap.size, 8, none⟩ = some (.slice A l.length cap) := (cell_of_heap HPY.out 8)
          have hrow := row_some wc w.heap.size u6 Y (l.length : Int) 2 HOY.out hszY (by omega) (by omega)
          have HROW := Lib.hid hrow
          clear hrow
          go_wp2_with fail
          refine HROW.out.mono ?_
          rintro e w6 ⟨v6, rfl, ho6, hG6⟩
          have HP6 := Lib.hid (hG6.keep _ _ _ _ (by decide) HPY.out)
          have HC6 := Lib.hid (HCY.out.trans' hG6.chg (fun i h1 h2 => by omega))
          have HO6 := Lib.hid ho6
          have c8 : w6.cell? ⟨w.heap.size, 8, none⟩ = some (.slice A l.length cap) := cell_of_heap HP6.out 8
          have hsz6 := HC6.out.size
          have HE : Hid (pushB k ver fr nd tk hd tl tx l = Y ++ (rowB l.length 2 ++ linesB l)) := Lib.hid (by unfold pushB; rw [if_pos HK2.out, HX.out, HY.out])
          have hll := linesB_length
          have HLL := Lib.hid hll
          clear HROW ho6 hG6 cL HOY HPY HCY hszY hll
          obtain ⟨i0, hi, hz0, hz1, hz2⟩ := info_parts info5
          go_wp2_with fail
          clear c8
          go_loopw [6, 10, 64] (fun s6 _ i wr => ∃ j : Nat, j ≤ l.length ∧ i = .int .i64 j ∧ wr.ownsRow w.heap.size 5 1 s6 (Y ++ (rowB l.length 2 ++ linesB (l.take j))).length (u8s (Y ++ (rowB l.length 2 ++ linesB (l.take j)))) ∧ Chg (fun _ => False) w wr) (fun _ _ i _ => l.length - (intOf i).toNat)
          case atStart => exact ⟨0, by omega, rfl, by simpa [linesB] using HO6.out, HC6.out⟩
          case round =>
            obtain ⟨j, hj, rfl, ho, hC⟩ := hrel
            by_cases hlt : j < l.length
            · obtain ⟨gl, pl, rfl, hcl⟩ := (HL.out.chg hC) j hlt
              have hsuc := linesB_take l j hlt
              have hln := HLL.out (l.take (j + 1))
              have hsl := sizes_le l (j + 1)
              rw [hsuc, List.length_append, textB_length, List.length_take] at hln
              have hmn : min (j + 1) l.length = j + 1 := by omega
              rw [hmn] at hln
              have HSU := Lib.hid hsuc
              have hszr := hC.size
              have HCR := Lib.hid hC
              have HOR := Lib.hid ho
              clear hsuc hmn hC ho
              generalize hS : l.getD j ByteArray.empty = S at *
              clear hS
              have hrow := row_some wr w.heap.size u6 (Y ++ (rowB l.length 2 ++ linesB (l.take j))) (S.size : Int) 3 HOR.out hszr (by omega) (by rw [List.length_append, List.length_append, rowB_length]; omega)
              have HROW := Lib.hid hrow
              clear hrow
              go_wp2_with fail
              refine HROW.out.mono ?_
              rintro e w7 ⟨v7, rfl, ho7, hG7⟩
              have hsz7 := hG7.chg.size
              have HG7 := Lib.hid hG7
              have HO7 := Lib.hid ho7
              clear HROW hG7 hcl ho7
              go_wp2_with (at_builtin; refine Lib.wpList_append_own_string _ rfl _ _ 22 9 rfl w.heap.size 5 i0 Tryd.underlying22 Tryd.underlying9 hi hz0 hz1 hz2 _ _ _ rfl HO7.out S rfl ?c1 ?c2 ?c3 ?_)
              case c1 => unfold maxLen; simp only [List.length_append, rowB_length]; omega
              case c2 => simp only [List.length_append, rowB_length]; omega
              case c3 => omega
              intro v8 w8 ho8 hg8 _
              have HG8 := Lib.hid (HG7.out.grown HO7.out hg8)
              have HO8 : Hid (w8.ownsRow w.heap.size 5 1 v8 (Y ++ (rowB l.length 2 ++ linesB (l.take (j + 1)))).length (u8s (Y ++ (rowB l.length 2 ++ linesB (l.take (j + 1)))))) := Lib.hid (by
                have e : Y ++ (rowB l.length 2 ++ linesB (l.take (j + 1))) = ((Y ++ (rowB l.length 2 ++ linesB (l.take j))) ++ rowB S.size 3) ++ bytesOf S := by rw [HSU.out, textB]; simp only [List.append_assoc]
                rw [e, u8s_append _ (bytesOf S), List.length_append, bytesOf_length, ← strCells_bytes]
                simp only [List.append_assoc, List.length_append] at ho8 ⊢
                exact ho8)
              clear ho8 hg8
              go_wp2_with fail
              go_roundw
              case rel => exact ⟨j + 1, by omega, by go_num, HO8.out, HCR.out.trans' HG8.out.chg (fun i h1 h2 => by omega)⟩
              case measure => simp [intOf] <;> omega
            · obtain rfl : j = l.length := by omega
              rw [List.take_length] at ho
              have HOR := Lib.hid ho
              have HCR := Lib.hid hC
              clear ho hC
              go_wp2_with fail
              go_ret2
              exact ⟨_, rfl, by rw [HE.out]; exact HOR.out, HCR.out⟩
        · have hkb : (k == 2) = false := beq_eq_false_iff_ne.2 hk2
          have HE : Hid (pushB k ver fr nd tk hd tl tx l = Y) := Lib.hid (by unfold pushB; rw [if_neg hk2, List.append_nil, HX.out, HY.out])
          rw [hkb] at b128
          clear hk2 hkb b64
          go_wp2_with fail
          go_ret2
          exact ⟨_, rfl, by rw [HE.out]; exact HOY.out, HCY.out⟩
end Go.Proofs.YteiedafdakffeaaDoor
