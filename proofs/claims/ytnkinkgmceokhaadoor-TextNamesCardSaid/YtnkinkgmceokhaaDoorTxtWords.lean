/- The contract of text.Words. -/
import Derived.Test.YtnkinkgmceokhaaDoorTxtPreds
import Derived.Test.YtnkinkgmceokhaaDoorTxtLaws
import Derived.Test.YtnkinkgmceokhaaDoorFrame
import Derived.Lib.OthersKept
import Derived.Maps.AppendAt
import Derived.LoopTactic
import Derived.Outline
import Derived.IntWalk
namespace Go.Proofs.YtnkinkgmceokhaaDoor
set_option linter.unusedVariables false
set_option linter.unusedSimpArgs false
open Go Go.RowKit Go.Proofs Go.Shelf
open Go.Proofs.YtnkinkgmceokhaaDoorW.PrintWords (Kd)
/-- what Words tells -/
def text_Words.f (a0 : ByteArray) : Option (List ByteArray × Int) := if a0.size ≤ 8000000000000 then some ((wordsR a0.data.toList).map bs, wordsE a0.data.toList) else none
/-! ### the scan, byte by byte -/
/-- behind so many bytes of a line with a space at its end -/
structure Scan (l : List UInt8) (pos : Nat) (o : List (List UInt8)) (cur : List UInt8) : Prop where
  wcs : wcs (l.take pos) = (o, cur)
  ok : okW (l.take pos) = true
theorem Scan.start (l : List UInt8) : Scan l 0 [] [] := ⟨rfl, rfl⟩
theorem take_snoc {l : List UInt8} {pos : Nat} {b : UInt8} (h : l[pos]? = some b) : l.take (pos + 1) = l.take pos ++ [b] := by
  rw [List.take_add_one, h]; rfl
theorem Scan.next {l : List UInt8} {pos : Nat} {o : List (List UInt8)} {cur : List UInt8} (h : Scan l pos o cur) {b : UInt8} (hb : l[pos]? = some b) (hok : b = 32 ∨ wB b = true) :
    Scan l (pos + 1) (wst (o, cur) b).1 (wst (o, cur) b).2 := by
  refine ⟨?_, ?_⟩
  · rw [take_snoc hb]
    show List.foldl wst ([], []) (l.take pos ++ [b]) = _
    rw [List.foldl_append]
    have := h.wcs
    unfold Go.Proofs.YtnkinkgmceokhaaDoor.wcs at this
    rw [this]
    rfl
  · have := h.ok
    rw [take_snoc hb]
    unfold okW at *
    rw [List.all_append, this]
    rcases hok with rfl | hok
    · rfl
    · simp [hok]
theorem Scan.len {l : List UInt8} {pos : Nat} {o : List (List UInt8)} {cur : List UInt8} (h : Scan l pos o cur) : o.length ≤ pos ∧ cur.length ≤ pos := by
  have key : ∀ (l : List UInt8) (o : List (List UInt8)) (r : List UInt8), (l.foldl wst (o, r)).1.length ≤ o.length + l.length ∧ (l.foldl wst (o, r)).2.length ≤ r.length + l.length := by
    intro l
    induction l with
    | nil => intro o r; simp
    | cons b l ih =>
      intro o r
      simp only [List.foldl_cons, wst, List.length_cons]
      by_cases hb : b = 32
      · rw [if_pos hb]
        by_cases hr : r = []
        · rw [if_pos hr]
          have := ih o r
          omega
        · rw [if_neg hr]
          have := ih (o ++ [r]) []
          simp at this
          omega
      · rw [if_neg hb]
        have := ih o (r ++ [b])
        simp at this
        omega
  have := key (l.take pos) [] []
  have e := h.wcs
  unfold Go.Proofs.YtnkinkgmceokhaaDoor.wcs at e
  rw [e] at this
  simp at this
  omega
theorem wcs_space (l : List UInt8) : (wcs (l ++ [32])).1 = wordsL l ∧ (wcs (l ++ [32])).2 = [] := by
  unfold wordsL wcs
  rw [List.foldl_append]
  simp only [List.foldl_cons, List.foldl_nil, wst, if_true]
  by_cases h : (l.foldl wst ([], [])).2 = []
  · rw [if_pos h, if_pos h]; exact ⟨rfl, h⟩
  · rw [if_neg h, if_neg h]; exact ⟨rfl, rfl⟩
theorem okW_space (l : List UInt8) : okW (l ++ [32]) = okW l := by
  unfold okW
  rw [List.all_append]
  simp
theorem Scan.done {l : List UInt8} {o : List (List UInt8)} {cur : List UInt8} (h : Scan (l ++ [32]) (l.length + 1) o cur) : wordsR l = o ∧ wordsE l = 0 := by
  have h1 := h.wcs
  have h2 := h.ok
  rw [List.take_of_length_le (by simp)] at h1 h2
  rw [okW_space] at h2
  have h3 := (wcs_space l).1
  rw [h1] at h3
  unfold wordsR wordsE
  rw [h2]
  exact ⟨h3.symm, rfl⟩
theorem Scan.bad {l : List UInt8} {pos : Nat} {b : UInt8} (hb : (l ++ [32])[pos]? = some b) (h1 : b ≠ 32) (h2 : wB b = false) : wordsR l = [] ∧ wordsE l = 4 := by
  have hf : okW l = false := by
    rw [← okW_space]
    unfold okW
    rw [List.all_eq_false]
    exact ⟨b, List.mem_of_getElem? hb, by simp [h1, h2]⟩
  unfold wordsR wordsE
  rw [hf]
  exact ⟨rfl, rfl⟩
/-- where the word at hand begins; -1: none -/
def FromV (l : List UInt8) (pos : Nat) (cur : List UInt8) (v : Value) : Prop := (cur = [] ∧ v = .int .i64 (-1)) ∨ (cur ≠ [] ∧ ∃ f : Nat, f ≤ pos ∧ v = .int .i64 f ∧ cur = (l.take pos).drop f)
theorem infoStr : (Tryd.prog.info? 9).map (fun i => (i.zero, i.size, i.bytes)) = some (some (.string ⟨#[]⟩), 1, 16) := by kernel_rfl
theorem extract_word (a0 : ByteArray) (f pos : Nat) (hf : f ≤ pos) (hp : pos ≤ a0.size) : bs (((a0.data.toList ++ [32]).take pos).drop f) = a0.extract f pos := by
  have hl : a0.data.toList.length = a0.size := by rw [Array.length_toList]; rfl
  rw [List.take_append_of_le_length (by omega)]
  have e := Lib.extract_data a0 f pos
  apply (show ∀ x y : ByteArray, x.data.toList = y.data.toList → x = y from fun x y h => ByteArray.ext (Array.ext' h))
  rw [list_bs, e, List.take_drop, show f + (pos - f) = pos by omega]
theorem iterPos_of {W : World} {k : Nat} {s : ByteArray} {p : Nat} (h : W.heap[k]? = some (.stringIter s p)) : W.iterPos k = p := by unfold World.iterPos; rw [h]
theorem own_iter {W : World} {base : Nat} {e : TypeId} {size : Nat} {v : Value} {n : Nat} {xs : List Value} {k : Nat} {s : ByteArray} {pos : Nat} (h : W.ownsRow base e size v n xs) (hk : W.heap[k]? = some (.stringIter s pos)) (pos' : Nat) : (W.iterAt k s pos').ownsRow base e size v n xs :=
  own_keep h fun j c t f _ hj => by
    rw [Lib.iterAt_other]
    · exact hj
    · rintro rfl
      rw [hk] at hj
      cases hj
set_option maxHeartbeats 4000000 in
set_option maxRecDepth 100000 in
theorem words_any (a0 : ByteArray) (hz : a0.size ≤ 8000000000000) (w : World) :
    Calls Tryd.prog 13 #[.string a0] w fun e w' => ∃ v0_ : Value, e = .returned (.tuple #[v0_, .int .i64 (wordsE a0.data.toList)]) ∧
      Kd.R Kd.string 9 w' w.heap.size (fun _ => True) v0_ ((wordsR a0.data.toList).map bs) ∧ Below w.heap.size w w' := by
  go_enter Tryd.func13, Tryd.ntmps13
  go_wp2_with fail
  go_step3
  go_wp2
  go_step3
  go_wp2
  have hsz : (a0 ++ ⟨#[32]⟩).size = a0.size + 1 := by rw [ByteArray.size_append]; rfl
  have hls : (a0 ++ ⟨#[32]⟩).data.toList = a0.data.toList ++ [32] := by
    rw [ByteArray.data_append]; simp
  have HSZ := Lib.hid hsz
  have HLS := Lib.hid hls
  have HGET : Hid (∀ pos : Nat, ∀ h : pos < (a0 ++ ⟨#[32]⟩).size, (a0.data.toList ++ [32])[pos]? = some ((a0 ++ ⟨#[32]⟩)[pos]'h)) := Lib.hid fun pos h => by
    rw [← HLS.out, List.getElem?_eq_getElem (by rw [Array.length_toList]; exact h)]
    rfl
  clear hsz hls
  obtain ⟨i0, hi, hz0, hz1, hz2⟩ := info_parts infoStr
  go_loopw [2, 3, 4] (fun v2 v3 v4 wr => ∃ (pos : Nat) (o : List (List UInt8)) (cur : List UInt8), v3 = .int .i64 0 ∧ Hid (Scan (a0.data.toList ++ [32]) pos o cur) ∧ pos ≤ a0.size + 1 ∧ FromV (a0.data.toList ++ [32]) pos cur v4 ∧ Hid (wr.heap[w.heap.size]? = some (.stringIter (a0 ++ ⟨#[32]⟩) pos)) ∧ Hid (wr.ownsRow w.heap.size 9 1 v2 o.length ((o.map bs).map Value.string)) ∧ Hid (Below w.heap.size w wr)) (fun _ _ _ wr => a0.size + 1 - wr.iterPos w.heap.size)
  case atStart => exact ⟨0, [], [], rfl, Lib.hid (Scan.start _), by omega, .inl ⟨rfl, rfl⟩, Lib.hid (World.iter_heap w _ 0), Lib.hid ⟨rfl, .inl ⟨rfl, rfl⟩⟩, Lib.hid ((Below.refl _ w).alloc (Nat.le_refl _) _)⟩
  case round =>
    obtain ⟨pos, o, cur, rfl, HSc, hpos, hfrom, HI, HO, HB⟩ := hrel
    have hmeas : wr.iterPos w.heap.size = pos := iterPos_of HI.out
    have HM := Lib.hid hmeas
    clear hmeas
    by_cases hp : pos < (a0 ++ ⟨#[32]⟩).size
    · have hb := HGET.out pos hp
      have hp2 : pos < a0.size + 1 := by have := HSZ.out; omega
      by_cases ha : ((a0 ++ ⟨#[32]⟩)[pos]'hp).toNat < 128
      · have hd := decode_ascii (a0 ++ ⟨#[32]⟩) pos hp ha
        have hnx : ∀ ty, (Instr.next (.pointer (some ⟨w.heap.size, 0, none⟩)) true ty).run Tryd.prog wr = _ := fun ty => Lib.run_next_any_at wr w.heap.size (a0 ++ ⟨#[32]⟩) pos ty HI.out hp
        rw [hd] at hnx
        generalize (a0 ++ ⟨#[32]⟩)[pos]'hp = b at *
        by_cases h32 : b = 32
        · subst h32
          have hsc2 := HSc.out.next hb (.inl rfl)
          rcases hfrom with ⟨rfl, rfl⟩ | ⟨hcur, f, hf, rfl, hcf⟩
          · -- a space, and no word at hand
            have hw : wst (o, []) 32 = (o, []) := rfl
            rw [hw] at hsc2
            have HSc2 := Lib.hid hsc2
            have HI2 := Lib.hid (Lib.iterAt_heap wr w.heap.size (a0 ++ ⟨#[32]⟩) pos (pos + 1) HI.out)
            have HB2 := Lib.hid (Lib.below_iterAt HB.out (Nat.le_refl _) (a0 ++ ⟨#[32]⟩) (pos + 1))
            have HO2 := Lib.hid (own_iter HO.out HI.out (pos + 1))
            clear hsc2 hw hb ha hd HSc HO HB HI
            go_wp2
            go_roundw
            case rel => exact ⟨pos + 1, o, [], rfl, HSc2, by omega, .inl ⟨rfl, rfl⟩, HI2, HO2, HB2⟩
            case measure => rw [HM.out, iterPos_of HI2.out]; omega
          · -- a space behind a word
            have hw : wst (o, cur) 32 = (o ++ [cur], []) := by unfold wst; rw [if_pos rfl, if_neg hcur]
            rw [hw] at hsc2
            have HSc2 := Lib.hid hsc2
            have HI2 := Lib.hid (Lib.iterAt_heap wr w.heap.size (a0 ++ ⟨#[32]⟩) pos (pos + 1) HI.out)
            have HB2 := Lib.hid (Lib.below_iterAt HB.out (Nat.le_refl _) (a0 ++ ⟨#[32]⟩) (pos + 1))
            have HO2 := Lib.hid (own_iter HO.out HI.out (pos + 1))
            have hol := HSc.out.len.1
            have hps : pos ≤ a0.size := by omega
            have hwd := extract_word a0 f pos hf hps
            rw [← hcf] at hwd
            have HWD := Lib.hid hwd
            have hszw : w.heap.size ≤ (wr.iterAt w.heap.size (a0 ++ ⟨#[32]⟩) (pos + 1)).heap.size := HB2.out.size
            clear hsc2 hw hb ha hd HSc HO HB HI hcf hwd hcur
            generalize hW2 : wr.iterAt w.heap.size (a0 ++ ⟨#[32]⟩) (pos + 1) = W2 at *
            clear hW2
            go_wp2_with (at_builtin; refine wpList_append_own _ rfl _ _ 23 rfl w.heap.size 9 i0 (.string ⟨#[]⟩) 1 16 Tryd.underlying23 hi hz0 hz1 hz2 rfl (by decide) _ _ _ rfl (HO2.out.alloc _) ⟨W2.heap.size, 0, none⟩ 1 1 [.string (a0.extract f pos)] rfl ?qc1 ?qc2 ?qc3 ?qc4 ?qc5 ?qc6 ?_)
            case qc3 => rfl
            case qc4 => unfold maxLen; omega
            case qc5 => omega
            case qc6 => first | omega | (simp; omega)
            intro v' w1 hown hgrow _
            have HI3 : Hid (w1.heap[w.heap.size]? = some (.stringIter (a0 ++ ⟨#[32]⟩) (pos + 1))) := Lib.hid (grown_keep hgrow (heap_alloc HI2.out) (fun e => by
              obtain ⟨c, t, fz, hc⟩ := own_cells HO2.out e
              rw [HI2.out] at hc
              cases hc))
            have HB3 : Hid (Below w.heap.size w w1) := Lib.hid ((HB2.out.alloc hszw _).grown hgrow (by simp; omega) (fun k hk => own_block HO2.out hk))
            have HO3 : Hid (w1.ownsRow w.heap.size 9 1 v' (o ++ [cur]).length (((o ++ [cur]).map bs).map Value.string)) := Lib.hid (by
              have e : ((o ++ [cur]).map bs).map Value.string = (o.map bs).map Value.string ++ [.string (a0.extract f pos)] := by rw [← HWD.out]; simp
              rw [e, List.length_append]
              rw [List.map_map]
              exact hown)
            clear hown hgrow
            go_wp2
            go_roundw
            case rel => exact ⟨pos + 1, o ++ [cur], [], rfl, HSc2, by omega, .inl ⟨rfl, rfl⟩, HI3, HO3, HB3⟩
            case measure => rw [HM.out, iterPos_of HI3.out]; omega
        · have hn32 : ((b.toNat : Int) == 32) = false := by
            rw [beq_eq_false_iff_ne]
            intro e
            exact h32 (UInt8.toNat_inj.1 (by simpa using Int.ofNat.inj e))
          have hiw := isWord_any b.toNat
          by_cases hwb : wB b = true
          · have hsc2 := HSc.out.next hb (.inr hwb)
            have hw : wst (o, cur) b = (o, cur ++ [b]) := by unfold wst; rw [if_neg h32]
            rw [hw] at hsc2
            have HSc2 := Lib.hid hsc2
            have HI2 := Lib.hid (Lib.iterAt_heap wr w.heap.size (a0 ++ ⟨#[32]⟩) pos (pos + 1) HI.out)
            have HB2 := Lib.hid (Lib.below_iterAt HB.out (Nat.le_refl _) (a0 ++ ⟨#[32]⟩) (pos + 1))
            have HO2 := Lib.hid (own_iter HO.out HI.out (pos + 1))
            have hwn : wN b.toNat = true := hwb
            rw [hwn] at hiw
            have hle : (b.toNat : Int) ≤ 126 := by
              unfold wB at hwb
              simp only [Bool.and_eq_true, decide_eq_true_eq] at hwb
              omega
            have hlt : ((a0.data.toList ++ [32]).take pos).length = pos := by
              rw [List.length_take, List.length_append, Array.length_toList]
              show min pos (a0.size + 1) = pos
              omega
            have htk := take_snoc hb
            have hmod : (b.toNat : Int) % 256 = (b.toNat : Int) := by omega
            rcases hfrom with ⟨rfl, rfl⟩ | ⟨hcur, f, hf, rfl, hcf⟩
            · have HFR : Hid (FromV (a0.data.toList ++ [32]) (pos + 1) ([] ++ [b]) (.int .i64 pos)) := Lib.hid (.inr ⟨by simp, pos, by omega, rfl, by rw [htk, List.drop_append_of_le_length (by omega), List.drop_of_length_le (by omega)]⟩)
              clear hsc2 hw hb ha hd HSc HO HB HI hwb hwn h32 htk hlt
              generalize b.toNat = r at *
              go_wp2_with fail
              refine (hiw _).mono ?_
              rintro e w' ⟨rfl, rfl⟩
              go_wp2
              go_roundw
              case rel => exact ⟨pos + 1, o, [] ++ [b], rfl, HSc2, by omega, HFR.out, HI2, HO2, HB2⟩
              case measure => rw [HM.out, iterPos_of HI2.out]; omega
            · have HFR : Hid (FromV (a0.data.toList ++ [32]) (pos + 1) (cur ++ [b]) (.int .i64 f)) := Lib.hid (.inr ⟨by simp, f, by omega, rfl, by rw [htk, List.drop_append_of_le_length (by omega), ← hcf]⟩)
              clear hsc2 hw hb ha hd HSc HO HB HI hwb hwn h32 htk hlt hcf hcur
              generalize b.toNat = r at *
              go_wp2_with fail
              refine (hiw _).mono ?_
              rintro e w' ⟨rfl, rfl⟩
              go_wp2
              go_roundw
              case rel => exact ⟨pos + 1, o, cur ++ [b], rfl, HSc2, by omega, HFR.out, HI2, HO2, HB2⟩
              case measure => rw [HM.out, iterPos_of HI2.out]; omega
          · have hwb2 : wB b = false := by simpa using hwb
            have hwn : wN b.toNat = false := hwb2
            rw [hwn] at hiw
            obtain ⟨e1, e2⟩ := Scan.bad hb h32 hwb2
            have E1 := Lib.hid e1
            have E2 := Lib.hid e2
            have HB2 := Lib.hid (Lib.below_iterAt HB.out (Nat.le_refl _) (a0 ++ ⟨#[32]⟩) (pos + 1))
            have hmod : (b.toNat : Int) % 256 = (b.toNat : Int) := by have := b.toNat_lt; omega
            by_cases h126 : 126 < b.toNat
            · have hgt : (126 : Int) < (b.toNat : Int) := by omega
              clear e1 e2 hb hwb hwb2 hwn h32 ha hd HSc HO HB HI h126 hiw hfrom
              generalize b.toNat = r at *
              go_wp2
              (first | go_ret2 | (rw [Exit.noGoto_ret]; go_ret2))
              exact ⟨_, by rw [E2.out]; rfl, by rw [E1.out]; exact Kd.R_nil _ _ _ _ _, HB2.out⟩
            · have hgt : ¬ (126 : Int) < (b.toNat : Int) := by omega
              clear e1 e2 hb hwb hwb2 hwn h32 ha hd HSc HO HB HI h126 hfrom
              generalize b.toNat = r at *
              go_wp2_with fail
              refine (hiw _).mono ?_
              rintro e w' ⟨rfl, rfl⟩
              go_wp2
              (first | go_ret2 | (rw [Exit.noGoto_ret]; go_ret2))
              exact ⟨_, by rw [E2.out]; rfl, by rw [E1.out]; exact Kd.R_nil _ _ _ _ _, HB2.out⟩
      · have hnx : ∀ ty, (Instr.next (.pointer (some ⟨w.heap.size, 0, none⟩)) true ty).run Tryd.prog wr = _ := fun ty => Lib.run_next_any_at wr w.heap.size (a0 ++ ⟨#[32]⟩) pos ty HI.out hp
        obtain ⟨k1, _⟩ := decode_high (a0 ++ ⟨#[32]⟩) pos hp (by omega)
        have k2 := decode_le (a0 ++ ⟨#[32]⟩) pos
        have h32 : (a0 ++ ⟨#[32]⟩)[pos]'hp ≠ 32 := by
          intro e
          rw [e] at ha
          exact ha (by decide)
        have hwb2 : wB ((a0 ++ ⟨#[32]⟩)[pos]'hp) = false := by
          unfold wB
          rw [decide_eq_false (by omega : ¬ ((a0 ++ ⟨#[32]⟩)[pos]'hp).toNat ≤ 126), Bool.and_false]
        obtain ⟨e1, e2⟩ := Scan.bad hb h32 hwb2
        have E1 := Lib.hid e1
        have E2 := Lib.hid e2
        have HB2 := Lib.hid (Lib.below_iterAt HB.out (Nat.le_refl _) (a0 ++ ⟨#[32]⟩) (pos + (Utf8.decode (a0 ++ ⟨#[32]⟩) pos).2))
        generalize (Utf8.decode (a0 ++ ⟨#[32]⟩) pos).1 = r at *
        generalize (Utf8.decode (a0 ++ ⟨#[32]⟩) pos).2 = wd at *
        have hn32 : ((r : Int) == 32) = false := by rw [beq_eq_false_iff_ne]; omega
        have hgt : (126 : Int) < (r : Int) := by omega
        clear e1 e2 hb hwb2 h32 ha HSc HO HB HI hfrom
        go_wp2
        (first | go_ret2 | (rw [Exit.noGoto_ret]; go_ret2))
        exact ⟨_, by rw [E2.out]; rfl, by rw [E1.out]; exact Kd.R_nil _ _ _ _ _, HB2.out⟩
    · have hnx : ∀ ty, (Instr.next (.pointer (some ⟨w.heap.size, 0, none⟩)) true ty).run Tryd.prog wr = _ := fun ty => Lib.run_next_end_at wr w.heap.size (a0 ++ ⟨#[32]⟩) pos ty HI.out hp
      obtain rfl : pos = a0.data.toList.length + 1 := by
        have := HSZ.out
        rw [Array.length_toList]
        show pos = a0.size + 1
        omega
      obtain ⟨e1, e2⟩ := HSc.out.done
      have E1 := Lib.hid e1
      have E2 := Lib.hid e2
      clear e1 e2 HSc HI hfrom
      go_wp2
      (first | go_ret2 | (rw [Exit.noGoto_ret]; go_ret2))
      refine ⟨_, by rw [E2.out]; rfl, ?_, HB.out⟩
      rw [E1.out]
      have := HO.out
      rw [← List.length_map (f := bs)] at this
      exact R_strs this
theorem text_Words.calls (a0 : ByteArray) (r1 : List ByteArray) (r2 : Int) (w : World) (h : text_Words.f a0 = some (r1, r2)) (hW : WOk w) :
    Calls Tryd.prog 13 #[.string a0] w fun e w' => ∃ v0_ : Value, e = .returned (.tuple #[v0_, .int .i64 r2]) ∧ Kd.R Kd.string 9 w' w.heap.size (fun _ => True) v0_ r1 ∧ Below w.heap.size w w' := by
  unfold text_Words.f at h
  split at h
  · rename_i hc
    simp only [Option.some.injEq, Prod.mk.injEq] at h
    obtain ⟨rfl, rfl⟩ := h
    exact words_any a0 hc w
  · cases h
end Go.Proofs.YtnkinkgmceokhaaDoor
