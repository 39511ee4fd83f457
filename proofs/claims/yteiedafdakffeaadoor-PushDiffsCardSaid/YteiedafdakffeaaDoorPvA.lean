/- push: the document's lines of a text. -/
import Derived.Test.YteiedafdakffeaaDoorPuX
namespace Go.Proofs.YteiedafdakffeaaDoor
set_option linter.unusedVariables false
set_option linter.unusedSimpArgs false
open Go Go.RowKit Go.Proofs
open Go.Proofs.YteiedafdakffeaaDoorW.PrintWords (Kd ReadsInt ReadsOf gate_store gate_dst own_move)
theorem pcs_snoc' (c : UInt8) (l : List UInt8) (b : UInt8) : pcs c (l ++ [b]) = stp c (pcs c l) b := by
  unfold pcs
  rw [List.foldl_append]
  rfl
theorem take_byte (s : ByteArray) (j : Nat) (h : j < s.size) : s.data.toList.take (j + 1) = s.data.toList.take j ++ [s[j]] := by
  rw [List.take_succ_eq_append_getElem (by simpa using h)]
  rfl
theorem bs_extract (s : ByteArray) (f j : Nat) : bs ((s.data.toList.take j).drop f) = s.extract f j := by
  apply ByteArray.ext
  unfold bs
  rw [ByteArray.data_extract]
  apply Array.toList_inj.1
  simp [Array.toList_extract, List.drop_take]
def linesO (s : ByteArray) (j : Nat) : List ByteArray := (pcs 10 (s.data.toList.take j)).1.map bs
theorem linesO_len (s : ByteArray) (j : Nat) (hj : j ≤ s.size) : (linesO s j).length ≤ j := by
  unfold linesO
  have h := pcs_len 10 (s.data.toList.take j) [] []
  have hz : (s.data.toList.take j).length ≤ j := List.length_take_le _ _
  rw [List.length_map]
  exact Nat.le_trans h (by rw [List.length_nil]; omega)
theorem linesO_yes (s : ByteArray) (j f : Nat) (hj : j < s.size) (hf : (pcs 10 (s.data.toList.take j)).2 = (s.data.toList.take j).drop f) (h : (s[j]).toNat = 10) :
    linesO s (j + 1) = linesO s j ++ [s.extract f j] ∧ (pcs 10 (s.data.toList.take (j + 1))).2 = (s.data.toList.take (j + 1)).drop (j + 1) := by
  have h10 : s[j] = 10 := UInt8.toNat_inj.1 h
  have e : pcs 10 (s.data.toList.take (j + 1)) = ((pcs 10 (s.data.toList.take j)).1 ++ [(pcs 10 (s.data.toList.take j)).2], []) := by
    rw [take_byte s j hj, pcs_snoc', stp, if_pos h10]
  unfold linesO
  rw [e]
  refine ⟨?_, ?_⟩
  · simp only [List.map_append, List.map_cons, List.map_nil, hf, bs_extract]
  · symm
    exact List.drop_of_length_le (List.length_take_le _ _)
theorem linesO_no (s : ByteArray) (j f : Nat) (hj : j < s.size) (hfj : f ≤ j) (hf : (pcs 10 (s.data.toList.take j)).2 = (s.data.toList.take j).drop f) (h : ¬ (s[j]).toNat = 10) :
    linesO s (j + 1) = linesO s j ∧ (pcs 10 (s.data.toList.take (j + 1))).2 = (s.data.toList.take (j + 1)).drop f := by
  have h10 : ¬ s[j] = 10 := fun e => h (by rw [e]; rfl)
  have e : pcs 10 (s.data.toList.take (j + 1)) = ((pcs 10 (s.data.toList.take j)).1, (pcs 10 (s.data.toList.take j)).2 ++ [s[j]]) := by
    rw [take_byte s j hj, pcs_snoc', stp, if_neg h10]
  unfold linesO
  rw [e]
  refine ⟨rfl, ?_⟩
  simp only
  have hzz : s.data.toList.length = s.size := by rw [Array.length_toList]; rfl
  have hz : (s.data.toList.take j).length = j := by rw [List.length_take]; omega
  rw [hf, take_byte s j hj, List.drop_append_of_le_length (by omega)]
theorem linesO_end (s : ByteArray) (f : Nat) (hf : (pcs 10 (s.data.toList.take s.size)).2 = (s.data.toList.take s.size).drop f) : lnsOf s = if f < s.size then linesO s s.size ++ [s.extract f s.size] else linesO s s.size := by
  have hz : s.data.toList.length = s.size := by rw [Array.length_toList]; rfl
  have ht : s.data.toList.take s.size = s.data.toList := List.take_of_length_le (by omega)
  have hx := bs_extract s f s.size
  unfold lnsOf linesL linesO
  rw [ht] at hf hx ⊢
  by_cases h : f < s.size
  · have hne : ¬ (pcs 10 s.data.toList).2 = [] := by
      rw [hf]
      intro e
      have := congrArg List.length e
      rw [List.length_drop, hz] at this
      simp at this
      omega
    rw [if_pos h, if_neg hne, List.map_append]
    simp only [List.map_cons, List.map_nil]
    rw [hf, hx]
  · have he : (pcs 10 s.data.toList).2 = [] := by rw [hf]; exact List.drop_of_length_le (by omega)
    rw [if_neg h, if_pos he]
set_option maxRecDepth 100000 in
set_option maxHeartbeats 4000000 in
theorem rlns_long (w : World) (s : ByteArray) (h : s.size > 65536) : Calls Tryd.prog 49 #[.string s] w fun e w' => e = .returned (.tuple #[.slice none 0 0, .int .i64 5]) ∧ Chg (fun _ => False) w w' := by
  have hd : decide ((65536 : Int) < (s.size : Int)) = true := decide_eq_true (by omega)
  go_enter Tryd.func49, Tryd.ntmps49
  go_wp2_with fail
  go_ret2
  exact ⟨rfl, Chg.refl _ _⟩
set_option maxRecDepth 100000 in
set_option maxHeartbeats 4000000 in
theorem rlns_fits (w : World) (s : ByteArray) (h : ¬ s.size > 65536) : Calls Tryd.prog 49 #[.string s] w fun e w' => ∃ v, e = .returned (.tuple #[v, .int .i64 0]) ∧ w'.ownsRow w.heap.size 9 1 v (lnsOf s).length ((lnsOf s).map Value.string) ∧ Chg (fun _ => False) w w' := by
  obtain ⟨i9, hi9, hz90, hz91, hz92⟩ := info_parts info9
  have hs : s.size ≤ 65536 := by omega
  clear h
  go_enter Tryd.func49, Tryd.ntmps49
  go_wp2_with fail
  go_loopw [4, 5, 6] (fun o fr i wr => ∃ j f : Nat, j ≤ s.size ∧ f ≤ j ∧ i = .int .i64 j ∧ fr = .int .i64 f ∧ wr.ownsRow w.heap.size 9 1 o (linesO s j).length ((linesO s j).map Value.string) ∧ (pcs 10 (s.data.toList.take j)).2 = (s.data.toList.take j).drop f ∧ Chg (fun _ => False) w wr) (fun _ _ i _ => s.size - (intOf i).toNat)
  case atStart => exact ⟨0, 0, by omega, by omega, rfl, rfl, World.ownsRow_nil _ _ _ _, rfl, Chg.refl _ _⟩
  case round =>
    obtain ⟨j, f, hj, hfj, rfl, rfl, hO, hF, hC⟩ := hrel
    have hol := linesO_len s j hj
    have HOJ := Lib.hid hO
    have HFJ := Lib.hid hF
    have HCJ := Lib.hid hC
    have hszJ := hC.size
    clear hO hF hC
    by_cases hlt : j < s.size
    · by_cases hten : (s[j]).toNat = 10
      · have ht : (((s[j]).toNat : Int) == 10) = true := by rw [hten]; rfl
        have HST := Lib.hid (linesO_yes s j f hlt HFJ.out hten)
        clear hten
        go_wp2_with (at_builtin; refine wpList_append_own_at _ rfl _ _ 24 rfl w.heap.size 9 i9 (.string ByteArray.empty) 1 16 Tryd.underlying24 hi9 hz90 hz91 hz92 rfl (by decide) _ _ _ rfl (HOJ.out.alloc _) ⟨wr.heap.size, 0, none⟩ 1 1 [.string (s.extract f j)] rfl rfl ?c1 ?c2 ?c3 ?c4 ?c5 ?_)
        case c1 => exact cell_one_new _ _ _
        case c2 => simp [Value.oneCell']
        case c3 => unfold maxLen; omega
        case c4 => omega
        case c5 => simp; omega
        intro v' w1 hown' hgrow _ hat
        have HO1 : Hid (w1.ownsRow w.heap.size 9 1 v' (linesO s (j + 1)).length ((linesO s (j + 1)).map Value.string)) := Lib.hid (by
          rw [HST.out.1, List.length_append, List.map_append]
          exact hown')
        have HC1 := Lib.hid ((HCJ.out.alloc _).grown hgrow (fun q hq => .inr (own_block HOJ.out hq)))
        have HF1 := Lib.hid HST.out.2
        clear hown' hgrow hat HST
        go_wp2_with fail
        go_roundw
        case rel => exact ⟨j + 1, j + 1, by omega, by omega, by go_num, by go_num, HO1.out, HF1.out, HC1.out⟩
        case measure => simp [intOf] <;> omega
      · have ht : (((s[j]).toNat : Int) == 10) = false := beq_eq_false_iff_ne.2 (by omega)
        have HST := Lib.hid (linesO_no s j f hlt hfj HFJ.out hten)
        clear hten
        go_wp2_with fail
        go_roundw
        case rel => exact ⟨j + 1, f, by omega, by omega, by go_num, by go_num, by rw [HST.out.1]; exact HOJ.out, HST.out.2, HCJ.out⟩
        case measure => simp [intOf] <;> omega
    · obtain rfl : j = s.size := by omega
      have HE := Lib.hid (linesO_end s f HFJ.out)
      by_cases hfs : f < s.size
      · have HE2 : Hid (lnsOf s = linesO s s.size ++ [s.extract f s.size]) := Lib.hid (by rw [HE.out, if_pos hfs])
        clear HE
        go_wp2_with (at_builtin; refine wpList_append_own_at _ rfl _ _ 24 rfl w.heap.size 9 i9 (.string ByteArray.empty) 1 16 Tryd.underlying24 hi9 hz90 hz91 hz92 rfl (by decide) _ _ _ rfl (HOJ.out.alloc _) ⟨wr.heap.size, 0, none⟩ 1 1 [.string (s.extract f s.size)] rfl rfl ?d1 ?d2 ?d3 ?d4 ?d5 ?_)
        case d1 => exact cell_one_new _ _ _
        case d2 => simp [Value.oneCell']
        case d3 => unfold maxLen; omega
        case d4 => omega
        case d5 => simp; omega
        intro v' w1 hown' hgrow _ hat
        have HO1 : Hid (w1.ownsRow w.heap.size 9 1 v' (lnsOf s).length ((lnsOf s).map Value.string)) := Lib.hid (by
          rw [HE2.out, List.length_append, List.map_append]
          exact hown')
        have HC1 := Lib.hid ((HCJ.out.alloc _).grown hgrow (fun q hq => .inr (own_block HOJ.out hq)))
        clear hown' hgrow hat HE2
        go_wp2_with fail
        go_ret2
        exact ⟨_, rfl, HO1.out, HC1.out⟩
      · have HE2 : Hid (lnsOf s = linesO s s.size) := Lib.hid (by rw [HE.out, if_neg hfs])
        clear HE
        go_wp2_with fail
        go_ret2
        exact ⟨_, rfl, by rw [HE2.out]; exact HOJ.out, HCJ.out⟩
end Go.Proofs.YteiedafdakffeaaDoor
