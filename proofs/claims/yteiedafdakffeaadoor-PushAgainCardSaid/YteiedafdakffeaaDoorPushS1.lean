/- The contract of text.Lines. -/
import Derived.Test.YteiedafdakffeaaDoorPushS0
namespace Go.Proofs.YteiedafdakffeaaDoor
set_option linter.unusedVariables false
set_option linter.unusedSimpArgs false
open Go Go.RowKit Go.Proofs Go.Shelf
open Go.Proofs.YteiedafdakffeaaDoorW.PrintWords (Kd)
/-- what Lines tells -/
def text_Lines.f (a0 : ByteArray) : Option (List ByteArray × Int) := if a0.size > 65536 then some ([], 5) else some ((linesL a0.data.toList).map bs, 0)
theorem lines_pieces (l : List UInt8) : linesL l = if (pieces 10 l).getLast? = some [] then (pieces 10 l).dropLast else pieces 10 l := by
  unfold linesL pieces
  by_cases h : (pcs 10 l).2 = []
  · rw [if_pos h, h]; simp
  · rw [if_neg h, if_neg (by simpa using h)]
theorem below_new (w : World) (o : Obj) : Below w.heap.size w (w.alloc o) := (Below.refl _ w).alloc (Nat.le_refl _) o
set_option maxHeartbeats 1000000 in
theorem lines_any (a0 : ByteArray) (w : World) (hW : WOk w) : Calls Tryd.prog 45 #[.string a0] w fun e w' => ∃ v0_ : Value, e = .returned (.tuple #[v0_, .int .i64 (if a0.size > 65536 then 5 else 0)]) ∧
    Kd.R Kd.string 9 w' w.heap.size (fun _ => True) v0_ (if a0.size > 65536 then [] else (linesL a0.data.toList).map bs) ∧ Below w.heap.size w w' := by
  by_cases h : a0.size > 65536
  · rw [if_pos h, if_pos h]
    go_enter Tryd.func45, Tryd.ntmps45
    go_wp2
    go_ret2
    exact ⟨_, rfl, Kd.R_nil _ _ _ _ _, Below.refl _ _⟩
  · rw [if_neg h, if_neg h]
    obtain ⟨m, hm⟩ := hW.len
    have hS := Tryd.strings_Split a0 ⟨#[10]⟩ m w (by omega) hm (Nat.le_refl 1)
    have hp : Lib.splitB ⟨#[10]⟩ 0 (Lib.countB a0 ⟨#[10]⟩) a0 = (pieces 10 a0.data.toList).map bs := splitB_pieces 10 a0.data.toList
    have hl : (pieces 10 a0.data.toList).length = Lib.countB a0 ⟨#[10]⟩ + 1 := pieces_length 10 a0.data.toList
    rw [hp] at hS
    have hcnt : Lib.countB a0 ⟨#[10]⟩ ≤ a0.size := Lib.countB_le ⟨#[10]⟩ (Nat.le_refl 1) a0.size a0 (Nat.le_refl _)
    generalize Lib.countB a0 ⟨#[10]⟩ = n at *
    have hLN := lines_pieces a0.data.toList
    generalize linesL a0.data.toList = L at *
    generalize pieces 10 a0.data.toList = ps at *
    have hlt : n < ps.length := by omega
    obtain ⟨x, hx⟩ : ∃ x, ps[n]? = some x := ⟨ps[n], List.getElem?_eq_getElem hlt⟩
    have hlast : ps.getLast? = some x := by rw [List.getLast?_eq_getElem?, show ps.length - 1 = n by omega, hx]
    obtain ⟨arr, harr⟩ : ∃ arr, ((ps.map bs).map Value.string).toArray = arr := ⟨_, rfl⟩
    rw [harr] at hS
    have ha : arr[n]? = some (.string (bs x)) := by rw [← harr]; simp [hx]
    have HA := Lib.hid harr
    have HL := Lib.hid hl
    have HX := Lib.hid hx
    have HN := Lib.hid hLN
    have HLA := Lib.hid hlast
    have HB : Hid (Below w.heap.size w (w.alloc (.cells arr 9))) := Lib.hid (below_new w _)
    have HNW : Hid ((w.alloc (.cells arr 9)).heap[w.heap.size]? = some (.cells arr 9 (0, 0))) := Lib.hid (World.alloc_heap_new w (.cells arr 9))
    have hkm : n + 1 ≤ maxLen := by unfold maxLen; omega
    have HKM := Lib.hid hkm
    clear hl hx hLN hlast hm hp hW harr hkm
    have htl : arr.toList = (ps.map bs).map Value.string := by rw [← HA.out]
    have HTL := Lib.hid htl
    clear htl
    by_cases hxe : x = []
    · subst hxe
      have HN2 := HN.out
      rw [HLA.out, if_pos rfl] at HN2
      have HN3 := Lib.hid HN2
      have hem : (bs []).toList.isEmpty = true := by simp [bs, ByteArray.toList_eq]
      generalize bs [] = X at *
      clear HN2
      go_enter Tryd.func45, Tryd.ntmps45
      go_wp2_with fail
      refine hS.mono ?_
      rintro e w' ⟨rfl, rfl⟩
      go_wp2
      go_ret2
      have e1 : n = (L.map bs).length := by rw [HN3.out, List.length_map, List.length_dropLast, HL.out]; rfl
      have e2 : arr.toList.take (L.map bs).length = (L.map bs).map Value.string := by
        rw [HTL.out, ← e1, HN3.out, List.dropLast_eq_take, HL.out]
        simp
      refine ⟨_, rfl, ?_, HB.out⟩
      have := R_strs_of (base := w.heap.size) (xs := L.map bs) (cap := n + 1) (Nat.le_refl _) HNW.out (by omega) HKM.out (by have := congrArg List.length HTL.out; simpa [HL.out] using this) e2
      rw [← e1] at this
      exact this
    · have HN2 := HN.out
      rw [HLA.out, if_neg (by simpa using hxe)] at HN2
      have HN3 := Lib.hid HN2
      have hem : (bs x).toList.isEmpty = false := by
        have e : (bs x).toList = x := by simp [bs, ByteArray.toList_eq]
        rw [e]; simpa using hxe
      generalize bs x = X at *
      clear HN2
      go_enter Tryd.func45, Tryd.ntmps45
      go_wp2_with fail
      refine hS.mono ?_
      rintro e w' ⟨rfl, rfl⟩
      go_wp2
      go_ret2
      have e1 : n + 1 = (L.map bs).length := by rw [HN3.out, List.length_map, HL.out]
      have e2 : arr.toList.take (L.map bs).length = (L.map bs).map Value.string := by
        rw [HTL.out, HN3.out, List.take_of_length_le (by simp)]
      refine ⟨_, rfl, ?_, HB.out⟩
      have := R_strs_of (base := w.heap.size) (xs := L.map bs) (cap := n + 1) (Nat.le_refl _) HNW.out (by omega) HKM.out (by have := congrArg List.length HTL.out; simpa [HL.out] using this) e2
      rw [← e1] at this
      exact this
theorem text_Lines.calls (a0 : ByteArray) (r1 : List ByteArray) (r2 : Int) (w : World) (h : text_Lines.f a0 = some (r1, r2)) (hW : WOk w) :
    Calls Tryd.prog 45 #[.string a0] w fun e w' => ∃ v0_ : Value, e = .returned (.tuple #[v0_, .int .i64 r2]) ∧ Kd.R Kd.string 9 w' w.heap.size (fun _ => True) v0_ r1 ∧ Below w.heap.size w w' := by
  have H := lines_any a0 w hW
  unfold text_Lines.f at h
  split at h
  · rename_i hc
    rw [if_pos hc, if_pos hc] at H
    simp only [Option.some.injEq, Prod.mk.injEq] at h
    obtain ⟨rfl, rfl⟩ := h
    exact H
  · rename_i hc
    rw [if_neg hc, if_neg hc] at H
    simp only [Option.some.injEq, Prod.mk.injEq] at h
    obtain ⟨rfl, rfl⟩ := h
    exact H
end Go.Proofs.YteiedafdakffeaaDoor
