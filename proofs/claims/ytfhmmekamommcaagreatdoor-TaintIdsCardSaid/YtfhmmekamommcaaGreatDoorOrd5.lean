/- slices.Collect of a set's elements; Up, Down. -/
import Derived.Test.YtfhmmekamommcaaGreatDoorOrd4
import Derived.OwnWalk
import Derived.Maps.AppendAt
import Derived.RangeFuncBox
namespace Go.Proofs.YtfhmmekamommcaaGreatDoor
set_option linter.unusedVariables false
set_option linter.unusedSimpArgs false
open Go Go.RowKit Go.Proofs Go.Shelf
theorem infoInt : (Tryz.prog.info? 3).map (fun i => (i.zero, i.size, i.bytes)) = some (some (.int .i64 0), 1, 8) := by kernel_rfl
def nints (l : List Nat) : List Value := l.map fun (x : Nat) => .int .i64 (x : Int)
theorem ownsRow_soft {B Bs base : Nat} {e : TypeId} {W W' : World} {v : Value} {n : Nat} {xs : List Value} (h : Soft B Bs W W') (ho : W.ownsRow base e 1 v n xs) (hb : Bs < base) : W'.ownsRow base e 1 v n xs := by
  obtain ⟨h1, h2⟩ := ho
  refine ⟨h1, ?_⟩
  rcases h2 with h2 | ⟨g, cap, cur, hv, hg, hh, r⟩
  · exact .inl h2
  · exact .inr ⟨g, cap, cur, hv, hg, h.cells hh (by omega), r⟩
theorem els_length (n : Nat) (p : Nat → Bool) : (els n p).length ≤ n := by
  unfold els
  exact Nat.le_trans (List.length_filter_le _ _) (by simp)
def SeqPost (w : World) (l : List Nat) (S : Nat → Prop) (e : Ending) (w' : World) : Prop := ∃ v, e = .returned v ∧ w'.ownsRow w.heap.size 3 1 v l.length (nints l) ∧ Chg S w w'
set_option maxHeartbeats 1000000 in
theorem appendSeq_set (w : World) (Bs n : Nat) (p : Nat → Bool) (hn : n ≤ 16) (hB : w.heap[Bs]? = some (.cells #[.int .u32 (msk n p : Nat)] 153 (0, 0))) (hT : TabOk w) (hBs0 : Bs ≠ 1) :
    Calls Tryz.prog 198 #[.slice none 0 0, .func (.func 112) #[] #[.pointer (some ⟨Bs, 0, none⟩)]] w (SeqPost w (els n p) (fun k => k = Bs)) := by
  have hT0 : 1 < w.heap.size := World.block_lt_of_cell? _ _ (hT 0 (by omega))
  obtain ⟨i0, hi, hz0, hz1, hz2⟩ := info_parts infoInt
  have m1 := lt_of_heap hB
  refine (callsIn_wide (n := 9)).1 ?_
  refine callsIn_of_wp_marks Tryz.func198 rfl trivial ?_ rfl
  simp only [Tryz.ntmps198, List.size_toArray, List.length_cons, List.length_nil, Nat.reduceAdd, Nat.reduceSub, Array.replicate_succ, Array.replicate_zero, List.push_toArray, List.append_toArray, List.nil_append, List.cons_append]
  refine wpIn_wide.2 ?_
  go_wp2
  refine range_set1 (Bs := Bs) (by simp) rfl n p hn (heap_alloc hB) hBs0 (hT.alloc _)
    (fun pre W => (∃ v, W.heap[w.heap.size]? = some (.cells #[v] 50 (0, 0)) ∧ W.ownsRow (w.heap.size + 1) 3 1 v pre.length (nints pre)) ∧ Chg (fun k => k = Bs) w W)
    (fun _ _ _ => False) ?hI (fun _ _ _ _ _ h => h) ?h0 ?body ?done (fun _ _ _ _ _ h => h.elim)
  case hI =>
    rintro s W W' hs ⟨⟨v, i1, i2⟩, i3⟩
    exact ⟨⟨v, hs.cells i1 (by omega), ownsRow_soft hs i2 (by omega)⟩, hs.chg i3 (by simp) (.inl rfl)⟩
  case h0 =>
    exact ⟨⟨_, heap_new w _, (by simpa [nints] using World.ownsRow_nil _ _ _ _)⟩, (Chg.refl _ _).alloc _⟩
  case body =>
    rintro l t x W ht hp hx hl ⟨⟨v, i1, hrow⟩, i3⟩
    have hlen := els_length t p
    have c1 := cell_of_heap i1 0
    have c2 := free_of_heap i1 0
    have hsz := i3.size
    have k1 := lt_of_heap i1
    simp at c1
    have I3 := Lib.hid i3
    have I1 := Lib.hid i1
    have HB := Lib.hid hB
    clear i3 i1 hB hT
    refine wpIn_block (region_round_lit (by kernel_rfl) (fun ⟨_, _, h⟩ => h) ?_)
    go_wp2_with (at_builtin; refine wpList_append_own_at _ rfl _ _ 50 rfl (w.heap.size + 1) 3 i0 (.int .i64 0) 1 8 Tryz.underlying50 hi hz0 hz1 hz2 rfl (by decide) _ _ _ rfl (hrow.alloc _) ⟨W.heap.size, 0, none⟩ 1 1 [.int .i64 (x : Int)] rfl rfl ?c1 ?c2 ?c3 ?c4 ?c5 ?_)
    case c1 => exact cell_one_new _ _ _
    case c2 => simp [Value.oneCell']
    case c3 => unfold maxLen; omega
    case c4 => omega
    case c5 => simp; omega
    intro v' w1 hown' hgrow _ hat
    have hrb := fun k (hk : v.ownBlock = some k) => own_block hrow hk
    have hb1 : w1.heap[w.heap.size]? = some (.cells #[v] 50 (0, 0)) := grown_keep hgrow (heap_alloc I1.out) (fun e => by have := hrb _ e; omega)
    have c1' := cell_of_heap hb1 0
    have c2' := free_of_heap hb1 0
    simp at c1'
    have hc1 : Chg (fun k => k = Bs) w w1 := (I3.out.alloc _).grown hgrow (fun k e => .inr (by have := hrb _ e; omega))
    have hko := grown_others hrow hgrow
    have hsm := grown_same hrow hgrow
    have HKO := Lib.hid hko
    have HSM := Lib.hid hsm
    have HO := Lib.hid hown'
    have HB1 := Lib.hid hb1
    have HC1 := Lib.hid hc1
    have HR := Lib.hid hrb
    obtain ⟨g', cap', rfl⟩ := ownsRow_succ hown'
    clear hgrow hown' hb1 hc1 hrb hat hrow hko hsm
    go_wp2
    refine ⟨HKO.out.trans (KeepsOthers.setCell _ _ _), ⟨fun c e => heap_setCell ((HSM.out _ (lt_of_heap e) (by omega)).trans e) (by simp; omega) _, fun h => h.block fun c t f e => heap_setCell ((HSM.out _ (lt_of_heap e) (by omega)).trans e) (by simp; omega) _⟩, ⟨.slice (some ⟨g', 0, none⟩) ((els t p).length + 1) cap', ?_, ?_⟩, HC1.out.setCell (.inr (Nat.le_refl _)) _⟩
    · rw [heap_setCell_cells HB1.out]; rfl
    · have e : nints (els t p ++ [x]) = nints (els t p) ++ [.int .i64 (x : Int)] := by simp [nints]
      rw [e, List.length_append]
      exact own_keep HO.out fun k c t f hk h => heap_setCell h (by simp; omega) _
  case done =>
    rintro D W hD ⟨⟨v, i1, i2⟩, i3⟩ hd
    have c1 := cell_of_heap i1 0
    simp at c1
    simp at hD
    have I3 := Lib.hid i3
    have I2 := Lib.hid i2
    have Hd := Lib.hid hd
    clear i3 i2 hd i1 hB hT
    go_wp2
    refine ⟨by simp, .inl ⟨_, _, rfl, run_takeDeferred Hd.out, ?_⟩⟩
    refine ⟨_, results_tmp rfl _ _ _, _, rfl, ?_, ?_⟩
    · refine own_mono (own_keep I2.out fun k c t f hk h => (World.putObj_heap_other ?_).trans h) (by omega)
      rintro rfl
      rw [Hd.out] at h
      cases h
    · exact I3.out.grown (grownBy_putObj' W D _) (fun k e => by cases e; exact .inr (by omega))
theorem collect_set (w : World) (Bs n : Nat) (p : Nat → Bool) (hn : n ≤ 16) (hB : w.heap[Bs]? = some (.cells #[.int .u32 (msk n p : Nat)] 153 (0, 0))) (hT : TabOk w) (hBs0 : Bs ≠ 1) :
    Calls Tryz.prog 174 #[.func (.func 112) #[] #[.pointer (some ⟨Bs, 0, none⟩)]] w (SeqPost w (els n p) (fun k => k = Bs)) := by
  have h := appendSeq_set w Bs n p hn hB hT hBs0
  have H := Lib.hid h
  clear h hB hT
  go_enter Tryz.func174, Tryz.ntmps174
  go_wp2_with (go_at_call 198; refine H.out.mono ?_; rintro e w' ⟨v, rfl, h1, h2⟩)
  go_ret
  exact ⟨v, rfl, h1, h2⟩
end Go.Proofs.YtfhmmekamommcaaGreatDoor
