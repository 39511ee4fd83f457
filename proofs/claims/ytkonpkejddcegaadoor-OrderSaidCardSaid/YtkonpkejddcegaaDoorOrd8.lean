/- Covers, whole. -/
import Derived.Test.YtkonpkejddcegaaDoorOrd7
import Derived.Test.YtkonpkejddcegaaDoorMarks
namespace Go.Proofs.YtkonpkejddcegaaDoor
set_option linter.unusedVariables false
set_option linter.unusedSimpArgs false
open Go Go.RowKit Go.Proofs Go.Shelf
/-- what Covers has behind k rounds -/
def CovO (w : World) (n k : Nat) (b : Nat) (U D : Nat → Nat → Bool) (W : World) : Prop :=
  (∃ v, W.heap[w.heap.size + 1]? = some (.cells #[v] 22 (0, 0)) ∧ W.ownsRow (w.heap.size + 2) 31 2 v (covTo n U D k).length (prs (covTo n U D k))) ∧
  W.heap[w.heap.size]? = some (.cells #[.pointer (some ⟨b, 0, none⟩)] 24 (0, 0)) ∧ Chg (fun _ => False) w W
theorem own_soft2 {B Bs base : Nat} {e : TypeId} {size : Nat} {W W' : World} {v : Value} {n : Nat} {xs : List Value} (h : Soft B Bs W W') (ho : W.ownsRow base e size v n xs) (hb : v.ownBlock ≠ some Bs) : W'.ownsRow base e size v n xs := by
  obtain ⟨h1, h2⟩ := ho
  refine ⟨h1, ?_⟩
  rcases h2 with h2 | ⟨g, cap, cur, hv, hg, hh, r⟩
  · exact .inl h2
  · exact .inr ⟨g, cap, cur, hv, hg, h.cells hh (by rintro rfl; rw [hv] at hb; exact hb rfl), r⟩
def PairsPost (w : World) (l : List (Nat × Nat)) (e : Ending) (w' : World) : Prop := ∃ v, e = .returned v ∧ w'.ownsRow w.heap.size 31 2 v l.length (prs l) ∧ Chg (fun _ => False) w w'
theorem arr51 (t : Array Value) (h : t.size = 51) : ∃ u : Nat → Value, (∀ i, u i = t.getD i undef) ∧ t = #[u 0, u 1, u 2, u 3, u 4, u 5, u 6, u 7, u 8, u 9, u 10, u 11, u 12, u 13, u 14, u 15, u 16, u 17, u 18, u 19, u 20, u 21, u 22, u 23, u 24, u 25, u 26, u 27, u 28, u 29, u 30, u 31, u 32, u 33, u 34, u 35, u 36, u 37, u 38, u 39, u 40, u 41, u 42, u 43, u 44, u 45, u 46, u 47, u 48, u 49, u 50] := by
  refine ⟨fun i => t.getD i undef, fun _ => rfl, ?_⟩
  rcases t with ⟨l⟩
  simp only [List.size_toArray] at h
  rcases l with _ | ⟨a0, l⟩
  · simp at h
  rcases l with _ | ⟨a1, l⟩
  · simp at h
  rcases l with _ | ⟨a2, l⟩
  · simp at h
  rcases l with _ | ⟨a3, l⟩
  · simp at h
  rcases l with _ | ⟨a4, l⟩
  · simp at h
  rcases l with _ | ⟨a5, l⟩
  · simp at h
  rcases l with _ | ⟨a6, l⟩
  · simp at h
  rcases l with _ | ⟨a7, l⟩
  · simp at h
  rcases l with _ | ⟨a8, l⟩
  · simp at h
  rcases l with _ | ⟨a9, l⟩
  · simp at h
  rcases l with _ | ⟨a10, l⟩
  · simp at h
  rcases l with _ | ⟨a11, l⟩
  · simp at h
  rcases l with _ | ⟨a12, l⟩
  · simp at h
  rcases l with _ | ⟨a13, l⟩
  · simp at h
  rcases l with _ | ⟨a14, l⟩
  · simp at h
  rcases l with _ | ⟨a15, l⟩
  · simp at h
  rcases l with _ | ⟨a16, l⟩
  · simp at h
  rcases l with _ | ⟨a17, l⟩
  · simp at h
  rcases l with _ | ⟨a18, l⟩
  · simp at h
  rcases l with _ | ⟨a19, l⟩
  · simp at h
  rcases l with _ | ⟨a20, l⟩
  · simp at h
  rcases l with _ | ⟨a21, l⟩
  · simp at h
  rcases l with _ | ⟨a22, l⟩
  · simp at h
  rcases l with _ | ⟨a23, l⟩
  · simp at h
  rcases l with _ | ⟨a24, l⟩
  · simp at h
  rcases l with _ | ⟨a25, l⟩
  · simp at h
  rcases l with _ | ⟨a26, l⟩
  · simp at h
  rcases l with _ | ⟨a27, l⟩
  · simp at h
  rcases l with _ | ⟨a28, l⟩
  · simp at h
  rcases l with _ | ⟨a29, l⟩
  · simp at h
  rcases l with _ | ⟨a30, l⟩
  · simp at h
  rcases l with _ | ⟨a31, l⟩
  · simp at h
  rcases l with _ | ⟨a32, l⟩
  · simp at h
  rcases l with _ | ⟨a33, l⟩
  · simp at h
  rcases l with _ | ⟨a34, l⟩
  · simp at h
  rcases l with _ | ⟨a35, l⟩
  · simp at h
  rcases l with _ | ⟨a36, l⟩
  · simp at h
  rcases l with _ | ⟨a37, l⟩
  · simp at h
  rcases l with _ | ⟨a38, l⟩
  · simp at h
  rcases l with _ | ⟨a39, l⟩
  · simp at h
  rcases l with _ | ⟨a40, l⟩
  · simp at h
  rcases l with _ | ⟨a41, l⟩
  · simp at h
  rcases l with _ | ⟨a42, l⟩
  · simp at h
  rcases l with _ | ⟨a43, l⟩
  · simp at h
  rcases l with _ | ⟨a44, l⟩
  · simp at h
  rcases l with _ | ⟨a45, l⟩
  · simp at h
  rcases l with _ | ⟨a46, l⟩
  · simp at h
  rcases l with _ | ⟨a47, l⟩
  · simp at h
  rcases l with _ | ⟨a48, l⟩
  · simp at h
  rcases l with _ | ⟨a49, l⟩
  · simp at h
  rcases l with _ | ⟨a50, l⟩
  · simp at h
  rcases l with _ | ⟨z, l⟩
  · rfl
  · simp at h
def CovW (w : World) (n b : Nat) (U D : Nat → Nat → Bool) (a : Act) (W : World) : Prop :=
  ∃ (k : Nat) (ds : List Nat), k ≤ n ∧ a.defers = ds.map mark ∧ a.tmps.size = 51 ∧ (a.tmps.getD 0 undef = .pointer (some ⟨b, 0, none⟩) ∧ a.tmps.getD 1 undef = .pointer (some ⟨w.heap.size, 0, none⟩) ∧ a.tmps.getD 2 undef = .pointer (some ⟨w.heap.size + 1, 0, none⟩) ∧ a.tmps.getD 6 undef = .int .i64 (n : Int) ∧ a.tmps.getD 7 undef = .int .i64 (k : Int)) ∧
    Marks (w.heap.size + 2) ds W ∧ CovO w n k b U D W
set_option maxHeartbeats 2000000 in
theorem covers_some {w : World} {b bu bd cu cd n : Nat} {U D : Nat → Nat → Bool} (h : IsOrd w b bu bd cu cd n U D) (hT : TabOk w) :
    Calls Tryd.prog 12 #[optr b] w (PairsPost w (covTo n U D n)) := by
  have hl := h.lt
  have n16 := h.n16
  unfold optr
  refine (callsIn_wide (n := 9)).1 ?_
  refine callsIn_of_wp_marks Tryd.func12 rfl trivial ?_ rfl
  simp only [Tryd.ntmps12, List.size_toArray, List.length_cons, List.length_nil, Nat.reduceAdd, Nat.reduceSub, Array.replicate_succ, Array.replicate_zero, List.push_toArray, List.append_toArray, List.nil_append, List.cons_append]
  refine wpIn_wide.2 ?_
  have hO : IsOrd ((w.alloc (.cells #[.pointer (some ⟨b, 0, none⟩)] 24)).alloc (.cells #[.slice none 0 0] 22)) b bu bd cu cd n U D := h.keep fun k c t f _ e => heap_alloc (heap_alloc e)
  have hM := many_some hO
  unfold optr at hM
  go_wp2_with fail
  refine hM.mono ?_
  rintro e w' ⟨rfl, rfl⟩
  clear hM
  go_wp2_with fail
  refine wp_loop (CovW w n b U D) (fun a _ => n - (intOf (a.tmps.getD 7 undef)).toNat) ?_ (fun a W hI => ?_)
  · refine ⟨0, [], by omega, rfl, rfl, ⟨rfl, rfl, rfl, rfl, rfl⟩, ⟨List.nodup_nil, fun _ h => by cases h⟩, ⟨_, heap_new1 w _ _, ?_⟩, heap_alloc (heap_new _ _), ((Chg.refl _ _).alloc _).alloc _⟩
    simpa [covTo, prs] using World.ownsRow_nil _ _ _ _
  · obtain ⟨tm, df⟩ := a
    obtain ⟨k, ds, hk, hdf, hsz, ⟨s0, s1, s2, s6, s7⟩, hm, hI⟩ := hI
    simp only at hdf hsz s0 s1 s2 s6 s7
    subst hdf
    obtain ⟨u, hu, ht⟩ := arr51 tm hsz
    rw [← hu] at s0 s1 s2 s6 s7
    rw [s0, s1, s2, s6, s7] at ht
    subst ht
    clear hu s0 s1 s2 s6 s7 hsz
    obtain ⟨⟨v, i1, hrow⟩, i2, i4⟩ := hI
    have hsz := i4.size
    have k1 := lt_of_heap i1
    have k2 := lt_of_heap i2
    have c1 := cell_of_heap i2 0
    have c7 := cell_of_heap i1 0
    have c8 := free_of_heap i1 0
    have hO := h.chg i4 (fun _ _ e => e)
    simp at c1 c7
    by_cases hlt : k < n
    · have I1 := Lib.hid i1
      have I2 := Lib.hid i2
      have I4 := Lib.hid i4
      have Hrow := Lib.hid hrow
      have Hm := Lib.hid hm
      have HT := Lib.hid hT
      have HO := Lib.hid hO
      have Hh := Lib.hid h
      have c2 := hO.up
      have c4 := hO.hu k hlt
      have hko := hO.lt
      have hw1 := shl_one k (by omega)
      have hand : bits BinOp.andNot IntKind.u32 ((msk n (U k) : Nat) : Int) ((2 : Int) ^ k) = ((msk n (abv U k) : Nat) : Int) := by
        have e := andNot_one n k (U k) n16 (by omega)
        simp at e
        exact e
      clear i1 i2 i4 hrow hm hT hO h
      go_wp2_with fail
      generalize hW1 : W.alloc (.cells #[.int .i64 (k : Int)] 3) = W1
      have e1 : W1.cell? ⟨w.heap.size, 0, none⟩ = some (.pointer (some ⟨b, 0, none⟩)) := by rw [← hW1]; exact cell_of_heap (heap_alloc I2.out) 0
      have e2 : W1.cell? ⟨b, 0, none⟩ = some (.slice (some ⟨bu, 0, none⟩) n cu) := by rw [← hW1]; exact cell_of_heap (heap_alloc HO.out.hb) 0
      have e3 : W1.cell? ⟨bu, k, none⟩ = some (.int .u32 (msk n (U k) : Nat)) := by
        obtain ⟨xs, x1, x2⟩ := HO.out.hU
        rw [← hW1]; exact (cell_of_heap (heap_alloc x1) k).trans (x2 k hlt)
      have e4 : W1.cell? ⟨W.heap.size, 0, none⟩ = some (.int .i64 (k : Int)) := by rw [← hW1]; exact cell_of_heap (heap_new _ _) 0
      have HW1 := Lib.hid hW1
      clear hW1 c1 c2 c4 c7 c8
      generalize hmU : msk n (U k) = mU at e3 hand
      have HmU := Lib.hid hmU
      clear hmU
      have hS : W1.drew.cell? ⟨w.heap.size, 0, none⟩ = some (.pointer (some ⟨b, 0, none⟩)) ∧ W1.drew.cell? ⟨b, 0, none⟩ = some (.slice (some ⟨bu, 0, none⟩) n cu) ∧ W1.drew.cell? ⟨bu, k, none⟩ = some (.int .u32 (mU : Int)) ∧ W1.drew.cell? ⟨W.heap.size, 0, none⟩ = some (.int .i64 (k : Int)) := ⟨e1, e2, e3, e4⟩
      refine region_lone_np (fun W' => W'.cell? ⟨w.heap.size, 0, none⟩ = some (.pointer (some ⟨b, 0, none⟩)) ∧ W'.cell? ⟨b, 0, none⟩ = some (.slice (some ⟨bu, 0, none⟩) n cu) ∧ W'.cell? ⟨bu, k, none⟩ = some (.int .u32 (mU : Int)) ∧ W'.cell? ⟨W.heap.size, 0, none⟩ = some (.int .i64 (k : Int))) [] (by kernel_rfl) ?_
      refine take_one 0 hS rfl (by kernel_rfl) rfl ?_
      apply Exists.intro
      refine And.intro (fun W' hS' => ?y0) (And.intro (fun _ _ _ h => h) ?_)
      case y0 => obtain ⟨d1, d2, d3, d4⟩ := hS'; go_simp; rfl
      refine take_one 1 hS rfl (by kernel_rfl) rfl ?_
      apply Exists.intro
      refine And.intro (fun W' hS' => ?y1) (And.intro (fun _ _ _ h => h) ?_)
      case y1 => obtain ⟨d1, d2, d3, d4⟩ := hS'; go_simp; rfl
      refine take_one 2 hS rfl (by kernel_rfl) rfl ?_
      apply Exists.intro
      refine And.intro (fun W' hS' => ?y2) (And.intro (fun _ _ _ h => h) ?_)
      case y2 => obtain ⟨d1, d2, d3, d4⟩ := hS'; go_simp; rfl
      refine take_one 3 hS rfl (by kernel_rfl) rfl ?_
      apply Exists.intro
      refine And.intro (fun W' hS' => ?y3) (And.intro (fun _ _ _ h => h) ?_)
      case y3 => obtain ⟨d1, d2, d3, d4⟩ := hS'; go_simp; rfl
      refine take_one 4 hS rfl (by kernel_rfl) rfl ?_
      apply Exists.intro
      refine And.intro (fun W' hS' => ?y4) (And.intro (fun _ _ _ h => h) ?_)
      case y4 => obtain ⟨d1, d2, d3, d4⟩ := hS'; go_simp; rfl
      refine take_one 5 hS rfl (by kernel_rfl) rfl ?_
      apply Exists.intro
      refine And.intro (fun W' hS' => ?y5) (And.intro (fun _ _ _ h => h) ?_)
      case y5 => obtain ⟨d1, d2, d3, d4⟩ := hS'; go_simp; rfl
      refine take_one 6 hS rfl (by kernel_rfl) rfl ?_
      apply Exists.intro
      refine And.intro (fun W' hS' => ?y6) (And.intro (fun _ _ _ h => h) ?_)
      case y6 => obtain ⟨d1, d2, d3, d4⟩ := hS'; go_simp; rfl
      refine take_one 7 hS rfl (by kernel_rfl) rfl ?_
      apply Exists.intro
      refine And.intro (fun W' hS' => ?y7) (And.intro (fun _ _ _ h => h) ?_)
      case y7 => obtain ⟨d1, d2, d3, d4⟩ := hS'; go_simp; rfl
      refine take_one 8 hS rfl (by kernel_rfl) rfl ?_
      apply Exists.intro
      refine And.intro (fun W' hS' => ?y8) (And.intro (fun _ _ _ h => h) ?_)
      case y8 => obtain ⟨d1, d2, d3, d4⟩ := hS'; go_simp; rfl
      refine take_one 9 hS rfl (by kernel_rfl) rfl ?_
      apply Exists.intro
      refine And.intro (fun W' hS' => ?y9) (And.intro (fun _ _ _ h => h) ?_)
      case y9 => obtain ⟨d1, d2, d3, d4⟩ := hS'; go_simp; rfl
      refine only_one 10 rfl (by kernel_rfl) rfl ?_
      go_simp
      refine (all_any _ _).mono ?_
      rintro e w' ⟨rfl, rfl⟩
      refine ⟨⟨cell_alloc (w := W1.drew) e1 _, cell_alloc (w := W1.drew) e2 _, cell_alloc (w := W1.drew) e3 _, cell_alloc (w := W1.drew) e4 _⟩, ?_⟩
      refine all_done (by kernel_rfl) (NoPanic.normal ?_) _
      go_wp2
      have hz1 : W1.heap.size = W.heap.size + 1 := by rw [← HW1.out]; simp
      have f1 : W1.heap[w.heap.size + 1]? = some (.cells #[v] 22 (0, 0)) := by rw [← HW1.out]; exact heap_alloc I1.out
      have f2 : W1.heap[w.heap.size]? = some (.cells #[.pointer (some ⟨b, 0, none⟩)] 24 (0, 0)) := by rw [← HW1.out]; exact heap_alloc I2.out
      have f3 : W1.heap[W.heap.size]? = some (.cells #[.int .i64 (k : Int)] 3 (0, 0)) := by rw [← HW1.out]; exact heap_new _ _
      have f4 : Chg (fun _ => False) w W1 := by rw [← HW1.out]; exact I4.out.alloc _
      have f5 : W1.ownsRow (w.heap.size + 2) 31 2 v (covTo n U D k).length (prs (covTo n U D k)) := by rw [← HW1.out]; exact own_keep Hrow.out fun _ _ _ _ _ e => heap_alloc e
      have f6 : Marks (w.heap.size + 2) ds W1 := by rw [← HW1.out]; exact Hm.out.keep fun _ _ _ e => heap_alloc e
      have hT1 : TabOk W1.drew := HT.out.chg f4.drew (fun h => h)
      have hlen := covTo_len n U D k
      have hlen2 : (covTo n U D k).length ≤ 16 * 16 := Nat.le_trans hlen (Nat.mul_le_mul (by omega) n16)
      refine range_set1 (Bs := W1.heap.size) (by simp) rfl n (abv U k) n16 (heap_new W1.drew _) (by omega) (hT1.alloc _)
        (fun pre W' => CovI w b bu bd cu cd n W.heap.size k U D (covTo n U D k) pre W' ∧ Marks (w.heap.size + 2) ds W' ∧ ∃ c, W'.heap[W1.heap.size]? = some (.cells c 49 (0, 0)))
        (fun _ _ _ => False) ?hI (fun _ _ _ _ _ h => h) ?h0 ?body ?done (fun _ _ _ _ _ h => h.elim)
      case hI =>
        rintro s W2 W' hs ⟨⟨⟨v, i1, i2⟩, i3, i4, i5⟩, i6, c, i7⟩
        refine ⟨⟨⟨v, hs.cells i1 (by omega), own_soft2 hs i2 ?_⟩, hs.cells i3 (by omega), hs.cells i4 (by omega), hs.chg i5 (by simp; omega) (.inr (by omega))⟩, i6.keep fun D h1 h2 h3 => hs.old h3 ?_ ?_, hs.setcells i7⟩
        · exact own_ne i2 i7 (by decide)
        · have := f6.lt h2; simp; omega
        · have := f6.lt h2; omega
      case h0 =>
        refine ⟨⟨⟨v, heap_alloc (w := W1.drew) f1, ?_⟩, heap_alloc (w := W1.drew) f2, heap_alloc (w := W1.drew) f3, f4.drew.alloc _⟩, f6.keep fun _ _ _ e => heap_alloc (w := W1.drew) e, _, heap_new W1.drew _⟩
        have e : covRow n U D k [] = [] := rfl
        rw [e, List.append_nil]
        exact own_keep f5 fun _ _ _ _ _ e => heap_alloc (w := W1.drew) e
      case body =>
        rintro l t x W2 ht hp hx hl ⟨hci, hmk, cc, hcc⟩
        refine wpIn_mono (cov_round w b bu bd cu cd n W.heap.size k l t x U D (covTo n U D k) W2 Hh.out hlt hx (by omega) hlen2 (by omega) W1.heap.size (by omega) hci _ _ _ _ _ _ _ _ _ _ _ _ _ _ _ _ _ _ _ _ _ _ _ _ _ _ _ _ _ _ _ _ _ _ _ _ _ _ _ _ _ _ _ _ _ _) ?_
        rintro e a W3 hp
        cases e with
        | normal => exact ⟨hp.1, hp.2.1, hp.2.2, hmk.keep fun D _ _ e => hp.1.same _ _ e rfl, cc, hp.2.1.1 _ hcc⟩
        | ret => exact hp
        | exit id => exact hp
        | goto t => exact hp
        | panic c => exact hp.elim
        | outgrown => exact hp.elim
      case done =>
        rintro E W2 hE ⟨⟨⟨v2, i1, i2⟩, i3, i4, i5⟩, i6, _⟩ hd
        rw [← covTo_succ] at i2
        have hk1 : k + 1 ≤ n := hlt
        simp at hE
        have HI : Hid (CovO w n (k + 1) b U D W2) := Lib.hid ⟨⟨v2, i1, i2⟩, i3, i5⟩
        have HM : Hid (Marks (w.heap.size + 2) (E :: ds) W2) := Lib.hid (i6.cons (by omega) hd (fun hm => by have := f6.lt hm; omega))
        clear i1 i2 i3 i4 i5 i6 hd e1 e2 e3 e4 hS f1 f2 f3 f4 f5 f6 hT1 hlen hlen2 hand hw1
        go_wp2
        refine ⟨⟨k + 1, E :: ds, hk1, rfl, rfl, ⟨rfl, rfl, rfl, rfl, ?_⟩, HM.out, HI.out⟩, ?_⟩
        · simp
        · simp [intOf]; omega
    · obtain rfl : k = n := by omega
      obtain ⟨sa, sl, sc, rfl⟩ := own_slice hrow
      have I4 := Lib.hid i4
      have Hrow := Lib.hid hrow
      have Hm := Lib.hid hm
      have I1 := Lib.hid i1
      clear hrow i4 hm h hT hO i1
      go_wp2
      refine leaves_marks ds _ (Hm.out.keep fun D h1 h2 e => heap_setCell e (by show D ≠ w.heap.size + 1; omega) _) (fun W' hW' => ?_)
      have hc : W'.cell? ⟨w.heap.size + 1, 0, none⟩ = some (.slice sa sl sc) := cell_of_heap (hW'.cells _ _ _ _ (heap_setCell_cells I1.out 0 _)) 0
      refine ⟨.slice sa sl sc, by simp [results, Tryd.results12, go_sem, hc], _, rfl, own_mono (own_keep Hrow.out fun j c t f hj e => hW'.cells _ _ _ _ (heap_setCell e (by show j ≠ w.heap.size + 1; omega) _)) (by omega), ?_⟩
      exact hW'.chg (I4.out.setCell (.inr (by simp)) _) (by omega)
end Go.Proofs.YtkonpkejddcegaaDoor
