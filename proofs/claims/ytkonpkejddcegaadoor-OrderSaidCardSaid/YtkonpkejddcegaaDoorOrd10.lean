/- Line, whole. -/
import Derived.Test.YtkonpkejddcegaaDoorOrd9
namespace Go.Proofs.YtkonpkejddcegaaDoor
set_option linter.unusedVariables false
set_option linter.unusedSimpArgs false
open Go Go.RowKit Go.Proofs Go.Shelf
def lineGo (n : Nat) (D : Nat → Nat → Bool) : Nat → (Nat → Bool) → List Nat
  | 0, _ => []
  | f + 1, p => match (els n p).find? (minB n D p) with
    | none => []
    | some a => a :: lineGo n D f (del p a)
def lineOf (n : Nat) (D : Nat → Nat → Bool) : List Nat := lineGo n D n (fun _ => true)
/-- each set that is not empty has a least one -/
def HasMin (n : Nat) (D : Nat → Nat → Bool) : Prop := ∀ p : Nat → Bool, (∃ j, j < n ∧ p j = true) → ∃ a, a < n ∧ p a = true ∧ minB n D p a = true
theorem mem_els {n : Nat} {p : Nat → Bool} {x : Nat} : x ∈ els n p ↔ x < n ∧ p x = true := by
  unfold els
  rw [List.mem_filter, List.mem_range]
theorem els_split (n : Nat) (p : Nat → Bool) (x : Nat) (hx : x < n) (hp : p x = true) : ∃ r, els n p = els x p ++ x :: r := by
  obtain ⟨d, rfl⟩ : ∃ d, n = (x + 1) + d := ⟨n - (x + 1), by omega⟩
  refine ⟨((List.range d).map (x + 1 + ·)).filter p, ?_⟩
  unfold els
  rw [List.range_add, List.filter_append, List.range_succ, List.filter_append]
  simp [hp]
theorem els_tx (p : Nat → Bool) (t x : Nat) (h : t ≤ x) (hl : ∀ j, j < x → t ≤ j → p j = false) : els x p = els t p := els_end x p t h hl
theorem find_els (n : Nat) (p q : Nat → Bool) (t x : Nat) (h : t ≤ x) (hx : x < n) (hp : p x = true) (hl : ∀ j, j < x → t ≤ j → p j = false) (hq : ∀ j, j < t → p j = true → q j = false) (hqx : q x = true) : (els n p).find? q = some x := by
  obtain ⟨r, hr⟩ := els_split n p x hx hp
  rw [hr, els_tx p t x h hl, List.find?_append]
  have h0 : (els t p).find? q = none := by
    rw [List.find?_eq_none]
    intro y hy
    rw [mem_els] at hy
    simp [hq y hy.1 hy.2]
  rw [h0]
  simp [hqx]
theorem els_del_len (n : Nat) (p : Nat → Bool) (x : Nat) (hx : x < n) (hp : p x = true) : (els n (del p x)).length + 1 = (els n p).length := by
  induction n with
  | zero => omega
  | succ n ih =>
    have s1 : els (n + 1) (del p x) = els n (del p x) ++ (if del p x n then [n] else []) := by
      unfold els; rw [List.range_succ, List.filter_append]; by_cases h : del p x n = true <;> simp [h]
    have s2 : els (n + 1) p = els n p ++ (if p n then [n] else []) := by
      unfold els; rw [List.range_succ, List.filter_append]; by_cases h : p n = true <;> simp [h]
    rw [s1, s2, List.length_append, List.length_append]
    by_cases e : x = n
    · subst e
      have h1 : del p x x = false := by simp [del]
      have h2 : els x (del p x) = els x p := by
        unfold els
        refine List.filter_congr fun y hy => ?_
        rw [List.mem_range] at hy
        have hy2 : ¬ y = x := by omega
        simp [del, hy2]
      rw [h1, h2, hp]
      simp
    · have e2 : ¬ n = x := fun h => e h.symm
      have h1 : del p x n = p n := by unfold del; rw [decide_eq_false e2]; simp
      rw [h1]
      have := ih (by omega)
      omega
theorem els_all (n : Nat) : (els n (fun _ => true)).length = n := by
  unfold els
  rw [List.filter_eq_self.2 (by simp)]
  simp
def LinW (w : World) (n b : Nat) (D : Nat → Nat → Bool) (a : Act) (W : World) : Prop :=
  ∃ (l : List Nat) (p : Nat → Bool) (f : Nat) (ds : List Nat), l ++ lineGo n D f p = lineOf n D ∧ (els n p).length ≤ f ∧ l.length + (els n p).length = n ∧
    a.defers = ds.map mark ∧ a.tmps.size = 35 ∧ (a.tmps.getD 0 undef = .pointer (some ⟨b, 0, none⟩) ∧ a.tmps.getD 1 undef = .pointer (some ⟨w.heap.size, 0, none⟩) ∧ a.tmps.getD 2 undef = .pointer (some ⟨w.heap.size + 1, 0, none⟩) ∧ a.tmps.getD 3 undef = .pointer (some ⟨w.heap.size + 2, 0, none⟩)) ∧
    Marks (w.heap.size + 3) ds W ∧ LinI w b n l p W
theorem arr35 (t : Array Value) (h : t.size = 35) : ∃ u : Nat → Value, (∀ i, u i = t.getD i undef) ∧ t = #[u 0, u 1, u 2, u 3, u 4, u 5, u 6, u 7, u 8, u 9, u 10, u 11, u 12, u 13, u 14, u 15, u 16, u 17, u 18, u 19, u 20, u 21, u 22, u 23, u 24, u 25, u 26, u 27, u 28, u 29, u 30, u 31, u 32, u 33, u 34] := by
  refine ⟨fun i => t.getD i undef, fun _ => rfl, ?_⟩
  rcases t with ⟨l⟩
  simp only [List.size_toArray] at h
  rcases l with _ | ⟨a0, l⟩
  · simp at h
  rcases l with _ | ⟨a1, l⟩
  · simp at h
  rcases l with _ | ⟨a2, l⟩
  · simp at h
  rcases l with _ | ⟨a3, l⟩
  · simp at h
  rcases l with _ | ⟨a4, l⟩
  · simp at h
  rcases l with _ | ⟨a5, l⟩
  · simp at h
  rcases l with _ | ⟨a6, l⟩
  · simp at h
  rcases l with _ | ⟨a7, l⟩
  · simp at h
  rcases l with _ | ⟨a8, l⟩
  · simp at h
  rcases l with _ | ⟨a9, l⟩
  · simp at h
  rcases l with _ | ⟨a10, l⟩
  · simp at h
  rcases l with _ | ⟨a11, l⟩
  · simp at h
  rcases l with _ | ⟨a12, l⟩
  · simp at h
  rcases l with _ | ⟨a13, l⟩
  · simp at h
  rcases l with _ | ⟨a14, l⟩
  · simp at h
  rcases l with _ | ⟨a15, l⟩
  · simp at h
  rcases l with _ | ⟨a16, l⟩
  · simp at h
  rcases l with _ | ⟨a17, l⟩
  · simp at h
  rcases l with _ | ⟨a18, l⟩
  · simp at h
  rcases l with _ | ⟨a19, l⟩
  · simp at h
  rcases l with _ | ⟨a20, l⟩
  · simp at h
  rcases l with _ | ⟨a21, l⟩
  · simp at h
  rcases l with _ | ⟨a22, l⟩
  · simp at h
  rcases l with _ | ⟨a23, l⟩
  · simp at h
  rcases l with _ | ⟨a24, l⟩
  · simp at h
  rcases l with _ | ⟨a25, l⟩
  · simp at h
  rcases l with _ | ⟨a26, l⟩
  · simp at h
  rcases l with _ | ⟨a27, l⟩
  · simp at h
  rcases l with _ | ⟨a28, l⟩
  · simp at h
  rcases l with _ | ⟨a29, l⟩
  · simp at h
  rcases l with _ | ⟨a30, l⟩
  · simp at h
  rcases l with _ | ⟨a31, l⟩
  · simp at h
  rcases l with _ | ⟨a32, l⟩
  · simp at h
  rcases l with _ | ⟨a33, l⟩
  · simp at h
  rcases l with _ | ⟨a34, l⟩
  · simp at h
  rcases l with _ | ⟨z, l⟩
  · rfl
  · simp at h
theorem msk_del (n : Nat) (p : Nat → Bool) (x : Nat) (hx : x < n) (hp : p x = true) : msk n (del p x) < msk n p := by
  have h1 : msk n p &&& msk n (del p x) = msk n (del p x) := by
    rw [msk_and]
    refine msk_congr _ _ _ fun j _ => ?_
    unfold del
    cases p j <;> simp
  refine Nat.lt_of_le_of_ne (by rw [← h1]; exact Nat.and_le_left) fun e => ?_
  have := msk_inj n _ _ e x hx
  simp [del, hp] at this
theorem msk_pos (n : Nat) (p : Nat → Bool) (j : Nat) (hj : j < n) (hp : p j = true) : msk n p ≠ 0 := fun h => by
  have := msk_zero n p h j hj
  rw [hp] at this
  cases this
theorem all_mask (n : Nat) (hn : n ≤ 16) : IntKind.u32.wrap (IntKind.u32.wrap (2 ^ n) - 1) = ((msk n (fun _ => true) : Nat) : Int) := by
  have h : 2 ^ n ≤ 2 ^ 16 := Nat.pow_le_pow_right (by omega) hn
  have h1 : 1 ≤ 2 ^ n := Nat.one_le_two_pow
  rw [← msk_all n, show ((2 : Int) ^ n) = ((2 ^ n : Nat) : Int) by simp]
  generalize 2 ^ n = q at *
  simp [IntKind.wrap, IntKind.bits, IntKind.signed]
  omega
set_option maxHeartbeats 2000000 in
theorem line_some {w : World} {b bu bd cu cd n : Nat} {U D : Nat → Nat → Bool} (h : IsOrd w b bu bd cu cd n U D) (hT : TabOk w) (hmin : HasMin n D) :
    Calls Tryd.prog 14 #[optr b] w (SeqPost w (lineOf n D) (fun _ => False)) := by
  have hl := h.lt
  have n16 := h.n16
  have n1 := h.n1
  unfold optr
  refine (callsIn_wide (n := 9)).1 ?_
  refine callsIn_of_wp_marks Tryd.func14 rfl trivial ?_ rfl
  simp only [Tryd.ntmps14, List.size_toArray, List.length_cons, List.length_nil, Nat.reduceAdd, Nat.reduceSub, Array.replicate_succ, Array.replicate_zero, List.push_toArray, List.append_toArray, List.nil_append, List.cons_append]
  refine wpIn_wide.2 ?_
  have hO : IsOrd ((w.alloc (.cells #[.pointer (some ⟨b, 0, none⟩)] 24)).alloc (.cells #[.slice none 0 0] 34)) b bu bd cu cd n U D := h.keep fun k c t f _ e => heap_alloc (heap_alloc e)
  have hM := many_some hO
  unfold optr at hM
  have hmask := all_mask n n16
  go_wp2_with fail
  refine hM.mono ?_
  rintro e w' ⟨rfl, rfl⟩
  clear hM hO
  go_wp2_with fail
  have hmask2 : ((2 : Int) ^ n - 1) % 4294967296 = ((msk n (fun _ => true) : Nat) : Int) := by
    have h1 : 2 ^ n ≤ 2 ^ 16 := Nat.pow_le_pow_right (by omega) n16
    have h2 : 1 ≤ 2 ^ n := Nat.one_le_two_pow
    rw [← msk_all n, show ((2 : Int) ^ n) = ((2 ^ n : Nat) : Int) by simp]
    generalize 2 ^ n = q at *
    omega
  rw [hmask2]
  clear hmask hmask2
  refine wp_loop (LinW w n b D) (fun _ W => mval (w.heap.size + 2) W) ?_ (fun a W hI => ?_)
  · refine ⟨[], fun _ => true, n, [], rfl, Nat.le_of_eq (els_all n), by rw [els_all]; simp, rfl, rfl, ⟨rfl, rfl, rfl, rfl⟩, ⟨List.nodup_nil, fun _ h => by cases h⟩, ⟨_, heap_alloc (heap_new1 w _ _), ?_⟩, heap_alloc (heap_alloc (heap_new _ _)), ?_, (((Chg.refl _ _).alloc _).alloc _).alloc _⟩
    · simpa [nints] using World.ownsRow_nil _ _ _ _
    · have := heap_new ((w.alloc (.cells #[.pointer (some ⟨b, 0, none⟩)] 24)).alloc (.cells #[.slice none 0 0] 34)) (.cells #[.int .u32 ((msk n (fun _ => true) : Nat) : Int)] 49)
      rwa [World.size_alloc, World.size_alloc] at this
  · obtain ⟨tm, df⟩ := a
    obtain ⟨l, p, f, ds, hseq, hf, hln, hdf, hsz, ⟨s0, s1, s2, s3⟩, hm, hI⟩ := hI
    simp only at hdf hsz s0 s1 s2 s3
    subst hdf
    obtain ⟨u, hu, ht⟩ := arr35 tm hsz
    rw [← hu] at s0 s1 s2 s3
    rw [s0, s1, s2, s3] at ht
    subst ht
    clear hu s0 s1 s2 s3 hsz
    have hI0 := hI
    obtain ⟨⟨v, i1, hrow⟩, i2, i3, i4⟩ := hI
    have hsz := i4.size
    have k1 := lt_of_heap i1
    have k2 := lt_of_heap i2
    have k3 := lt_of_heap i3
    have c7 := cell_of_heap i1 0
    have c8 := free_of_heap i1 0
    have c9 := cell_of_heap i3 0
    simp at c7 c9
    have HI0 := Lib.hid hI0
    have Hm := Lib.hid hm
    have HT := Lib.hid hT
    have Hh := Lib.hid h
    have Hmin := Lib.hid hmin
    have Hseq := Lib.hid hseq
    have Hf := Lib.hid hf
    have Hln := Lib.hid hln
    have hmv : mval (w.heap.size + 2) W = msk n p := by simp [mval, c9, intOf]
    have Hmv := Lib.hid hmv
    by_cases hz : msk n p = 0
    · obtain ⟨sa, sl, sc, rfl⟩ := own_slice hrow
      have I4 := Lib.hid i4
      have Hrow := Lib.hid hrow
      have I1 := Lib.hid i1
      have he : els n p = [] := by
        rw [List.eq_nil_iff_forall_not_mem]
        intro x hx
        rw [mem_els] at hx
        exact msk_pos n p x hx.1 hx.2 hz
      have hfin : l = lineOf n D := by
        rw [← hseq]
        cases f with
        | zero => simp [lineGo]
        | succ f => simp [lineGo, he]
      have Hfin := Lib.hid hfin
      rw [hz] at c9
      clear hfin he hz hrow i4 hm h hT i1 hI0 hseq hf hln hmin i2 i3 hmv
      go_wp2
      refine leaves_marks ds _ (Hm.out.keep fun D h1 h2 e => heap_setCell e (by show D ≠ w.heap.size + 1; omega) _) (fun W' hW' => ?_)
      have hc : W'.cell? ⟨w.heap.size + 1, 0, none⟩ = some (.slice sa sl sc) := cell_of_heap (hW'.cells _ _ _ _ (heap_setCell_cells I1.out 0 _)) 0
      refine ⟨.slice sa sl sc, by simp [results, Tryd.results14, go_sem, hc], _, rfl, ?_, hW'.chg (I4.out.setCell (.inr (by simp)) _) (by omega)⟩
      rw [← Hfin.out]
      exact own_mono (own_keep Hrow.out fun j c t f hj e => hW'.cells _ _ _ _ (heap_setCell e (by show j ≠ w.heap.size + 1; omega) _)) (by omega)
    · have hne : ((msk n p : Nat) : Int) ≠ 0 := by omega
      have hb : (((msk n p : Nat) : Int) != 0) = true := by rw [bne_iff_ne]; exact hne
      have Hz := Lib.hid hz
      have i4' := i4
      clear hne hz hrow i4 hm h hT i1 hI0 hseq hf hln hmin i2 i3 hmv
      have hTW := HT.out.chg i4' (fun h => h)
      have HTW := Lib.hid hTW
      clear hTW i4'
      go_wp2_with (go_at_call 24; refine (all_any _ _).mono ?_; rintro e w' ⟨rfl, rfl⟩)
      refine range_set1 (Bs := W.heap.size) (by simp) rfl n p n16 (heap_new W _) (by omega) (HTW.out.alloc _)
        (fun pre W' => (LinI w b n l p W' ∧ ∀ j, j ∈ pre → minB n D p j = false) ∧ Marks (w.heap.size + 3) ds W' ∧ ∃ c, W'.heap[W.heap.size]? = some (.cells c 49 (0, 0)))
        (fun c pre W' => LinIx w b n D l p c pre W' ∧ Marks (w.heap.size + 3) ds W' ∧ ∃ c, W'.heap[W.heap.size]? = some (.cells c 49 (0, 0))) ?hI ?hIx ?h0 ?body ?done ?stop
      case hI =>
        rintro s W2 W' hs ⟨⟨⟨⟨v, i1, i2⟩, i3, i4, i5⟩, i8⟩, i6, c, i7⟩
        refine ⟨⟨⟨⟨v, hs.cells i1 (by omega), own_soft2 hs i2 (own_ne i2 i7 (by decide))⟩, hs.cells i3 (by omega), hs.cells i4 (by omega), hs.chg i5 (by simp; omega) (.inr (by omega))⟩, i8⟩, i6.keep fun D h1 h2 h3 => hs.old h3 ?_ ?_, hs.setcells i7⟩
        · have := Hm.out.lt h2; simp; omega
        · have := Hm.out.lt h2; omega
      case hIx =>
        rintro cc s W2 W' hs ⟨⟨rfl, t, x, j1, j2, j3, j4, j5, j6, j7, ⟨v, i1, i2⟩, i3, i4, i5⟩, i6, c, i7⟩
        refine ⟨⟨rfl, t, x, j1, j2, j3, j4, j5, j6, j7, ⟨v, hs.cells i1 (by omega), own_soft2 hs i2 (own_ne i2 i7 (by decide))⟩, hs.cells i3 (by omega), hs.cells i4 (by omega), hs.chg i5 (by simp; omega) (.inr (by omega))⟩, i6.keep fun D h1 h2 h3 => hs.old h3 ?_ ?_, hs.setcells i7⟩
        · have := Hm.out.lt h2; simp; omega
        · have := Hm.out.lt h2; omega
      case h0 =>
        obtain ⟨⟨v, i1, i2⟩, i3, i4, i5⟩ := HI0.out
        exact ⟨⟨⟨⟨v, heap_alloc i1, own_keep i2 fun _ _ _ _ _ e => heap_alloc e⟩, heap_alloc i3, heap_alloc i4, i5.alloc _⟩, fun j hj => by cases hj⟩, Hm.out.keep fun _ _ _ e => heap_alloc e, _, heap_new W _⟩
      case body =>
        rintro l0 t x W2 ht hp hx hl ⟨⟨hci, hmn⟩, hmk, cc, hcc⟩
        refine wpIn_mono (lin_round w b bu bd cu cd n l0 t x U D l p W2 Hh.out hx hp ht hl (by have := Hln.out; omega) W.heap.size (by omega) hci (fun j hj hpj => hmn j (mem_els.2 ⟨hj, hpj⟩)) _ _ _ _ _ _ _ _ _ _ _ _ _ _ _ _ _ _ _ _ _ _ _ _ _ _ _ _ _ _) ?_
        rintro e a W3 hp
        cases e with
        | normal => exact ⟨hp.1, hp.2.1, hp.2.2, hmk.keep fun D _ _ e => hp.1.same _ _ e rfl, cc, hp.2.1.1 _ hcc⟩
        | ret => exact ⟨hp.1, hp.2.1, hmk.keep fun D _ _ e => hp.1.same _ _ e rfl, cc, hp.2.2 _ hcc⟩
        | exit id => exact ⟨hp.1, hp.2.1, hmk.keep fun D _ _ e => hp.1.same _ _ e rfl, cc, hp.2.2 _ hcc⟩
        | goto t => exact ⟨hp.1, hp.2.1, hmk.keep fun D _ _ e => hp.1.same _ _ e rfl, cc, hp.2.2 _ hcc⟩
        | panic c => exact hp.elim
        | outgrown => exact hp.elim
      case done =>
        rintro E W2 hE ⟨⟨_, hmn⟩, _⟩ _
        exfalso
        obtain ⟨a, h1, h2, h3⟩ := Hmin.out p (msk_ne n p Hz.out)
        rw [hmn a (mem_els.2 ⟨h1, h2⟩)] at h3
        cases h3
      case stop =>
        rintro E c pre W2 hE ⟨⟨rfl, t, x, j1, j2, j3, j4, j5, j6, j7, hli⟩, i6, _⟩ hd
        have hfe := find_els n p (minB n D p) t x j1 j5 j4 j6 j3 j7
        have hdl := els_del_len n p x j5 j4
        have hlt := msk_del n p x j5 j4
        have hf' := Hf.out
        have hl' := Hln.out
        obtain ⟨f, rfl⟩ : ∃ g, f = g + 1 := ⟨f - 1, by omega⟩
        have hsq : (l ++ [x]) ++ lineGo n D f (del p x) = lineOf n D := by
          rw [← Hseq.out, lineGo, hfe]
          simp
        simp at hE
        have HM : Hid (Marks (w.heap.size + 3) (E :: ds) W2) := Lib.hid (i6.cons (by omega) hd (fun hm => by have := Hm.out.lt hm; omega))
        have HLI := Lib.hid hli
        have HSQ := Lib.hid hsq
        have HLT := Lib.hid hlt
        clear hsq hlt hli i6 hd hfe j1 j2 j3 j4 j5 j6 j7
        go_wp2
        refine ⟨⟨l ++ [x], del p x, f, E :: ds, HSQ.out, by omega, by simp; omega, rfl, rfl, ⟨rfl, rfl, rfl, rfl⟩, HM.out, HLI.out⟩, ?_⟩
        rw [Hmv.out]
        obtain ⟨_, _, z3, _⟩ := HLI.out
        have : mval (w.heap.size + 2) W2 = msk n (del p x) := by simp [mval, cell_of_heap z3 0, intOf]
        rw [this]
        exact HLT.out
end Go.Proofs.YtkonpkejddcegaaDoor
