/- fuse: the sort of a row of spots. -/
import Derived.Test.YtbihefbjojlncaaFsSort
import Derived.Test.YtbihefbjojlncaaFsSpots
namespace Go.Proofs.Ytbihefbjojlncaa
set_option linter.unusedVariables false
set_option linter.unusedSimpArgs false
open Go Go.RowKit Go.Shelf Go.Sort
theorem cmpS_lt (x y : Int × Int) : cmpS x y < 0 ↔ x.1 < y.1 ∨ (x.1 = y.1 ∧ x.2 < y.2) := by
  unfold cmpS cmpI
  repeat' split
  all_goals omega
theorem ltS (x y : Int × Int) : ltOf cmpS x y = decide (x.1 < y.1 ∨ (x.1 = y.1 ∧ x.2 < y.2)) := by
  unfold ltOf
  exact decide_eq_decide.2 (cmpS_lt x y)
theorem swoS : SWO (ltOf cmpS) where
  irrefl x := by rw [ltS]; simp
  trans x y z h1 h2 := by rw [ltS] at *; simp at *; omega
  ntrans x y z h1 h2 := by rw [ltS] at *; simp at *; omega
theorem flatK_flatP (d : Array (Int × Int)) : (flatK spC 2 d).toList = flatP d.toList := by
  apply List.ext_getElem
  · rw [flatP_len, Array.length_toList, size_flatK, Array.length_toList]
  · intro t h1 h2
    have ht : t < d.size * 2 := by rw [Array.length_toList, size_flatK] at h1; exact h1
    have hd : t / 2 < d.size := by omega
    have e1 := get_flatK spC 2 d t ht
    rw [getElem!_pos (flatK spC 2 d) t (by rw [size_flatK]; exact ht), getElem!_pos d (t / 2) hd] at e1
    have hl : t % 2 < (spC d[t / 2]).length := by show t % 2 < 2; omega
    rw [getElem!_pos (spC d[t / 2]) (t % 2) hl] at e1
    have e2 := flatP_get (L := d.toList) (k := t / 2) (e := d[t / 2]) (by rw [Array.getElem?_toList, Array.getElem?_eq_getElem hd]) (j := t % 2) (v := (spC d[t / 2])[t % 2]) (List.getElem?_eq_getElem hl)
    rw [show t / 2 * 2 + t % 2 = t by omega, List.getElem?_eq_getElem h2] at e2
    rw [Array.getElem_toList, e1]
    exact (Option.some.inj e2).symm
theorem cmpLaysS (blk off size : Nat) (w : World) : CmpLays Try.prog 35 #[] spC 2 cmpS blk off size w :=
  fun m os dk _ x y => less_some _ x.1 x.2 y.1 y.2
theorem holds_spots {w : World} {g cap : Nat} {cur : Array Value} {t : TypeId} {K : List (Int × Int)} (hh : w.heap[g]? = some (.cells cur t (0, 0))) (ht : cur.toList.take (K.length * 2) = flatP K) : HoldsK spC 2 w g 0 K.toArray := by
  intro j hj
  have hF : (flatK spC 2 K.toArray).toList = flatP K := flatK_flatP K.toArray
  have e : (flatK spC 2 K.toArray)[j]? = cur[j]? := by
    rw [← Array.getElem?_toList, hF, ← ht, List.getElem?_take_of_lt (by rw [size_flatK] at hj; simpa using hj), Array.getElem?_toList]
  rw [Array.getElem?_eq_getElem hj] at e
  rw [getElem!_pos _ j hj]
  refine ⟨?_, ?_⟩
  · rw [cell_of_heap hh, Nat.zero_add]
    exact e.symm
  · unfold World.frozen?
    simp [hh]
theorem put_take (F cur : Array Value) (h : F.size ≤ cur.size) : (putCells id 0 F cur).toList.take F.size = F.toList := by
  apply List.ext_getElem?
  intro k
  by_cases hk : k < F.size
  · rw [List.getElem?_take_of_lt hk]
    simp only [Array.getElem?_toList, putCells, Array.getElem?_mapIdx]
    rw [Array.getElem?_eq_getElem (show k < cur.size by omega), Array.getElem?_eq_getElem hk]
    simp [hk]
  · rw [List.getElem?_eq_none (by simp; omega), List.getElem?_eq_none (by simp; omega)]
theorem heap_sortW_other (w : World) (g n : Nat) (d : Array (Int × Int)) (os : Array Obj) {i : Nat} (h1 : i ≠ g) (h2 : i < w.heap.size) : (sortWorldK spC 2 w g 0 n d os).heap[i]? = w.heap[i]? := by
  show ((w.heap.modify g _) ++ os)[i]? = _
  rw [Array.getElem?_append_left (by simpa using h2), Array.getElem?_modify, if_neg (fun e => h1 e.symm)]
theorem heap_sortW_same (w : World) (g n : Nat) (d : Array (Int × Int)) (os : Array Obj) {cur : Array Value} {t : TypeId} {z : Nat × Nat} (hh : w.heap[g]? = some (.cells cur t z)) : (sortWorldK spC 2 w g 0 n d os).heap[g]? = some (.cells (putCells id 0 (flatK spC 2 d) cur) t z) := by
  show ((w.heap.modify g (onCells _)) ++ os)[g]? = _
  rw [Array.getElem?_append_left (by simpa using lt_of_heap hh), Array.getElem?_modify, if_pos rfl, hh]
  rfl
def Asc (K : List (Int × Int)) : Prop := K.Pairwise (fun x y => befK x.1 x.2 y.1 y.2 = true)
theorem asc_of_sorted {d d' : Array (Int × Int)} (hp : PermIn 0 d.size d d') (hs : SortedIn (ltOf cmpS) 0 d.size d') (hn : d.toList.Nodup) : d'.toList.Perm d.toList ∧ Asc d'.toList := by
  obtain ⟨p1, _, p3⟩ := hp
  have hperm : d'.toList.Perm d.toList := by
    have e1 : d'.extract 0 d.size = d' := by rw [← p1]; exact Array.extract_size
    have e2 : d.extract 0 d.size = d := Array.extract_size
    rw [e1, e2] at p3
    exact p3
  refine ⟨hperm, ?_⟩
  have hn' : d'.toList.Nodup := hperm.nodup_iff.2 hn
  refine List.pairwise_iff_getElem.2 fun i j hi hj hij => ?_
  have hi' : i < d'.size := by simpa using hi
  have hj' : j < d'.size := by simpa using hj
  have h := hs i j (Nat.zero_le _) hij (by omega)
  rw [ltS, getElem!_pos d' j hj', getElem!_pos d' i hi'] at h
  have hne : d'.toList[i] ≠ d'.toList[j] := List.pairwise_iff_getElem.1 hn' i j hi hj hij
  simp only [Array.getElem_toList] at hne ⊢
  generalize d'[i] = x at *
  generalize d'[j] = y at *
  obtain ⟨x1, x2⟩ := x
  obtain ⟨y1, y2⟩ := y
  simp [befK] at *
  omega
theorem asc_unique {K M : List (Int × Int)} (hK : Asc K) (hM : Asc M) (h : ∀ x, x ∈ K ↔ x ∈ M) (nK : K.Nodup) (nM : M.Nodup) : K = M := by
  refine List.Perm.eq_of_pairwise (le := fun (x y : Int × Int) => befK x.1 x.2 y.1 y.2 = true) (fun a b _ _ h1 h2 => ?_) hK hM ((List.perm_ext_iff_of_nodup nK nM).2 h)
  simp [befK] at h1 h2
  omega
theorem asc_nodup {K : List (Int × Int)} (h : Asc K) : K.Nodup := by
  refine List.Pairwise.imp ?_ h
  rintro a b hab rfl
  simp [befK] at hab
set_option maxRecDepth 100000 in
theorem sort_spots {w : World} {base : Nat} {v : Value} {K : List (Int × Int)} (h : SpotsAt w base v K) (hl : K.length < 1000000) (hn : K.Nodup) :
    Calls Try.prog 34 #[v, .func (.func 35) #[] #[]] w fun e w' => e = .returned (.tuple #[]) ∧ ∃ K', (∀ x, x ∈ K' ↔ x ∈ K) ∧ Asc K' ∧ SpotsAt w' base v K' ∧ Chg (fun i => base ≤ i) w w' := by
  obtain ⟨h1, ⟨rfl, h0⟩ | ⟨g, cap, cur, rfl, hg, hh, c1, c2, c3, ht⟩⟩ := h
  · have : K = [] := List.eq_nil_of_length_eq_zero h0
    subst this
    refine (sort_nil w _).mono ?_
    rintro e w' ⟨rfl, rfl⟩
    exact ⟨rfl, [], fun x => Iff.rfl, List.Pairwise.nil, ⟨rfl, .inl ⟨rfl, rfl⟩⟩, Chg.refl _ _⟩
  · have eg : ∀ args w, (callFunc 35 args).run Try.prog w = .ok (.enter 35 args) w := enters_of Try.func35 (by kernel_rfl) rfl
    have hH := holds_spots (cap := cap) hh ht
    have hcon := AnyQ.slices_SortFunc Try.sortSpot 2 Try.isAgg32 Try.sizeOf32 spC (fun _ => rfl) (fun x v hv => spC_one v hv) cmpS swoS 35 #[] g 0 cap K.toArray w eg (cmpLaysS _ _ _ _) hH (lt_of_heap hh) (by simp; omega)
    refine Calls.mono (show Calls Try.prog 34 _ _ _ from hcon) ?_
    rintro e w' ⟨rfl, d', n, os, hp, hs, rfl⟩
    obtain ⟨q1, q2⟩ := asc_of_sorted hp hs (by simpa using hn)
    have hsz : d'.size = K.length := by rw [hp.1]; simp
    refine ⟨rfl, d'.toList, fun x => by simpa using q1.mem_iff (a := x), q2, ?_, ?_⟩
    · refine ⟨flatP_len _, .inr ⟨g, cap, _, ?_, hg, heap_sortW_same w g n d' os hh, ?_, c2, ?_, ?_⟩⟩
      · simp [hsz]
      · simp [hsz]; exact c1
      · simp [putCells, c3]
      · have hF : (flatK spC 2 d').size = d'.toList.length * 2 := by simp
        rw [← hF, put_take _ _ (by rw [size_flatK, hsz, c3]; omega), flatK_flatP]
    · refine ⟨rfl, rfl, rfl, size_sortWorldK_c (enc := spC) (k := 2) (w := w) (blk := g) (off := 0) n d' os, fun i hi hb => heap_sortW_other w g n d' os (fun e => hb (by omega)) hi⟩
end Go.Proofs.Ytbihefbjojlncaa
