/- A table's Ids. -/
import Derived.Test.YtfhmmekamommcaaGreatDoorTabOps
import Derived.Test.YtfhmmekamommcaaGreatDoorIdOkD
import Derived.Test.YtfhmmekamommcaaGreatDoorShelfS
namespace Go.Proofs.YtfhmmekamommcaaGreatDoor
set_option linter.unusedVariables false
set_option linter.unusedSimpArgs false
open Go Go.RowKit Go.Proofs Go.Shelf Go.Sort
/-- the comparison that Ids hands on -/
theorem ids1_gd (a b : List UInt8) (ha : idOk a = true) (hb : idOk b = true) (hla : a.length ≤ 1000000000) (hlb : b.length ≤ 1000000000) (w : World) :
    Calls Tryz.prog 64 #[.string (bs a), .string (bs b)] w fun e w' => e = .returned (.int .i64 (cmpL (idNs a) (idNs b))) ∧ Gd w w' := by
  have hN := idnums_gd a hla ha w
  have HN2 := Lib.hid fun W => idnums_gd b hlb hb W
  have hl1 : ∀ K : List UInt8, K.length ≤ 1000000000 → (idNs K).length ≤ 4000000000 := fun K hK => by
    rw [idNs_len]
    exact Nat.le_trans (pieces_len_le 46 K).1 (Nat.le_trans (Nat.add_le_add_right hK 1) (by decide))
  have HC := Lib.hid fun W v1 v2 (p : NatRow W v1 (idNs a)) (q : NatRow W v2 (idNs b)) => compare_any p q (hl1 a hla) (hl1 b hlb)
  clear hl1 hla hlb ha hb
  have t1 : True := trivial
  go_enter Tryz.func64, Tryz.ntmps64
  go_wp2_with (first
    | (go_at_call 65; have _t := t1; clear _t t1; refine hN.mono ?_; rintro e w1 ⟨v, rfl, hR, hC⟩; have hNN := HN2.out w1; have hR1 := NatRow.of_own hR)
    | (go_at_call 65; refine hNN.mono ?_; rintro e w2 ⟨v2, rfl, hR2, hC2⟩; have hcm := HC.out w2 v v2 (hR1.keep fun k c t f e => hC2.chg.keep e (fun x => x)) (NatRow.of_own hR2))
    | (go_at_call 66; refine hcm.mono ?_; rintro e w3 ⟨rfl, rfl⟩))
  go_ret
  exact ⟨rfl, hC.trans hC2⟩
/-- ids that are ids -/
def Idt : Type := { l : List UInt8 // idOk l = true ∧ l.length ≤ 1000000000 }
instance : Inhabited Idt := ⟨⟨[49], by decide⟩⟩
def encI (x : Idt) : Value := .string (bs x.1)
def cmpT (x y : Idt) : Int := cmpL (idNs x.1) (idNs y.1)
theorem swoT : SWO (ltOf cmpT) where
  irrefl x := by unfold ltOf cmpT; rw [cmpL_self]; decide
  trans x y z h1 h2 := by
    unfold ltOf cmpT at *
    simp only [decide_eq_true_eq] at *
    exact cmpL_trans h1 h2
  ntrans x y z h1 h2 := by
    unfold ltOf cmpT at *
    simp only [decide_eq_false_iff_not] at *
    intro h3
    have s1 := cmpL_swap (idNs x.1) (idNs y.1)
    have s2 := cmpL_swap (idNs y.1) (idNs z.1)
    rcases cmpL_cases (idNs x.1) (idNs y.1) with e | e | e
    · omega
    · rw [cmpL_zero e] at h3; omega
    · rcases cmpL_cases (idNs y.1) (idNs z.1) with f | f | f
      · omega
      · rw [← cmpL_zero f] at h3; omega
      · have := cmpL_trans (a := idNs z.1) (b := idNs y.1) (c := idNs x.1) (by omega) (by omega)
        have s3 := cmpL_swap (idNs x.1) (idNs z.1)
        omega
theorem cmpLaysT (blk off size : Nat) (w : World) : CmpLays1 Tryz.prog 64 #[] encI cmpT blk off size w :=
  fun m os dk _ x y => (ids1_gd x.1 y.1 x.2.1 y.2.1 x.2.2 y.2.2 _).mono fun e w' ⟨h1, h2⟩ => ⟨h1, h2.behind⟩
theorem keys_perm_ids {w : World} {b n : Nat} {D : DataW Unit} (hown : w.ownsMap Tryz.prog 9 sesE b n D) {L : List Ses} (hL : SOk L) (s2 : ∀ id, Maps.has D (.string id) = (sFind L id).isSome) : (L.map (·.id)).Perm (strKeys D) := by
  obtain ⟨es, hD, hpw, _⟩ := hown.entries strKeyed
  obtain ⟨es', hD', hko⟩ := hown.keysOf
  obtain rfl : es = es' := by rw [hD] at hD'; simpa using hD'
  subst hD
  refine perm_strKeys hpw (fun p hp => by obtain ⟨v, hv⟩ := hko p hp; obtain ⟨x, _, hx, _⟩ := Maps.keyOf_str Tryz.underlying9 hv; exact ⟨x, hx⟩) ?_ fun x => ?_
  · refine List.pairwise_map.2 (hL.asc.imp fun h => idLess_ne h)
  · rw [s2 x]
    constructor
    · intro hx
      obtain ⟨s, hs, rfl⟩ := List.mem_map.1 hx
      rw [sFind_mem hL hs]
      rfl
    · intro hx
      cases hf : sFind L x with
      | none => rw [hf] at hx; cases hx
      | some s =>
        obtain ⟨h1, h2⟩ := sFind_some hf
        exact List.mem_map.2 ⟨s, h1, h2⟩
theorem heap_sortT_other (w : World) (g off n : Nat) (d : Array Idt) (os : Array Obj) {i : Nat} (h1 : i ≠ g) (h2 : i < w.heap.size) : (sortWorld encI w g off n d os).heap[i]? = w.heap[i]? := by
  show ((w.heap.modify g _) ++ os)[i]? = _
  rw [Array.getElem?_append_left (by simpa using h2), Array.getElem?_modify, if_neg (fun e => h1 e.symm)]
theorem heap_sortT_same (w : World) (g n : Nat) (d : Array Idt) (os : Array Obj) {cur : Array Value} {t : TypeId} {z : Nat × Nat} (hh : w.heap[g]? = some (.cells cur t z)) : (sortWorld encI w g 0 n d os).heap[g]? = some (.cells (putCells encI 0 d cur) t z) := by
  show ((w.heap.modify g (onCells _)) ++ os)[g]? = _
  rw [Array.getElem?_append_left (by simpa using lt_of_heap hh), Array.getElem?_modify, if_pos rfl, hh]
  rfl
theorem to_idt : ∀ (ss : List (List UInt8)), (∀ x ∈ ss, idOk x = true ∧ x.length ≤ 1000000000) → ∃ d : List Idt, d.map (fun x => x.1) = ss
  | [], _ => ⟨[], rfl⟩
  | x :: ss, h => by
    obtain ⟨d, hd⟩ := to_idt ss fun y hy => h y (by simp [hy])
    refine ⟨(⟨x, h x (by simp)⟩ : Idt) :: d, ?_⟩
    show x :: d.map (fun y : Idt => y.1) = x :: ss
    rw [hd]
theorem put_takeT (d : Array Idt) (cur : Array Value) (h : d.size ≤ cur.size) : (putCells encI 0 d cur).toList.take d.size = d.toList.map encI := by
  apply List.ext_getElem?
  intro k
  by_cases hk : k < d.size
  · rw [List.getElem?_take_of_lt hk]
    simp only [Array.getElem?_toList, putCells, Array.getElem?_mapIdx, List.getElem?_map]
    rw [Array.getElem?_eq_getElem (show k < cur.size by omega), Array.getElem?_eq_getElem hk]
    simp [hk]
  · rw [List.getElem?_eq_none (by simp; omega), List.getElem?_eq_none (by simp; omega)]
theorem rising_eq {A B : List (List UInt8)} (hA : A.Pairwise fun x y => idLess x y = true) (hB : B.Pairwise fun x y => idLess x y = true) (hp : A.Perm B) : A = B := by
  refine List.Perm.eq_of_pairwise (le := fun x y => idLess x y = true) (fun a b _ _ h1 h2 => ?_) hA hB hp
  rw [idLess_asym h1] at h2
  cases h2
theorem rising_of_sorted {d d' : Array Idt} (hp : PermIn 0 d.size d d') (hs : SortedIn (ltOf cmpT) 0 d.size d') (hn : (d.toList.map (fun x => x.1)).Nodup) : d'.toList.Perm d.toList ∧ (d'.toList.map (fun x => x.1)).Pairwise fun x y => idLess x y = true := by
  obtain ⟨p1, _, p3⟩ := hp
  have hperm : d'.toList.Perm d.toList := by
    have e1 : d'.extract 0 d.size = d' := by rw [← p1]; exact Array.extract_size
    have e2 : d.extract 0 d.size = d := Array.extract_size
    rw [e1, e2] at p3
    exact p3
  refine ⟨hperm, ?_⟩
  have hn' : (d'.toList.map (fun x => x.1)).Nodup := (hperm.map _).nodup_iff.2 hn
  rw [List.pairwise_map]
  rw [List.nodup_iff_pairwise_ne, List.pairwise_map] at hn'
  refine List.pairwise_iff_getElem.2 fun i j hi hj hij => ?_
  have hi' : i < d'.size := by simpa using hi
  have hj' : j < d'.size := by simpa using hj
  have h := hs i j (Nat.zero_le _) hij (by omega)
  rw [getElem!_pos d' j hj', getElem!_pos d' i hi'] at h
  have hne := List.pairwise_iff_getElem.1 hn' i j hi hj hij
  simp only [Array.getElem_toList] at hne ⊢
  have hno : idLess d'[j].1 d'[i].1 = false := by
    unfold idLess
    unfold ltOf cmpT at h
    rw [d'[j].2.1, d'[i].2.1]
    simpa using h
  exact idLess_total d'[j].2.1 d'[i].2.1 (fun e => hne e.symm) hno
def idV (l : List (List UInt8)) : List Value := l.map encStr
/-- the sort of a row of ids -/
theorem sort_ids {w : World} {base : Nat} {v : Value} {L : List Ses} (hL : SOk L) {ss : List (List UInt8)} (hp : ss.Perm (L.map (·.id))) (hl : L.length < 1000000000) (hown : w.ownsRow base 9 1 v ss.length (idV ss)) :
    Calls Tryz.prog 95 #[v, .func (.func 64) #[] #[]] w fun e w' => e = .returned (.tuple #[]) ∧ w'.ownsRow base 9 1 v L.length (idV (L.map (·.id))) ∧ Chg (fun i => base ≤ i) w w' := by
  have hlen : ss.length = L.length := by rw [hp.length_eq]; simp
  rcases hown.2 with ⟨rfl, h0⟩ | ⟨g, cap, cur, rfl, hg, hh, hc, hcm, hsz, ht⟩
  · have hs : ss = [] := List.eq_nil_of_length_eq_zero h0
    subst hs
    have hL0 : L = [] := List.eq_nil_of_length_eq_zero (by rw [← hlen]; rfl)
    subst hL0
    refine Calls.mono (show Calls Tryz.prog 95 _ w _ from AnyF.slices_SortFunc_none { Tryz.sort95 with } none 0 _ w) ?_
    rintro e w' ⟨rfl, rfl⟩
    exact ⟨rfl, hown, Chg.refl _ _⟩
  · have hall : ∀ x ∈ ss, idOk x = true ∧ x.length ≤ 1000000000 := fun x hx => by
      obtain ⟨s, hs, rfl⟩ := List.mem_map.1 (hp.mem_iff.1 hx)
      exact ⟨hL.ok s hs, hL.len s hs⟩
    obtain ⟨d, hd⟩ : ∃ d : List Idt, d.map (fun x => x.1) = ss := to_idt ss hall
    have hdl : d.length = ss.length := by rw [← hd]; simp
    have eg : ∀ args w, (callFunc 64 args).run Tryz.prog w = .ok (.enter 64 args) w := enters_of Tryz.func64 (by kernel_rfl) rfl
    have hH : Holds encI w g 0 d.toArray := by
      intro j hj
      have hj' : j < d.length := by simpa using hj
      refine ⟨?_, free_of_heap hh _⟩
      rw [Nat.zero_add, cell_of_heap hh]
      have h1 : (cur.toList.take (ss.length * 1))[j]? = (idV ss)[j]? := by rw [ht]
      rw [List.getElem?_take_of_lt (by omega)] at h1
      rw [← Array.getElem?_toList, h1]
      unfold idV
      rw [← hd, List.map_map, List.getElem?_map, List.getElem?_eq_getElem hj', getElem!_pos d.toArray j (by simpa using hj')]
      rfl
    have hcon := Any.slices_SortFunc Tryz.sort95 encI (fun x => rfl) cmpT swoT 64 #[] g 0 cap d.toArray w eg (cmpLaysT _ _ _ _) hH (lt_of_heap hh) (by simp; omega)
    have hszd : d.toArray.size = ss.length := by simp [hdl]
    rw [hszd] at hcon
    refine Calls.mono (show Calls Tryz.prog 95 _ w _ from hcon) ?_
    rintro e w' ⟨rfl, d', n, os, hpm, hs, rfl⟩
    rw [← hszd] at hpm hs
    have hnd : (L.map (·.id)).Nodup := List.pairwise_map.2 (hL.asc.imp fun h => idLess_ne h)
    obtain ⟨q1, q2⟩ := rising_of_sorted hpm hs (by rw [show d.toArray.toList = d from rfl, hd]; exact hp.nodup_iff.2 hnd)
    have hpp : (d'.toList.map (fun x => x.1)).Perm (L.map (·.id)) := ((q1.map _).trans (by rw [show d.toArray.toList = d from rfl, hd]; exact hp))
    have heq := rising_eq q2 (List.pairwise_map.2 hL.asc) hpp
    have hsz' : d'.size = L.length := by
      have := congrArg List.length heq
      simpa using this
    refine ⟨rfl, ⟨by simp [idV], .inr ⟨g, cap, _, ?_, hg, heap_sortT_same w g n d' os hh, by omega, hcm, ?_, ?_⟩⟩, ?_⟩
    · rw [hlen]
    · simp [putCells, hsz]
    · rw [Nat.mul_one, ← hsz', put_takeT d' cur (by omega), ← heq]
      unfold idV
      rw [List.map_map]
      rfl
    · exact ⟨rfl, rfl, rfl, by show w.heap.size ≤ ((w.heap.modify g _) ++ os).size; simp, fun i hi hb => heap_sortT_other w g 0 n d' os (fun e => hb (by omega)) hi⟩
theorem sortedFunc_any {W : World} {Bm b n : Nat} {D : DataW Unit} {L : List Ses} (hBm : Bm < W.heap.size) (hm : W.cell? ⟨Bm, 0, none⟩ = some (.map (some b))) (hown : W.ownsMap Tryz.prog 9 sesE b n D) (hL : SOk L)
    (s2 : ∀ id, Maps.has D (.string id) = (sFind L id).isSome) (hn : n < 1000000000) (hl : L.length ≤ n) :
    Calls Tryz.prog 62 #[.func (.func 96) #[] #[.pointer (some ⟨Bm, 0, none⟩)], .func (.func 64) #[] #[]] W fun e w' =>
      ∃ v, e = .returned v ∧ w'.ownsRow W.heap.size 9 1 v L.length (idV (L.map (·.id))) ∧ Chg (fun _ => False) W w' := by
  have hsz := hown.size_le
  have hN : Maps.size D ≤ 1000000000 := Nat.le_trans hsz (Nat.le_of_lt hn)
  have hseq : SeqGives Fence.wide (5 - 1 - 1) Tryz.prog 96 #[.pointer (some ⟨Bm, 0, none⟩)] encStr (fun ss => ss.Perm (strKeys D)) (Maps.size D) W :=
    AnyZ.keys_gives (ρ := Tryz.keys63_ren) { Tryz.keys63 with } Fence.wide _ trivial rfl (by omega) Bm b n D W hBm hm hown
  have hcol := callsIn_wide.1 (AnyZ.collect_in Tryz.collect94 Fence.wide 5 trivial trivial rfl (by omega) 96 #[.pointer (some ⟨Bm, 0, none⟩)] trivial (enters_of Tryz.func96 (by kernel_rfl) rfl) _ _ (Nat.le_trans hN (by decide)) (Nat.le_trans (Nat.mul_le_mul_right 16 hN) (by decide)) W hseq)
  have hcol : Calls Tryz.prog 94 #[.func (.func 96) #[] #[.pointer (some ⟨Bm, 0, none⟩)]] W fun e w' => ∃ v, e = .returned v ∧ Below W.heap.size W w' ∧
      (∀ v', v' = v → Calls Tryz.prog 95 #[v, .func (.func 64) #[] #[]] w' fun e w2 => e = .returned (.tuple #[]) ∧ w2.ownsRow W.heap.size 9 1 v L.length (idV (L.map (·.id))) ∧ Chg (fun i => W.heap.size ≤ i) w' w2) := by
    refine hcol.mono ?_
    rintro e w' ⟨v, ss, rfl, hS, hrow, hnil, hb⟩
    exact ⟨v, rfl, hb, fun _ _ => sort_ids hL (hS.trans (keys_perm_ids hown hL s2).symm) (by omega) hrow⟩
  clear hseq hsz hN hown hm hBm s2
  go_enter Tryz.func62, Tryz.ntmps62
  go_wp2_with (first
    | (go_at_call 94; refine hcol.mono ?_; rintro e w2 ⟨v, rfl, hB, hs⟩; have hs := hs v rfl)
    | (go_at_call 95; refine hs.mono ?_; rintro e w3 ⟨rfl, hrow, hC⟩))
  go_ret
  exact ⟨v, rfl, hrow, (Below.chg hB (Nat.le_refl _) _).trans' hC (fun i hi hb => by omega)⟩
/-- Ids -/
theorem tids_any {w : World} {X : TX} {la : Nat} {L : List Ses} {n : Nat} (hT : TabAt w X (latp la) L n) (hn1 : n < 1000000000) :
    Calls Tryz.prog 20 #[X.p] w fun e w' => ∃ v, e = .returned v ∧ w'.ownsRow w.heap.size 9 1 v L.length (idV (L.map (·.id))) ∧ Chg (fun _ => False) w w' := by
  have hn := tnone_any hT.c0
  have hc1 := hT.c1
  obtain ⟨D, hown, s1, s2⟩ := hT.ses
  have hkeys := callsIn_wide.1 (AnyZ.keys_in Tryz.keys63 Fence.wide 5 trivial rfl (some X.m1) w)
  have hkeys : Calls Tryz.prog 63 #[.map (some X.m1)] w fun e w' => e = .returned (.func (.func 96) #[] #[.pointer (some ⟨w.heap.size, 0, none⟩)]) ∧ w' = w.alloc (.cells #[.map (some X.m1)] 74) := hkeys
  have hsf := sortedFunc_any (W := w.alloc (.cells #[.map (some X.m1)] 74)) (Bm := w.heap.size) (by simp) (cell_of_heap (heap_new _ _) 0) (hown.alloc _) hT.ok s2 hn1 hT.few
  clear hown s1 s2 hT
  unfold TX.p at *
  go_enter Tryz.func20, Tryz.ntmps20
  go_wp2_with (first
    | (go_at_call 54; refine hn.mono ?_; rintro e w1 ⟨rfl, rfl⟩)
    | (go_at_call 63; refine hkeys.mono ?_; rintro e w2 ⟨rfl, rfl⟩)
    | (go_at_call 62; refine hsf.mono ?_; rintro e w3 ⟨v, rfl, hrow, hC⟩))
  go_ret
  exact ⟨v, rfl, own_mono hrow (by simp), ((Chg.refl _ _).alloc _).trans hC⟩
end Go.Proofs.YtfhmmekamommcaaGreatDoor
