/- Sessions as a rising list: what a table holds, plainly. -/
import Derived.Test.YtfhmmekamommcaaGreatDoorIdPlain
namespace Go.Proofs.YtfhmmekamommcaaGreatDoor
set_option linter.unusedVariables false
set_option linter.unusedSimpArgs false
open Go
structure Ses where
  id : List UInt8
  began : Int
  label : Int
def sFind (L : List Ses) (id : List UInt8) : Option Ses := L.find? (fun s => s.id == id)
def sCount (L : List Ses) (a : Int) : Nat := (L.filter fun s => decide (s.began = a)).length
def sIns (x : Ses) : List Ses → List Ses
  | [] => [x]
  | s :: L => if idLess s.id x.id = true then s :: sIns x L else x :: s :: L
def sSet (L : List Ses) (id : List UInt8) (lab : Int) : List Ses := L.map fun s => if s.id = id then ⟨s.id, s.began, lab⟩ else s
def sDel (L : List Ses) (id : List UInt8) : List Ses := L.filter fun s => decide (s.id ≠ id)
structure SOk (L : List Ses) : Prop where
  asc : L.Pairwise fun s t => idLess s.id t.id = true
  ok : ∀ s ∈ L, idOk s.id = true
  len : ∀ s ∈ L, s.id.length ≤ 1000000000
theorem idLess_irr (a : List UInt8) : idLess a a = false := by
  unfold idLess
  rw [cmpL_self]
  simp
theorem idLess_trans {a b c : List UInt8} (h1 : idLess a b = true) (h2 : idLess b c = true) : idLess a c = true := by
  unfold idLess at *
  simp only [Bool.and_eq_true, decide_eq_true_eq] at *
  exact ⟨⟨h1.1.1, h2.1.2⟩, cmpL_trans h1.2 h2.2⟩
theorem idLess_total {a b : List UInt8} (ha : idOk a = true) (hb : idOk b = true) (hne : a ≠ b) (h : idLess a b = false) : idLess b a = true := by
  unfold idLess at *
  simp only [ha, hb, Bool.true_and, decide_eq_false_iff_not, decide_eq_true_eq] at h ⊢
  have h0 : cmpL (idNs a) (idNs b) ≠ 0 := fun e => hne (idNs_inj (idOk_all ha).1 (idOk_all hb).1 (cmpL_zero e))
  rw [cmpL_swap]
  omega
theorem idLess_asym {a b : List UInt8} (h : idLess a b = true) : idLess b a = false := by
  cases h2 : idLess b a with
  | false => rfl
  | true => exact absurd (idLess_trans h h2) (by rw [idLess_irr]; simp)
theorem idLess_ne {a b : List UInt8} (h : idLess a b = true) : a ≠ b := by
  rintro rfl
  rw [idLess_irr] at h
  cases h
theorem sFind_nil (id : List UInt8) : sFind [] id = none := rfl
theorem sFind_cons (s : Ses) (L : List Ses) (id : List UInt8) : sFind (s :: L) id = if s.id = id then some s else sFind L id := by
  unfold sFind
  rw [List.find?_cons]
  by_cases h : s.id = id
  · rw [if_pos h]; simp [h]
  · rw [if_neg h]
    have : (s.id == id) = false := by simpa using h
    rw [this]
theorem sFind_some {L : List Ses} {id : List UInt8} {s : Ses} (h : sFind L id = some s) : s ∈ L ∧ s.id = id := by
  unfold sFind at h
  exact ⟨List.mem_of_find?_eq_some h, by simpa using List.find?_some h⟩
theorem sFind_none {L : List Ses} {id : List UInt8} (h : sFind L id = none) : ∀ s ∈ L, s.id ≠ id := by
  intro s hs e
  have := List.find?_eq_none.1 h s hs
  simp [e] at this
theorem sFind_mem {L : List Ses} (h : SOk L) {s : Ses} (hs : s ∈ L) : sFind L s.id = some s := by
  have a := h.asc
  clear h
  induction L with
  | nil => cases hs
  | cons t L ih =>
    rw [List.pairwise_cons] at a
    rw [sFind_cons]
    rcases List.mem_cons.1 hs with rfl | hs
    · rw [if_pos rfl]
    · rw [if_neg (idLess_ne (a.1 s hs)), ih hs a.2]
theorem sFind_ins (x : Ses) (L : List Ses) (h : sFind L x.id = none) (id : List UInt8) : sFind (sIns x L) id = if x.id = id then some x else sFind L id := by
  induction L with
  | nil => unfold sIns; rw [sFind_cons]
  | cons s L ih =>
    rw [sFind_cons] at h
    by_cases e : s.id = x.id
    · rw [if_pos e] at h; cases h
    · rw [if_neg e] at h
      unfold sIns
      by_cases hl : idLess s.id x.id = true
      · rw [if_pos hl, sFind_cons, ih h, sFind_cons]
        by_cases e1 : s.id = id
        · rw [if_pos e1, if_pos e1, if_neg (fun e2 => e (e1.trans e2.symm))]
        · rw [if_neg e1, if_neg e1]
      · rw [if_neg hl, sFind_cons]
theorem sCount_cons (s : Ses) (L : List Ses) (a : Int) : sCount (s :: L) a = sCount L a + (if s.began = a then 1 else 0) := by
  unfold sCount
  rw [List.filter_cons]
  by_cases h : s.began = a
  · rw [if_pos (by simp [h]), if_pos h]; rfl
  · rw [if_neg (by simp [h]), if_neg h]; rfl
theorem sCount_ins (x : Ses) (L : List Ses) (a : Int) : sCount (sIns x L) a = sCount L a + (if x.began = a then 1 else 0) := by
  induction L with
  | nil => unfold sIns; rw [sCount_cons]
  | cons s L ih =>
    unfold sIns
    split
    · rw [sCount_cons, ih, sCount_cons]; omega
    · rw [sCount_cons]
theorem mem_ins (x : Ses) (L : List Ses) (s : Ses) : s ∈ sIns x L ↔ s = x ∨ s ∈ L := by
  induction L with
  | nil => unfold sIns; simp
  | cons t L ih =>
    unfold sIns
    split
    · rw [List.mem_cons, ih, List.mem_cons]; grind
    · rw [List.mem_cons]
theorem len_ins (x : Ses) (L : List Ses) : (sIns x L).length = L.length + 1 := by
  induction L with
  | nil => rfl
  | cons t L ih =>
    unfold sIns
    split
    · rw [List.length_cons, ih]; rfl
    · rfl
theorem SOk.ins {L : List Ses} (h : SOk L) {x : Ses} (hx : idOk x.id = true) (hl : x.id.length ≤ 1000000000) (hn : sFind L x.id = none) : SOk (sIns x L) := by
  refine ⟨?_, fun s hs => ?_, fun s hs => ?_⟩
  · have a := h.asc
    have b := h.ok
    clear h hl
    induction L with
    | nil => unfold sIns; simp
    | cons t L ih =>
      rw [List.pairwise_cons] at a
      rw [sFind_cons] at hn
      by_cases e : t.id = x.id
      · rw [if_pos e] at hn; cases hn
      · rw [if_neg e] at hn
        unfold sIns
        by_cases hl : idLess t.id x.id = true
        · rw [if_pos hl, List.pairwise_cons]
          refine ⟨fun s hs => ?_, ih hn a.2 fun s hs => b s (by simp [hs])⟩
          rcases (mem_ins x L s).1 hs with rfl | hs
          · exact hl
          · exact a.1 s hs
        · have hxt : idLess x.id t.id = true := idLess_total (b t (by simp)) hx e (by simpa using hl)
          rw [if_neg hl, List.pairwise_cons]
          refine ⟨fun s hs => ?_, List.pairwise_cons.2 a⟩
          rcases List.mem_cons.1 hs with rfl | hs
          · exact hxt
          · exact idLess_trans hxt (a.1 s hs)
  · rcases (mem_ins x L s).1 hs with rfl | hs
    · exact hx
    · exact h.ok s hs
  · rcases (mem_ins x L s).1 hs with rfl | hs
    · exact hl
    · exact h.len s hs
theorem sSet_ids (L : List Ses) (id : List UInt8) (lab : Int) : (sSet L id lab).map (·.id) = L.map (·.id) := by
  unfold sSet
  rw [List.map_map]
  refine List.map_congr_left fun s _ => ?_
  show (if s.id = id then (⟨s.id, s.began, lab⟩ : Ses) else s).id = s.id
  split <;> rfl
theorem sFind_set (L : List Ses) (id : List UInt8) (lab : Int) (i : List UInt8) : sFind (sSet L id lab) i = if i = id then (sFind L id).map (fun s => ⟨s.id, s.began, lab⟩) else sFind L i := by
  induction L with
  | nil => unfold sSet; simp [sFind_nil]
  | cons s L ih =>
    have e : sSet (s :: L) id lab = (if s.id = id then ⟨s.id, s.began, lab⟩ else s) :: sSet L id lab := rfl
    rw [e, sFind_cons, ih, sFind_cons, sFind_cons]
    by_cases h : s.id = id
    · rw [if_pos h, if_pos h]
      by_cases h2 : i = id
      · rw [if_pos (by rw [h2]; exact h), if_pos h2]; rfl
      · rw [if_neg (fun x => h2 (x.symm.trans h)), if_neg h2, if_neg h2, if_neg (fun x => h2 (x.symm.trans h))]
    · rw [if_neg h, if_neg h]
      by_cases h2 : i = id
      · rw [if_neg (fun x => h (x.trans h2)), if_pos h2, if_pos h2]
      · rw [if_neg h2, if_neg h2]
theorem sCount_set (L : List Ses) (id : List UInt8) (lab : Int) (a : Int) : sCount (sSet L id lab) a = sCount L a := by
  induction L with
  | nil => rfl
  | cons s L ih =>
    have e : sSet (s :: L) id lab = (if s.id = id then ⟨s.id, s.began, lab⟩ else s) :: sSet L id lab := rfl
    rw [e, sCount_cons, ih, sCount_cons]
    congr 1
    split <;> rfl
theorem SOk.of_ids {L L' : List Ses} (h : SOk L) (e : L'.map (·.id) = L.map (·.id)) : SOk L' := by
  refine ⟨?_, fun s hs => ?_, fun s hs => ?_⟩
  · have a : (L.map (·.id)).Pairwise fun s t => idLess s t = true := List.pairwise_map.2 h.asc
    rw [← e] at a
    exact List.pairwise_map.1 a
  · have : s.id ∈ L.map (·.id) := e ▸ List.mem_map.2 ⟨s, hs, rfl⟩
    obtain ⟨t, ht, et⟩ := List.mem_map.1 this
    rw [← et]; exact h.ok t ht
  · have : s.id ∈ L.map (·.id) := e ▸ List.mem_map.2 ⟨s, hs, rfl⟩
    obtain ⟨t, ht, et⟩ := List.mem_map.1 this
    rw [← et]; exact h.len t ht
theorem SOk.set {L : List Ses} (h : SOk L) (id : List UInt8) (lab : Int) : SOk (sSet L id lab) := h.of_ids (sSet_ids L id lab)
theorem SOk.del {L : List Ses} (h : SOk L) (id : List UInt8) : SOk (sDel L id) :=
  ⟨h.asc.sublist List.filter_sublist, fun s hs => h.ok s ((List.mem_filter.1 hs).1), fun s hs => h.len s ((List.mem_filter.1 hs).1)⟩
theorem sFind_del (L : List Ses) (id : List UInt8) (i : List UInt8) : sFind (sDel L id) i = if i = id then none else sFind L i := by
  induction L with
  | nil => unfold sDel; simp [sFind_nil]
  | cons s L ih =>
    by_cases h : s.id = id
    · have e : sDel (s :: L) id = sDel L id := by unfold sDel; rw [List.filter_cons, if_neg (by simp [h])]
      rw [e, ih, sFind_cons]
      by_cases h2 : i = id
      · rw [if_pos h2, if_pos h2]
      · rw [if_neg h2, if_neg h2, if_neg (fun x => h2 (x.symm.trans h))]
    · have e : sDel (s :: L) id = s :: sDel L id := by unfold sDel; rw [List.filter_cons, if_pos (by simp [h])]
      rw [e, sFind_cons, ih, sFind_cons]
      by_cases h2 : i = id
      · rw [if_neg (fun x => h (x.trans h2)), if_pos h2, if_pos h2]
      · rw [if_neg h2, if_neg h2]
theorem sDel_none {L : List Ses} {id : List UInt8} (h : ∀ s ∈ L, s.id ≠ id) : sDel L id = L := by
  unfold sDel
  exact List.filter_eq_self.2 fun s hs => by simp [h s hs]
theorem sCount_del {L : List Ses} (hL : SOk L) {id : List UInt8} {s : Ses} (h : sFind L id = some s) (a : Int) : sCount (sDel L id) a + (if s.began = a then 1 else 0) = sCount L a := by
  have asc := hL.asc
  clear hL
  induction L with
  | nil => cases h
  | cons t L ih =>
    rw [List.pairwise_cons] at asc
    rw [sFind_cons] at h
    by_cases e : t.id = id
    · rw [if_pos e] at h
      have hts : t = s := Option.some.inj h
      subst hts
      have e1 : sDel (t :: L) id = sDel L id := by unfold sDel; rw [List.filter_cons, if_neg (by simp [e])]
      have e2 : sDel L id = L := sDel_none fun s hs x => idLess_ne (asc.1 s hs) (e.trans x.symm)
      rw [e1, e2, sCount_cons]
    · rw [if_neg e] at h
      have e1 : sDel (t :: L) id = t :: sDel L id := by unfold sDel; rw [List.filter_cons, if_pos (by simp [e])]
      rw [e1, sCount_cons, sCount_cons]
      have := ih h asc.2
      omega
theorem len_del {L : List Ses} (id : List UInt8) : (sDel L id).length ≤ L.length := List.length_filter_le _ _
theorem sCount_le (L : List Ses) (a : Int) : sCount L a ≤ L.length := List.length_filter_le _ _
end Go.Proofs.YtfhmmekamommcaaGreatDoor
