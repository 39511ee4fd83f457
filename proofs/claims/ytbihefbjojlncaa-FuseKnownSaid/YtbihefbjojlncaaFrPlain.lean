/- The document's box of fuses, plainly: a row of fuses in order, beside the box's own numbers. -/
import Derived.Test.YtbihefbjojlncaaFsPlain
namespace Go.Proofs.Ytbihefbjojlncaa
set_option linter.unusedVariables false
set_option linter.unusedSimpArgs false
/-- a fuse: destination, label, state, failures, up to which tick -/
abbrev FE := Int × Int × Int × Int × Int
def befK (a b c d : Int) : Bool := decide (a < c) || (decide (a = c) && decide (b < d))
def bef (e f : FE) : Bool := befK e.1 e.2.1 f.1 f.2.1
def sameK (e f : FE) : Bool := decide (e.1 = f.1 ∧ e.2.1 = f.2.1)
def nzE (f : FE) : Bool := decide (f.2.2.1 ≠ 0) || decide (f.2.2.2.1 ≠ 0)
def nzl (f : FE) : List FE := if nzE f = true then [f] else []
def refset : List FE → FE → List FE
  | [], f => nzl f
  | e :: r, f => if bef e f = true then e :: refset r f else if sameK e f = true then nzl f ++ r else nzl f ++ e :: r
theorem bef_iff {e f : FE} : bef e f = true ↔ e.1 < f.1 ∨ (e.1 = f.1 ∧ e.2.1 < f.2.1) := by simp [bef, befK]
theorem same_iff {e f : FE} : sameK e f = true ↔ e.1 = f.1 ∧ e.2.1 = f.2.1 := by simp [sameK]
theorem bef_trans {e f g : FE} (h : bef e f = true) (k : bef f g = true) : bef e g = true := by rw [bef_iff] at *; omega
theorem bef_not_same {e f : FE} (h : bef e f = true) : sameK e f = false := by
  cases hs : sameK e f
  · rfl
  · rw [bef_iff] at h; rw [same_iff] at hs; omega
theorem bef_total {e f : FE} (h : bef e f ≠ true) (k : sameK e f ≠ true) : bef f e = true := by
  rw [Ne, bef_iff] at h
  rw [Ne, same_iff] at k
  rw [bef_iff]
  omega
theorem mem_nzl {e f : FE} : e ∈ nzl f ↔ e = f ∧ nzE f = true := by
  unfold nzl
  split
  · rename_i h; simp [h]
  · rename_i h; simp [h]
theorem mem_refset {f : FE} : ∀ {L : List FE}, L.Pairwise (fun e g => bef e g = true) → ∀ e, e ∈ refset L f ↔ (e ∈ L ∧ sameK e f = false) ∨ (e = f ∧ nzE f = true)
  | [], _, e => by simp [refset, mem_nzl]
  | e0 :: r, h, e => by
    obtain ⟨h1, h2⟩ := List.pairwise_cons.1 h
    unfold refset
    by_cases c1 : bef e0 f = true
    · rw [if_pos c1]
      simp only [List.mem_cons, mem_refset h2 e]
      constructor
      · rintro (rfl | h | h)
        · exact .inl ⟨.inl rfl, bef_not_same c1⟩
        · exact .inl ⟨.inr h.1, h.2⟩
        · exact .inr h
      · rintro (⟨h | h, k⟩ | h)
        · exact .inl h
        · exact .inr (.inl ⟨h, k⟩)
        · exact .inr (.inr h)
    · rw [if_neg c1]
      by_cases c2 : sameK e0 f = true
      · rw [if_pos c2]
        simp only [List.mem_append, mem_nzl, List.mem_cons]
        constructor
        · rintro (h | h)
          · exact .inr h
          · refine .inl ⟨.inr h, ?_⟩
            cases hs : sameK e f
            · rfl
            · have := h1 e h
              rw [bef_iff] at this
              rw [same_iff] at hs c2
              omega
        · rintro (⟨rfl | h, k⟩ | h)
          · rw [c2] at k; cases k
          · exact .inr h
          · exact .inl h
      · rw [if_neg c2]
        have c3 := bef_total c1 c2
        simp only [List.mem_append, mem_nzl, List.mem_cons]
        constructor
        · rintro (h | rfl | h)
          · exact .inr h
          · exact .inl ⟨.inl rfl, by simpa using c2⟩
          · refine .inl ⟨.inr h, ?_⟩
            have := bef_trans c3 (h1 e h)
            cases hs : sameK e f
            · rfl
            · rw [bef_iff] at this
              rw [same_iff] at hs
              omega
        · rintro (⟨h | h, k⟩ | h)
          · exact .inr (.inl h)
          · exact .inr (.inr h)
          · exact .inl h
theorem sorted_nzl (f : FE) : (nzl f).Pairwise (fun e g => bef e g = true) := by
  unfold nzl
  split <;> simp
theorem sorted_refset {f : FE} : ∀ {L : List FE}, L.Pairwise (fun e g => bef e g = true) → (refset L f).Pairwise (fun e g => bef e g = true)
  | [], _ => sorted_nzl f
  | e0 :: r, h => by
    obtain ⟨h1, h2⟩ := List.pairwise_cons.1 h
    unfold refset
    by_cases c1 : bef e0 f = true
    · rw [if_pos c1]
      refine List.pairwise_cons.2 ⟨fun e he => ?_, sorted_refset h2⟩
      rcases (mem_refset h2 e).1 he with h | h
      · exact h1 e h.1
      · rw [h.1]; exact c1
    · rw [if_neg c1]
      by_cases c2 : sameK e0 f = true
      · rw [if_pos c2]
        refine List.pairwise_append.2 ⟨sorted_nzl f, h2, fun a ha b hb => ?_⟩
        rw [(mem_nzl.1 ha).1]
        have := h1 b hb
        rw [bef_iff] at *
        rw [same_iff] at c2
        omega
      · rw [if_neg c2]
        have c3 := bef_total c1 c2
        refine List.pairwise_append.2 ⟨sorted_nzl f, h, fun a ha b hb => ?_⟩
        rw [(mem_nzl.1 ha).1]
        rcases List.mem_cons.1 hb with rfl | hb
        · exact c3
        · exact bef_trans c3 (h1 b hb)
/-- as the loop has it -/
theorem refset_split (f : FE) : ∀ (L : List FE) (i : Nat), (∀ j e, j < i → L[j]? = some e → bef e f = true) → (∀ e, L[i]? = some e → bef e f = false) → i ≤ L.length →
    refset L f = L.take i ++ nzl f ++ L.drop (match L[i]? with | some e => if sameK e f = true then i + 1 else i | none => i)
  | [], i, _, _, hi => by
    have : i = 0 := by simpa using hi
    subst this
    simp [refset]
  | e :: r, 0, _, h2, _ => by
    have := h2 e rfl
    unfold refset
    rw [if_neg (by rw [this]; decide)]
    by_cases c : sameK e f = true
    · simp [c]
    · simp [c]
  | e :: r, i + 1, h1, h2, hi => by
    have := h1 0 e (by omega) rfl
    unfold refset
    rw [if_pos this, refset_split f r i (fun j x hj hx => h1 (j + 1) x (by omega) (by simpa using hx)) (fun x hx => h2 x (by simpa using hx)) (by simpa using hi)]
    simp only [List.getElem?_cons_succ, List.take_succ_cons, List.cons_append]
    cases r[i]? with
    | none => simp
    | some x =>
      simp only
      split <;> simp
def entS (S : FS) (d l : Int) : FE := (d, l, (S.state d l).1, (S.state d l).2.1, (S.state d l).2.2)
structure Keys (S : FS) (L : List FE) : Prop where
  sorted : L.Pairwise (fun e f => bef e f = true)
  ent : ∀ e ∈ L, e = entS S e.1 e.2.1 ∧ S.N e.1 e.2.1 ≠ 0 ∧ 0 ≤ e.1 ∧ e.1 ≤ 1000 ∧ 0 ≤ e.2.1 ∧ e.2.1 ≤ 9
  all : ∀ d l, S.N d l ≠ 0 → ∃ e ∈ L, e.1 = d ∧ e.2.1 = l
theorem entS_set {S : FS} {d l x : Int} : entS (S.set d l x) d l = if x % 4 = 0 then (d, l, 0, x / 4, 0) else (d, l, x % 4, 0, x / 4) := by
  have : (S.set d l x).N d l = x := updN_same _ _ _ _
  unfold entS FS.state
  rw [this]
  split <;> rfl
theorem nz_entS {S : FS} {d l x : Int} (h0 : 0 ≤ x) : nzE (entS (S.set d l x) d l) = decide (x ≠ 0) := by
  rw [entS_set]
  by_cases c : x % 4 = 0
  · rw [if_pos c]
    by_cases c0 : x = 0
    · subst c0; rfl
    · have : x / 4 ≠ 0 := by omega
      simp [nzE, this, c0]
  · rw [if_neg c]
    have : x ≠ 0 := by rintro rfl; exact c rfl
    simp [nzE, c, this]
theorem entS_other {S : FS} {d l x a b : Int} (h : ¬ (a = d ∧ b = l)) : entS (S.set d l x) a b = entS S a b := by
  have : (S.set d l x).N a b = S.N a b := updN_other _ h
  unfold entS FS.state
  rw [this]
theorem Keys.set {S : FS} {L : List FE} (h : Keys S L) {d l x : Int} (hd : 0 ≤ d ∧ d ≤ 1000) (hl : 0 ≤ l ∧ l ≤ 9) (h0 : 0 ≤ x) : Keys (S.set d l x) (refset L (entS (S.set d l x) d l)) := by
  have hN : (S.set d l x).N d l = x := updN_same _ _ _ _
  refine ⟨sorted_refset h.sorted, fun e he => ?_, fun a b hab => ?_⟩
  · rcases (mem_refset h.sorted e).1 he with ⟨h1, h2⟩ | ⟨rfl, h2⟩
    · have hne : ¬ (e.1 = d ∧ e.2.1 = l) := fun c => by
        have : sameK e (entS (S.set d l x) d l) = true := same_iff.2 c
        rw [h2] at this; cases this
      obtain ⟨k1, k2, k3⟩ := h.ent e h1
      refine ⟨by rw [entS_other hne]; exact k1, ?_, k3⟩
      have : (S.set d l x).N e.1 e.2.1 = S.N e.1 e.2.1 := updN_other _ hne
      rw [this]; exact k2
    · refine ⟨rfl, ?_, hd.1, hd.2, hl.1, hl.2⟩
      rw [nz_entS h0] at h2
      show (S.set d l x).N d l ≠ 0
      rw [hN]
      simpa using h2
  · by_cases c : a = d ∧ b = l
    · obtain ⟨rfl, rfl⟩ := c
      rw [hN] at hab
      exact ⟨_, (mem_refset h.sorted _).2 (.inr ⟨rfl, by rw [nz_entS h0]; simpa using hab⟩), rfl, rfl⟩
    · have : (S.set d l x).N a b = S.N a b := updN_other _ c
      rw [this] at hab
      obtain ⟨e, he, e1, e2⟩ := h.all a b hab
      refine ⟨e, (mem_refset h.sorted e).2 (.inl ⟨he, ?_⟩), e1, e2⟩
      cases hs : sameK e (entS (S.set d l x) d l)
      · rfl
      · have := same_iff.1 hs
        exact absurd ⟨e1.symm.trans this.1, e2.symm.trans this.2⟩ c
theorem Keys.tick {S : FS} {L : List FE} (h : Keys S L) (t : Int) : Keys (S.tick t) L := ⟨h.sorted, h.ent, h.all⟩
theorem Keys.found {S : FS} {L : List FE} (h : Keys S L) {e : FE} (he : e ∈ L) {d l : Int} (h1 : e.1 = d) (h2 : e.2.1 = l) : e = entS S d l := by
  subst h1 h2
  exact (h.ent e he).1
theorem Keys.none {S : FS} {L : List FE} (h : Keys S L) {d l : Int} (hn : ∀ e ∈ L, ¬ (e.1 = d ∧ e.2.1 = l)) : entS S d l = (d, l, 0, 0, 0) := by
  have : S.N d l = 0 := by
    rcases Classical.em (S.N d l = 0) with c | c
    · exact c
    · obtain ⟨e, he, k⟩ := h.all d l c
      exact absurd k (hn e he)
  unfold entS FS.state
  rw [this]
  rfl
theorem Keys.new (most rest : Int) : Keys (FS.new most rest) [] := ⟨List.Pairwise.nil, fun _ h => by simp at h, fun _ _ h => absurd rfl h⟩
end Go.Proofs.Ytbihefbjojlncaa
