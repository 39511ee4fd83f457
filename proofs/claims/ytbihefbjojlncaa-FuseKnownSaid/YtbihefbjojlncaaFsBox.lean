/- A box of fuses in memory: its own block, its map, a block for each fuse; what keeps it. -/
import Derived.Test.YtbihefbjojlncaaProg
import Derived.Test.YtbihefbjojlncaaFsPlain
import Derived.Test.YtbihefbjojlncaaFrame
import Derived.Maps.Own
import Derived.Maps.Views
import Derived.Maps.OwnSet
import Derived.Maps.Range
import Derived.DeepKeys4
import Derived.KernelRfl
namespace Go.Proofs.Ytbihefbjojlncaa
set_option linter.unusedVariables false
set_option linter.unusedSimpArgs false
open Go Go.RowKit
open Go.Maps (Keyed)
def I64 (n : Int) : Prop := -9223372036854775808 ≤ n ∧ n ≤ 9223372036854775807
theorem laidOut : laidOutB Try.prog = true := by kernel_rfl
theorem law : Keyed Try.prog 32 := Keyed.of_law (deep_law_laid laidOut (m := 2) (by omega) (of_decide_eq_true (by kernel_rfl)) (by kernel_rfl) (by rw [Try.underlying32]))
/-- a spot, as a value, and what it reads as -/
def spotV (d l : Int) : Value := .agg #[.int .i64 d, .int .i64 l]
def spotK (d l : Int) : Lit := .string (keyBytes [.int .i64 d, .int .i64 l])
theorem wf_i64 {n : Int} (h : I64 n) : (Lit.int .i64 n).wf = true := by
  unfold I64 at h
  simp [Lit.wf, IntKind.min, IntKind.max, IntKind.signed, IntKind.bits]
  omega
theorem i64_of {n : Int} (h : (Lit.int .i64 n).wf = true) : I64 n := by
  simp [Lit.wf, IntKind.min, IntKind.max, IntKind.signed, IntKind.bits] at h
  unfold I64
  omega
theorem key_spot {d l : Int} (hd : I64 d) (hl : I64 l) : keyOf Try.prog 32 (spotV d l) = some (spotK d l) := by
  have c2 : Try.prog.cellsOf 32 = 2 := by kernel_rfl
  have c1 : Try.prog.cellsOf 3 = 1 := by kernel_rfl
  have cl : Try.prog.cellsOf 30 = 1 := by kernel_rfl
  have hk : Try.prog.keyType 32 = true := by kernel_rfl
  have hf : (spotV d l).formed Try.prog 32 = true := by simp [spotV, Value.formed, Try.underlying32, c2]
  obtain ⟨m, hm⟩ : ∃ m, Try.prog.types.size = m + 1 := ⟨_, Nat.sub_add_cancel (show 1 ≤ Try.prog.types.size from of_decide_eq_true (by kernel_rfl)) |>.symm⟩
  unfold keyOf
  rw [Try.underlying32]
  simp only [hk, hf, Bool.and_self, if_true, hm]
  simp [spotV, Value.cells, Program.keyLits, Try.underlying32, Try.underlying3, Try.underlying30, c1, c2, cl, wf_i64 hd, wf_i64 hl, spotK]
theorem spotK_inj {d l d' l' : Int} (hd : I64 d) (hl : I64 l) (hd' : I64 d') (hl' : I64 l') (h : spotK d l = spotK d' l') : d = d' ∧ l = l' := by
  have := law.inj (key_spot hd hl) (h ▸ key_spot hd' hl')
  simp [spotV] at this
  exact this
theorem spotK_key (d l : Int) : WideAt.IsKeyLit (spotK d l) := trivial
/-- how a pointer to a fuse reads: by its block's number -/
def ptrE (v : Value) : Option (DataW Unit × List MemPlace) := match v with
  | .pointer none => some (.nil, [])
  | .pointer (some ⟨b, 0, none⟩) => some (.lit (.int .i64 b), [])
  | _ => none
theorem ptrE_nil {v : Value} {ps : List MemPlace} (h : ptrE v = some (.nil, ps)) : v = .pointer none := by
  unfold ptrE at h
  split at h <;> simp_all
theorem ptrE_blk {v : Value} {ps : List MemPlace} {k : Nat} (h : ptrE v = some (.lit (.int .i64 k), ps)) : v = .pointer (some ⟨k, 0, none⟩) := by
  unfold ptrE at h
  split at h
  · simp at h
  · simp at h
    have := h.1
    have e : ∀ a b : Nat, (a : Int) = b → a = b := fun a b h => by omega
    rw [e _ _ this]
  · simp at h
def ptrD : Option Nat → DataW Unit
  | none => .nil
  | some k => .lit (.int .i64 k)
def ptrV : Option Nat → Value
  | none => .pointer none
  | some k => .pointer (some ⟨k, 0, none⟩)
theorem ptrE_mk (o : Option Nat) : ptrE (ptrV o) = some (ptrD o, []) := by cases o <;> rfl
theorem ptrE_inv {v : Value} {o : Option Nat} {ps : List MemPlace} (h : ptrE v = some (ptrD o, ps)) : v = ptrV o := by
  cases o with
  | none => exact ptrE_nil h
  | some k => exact ptrE_blk h
/-- the blocks of a box: its own, its map's, its fuses' -/
structure FX where
  b : Nat
  m : Nat
  F : Int → Int → Option Nat
def FX.Own (X : FX) (i : Nat) : Prop := i = X.b ∨ i = X.m ∨ ∃ d l, X.F d l = some i
def boxC (S : FS) (m : Nat) : Array Value := #[.int .i64 S.most, .int .i64 S.rest, .int .i64 S.now, .map (some m)]
structure BoxAt (w : World) (X : FX) (S : FS) (n : Nat) : Prop where
  ok : S.Ok
  box : w.heap[X.b]? = some (.cells (boxC S X.m) 68 (0, 0))
  map : ∃ D : DataW Unit, w.ownsMap Try.prog 32 ptrE X.m n D ∧ (∀ d l, I64 d → I64 l → D.atKey (spotK d l) .nil = ptrD (X.F d l)) ∧ ∀ kl, Maps.has D kl = true → ∃ d l k, kl = spotK d l ∧ X.F d l = some k
  fus : ∀ d l k, X.F d l = some k → w.heap[k]? = some (.cells #[.int .i64 (S.N d l)] 81 (0, 0))
  none0 : ∀ d l, X.F d l = none → S.N d l = 0
  inj : ∀ d l d' l' k, X.F d l = some k → X.F d' l' = some k → d = d' ∧ l = l'
  rng : ∀ d l k, X.F d l = some k → 0 ≤ d ∧ d ≤ 1000 ∧ 0 ≤ l ∧ l ≤ 9
theorem BoxAt.lt {w : World} {X : FX} {S : FS} {n : Nat} (h : BoxAt w X S n) {i : Nat} (hi : X.Own i) : i < w.heap.size := by
  rcases hi with rfl | rfl | ⟨d, l, hk⟩
  · exact lt_of_heap h.box
  · obtain ⟨D, hD, _⟩ := h.map
    exact hD.lt
  · exact lt_of_heap (h.fus _ _ _ hk)
/-- what is kept where its blocks are -/
theorem BoxAt.keep {w w' : World} {X : FX} {S : FS} {n : Nat} (h : BoxAt w X S n) (hk : ∀ i, X.Own i → w'.heap[i]? = w.heap[i]?) : BoxAt w' X S n := by
  obtain ⟨D, hD, h1, h2⟩ := h.map
  refine ⟨h.ok, (hk _ (.inl rfl)).trans h.box, ⟨D, ?_, h1, h2⟩, fun d l k hf => (hk _ (.inr (.inr ⟨d, l, hf⟩))).trans (h.fus _ _ _ hf), h.none0, h.inj, h.rng⟩
  obtain ⟨es, clock, hb, r⟩ := hD
  exact ⟨es, clock, (hk _ (.inr (.inl rfl))).trans hb, r⟩
theorem BoxAt.chg {w w' : World} {X : FX} {S : FS} {n : Nat} {K : Nat → Prop} (h : BoxAt w X S n) (hc : Chg K w w') (hk : ∀ i, X.Own i → ¬ K i) : BoxAt w' X S n :=
  h.keep fun i hi => hc.block i (h.lt hi) (hk i hi)
theorem BoxAt.drew {w : World} {X : FX} {S : FS} {n : Nat} (h : BoxAt w X S n) : BoxAt w.drew X S n := h.keep fun _ _ => rfl
theorem BoxAt.drewN {w : World} {X : FX} {S : FS} {n : Nat} (h : BoxAt w X S n) (k : Nat) : BoxAt (w.drewN k) X S n := h.keep fun _ _ => rfl
theorem BoxAt.alloc {w : World} {X : FX} {S : FS} {n : Nat} (h : BoxAt w X S n) (o : Obj) : BoxAt (w.alloc o) X S n :=
  h.keep fun i hi => Below.heap_alloc _ _ _ (h.lt hi)
theorem BoxAt.mono {w : World} {X : FX} {S : FS} {n n' : Nat} (h : BoxAt w X S n) (hn : n ≤ n') : BoxAt w X S n' := by
  obtain ⟨D, hD, r⟩ := h.map
  exact ⟨h.ok, h.box, ⟨D, hD.mono hn, r⟩, h.fus, h.none0, h.inj, h.rng⟩
/-- a fuse's block, told apart from the others -/
theorem BoxAt.fus_ne {w : World} {X : FX} {S : FS} {n : Nat} (h : BoxAt w X S n) {d l : Int} {k : Nat} (hk : X.F d l = some k) : k ≠ X.b ∧ k ≠ X.m := by
  have h1 := h.fus _ _ _ hk
  refine ⟨fun e => ?_, fun e => ?_⟩
  · rw [e, h.box] at h1
    simp [boxC] at h1
  · obtain ⟨D, ⟨es, clock, hb, _⟩, _⟩ := h.map
    rw [e, hb] at h1
    cases h1
theorem BoxAt.b_ne_m {w : World} {X : FX} {S : FS} {n : Nat} (h : BoxAt w X S n) : X.b ≠ X.m := by
  intro e
  obtain ⟨D, ⟨es, clock, hb, _⟩, _⟩ := h.map
  have h1 := h.box
  rw [e, hb] at h1
  cases h1
theorem BoxAt.num {w : World} {X : FX} {S : FS} {n : Nat} (h : BoxAt w X S n) (d l : Int) : 0 ≤ S.N d l ∧ S.N d l ≤ 18014398513481987 ∧ (S.N d l % 4 = 0 → S.N d l < 4000) := h.ok.num d l
/-- the tick is told -/
theorem BoxAt.setNow {w : World} {X : FX} {S : FS} {n : Nat} (h : BoxAt w X S n) {t : Int} (h0 : S.now ≤ t) (ht : t ≤ 4503599627370496) : BoxAt (w.setCell ⟨X.b, 2, none⟩ (.int .i64 t)) X (S.tick t) n := by
  obtain ⟨D, hD, h1, h2⟩ := h.map
  have hne := h.b_ne_m
  refine ⟨h.ok.tick ht, ?_, ⟨D, ?_, h1, h2⟩, fun d l k hf => ?_, h.none0, h.inj, h.rng⟩
  · rw [heap_setCell_cells h.box]
    have : max S.now t = t := by omega
    simp [boxC, FS.tick, this]
  · obtain ⟨es, clock, hb, r⟩ := hD
    exact ⟨es, clock, heap_setCell hb (fun e => hne e.symm) _, r⟩
  · exact heap_setCell (h.fus _ _ _ hf) (h.fus_ne hf).1 _
theorem BoxAt.stay {w : World} {X : FX} {S : FS} {n : Nat} (h : BoxAt w X S n) {t : Int} (h0 : t ≤ S.now) : BoxAt w X (S.tick t) n := by
  have : max S.now t = S.now := by omega
  have e : S.tick t = S := by simp [FS.tick, this]
  rw [e]; exact h
/-- a fuse's number is turned -/
theorem BoxAt.setNum {w : World} {X : FX} {S : FS} {n : Nat} (h : BoxAt w X S n) {d l : Int} {k : Nat} (hk : X.F d l = some k) {x : Int} (h0 : 0 ≤ x) (h1 : x ≤ 18014398513481987) (h2 : x % 4 = 0 → x < 4000) :
    BoxAt (w.setCell ⟨k, 0, none⟩ (.int .i64 x)) X (S.set d l x) n := by
  obtain ⟨D, hD, g1, g2⟩ := h.map
  obtain ⟨nb, nm⟩ := h.fus_ne hk
  refine ⟨h.ok.set d l h0 h1 h2, heap_setCell h.box (fun e => nb e.symm) _, ⟨D, ?_, g1, g2⟩, fun d' l' k' hf => ?_, fun d' l' hf => ?_, h.inj, h.rng⟩
  · obtain ⟨es, clock, hb, r⟩ := hD
    exact ⟨es, clock, heap_setCell hb (fun e => nm e.symm) _, r⟩
  · by_cases e : d' = d ∧ l' = l
    · obtain ⟨rfl, rfl⟩ := e
      obtain rfl : k = k' := by rw [hk] at hf; exact Option.some.inj hf
      rw [heap_setCell_cells (h.fus _ _ _ hk)]
      simp [FS.set, updN_same]
    · have hn : (S.set d l x).N d' l' = S.N d' l' := updN_other _ e
      rw [hn]
      exact heap_setCell (h.fus _ _ _ hf) (fun e2 => e (by simp at e2; subst e2; exact h.inj _ _ _ _ _ hf hk)) _
  · have e : ¬ (d' = d ∧ l' = l) := by rintro ⟨rfl, rfl⟩; rw [hk] at hf; cases hf
    show updN S.N d l x d' l' = 0
    rw [updN_other _ e]
    exact h.none0 _ _ hf
def setF (F : Int → Int → Option Nat) (d l : Int) (k : Nat) : Int → Int → Option Nat := fun a b => if a = d ∧ b = l then some k else F a b
theorem setF_same (F : Int → Int → Option Nat) (d l : Int) (k : Nat) : setF F d l k d l = some k := by simp [setF]
theorem setF_other {F : Int → Int → Option Nat} {d l : Int} {k : Nat} {a b : Int} (h : ¬ (a = d ∧ b = l)) : setF F d l k a b = F a b := by simp [setF, h]
/-- a new fuse, put into the map -/
theorem BoxAt.put {w w' : World} {X : FX} {S : FS} {n : Nat} (h : BoxAt w X S n) {d l : Int} (hd : 0 ≤ d ∧ d ≤ 1000) (hl : 0 ≤ l ∧ l ≤ 9) (hF : X.F d l = none) {D : DataW Unit}
    (g1 : ∀ a b, I64 a → I64 b → D.atKey (spotK a b) .nil = ptrD (X.F a b)) (g2 : ∀ kl, Maps.has D kl = true → ∃ a b k, kl = spotK a b ∧ X.F a b = some k) (hI : Maps.IsMap D)
    (hown : w'.ownsMap Try.prog 32 ptrE X.m (n + 1) (D.put (spotK d l) (.lit (.int .i64 w.heap.size))))
    (hg : (w.alloc (.cells #[.int .i64 0] 81)).grownBy w' (some X.m)) : BoxAt w' { X with F := setF X.F d l w.heap.size } S (n + 1) := by
  have hd' : I64 d := by unfold I64; omega
  have hl' : I64 l := by unfold I64; omega
  have keepC : ∀ {k : Nat} {c : Array Value} {t : TypeId} {f : Nat × Nat}, w.heap[k]? = some (.cells c t f) → w'.heap[k]? = some (.cells c t f) := fun {k c t f} hk =>
    grown_keep hg (heap_alloc hk) (fun e => by
      obtain ⟨D', ⟨es, clock, hb, _⟩, _⟩ := h.map
      simp at e
      subst e
      rw [hb] at hk
      cases hk)
  refine ⟨h.ok, keepC h.box, ⟨_, hown, fun a b ha hb => ?_, fun kl hkl => ?_⟩, fun a b k hf => ?_, fun a b hf => ?_, fun a b a' b' k hf hf' => ?_, fun a b k hf => ?_⟩
  · show (D.put (spotK d l) (.lit (.int .i64 w.heap.size))).atKey (spotK a b) .nil = ptrD (setF X.F d l w.heap.size a b)
    by_cases e : a = d ∧ b = l
    · obtain ⟨rfl, rfl⟩ := e
      rw [Maps.atKey_put_same hI (spotK_key _ _), setF_same]
      rfl
    · rw [setF_other e, Maps.atKey_put_other (fun e2 => e (spotK_inj ha hb hd' hl' e2)), g1 a b ha hb]
  · by_cases e : kl = spotK d l
    · exact ⟨d, l, _, e, setF_same _ _ _ _⟩
    · rw [Maps.has_put_other e] at hkl
      obtain ⟨a, b, k, rfl, hk⟩ := g2 kl hkl
      exact ⟨a, b, k, rfl, by show setF X.F d l w.heap.size a b = some k; rw [setF_other (fun e2 => e (by rw [e2.1, e2.2]))]; exact hk⟩
  · by_cases e : a = d ∧ b = l
    · obtain ⟨rfl, rfl⟩ := e
      simp only [setF_same, Option.some.injEq] at hf
      subst hf
      rw [h.none0 _ _ hF]
      refine grown_keep hg (heap_new w _) (fun e => ?_)
      have := h.lt (i := X.m) (.inr (.inl rfl))
      simp at e
      omega
    · simp only [setF_other e] at hf
      exact keepC (h.fus _ _ _ hf)
  · have e : ¬ (a = d ∧ b = l) := by rintro ⟨rfl, rfl⟩; simp [setF_same] at hf
    simp only [setF_other e] at hf
    exact h.none0 _ _ hf
  · by_cases e : a = d ∧ b = l
    · by_cases e' : a' = d ∧ b' = l
      · exact ⟨e.1.trans e'.1.symm, e.2.trans e'.2.symm⟩
      · obtain ⟨rfl, rfl⟩ := e
        simp only [setF_same, setF_other e', Option.some.injEq] at hf hf'
        subst hf
        have := h.lt (.inr (.inr ⟨_, _, hf'⟩))
        omega
    · by_cases e' : a' = d ∧ b' = l
      · obtain ⟨rfl, rfl⟩ := e'
        simp only [setF_same, setF_other e, Option.some.injEq] at hf hf'
        subst hf'
        have := h.lt (.inr (.inr ⟨_, _, hf⟩))
        omega
      · simp only [setF_other e, setF_other e'] at hf hf'
        exact h.inj _ _ _ _ _ hf hf'
  · by_cases e : a = d ∧ b = l
    · obtain ⟨rfl, rfl⟩ := e
      exact ⟨hd.1, hd.2, hl.1, hl.2⟩
    · simp only [setF_other e] at hf
      exact h.rng _ _ _ hf
/-- what a call leaves of a box: its blocks are its own elder ones or new; nothing else turned -/
structure Went (w w' : World) (X X' : FX) : Prop where
  b : X'.b = X.b
  chg : Chg X.Own w w'
  new : ∀ i, X'.Own i → X.Own i ∨ w.heap.size ≤ i
theorem Went.refl (w : World) (X : FX) : Went w w X X := ⟨rfl, Chg.refl _ _, fun _ h => .inl h⟩
theorem Went.trans {w w1 w2 : World} {X Y Z : FX} (h : Went w w1 X Y) (k : Went w1 w2 Y Z) : Went w w2 X Z :=
  ⟨k.b.trans h.b, h.chg.trans' k.chg (fun i hi hs => (h.new i hs).elim id (fun x => absurd hi (by omega))), fun i hi => (k.new i hi).elim (fun x => h.new i x) (fun x => .inr (Nat.le_trans h.chg.size x))⟩
theorem Went.drew {w w1 : World} {X Y : FX} (h : Went w w1 X Y) : Went w w1.drew X Y := ⟨h.b, h.chg.drew, h.new⟩
theorem Went.drewN {w w1 : World} {X Y : FX} (h : Went w w1 X Y) (n : Nat) : Went w (w1.drewN n) X Y := ⟨h.b, h.chg.drewN n, h.new⟩
/-- another box is kept -/
theorem BoxAt.went {w w' : World} {X X' Y : FX} {T : FS} {n : Nat} (h : BoxAt w Y T n) (hc : Went w w' X X') (ha : ∀ i, X.Own i → ¬ Y.Own i) : BoxAt w' Y T n :=
  h.chg hc.chg fun i hi hx => ha i hx hi
theorem Went.apart {w w' : World} {X X' Y : FX} {T : FS} {n : Nat} (hc : Went w w' X X') (h : BoxAt w Y T n) (ha : ∀ i, X.Own i → ¬ Y.Own i) : ∀ i, X'.Own i → ¬ Y.Own i := by
  intro i hi hy
  rcases hc.new i hi with h1 | h1
  · exact ha i h1 hy
  · have := h.lt hy
    omega
theorem Went.above {w w' : World} {X X' : FX} {B : Nat} (hc : Went w w' X X') (hB : B ≤ w.heap.size) (h : ∀ i, X.Own i → B ≤ i) : ∀ i, X'.Own i → B ≤ i := fun i hi => (hc.new i hi).elim (h i) (fun x => Nat.le_trans hB x)
end Go.Proofs.Ytbihefbjojlncaa
