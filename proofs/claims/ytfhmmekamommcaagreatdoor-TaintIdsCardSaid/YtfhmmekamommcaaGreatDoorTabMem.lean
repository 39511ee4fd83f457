/- A table of sessions in memory; what keeps it. -/
import Derived.Test.YtfhmmekamommcaaGreatDoorTabPlain
import Derived.Test.YtfhmmekamommcaaGreatDoorIdFns
import Derived.Test.YtfhmmekamommcaaGreatDoorLatFns2
import Derived.Maps.Own
import Derived.Maps.Views
import Derived.Maps.OwnSet
import Derived.Maps.OwnOps
import Derived.Maps.Range
import Derived.StringKeys
namespace Go.Proofs.YtfhmmekamommcaaGreatDoor
set_option linter.unusedVariables false
set_option linter.unusedSimpArgs false
open Go Go.RowKit Go.Proofs Go.Shelf
def CellsKept (w w' : World) : Prop := ∀ (k : Nat) (c : Array Value) (t : TypeId) (f : Nat × Nat), w.heap[k]? = some (Obj.cells c t f) → w'.heap[k]? = some (Obj.cells c t f)
theorem Chg.cellsKept {S : Nat → Prop} {w w' : World} (h : Chg S w w') (hS : ∀ k, S k → ∀ c t f, w.heap[k]? ≠ some (Obj.cells c t f)) : CellsKept w w' :=
  fun k c t f e => h.keep e fun hs => hS k hs c t f e
theorem Chg.same_cells {w w' : World} (h : Chg (fun _ => False) w w') : CellsKept w w' := h.cellsKept fun _ x => x.elim
theorem IsLat.cells {w w' : World} {base la : Nat} {N : List (List UInt8)} {R : Nat → Nat → Bool} (h : IsLat w base la N R) (hk : CellsKept w w') : IsLat w' base la N R := by
  obtain ⟨b, bu, bd, cu, cd, g, cap, h1, hO, hn, hL, hN, hg⟩ := h
  refine ⟨b, bu, bd, cu, cd, g, cap, h1, hO.keep (fun k c t f _ e => hk k c t f e), hn, ?_, fun i hi => ?_, hg⟩
  · obtain ⟨c, hc, r⟩ := hL.blk
    exact ⟨c, hk _ _ _ _ hc, r⟩
  · have h' := hN i hi
    unfold World.cell? at h'
    split at h'
    · rename_i c2 t f e2
      have e3 := hk _ _ _ _ e2
      simp only [World.cell?, e3]
      exact h'
    · cases h'
theorem var?_cells {P : Program} {w w' : World} {n : String} {g : Nat} {cs : Array Value} (hk : CellsKept w w') (hg : P.globalNamed n = some g) (h : w.var? P n = some cs) : w'.var? P n = some cs := by
  unfold World.var? at h ⊢
  rw [hg] at h ⊢
  simp only [Option.bind_some] at h ⊢
  cases hh : w.heap[g]? with
  | none => simp [hh] at h
  | some o =>
    cases o with
    | cells c t f => rw [hk _ _ _ _ hh]; rw [hh] at h; exact h
    | _ => simp [hh] at h
theorem WOk.cells {w w' : World} (h : WOk w) (hk : CellsKept w w') : WOk w' := by
  obtain ⟨tp, p, hr⟩ := h.rng
  exact ⟨var?_cells hk gPow h.tab, tp, p, var?_cells hk gRng hr⟩
theorem TabOk.cells {w w' : World} (h : TabOk w) (hk : CellsKept w w') : TabOk w' := h.block fun c t f e => hk _ _ _ _ e
theorem WOk.same {w w' : World} (h : WOk w) (hc : Chg (fun _ => False) w w') : WOk w' := h.cells hc.same_cells
/-! ### sessions as elements -/
def sesV (b l : Int) : Value := .agg #[.int .i64 b, .int .i64 l]
def sesD (b l : Int) : DataW Unit := .agg [.lit (.int .i64 b), .lit (.int .i64 l)]
def sesE (v : Value) : Option (DataW Unit × List MemPlace) := match v with
  | .agg c => match c.toList with
    | [.int .i64 b, .int .i64 l] => some (sesD b l, [])
    | _ => none
  | _ => none
theorem sesE_mk (b l : Int) : sesE (sesV b l) = some (sesD b l, []) := rfl
theorem sesE_inv {v : Value} {b l : Int} {ps : List MemPlace} (h : sesE v = some (sesD b l, ps)) : v = sesV b l := by
  unfold sesE at h
  split at h
  · split at h
    · rename_i c b' l' e
      simp only [Option.some.injEq, Prod.mk.injEq, sesD, DataW.agg.injEq, List.cons.injEq, DataW.lit.injEq, Lit.int.injEq] at h
      obtain ⟨⟨⟨_, rfl⟩, ⟨_, rfl⟩, _⟩, _⟩ := h
      unfold sesV
      rw [← e]
    · cases h
  · cases h
def sesOf : Option Ses → DataW Unit
  | none => sesD 0 0
  | some s => sesD s.began s.label
def I64 (n : Int) : Prop := -9223372036854775808 ≤ n ∧ n ≤ 9223372036854775807
theorem wf_i64 {n : Int} (h : I64 n) : (Lit.int .i64 n).wf = true := by
  unfold I64 at h
  simp [Lit.wf, IntKind.min, IntKind.max, IntKind.signed, IntKind.bits]
  omega
theorem strKeyed : Maps.Keyed Tryz.prog 9 := Maps.string_keyed Tryz.underlying9
theorem labKeyed : Maps.Keyed Tryz.prog 34 := Maps.int_keyed Tryz.underlying34
theorem key_id (id : List UInt8) (h : id.length ≤ 1000000000) : keyOf Tryz.prog 9 (.string (bs id)) = some (.string id) := by
  have := WideMaps.keyOf_string_mk (P := Tryz.prog) (k := 9) Tryz.underlying9 (s := bs id) (by rw [bs_size]; exact Nat.le_trans h (by decide))
  exact this
theorem key_lab {a : Int} (h : I64 a) : keyOf Tryz.prog 34 (.int .i64 a) = some (.int .i64 a) := Maps.keyOf_int_mk Tryz.underlying34 (wf_i64 h)
theorem strK (id : List UInt8) : WideAt.IsKeyLit (.string id) := trivial
theorem labK (a : Int) : WideAt.IsKeyLit (.int .i64 a) := trivial
structure TX where
  b : Nat
  m1 : Nat
  m2 : Nat
def TX.p (X : TX) : Value := .pointer (some ⟨X.b, 0, none⟩)
structure TabAt (w : World) (X : TX) (lv : Value) (L : List Ses) (n : Nat) : Prop where
  ok : SOk L
  box : w.heap[X.b]? = some (.cells #[lv, .map (some X.m1), .map (some X.m2)] 77 (0, 0))
  ses : ∃ D : DataW Unit, w.ownsMap Tryz.prog 9 sesE X.m1 n D ∧ (∀ id, D.atKey (.string id) (sesD 0 0) = sesOf (sFind L id)) ∧ (∀ id, Maps.has D (.string id) = (sFind L id).isSome)
  cnt : ∃ D : DataW Unit, w.ownsMap Tryz.prog 34 (plainElem Tryz.prog 3) X.m2 n D ∧ ∀ a, D.atKey (.int .i64 a) (.lit (.int .i64 0)) = .lit (.int .i64 (sCount L a : Nat))
  lab : ∀ s ∈ L, I64 s.began ∧ I64 s.label
  few : L.length ≤ n
  ne : X.m1 ≠ X.m2
theorem map_not_cells {w : World} {P : Program} {k : TypeId} {R : Value → Option (DataW Unit × List MemPlace)} {b n : Nat} {D : DataW Unit} (h : w.ownsMap P k R b n D) (c : Array Value) (t : TypeId) (f : Nat × Nat) : w.heap[b]? ≠ some (Obj.cells c t f) := by
  obtain ⟨es, clock, hb, _⟩ := h
  rw [hb]
  simp
def TX.Maps (X : TX) (i : Nat) : Prop := i = X.m1 ∨ i = X.m2
theorem TabAt.cellsKept {w w' : World} {X : TX} {lv : Value} {L : List Ses} {n : Nat} (h : TabAt w X lv L n) (hc : Chg X.Maps w w') : CellsKept w w' :=
  hc.cellsKept fun k hk c t f => by
    obtain ⟨D1, o1, _⟩ := h.ses
    obtain ⟨D2, o2, _⟩ := h.cnt
    rcases hk with rfl | rfl
    · exact map_not_cells o1 c t f
    · exact map_not_cells o2 c t f
theorem TabAt.keep {w w' : World} {X : TX} {lv : Value} {L : List Ses} {n : Nat} (h : TabAt w X lv L n) (hk : ∀ i, (i = X.b ∨ X.Maps i) → w'.heap[i]? = w.heap[i]?) : TabAt w' X lv L n := by
  obtain ⟨D1, ⟨es, cl, hb, F, r⟩, s1, s2⟩ := h.ses
  obtain ⟨D2, ⟨es', cl', hb', F', r'⟩, s3⟩ := h.cnt
  exact ⟨h.ok, (hk _ (.inl rfl)).trans h.box, ⟨D1, ⟨es, cl, (hk _ (.inr (.inl rfl))).trans hb, F, r⟩, s1, s2⟩, ⟨D2, ⟨es', cl', (hk _ (.inr (.inr rfl))).trans hb', F', r'⟩, s3⟩, h.lab, h.few, h.ne⟩
theorem TabAt.lt {w : World} {X : TX} {lv : Value} {L : List Ses} {n : Nat} (h : TabAt w X lv L n) {i : Nat} (hi : i = X.b ∨ X.Maps i) : i < w.heap.size := by
  rcases hi with rfl | rfl | rfl
  · exact lt_of_heap h.box
  · obtain ⟨D, o, _⟩ := h.ses; exact o.lt
  · obtain ⟨D, o, _⟩ := h.cnt; exact o.lt
theorem TabAt.chg {w w' : World} {X : TX} {lv : Value} {L : List Ses} {n : Nat} {S : Nat → Prop} (h : TabAt w X lv L n) (hc : Chg S w w') (hS : ∀ i, (i = X.b ∨ X.Maps i) → ¬ S i) : TabAt w' X lv L n :=
  h.keep fun i hi => hc.block i (h.lt hi) (hS i hi)
theorem TabAt.same {w w' : World} {X : TX} {lv : Value} {L : List Ses} {n : Nat} (h : TabAt w X lv L n) (hc : Chg (fun _ => False) w w') : TabAt w' X lv L n := h.chg hc fun _ _ x => x
theorem TabAt.mono {w : World} {X : TX} {lv : Value} {L : List Ses} {n n' : Nat} (h : TabAt w X lv L n) (hn : n ≤ n') : TabAt w X lv L n' := by
  obtain ⟨D1, o1, r1⟩ := h.ses
  obtain ⟨D2, o2, r2⟩ := h.cnt
  exact ⟨h.ok, h.box, ⟨D1, o1.mono hn, r1⟩, ⟨D2, o2.mono hn, r2⟩, h.lab, Nat.le_trans h.few hn, h.ne⟩
theorem TabAt.bne {w : World} {X : TX} {lv : Value} {L : List Ses} {n : Nat} (h : TabAt w X lv L n) : X.b ≠ X.m1 ∧ X.b ≠ X.m2 := by
  obtain ⟨D1, o1, _⟩ := h.ses
  obtain ⟨D2, o2, _⟩ := h.cnt
  exact ⟨fun e => map_not_cells o1 _ _ _ (e ▸ h.box), fun e => map_not_cells o2 _ _ _ (e ▸ h.box)⟩
section
variable {w : World} {X : TX} {lv : Value} {L : List Ses} {n : Nat}
theorem TabAt.c0 (h : TabAt w X lv L n) : w.cell? ⟨X.b, 0, none⟩ = some lv := cell_of_heap h.box 0
theorem TabAt.c1 (h : TabAt w X lv L n) : w.cell? ⟨X.b, 1, none⟩ = some (.map (some X.m1)) := cell_of_heap h.box 1
theorem TabAt.c2 (h : TabAt w X lv L n) : w.cell? ⟨X.b, 2, none⟩ = some (.map (some X.m2)) := cell_of_heap h.box 2
end
/-- none -/
theorem tnone_any {w : World} {X : TX} {la : Nat} (h : w.cell? ⟨X.b, 0, none⟩ = some (latp la)) : Calls Tryz.prog 54 #[X.p] w fun e w' => e = .returned (.bool false) ∧ w' = w := by
  unfold latp at h
  unfold TX.p
  go_enter Tryz.func54, Tryz.ntmps54
  go_wp2
  go_ret
  exact ⟨rfl, rfl⟩
/-- is -/
theorem tis_any {w : World} {X : TX} {base la : Nat} {N : List (List UInt8)} {R : Nat → Nat → Bool} (hL : IsLat w base la N R) (h : w.cell? ⟨X.b, 0, none⟩ = some (latp la)) (a : Int) :
    Calls Tryz.prog 55 #[X.p, .int .i64 a] w fun e w' => e = .returned (.bool (decide (inB N.length a))) ∧ w' = w := by
  have hm := lMany hL
  unfold latp at h hm
  unfold TX.p
  by_cases h0 : 0 ≤ a
  · by_cases h1 : a < (N.length : Int)
    · rw [show decide (inB N.length a) = true from decide_eq_true ⟨h0, h1⟩]
      go_enter Tryz.func55, Tryz.ntmps55
      go_wp2_with (first | (go_at_call 44; refine hm.mono ?_; rintro e w1 ⟨rfl, rfl⟩))
      go_ret
      exact ⟨by simp [h1], rfl⟩
    · rw [show decide (inB N.length a) = false from decide_eq_false (fun x => h1 x.2)]
      go_enter Tryz.func55, Tryz.ntmps55
      go_wp2_with (first | (go_at_call 44; refine hm.mono ?_; rintro e w1 ⟨rfl, rfl⟩))
      go_ret
      exact ⟨by simp [h1], rfl⟩
  · rw [show decide (inB N.length a) = false from decide_eq_false (fun x => h0 x.1)]
    go_enter Tryz.func55, Tryz.ntmps55
    go_wp2
    go_ret
    exact ⟨rfl, rfl⟩
end Go.Proofs.YtfhmmekamommcaaGreatDoor
