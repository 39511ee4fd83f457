/- fuse: two boxes of the call's own. -/
import Derived.Test.YtbihefbjojlncaaFsRowIn
namespace Go.Proofs.Ytbihefbjojlncaa
set_option linter.unusedVariables false
set_option linter.unusedSimpArgs false
open Go Go.RowKit
structure TB (w W : World) (p q : Nat) (X Y : FX) (S T : FS) (n m : Nat) : Prop where
  a : BoxAt W X S n
  b : BoxAt W Y T m
  hp : X.b = p
  hq : Y.b = q
  ap : ∀ i, X.Own i → ¬ Y.Own i
  chg : Chg (fun _ => False) w W
  ua : ∀ i, X.Own i → w.heap.size ≤ i
  ub : ∀ i, Y.Own i → w.heap.size ≤ i
theorem Went.none {w W W' : World} {X X' : FX} (hw : Went W W' X X') (hc : Chg (fun _ => False) w W) (hu : ∀ i, X.Own i → w.heap.size ≤ i) : Chg (fun _ => False) w W' :=
  hc.trans' hw.chg (fun i hi hs => absurd hi (by have := hu i hs; omega))
theorem TB.wentA {w W W' : World} {p q : Nat} {X Y X' : FX} {S T S' : FS} {n m n' : Nat} (h : TB w W p q X Y S T n m) (hw : Went W W' X X') (hb : BoxAt W' X' S' n') : TB w W' p q X' Y S' T n' m :=
  ⟨hb, h.b.went hw h.ap, hw.b.trans h.hp, h.hq, hw.apart h.b h.ap, hw.none h.chg h.ua, hw.above h.chg.size h.ua, h.ub⟩
theorem TB.wentB {w W W' : World} {p q : Nat} {X Y Y' : FX} {S T T' : FS} {n m m' : Nat} (h : TB w W p q X Y S T n m) (hw : Went W W' Y Y') (hb : BoxAt W' Y' T' m') : TB w W' p q X Y' S T' n m' :=
  ⟨h.a.went hw (fun i hy hx => h.ap i hx hy), hb, h.hp, hw.b.trans h.hq, fun i hx hy => hw.apart h.a (fun i hy hx => h.ap i hx hy) i hy hx, hw.none h.chg h.ub, h.ua, hw.above h.chg.size h.ub⟩
theorem TB.same {w W W' : World} {p q : Nat} {X Y : FX} {S T : FS} {n m : Nat} (h : TB w W p q X Y S T n m) (hc : Chg (fun _ => False) W W') : TB w W' p q X Y S T n m :=
  ⟨h.a.chg hc (fun _ _ x => x), h.b.chg hc (fun _ _ x => x), h.hp, h.hq, h.ap, h.chg.trans hc, h.ua, h.ub⟩
theorem TB.make {w w1 w2 : World} {X Y : FX} {S T : FS} {n m : Nat} (hc0 : Chg (fun _ => False) w w1) (ha : BoxAt w1 X S n) (hua : ∀ i, X.Own i → w.heap.size ≤ i) (hb : BoxAt w2 Y T m) (hc1 : Chg (fun _ => False) w1 w2) (hub : ∀ i, Y.Own i → w1.heap.size ≤ i) :
    TB w w2 X.b Y.b X Y S T n m :=
  ⟨ha.chg hc1 (fun _ _ x => x), hb, rfl, rfl, fun i hx hy => by have := ha.lt hx; have := hub i hy; omega, hc0.trans hc1, hua, fun i hi => Nat.le_trans hc0.size (hub i hi)⟩
theorem callsCell {W : World} {A : Option Addr} {L : List (Int × Int × Int)} (h : InRows 3 callC W A L) {k : Nat} {c : Int × Int × Int} (hk : L[k]? = some c) :
    ∃ g o, A = some ⟨g, o, none⟩ ∧ W.cell? ⟨g, o + k * 3, none⟩ = some (.int .i64 c.1) ∧ W.cell? ⟨g, o + k * 3 + 1, none⟩ = some (.int .i64 c.2.1) ∧ W.cell? ⟨g, o + k * 3 + 2, none⟩ = some (.int .i64 c.2.2) := by
  obtain ⟨g, o, e, hc⟩ := h k c hk
  exact ⟨g, o, e, hc 0 _ rfl, hc 1 _ rfl, hc 2 _ rfl⟩
/-- one call, at a tick, of two boxes that stand alike there -/
theorem doesF_like {S T : FS} {s what t t' : Int} (h : Like S T (spD s) (spL s)) (hm : mayAt (spD s) (spL s) t = mayAt (spD s) (spL s) t') (hn : mayAt (spD s) (spL s) t = true → max S.now t = max T.now t') :
    (doesF S s what t).2 = (doesF T s what t').2 ∧ Like (doesF S s what t).1 (doesF T s what t').1 (spD s) (spL s) := by
  unfold doesF
  split
  · exact h.ask hm hn
  · exact h.did hm hn
theorem doesF_other {S : FS} {s what t a b : Int} (h : ¬ (a = spD s ∧ b = spL s)) : (doesF S s what t).1.N a b = S.N a b := by
  unfold doesF
  split
  · exact FS.ask_other h
  · exact FS.did_other h
theorem doesF_now {S : FS} {s what t : Int} (h : mayAt (spD s) (spL s) t = true) : (doesF S s what t).1.now = max S.now t := by
  unfold doesF
  split
  · exact FS.ask_now h
  · exact FS.did_now h
theorem doesF_rest {S : FS} {s what t : Int} : (doesF S s what t).1.rest = S.rest ∧ (doesF S s what t).1.most = S.most := by
  unfold doesF
  split
  · exact FS.ask_rest
  · exact FS.did_rest
theorem sp_may (s : Int) {t : Int} (h0 : 0 ≤ t) (h1 : t ≤ 4503599627370496) : mayAt (spD s) (spL s) t = true := by
  have := sp_bounds s
  exact mayAt_iff.2 ⟨h0, h1, by omega, by omega, by omega, by omega⟩
theorem sp_i64 (s : Int) : I64 (spD s) ∧ I64 (spL s) := by
  have := sp_bounds s
  exact ⟨i64_small (by omega) (by omega), i64_small (by omega) (by omega)⟩
/-- two boxes told the same, at ticks that count alike -/
structure Twin (S T : FS) (t : Int) : Prop where
  most : S.most = T.most
  rest : S.rest = T.rest
  sn : S.now = t
  tn : T.now = t
  num : ∀ a b, S.N a b = T.N a b
theorem Twin.does {S T : FS} {t t' e s what : Int} (h : Twin S T t) (h0 : 0 ≤ t) (h1 : t ≤ t') (h2 : t' ≤ 4503599627370496) (e0 : 0 ≤ e) (e1 : e ≤ t') :
    (doesF S s what t').2 = (doesF { T with now := t' } s what e).2 ∧ Twin (doesF S s what t').1 (doesF { T with now := t' } s what e).1 t' := by
  have hl : Like S { T with now := t' } (spD s) (spL s) := ⟨h.most, h.rest, h.num _ _⟩
  have hm1 := sp_may s (t := t') (by omega) h2
  have hm2 := sp_may s (t := e) e0 (by omega)
  obtain ⟨r1, r2⟩ := doesF_like (what := what) hl (hm1.trans hm2.symm) (fun _ => by have := h.sn; show max S.now t' = max t' e; omega)
  refine ⟨r1, r2.most, r2.rest, ?_, ?_, fun a b => ?_⟩
  · rw [doesF_now hm1, h.sn]; omega
  · rw [doesF_now hm2]
    show max t' e = t'
    omega
  · by_cases c : a = spD s ∧ b = spL s
    · obtain ⟨rfl, rfl⟩ := c
      exact r2.num
    · rw [doesF_other c, doesF_other c]
      exact h.num a b
end Go.Proofs.Ytbihefbjojlncaa
