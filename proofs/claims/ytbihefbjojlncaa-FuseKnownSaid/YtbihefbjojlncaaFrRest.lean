/- The document's box: State, Spots; its calls in one word. -/
import Derived.Test.YtbihefbjojlncaaFrAsk
namespace Go.Proofs.Ytbihefbjojlncaa
set_option linter.unusedVariables false
set_option linter.unusedSimpArgs false
open Go Go.RowKit
theorem refaskE {w : World} {b base : Nat} {S S' : FS} {L : List FE} {d l t r : Int} (h : RefAt w b base S L) (hbb : b < base) (hbase : base ≤ w.heap.size) (hL : L.length < 100000) (he : S.ask d l t = (S', r)) :
    Calls Try.prog 15 #[.pointer (some ⟨b, 0, none⟩), spotV d l, .int .i64 t] w fun e w' => ∃ L', e = .returned (.int .i64 r) ∧ RefAt w' b base S' L' ∧ L'.length ≤ L.length + 1 ∧ Chg (fun i => i = b) w w' := by
  unfold FS.ask at he
  cases hm : mayAt d l t
  · rw [hm] at he
    cases he
    exact (refask_no (base := base) (S := S) (L := L) hm).mono fun e w' ⟨h1, h2⟩ => ⟨L, h1, h.same h2, by omega, h2.mono (fun _ _ x => x.elim)⟩
  · rw [hm, if_pos rfl] at he
    have := refask_may h hbb hbase hL hm
    rw [he] at this
    exact this
theorem refdidE {w : World} {b base : Nat} {S S' : FS} {L : List FE} {d l t r : Int} {well : Bool} (h : RefAt w b base S L) (hbb : b < base) (hbase : base ≤ w.heap.size) (hL : L.length < 100000) (he : S.did d l well t = (S', r)) :
    Calls Try.prog 13 #[.pointer (some ⟨b, 0, none⟩), spotV d l, .bool well, .int .i64 t] w fun e w' => ∃ L', e = .returned (.int .i64 r) ∧ RefAt w' b base S' L' ∧ L'.length ≤ L.length + 1 ∧ Chg (fun i => i = b) w w' := by
  unfold FS.did at he
  cases hm : mayAt d l t
  · rw [hm] at he
    cases he
    exact (refdid_no (base := base) (S := S) (L := L) hm).mono fun e w' ⟨h1, h2⟩ => ⟨L, h1, h.same h2, by omega, h2.mono (fun _ _ x => x.elim)⟩
  · rw [hm, if_pos rfl] at he
    have := refdid_may (well := well) h hbb hbase hL hm
    cases he
    exact this
set_option maxRecDepth 100000 in
set_option maxHeartbeats 4000000 in
theorem refstate_some {w : World} {b base : Nat} {S : FS} {L : List FE} {d l : Int} (h : RefAt w b base S L) (hd : I64 d) (hl : I64 l) :
    Calls Try.prog 30 #[.pointer (some ⟨b, 0, none⟩), spotV d l] w fun e w' => e = .returned (.tuple #[.int .i64 (S.state d l).1, .int .i64 (S.state d l).2.1, .int .i64 (S.state d l).2.2]) ∧ Chg (fun _ => False) w w' := by
  have hal := (Chg.refl (fun _ => False) w).alloc (.cells #[.int .i64 d, .int .i64 l] 32)
  have hR := h.same hal
  have hk0 := heap_new w (.cells #[.int .i64 d, .int .i64 l] 32)
  have c0 := cell_of_heap hk0 0
  have c1 := cell_of_heap hk0 1
  simp only [List.getElem?_toArray, List.getElem?_cons_zero, List.getElem?_cons_succ] at c0 c1
  have hat := refat_some _ b base S L d l hR hd hl
  unfold entV entS at hat
  simp only at hat
  generalize (S.state d l).1 = x at *
  generalize (S.state d l).2.1 = y at *
  generalize (S.state d l).2.2 = z at *
  unfold spotV
  go_enter Try.func30, Try.ntmps30
  go_upto_region 2 with (first | (go_at_call 28; refine hat.mono ?_; rintro e w3 ⟨rfl, hC3⟩))
  have hC4 := (hal.trans hC3).alloc (.cells #[.int .i64 d, .int .i64 l, .int .i64 x, .int .i64 y, .int .i64 z] 77)
  have hf4 := heap_new w3 (.cells #[.int .i64 d, .int .i64 l, .int .i64 x, .int .i64 y, .int .i64 z] 77)
  have a2 := cell_of_heap hf4 2
  have a3 := cell_of_heap hf4 3
  have a4 := cell_of_heap hf4 4
  simp only [List.getElem?_toArray, List.getElem?_cons_zero, List.getElem?_cons_succ] at a2 a3 a4
  clear hf4 hk0 c0 c1
  generalize w3.alloc (.cells #[.int .i64 d, .int .i64 l, .int .i64 x, .int .i64 y, .int .i64 z] 77) = w4 at *
  go_quiet (fail)
  go_wp2_with fail
  go_ret3
  exact ⟨rfl, hC4.drewN _⟩
theorem refstateE {w : World} {b base : Nat} {S : FS} {L : List FE} {d l x y z : Int} (h : RefAt w b base S L) (hd : I64 d) (hl : I64 l) (he : S.state d l = (x, y, z)) :
    Calls Try.prog 30 #[.pointer (some ⟨b, 0, none⟩), spotV d l] w fun e w' => e = .returned (.tuple #[.int .i64 x, .int .i64 y, .int .i64 z]) ∧ Chg (fun _ => False) w w' := by
  have := refstate_some h hd hl
  rw [he] at this
  exact this
/-! ### a row of spots -/
def spC (x : Int × Int) : List Value := [.int .i64 x.1, .int .i64 x.2]
def flatP (L : List (Int × Int)) : List Value := L.flatMap spC
theorem flatP_len (L : List (Int × Int)) : (flatP L).length = L.length * 2 := by
  induction L with
  | nil => rfl
  | cons e r ih => simp [flatP, spC] at *; omega
theorem flatP_append (L M : List (Int × Int)) : flatP (L ++ M) = flatP L ++ flatP M := by simp [flatP]
theorem flatP_get {L : List (Int × Int)} {k : Nat} {e : Int × Int} (hk : L[k]? = some e) {j : Nat} {v : Value} (hj : (spC e)[j]? = some v) : (flatP L)[k * 2 + j]? = some v := by
  induction L generalizing k with
  | nil => simp at hk
  | cons x r ih =>
    have hj5 : j < 2 := by
      have := (List.getElem?_eq_some_iff.1 hj).1
      simpa [spC] using this
    have hl : (spC x).length = 2 := rfl
    cases k with
    | zero =>
      simp at hk
      subst hk
      simp only [flatP, List.flatMap_cons, Nat.zero_mul, Nat.zero_add]
      rw [List.getElem?_append_left (by rw [hl]; exact hj5)]
      exact hj
    | succ k =>
      simp only [flatP, List.flatMap_cons]
      rw [List.getElem?_append_right (by rw [hl]; omega), hl, show (k + 1) * 2 + j - 2 = k * 2 + j by omega]
      exact ih (by simpa using hk)
def SpotsAt (w : World) (base : Nat) (v : Value) (L : List (Int × Int)) : Prop := w.ownsRow base 32 2 v L.length (flatP L)
theorem SpotsAt.same {w w' : World} {base : Nat} {v : Value} {L : List (Int × Int)} (h : SpotsAt w base v L) (hc : Chg (fun _ => False) w w') : SpotsAt w' base v L :=
  own_keep h fun k c t f _ hk => hc.keep hk (fun x => x)
theorem SpotsAt.rows {w : World} {base : Nat} {v : Value} {L : List (Int × Int)} (h : SpotsAt w base v L) : ∃ A cap, v = .slice A L.length cap ∧ ∀ k e, L[k]? = some e → ∃ g, A = some ⟨g, 0, none⟩ ∧ w.cell? ⟨g, k * 2, none⟩ = some (.int .i64 e.1) ∧ w.cell? ⟨g, k * 2 + 1, none⟩ = some (.int .i64 e.2) := by
  rcases h.2 with ⟨e', h0⟩ | ⟨g, cap, cur, e', hg, hh, _, _, _, ht⟩
  · refine ⟨none, 0, by rw [e', h0], fun k e hk => ?_⟩
    have := (List.getElem?_eq_some_iff.1 hk).1
    omega
  · refine ⟨some ⟨g, 0, none⟩, cap, e', fun k e hk => ⟨g, rfl, ?_, ?_⟩⟩
    · have hkl := (List.getElem?_eq_some_iff.1 hk).1
      have h5 := flatP_get (j := 0) hk rfl
      rw [← ht, List.getElem?_take_of_lt (by omega)] at h5
      rw [cell_of_heap hh]
      simpa using h5
    · have hkl := (List.getElem?_eq_some_iff.1 hk).1
      have h5 := flatP_get (j := 1) hk rfl
      rw [← ht, List.getElem?_take_of_lt (by omega)] at h5
      rw [cell_of_heap hh]
      simpa using h5
theorem infoSp : (Try.prog.info? 32).map (fun i => (i.zero, i.size, i.bytes)) = some (some (.agg #[.int .i64 0, .int .i64 0]), 2, 16) := by kernel_rfl
theorem spC_one {e : Int × Int} : ∀ u ∈ spC e, u.oneCell' = true := by
  intro u hu
  simp [spC] at hu
  rcases hu with rfl | rfl <;> rfl
theorem spC_new (w : World) (e : Int × Int) (t : TypeId) : ∀ j u, (spC e)[j]? = some u → (w.alloc (.cells #[.int .i64 e.1, .int .i64 e.2] t)).cell? ((⟨w.heap.size, 0, none⟩ : Addr).add j) = some u := by
  intro j u hj
  rw [WideShapes.add_plain, Nat.zero_add, cell_of_heap (heap_new w _)]
  have : (spC e) = (#[Value.int .i64 e.1, Value.int .i64 e.2] : Array Value).toList := rfl
  rw [this] at hj
  simpa using hj
def keyOfE (e : FE) : Int × Int := (e.1, e.2.1)
set_option maxRecDepth 100000 in
set_option maxHeartbeats 8000000 in
theorem refspots_some (w : World) (b base : Nat) (S : FS) (L : List FE) (h : RefAt w b base S L) :
    Calls Try.prog 31 #[.pointer (some ⟨b, 0, none⟩)] w fun e w' => ∃ v, e = .returned v ∧ SpotsAt w' w.heap.size v (L.map keyOfE) ∧ Chg (fun _ => False) w w' := by
  obtain ⟨i0, hi, hz0, hz1, hz2⟩ := info_parts infoSp
  have hfew := h.few
  have H := Lib.hid h
  obtain ⟨K, hK⟩ : ∃ K, L.map keyOfE = K := ⟨_, rfl⟩
  have hKl : K.length = L.length := by rw [← hK, List.length_map]
  have HK2 := Lib.hid hK
  have HKL := Lib.hid hKl
  rw [hK]
  clear h hK hKl
  go_enter Try.func31, Try.ntmps31
  go_upto_block 0 with fail
  go_wp2_with fail
  go_loopw [3, 4] (fun a c wr => ∃ k : Nat, c = .int .i64 k ∧ k ≤ L.length ∧ Chg (fun _ => False) w wr ∧ wr.ownsRow w.heap.size 32 2 a k (flatP (K.take k)))
    (fun _ c _ => L.length - (intOf c).toNat)
  case atStart => exact ⟨0, rfl, by omega, Chg.refl _ _, World.ownsRow_nil _ _ _ _⟩
  case round =>
    obtain ⟨k, rfl, k0, hC, hR⟩ := hrel
    obtain ⟨A, cap, hrow, _, hent⟩ := (H.out.same hC).rowsC
    by_cases hkl : k < L.length
    · obtain ⟨e, he⟩ : ∃ e, L[k]? = some e := ⟨_, List.getElem?_eq_getElem hkl⟩
      obtain ⟨g, rfl, hce⟩ := hent k e he
      have e0 : wr.cell? ⟨g, k * 5, none⟩ = some (.int .i64 e.1) := hce 0 _ rfl
      have e1 := hce 1 _ rfl
      have hke : K[k]? = some (keyOfE e) := by rw [← HK2.out, List.getElem?_map, he]; rfl
      have hT : flatP (K.take k) ++ spC (keyOfE e) = flatP (K.take (k + 1)) := by
        rw [List.take_add_one, hke, flatP_append]
        simp [flatP]
      clear hke
      have HT := Lib.hid hT
      have hsz := hC.size
      have hw3 : IntKind.i64.wrap ((k : Int) + 1) = k + 1 := IntWalk.i64_in _ ⟨by omega, by omega⟩
      clear hce hent hT
      go_wp2_with (at_builtin; refine wpList_append_own_at _ rfl _ _ 56 rfl w.heap.size 32 i0 (.agg #[.int .i64 0, .int .i64 0]) 2 16 Try.underlying56 hi hz0 hz1 hz2 rfl (by decide) _ _ _ rfl (hR.alloc _) ⟨wr.heap.size, 0, none⟩ 1 1 (spC (keyOfE e)) rfl rfl ?c1 ?c2 ?c3 ?c4 ?c5 ?_)
      case c1 => exact spC_new wr (keyOfE e) _
      case c2 => exact spC_one
      case c3 => unfold maxLen; omega
      case c4 => omega
      case c5 => simp; omega
      intro v' w1 hown' hgr _ _
      have hC4 : Chg (fun _ => False) w w1 := (hC.alloc _).grown hgr (fun q hq => .inr (own_block hR hq))
      rw [HT.out] at hown'
      go_wp2_with fail
      go_roundw
      case rel => exact ⟨k + 1, by go_num, by omega, hC4, hown'⟩
      case measure => simp [intOf]; omega
    · have hk : k = L.length := by omega
      have HK := Lib.hid hk
      clear hk hent
      go_wp2_with fail
      go_ret
      refine ⟨_, rfl, ?_, hC⟩
      have := hR
      rw [HK.out, ← HKL.out, List.take_length] at this
      exact this
end Go.Proofs.Ytbihefbjojlncaa
