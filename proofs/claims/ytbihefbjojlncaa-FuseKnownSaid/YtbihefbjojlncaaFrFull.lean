/- fuse: Spots, whole. -/
import Derived.Test.YtbihefbjojlncaaFrSortAt
namespace Go.Proofs.Ytbihefbjojlncaa
set_option linter.unusedVariables false
set_option linter.unusedSimpArgs false
open Go Go.RowKit
/-- which keys the round has taken -/
structure Took (S : FS) (left : Lit → Bool) (K : List (Int × Int)) : Prop where
  nodup : K.Nodup
  out : ∀ x ∈ K, S.N x.1 x.2 ≠ 0 ∧ 0 ≤ x.1 ∧ x.1 ≤ 1000 ∧ 0 ≤ x.2 ∧ x.2 ≤ 9 ∧ left (spotK x.1 x.2) = false
  all : ∀ d l, S.N d l ≠ 0 → left (spotK d l) = false → (d, l) ∈ K
theorem i64s {d : Int} (h : 0 ≤ d ∧ d ≤ 1000) : I64 d := by unfold I64; omega
theorem Took.skip {S : FS} {left : Lit → Bool} {K : List (Int × Int)} (h : Took S left K) {d l : Int} (hr : ∀ a b, S.N a b ≠ 0 → 0 ≤ a ∧ a ≤ 1000 ∧ 0 ≤ b ∧ b ≤ 9) (hd : I64 d) (hl : I64 l) (h0 : S.N d l = 0) : Took S (fun z => left z && !z.sameKey (spotK d l)) K where
  nodup := h.nodup
  out x hx := by
    obtain ⟨a, b1, b2, b3, b4, c⟩ := h.out x hx
    exact ⟨a, b1, b2, b3, b4, by simp [c]⟩
  all a b hab hl' := by
    rw [Bool.and_eq_false_iff] at hl'
    rcases hl' with e | e
    · exact h.all a b hab e
    · have hk : (spotK a b).sameKey (spotK d l) = true := by simpa using e
      obtain ⟨r1, r2, r3, r4⟩ := hr a b hab
      obtain ⟨rfl, rfl⟩ := spotK_inj (by unfold I64; omega) (by unfold I64; omega) hd hl (WideAt.sameKey_eq hk)
      exact absurd h0 hab
theorem Took.take {S : FS} {left : Lit → Bool} {K : List (Int × Int)} (h : Took S left K) {d l : Int} (hr : ∀ a b, S.N a b ≠ 0 → 0 ≤ a ∧ a ≤ 1000 ∧ 0 ≤ b ∧ b ≤ 9) (hlk : left (spotK d l) = true) (h0 : S.N d l ≠ 0) : Took S (fun z => left z && !z.sameKey (spotK d l)) (K ++ [(d, l)]) where
  nodup := by
    refine List.nodup_append.2 ⟨h.nodup, by simp, fun x hx y hy e => ?_⟩
    have : y = (d, l) := by simpa using hy
    subst this e
    have := (h.out _ hx).2.2.2.2.2
    simp only at this
    rw [hlk] at this
    cases this
  out x hx := by
    rcases List.mem_append.1 hx with hx | hx
    · obtain ⟨a, b1, b2, b3, b4, c⟩ := h.out x hx
      exact ⟨a, b1, b2, b3, b4, by simp [c]⟩
    · have : x = (d, l) := by simpa using hx
      subst this
      obtain ⟨r1, r2, r3, r4⟩ := hr d l h0
      exact ⟨h0, r1, r2, r3, r4, by simp [WideAt.sameKey_self (spotK_key d l)]⟩
  all a b hab hl' := by
    rw [Bool.and_eq_false_iff] at hl'
    rcases hl' with e | e
    · exact List.mem_append_left _ (h.all a b hab e)
    · have hk : (spotK a b).sameKey (spotK d l) = true := by simpa using e
      obtain ⟨r1, r2, r3, r4⟩ := hr a b hab
      obtain ⟨q1, q2, q3, q4⟩ := hr d l h0
      obtain ⟨rfl, rfl⟩ := spotK_inj (by unfold I64; omega) (by unfold I64; omega) (by unfold I64; omega) (by unfold I64; omega) (WideAt.sameKey_eq hk)
      simp
theorem Keys.asc {S : FS} {L : List FE} (h : Keys S L) : Asc (L.map keyOfE) := by
  unfold Asc
  rw [List.pairwise_map]
  exact h.sorted
theorem Keys.mem {S : FS} {L : List FE} (h : Keys S L) (x : Int × Int) : x ∈ L.map keyOfE ↔ S.N x.1 x.2 ≠ 0 := by
  constructor
  · intro hx
    obtain ⟨e, he, rfl⟩ := List.mem_map.1 hx
    exact (h.ent e he).2.1
  · intro hx
    obtain ⟨e, he, e1, e2⟩ := h.all x.1 x.2 hx
    exact List.mem_map.2 ⟨e, he, by unfold keyOfE; rw [e1, e2]⟩
theorem Took.few {S : FS} {left : Lit → Bool} {K : List (Int × Int)} {L : List FE} (h : Took S left K) (hK : Keys S L) : K.length ≤ L.length := by
  have : K.length ≤ (L.map keyOfE).length := h.nodup.length_le_of_subset fun x hx => (hK.mem x).2 (h.out x hx).1
  simpa using this
theorem SpotsAt.base {w : World} {base base' : Nat} {v : Value} {L : List (Int × Int)} (h : SpotsAt w base v L) (hb : base' ≤ base) : SpotsAt w base' v L := by
  obtain ⟨h1, h2 | ⟨g, cap, cur, c1, c2, c3⟩⟩ := h
  · exact ⟨h1, .inl h2⟩
  · exact ⟨h1, .inr ⟨g, cap, cur, c1, by omega, c3⟩⟩
set_option maxRecDepth 100000 in
set_option maxHeartbeats 8000000 in
theorem spots_full (w : World) (X : FX) (S : FS) (n : Nat) (L : List FE) (h : BoxAt w X S n) (hKeys : Keys S L) (hfew : L.length < 100000) :
    Calls Try.prog 22 #[.pointer (some ⟨X.b, 0, none⟩)] w fun e w' => ∃ v, e = .returned v ∧ SpotsAt w' w.heap.size v (L.map keyOfE) ∧ Chg (fun _ => False) w w' := by
  obtain ⟨i0, hi, hz0, hz1, hz2⟩ := info_parts infoSp
  obtain ⟨D, hown, g1, g2⟩ := h.map
  have hmc := h.mapC
  have hNr : ∀ a b, S.N a b ≠ 0 → 0 ≤ a ∧ a ≤ 1000 ∧ 0 ≤ b ∧ b ≤ 9 := fun a b hab => by
    cases hF : X.F a b with
    | none => exact absurd (h.none0 a b hF) hab
    | some k => exact h.rng a b k hF
  have HKeys := Lib.hid hKeys
  clear hKeys
  go_enter Try.func22, Try.ntmps22
  go_wp2_with (first
    | (go_at_call 32; refine (none_no _ X.b X.m hmc).mono ?_; rintro e w' ⟨rfl, rfl⟩)
    | (at_range; refine wpList_range_own _ rfl _ 66 rfl 32 69 law Try.underlying66 _ X.m n _ rfl hown ?_; intro w0 hrg0 hg0 hs0))
  have hB0 : BoxAt w0 X S n := h.chg (K := fun _ => False) ⟨hg0.os, hg0.tape, hg0.output, hg0.size, fun i hi _ => hg0.block i hi (by simp)⟩ (fun _ _ x => x)
  have hC0 : Chg (fun _ => False) w' w0 := ⟨hg0.os, hg0.tape, hg0.output, hg0.size, fun i hi _ => hg0.block i hi (by simp)⟩
  have hOwn : ∀ i, X.Own i → i < w'.heap.size := fun i hi => h.lt hi
  have hT0 : Took S (Maps.has D) [] := ⟨List.nodup_nil, fun x hx => by simp at hx, fun a b hab hl => by
    obtain ⟨r1, r2, r3, r4⟩ := hNr a b hab
    exfalso
    cases hF : X.F a b with
    | none => exact hab (h.none0 a b hF)
    | some k =>
      have hat := g1 a b (by unfold I64; omega) (by unfold I64; omega)
      rw [hF] at hat
      rw [Maps.atKey_of_not_has hl] at hat
      simp [ptrD] at hat⟩
  have HT0 := Lib.hid hT0
  clear hT0
  go_frame
  go_loopw [2, 3, 4] (fun v _ _ wr => ∃ K : List (Int × Int), wr.ownsRow (w'.heap.size + 1) 32 2 v K.length (flatP K) ∧ ∃ (left : Lit → Bool) (cnt : Nat), Hid (Took S left K) ∧ wr.ranges Try.prog 32 ptrE X.m w'.heap.size n D left cnt ∧ BoxAt wr X S n ∧ Chg (fun _ => False) w' wr)
    (fun _ _ _ wr => wr.rangeLeft X.m w'.heap.size)
  case atStart => exact ⟨[], World.ownsRow_nil _ _ _ _, _, _, HT0, hrg0, hB0, hC0⟩
  case round =>
    obtain ⟨K, hR, left, cnt, HT, hrg, hB, hC⟩ := hrel
    have hKl := HT.out.few HKeys.out
    have hsz := hC.size
    go_wp2_with (first
      | (at_next; refine wpList_next_ranges _ rfl _ rfl 32 law ptrE (fun (x : Int × Int) => spotV x.1 x.2) (fun (v : Value) => v) (fun key kl hkl => key_inv hkl) (fun v y _ => ⟨v, rfl⟩) X.m w'.heap.size n _ _ _ rfl hrg ?_ ?_))
    · intro _ hno
      have hS := sort_spots (w := wr) hR (by omega) HT.out.nodup
      go_wp2_with (first | (go_at_call 34; refine hS.mono ?_; rintro e w2 ⟨rfl, K', m1, m2, m3, m4⟩))
      go_ret
      have hKK : K' = L.map keyOfE := asc_unique m2 HKeys.out.asc (fun x => (m1 x).trans ⟨fun hx => (HKeys.out.mem x).2 (HT.out.out x hx).1, fun hx => HT.out.all x.1 x.2 ((HKeys.out.mem x).1 hx) (hno _)⟩) (asc_nodup m2) (asc_nodup HKeys.out.asc)
      rw [← hKK]
      exact ⟨_, rfl, m3.base (by omega), hC.trans' m4 (fun i hi hb => by omega)⟩
    · intro xa xb c kl yd yp w1 cnt1 hkey hlk hv hat hrg1 hlt hg1 hs1 hen
      have hhas := Maps.has_true_of_atKey hat
      obtain ⟨d, l, k, rfl, hF⟩ := g2 kl hhas
      have hr := hB.rng _ _ _ hF
      have hd : I64 d := by unfold I64; omega
      have hl : I64 l := by unfold I64; omega
      have hx := law.inj hkey (key_spot hd hl)
      have hyy := hat .nil
      rw [g1 d l hd hl, hF] at hyy
      subst hyy
      obtain rfl := ptrE_inv (o := some k) hv
      simp only [hx] at hen
      rw [hx]
      have hC1 : Chg (fun _ => False) w' w1 := ⟨hg1.os.trans hC.os, hg1.tape.trans hC.tape, hg1.output.trans hC.output, by have := hC.size; omega, fun i hi _ => (hg1.block i (Nat.lt_of_lt_of_le hi hC.size) (fun e => by simp at e; omega)).trans (hC.block i hi (fun x => x))⟩
      have hB1 : BoxAt w1 X S n := hB.keep fun i hi => hg1.block i (hB.lt hi) (fun e => by have := hOwn i hi; simp at e; omega)
      have hR1 := own_keep (W' := w1) hR fun k c t f hk1 hk => by
        rw [hg1.block k (lt_of_heap hk) (fun e => by simp at e; omega)]; exact hk
      have hB2 := hB1.alloc (.cells #[.int .i64 d, .int .i64 l] 32)
      have hcell := hB2.numC hF
      have hR2 := hR1.alloc (.cells #[.int .i64 d, .int .i64 l] 32)
      have hrg2 := hrg1.alloc (.cells #[.int .i64 d, .int .i64 l] 32)
      have hC2 := hC1.alloc (.cells #[.int .i64 d, .int .i64 l] 32)
      unfold spotV at hen ⊢
      unfold ptrV at hen ⊢
      by_cases hz : S.N d l = 0
      · have HTn := Lib.hid (HT.out.skip hNr hd hl hz)
        rw [hz] at hcell
        go_wp2_with (first | (go_at_call 33; refine (load_some _ _ _ 0 hcell).mono ?_; rintro e w2 ⟨rfl, rfl⟩))
        go_roundw
        case rel => exact ⟨K, hR2, _, cnt1, HTn, hrg2, hB2, hC2⟩
        case measure => rw [hrg2.left_eq, hrg.left_eq]; exact hlt
      · have HTn := Lib.hid (HT.out.take hNr hlk hz)
        have hfl : flatP K ++ spC (d, l) = flatP (K ++ [(d, l)]) := by rw [flatP_append]; simp [flatP]
        have HF := Lib.hid hfl
        clear hfl
        generalize hNN : S.N d l = x at *
        go_wp2_with (first
          | (go_at_call 33; refine (load_some _ _ _ x hcell).mono ?_; rintro e w2 ⟨rfl, rfl⟩)
          | (at_builtin; refine wpList_append_own_at _ rfl _ _ 56 rfl (w'.heap.size + 1) 32 i0 (.agg #[.int .i64 0, .int .i64 0]) 2 16 Try.underlying56 hi hz0 hz1 hz2 rfl (by decide) _ _ _ rfl (hR2.alloc _) ⟨wr.heap.size + 1, 0, none⟩ 1 1 (spC (d, l)) rfl rfl ?c1 ?c2 ?c3 ?c4 ?c5 ?_))
        case c1 =>
          have := spC_new (w1.alloc (.cells #[.int .i64 d, .int .i64 l] 32)) (d, l) 32
          rw [show (w1.alloc (.cells #[.int .i64 d, .int .i64 l] 32)).heap.size = wr.heap.size + 1 by simp [hs1]] at this
          exact this
        case c2 => exact spC_one
        case c3 => unfold maxLen; omega
        case c4 => omega
        case c5 => simp; omega
        intro v' w3 hown' hgr _ _
        have hC4 : Chg (fun _ => False) w' w3 := (hC2.alloc _).grown hgr (fun q hq => .inr (by have := own_block hR2 hq; omega))
        have hB4 : BoxAt w3 X S n := (hB2.alloc _).keep fun i hi => hgr.block i ((hB2.alloc _).lt hi) (fun e => by have := own_block hR2 e.symm; have := hOwn i hi; omega)
        have hrg4 := (hrg2.alloc (.cells #[.int .i64 d, .int .i64 l] 32)).kept hgr (fun e => by have := own_block hR2 e.symm; have := hOwn X.m (.inr (.inl rfl)); omega) (fun e => by have := own_block hR2 e.symm; omega)
        rw [HF.out] at hown'
        go_wp2_with fail
        go_roundw
        case rel => exact ⟨K ++ [(d, l)], by rw [List.length_append]; exact hown', _, cnt1, HTn, hrg4, hB4, hC4⟩
        case measure => rw [hrg4.left_eq, hrg.left_eq]; exact hlt
end Go.Proofs.Ytbihefbjojlncaa
