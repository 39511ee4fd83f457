/- OrderCovers: the walk. -/
import Derived.Test.YtkonpkejddcegaaDoorCovPlain
namespace Go.Proofs.YtkonpkejddcegaaDoor
set_option linter.unusedVariables false
set_option linter.unusedSimpArgs false
open Go Go.RowKit Go.Proofs Go.Shelf
/-- pairs that came out of memory that is newer than 'base' -/
def PairsAt (w : World) (base : Nat) (a : Option Addr) (l : List (Nat × Nat)) : Prop :=
  ∀ i, i < l.length → ∃ g, a = some ⟨g, 0, none⟩ ∧ base ≤ g ∧ w.cell? ⟨g, i * 2, none⟩ = some (.int .i64 ((l.getD i (0, 0)).1 : Nat)) ∧ w.cell? ⟨g, i * 2 + 1, none⟩ = some (.int .i64 ((l.getD i (0, 0)).2 : Nat))
theorem pairs_at {w : World} {base : Nat} {v : Value} {l : List (Nat × Nat)} (h : w.ownsRow base 31 2 v l.length (prs l)) : ∃ a cap, v = .slice a l.length cap ∧ PairsAt w base a l := by
  rcases own_pairs h with ⟨rfl, rfl⟩ | ⟨g, cap, rfl, hc⟩
  · exact ⟨none, 0, rfl, fun i hi => by cases hi⟩
  · refine ⟨_, cap, rfl, fun i hi => ⟨g, rfl, ?_, (hc i hi).1, (hc i hi).2⟩⟩
    refine own_block h (k := g) ?_
    rcases h.2 with ⟨e, h0⟩ | ⟨g2, cap2, cur, e, hcap, _⟩
    · cases e
    · simp only [Value.slice.injEq, Option.some.injEq, Addr.mk.injEq] at e
      obtain ⟨⟨rfl, _⟩, _, rfl⟩ := e
      simp [Value.ownBlock]
theorem PairsAt.chg {w w' : World} {base : Nat} {a : Option Addr} {l : List (Nat × Nat)} {S : Nat → Prop} (h : PairsAt w base a l) (hc : Chg S w w') (hS : ∀ k, base ≤ k → k < w.heap.size → ¬ S k) : PairsAt w' base a l := fun i hi => by
  obtain ⟨g, e, hg, c1, c2⟩ := h i hi
  have := lt_of_cell c1
  exact ⟨g, e, hg, hc.cell c1 (hS g hg this), hc.cell c2 (hS g hg this)⟩
theorem made_nil (w : World) (many : Int) (hT : TabOk w) (hg : 0 < w.heap.size) (hm1 : -9223372036854775808 ≤ many) (hm2 : many ≤ 9223372036854775807) :
    Calls Tryd.prog 9 #[.int .i64 many, .slice none 0 0] w fun e w' => ∃ b bu bd vt, e = .returned (.tuple #[.pointer (some ⟨b, 0, none⟩), vt]) ∧ w.heap.size ≤ b ∧ w.heap.size ≤ bu ∧ w.heap.size ≤ bd ∧
      IsOrd w' b bu bd (nOf many) (nOf many) (nOf many) idR (flp idR) ∧ Chg (fun _ => False) w w' := by
  refine (made_any w many (.slice none 0 0) [] hT hg ⟨none, 0, rfl, fun i hi => by cases hi⟩ ⟨by simp, fun i hi => by cases hi⟩ hm1 hm2).mono ?_
  rintro e w' ⟨b, bu, bd, vt, he, h1, h2, h3, hO, _, hC⟩
  exact ⟨b, bu, bd, vt, he, h1, h2, h3, hO, hC⟩
/-- the first k covers -/
def Sk (C : List (Nat × Nat)) (k : Nat) (i j : Nat) : Prop := ∃ q, q < k ∧ q < C.length ∧ C.getD q (0, 0) = (i, j)
/-- the first k covers, but for one -/
def Sb (C : List (Nat × Nat)) (t k : Nat) (i j : Nat) : Prop := ∃ q, q < k ∧ q ≠ t ∧ q < C.length ∧ C.getD q (0, 0) = (i, j)
structure CovList (n : Nat) (R : Nat → Nat → Bool) (C : List (Nat × Nat)) : Prop where
  cov : ∀ i, i < C.length → Cov n R (C.getD i (0, 0)).1 (C.getD i (0, 0)).2
  all : ∀ a b, Cov n R a b → Sk C C.length a b
  inj : ∀ i j, i < C.length → j < C.length → C.getD i (0, 0) = C.getD j (0, 0) → i = j
  len : C.length ≤ n * n
theorem cov_list {n : Nat} {R : Nat → Nat → Bool} (h : PO n R) : CovList n R (covTo n R (flp R) n) := by
  have hg : ∀ i (hi : i < (covTo n R (flp R) n).length), (covTo n R (flp R) n).getD i (0, 0) = (covTo n R (flp R) n)[i] := fun i hi => by simp [List.getD, hi]
  refine ⟨fun i hi => ?_, fun a b hc => ?_, fun i j hi hj e => ?_, covTo_len n R (flp R) n⟩
  · rw [hg i hi]
    exact (mem_cov h _ _).1 (List.getElem_mem hi)
  · obtain ⟨i, hi, e⟩ := List.getElem_of_mem ((mem_cov h a b).2 hc)
    exact ⟨i, hi, hi, by rw [hg i hi, e]⟩
  · rw [hg i hi, hg j hj] at e
    have hn := List.pairwise_iff_getElem.1 (cov_nodup n R (flp R) n)
    rcases Nat.lt_trichotomy i j with hlt | rfl | hlt
    · exact absurd e (hn i j hi hj hlt)
    · rfl
    · exact absurd e.symm (hn j i hj hi hlt)
theorem Sk_succ {C : List (Nat × Nat)} {k : Nat} (hk : k < C.length) (i j : Nat) : Sk C (k + 1) i j ↔ Sk C k i j ∨ (i = (C.getD k (0, 0)).1 ∧ j = (C.getD k (0, 0)).2) := by
  constructor
  · rintro ⟨q, h1, h2, h3⟩
    by_cases e : q = k
    · subst e; right; rw [h3]; exact ⟨rfl, rfl⟩
    · exact .inl ⟨q, by omega, h2, h3⟩
  · rintro (⟨q, h1, h2, h3⟩ | ⟨rfl, rfl⟩)
    · exact ⟨q, by omega, h2, h3⟩
    · exact ⟨k, by omega, hk, rfl⟩
theorem Sb_succ {C : List (Nat × Nat)} {t k : Nat} (hk : k < C.length) (ht : k ≠ t) (i j : Nat) : Sb C t (k + 1) i j ↔ Sb C t k i j ∨ (i = (C.getD k (0, 0)).1 ∧ j = (C.getD k (0, 0)).2) := by
  constructor
  · rintro ⟨q, h1, h0, h2, h3⟩
    by_cases e : q = k
    · subst e; right; rw [h3]; exact ⟨rfl, rfl⟩
    · exact .inl ⟨q, by omega, h0, h2, h3⟩
  · rintro (⟨q, h1, h0, h2, h3⟩ | ⟨rfl, rfl⟩)
    · exact ⟨q, by omega, h0, h2, h3⟩
    · exact ⟨k, by omega, ht, hk, rfl⟩
theorem Sb_skip {C : List (Nat × Nat)} {t : Nat} : Sb C t (t + 1) = Sb C t t := by
  funext i j
  refine propext ⟨?_, ?_⟩
  · rintro ⟨q, h1, h0, h2, h3⟩
    exact ⟨q, by omega, h0, h2, h3⟩
  · rintro ⟨q, h1, h0, h2, h3⟩
    exact ⟨q, by omega, h0, h2, h3⟩
theorem CovList.step {n : Nat} {R P : Nat → Nat → Bool} {C : List (Nat × Nat)} (hR : PO n R) (hC : CovList n R C) {k : Nat} (hk : k < C.length) (h : CInv n R (Sk C k) P) :
    P (C.getD k (0, 0)).1 (C.getD k (0, 0)).2 = false ∧ addE n P (C.getD k (0, 0)).1 (C.getD k (0, 0)).2 = 0 ∧ CInv n R (Sk C (k + 1)) (addR n P (C.getD k (0, 0)).1 (C.getD k (0, 0)).2) := by
  have hc := hC.cov k hk
  refine ⟨h.not hR (fun i j => ?_) hc ?_, (h.add hR hc _ (Sk_succ hk)).1, (h.add hR hc _ (Sk_succ hk)).2⟩
  · rintro ⟨q, h1, h2, h3⟩
    have := hC.cov q h2
    rw [h3] at this
    exact this
  · rintro ⟨q, h1, h2, h3⟩
    have := hC.inj q k h2 hk h3
    omega
theorem CovList.stepb {n : Nat} {R P : Nat → Nat → Bool} {C : List (Nat × Nat)} (hR : PO n R) (hC : CovList n R C) {t k : Nat} (hk : k < C.length) (ht : k ≠ t) (h : CInv n R (Sb C t k) P) :
    CInv n R (Sb C t (k + 1)) (addR n P (C.getD k (0, 0)).1 (C.getD k (0, 0)).2) := (h.add hR (hC.cov k hk) _ (Sb_succ hk ht)).2
theorem CovList.lost {n : Nat} {R P : Nat → Nat → Bool} {C : List (Nat × Nat)} (hR : PO n R) (hC : CovList n R C) {t : Nat} (ht : t < C.length) (k : Nat) (h : CInv n R (Sb C t k) P) : P (C.getD t (0, 0)).1 (C.getD t (0, 0)).2 = false := by
  refine h.not hR (fun i j => ?_) (hC.cov t ht) ?_
  · rintro ⟨q, h1, h0, h2, h3⟩
    have := hC.cov q h2
    rw [h3] at this
    exact this
  · rintro ⟨q, h1, h0, h2, h3⟩
    exact h0 (hC.inj q t h2 ht h3)
set_option maxHeartbeats 4000000 in
set_option maxRecDepth 8000 in
theorem covers_ok (w : World) (many : Int) (v : Value) (L : List (Int × Int)) (hT : TabOk w) (hg : 0 < w.heap.size) (hL : InPairs w v L) (hB : InB L) (hm1 : -9223372036854775808 ≤ many) (hm2 : many ≤ 9223372036854775807) :
    Calls Tryd.prog 4 #[.int .i64 many, v] w (BoolPost w true) := by
  have hmd := made_any w many v L hT hg hL hB hm1 hm2
  have hmn := fun (W : World) (hC : Chg (fun _ => False) w W) => made_nil W many (hT.chg hC (fun h => h)) (Nat.lt_of_lt_of_le hg hC.size) hm1 hm2
  have hwk := fun (W : World) (hC : Chg (fun _ => False) w W) => works_ok W (hT.chg hC (fun h => h)) (Nat.lt_of_lt_of_le hg hC.size)
  have hTT := fun (W : World) (hC : Chg (fun _ => False) w W) => hT.chg hC (fun h => h)
  obtain ⟨sa, sc, rfl, _⟩ := hL
  have HM := Lib.hid hmd
  have HN := Lib.hid hmn
  have HW := Lib.hid hwk
  have HT := Lib.hid hTT
  have hpo := mkTo_po (nOf many) L 40
  obtain ⟨n1, n2⟩ := nOf_bd many
  generalize hR : (mkTo (nOf many) L 40).1 = R at *
  generalize nOf many = n at *
  have HRR := Lib.hid hR
  have HP := Lib.hid hpo
  have hcl := cov_list hpo
  have HCL := Lib.hid hcl
  have hclen : (covTo n R (flp R) n).length ≤ 256 := Nat.le_trans hcl.len (Nat.mul_le_mul n2 n2)
  clear hpo hmd hmn hwk hTT hT hB hR hcl
  go_enter Tryd.func4, Tryd.ntmps4
  go_wp2_with fail
  refine HM.out.mono ?_
  rintro e w2 ⟨b, bu, bd, vt, rfl, hb, hbu, hbd, hO, _, hC⟩
  rw [HRR.out] at hO
  have HO := Lib.hid hO
  have HC2 := Lib.hid hC
  have hlt0 := hO.lt
  clear hO hC HM
  go_wp2_with fail
  refine (HN.out _ HC2.out).mono ?_
  rintro e w3 ⟨p, pu, pd, vt2, rfl, hp, hpu, hpd, hOp, hC⟩
  have hO := HO.out.keep fun j c t f hj e => hC.keep e (fun h => h)
  have HO3 := Lib.hid hO
  have HC3 := Lib.hid (HC2.out.trans hC)
  have HOp := Lib.hid hOp
  have hlt1 := hOp.lt
  have hMa := many_some hO
  unfold optr at hMa
  clear hO hC hOp HO HC2
  go_wp2_with fail
  refine hMa.mono ?_
  rintro e w' ⟨rfl, rfl⟩
  clear hMa
  have hcv := covers_some HO3.out (HT.out _ HC3.out)
  unfold optr at hcv
  go_wp2_with fail
  refine hcv.mono ?_
  rintro e w4 ⟨v1, rfl, hv1, hC⟩
  obtain ⟨s1, cap1, rfl, hpa⟩ := pairs_at hv1
  have HO4 := Lib.hid (HO3.out.keep fun j c t f hj e => hC.keep e (fun h => h))
  have HQ4 := Lib.hid (HOp.out.keep fun j c t f hj e => hC.keep e (fun h => h))
  have HC4 := Lib.hid (HC3.out.trans hC)
  have HPA := Lib.hid hpa
  generalize hCC : covTo n R (flp R) n = C at *
  have hsz : w2.heap.size ≤ w3.heap.size := by omega
  clear hcv hv1 hC hpa HO3 HOp HC3 hCC
  go_wp2_with fail
  go_loopw [11] (fun i wr => ∃ (k : Nat) (P : Nat → Nat → Bool), k ≤ C.length ∧ i = .int .i64 k ∧ IsOrd wr p pu pd n n n P (flp P) ∧ CInv n R (Sk C k) P ∧ Chg (fun k => k = pu ∨ k = pd) w4 wr) (fun i _ => C.length - (intOf i).toNat)
  case atStart => exact ⟨0, idR, by omega, rfl, HQ4.out, CInv.id HP.out _ (fun i j ⟨q, h, _⟩ => by omega), Chg.refl _ _⟩
  case round =>
    obtain ⟨k, P, hk, rfl, hQ, hI, hC⟩ := hrel
    by_cases hlt : k < C.length
    · obtain ⟨g, rfl, hgb, c1, c2⟩ := (HPA.out.chg hC (fun j hj hj2 h => by omega)) k hlt
      obtain ⟨st1, st2, st3⟩ := HCL.out.step HP.out hlt hI
      obtain ⟨la, lb, ne, _, _⟩ := HCL.out.cov k hlt
      have had := add_any (w := wr.drew) (hQ.keep fun _ _ _ _ _ e => e) ((HT.out _ HC4.out).chg hC.drew (fun h => by omega)) ((C.getD k (0, 0)).1 : Nat) ((C.getD k (0, 0)).2 : Nat) (by omega) (by omega) (by omega)
      unfold AddPost at had
      rw [st2] at had
      have hat := at_to (hQ.keep (w' := wr.drew) fun _ _ _ _ _ e => e) _ _ la lb false st1
      have HST := Lib.hid st3
      have HHC := Lib.hid hC
      have hab : (((C.getD k (0, 0)).1 : Int) == ((C.getD k (0, 0)).2 : Int)) = false := by rw [beq_eq_false_iff_ne]; omega
      clear st1 st2 st3 hI hQ hC ne la lb
      generalize (C.getD k (0, 0)).1 = x at *
      generalize (C.getD k (0, 0)).2 = y at *
      unfold optr at had
      go_wp2_with fail
      have hS : wr.drew.cell? ⟨g, k * 2, none⟩ = some (.int .i64 (x : Int)) ∧ wr.drew.cell? ⟨g, k * 2 + 1, none⟩ = some (.int .i64 (y : Int)) := ⟨c1, c2⟩
      refine region_lone (fun W' => W'.cell? ⟨g, k * 2, none⟩ = some (.int .i64 (x : Int)) ∧ W'.cell? ⟨g, k * 2 + 1, none⟩ = some (.int .i64 (y : Int))) [] (by kernel_rfl) ?_
      refine take_one 0 hS rfl (by kernel_rfl) rfl ?_
      apply Exists.intro
      refine And.intro (fun W' hS' => ?y0) (And.intro (fun _ _ _ h => h) ?_)
      case y0 => obtain ⟨d1, d2⟩ := hS'; go_simp; rfl
      refine take_one 1 hS rfl (by kernel_rfl) rfl ?_
      apply Exists.intro
      refine And.intro (fun W' hS' => ?y1) (And.intro (fun _ _ _ h => h) ?_)
      case y1 => obtain ⟨d1, d2⟩ := hS'; go_simp; rfl
      refine take_one 2 hS rfl (by kernel_rfl) rfl ?_
      apply Exists.intro
      refine And.intro (fun W' hS' => ?y2) (And.intro (fun _ _ _ h => h) ?_)
      case y2 => obtain ⟨d1, d2⟩ := hS'; go_simp; rfl
      refine take_one 3 hS rfl (by kernel_rfl) rfl ?_
      apply Exists.intro
      refine And.intro (fun W' hS' => ?y3) (And.intro (fun _ _ _ h => h) ?_)
      case y3 => obtain ⟨d1, d2⟩ := hS'; go_simp; rfl
      refine take_one 4 hS rfl (by kernel_rfl) rfl ?_
      apply Exists.intro
      refine And.intro (fun W' hS' => ?y4) (And.intro (fun _ _ _ h => h) ?_)
      case y4 => obtain ⟨d1, d2⟩ := hS'; go_simp; rfl
      refine take_one 5 hS rfl (by kernel_rfl) rfl ?_
      apply Exists.intro
      refine And.intro (fun W' hS' => ?y5) (And.intro (fun _ _ _ h => h) ?_)
      case y5 => obtain ⟨d1, d2⟩ := hS'; go_simp; rfl
      refine take_one 6 hS rfl (by kernel_rfl) rfl ?_
      apply Exists.intro
      refine And.intro (fun W' hS' => ?y6) (And.intro (fun _ _ _ h => h) ?_)
      case y6 => obtain ⟨d1, d2⟩ := hS'; go_simp; rfl
      refine take_one 7 hS rfl (by kernel_rfl) rfl ?_
      apply Exists.intro
      refine And.intro (fun W' hS' => ?y7) (And.intro (fun _ _ _ h => h) ?_)
      case y7 => obtain ⟨d1, d2⟩ := hS'; go_simp; rfl
      refine take_one 8 hS rfl (by kernel_rfl) rfl ?_
      apply Exists.intro
      refine And.intro (fun W' hS' => ?y8) (And.intro (fun _ _ _ h => h) ?_)
      case y8 => obtain ⟨d1, d2⟩ := hS'; go_simp; rfl
      refine take_one 9 hS rfl (by kernel_rfl) rfl ?_
      apply Exists.intro
      refine And.intro (fun W' hS' => ?y9) (And.intro (fun _ _ _ h => h) ?_)
      case y9 => obtain ⟨d1, d2⟩ := hS'; go_simp; rfl
      refine take_one 10 hS rfl (by kernel_rfl) rfl ?_
      apply Exists.intro
      refine And.intro (fun W' hS' => ?y10) (And.intro (fun _ _ _ h => h) ?_)
      case y10 => obtain ⟨d1, d2⟩ := hS'; go_simp; rfl
      refine take_one 11 hS rfl (by kernel_rfl) rfl ?_
      apply Exists.intro
      refine And.intro (fun W' hS' => ?y11) (And.intro (fun _ _ _ h => h) ?_)
      case y11 => obtain ⟨d1, d2⟩ := hS'; go_simp; rfl
      go_simp
      refine take_one 12 hS rfl (by kernel_rfl) (by kernel_rfl) ?_
      apply Exists.intro
      refine And.intro (fun W' hS' => ?y12) (And.intro (fun _ _ _ h => h) ?_)
      case y12 => obtain ⟨d1, d2⟩ := hS'; go_simp; rfl
      refine take_one 13 hS rfl (by kernel_rfl) (by kernel_rfl) ?_
      apply Exists.intro
      refine And.intro (fun W' hS' => ?y13) (And.intro (fun _ _ _ h => h) ?_)
      case y13 => obtain ⟨d1, d2⟩ := hS'; go_simp; rfl
      refine take_one 14 hS rfl (by kernel_rfl) (by kernel_rfl) ?_
      apply Exists.intro
      refine And.intro (fun W' hS' => ?y14) (And.intro (fun _ _ _ h => h) ?_)
      case y14 => obtain ⟨d1, d2⟩ := hS'; go_simp; rfl
      refine take_one 15 hS rfl (by kernel_rfl) (by kernel_rfl) ?_
      apply Exists.intro
      refine And.intro (fun W' hS' => ?y15) (And.intro (fun _ _ _ h => h) ?_)
      case y15 => obtain ⟨d1, d2⟩ := hS'; go_simp; rfl
      refine take_one 16 hS rfl (by kernel_rfl) (by kernel_rfl) ?_
      apply Exists.intro
      refine And.intro (fun W' hS' => ?y16) (And.intro (fun _ _ _ h => h) ?_)
      case y16 => obtain ⟨d1, d2⟩ := hS'; go_simp; rfl
      refine take_one 17 hS rfl (by kernel_rfl) (by kernel_rfl) ?_
      apply Exists.intro
      refine And.intro (fun W' hS' => ?y17) (And.intro (fun _ _ _ h => h) ?_)
      case y17 => obtain ⟨d1, d2⟩ := hS'; go_simp; rfl
      refine take_one 18 hS rfl (by kernel_rfl) (by kernel_rfl) ?_
      apply Exists.intro
      refine And.intro (fun W' hS' => ?y18) (And.intro (fun _ _ _ h => h) ?_)
      case y18 => obtain ⟨d1, d2⟩ := hS'; go_simp; rfl
      refine take_one 19 hS rfl (by kernel_rfl) (by kernel_rfl) ?_
      apply Exists.intro
      refine And.intro (fun W' hS' => ?y19) (And.intro (fun _ _ _ h => h) ?_)
      case y19 => obtain ⟨d1, d2⟩ := hS'; go_simp; rfl
      refine take_one 20 hS rfl (by kernel_rfl) (by kernel_rfl) ?_
      apply Exists.intro
      refine And.intro (fun W' hS' => ?y20) (And.intro (fun _ _ _ h => h) ?_)
      case y20 => obtain ⟨d1, d2⟩ := hS'; go_simp; rfl
      refine take_one 21 hS rfl (by kernel_rfl) (by kernel_rfl) ?_
      apply Exists.intro
      refine And.intro (fun W' hS' => ?y21) (And.intro (fun _ _ _ h => h) ?_)
      case y21 => obtain ⟨d1, d2⟩ := hS'; go_simp; rfl
      refine take_one 22 hS rfl (by kernel_rfl) (by kernel_rfl) ?_
      apply Exists.intro
      refine And.intro (fun W' hS' => ?y22) (And.intro (fun _ _ _ h => h) ?_)
      case y22 => obtain ⟨d1, d2⟩ := hS'; go_simp; rfl
      go_simp
      refine only_one 23 rfl (by kernel_rfl) (by kernel_rfl) ?_
      go_simp
      refine hat.mono ?_
      rintro e w' ⟨rfl, rfl⟩
      refine ⟨hS, ?_⟩
      refine take_one 24 hS rfl (by kernel_rfl) (by kernel_rfl) ?_
      apply Exists.intro
      refine And.intro (fun W' hS' => ?y24) (And.intro (fun _ _ _ h => h) ?_)
      case y24 => obtain ⟨d1, d2⟩ := hS'; go_simp; rfl
      refine take_one 25 hS rfl (by kernel_rfl) (by kernel_rfl) ?_
      apply Exists.intro
      refine And.intro (fun W' hS' => ?y25) (And.intro (fun _ _ _ h => h) ?_)
      case y25 => obtain ⟨d1, d2⟩ := hS'; go_simp; rfl
      go_simp
      refine take_one 26 hS rfl (by kernel_rfl) (by kernel_rfl) ?_
      apply Exists.intro
      refine And.intro (fun W' hS' => ?y26) (And.intro (fun _ _ _ h => h) ?_)
      case y26 => obtain ⟨d1, d2⟩ := hS'; go_simp; rfl
      refine take_one 27 hS rfl (by kernel_rfl) (by kernel_rfl) ?_
      apply Exists.intro
      refine And.intro (fun W' hS' => ?y27) (And.intro (fun _ _ _ h => h) ?_)
      case y27 => obtain ⟨d1, d2⟩ := hS'; go_simp; rfl
      refine take_one 28 hS rfl (by kernel_rfl) (by kernel_rfl) ?_
      apply Exists.intro
      refine And.intro (fun W' hS' => ?y28) (And.intro (fun _ _ _ h => h) ?_)
      case y28 => obtain ⟨d1, d2⟩ := hS'; go_simp; rfl
      refine take_one 29 hS rfl (by kernel_rfl) (by kernel_rfl) ?_
      apply Exists.intro
      refine And.intro (fun W' hS' => ?y29) (And.intro (fun _ _ _ h => h) ?_)
      case y29 => obtain ⟨d1, d2⟩ := hS'; go_simp; rfl
      refine take_one 30 hS rfl (by kernel_rfl) (by kernel_rfl) ?_
      apply Exists.intro
      refine And.intro (fun W' hS' => ?y30) (And.intro (fun _ _ _ h => h) ?_)
      case y30 => obtain ⟨d1, d2⟩ := hS'; go_simp; rfl
      refine take_one 31 hS rfl (by kernel_rfl) (by kernel_rfl) ?_
      apply Exists.intro
      refine And.intro (fun W' hS' => ?y31) (And.intro (fun _ _ _ h => h) ?_)
      case y31 => obtain ⟨d1, d2⟩ := hS'; go_simp; rfl
      refine take_one 32 hS rfl (by kernel_rfl) (by kernel_rfl) ?_
      apply Exists.intro
      refine And.intro (fun W' hS' => ?y32) (And.intro (fun _ _ _ h => h) ?_)
      case y32 => obtain ⟨d1, d2⟩ := hS'; go_simp; rfl
      refine take_one 33 hS rfl (by kernel_rfl) (by kernel_rfl) ?_
      apply Exists.intro
      refine And.intro (fun W' hS' => ?y33) (And.intro (fun _ _ _ h => h) ?_)
      case y33 => obtain ⟨d1, d2⟩ := hS'; go_simp; rfl
      refine take_one 34 hS rfl (by kernel_rfl) (by kernel_rfl) ?_
      apply Exists.intro
      refine And.intro (fun W' hS' => ?y34) (And.intro (fun _ _ _ h => h) ?_)
      case y34 => obtain ⟨d1, d2⟩ := hS'; go_simp; rfl
      refine take_one 35 hS rfl (by kernel_rfl) (by kernel_rfl) ?_
      apply Exists.intro
      refine And.intro (fun W' hS' => ?y35) (And.intro (fun _ _ _ h => h) ?_)
      case y35 => obtain ⟨d1, d2⟩ := hS'; go_simp; rfl
      refine take_one 36 hS rfl (by kernel_rfl) (by kernel_rfl) ?_
      apply Exists.intro
      refine And.intro (fun W' hS' => ?y36) (And.intro (fun _ _ _ h => h) ?_)
      case y36 => obtain ⟨d1, d2⟩ := hS'; go_simp; rfl
      go_simp
      refine only_one 37 rfl (by kernel_rfl) (by kernel_rfl) ?_
      go_simp
      refine had.mono ?_
      rintro e w5 ⟨rfl, hO5, hC5⟩
      have hS5 : w5.cell? ⟨g, k * 2, none⟩ = some (.int .i64 (x : Int)) ∧ w5.cell? ⟨g, k * 2 + 1, none⟩ = some (.int .i64 (y : Int)) := ⟨hC5.cell hS.1 (fun h => by simp at h; omega), hC5.cell hS.2 (fun h => by simp at h; omega)⟩
      refine ⟨hS5, ?_⟩
      go_simp
      refine take_one 38 hS5 rfl (by kernel_rfl) (by kernel_rfl) ?_
      apply Exists.intro
      refine And.intro (fun W' hS' => ?y38) (And.intro (fun _ _ _ h => h) ?_)
      case y38 => obtain ⟨d1, d2⟩ := hS'; go_simp; rfl
      refine take_one 39 hS5 rfl (by kernel_rfl) (by kernel_rfl) ?_
      apply Exists.intro
      refine And.intro (fun W' hS' => ?y39) (And.intro (fun _ _ _ h => h) ?_)
      case y39 => obtain ⟨d1, d2⟩ := hS'; go_simp; rfl
      refine all_done (by kernel_rfl) ?_ _
      clear had hat hS hS5 c1 c2
      go_wp2
      go_roundw
      case rel => exact ⟨k + 1, _, by omega, by go_num, hO5, HST.out, HHC.out.drew.trans hC5⟩
      case measure => simp [intOf]; omega
    · have hful := hI.full HP.out (fun i j h => by
        obtain ⟨q, h1, h2, h3⟩ := HCL.out.all i j h
        exact ⟨q, by omega, h2, h3⟩)
      have hOr := HO4.out.keep fun j c t f hj e => hC.keep e (show ¬ (j = pu ∨ j = pd) by omega)
      have HOr := Lib.hid hOr
      have HQr := Lib.hid hQ
      have hCw := HC4.out.trans' hC fun i hi h => by omega
      have HCw := Lib.hid hCw
      have HPr := Lib.hid (HPA.out.chg hC (fun j hj hj2 h => by omega))
      have HF := Lib.hid hful
      clear hI hQ hC hful hOr hCw HO4 HQ4 HC4 HPA
      go_wp2_with fail
      go_loop [12] (fun i => ∃ a : Nat, a ≤ n ∧ i = .int .i64 a) (fun i => n - (intOf i).toNat)
      case atStart => exact ⟨0, by omega, rfl⟩
      case round =>
        obtain ⟨a, ha, rfl⟩ := hrel
        by_cases hlt2 : a < n
        · go_wp2_with fail
          go_loop [13] (fun i => ∃ a : Nat, a ≤ n ∧ i = .int .i64 a) (fun i => n - (intOf i).toNat)
          case atStart => exact ⟨0, by omega, rfl⟩
          case round =>
            obtain ⟨c, hc, rfl⟩ := hrel
            by_cases hlt3 : c < n
            · have j1 := at_nat HOr.out a c hlt2 hlt3
              have j2 := at_to HQr.out a c hlt2 hlt3 _ (HF.out a c hlt2 hlt3)
              generalize R a c = z at *
              have hzz : (z != z) = false := by cases z <;> rfl
              go_wp2_with fail
              refine j1.mono ?_
              rintro e w' ⟨rfl, rfl⟩
              go_wp2_with fail
              refine j2.mono ?_
              rintro e w' ⟨rfl, rfl⟩
              clear j1 j2
              cases z
              · go_wp2
                go_round
                case rel => exact ⟨c + 1, by omega, by go_num⟩
                case measure => simp [intOf]; omega
              · go_wp2
                go_round
                case rel => exact ⟨c + 1, by omega, by go_num⟩
                case measure => simp [intOf]; omega
            · go_wp2
              go_round
              case rel => exact ⟨a + 1, by omega, by go_num⟩
              case measure => simp [intOf]; omega
        · go_wp2_with fail
          go_loopw [14] (fun i wq => ∃ t : Nat, t ≤ C.length ∧ i = .int .i64 t ∧ Chg (fun _ => False) wr wq) (fun i _ => C.length - (intOf i).toNat)
          case atStart => exact ⟨0, by omega, rfl, Chg.refl _ _⟩
          case round =>
            obtain ⟨t, ht, rfl, hCq⟩ := hrel
            by_cases hltt : t < C.length
            · have hmq := HN.out wr (HCw.out.trans hCq)
              have hPq := HPr.out.chg hCq (fun _ _ _ h => h)
              have HPq := Lib.hid hPq
              have HCq := Lib.hid hCq
              clear hPq hCq
              go_wp2_with fail
              refine hmq.mono ?_
              rintro e w6 ⟨q, qu, qd, vt3, rfl, hq, hqu, hqd, hOq, hC6⟩
              have HP6 := Lib.hid (HPq.out.chg hC6 (fun _ _ _ h => h))
              have HC6 := Lib.hid (HCq.out.trans hC6)
              have HO6 := Lib.hid hOq
              have hlt6 := hOq.lt
              have hwq := hC6.size
              have hsq := (HCw.out.trans HCq.out).size
              have hsq2 := HCq.out.size
              have hTw6 := HT.out _ (HCw.out.trans (HCq.out.trans hC6))
              have HT6 := Lib.hid hTw6
              have HPqq := HPq
              clear hmq hC6 hOq HPq hTw6
              go_wp2_with fail
              go_loopw [17] (fun i wz => ∃ (k : Nat) (P : Nat → Nat → Bool), k ≤ C.length ∧ i = .int .i64 k ∧ IsOrd wz q qu qd n n n P (flp P) ∧ CInv n R (Sb C t k) P ∧ Chg (fun k => k = qu ∨ k = qd) w6 wz) (fun i _ => C.length - (intOf i).toNat)
              case atStart => exact ⟨0, idR, by omega, rfl, HO6.out, CInv.id HP.out _ (fun i j ⟨q, h, _⟩ => by omega), Chg.refl _ _⟩
              case round =>
                obtain ⟨k2, P2, hk2, rfl, hQ, hI, hC⟩ := hrel
                by_cases hlt4 : k2 < C.length
                · by_cases hkt : k2 = t
                  · subst hkt
                    have hb0 : ((k2 : Int) != (k2 : Int)) = false := by simp
                    have hI2 : CInv n R (Sb C k2 (k2 + 1)) P2 := by rw [Sb_skip]; exact hI
                    have HI2 := Lib.hid hI2
                    have HQ2 := Lib.hid hQ
                    have HC9 := Lib.hid hC
                    clear hI hI2 hQ hC
                    go_wp2
                    go_roundw
                    case rel => exact ⟨k2 + 1, _, by omega, by go_num, HQ2.out, HI2.out, HC9.out⟩
                    case measure => simp [intOf]; omega
                  · have hb0 : ((k2 : Int) != (t : Int)) = true := by rw [bne_iff_ne]; omega
                    obtain ⟨g, rfl, hgb, c1, c2⟩ := HP6.out k2 hlt4
                    have hgq : g < qu ∧ g < qd := by
                      obtain ⟨g2, e, _, c, _⟩ := HPqq.out k2 hlt4
                      have hl := lt_of_cell c
                      obtain rfl : g = g2 := by simpa using e
                      simp at hl
                      omega
                    have d1 := hC.cell c1 (show ¬ (g = qu ∨ g = qd) by omega)
                    have d2 := hC.cell c2 (show ¬ (g = qu ∨ g = qd) by omega)
                    clear c1 c2
                    have c1 := d1
                    have c2 := d2
                    have had := add_any (w := wr.drew) (hQ.keep fun _ _ _ _ _ e => e) (HT6.out.chg hC.drew (fun h => by omega)) ((C.getD k2 (0, 0)).1 : Nat) ((C.getD k2 (0, 0)).2 : Nat) (by omega) (by omega) (by omega)
                    have hst := HCL.out.stepb HP.out hlt4 hkt hI
                    unfold AddPost at had
                    unfold optr at had
                    have HST := Lib.hid hst
                    have HHC := Lib.hid hC
                    clear hI hQ hC hst d1 d2
                    generalize (C.getD k2 (0, 0)).1 = x at *
                    generalize (C.getD k2 (0, 0)).2 = y at *
                    go_wp2_with fail
                    have hS : wr.drew.cell? ⟨g, k2 * 2, none⟩ = some (.int .i64 (x : Int)) ∧ wr.drew.cell? ⟨g, k2 * 2 + 1, none⟩ = some (.int .i64 (y : Int)) := ⟨c1, c2⟩
                    refine region_lone (fun W' => W'.cell? ⟨g, k2 * 2, none⟩ = some (.int .i64 (x : Int)) ∧ W'.cell? ⟨g, k2 * 2 + 1, none⟩ = some (.int .i64 (y : Int))) [] (by kernel_rfl) ?_
                    refine take_one 0 hS rfl (by kernel_rfl) rfl ?_
                    apply Exists.intro
                    refine And.intro (fun W' hS' => ?y0) (And.intro (fun _ _ _ h => h) ?_)
                    case y0 => obtain ⟨d1, d2⟩ := hS'; go_simp; rfl
                    refine take_one 1 hS rfl (by kernel_rfl) rfl ?_
                    apply Exists.intro
                    refine And.intro (fun W' hS' => ?y1) (And.intro (fun _ _ _ h => h) ?_)
                    case y1 => obtain ⟨d1, d2⟩ := hS'; go_simp; rfl
                    refine take_one 2 hS rfl (by kernel_rfl) rfl ?_
                    apply Exists.intro
                    refine And.intro (fun W' hS' => ?y2) (And.intro (fun _ _ _ h => h) ?_)
                    case y2 => obtain ⟨d1, d2⟩ := hS'; go_simp; rfl
                    refine take_one 3 hS rfl (by kernel_rfl) rfl ?_
                    apply Exists.intro
                    refine And.intro (fun W' hS' => ?y3) (And.intro (fun _ _ _ h => h) ?_)
                    case y3 => obtain ⟨d1, d2⟩ := hS'; go_simp; rfl
                    refine take_one 4 hS rfl (by kernel_rfl) rfl ?_
                    apply Exists.intro
                    refine And.intro (fun W' hS' => ?y4) (And.intro (fun _ _ _ h => h) ?_)
                    case y4 => obtain ⟨d1, d2⟩ := hS'; go_simp; rfl
                    refine take_one 5 hS rfl (by kernel_rfl) rfl ?_
                    apply Exists.intro
                    refine And.intro (fun W' hS' => ?y5) (And.intro (fun _ _ _ h => h) ?_)
                    case y5 => obtain ⟨d1, d2⟩ := hS'; go_simp; rfl
                    refine take_one 6 hS rfl (by kernel_rfl) rfl ?_
                    apply Exists.intro
                    refine And.intro (fun W' hS' => ?y6) (And.intro (fun _ _ _ h => h) ?_)
                    case y6 => obtain ⟨d1, d2⟩ := hS'; go_simp; rfl
                    refine take_one 7 hS rfl (by kernel_rfl) rfl ?_
                    apply Exists.intro
                    refine And.intro (fun W' hS' => ?y7) (And.intro (fun _ _ _ h => h) ?_)
                    case y7 => obtain ⟨d1, d2⟩ := hS'; go_simp; rfl
                    refine take_one 8 hS rfl (by kernel_rfl) rfl ?_
                    apply Exists.intro
                    refine And.intro (fun W' hS' => ?y8) (And.intro (fun _ _ _ h => h) ?_)
                    case y8 => obtain ⟨d1, d2⟩ := hS'; go_simp; rfl
                    refine take_one 9 hS rfl (by kernel_rfl) rfl ?_
                    apply Exists.intro
                    refine And.intro (fun W' hS' => ?y9) (And.intro (fun _ _ _ h => h) ?_)
                    case y9 => obtain ⟨d1, d2⟩ := hS'; go_simp; rfl
                    refine take_one 10 hS rfl (by kernel_rfl) rfl ?_
                    apply Exists.intro
                    refine And.intro (fun W' hS' => ?y10) (And.intro (fun _ _ _ h => h) ?_)
                    case y10 => obtain ⟨d1, d2⟩ := hS'; go_simp; rfl
                    refine only_one 11 rfl (by kernel_rfl) rfl ?_
                    go_simp
                    refine had.mono ?_
                    rintro e w7 ⟨rfl, hO7, hC7⟩
                    refine ⟨⟨hC7.cell hS.1 (show ¬ (g = qu ∨ g = qd) by omega), hC7.cell hS.2 (show ¬ (g = qu ∨ g = qd) by omega)⟩, ?_⟩
                    refine all_done (by kernel_rfl) ?_ _
                    clear had hS c1 c2
                    go_wp2
                    go_roundw
                    case rel => exact ⟨k2 + 1, _, by omega, by go_num, hO7, HST.out, HHC.out.drew.trans hC7⟩
                    case measure => simp [intOf]; omega
                · obtain ⟨g, rfl, hgb, d1, d2⟩ := HP6.out t hltt
                  have hgq : g < qu ∧ g < qd := by
                    obtain ⟨g2, e, _, c, _⟩ := HPqq.out t hltt
                    have hl := lt_of_cell c
                    obtain rfl : g = g2 := by simpa using e
                    simp at hl
                    omega
                  have c1 := hC.cell d1 (show ¬ (g = qu ∨ g = qd) by omega)
                  have c2 := hC.cell d2 (show ¬ (g = qu ∨ g = qd) by omega)
                  obtain ⟨la, lb, _, _, _⟩ := HCL.out.cov t hltt
                  have hat := at_to (hQ.keep (w' := wr.drew) fun _ _ _ _ _ e => e) _ _ la lb false (HCL.out.lost HP.out hltt k2 hI)
                  have hCz := (HC6.out.trans' hC fun i hi h => by omega).drew
                  have HCz := Lib.hid hCz
                  clear hI hQ hC d1 d2 hCz la lb
                  generalize (C.getD t (0, 0)).1 = x at *
                  generalize (C.getD t (0, 0)).2 = y at *
                  go_wp2_with fail
                  have hS : wr.drew.cell? ⟨g, t * 2, none⟩ = some (.int .i64 (x : Int)) ∧ wr.drew.cell? ⟨g, t * 2 + 1, none⟩ = some (.int .i64 (y : Int)) := ⟨c1, c2⟩
                  refine region_lone (fun W' => W'.cell? ⟨g, t * 2, none⟩ = some (.int .i64 (x : Int)) ∧ W'.cell? ⟨g, t * 2 + 1, none⟩ = some (.int .i64 (y : Int))) [] (by kernel_rfl) ?_
                  refine take_one 0 hS rfl (by kernel_rfl) rfl ?_
                  apply Exists.intro
                  refine And.intro (fun W' hS' => ?y0) (And.intro (fun _ _ _ h => h) ?_)
                  case y0 => obtain ⟨d1, d2⟩ := hS'; go_simp; rfl
                  refine take_one 1 hS rfl (by kernel_rfl) rfl ?_
                  apply Exists.intro
                  refine And.intro (fun W' hS' => ?y1) (And.intro (fun _ _ _ h => h) ?_)
                  case y1 => obtain ⟨d1, d2⟩ := hS'; go_simp; rfl
                  refine take_one 2 hS rfl (by kernel_rfl) rfl ?_
                  apply Exists.intro
                  refine And.intro (fun W' hS' => ?y2) (And.intro (fun _ _ _ h => h) ?_)
                  case y2 => obtain ⟨d1, d2⟩ := hS'; go_simp; rfl
                  refine take_one 3 hS rfl (by kernel_rfl) rfl ?_
                  apply Exists.intro
                  refine And.intro (fun W' hS' => ?y3) (And.intro (fun _ _ _ h => h) ?_)
                  case y3 => obtain ⟨d1, d2⟩ := hS'; go_simp; rfl
                  refine take_one 4 hS rfl (by kernel_rfl) rfl ?_
                  apply Exists.intro
                  refine And.intro (fun W' hS' => ?y4) (And.intro (fun _ _ _ h => h) ?_)
                  case y4 => obtain ⟨d1, d2⟩ := hS'; go_simp; rfl
                  refine take_one 5 hS rfl (by kernel_rfl) rfl ?_
                  apply Exists.intro
                  refine And.intro (fun W' hS' => ?y5) (And.intro (fun _ _ _ h => h) ?_)
                  case y5 => obtain ⟨d1, d2⟩ := hS'; go_simp; rfl
                  refine take_one 6 hS rfl (by kernel_rfl) rfl ?_
                  apply Exists.intro
                  refine And.intro (fun W' hS' => ?y6) (And.intro (fun _ _ _ h => h) ?_)
                  case y6 => obtain ⟨d1, d2⟩ := hS'; go_simp; rfl
                  refine take_one 7 hS rfl (by kernel_rfl) rfl ?_
                  apply Exists.intro
                  refine And.intro (fun W' hS' => ?y7) (And.intro (fun _ _ _ h => h) ?_)
                  case y7 => obtain ⟨d1, d2⟩ := hS'; go_simp; rfl
                  refine take_one 8 hS rfl (by kernel_rfl) rfl ?_
                  apply Exists.intro
                  refine And.intro (fun W' hS' => ?y8) (And.intro (fun _ _ _ h => h) ?_)
                  case y8 => obtain ⟨d1, d2⟩ := hS'; go_simp; rfl
                  refine take_one 9 hS rfl (by kernel_rfl) rfl ?_
                  apply Exists.intro
                  refine And.intro (fun W' hS' => ?y9) (And.intro (fun _ _ _ h => h) ?_)
                  case y9 => obtain ⟨d1, d2⟩ := hS'; go_simp; rfl
                  refine take_one 10 hS rfl (by kernel_rfl) rfl ?_
                  apply Exists.intro
                  refine And.intro (fun W' hS' => ?y10) (And.intro (fun _ _ _ h => h) ?_)
                  case y10 => obtain ⟨d1, d2⟩ := hS'; go_simp; rfl
                  refine only_one 11 rfl (by kernel_rfl) rfl ?_
                  go_simp
                  refine hat.mono ?_
                  rintro e w7 ⟨rfl, rfl⟩
                  refine ⟨hS, ?_⟩
                  refine all_done (by kernel_rfl) ?_ _
                  clear hat hS c1 c2
                  go_wp2
                  go_roundw
                  case rel => exact ⟨t + 1, by omega, by go_num, HCz.out⟩
                  case measure => simp [intOf]; omega
            · have hk := HW.out _ (HCw.out.trans hCq)
              have HCz := Lib.hid (HCw.out.trans hCq)
              clear hCq
              go_wp2_with fail
              refine hk.mono ?_
              rintro e w9 ⟨rfl, hC⟩
              have HC9 := Lib.hid hC
              clear hC hk
              go_wp2
              go_ret
              exact ⟨rfl, HCz.out.trans HC9.out⟩
end Go.Proofs.YtkonpkejddcegaaDoor
