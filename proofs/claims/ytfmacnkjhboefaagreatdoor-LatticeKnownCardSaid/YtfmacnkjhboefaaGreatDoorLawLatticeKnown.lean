/- LatticeKnown, walked: it returns true. UNDER WAY: region 11 downwards is lacking. -/
import Derived.Test.YtfmacnkjhboefaaGreatDoorLawLatticeMakes
import Derived.Test.YtfmacnkjhboefaaGreatDoorLatOne
import Derived.Lib.AppendZeros
import Derived.ArgAppend
namespace Go.Proofs.YtfmacnkjhboefaaGreatDoor
set_option linter.unusedVariables false
set_option linter.unusedSimpArgs false
open Go Go.RowKit Go.Proofs Go.Shelf Go.Sort
theorem chainL_len (n : Nat) : (chainL n).length = n := by simp [chainL]
theorem chainL_succ (k : Nat) : chainL (k + 1) = chainL k ++ [(k, k + 1)] := by simp [chainL, List.range_succ]
theorem pair_grown {w wr w1 : World} {l : List (Nat × Nat)} {a b : Nat} {v v' : Value} (hC : Chg (fun _ => False) w wr) (hR : wr.ownsRow w.heap.size 41 2 v l.length (prs l)) {o : Obj}
    (hown : w1.ownsRow w.heap.size 41 2 v' (l.length + 1) (prs l ++ [.int .i64 (a : Int), .int .i64 (b : Int)])) (hg : (wr.alloc o).grownBy w1 v.ownBlock) :
    Chg (fun _ => False) w w1 ∧ w1.ownsRow w.heap.size 41 2 v' (l ++ [(a, b)]).length (prs (l ++ [(a, b)])) := by
  refine ⟨(hC.alloc _).grown hg (fun j e => .inr (own_block hR e)), ?_⟩
  rw [prs_snoc, List.length_append]
  exact hown
/-- the nine integers that the law tries -/
def endsL : List Int := [-9223372036854775808, -1, 0, 1, 2, 9, 10, 1023, 9223372036854775807]
def prsI (l : List (Int × Int)) : List Value := l.flatMap fun (x : Int × Int) => [.int .i64 x.1, .int .i64 x.2]
theorem prs_eq (l : List (Nat × Nat)) : prs l = prsI (toP l) := by simp [prs, prsI, toP, List.flatMap_map]
theorem prsI_append (a b : List (Int × Int)) : prsI (a ++ b) = prsI a ++ prsI b := by simp [prsI]
theorem prsI_get (l : List (Int × Int)) (i : Nat) (h : i < l.length) : (prsI l)[i * 2]? = some (.int .i64 (l.getD i (0, 0)).1) ∧ (prsI l)[i * 2 + 1]? = some (.int .i64 (l.getD i (0, 0)).2) := by
  induction l generalizing i with
  | nil => simp at h
  | cons x l ih =>
    cases i with
    | zero => simp [prsI]
    | succ i =>
      have h' : i < l.length := by simpa using h
      have := ih i h'
      have e : prsI (x :: l) = .int .i64 x.1 :: .int .i64 x.2 :: prsI l := rfl
      rw [e, show (i + 1) * 2 = i * 2 + 1 + 1 by omega, List.getElem?_cons_succ, List.getElem?_cons_succ, List.getElem?_cons_succ, List.getElem?_cons_succ]
      exact ⟨by rw [this.1]; simp [List.getD], by rw [this.2]; simp [List.getD]⟩
theorem own_pairsI {w : World} {base n : Nat} {v : Value} {l : List (Int × Int)} (h : w.ownsRow base 41 2 v n (prsI l)) (hn : n = l.length) : InPairs w v l := by
  subst hn
  rcases h.2 with ⟨rfl, h0⟩ | ⟨g, cap, cur, rfl, _, hh, hq, _, _, ht⟩
  · have : l = [] := List.length_eq_zero_iff.1 h0
    subst this
    exact ⟨none, 0, rfl, fun i hi => absurd hi (by simp)⟩
  · refine ⟨some ⟨g, 0, none⟩, cap, rfl, fun i hi => ⟨g, 0, rfl, ?_⟩⟩
    obtain ⟨p1, p2⟩ := prsI_get l i hi
    rw [Nat.zero_add, cell_of_heap hh, cell_of_heap hh]
    have h1 : (cur.toList.take (l.length * 2))[i * 2]? = (prsI l)[i * 2]? := by rw [ht]
    have h2 : (cur.toList.take (l.length * 2))[i * 2 + 1]? = (prsI l)[i * 2 + 1]? := by rw [ht]
    rw [List.getElem?_take_of_lt (by omega), p1] at h1
    rw [List.getElem?_take_of_lt (by omega), p2] at h2
    exact ⟨by simpa using h1, by simpa using h2⟩
theorem lit_pairI (w : World) (x y : Int) (t : TypeId) (f : Nat × Nat) (cap : Nat) : InPairs (w.alloc (.cells #[.int .i64 x, .int .i64 y] t f)) (.slice (some ⟨w.heap.size, 0, none⟩) 1 cap) [(x, y)] := by
  refine ⟨some ⟨w.heap.size, 0, none⟩, cap, rfl, fun i hi => ⟨_, 0, rfl, ?_⟩⟩
  obtain rfl : i = 0 := by simpa using hi
  rw [cell_of_heap (heap_new w _), cell_of_heap (heap_new w _)]
  exact ⟨rfl, rfl⟩
theorem own_le {W : World} {base : Nat} {e : TypeId} {size : Nat} {v : Value} {n : Nat} {xs : List Value} (h : W.ownsRow base e size v n xs) : ∀ a l c, v = .slice a l c → l ≤ c := by
  rintro a l c rfl
  rcases h.2 with ⟨h0, _⟩ | ⟨g, cap, cur, h0, _, _, hc, _⟩
  · cases h0; exact Nat.le_refl _
  · cases h0; exact hc
/-- five literal rows of names, one behind the other -/
theorem five_lits (w : World) : let W := ((((w.alloc (.cells #[.string ⟨#[]⟩] 9)).alloc (.cells #[.string ⟨#[65]⟩] 9)).alloc (.cells #[.string ⟨#[97]⟩, .string ⟨#[98]⟩, .string ⟨#[97]⟩] 9)).alloc (.cells #[.string ⟨#[97, 32, 98]⟩] 9)).alloc (.cells #[.string ⟨#[97, 98, 99, 100, 101, 102, 103, 104, 105, 106, 107, 108, 109]⟩] 9)
    Chg (fun _ => False) w W ∧ InStrs W (.slice (some ⟨w.heap.size, 0, none⟩) 1 1) [[]] ∧ InStrs W (.slice (some ⟨w.heap.size + 1, 0, none⟩) 1 1) [[65]] ∧ InStrs W (.slice (some ⟨w.heap.size + 1 + 1, 0, none⟩) 3 3) [[97], [98], [97]] ∧
      InStrs W (.slice (some ⟨w.heap.size + 1 + 1 + 1, 0, none⟩) 1 1) [[97, 32, 98]] ∧ InStrs W (.slice (some ⟨w.heap.size + 1 + 1 + 1 + 1, 0, none⟩) 1 1) [[97, 98, 99, 100, 101, 102, 103, 104, 105, 106, 107, 108, 109]] := by
  intro W
  have sz : ∀ (w : World) (o : Obj), (w.alloc o).heap.size = w.heap.size + 1 := fun w o => by simp
  have g : ∀ (w : World) (o : Obj), Chg (fun _ => False) w (w.alloc o) := fun w o => (Chg.refl _ w).alloc o
  have a1 := lit_strs w [[]] 9 (0, 0) 1 (Nat.le_refl _)
  have a2 := lit_strs (w.alloc (.cells #[.string ⟨#[]⟩] 9)) [[65]] 9 (0, 0) 1 (Nat.le_refl _)
  have a3 := lit_strs ((w.alloc (.cells #[.string ⟨#[]⟩] 9)).alloc (.cells #[.string ⟨#[65]⟩] 9)) [[97], [98], [97]] 9 (0, 0) 3 (Nat.le_refl _)
  have a4 := lit_strs (((w.alloc (.cells #[.string ⟨#[]⟩] 9)).alloc (.cells #[.string ⟨#[65]⟩] 9)).alloc (.cells #[.string ⟨#[97]⟩, .string ⟨#[98]⟩, .string ⟨#[97]⟩] 9)) [[97, 32, 98]] 9 (0, 0) 1 (Nat.le_refl _)
  have a5 := lit_strs ((((w.alloc (.cells #[.string ⟨#[]⟩] 9)).alloc (.cells #[.string ⟨#[65]⟩] 9)).alloc (.cells #[.string ⟨#[97]⟩, .string ⟨#[98]⟩, .string ⟨#[97]⟩] 9)).alloc (.cells #[.string ⟨#[97, 32, 98]⟩] 9)) [[97, 98, 99, 100, 101, 102, 103, 104, 105, 106, 107, 108, 109]] 9 (0, 0) 1 (Nat.le_refl _)
  simp only [sz] at a2 a3 a4 a5
  exact ⟨((((g _ _).trans (g _ _)).trans (g _ _)).trans (g _ _)).trans (g _ _), (((a1.chg (g _ _)).chg (g _ _)).chg (g _ _)).chg (g _ _), ((a2.chg (g _ _)).chg (g _ _)).chg (g _ _), (a3.chg (g _ _)).chg (g _ _), a4.chg (g _ _), a5⟩
/-- a literal row of rows of names -/
theorem odd_cells {w : World} {V : List Value} (t : TypeId) (f : Nat × Nat) (hv : ∀ k, k < 7 → ∃ a l c N, V[k]? = some (.slice a l c) ∧ InStrs w (.slice a l c) N ∧ N.length ≤ 1000) :
    ∀ k, k < 7 → ∃ a l c N, (w.alloc (.cells V.toArray t f)).cell? ⟨w.heap.size, k, none⟩ = some (.slice a l c) ∧ InStrs (w.alloc (.cells V.toArray t f)) (.slice a l c) N ∧ N.length ≤ 1000 := fun k hk => by
  obtain ⟨a, l, c, N, h1, h2, h3⟩ := hv k hk
  exact ⟨a, l, c, N, by rw [cell_of_heap (heap_new w _)]; simpa using h1, h2.chg ((Chg.refl _ w).alloc _), h3⟩
/-- LatticeMakes at what came of names and pairs that are known -/
theorem makes_at {w W : World} (hT : TabOk w) (hC : Chg (fun _ => False) w W) {vn vp : Value} {N : List (List UInt8)} {P : List (Int × Int)} (hN : InStrs W vn N) (hP : InPairs W vp P) (hpc : ∀ a l c, vp = .slice a l c → l ≤ c) (hl : N.length ≤ 1000) (hp : P.length ≤ 1000) (code : Int) :
    Calls Tryz.prog 3 #[vn, vp, .int .i64 code] W fun e w' => e = .returned (.bool true) ∧ Chg (fun _ => False) W w' :=
  latticeMakes_walk W vn vp N P code hN hP hpc (by omega) (by omega) (hT.chg hC (fun x => x))
set_option maxRecDepth 100000 in
set_option maxHeartbeats 32000000 in
theorem latticeKnown_walk (w : World) (hT : TabOk w) : Calls Tryz.prog 4 #[] w fun e w' => e = .returned (.bool true) ∧ Chg (fun _ => False) w w' := by
  obtain ⟨i0, hi, hz0, hz1, hz2⟩ := info_parts infoPair
  obtain ⟨j0, hj, hjz0, hjz1, hjz2⟩ := info_parts infoStr
  have hnm := names_own 10 (by omega) w
  have HT := Lib.hid hT
  clear hT
  go_enter Tryz.func4, Tryz.ntmps4
  go_wp2_with (first | (go_at_call 14; refine hnm.mono ?_; rintro e w1 ⟨v1, rfl, hO1, hC1⟩; obtain ⟨A1, c1, rfl, hS1⟩ := own_shape hO1))
  have HO1 := Lib.hid hO1
  have HC1 := Lib.hid hC1
  clear hO1 hC1 hS1 hnm
  rw [show (namesL 10).length = 10 from rfl] at *
  go_loopw [2, 3] (fun t i wr => ∃ k : Nat, k ≤ 9 ∧ i = .int .i64 k ∧ wr.ownsRow w1.heap.size 41 2 t (chainL k).length (prs (chainL k)) ∧ Chg (fun _ => False) w1 wr) (fun _ i _ => 9 - (intOf i).toNat)
  case atStart => exact ⟨0, by omega, rfl, World.ownsRow_nil _ _ _ _, Chg.refl _ _⟩
  case round =>
    obtain ⟨k, k0, rfl, hR, hC⟩ := hrel
    by_cases hk : k < 9
    · have hw3 : IntKind.i64.wrap ((k : Int) + 1) = k + 1 := IntWalk.i64_in _ ⟨by omega, by omega⟩
      obtain ⟨A, l, c, rfl⟩ := own_slice hR
      have hk9 : (k : Int) < 9 := by omega
      have hsz := hC.size
      have HR := Lib.hid hR
      have HC := Lib.hid hC
      have HL := Lib.hid (chainL_len k)
      clear hR hC
      go_wp2_with (at_builtin; refine wpList_append_own_at _ rfl _ _ 23 rfl w1.heap.size 41 i0 (.agg #[.int .i64 0, .int .i64 0]) 2 16 Tryz.underlying23 hi hz0 hz1 hz2 rfl (by decide) _ _ _ rfl (HR.out.alloc _) ⟨wr.heap.size, 0, none⟩ 1 1 [.int .i64 (k : Int), .int .i64 ((k : Int) + 1)] rfl rfl (two_new _ _ _ _) ?c2 ?c3 ?c4 ?c5 ?_)
      case c2 => simp [Value.oneCell']
      case c3 => rw [HL.out]; unfold maxLen; omega
      case c4 => rw [HL.out]; omega
      case c5 => simp; omega
      intro v' w2 hown' hgrow hnil hat
      have R := pair_grown (a := k) (b := k + 1) HC.out HR.out (by simpa using hown') hgrow
      rw [← chainL_succ] at R
      have HN := Lib.hid R
      clear hgrow hnil hat hown' R
      go_wp2_with fail
      go_roundw
      case rel => exact ⟨k + 1, by omega, by go_num, HN.out.2, HN.out.1⟩
      case measure => simp [intOf]; omega
    · obtain rfl : k = 9 := by omega
      rw [chainL_len] at hR
      have hle := own_le hR
      have hP := own_pairs (l := chainL 9) (by rw [chainL_len]; exact hR)
      obtain ⟨gc, cc, cur, rfl, hgc, hhc, hcc, _, hcs, htk⟩ := (hR.2).resolve_left (fun x => absurd x.2 (by decide))
      have hN := (own_strs HO1.out).chg hC
      have hle1 := own_le HO1.out _ _ _ rfl
      have hcel : ∀ j u, (prs (chainL 8))[j]? = some u → wr.cell? ((⟨gc, 0, none⟩ : Addr).add j) = some u := by
        intro j u hj
        have e8 : prs (chainL 8) = (prs (chainL 9)).take 16 := rfl
        rw [e8, ← htk, List.take_take, show min 16 (9 * 2) = 16 from rfl] at hj
        have h16 : j < 16 := by
          have := (List.getElem?_eq_some_iff.1 hj).1
          rw [List.length_take] at this
          omega
        rw [List.getElem?_take_of_lt h16] at hj
        rw [WideShapes.add_plain, cell_of_heap hhc]
        simpa using hj
      have HC := Lib.hid (HC1.out.trans hC)
      have HN := Lib.hid hN
      have HP := Lib.hid hP
      have HCEL := Lib.hid hcel
      have hgw : gc < wr.heap.size := lt_of_heap hhc
      clear hR hC hle hP hN hcel hhc htk HC1 HO1 k0 hcs hgc
      go_upto_region 8 with fail
      have hal := (Chg.refl (fun _ => False) wr).alloc (.cells #[.int .i64 (-9223372036854775808), .int .i64 (-1), .int .i64 0, .int .i64 1, .int .i64 2, .int .i64 9, .int .i64 10, .int .i64 1023, .int .i64 9223372036854775807] 3)
      have hNa := HN.out.chg hal
      have hPa := HP.out.chg hal
      have hca : ∀ j u, (prs (chainL 8))[j]? = some u → (wr.alloc (.cells #[.int .i64 (-9223372036854775808), .int .i64 (-1), .int .i64 0, .int .i64 1, .int .i64 2, .int .i64 9, .int .i64 10, .int .i64 1023, .int .i64 9223372036854775807] 3)).cell? ((⟨gc, 0, none⟩ : Addr).add j) = some u := fun j u hj => hal.cell (HCEL.out j u hj) (fun x => x)
      have hea : ∀ k, k < 9 → (wr.alloc (.cells #[.int .i64 (-9223372036854775808), .int .i64 (-1), .int .i64 0, .int .i64 1, .int .i64 2, .int .i64 9, .int .i64 10, .int .i64 1023, .int .i64 9223372036854775807] 3)).cell? ⟨wr.heap.size, k, none⟩ = some (.int .i64 (endsL.getD k 0)) := by
        intro k hk
        rw [cell_of_heap (heap_new wr _)]
        match k, hk with
        | 0, _ => rfl
        | 1, _ => rfl
        | 2, _ => rfl
        | 3, _ => rfl
        | 4, _ => rfl
        | 5, _ => rfl
        | 6, _ => rfl
        | 7, _ => rfl
        | 8, _ => rfl
        | k + 9, h => exact absurd h (by omega)
      have HCA := Lib.hid (HC.out.trans hal)
      have HNA := Lib.hid hNa
      have HPA := Lib.hid hPa
      have HCELA := Lib.hid hca
      have HEA := Lib.hid hea
      clear HC HN HP HCEL hal hNa hPa hca hea
      generalize (wr.alloc (.cells #[.int .i64 (-9223372036854775808), .int .i64 (-1), .int .i64 0, .int .i64 1, .int .i64 2, .int .i64 9, .int .i64 10, .int .i64 1023, .int .i64 9223372036854775807] 3)) = wa at *
      generalize wr.heap.size = we at *
      go_wp2_with fail
      go_loopw [5] (fun i wx => ∃ k : Nat, k ≤ 9 ∧ i = .int .i64 k ∧ Chg (fun _ => False) wa wx) (fun i _ => 9 - (intOf i).toNat)
      case atStart => exact ⟨0, by omega, rfl, Chg.refl _ _⟩
      case round =>
        obtain ⟨k, k0, rfl, hD⟩ := hrel
        by_cases hk9 : k < 9
        · have hw3 : IntKind.i64.wrap ((k : Int) + 1) = k + 1 := IntWalk.i64_in _ ⟨by omega, by omega⟩
          have hk8 : (k : Int) < 9 := by omega
          have s0 := hD.drew.cell (HEA.out k hk9) (fun x => x)
          generalize endsL.getD k 0 = e at *
          have hcc8 : (8 : Int) ≤ cc := by omega
          have hc11 : (1 : Int) ≤ c1 := by omega
          have HCx := Lib.hid (HCA.out.trans hD.drew)
          have HNx := Lib.hid (HNA.out.chg hD.drew)
          have HNx1 := Lib.hid ((HNA.out.takeN 1 (by decide)).2.2.chg hD.drew)
          have HPx := Lib.hid (HPA.out.chg hD.drew)
          have HCELx := Lib.hid (fun j u hj => hD.drew.cell (HCELA.out j u hj) (fun x => x))
          have HD := Lib.hid hD.drew
          clear hD
          go_upto_region 11 with fail
          refine region_lone (fun (W : World) => W.cell? ⟨we, k, none⟩ = some (.int .i64 e)) [] (by kernel_rfl) ?_
          generalize wr.drew = xd at *
          refine take_one 0 s0 rfl (by kernel_rfl) rfl ?_
          apply Exists.intro
          refine And.intro (fun W' hS' => ?y0) (And.intro (fun _ _ _ h => h) ?_)
          case y0 => have _d := hS'; go_simp; rfl
          refine take_one 1 s0 rfl (by kernel_rfl) rfl ?_
          apply Exists.intro
          refine And.intro (fun W' hS' => ?y1) (And.intro (fun _ _ _ h => h) ?_)
          case y1 => have _d := hS'; go_simp; rfl
          refine take_one 2 s0 rfl (by kernel_rfl) rfl ?_
          apply Exists.intro
          refine And.intro (fun W' hS' => ?y2) (And.intro (fun _ _ _ h => h) ?_)
          case y2 => have _d := hS'; go_simp; rfl
          refine take_one 3 s0 rfl (by kernel_rfl) rfl ?_
          apply Exists.intro
          refine And.intro (fun W' hS' => ?y3) (And.intro (fun _ _ _ h => h) ?_)
          case y3 => have _d := hS'; go_simp; rfl
          refine take_one 4 s0 rfl (by kernel_rfl) rfl ?_
          apply Exists.intro
          refine And.intro (fun W' hS' => ?y4) (And.intro (fun _ _ _ h => h) ?_)
          case y4 => have _d := hS'; go_simp; rfl
          refine take_one 5 s0 rfl (by kernel_rfl) rfl ?_
          apply Exists.intro
          refine And.intro (fun W' hS' => ?y5) (And.intro (fun _ _ _ h => h) ?_)
          case y5 => have _d := hS'; go_simp; rfl
          refine only_one 6 rfl (by kernel_rfl) rfl ?_
          try go_simp
          refine (makes_at HT.out HCx.out HNx.out HPx.out (fun a l c h => by cases h; exact hcc) (by decide) (by decide) e).mono ?_
          rintro e1 x1 ⟨rfl, hE1⟩
          have s1 := hE1.cell s0 (fun x => x)
          try refine ⟨s1, ?_⟩
          refine take_one 7 s1 rfl (by kernel_rfl) rfl ?_
          apply Exists.intro
          refine And.intro (fun W' hS' => ?y7) (And.intro (fun _ _ _ h => h) ?_)
          case y7 => have _d := hS'; go_simp; rfl
          refine take_one 8 s1 rfl (by kernel_rfl) rfl ?_
          apply Exists.intro
          refine And.intro (fun W' hS' => ?y8) (And.intro (fun _ _ _ h => h) ?_)
          case y8 => have _d := hS'; go_simp; rfl
          try go_simp
          try go_simp
          refine take_one 9 s1 rfl (by kernel_rfl) (by kernel_rfl) ?_
          apply Exists.intro
          refine And.intro (fun W' hS' => ?y9) (And.intro (fun _ _ _ h => h) ?_)
          case y9 => have _d := hS'; go_simp; rfl
          refine take_one 10 s1 rfl (by kernel_rfl) (by kernel_rfl) ?_
          apply Exists.intro
          refine And.intro (fun W' hS' => ?y10) (And.intro (fun _ _ _ h => h) ?_)
          case y10 => have _d := hS'; go_simp; rfl
          refine take_one 11 s1 rfl (by kernel_rfl) (by kernel_rfl) ?_
          apply Exists.intro
          refine And.intro (fun W' hS' => ?y11) (And.intro (fun _ _ _ h => h) ?_)
          case y11 => have _d := hS'; go_simp; rfl
          refine take_one 12 s1 rfl (by kernel_rfl) (by kernel_rfl) ?_
          apply Exists.intro
          refine And.intro (fun W' hS' => ?y12) (And.intro (fun _ _ _ h => h) ?_)
          case y12 => have _d := hS'; go_simp; rfl
          refine take_one 13 s1 rfl (by kernel_rfl) (by kernel_rfl) ?_
          apply Exists.intro
          refine And.intro (fun W' hS' => ?y13) (And.intro (fun _ _ _ h => h) ?_)
          case y13 => have _d := hS'; go_simp; rfl
          refine take_one 14 s1 rfl (by kernel_rfl) (by kernel_rfl) ?_
          apply Exists.intro
          refine And.intro (fun W' hS' => ?y14) (And.intro (fun _ _ _ h => h) ?_)
          case y14 => have _d := hS'; go_simp; rfl
          refine take_one 15 s1 rfl (by kernel_rfl) (by kernel_rfl) ?_
          apply Exists.intro
          refine And.intro (fun W' hS' => ?y15) (And.intro (fun _ _ _ h => h) ?_)
          case y15 => have _d := hS'; go_simp; rfl
          refine take_one 16 s1 rfl (by kernel_rfl) (by kernel_rfl) ?_
          apply Exists.intro
          refine And.intro (fun W' hS' => ?y16) (And.intro (fun _ _ _ h => h) ?_)
          case y16 => have _d := hS'; go_simp; rfl
          refine only_one 17 rfl (by kernel_rfl) (by kernel_rfl) ?_
          try go_simp
          have hA2 := (Chg.refl (fun _ => False) x1).alloc (.cells #[.int .i64 e, .int .i64 9] 41)
          have hc2 := two_new x1 (.int .i64 e) (.int .i64 9) 41
          have s2 := hA2.cell s1 (fun x => x)
          generalize (x1.alloc (.cells #[.int .i64 e, .int .i64 9] 41)) = x2 at *
          generalize x1.heap.size = g2 at *
          try refine ⟨s2, ?_⟩
          refine only_one 18 rfl (by kernel_rfl) (by kernel_rfl) ?_
          have hE2 := hE1.trans hA2
          obtain ⟨v3, x3, hr, hown3, hgrow3⟩ := run_append_arg_grows (P := Tryz.prog) x2 23 23 41 i0 (.agg #[.int .i64 0, .int .i64 0]) 2 16 Tryz.underlying23 hi hz0 hz1 hz2 rfl (by decide) ⟨gc, 0, none⟩ 8 8 (prs (chainL 8)) rfl (fun j u hj => hE2.cell (HCELx.out j u hj) (fun x => x)) ⟨g2, 0, none⟩ 1 1 [.int .i64 e, .int .i64 9] rfl hc2 (by decide) (by decide) (by decide)
          refine Lib.wp_append_run _ (.tmp 46) (.tmp 52) 23 23 rfl _ _ rfl rfl v3 x3 hr ?_
          have hE3 : Chg (fun _ => False) xd x3 := hE2.grown hgrow3 (fun j h => by cases h)
          have hP3 : InPairs x3 v3 (toP (chainL 8) ++ [(e, 9)]) := own_pairsI (n := 9) (by rw [prsI_append, ← prs_eq]; exact hown3) rfl
          have hle3 := own_le hown3
          have s3 := hE3.cell s0 (fun x => x)
          clear hr hown3 hgrow3
          first | refine ⟨fun _ => s3, ?_⟩ | refine ⟨s3, ?_⟩
          refine only_one 19 rfl (by kernel_rfl) (by kernel_rfl) ?_
          try go_simp
          refine (makes_at HT.out (HCx.out.trans hE3) (HNx.out.chg hE3) hP3 hle3 (by decide) (by simp [toP, chainL]) 7).mono ?_
          rintro e4 x4 ⟨rfl, hE4⟩
          have s4 := hE4.cell s3 (fun x => x)
          try refine ⟨s4, ?_⟩
          try go_simp
          refine take_one 20 s4 rfl (by kernel_rfl) (by kernel_rfl) ?_
          apply Exists.intro
          refine And.intro (fun W' hS' => ?y20) (And.intro (fun _ _ _ h => h) ?_)
          case y20 => have _d := hS'; go_simp; rfl
          refine take_one 21 s4 rfl (by kernel_rfl) rfl ?_
          apply Exists.intro
          refine And.intro (fun W' hS' => ?y21) (And.intro (fun _ _ _ h => h) ?_)
          case y21 => have _d := hS'; go_simp; rfl
          refine take_one 22 s4 rfl (by kernel_rfl) rfl ?_
          apply Exists.intro
          refine And.intro (fun W' hS' => ?y22) (And.intro (fun _ _ _ h => h) ?_)
          case y22 => have _d := hS'; go_simp; rfl
          try go_simp
          refine take_one 23 s4 rfl (by kernel_rfl) (by kernel_rfl) ?_
          apply Exists.intro
          refine And.intro (fun W' hS' => ?y23) (And.intro (fun _ _ _ h => h) ?_)
          case y23 => have _d := hS'; go_simp; rfl
          refine take_one 24 s4 rfl (by kernel_rfl) (by kernel_rfl) ?_
          apply Exists.intro
          refine And.intro (fun W' hS' => ?y24) (And.intro (fun _ _ _ h => h) ?_)
          case y24 => have _d := hS'; go_simp; rfl
          refine take_one 25 s4 rfl (by kernel_rfl) (by kernel_rfl) ?_
          apply Exists.intro
          refine And.intro (fun W' hS' => ?y25) (And.intro (fun _ _ _ h => h) ?_)
          case y25 => have _d := hS'; go_simp; rfl
          refine take_one 26 s4 rfl (by kernel_rfl) (by kernel_rfl) ?_
          apply Exists.intro
          refine And.intro (fun W' hS' => ?y26) (And.intro (fun _ _ _ h => h) ?_)
          case y26 => have _d := hS'; go_simp; rfl
          refine take_one 27 s4 rfl (by kernel_rfl) (by kernel_rfl) ?_
          apply Exists.intro
          refine And.intro (fun W' hS' => ?y27) (And.intro (fun _ _ _ h => h) ?_)
          case y27 => have _d := hS'; go_simp; rfl
          refine take_one 28 s4 rfl (by kernel_rfl) (by kernel_rfl) ?_
          apply Exists.intro
          refine And.intro (fun W' hS' => ?y28) (And.intro (fun _ _ _ h => h) ?_)
          case y28 => have _d := hS'; go_simp; rfl
          refine take_one 29 s4 rfl (by kernel_rfl) (by kernel_rfl) ?_
          apply Exists.intro
          refine And.intro (fun W' hS' => ?y29) (And.intro (fun _ _ _ h => h) ?_)
          case y29 => have _d := hS'; go_simp; rfl
          refine only_one 30 rfl (by kernel_rfl) (by kernel_rfl) ?_
          try go_simp
          have hA5 := (Chg.refl (fun _ => False) x4).alloc (.cells #[.int .i64 e, .int .i64 0] 41)
          have hP5 := lit_pairI x4 e 0 41 (0, 0) 1
          have s5 := hA5.cell s4 (fun x => x)
          generalize (x4.alloc (.cells #[.int .i64 e, .int .i64 0] 41)) = x5 at *
          generalize x4.heap.size = g5 at *
          have hE5 := (hE3.trans hE4).trans hA5
          try refine ⟨s5, ?_⟩
          refine only_one 31 rfl (by kernel_rfl) (by kernel_rfl) ?_
          try go_simp
          refine (makes_at HT.out (HCx.out.trans hE5) (HNx1.out.chg hE5) hP5 (fun a l c h => by cases h; exact Nat.le_refl _) (by decide) (by simp) 1).mono ?_
          rintro e6 x6 ⟨rfl, hE6⟩
          have s6 := hE6.cell s5 (fun x => x)
          try refine ⟨s6, ?_⟩
          refine take_one 32 s6 rfl (by kernel_rfl) (by kernel_rfl) ?_
          apply Exists.intro
          refine And.intro (fun W' hS' => ?y32) (And.intro (fun _ _ _ h => h) ?_)
          case y32 => have _d := hS'; go_simp; rfl
          try go_simp
          refine take_one 33 s6 rfl (by kernel_rfl) rfl ?_
          apply Exists.intro
          refine And.intro (fun W' hS' => ?y33) (And.intro (fun _ _ _ h => h) ?_)
          case y33 => have _d := hS'; go_simp; rfl
          try go_simp
          refine all_done (by kernel_rfl) ?_ _
          go_wp2_with fail
          refine ⟨?rel, ?measure⟩
          case rel => exact ⟨_, _, _, _, _, _, _, _, _, _, _, _, _, _, _, _, _, _, _, _, _, _, _, _, _, _, _, _, _, _, _, _, _, _, _, _, _, _, _, _, _, _, ⟨k + 1, by omega, by go_num, HD.out.trans (hE5.trans hE6)⟩, rfl⟩
          case measure => simp [intOf]; omega
        · obtain rfl : k = 9 := by omega
          have HD := Lib.hid (HCA.out.trans hD)
          have hfive := five_lits wr
          have hnm := fun (W : World) => names_own 10 (by omega) W
          clear hD HCELA HEA HPA HNA HCA hcc hle1 k0 hgw
          go_upto_region 14 with (first
            | (go_at_call 14; refine (hnm _).mono ?_; rintro e x6 ⟨v6, rfl, hO6, hE6⟩; obtain ⟨A6, c6, rfl, _⟩ := own_shape hO6)
            | (at_builtin; refine wpList_append_own_at _ rfl _ _ 22 rfl _ 9 j0 (.string ByteArray.empty) 1 16 Tryz.underlying22 hj hjz0 hjz1 hjz2 rfl (by decide) _ _ _ rfl (hO6.alloc _) ⟨x6.heap.size, 0, none⟩ 1 1 [.string ⟨#[120]⟩] rfl rfl (one_new _ _ _) ?c2 ?c3 ?c4 ?c5 ?_))
          case c2 => simp [Value.oneCell']
          case c3 => decide
          case c4 => decide
          case c5 => have := hE6.size; simp at this ⊢; omega
          intro v7 x7 hown7 hgrow7 hnil7 hat7
          obtain ⟨f0, f1, f2, f3, f4, f5⟩ := hfive
          have hE7 := (hE6.alloc _).grown hgrow7 (fun j e => .inr (own_block hO6 e))
          have hX := (HD.out.trans f0).trans hE7
          have n6 : InStrs x7 v7 (namesL 10 ++ [[120]]) := own_strs (by rw [strV_append, List.length_append]; exact hown7)
          obtain ⟨A7, l7, c7, rfl⟩ := own_slice hown7
          have g1 := f1.chg hE7
          have g2 := f2.chg hE7
          have g3 := f3.chg hE7
          have g4 := f4.chg hE7
          have g5 := f5.chg hE7
          have HX := Lib.hid hX
          have G1 := Lib.hid g1
          have G2 := Lib.hid g2
          have G3 := Lib.hid g3
          have G4 := Lib.hid g4
          have G5 := Lib.hid g5
          have G6 := Lib.hid n6
          clear f0 f1 f2 f3 f4 f5 hE7 hX n6 g1 g2 g3 g4 g5 hown7 hgrow7 hnil7 hat7 hE6 hO6 HD hnm
          go_upto_region 14 with fail
          have hodd := odd_cells (w := x7) (V := [.slice none 0 0, .slice (some ⟨wr.heap.size, 0, none⟩) 1 1, .slice (some ⟨wr.heap.size + 1, 0, none⟩) 1 1, .slice (some ⟨wr.heap.size + 1 + 1, 0, none⟩) 3 3, .slice (some ⟨wr.heap.size + 1 + 1 + 1, 0, none⟩) 1 1, .slice (some ⟨wr.heap.size + 1 + 1 + 1 + 1, 0, none⟩) 1 1, .slice A7 l7 c7]) 22 (0, 0) (fun k hk => match k, hk with
            | 0, _ => ⟨_, _, _, [], rfl, ⟨none, 0, rfl, Nat.le_refl _, fun i hi => absurd hi (Nat.not_lt_zero i)⟩, by decide⟩
            | 1, _ => ⟨_, _, _, _, rfl, G1.out, by decide⟩
            | 2, _ => ⟨_, _, _, _, rfl, G2.out, by decide⟩
            | 3, _ => ⟨_, _, _, _, rfl, G3.out, by decide⟩
            | 4, _ => ⟨_, _, _, _, rfl, G4.out, by decide⟩
            | 5, _ => ⟨_, _, _, _, rfl, G5.out, by decide⟩
            | 6, _ => ⟨_, _, _, _, rfl, G6.out, by decide⟩
            | k + 7, h => absurd h (by omega))
          have hXo := HX.out.alloc (.cells #[.slice none 0 0, .slice (some ⟨wr.heap.size, 0, none⟩) 1 1, .slice (some ⟨wr.heap.size + 1, 0, none⟩) 1 1, .slice (some ⟨wr.heap.size + 1 + 1, 0, none⟩) 3 3, .slice (some ⟨wr.heap.size + 1 + 1 + 1, 0, none⟩) 1 1, .slice (some ⟨wr.heap.size + 1 + 1 + 1 + 1, 0, none⟩) 1 1, .slice A7 l7 c7] 22)
          change ∀ k, k < 7 → ∃ a l c N, (x7.alloc (.cells #[.slice none 0 0, .slice (some ⟨wr.heap.size, 0, none⟩) 1 1, .slice (some ⟨wr.heap.size + 1, 0, none⟩) 1 1, .slice (some ⟨wr.heap.size + 1 + 1, 0, none⟩) 3 3, .slice (some ⟨wr.heap.size + 1 + 1 + 1, 0, none⟩) 1 1, .slice (some ⟨wr.heap.size + 1 + 1 + 1 + 1, 0, none⟩) 1 1, .slice A7 l7 c7] 22)).cell? ⟨x7.heap.size, k, none⟩ = some (.slice a l c) ∧ InStrs (x7.alloc (.cells #[.slice none 0 0, .slice (some ⟨wr.heap.size, 0, none⟩) 1 1, .slice (some ⟨wr.heap.size + 1, 0, none⟩) 1 1, .slice (some ⟨wr.heap.size + 1 + 1, 0, none⟩) 3 3, .slice (some ⟨wr.heap.size + 1 + 1 + 1, 0, none⟩) 1 1, .slice (some ⟨wr.heap.size + 1 + 1 + 1 + 1, 0, none⟩) 1 1, .slice A7 l7 c7] 22)) (.slice a l c) N ∧ N.length ≤ 1000 at hodd
          have HODD := Lib.hid hodd
          have HXO := Lib.hid hXo
          clear hodd hXo HX G1 G2 G3 G4 G5 G6
          generalize (x7.alloc (.cells #[.slice none 0 0, .slice (some ⟨wr.heap.size, 0, none⟩) 1 1, .slice (some ⟨wr.heap.size + 1, 0, none⟩) 1 1, .slice (some ⟨wr.heap.size + 1 + 1, 0, none⟩) 3 3, .slice (some ⟨wr.heap.size + 1 + 1 + 1, 0, none⟩) 1 1, .slice (some ⟨wr.heap.size + 1 + 1 + 1 + 1, 0, none⟩) 1 1, .slice A7 l7 c7] 22)) = xo at *
          generalize x7.heap.size = bo at *
          go_wp2_with fail
          go_loopw [7] (fun i wx => ∃ k : Nat, k ≤ 7 ∧ i = .int .i64 k ∧ Chg (fun _ => False) xo wx) (fun i _ => 7 - (intOf i).toNat)
          case atStart => exact ⟨0, by omega, rfl, Chg.refl _ _⟩
          case round =>
            obtain ⟨k, k0, rfl, hD⟩ := hrel
            by_cases hk7 : k < 7
            · have hw3 : IntKind.i64.wrap ((k : Int) + 1) = k + 1 := IntWalk.i64_in _ ⟨by omega, by omega⟩
              have hk8 : (k : Int) < 7 := by omega
              obtain ⟨av, lv, cv, N, z0, hN, hl⟩ := HODD.out k hk7
              have z1 := hD.cell z0 (fun x => x)
              have M1 := Lib.hid (makes_at HT.out (HXO.out.trans hD) (hN.chg hD) (nil_pairs _) (fun a l c h => by cases h; exact Nat.le_refl _) hl (by decide) (k : Int))
              have M2 := Lib.hid (fun W hW => makes_at HT.out ((HXO.out.trans (hD.trans hW)).alloc (.cells #[.int .i64 5, .int .i64 5] 41)) ((hN.chg (hD.trans hW)).chg ((Chg.refl _ W).alloc _)) (lit_pairI W 5 5 41 (0, 0) 1) (fun a l c h => by cases h; exact Nat.le_refl _) hl (by simp) (k : Int))
              have HD := Lib.hid hD
              clear hN hD z0 hl
              have t1 : True := trivial
              go_wp2_with (first
                | (go_at_call 3; have _t := t1; clear _t t1; refine M1.out.mono ?_; rintro e x1 ⟨rfl, hE1⟩; have z2 := hE1.cell z1 (fun x => x))
                | (go_at_call 3; refine (M2.out _ hE1).mono ?_; rintro e x2 ⟨rfl, hE2⟩))
              go_roundw
              case rel => exact ⟨k + 1, by omega, by go_num, HD.out.trans (hE1.trans (((Chg.refl _ x1).alloc _).trans hE2))⟩
              case measure => simp [intOf]; omega
            · obtain rfl : k = 7 := by omega
              have HD := Lib.hid (HXO.out.trans hD)
              have hmk := make_one wr (HT.out.chg (HXO.out.trans hD) (fun x => x))
              clear hD HXO HODD k0 hk7
              go_upto_region 20 with (first | (go_at_call 6; refine hmk.mono ?_; rintro e w1 ⟨la, base, N, R, rfl, hL, hF, hC1⟩))
              have HD1 := Lib.hid (HD.out.trans hC1)
              have hma := lMany hL
              have hlo := lLow hL
              have hhi := lHigh hL
              have hjo := lJoinA hL (by rw [hF.len]; decide) 0 0
              have hco := lCodeA hL (HT.out.chg HD1.out (fun x => x)) (by rw [hF.len]; decide) 0
              rw [hF.len] at hma
              rw [hF.low] at hlo
              rw [hF.high] at hhi
              rw [hF.join] at hjo
              rw [hF.code] at hco
              unfold latp at *
              clear hC1 hmk HD hF hL
              go_upto_region 22 with (first
                | (go_at_call 15; refine hma.mono ?_; rintro e w2 ⟨rfl, rfl⟩)
                | (go_at_call 16; refine hlo.mono ?_; rintro e w2 ⟨rfl, rfl⟩)
                | (go_at_call 17; refine hhi.mono ?_; rintro e w2 ⟨rfl, rfl⟩)
                | (go_at_call 18; refine hjo.mono ?_; rintro e w2 ⟨rfl, rfl⟩)
                | (go_at_call 19; refine hco.mono ?_; rintro e w2 ⟨rfl, hC2⟩))
              have HD2 := Lib.hid (HD1.out.trans hC2)
              clear hma hlo hhi hjo hco hC2 HD1
              go_wp2_with fail
              go_loopw [10, 11, 12, 13, 14, 15] (fun p i _ _ _ _ wx => NoLat wx p ∧ Chg (fun _ => False) w2 wx ∧ ∃ k : Nat, k ≤ 2 ∧ i = .int .i64 k) (fun _ i _ _ _ _ _ => 2 - (intOf i).toNat)
              case atStart => exact ⟨.inl rfl, Chg.refl _ _, 0, by omega, rfl⟩
              case round =>
                obtain ⟨hNo, hC, k, k0, rfl⟩ := hrel
                by_cases hk2 : k < 2
                · have hw3 : IntKind.i64.wrap ((k : Int) + 1) = k + 1 := IntWalk.i64_in _ ⟨by omega, by omega⟩
                  have hk8 : (k : Int) < 2 := by omega
                  have m1 := nFind hNo (bs [97])
                  have m2 := nDecode hNo 1
                  have m3 := nMany hNo
                  have m4 := nLeq hNo
                  have m5 := nJoin hNo 0 (.inl rfl)
                  have m6 := nMeet hNo
                  have hA := (Chg.refl (fun _ => False) wr).alloc (.cells #[.int .i64 1] 33)
                  have hNo2 := hNo.chg hA
                  have m7 := nJoinAll hNo2 (G := wr.heap.size) (cell_of_heap (heap_new wr _) 0)
                  have m8 := nLow hNo2
                  have m9 := nHigh hNo2
                  have m10 := nName hNo2
                  have m11 := nCode hNo2
                  have HC := Lib.hid (hC.trans hA)
                  clear hNo hNo2 hA hC
                  go_upto_region 27 with (first
                    | (go_at_call 9; refine m1.mono ?_; rintro e w3 ⟨rfl, rfl⟩))
                  clear m1
                  go_upto_region 28 with (first
                    | (go_at_call 11; refine m2.mono ?_; rintro e w3 ⟨rfl, rfl⟩))
                  clear m2
                  go_upto_region 30 with (first
                    | (go_at_call 15; refine m3.mono ?_; rintro e w3 ⟨rfl, rfl⟩)
                    | (go_at_call 20; refine m4.mono ?_; rintro e w3 ⟨rfl, rfl⟩)
                    | (go_at_call 18; refine m5.mono ?_; rintro e w3 ⟨rfl, rfl⟩)
                    | (go_at_call 21; refine m6.mono ?_; rintro e w3 ⟨rfl, rfl⟩)
                    | (go_at_call 22; refine m7.mono ?_; rintro e w4 ⟨rfl, rfl⟩)
                    | (go_at_call 16; refine m8.mono ?_; rintro e w4 ⟨rfl, rfl⟩)
                    | (go_at_call 17; refine m9.mono ?_; rintro e w4 ⟨rfl, rfl⟩)
                    | (go_at_call 23; refine m10.mono ?_; rintro e w4 ⟨rfl, rfl⟩)
                    | (go_at_call 19; refine m11.mono ?_; rintro e w4 ⟨rfl, rfl⟩))
                  clear m3 m4 m5 m6 m7 m8 m9 m10 m11
                  generalize (w3.alloc (.cells #[.int .i64 1] 33)) = wy at *
                  have hzl := zero_lat wy
                  have hCz := HC.out.alloc (.cells Tryz.zeroCells69 69)
                  have HZ := Lib.hid hzl
                  have HCZ := Lib.hid hCz
                  clear hzl hCz HC
                  go_wp2_with fail
                  go_roundw
                  case rel => exact ⟨HZ.out, HCZ.out, k + 1, by omega, by go_num⟩
                  case measure => simp [intOf]; omega
                · obtain rfl : k = 2 := by omega
                  have HC := Lib.hid hC
                  have hwk := works_some wr (HT.out.chg (HD2.out.trans hC) (fun x => x))
                  clear hNo hC k0 hk2
                  go_wp2_with (first | (go_at_call 8; refine hwk.mono ?_; rintro e w3 ⟨rfl, hC3⟩))
                  go_ret
                  exact ⟨rfl, (HD2.out.trans HC.out).trans hC3⟩
end Go.Proofs.YtfmacnkjhboefaaGreatDoor
