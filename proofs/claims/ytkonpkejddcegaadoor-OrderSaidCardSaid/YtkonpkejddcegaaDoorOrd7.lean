/- Covers. -/
import Derived.Test.YtkonpkejddcegaaDoorOrd6
import Derived.WalkSmall
namespace Go.Proofs.YtkonpkejddcegaaDoor
set_option linter.unusedVariables false
set_option linter.unusedSimpArgs false
open Go Go.RowKit Go.Proofs Go.Shelf
theorem infoPair : (Tryd.prog.info? 31).map (fun i => (i.zero, i.size, i.bytes)) = some (some (.agg #[.int .i64 0, .int .i64 0]), 2, 16) := by kernel_rfl
def prs (l : List (Nat × Nat)) : List Value := l.flatMap fun (x : Nat × Nat) => [.int .i64 (x.1 : Int), .int .i64 (x.2 : Int)]
theorem prs_snoc (l : List (Nat × Nat)) (a b : Nat) : prs (l ++ [(a, b)]) = prs l ++ [.int .i64 (a : Int), .int .i64 (b : Int)] := by simp [prs]
/-- does b cover a? -/
def covB (n : Nat) (U D : Nat → Nat → Bool) (a b : Nat) : Bool := (msk n (U a) &&& msk n (D b)) == (2 ^ a ||| 2 ^ b)
/-- those above a, but for a -/
def abv (U : Nat → Nat → Bool) (a : Nat) : Nat → Bool := fun j => U a j && !decide (j = a)
def covRow (n : Nat) (U D : Nat → Nat → Bool) (a : Nat) (l : List Nat) : List (Nat × Nat) := (l.filter (covB n U D a)).map fun b => (a, b)
def covTo (n : Nat) (U D : Nat → Nat → Bool) (k : Nat) : List (Nat × Nat) := (List.range k).flatMap fun a => covRow n U D a (els n (abv U a))
theorem covTo_succ (n : Nat) (U D : Nat → Nat → Bool) (k : Nat) : covTo n U D (k + 1) = covTo n U D k ++ covRow n U D k (els n (abv U k)) := by simp [covTo, List.range_succ]
theorem covRow_len (n : Nat) (U D : Nat → Nat → Bool) (a : Nat) (l : List Nat) : (covRow n U D a l).length ≤ l.length := by
  unfold covRow
  rw [List.length_map]
  exact List.length_filter_le _ _
theorem covTo_len (n : Nat) (U D : Nat → Nat → Bool) (k : Nat) : (covTo n U D k).length ≤ k * n := by
  induction k with
  | zero => simp [covTo]
  | succ k ih =>
    rw [covTo_succ, List.length_append, Nat.succ_mul]
    have h1 := covRow_len n U D k (els n (abv U k))
    have h2 := els_length n (abv U k)
    omega
theorem covRow_snoc (n : Nat) (U D : Nat → Nat → Bool) (a : Nat) (l : List Nat) (b : Nat) : covRow n U D a (l ++ [b]) = covRow n U D a l ++ (if covB n U D a b then [(a, b)] else []) := by
  unfold covRow
  rw [List.filter_append, List.map_append]
  congr 1
  by_cases h : covB n U D a b = true
  · simp [h]
  · simp [h]
theorem andNot_one (n a : Nat) (p : Nat → Bool) (hn : n ≤ 16) (ha : a < 16) : bits BinOp.andNot IntKind.u32 ((msk n p : Nat) : Int) ((2 ^ a : Nat) : Int) = ((msk n (fun j => p j && !decide (j = a)) : Nat) : Int) := by
  have h := msk_lt16 n p hn
  have h2 : 2 ^ a ≤ 2 ^ 15 := Nat.pow_le_pow_right (by omega) (by omega)
  rw [u32_andNot_nat _ _ (by omega) (by omega)]
  congr 1
  refine eq_mk _ _ _ fun j => ?_
  have e : 4294967295 - 2 ^ a = 2 ^ 32 - (2 ^ a + 1) := by omega
  rw [Nat.testBit_and, msk_bit, e, Nat.testBit_two_pow_sub_succ (by omega), Nat.testBit_two_pow]
  by_cases hj : j < n
  · have h3 : j < 32 := by omega
    by_cases e2 : a = j
    · subst e2; simp
    · have e3 : ¬ j = a := fun x => e2 x.symm
      simp [hj, h3, e2, e3]
  · simp [hj]
/-- what a round of the inner loop has -/
def CovI (w : World) (b bu bd cu cd n Ba a : Nat) (U D : Nat → Nat → Bool) (done : List (Nat × Nat)) (pre : List Nat) (W : World) : Prop :=
  (∃ v, W.heap[w.heap.size + 1]? = some (.cells #[v] 22 (0, 0)) ∧ W.ownsRow (w.heap.size + 2) 31 2 v (done ++ covRow n U D a pre).length (prs (done ++ covRow n U D a pre))) ∧
  W.heap[w.heap.size]? = some (.cells #[.pointer (some ⟨b, 0, none⟩)] 24 (0, 0)) ∧ W.heap[Ba]? = some (.cells #[.int .i64 (a : Int)] 3 (0, 0)) ∧ Chg (fun _ => False) w W
def firstRange : Code → Option Code
  | .rangeFunc _ _ _ b => some b
  | .seq a b => (firstRange a).or (firstRange b)
  | .block _ c => firstRange c
  | .loop c => firstRange c
  | .scope c => firstRange c
  | .cond _ a b => (firstRange a).or (firstRange b)
  | _ => none
noncomputable def covBody : Code := (Tryd.f12.body.bind firstRange).getD .skip
set_option maxHeartbeats 2000000 in
theorem cov_round (w : World) (b bu bd cu cd n Ba a l t x : Nat) (U D : Nat → Nat → Bool) (done : List (Nat × Nat)) (W : World) (h : IsOrd w b bu bd cu cd n U D) (ha : a < n) (hx : x < n) (ht : t ≤ n) (hdone : done.length ≤ 16 * 16) (hBa : w.heap.size + 2 ≤ Ba) (Bs : Nat) (hBs : w.heap.size + 2 ≤ Bs)
    (hI : CovI w b bu bd cu cd n Ba a U D done (els t (abv U a)) W) (u5 u6 u7 u8 u9 u10 u11 u12 u13 u14 u15 u16 u17 u18 u19 u20 u21 u22 u23 u24 u25 u26 u27 u28 u29 u30 u31 u32 u33 u34 u35 u36 u37 u38 u39 u40 u41 u42 u43 u44 u45 u46 u47 u48 u49 u50 : Value) :
    covBody.wpIn (Fence.wide.inRound l) 7 Tryd.prog (ownPostK (SetKp Bs) (CovI w b bu bd cu cd n Ba a U D done) (fun _ _ _ => False) (els t (abv U a) ++ [x]) W) ⟨#[.pointer (some ⟨b, 0, none⟩), .pointer (some ⟨w.heap.size, 0, none⟩), .pointer (some ⟨w.heap.size + 1, 0, none⟩), .pointer (some ⟨Ba, 0, none⟩), .int .i64 (x : Int), u5, u6, u7, u8, u9, u10, u11, u12, u13, u14, u15, u16, u17, u18, u19, u20, u21, u22, u23, u24, u25, u26, u27, u28, u29, u30, u31, u32, u33, u34, u35, u36, u37, u38, u39, u40, u41, u42, u43, u44, u45, u46, u47, u48, u49, u50], []⟩ W := by
  obtain ⟨⟨v, i1, hrow⟩, i2, i3, i4⟩ := hI
  have hl := h.lt
  have hO := h.chg i4 (fun _ _ e => e)
  have n16 := h.n16
  have c1 := cell_of_heap i2 0
  have c2 := hO.up
  have c3 := hO.dn
  have c4 := hO.hu a ha
  have c5 := hO.hd x hx
  have c6 := cell_of_heap i3 0
  have c7 := cell_of_heap i1 0
  have c8 := free_of_heap i1 0
  simp at c1 c6 c7
  have hw1 := shl_one a (by omega)
  have hw2 := shl_one x (by omega)
  have p1 : 2 ^ a ≤ 2 ^ 15 := Nat.pow_le_pow_right (by omega) (by omega)
  have p2 : 2 ^ x ≤ 2 ^ 15 := Nat.pow_le_pow_right (by omega) (by omega)
  have hand := u32_and_nat (msk n (U a)) (msk n (D x)) (Nat.lt_of_lt_of_le (msk_lt16 n _ n16) (by omega)) (Nat.lt_of_lt_of_le (msk_lt16 n _ n16) (by omega))
  have hor : bits BinOp.or IntKind.u32 ((2 : Int) ^ a) ((2 : Int) ^ x) = ((2 ^ a ||| 2 ^ x : Nat) : Int) := by
    rw [← u32_or_nat (2 ^ a) (2 ^ x) (by omega) (by omega)]
    simp
  have hcov : ((((msk n (U a) &&& msk n (D x) : Nat) : Int)) == (((2 ^ a ||| 2 ^ x : Nat)) : Int)) = covB n U D a x := by
    unfold covB
    rw [Bool.eq_iff_iff, beq_iff_eq, beq_iff_eq]
    omega
  generalize hN : 2 ^ a ||| 2 ^ x = N at hor hcov
  clear hN p1 p2
  conv => arg 4; whnf
  have hli := covRow_len n U D a (els t (abv U a))
  have hle := els_length t (abv U a)
  obtain ⟨i0, hi, hz0, hz1, hz2⟩ := info_parts infoPair
  have Hrow := Lib.hid hrow
  have I1 := Lib.hid i1
  have I2 := Lib.hid i2
  have I3 := Lib.hid i3
  have I4 := Lib.hid i4
  clear hrow i1 i2 i3 i4 hO h
  generalize hmU : msk n (U a) = mU at *
  generalize hmD : msk n (D x) = mD at *
  cases hcv : covB n U D a x with
  | false =>
    rw [hcv] at hcov
    have Hcv := Lib.hid hcv
    clear hcv
    refine wpIn_block (wpIn_seq_k fun K hK => ?_)
    have hS : W.drew.cell? ⟨w.heap.size, 0, none⟩ = some (.pointer (some ⟨b, 0, none⟩)) ∧ W.drew.cell? ⟨b, 0, none⟩ = some (.slice (some ⟨bu, 0, none⟩) n cu) ∧ W.drew.cell? ⟨b, 1, none⟩ = some (.slice (some ⟨bd, 0, none⟩) n cd) ∧ W.drew.cell? ⟨bu, a, none⟩ = some (.int .u32 (mU : Int)) ∧ W.drew.cell? ⟨bd, x, none⟩ = some (.int .u32 (mD : Int)) ∧ W.drew.cell? ⟨Ba, 0, none⟩ = some (.int .i64 (a : Int)) := ⟨c1, c2, c3, c4, c5, c6⟩
    refine region_in_round (fun W' => W'.cell? ⟨w.heap.size, 0, none⟩ = some (.pointer (some ⟨b, 0, none⟩)) ∧ W'.cell? ⟨b, 0, none⟩ = some (.slice (some ⟨bu, 0, none⟩) n cu) ∧ W'.cell? ⟨b, 1, none⟩ = some (.slice (some ⟨bd, 0, none⟩) n cd) ∧ W'.cell? ⟨bu, a, none⟩ = some (.int .u32 (mU : Int)) ∧ W'.cell? ⟨bd, x, none⟩ = some (.int .u32 (mD : Int)) ∧ W'.cell? ⟨Ba, 0, none⟩ = some (.int .i64 (a : Int))) [] (by kernel_rfl) (by kernel_rfl) (fun ⟨_, _, h⟩ => h) ?_
    refine take_one 0 hS rfl (by kernel_rfl) rfl ?_
    apply Exists.intro
    refine And.intro (fun W' hS' => ?y0) (And.intro (fun _ _ _ h => h) ?_)
    case y0 => obtain ⟨d1, d2, d3, d4, d5, d6⟩ := hS'; go_simp; rfl
    refine take_one 1 hS rfl (by kernel_rfl) rfl ?_
    apply Exists.intro
    refine And.intro (fun W' hS' => ?y1) (And.intro (fun _ _ _ h => h) ?_)
    case y1 => obtain ⟨d1, d2, d3, d4, d5, d6⟩ := hS'; go_simp; rfl
    refine take_one 2 hS rfl (by kernel_rfl) rfl ?_
    apply Exists.intro
    refine And.intro (fun W' hS' => ?y2) (And.intro (fun _ _ _ h => h) ?_)
    case y2 => obtain ⟨d1, d2, d3, d4, d5, d6⟩ := hS'; go_simp; rfl
    refine take_one 3 hS rfl (by kernel_rfl) rfl ?_
    apply Exists.intro
    refine And.intro (fun W' hS' => ?y3) (And.intro (fun _ _ _ h => h) ?_)
    case y3 => obtain ⟨d1, d2, d3, d4, d5, d6⟩ := hS'; go_simp; rfl
    refine take_one 4 hS rfl (by kernel_rfl) rfl ?_
    apply Exists.intro
    refine And.intro (fun W' hS' => ?y4) (And.intro (fun _ _ _ h => h) ?_)
    case y4 => obtain ⟨d1, d2, d3, d4, d5, d6⟩ := hS'; go_simp; rfl
    refine take_one 5 hS rfl (by kernel_rfl) rfl ?_
    apply Exists.intro
    refine And.intro (fun W' hS' => ?y5) (And.intro (fun _ _ _ h => h) ?_)
    case y5 => obtain ⟨d1, d2, d3, d4, d5, d6⟩ := hS'; go_simp; rfl
    refine take_one 6 hS rfl (by kernel_rfl) rfl ?_
    apply Exists.intro
    refine And.intro (fun W' hS' => ?y6) (And.intro (fun _ _ _ h => h) ?_)
    case y6 => obtain ⟨d1, d2, d3, d4, d5, d6⟩ := hS'; go_simp; rfl
    refine take_one 7 hS rfl (by kernel_rfl) rfl ?_
    apply Exists.intro
    refine And.intro (fun W' hS' => ?y7) (And.intro (fun _ _ _ h => h) ?_)
    case y7 => obtain ⟨d1, d2, d3, d4, d5, d6⟩ := hS'; go_simp; rfl
    refine take_one 8 hS rfl (by kernel_rfl) rfl ?_
    apply Exists.intro
    refine And.intro (fun W' hS' => ?y8) (And.intro (fun _ _ _ h => h) ?_)
    case y8 => obtain ⟨d1, d2, d3, d4, d5, d6⟩ := hS'; go_simp; rfl
    refine take_one 9 hS rfl (by kernel_rfl) rfl ?_
    apply Exists.intro
    refine And.intro (fun W' hS' => ?y9) (And.intro (fun _ _ _ h => h) ?_)
    case y9 => obtain ⟨d1, d2, d3, d4, d5, d6⟩ := hS'; go_simp; rfl
    refine take_one 10 hS rfl (by kernel_rfl) rfl ?_
    apply Exists.intro
    refine And.intro (fun W' hS' => ?y10) (And.intro (fun _ _ _ h => h) ?_)
    case y10 => obtain ⟨d1, d2, d3, d4, d5, d6⟩ := hS'; go_simp; rfl
    refine take_one 11 hS rfl (by kernel_rfl) rfl ?_
    apply Exists.intro
    refine And.intro (fun W' hS' => ?y11) (And.intro (fun _ _ _ h => h) ?_)
    case y11 => obtain ⟨d1, d2, d3, d4, d5, d6⟩ := hS'; go_simp; rfl
    refine take_one 12 hS rfl (by kernel_rfl) rfl ?_
    apply Exists.intro
    refine And.intro (fun W' hS' => ?y12) (And.intro (fun _ _ _ h => h) ?_)
    case y12 => obtain ⟨d1, d2, d3, d4, d5, d6⟩ := hS'; go_simp; rfl
    refine take_one 13 hS rfl (by kernel_rfl) rfl ?_
    apply Exists.intro
    refine And.intro (fun W' hS' => ?y13) (And.intro (fun _ _ _ h => h) ?_)
    case y13 => obtain ⟨d1, d2, d3, d4, d5, d6⟩ := hS'; go_simp; rfl
    refine take_one 14 hS rfl (by kernel_rfl) rfl ?_
    apply Exists.intro
    refine And.intro (fun W' hS' => ?y14) (And.intro (fun _ _ _ h => h) ?_)
    case y14 => obtain ⟨d1, d2, d3, d4, d5, d6⟩ := hS'; go_simp; rfl
    refine take_one 15 hS rfl (by kernel_rfl) rfl ?_
    apply Exists.intro
    refine And.intro (fun W' hS' => ?y15) (And.intro (fun _ _ _ h => h) ?_)
    case y15 => obtain ⟨d1, d2, d3, d4, d5, d6⟩ := hS'; go_simp; rfl
    refine take_one 16 hS rfl (by kernel_rfl) rfl ?_
    apply Exists.intro
    refine And.intro (fun W' hS' => ?y16) (And.intro (fun _ _ _ h => h) ?_)
    case y16 => obtain ⟨d1, d2, d3, d4, d5, d6⟩ := hS'; go_simp; rfl
    refine take_one 17 hS rfl (by kernel_rfl) rfl ?_
    apply Exists.intro
    refine And.intro (fun W' hS' => ?y17) (And.intro (fun _ _ _ h => h) ?_)
    case y17 => obtain ⟨d1, d2, d3, d4, d5, d6⟩ := hS'; go_simp; rfl
    refine take_one 18 hS rfl (by kernel_rfl) rfl ?_
    apply Exists.intro
    refine And.intro (fun W' hS' => ?y18) (And.intro (fun _ _ _ h => h) ?_)
    case y18 => obtain ⟨d1, d2, d3, d4, d5, d6⟩ := hS'; go_simp; rfl
    refine take_one 19 hS rfl (by kernel_rfl) rfl ?_
    apply Exists.intro
    refine And.intro (fun W' hS' => ?y19) (And.intro (fun _ _ _ h => h) ?_)
    case y19 => obtain ⟨d1, d2, d3, d4, d5, d6⟩ := hS'; go_simp; rfl
    refine take_one 20 hS rfl (by kernel_rfl) rfl ?_
    apply Exists.intro
    refine And.intro (fun W' hS' => ?y20) (And.intro (fun _ _ _ h => h) ?_)
    case y20 => obtain ⟨d1, d2, d3, d4, d5, d6⟩ := hS'; go_simp; rfl
    refine all_done (by kernel_rfl) ?_ _
    go_simp
    refine hK _ _ ?_
    clear hK K
    gi_wp2
    refine ⟨KeepsOthers.drew _, ⟨fun _ e => e, fun h => h.block fun _ _ _ e => e⟩, ⟨v, I1.out, ?_⟩, I2.out, I3.out, I4.out.drew⟩
    rw [covRow_snoc, Hcv.out]
    simp only [Bool.false_eq_true, if_false, List.append_nil]
    exact own_keep Hrow.out fun _ _ _ _ _ e => e
  | true =>
    rw [hcv] at hcov
    have Hcv := Lib.hid hcv
    clear hcv
    refine wpIn_block (wpIn_seq_k fun K hK => ?_)
    have hS : W.drew.cell? ⟨w.heap.size, 0, none⟩ = some (.pointer (some ⟨b, 0, none⟩)) ∧ W.drew.cell? ⟨b, 0, none⟩ = some (.slice (some ⟨bu, 0, none⟩) n cu) ∧ W.drew.cell? ⟨b, 1, none⟩ = some (.slice (some ⟨bd, 0, none⟩) n cd) ∧ W.drew.cell? ⟨bu, a, none⟩ = some (.int .u32 (mU : Int)) ∧ W.drew.cell? ⟨bd, x, none⟩ = some (.int .u32 (mD : Int)) ∧ W.drew.cell? ⟨Ba, 0, none⟩ = some (.int .i64 (a : Int)) := ⟨c1, c2, c3, c4, c5, c6⟩
    refine region_in_round (fun W' => W'.cell? ⟨w.heap.size, 0, none⟩ = some (.pointer (some ⟨b, 0, none⟩)) ∧ W'.cell? ⟨b, 0, none⟩ = some (.slice (some ⟨bu, 0, none⟩) n cu) ∧ W'.cell? ⟨b, 1, none⟩ = some (.slice (some ⟨bd, 0, none⟩) n cd) ∧ W'.cell? ⟨bu, a, none⟩ = some (.int .u32 (mU : Int)) ∧ W'.cell? ⟨bd, x, none⟩ = some (.int .u32 (mD : Int)) ∧ W'.cell? ⟨Ba, 0, none⟩ = some (.int .i64 (a : Int))) [] (by kernel_rfl) (by kernel_rfl) (fun ⟨_, _, h⟩ => h) ?_
    refine take_one 0 hS rfl (by kernel_rfl) rfl ?_
    apply Exists.intro
    refine And.intro (fun W' hS' => ?y0) (And.intro (fun _ _ _ h => h) ?_)
    case y0 => obtain ⟨d1, d2, d3, d4, d5, d6⟩ := hS'; go_simp; rfl
    refine take_one 1 hS rfl (by kernel_rfl) rfl ?_
    apply Exists.intro
    refine And.intro (fun W' hS' => ?y1) (And.intro (fun _ _ _ h => h) ?_)
    case y1 => obtain ⟨d1, d2, d3, d4, d5, d6⟩ := hS'; go_simp; rfl
    refine take_one 2 hS rfl (by kernel_rfl) rfl ?_
    apply Exists.intro
    refine And.intro (fun W' hS' => ?y2) (And.intro (fun _ _ _ h => h) ?_)
    case y2 => obtain ⟨d1, d2, d3, d4, d5, d6⟩ := hS'; go_simp; rfl
    refine take_one 3 hS rfl (by kernel_rfl) rfl ?_
    apply Exists.intro
    refine And.intro (fun W' hS' => ?y3) (And.intro (fun _ _ _ h => h) ?_)
    case y3 => obtain ⟨d1, d2, d3, d4, d5, d6⟩ := hS'; go_simp; rfl
    refine take_one 4 hS rfl (by kernel_rfl) rfl ?_
    apply Exists.intro
    refine And.intro (fun W' hS' => ?y4) (And.intro (fun _ _ _ h => h) ?_)
    case y4 => obtain ⟨d1, d2, d3, d4, d5, d6⟩ := hS'; go_simp; rfl
    refine take_one 5 hS rfl (by kernel_rfl) rfl ?_
    apply Exists.intro
    refine And.intro (fun W' hS' => ?y5) (And.intro (fun _ _ _ h => h) ?_)
    case y5 => obtain ⟨d1, d2, d3, d4, d5, d6⟩ := hS'; go_simp; rfl
    refine take_one 6 hS rfl (by kernel_rfl) rfl ?_
    apply Exists.intro
    refine And.intro (fun W' hS' => ?y6) (And.intro (fun _ _ _ h => h) ?_)
    case y6 => obtain ⟨d1, d2, d3, d4, d5, d6⟩ := hS'; go_simp; rfl
    refine take_one 7 hS rfl (by kernel_rfl) rfl ?_
    apply Exists.intro
    refine And.intro (fun W' hS' => ?y7) (And.intro (fun _ _ _ h => h) ?_)
    case y7 => obtain ⟨d1, d2, d3, d4, d5, d6⟩ := hS'; go_simp; rfl
    refine take_one 8 hS rfl (by kernel_rfl) rfl ?_
    apply Exists.intro
    refine And.intro (fun W' hS' => ?y8) (And.intro (fun _ _ _ h => h) ?_)
    case y8 => obtain ⟨d1, d2, d3, d4, d5, d6⟩ := hS'; go_simp; rfl
    refine take_one 9 hS rfl (by kernel_rfl) rfl ?_
    apply Exists.intro
    refine And.intro (fun W' hS' => ?y9) (And.intro (fun _ _ _ h => h) ?_)
    case y9 => obtain ⟨d1, d2, d3, d4, d5, d6⟩ := hS'; go_simp; rfl
    refine take_one 10 hS rfl (by kernel_rfl) rfl ?_
    apply Exists.intro
    refine And.intro (fun W' hS' => ?y10) (And.intro (fun _ _ _ h => h) ?_)
    case y10 => obtain ⟨d1, d2, d3, d4, d5, d6⟩ := hS'; go_simp; rfl
    refine take_one 11 hS rfl (by kernel_rfl) rfl ?_
    apply Exists.intro
    refine And.intro (fun W' hS' => ?y11) (And.intro (fun _ _ _ h => h) ?_)
    case y11 => obtain ⟨d1, d2, d3, d4, d5, d6⟩ := hS'; go_simp; rfl
    refine take_one 12 hS rfl (by kernel_rfl) rfl ?_
    apply Exists.intro
    refine And.intro (fun W' hS' => ?y12) (And.intro (fun _ _ _ h => h) ?_)
    case y12 => obtain ⟨d1, d2, d3, d4, d5, d6⟩ := hS'; go_simp; rfl
    refine take_one 13 hS rfl (by kernel_rfl) rfl ?_
    apply Exists.intro
    refine And.intro (fun W' hS' => ?y13) (And.intro (fun _ _ _ h => h) ?_)
    case y13 => obtain ⟨d1, d2, d3, d4, d5, d6⟩ := hS'; go_simp; rfl
    refine take_one 14 hS rfl (by kernel_rfl) rfl ?_
    apply Exists.intro
    refine And.intro (fun W' hS' => ?y14) (And.intro (fun _ _ _ h => h) ?_)
    case y14 => obtain ⟨d1, d2, d3, d4, d5, d6⟩ := hS'; go_simp; rfl
    refine take_one 15 hS rfl (by kernel_rfl) rfl ?_
    apply Exists.intro
    refine And.intro (fun W' hS' => ?y15) (And.intro (fun _ _ _ h => h) ?_)
    case y15 => obtain ⟨d1, d2, d3, d4, d5, d6⟩ := hS'; go_simp; rfl
    refine take_one 16 hS rfl (by kernel_rfl) rfl ?_
    apply Exists.intro
    refine And.intro (fun W' hS' => ?y16) (And.intro (fun _ _ _ h => h) ?_)
    case y16 => obtain ⟨d1, d2, d3, d4, d5, d6⟩ := hS'; go_simp; rfl
    refine take_one 17 hS rfl (by kernel_rfl) rfl ?_
    apply Exists.intro
    refine And.intro (fun W' hS' => ?y17) (And.intro (fun _ _ _ h => h) ?_)
    case y17 => obtain ⟨d1, d2, d3, d4, d5, d6⟩ := hS'; go_simp; rfl
    refine take_one 18 hS rfl (by kernel_rfl) rfl ?_
    apply Exists.intro
    refine And.intro (fun W' hS' => ?y18) (And.intro (fun _ _ _ h => h) ?_)
    case y18 => obtain ⟨d1, d2, d3, d4, d5, d6⟩ := hS'; go_simp; rfl
    refine take_one 19 hS rfl (by kernel_rfl) rfl ?_
    apply Exists.intro
    refine And.intro (fun W' hS' => ?y19) (And.intro (fun _ _ _ h => h) ?_)
    case y19 => obtain ⟨d1, d2, d3, d4, d5, d6⟩ := hS'; go_simp; rfl
    refine take_one 20 hS rfl (by kernel_rfl) rfl ?_
    apply Exists.intro
    refine And.intro (fun W' hS' => ?y20) (And.intro (fun _ _ _ h => h) ?_)
    case y20 => obtain ⟨d1, d2, d3, d4, d5, d6⟩ := hS'; go_simp; rfl
    refine all_done (by kernel_rfl) ?_ _
    go_simp
    refine hK _ _ ?_
    clear hK K
    have hsz := I4.out.size
    have k1 := lt_of_heap I1.out
    refine wpIn_cond (t := true) rfl ?_
    simp only [if_true]
    refine region_round_lit (by kernel_rfl) (fun ⟨_, _, h⟩ => h) ?_
    have hrow' : W.drew.ownsRow (w.heap.size + 2) 31 2 v (done ++ covRow n U D a (els t (abv U a))).length (prs (done ++ covRow n U D a (els t (abv U a)))) := own_keep Hrow.out fun _ _ _ _ _ e => e
    go_wp2_with (at_builtin; refine wpList_append_own_at _ rfl _ _ 22 rfl (w.heap.size + 2) 31 i0 (.agg #[.int .i64 0, .int .i64 0]) 2 16 Tryd.underlying22 hi hz0 hz1 hz2 rfl (by decide) _ _ _ rfl (hrow'.alloc _) ⟨W.heap.size, 0, none⟩ 1 1 [.int .i64 (a : Int), .int .i64 (x : Int)] rfl rfl ?c1 ?c2 ?c3 ?c4 ?c5 ?_)
    case c1 => exact cell_two_new _ _ _ _
    case c2 => simp [Value.oneCell']
    case c3 => unfold maxLen; simp; omega
    case c4 => simp; omega
    case c5 => simp; omega
    intro v' w1 hown' hgrow hnil hat
    have hko := grown_others (W := W.drew) hrow' hgrow
    have hgo := fun k c t f hk ht => grown_other (W := W.drew) hrow' hgrow (k := k) (c := c) (t := t) (f := f) hk ht
    have hsm := grown_same (W := W.drew) hrow' hgrow
    have HSM := Lib.hid hsm
    have hrb := fun k (hk : v.ownBlock = some k) => own_block hrow' hk
    have hb1 := hgo _ _ _ _ I1.out (by decide)
    have hb2 := hgo _ _ _ _ I2.out (by decide)
    have hb3 := hgo _ _ _ _ I3.out (by decide)
    have hc1 : Chg (fun _ => False) w w1 := ((I4.out.drew).alloc _).grown hgrow (fun k e => .inr (by have := hrb _ e; omega))
    have c1' := cell_of_heap hb1 0
    have c2' := free_of_heap hb1 0
    simp at c1'
    have HO := Lib.hid hown'
    have HB1 := Lib.hid hb1
    have HB2 := Lib.hid hb2
    have HB3 := Lib.hid hb3
    have HC1 := Lib.hid hc1
    have HKO := Lib.hid hko
    have HGO := Lib.hid hgo
    obtain ⟨g', cap', rfl⟩ := ownsRow_succ hown'
    clear hgrow hown' hb1 hb2 hb3 hc1 hrb hat hrow' hko hgo hnil hsm
    go_wp2
    refine ⟨(KeepsOthers.drew W).trans (HKO.out.trans (KeepsOthers.setCell _ _ _)), ⟨fun c e => heap_setCell (HGO.out _ _ _ _ e (by decide)) (by simp; omega) _, fun h => h.block fun c t f e => ?_⟩, ⟨.slice (some ⟨g', 0, none⟩) ((done ++ covRow n U D a (els t (abv U a))).length + 1) cap', ?_, ?_⟩, heap_setCell HB2.out (by simp) _, heap_setCell HB3.out (by simp; omega) _, HC1.out.setCell (.inr (by simp)) _⟩
    · exact heap_setCell ((HSM.out _ (lt_of_heap e) (by omega)).trans e) (by simp) _
    · rw [heap_setCell_cells HB1.out, List.length_append]; rfl
    · rw [covRow_snoc, Hcv.out]
      simp only [if_true]
      rw [← List.append_assoc, prs_snoc]
      simp only [List.length_append, List.length_cons, List.length_nil, Nat.zero_add]
      exact own_keep HO.out fun k c t f hk h => heap_setCell h (by simp; omega) _
end Go.Proofs.YtkonpkejddcegaaDoor
