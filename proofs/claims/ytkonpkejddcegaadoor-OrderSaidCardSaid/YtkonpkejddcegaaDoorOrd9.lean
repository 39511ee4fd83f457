/- Line: a round. -/
import Derived.Test.YtkonpkejddcegaaDoorOrd8
namespace Go.Proofs.YtkonpkejddcegaaDoor
set_option linter.unusedVariables false
set_option linter.unusedSimpArgs false
open Go Go.RowKit Go.Proofs Go.Shelf
/-- is a the one of p that nothing of p lies below? -/
def minB (n : Nat) (D : Nat → Nat → Bool) (p : Nat → Bool) (a : Nat) : Bool := (msk n (D a) &&& msk n p) == 2 ^ a
def del (p : Nat → Bool) (a : Nat) : Nat → Bool := fun j => p j && !decide (j = a)
/-- how Line stands: what it has put out, what is left -/
def LinI (w : World) (b : Nat) (n : Nat) (l : List Nat) (p : Nat → Bool) (W : World) : Prop :=
  (∃ v, W.heap[w.heap.size + 1]? = some (.cells #[v] 34 (0, 0)) ∧ W.ownsRow (w.heap.size + 3) 3 1 v l.length (nints l)) ∧
  W.heap[w.heap.size]? = some (.cells #[.pointer (some ⟨b, 0, none⟩)] 24 (0, 0)) ∧ W.heap[w.heap.size + 2]? = some (.cells #[.int .u32 (msk n p : Nat)] 49 (0, 0)) ∧ Chg (fun _ => False) w W
noncomputable def linBody : Code := (Tryd.f14.body.bind firstRange).getD .skip
def LinIx (w : World) (b n : Nat) (D : Nat → Nat → Bool) (l : List Nat) (p : Nat → Bool) (c : Code) (pre : List Nat) (W : World) : Prop :=
  c = .exit 2 ∧ ∃ t x, t ≤ x ∧ pre = els t p ++ [x] ∧ (∀ j, j < t → p j = true → minB n D p j = false) ∧ p x = true ∧ x < n ∧ (∀ j, j < x → t ≤ j → p j = false) ∧ minB n D p x = true ∧ LinI w b n (l ++ [x]) (del p x) W
set_option maxHeartbeats 2000000 in
theorem lin_round (w : World) (b bu bd cu cd n l0 t x : Nat) (U D : Nat → Nat → Bool) (l : List Nat) (p : Nat → Bool) (W : World) (h : IsOrd w b bu bd cu cd n U D) (hx : x < n) (hpx : p x = true) (ht : t ≤ x) (hlow : ∀ j, j < x → t ≤ j → p j = false) (hl : l.length ≤ 16) (Bs : Nat) (hBs : w.heap.size + 3 ≤ Bs)
    (hI : LinI w b n l p W) (hmin : ∀ j, j < t → p j = true → minB n D p j = false) (u5 u6 u7 u8 u9 u10 u11 u12 u13 u14 u15 u16 u17 u18 u19 u20 u21 u22 u23 u24 u25 u26 u27 u28 u29 u30 u31 u32 u33 u34 : Value) :
    linBody.wpIn (Fence.wide.inRound l0) 7 Tryd.prog (ownPostK (SetKp Bs) (fun pre W => LinI w b n l p W ∧ ∀ j, j ∈ pre → minB n D p j = false) (fun c pre W' => LinIx w b n D l p c pre W' ∧ ∀ c', W.heap[Bs]? = some (.cells c' 49 (0, 0)) → W'.heap[Bs]? = some (.cells c' 49 (0, 0))) (els t p ++ [x]) W) ⟨#[.pointer (some ⟨b, 0, none⟩), .pointer (some ⟨w.heap.size, 0, none⟩), .pointer (some ⟨w.heap.size + 1, 0, none⟩), .pointer (some ⟨w.heap.size + 2, 0, none⟩), .int .i64 (x : Int), u5, u6, u7, u8, u9, u10, u11, u12, u13, u14, u15, u16, u17, u18, u19, u20, u21, u22, u23, u24, u25, u26, u27, u28, u29, u30, u31, u32, u33, u34], []⟩ W := by
  obtain ⟨⟨v, i1, hrow⟩, i2, i3, i4⟩ := hI
  have hlt := h.lt
  have hO := h.chg i4 (fun _ _ e => e)
  have n16 := h.n16
  have c1 := cell_of_heap i2 0
  have c3 := hO.dn
  have c5 := hO.hd x hx
  have c7 := cell_of_heap i1 0
  have c8 := free_of_heap i1 0
  have c9 := cell_of_heap i3 0
  have c10 := free_of_heap i3 0
  simp at c1 c7 c9
  have hand := u32_and_nat (msk n (D x)) (msk n p) (Nat.lt_of_lt_of_le (msk_lt16 n _ n16) (by omega)) (Nat.lt_of_lt_of_le (msk_lt16 n _ n16) (by omega))
  have hw1 := shl_one x (by omega)
  have hmb : ((((msk n (D x) &&& msk n p : Nat) : Int)) == ((2 : Int) ^ x)) = minB n D p x := by
    have e : ((2 : Int) ^ x) = ((2 ^ x : Nat) : Int) := by simp
    unfold minB
    rw [e, Bool.eq_iff_iff, beq_iff_eq, beq_iff_eq]
    omega
  have hdel : bits BinOp.andNot IntKind.u32 ((msk n p : Nat) : Int) ((2 : Int) ^ x) = ((msk n (del p x) : Nat) : Int) := by
    have e := andNot_one n x p n16 (by omega)
    simp at e
    exact e
  obtain ⟨i0, hi, hz0, hz1, hz2⟩ := info_parts infoInt
  obtain ⟨sa, sl, sc, hv⟩ := own_slice hrow
  have Hrow := Lib.hid hrow
  have I1 := Lib.hid i1
  have I2 := Lib.hid i2
  have I3 := Lib.hid i3
  have I4 := Lib.hid i4
  have Hmin := Lib.hid hmin
  have Hlow := Lib.hid hlow
  have Hpx := Lib.hid hpx
  clear hrow i1 i2 i3 i4 hO h hmin hlow hpx
  conv => arg 4; whnf
  generalize hmP : msk n p = mP at *
  generalize hmD : msk n (D x) = mD at *
  have HmP := Lib.hid hmP
  clear hmP hmD
  cases hcv : minB n D p x with
  | false =>
    rw [hcv] at hmb
    have Hcv := Lib.hid hcv
    clear hcv hv
    refine wpIn_block (wpIn_seq_k fun K hK => ?_)
    have hS : W.drew.cell? ⟨w.heap.size, 0, none⟩ = some (.pointer (some ⟨b, 0, none⟩)) ∧ W.drew.cell? ⟨b, 1, none⟩ = some (.slice (some ⟨bd, 0, none⟩) n cd) ∧ W.drew.cell? ⟨bd, x, none⟩ = some (.int .u32 (mD : Int)) ∧ W.drew.cell? ⟨w.heap.size + 2, 0, none⟩ = some (.int .u32 (mP : Int)) := ⟨c1, c3, c5, c9⟩
    refine region_in_round (fun W' => W'.cell? ⟨w.heap.size, 0, none⟩ = some (.pointer (some ⟨b, 0, none⟩)) ∧ W'.cell? ⟨b, 1, none⟩ = some (.slice (some ⟨bd, 0, none⟩) n cd) ∧ W'.cell? ⟨bd, x, none⟩ = some (.int .u32 (mD : Int)) ∧ W'.cell? ⟨w.heap.size + 2, 0, none⟩ = some (.int .u32 (mP : Int))) [] (by kernel_rfl) (by kernel_rfl) (fun ⟨_, _, h⟩ => h) ?_
    refine take_one 0 hS rfl (by kernel_rfl) rfl ?_
    apply Exists.intro
    refine And.intro (fun W' hS' => ?y0) (And.intro (fun _ _ _ h => h) ?_)
    case y0 => obtain ⟨d1, d2, d3, d4⟩ := hS'; go_simp; rfl
    refine take_one 1 hS rfl (by kernel_rfl) rfl ?_
    apply Exists.intro
    refine And.intro (fun W' hS' => ?y1) (And.intro (fun _ _ _ h => h) ?_)
    case y1 => obtain ⟨d1, d2, d3, d4⟩ := hS'; go_simp; rfl
    refine take_one 2 hS rfl (by kernel_rfl) rfl ?_
    apply Exists.intro
    refine And.intro (fun W' hS' => ?y2) (And.intro (fun _ _ _ h => h) ?_)
    case y2 => obtain ⟨d1, d2, d3, d4⟩ := hS'; go_simp; rfl
    refine take_one 3 hS rfl (by kernel_rfl) rfl ?_
    apply Exists.intro
    refine And.intro (fun W' hS' => ?y3) (And.intro (fun _ _ _ h => h) ?_)
    case y3 => obtain ⟨d1, d2, d3, d4⟩ := hS'; go_simp; rfl
    refine take_one 4 hS rfl (by kernel_rfl) rfl ?_
    apply Exists.intro
    refine And.intro (fun W' hS' => ?y4) (And.intro (fun _ _ _ h => h) ?_)
    case y4 => obtain ⟨d1, d2, d3, d4⟩ := hS'; go_simp; rfl
    refine take_one 5 hS rfl (by kernel_rfl) rfl ?_
    apply Exists.intro
    refine And.intro (fun W' hS' => ?y5) (And.intro (fun _ _ _ h => h) ?_)
    case y5 => obtain ⟨d1, d2, d3, d4⟩ := hS'; go_simp; rfl
    refine take_one 6 hS rfl (by kernel_rfl) rfl ?_
    apply Exists.intro
    refine And.intro (fun W' hS' => ?y6) (And.intro (fun _ _ _ h => h) ?_)
    case y6 => obtain ⟨d1, d2, d3, d4⟩ := hS'; go_simp; rfl
    refine take_one 7 hS rfl (by kernel_rfl) rfl ?_
    apply Exists.intro
    refine And.intro (fun W' hS' => ?y7) (And.intro (fun _ _ _ h => h) ?_)
    case y7 => obtain ⟨d1, d2, d3, d4⟩ := hS'; go_simp; rfl
    refine take_one 8 hS rfl (by kernel_rfl) rfl ?_
    apply Exists.intro
    refine And.intro (fun W' hS' => ?y8) (And.intro (fun _ _ _ h => h) ?_)
    case y8 => obtain ⟨d1, d2, d3, d4⟩ := hS'; go_simp; rfl
    refine take_one 9 hS rfl (by kernel_rfl) rfl ?_
    apply Exists.intro
    refine And.intro (fun W' hS' => ?y9) (And.intro (fun _ _ _ h => h) ?_)
    case y9 => obtain ⟨d1, d2, d3, d4⟩ := hS'; go_simp; rfl
    refine take_one 10 hS rfl (by kernel_rfl) rfl ?_
    apply Exists.intro
    refine And.intro (fun W' hS' => ?y10) (And.intro (fun _ _ _ h => h) ?_)
    case y10 => obtain ⟨d1, d2, d3, d4⟩ := hS'; go_simp; rfl
    refine take_one 11 hS rfl (by kernel_rfl) rfl ?_
    apply Exists.intro
    refine And.intro (fun W' hS' => ?y11) (And.intro (fun _ _ _ h => h) ?_)
    case y11 => obtain ⟨d1, d2, d3, d4⟩ := hS'; go_simp; rfl
    refine all_done (by kernel_rfl) ?_ _
    go_simp
    refine hK _ _ ?_
    clear hK K
    gi_wp2
    refine ⟨KeepsOthers.drew _, ⟨fun _ e => e, fun h => h.block fun _ _ _ e => e⟩, ⟨⟨v, I1.out, own_keep Hrow.out fun _ _ _ _ _ e => e⟩, I2.out, by rw [HmP.out]; exact I3.out, I4.out.drew⟩, fun j hj => ?_⟩
    rcases List.mem_append.1 hj with hj | hj
    · unfold els at hj
      rw [List.mem_filter, List.mem_range] at hj
      exact Hmin.out j hj.1 hj.2
    · rw [List.mem_singleton.1 hj]; exact Hcv.out
  | true =>
    rw [hcv] at hmb
    have Hcv := Lib.hid hcv
    clear hcv
    refine wpIn_block (wpIn_seq_k fun K hK => ?_)
    have hS : W.drew.cell? ⟨w.heap.size, 0, none⟩ = some (.pointer (some ⟨b, 0, none⟩)) ∧ W.drew.cell? ⟨b, 1, none⟩ = some (.slice (some ⟨bd, 0, none⟩) n cd) ∧ W.drew.cell? ⟨bd, x, none⟩ = some (.int .u32 (mD : Int)) ∧ W.drew.cell? ⟨w.heap.size + 2, 0, none⟩ = some (.int .u32 (mP : Int)) := ⟨c1, c3, c5, c9⟩
    refine region_in_round (fun W' => W'.cell? ⟨w.heap.size, 0, none⟩ = some (.pointer (some ⟨b, 0, none⟩)) ∧ W'.cell? ⟨b, 1, none⟩ = some (.slice (some ⟨bd, 0, none⟩) n cd) ∧ W'.cell? ⟨bd, x, none⟩ = some (.int .u32 (mD : Int)) ∧ W'.cell? ⟨w.heap.size + 2, 0, none⟩ = some (.int .u32 (mP : Int))) [] (by kernel_rfl) (by kernel_rfl) (fun ⟨_, _, h⟩ => h) ?_
    refine take_one 0 hS rfl (by kernel_rfl) rfl ?_
    apply Exists.intro
    refine And.intro (fun W' hS' => ?y0) (And.intro (fun _ _ _ h => h) ?_)
    case y0 => obtain ⟨d1, d2, d3, d4⟩ := hS'; go_simp; rfl
    refine take_one 1 hS rfl (by kernel_rfl) rfl ?_
    apply Exists.intro
    refine And.intro (fun W' hS' => ?y1) (And.intro (fun _ _ _ h => h) ?_)
    case y1 => obtain ⟨d1, d2, d3, d4⟩ := hS'; go_simp; rfl
    refine take_one 2 hS rfl (by kernel_rfl) rfl ?_
    apply Exists.intro
    refine And.intro (fun W' hS' => ?y2) (And.intro (fun _ _ _ h => h) ?_)
    case y2 => obtain ⟨d1, d2, d3, d4⟩ := hS'; go_simp; rfl
    refine take_one 3 hS rfl (by kernel_rfl) rfl ?_
    apply Exists.intro
    refine And.intro (fun W' hS' => ?y3) (And.intro (fun _ _ _ h => h) ?_)
    case y3 => obtain ⟨d1, d2, d3, d4⟩ := hS'; go_simp; rfl
    refine take_one 4 hS rfl (by kernel_rfl) rfl ?_
    apply Exists.intro
    refine And.intro (fun W' hS' => ?y4) (And.intro (fun _ _ _ h => h) ?_)
    case y4 => obtain ⟨d1, d2, d3, d4⟩ := hS'; go_simp; rfl
    refine take_one 5 hS rfl (by kernel_rfl) rfl ?_
    apply Exists.intro
    refine And.intro (fun W' hS' => ?y5) (And.intro (fun _ _ _ h => h) ?_)
    case y5 => obtain ⟨d1, d2, d3, d4⟩ := hS'; go_simp; rfl
    refine take_one 6 hS rfl (by kernel_rfl) rfl ?_
    apply Exists.intro
    refine And.intro (fun W' hS' => ?y6) (And.intro (fun _ _ _ h => h) ?_)
    case y6 => obtain ⟨d1, d2, d3, d4⟩ := hS'; go_simp; rfl
    refine take_one 7 hS rfl (by kernel_rfl) rfl ?_
    apply Exists.intro
    refine And.intro (fun W' hS' => ?y7) (And.intro (fun _ _ _ h => h) ?_)
    case y7 => obtain ⟨d1, d2, d3, d4⟩ := hS'; go_simp; rfl
    refine take_one 8 hS rfl (by kernel_rfl) rfl ?_
    apply Exists.intro
    refine And.intro (fun W' hS' => ?y8) (And.intro (fun _ _ _ h => h) ?_)
    case y8 => obtain ⟨d1, d2, d3, d4⟩ := hS'; go_simp; rfl
    refine take_one 9 hS rfl (by kernel_rfl) rfl ?_
    apply Exists.intro
    refine And.intro (fun W' hS' => ?y9) (And.intro (fun _ _ _ h => h) ?_)
    case y9 => obtain ⟨d1, d2, d3, d4⟩ := hS'; go_simp; rfl
    refine take_one 10 hS rfl (by kernel_rfl) rfl ?_
    apply Exists.intro
    refine And.intro (fun W' hS' => ?y10) (And.intro (fun _ _ _ h => h) ?_)
    case y10 => obtain ⟨d1, d2, d3, d4⟩ := hS'; go_simp; rfl
    refine take_one 11 hS rfl (by kernel_rfl) rfl ?_
    apply Exists.intro
    refine And.intro (fun W' hS' => ?y11) (And.intro (fun _ _ _ h => h) ?_)
    case y11 => obtain ⟨d1, d2, d3, d4⟩ := hS'; go_simp; rfl
    refine all_done (by kernel_rfl) ?_ _
    go_simp
    refine hK _ _ ?_
    clear hK K
    refine wpIn_cond (t := true) rfl ?_
    simp only [if_true]
    refine wpIn_seq_k fun K hK => ?_
    have hS6 : W.drew.drew.cell? ⟨w.heap.size + 2, 0, none⟩ = some (.int .u32 (mP : Int)) := c9
    refine region_in_round (fun W' => W'.cell? ⟨w.heap.size + 2, 0, none⟩ = some (.int .u32 (mP : Int))) [9] (by kernel_rfl) (by kernel_rfl) (fun ⟨_, _, h⟩ => h) ?_
    refine take_one 1 hS6 rfl (by kernel_rfl) rfl ?_
    apply Exists.intro
    refine And.intro (fun W' hS' => ?z1) (And.intro (fun _ _ _ h => h) ?_)
    case z1 => have d1 := hS'; go_simp; rfl
    refine take_one 4 hS6 rfl (by kernel_rfl) rfl ?_
    apply Exists.intro
    refine And.intro (fun W' hS' => ?z4) (And.intro (fun _ _ _ h => h) ?_)
    case z4 => have d1 := hS'; go_simp; rfl
    refine take_one 5 hS6 rfl (by kernel_rfl) rfl ?_
    apply Exists.intro
    refine And.intro (fun W' hS' => ?z5) (And.intro (fun _ _ _ h => h) ?_)
    case z5 => have d1 := hS'; go_simp; rfl
    refine take_one 6 hS6 rfl (by kernel_rfl) rfl ?_
    apply Exists.intro
    refine And.intro (fun W' hS' => ?z6) (And.intro (fun _ _ _ h => h) ?_)
    case z6 => have d1 := hS'; go_simp; rfl
    refine take_one 7 hS6 rfl (by kernel_rfl) rfl ?_
    apply Exists.intro
    refine And.intro (fun W' hS' => ?z7) (And.intro (fun _ _ _ h => h) ?_)
    case z7 => have d1 := hS'; go_simp; rfl
    have hcell : (W.alloc (.cells #[.int .i64 (x : Int)] 3)).cell? ⟨w.heap.size + 2, 0, none⟩ = some (.int .u32 (mP : Int)) := cell_alloc c9 _
    subst hv
    have hcell2 : (W.alloc (.cells #[.int .i64 (x : Int)] 3)).cell? ⟨w.heap.size + 1, 0, none⟩ = some (.slice sa sl sc) := cell_alloc c7 _
    refine one_of_two 0 2 rfl rfl (by kernel_rfl) rfl rfl ?_ ?_
    · go_simp
      refine only_one 2 rfl (by kernel_rfl) rfl ?_
      go_simp
      have hrowA : ((W.alloc (.cells #[.int .i64 (x : Int)] 3)).drew.drew).ownsRow (w.heap.size + 3) 3 1 (.slice sa sl sc) l.length (nints l) := own_keep Hrow.out fun _ _ _ _ _ e => heap_alloc e
      refine only_one 3 rfl (by kernel_rfl) rfl ?_
      refine wp_append (.tmp 26) (.tmp 28) 34 rfl (w.heap.size + 3) 3 i0 (.int .i64 0) 1 8 Tryd.underlying34 hi hz0 hz1 hz2 rfl (by decide) _ _ _ rfl hrowA ⟨W.heap.size, 0, none⟩ 1 1 [.int .i64 (x : Int)] rfl rfl ?c1 ?c2 ?c3 ?c4 ?c5 ?_
      case c1 => exact cell_one_new W (.int .i64 (x : Int)) 3
      case c2 => simp [Value.oneCell']
      case c3 => unfold maxLen; omega
      case c4 => omega
      case c5 => have := I4.out.size; have := lt_of_heap I3.out; simp; omega
      intro v' w1 hown' hgrow
      have hro : W.ownsRow (w.heap.size + 3) 3 1 (.slice sa sl sc) l.length (nints l) := Hrow.out
      have hgrow2 : (W.alloc (.cells #[.int .i64 (x : Int)] 3)).grownBy w1 (Value.slice sa sl sc).ownBlock := ⟨hgrow.os, hgrow.tape, hgrow.output, hgrow.size, hgrow.block⟩
      have hko := grown_others hro hgrow2
      have hsm := grown_same hro hgrow2
      have hgo := fun k c t f hk ht => grown_other hro hgrow2 (k := k) (c := c) (t := t) (f := f) hk ht
      have hrb := fun k (hk : (Value.slice sa sl sc).ownBlock = some k) => own_block hro hk
      have hb1 := hgo _ _ _ _ I1.out (by decide)
      have hb2 := hgo _ _ _ _ I2.out (by decide)
      have hb3 := hgo _ _ _ _ I3.out (by decide)
      have hc1 : Chg (fun _ => False) w w1 := (I4.out.alloc _).grown hgrow2 (fun k e => .inr (by have := hrb _ e; omega))
      have d1 := cell_of_heap hb1 0
      have d2 := free_of_heap hb1 0
      have d3 := cell_of_heap hb3 0
      have d4 := free_of_heap hb3 0
      simp at d1 d3
      have HO := Lib.hid hown'
      have HB1 := Lib.hid hb1
      have HB2 := Lib.hid hb2
      have HB3 := Lib.hid hb3
      have HC1 := Lib.hid hc1
      have HKO := Lib.hid hko
      have HGO := Lib.hid hgo
      have HSM := Lib.hid hsm
      refine ⟨fun _ => d3, ?_⟩
      obtain ⟨g', cap', rfl⟩ := ownsRow_succ hown'
      clear hgrow hgrow2 hown' hb1 hb2 hb3 hc1 hrb hrowA hko hgo hsm hro hcell hcell2 hS hS6 c1 c3 c5 c7 c8 c9 c10
      refine only_one 8 rfl (by kernel_rfl) rfl ?_
      go_simp
      refine only_one 9 rfl (by kernel_rfl) rfl ?_
      go_simp
      refine all_done (by kernel_rfl) ?_ _
      refine hK _ _ ?_
      clear hK K
      gi_wp2
      refine ⟨HKO.out.trans ((KeepsOthers.setCell _ _ _).trans (KeepsOthers.setCell _ _ _)), ⟨rfl, t, x, ht, rfl, Hmin.out, Hpx.out, hx, Hlow.out, Hcv.out, ⟨.slice (some ⟨g', 0, none⟩) (l.length + 1) cap', ?_, ?_⟩, heap_setCell (heap_setCell HB2.out (by simp) _) (by simp) _, ?_, (HC1.out.setCell (.inr (by simp)) _).setCell (.inr (by simp)) _⟩, fun c' e => heap_setCell (heap_setCell (HGO.out _ _ _ _ e (by decide)) (by simp; omega) _) (by simp; omega) _⟩
      · refine heap_setCell ?_ (by simp) _
        rw [heap_setCell_cells HB1.out]; rfl
      · have e : nints (l ++ [x]) = nints l ++ [.int .i64 (x : Int)] := by simp [nints]
        rw [e, List.length_append]
        exact own_keep HO.out fun k c t f hk h => heap_setCell (heap_setCell h (by simp; omega) _) (by simp; omega) _
      · rw [heap_setCell_cells (heap_setCell HB3.out (by simp) _)]; rfl
    · go_simp
      refine only_one 0 rfl (by kernel_rfl) rfl ?_
      go_simp
      have hrowA : ((W.alloc (.cells #[.int .i64 (x : Int)] 3)).drew.drew).ownsRow (w.heap.size + 3) 3 1 (.slice sa sl sc) l.length (nints l) := own_keep Hrow.out fun _ _ _ _ _ e => heap_alloc e
      refine only_one 3 rfl (by kernel_rfl) rfl ?_
      refine wp_append (.tmp 26) (.tmp 28) 34 rfl (w.heap.size + 3) 3 i0 (.int .i64 0) 1 8 Tryd.underlying34 hi hz0 hz1 hz2 rfl (by decide) _ _ _ rfl hrowA ⟨W.heap.size, 0, none⟩ 1 1 [.int .i64 (x : Int)] rfl rfl ?c1 ?c2 ?c3 ?c4 ?c5 ?_
      case c1 => exact cell_one_new W (.int .i64 (x : Int)) 3
      case c2 => simp [Value.oneCell']
      case c3 => unfold maxLen; omega
      case c4 => omega
      case c5 => have := I4.out.size; have := lt_of_heap I3.out; simp; omega
      intro v' w1 hown' hgrow
      have hro : W.ownsRow (w.heap.size + 3) 3 1 (.slice sa sl sc) l.length (nints l) := Hrow.out
      have hgrow2 : (W.alloc (.cells #[.int .i64 (x : Int)] 3)).grownBy w1 (Value.slice sa sl sc).ownBlock := ⟨hgrow.os, hgrow.tape, hgrow.output, hgrow.size, hgrow.block⟩
      have hko := grown_others hro hgrow2
      have hsm := grown_same hro hgrow2
      have hgo := fun k c t f hk ht => grown_other hro hgrow2 (k := k) (c := c) (t := t) (f := f) hk ht
      have hrb := fun k (hk : (Value.slice sa sl sc).ownBlock = some k) => own_block hro hk
      have hb1 := hgo _ _ _ _ I1.out (by decide)
      have hb2 := hgo _ _ _ _ I2.out (by decide)
      have hb3 := hgo _ _ _ _ I3.out (by decide)
      have hc1 : Chg (fun _ => False) w w1 := (I4.out.alloc _).grown hgrow2 (fun k e => .inr (by have := hrb _ e; omega))
      have d1 := cell_of_heap hb1 0
      have d2 := free_of_heap hb1 0
      have d3 := cell_of_heap hb3 0
      have d4 := free_of_heap hb3 0
      simp at d1 d3
      have HO := Lib.hid hown'
      have HB1 := Lib.hid hb1
      have HB2 := Lib.hid hb2
      have HB3 := Lib.hid hb3
      have HC1 := Lib.hid hc1
      have HKO := Lib.hid hko
      have HGO := Lib.hid hgo
      have HSM := Lib.hid hsm
      refine ⟨fun _ => d3, ?_⟩
      obtain ⟨g', cap', rfl⟩ := ownsRow_succ hown'
      clear hgrow hgrow2 hown' hb1 hb2 hb3 hc1 hrb hrowA hko hgo hsm hro hcell hcell2 hS hS6 c1 c3 c5 c7 c8 c9 c10
      refine only_one 8 rfl (by kernel_rfl) rfl ?_
      go_simp
      refine only_one 9 rfl (by kernel_rfl) rfl ?_
      go_simp
      refine all_done (by kernel_rfl) ?_ _
      refine hK _ _ ?_
      clear hK K
      gi_wp2
      refine ⟨HKO.out.trans ((KeepsOthers.setCell _ _ _).trans (KeepsOthers.setCell _ _ _)), ⟨rfl, t, x, ht, rfl, Hmin.out, Hpx.out, hx, Hlow.out, Hcv.out, ⟨.slice (some ⟨g', 0, none⟩) (l.length + 1) cap', ?_, ?_⟩, heap_setCell (heap_setCell HB2.out (by simp) _) (by simp) _, ?_, (HC1.out.setCell (.inr (by simp)) _).setCell (.inr (by simp)) _⟩, fun c' e => heap_setCell (heap_setCell (HGO.out _ _ _ _ e (by decide)) (by simp; omega) _) (by simp; omega) _⟩
      · refine heap_setCell ?_ (by simp) _
        rw [heap_setCell_cells HB1.out]; rfl
      · have e : nints (l ++ [x]) = nints l ++ [.int .i64 (x : Int)] := by simp [nints]
        rw [e, List.length_append]
        exact own_keep HO.out fun k c t f hk h => heap_setCell (heap_setCell h (by simp; omega) _) (by simp; omega) _
      · rw [heap_setCell_cells (heap_setCell HB3.out (by simp) _)]; rfl
end Go.Proofs.YtkonpkejddcegaaDoor
