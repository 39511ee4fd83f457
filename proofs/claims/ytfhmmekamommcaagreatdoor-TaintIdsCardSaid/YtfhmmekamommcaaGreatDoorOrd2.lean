/- The iterator of a set's elements. -/
import Derived.Test.YtfhmmekamommcaaGreatDoorOrd1
import Derived.Test.YtfhmmekamommcaaGreatDoorRangeGen
import Derived.RangeFuncNested
import Derived.RangeFuncBound
import Derived.RangeFuncCalls
import Derived.RangeFuncLeaves
import Derived.Shelf.Abstract
import Derived.Shelf.RegionOpen
import Derived.OwnWalkIn
import Derived.TacticsInMore
import Derived.LoopNIn
import Derived.LoopIn
namespace Go.Proofs.YtfhmmekamommcaaGreatDoor
set_option linter.unusedVariables false
set_option linter.unusedSimpArgs false
open Go Go.RowKit Go.Proofs Go.Shelf
attribute [local go_sem] Oper.semAt_some
def tz32 : List Nat := [0, 1, 28, 2, 29, 14, 24, 3, 30, 22, 20, 15, 25, 17, 4, 8, 31, 27, 13, 23, 21, 19, 16, 7, 26, 12, 18, 6, 11, 5, 10, 9]
def TabOk (w : World) : Prop := ∀ i : Nat, i < 32 → w.cell? ⟨1, i, none⟩ = some (.int .u8 ((tz32.getD i 0 : Nat) : Int))
theorem low_and (m a : Nat) (hs : m < 65536) (hb : m.testBit a = true) (hl : ∀ j, j < a → m.testBit j = false) : m &&& (4294967296 - m) = 2 ^ a := by
  have hm : m ≠ 0 := fun h => by subst h; simp at hb
  have e1 : 4294967296 - m = 2 ^ 32 - (m - 1 + 1) := by omega
  refine Nat.eq_of_testBit_eq fun j => ?_
  rw [Nat.testBit_and, e1, Nat.testBit_two_pow_sub_succ (by omega), Nat.testBit_two_pow]
  have h := and_pred m a hb hl j
  rw [Nat.testBit_and] at h
  by_cases e : a = j
  · subst e
    rw [hb] at h ⊢
    have h2 : (m - 1).testBit a = false := by simpa using h
    have h3 : a < 32 := by
      by_cases h3 : a < 32
      · exact h3
      · have : m < 2 ^ a := Nat.lt_of_lt_of_le hs (by have := Nat.pow_le_pow_right (n := 2) (by omega) (by omega : 16 ≤ a); simpa using this)
        rw [Nat.testBit_lt_two_pow this] at hb
        exact absurd hb (by simp)
    simp [h2, h3]
  · by_cases e2 : j < a
    · rw [hl j e2]; simp [e]
    · cases hj : m.testBit j with
      | false => simp [e]
      | true =>
        rw [hj] at h
        have h2 : (m - 1).testBit j = true := by rw [Bool.true_and, Bool.true_and] at h; rw [h]; exact decide_eq_true (by omega)
        simp [h2, e]
theorem tz_idx : ∀ a, a < 16 → tz32.getD (2 ^ a * 125613361 % 4294967296 / 134217728) 0 = a ∧ 2 ^ a * 125613361 % 4294967296 / 134217728 < 32 := by decide
theorem pc4 (q c d e : Nat) : (q : Int) * (c : Int) % (d : Int) / (e : Int) = ((q * c % d / e : Nat) : Int) := by simp
theorem tz_any (w : World) (m a : Nat) (hs : m < 65536) (hb : m.testBit a = true) (hl : ∀ j, j < a → m.testBit j = false) (hT : TabOk w) :
    Calls Tryz.prog 113 #[.int .u32 (m : Int)] w fun e w' => e = .returned (.int .i64 (a : Int)) ∧ w = w' := by
  have hm0 : m ≠ 0 := fun h => by subst h; simp at hb
  have h0 : ((m : Int) == 0) = false := by
    rw [beq_eq_false_iff_ne]
    omega
  have ha : a < 16 := by
    by_cases h3 : a < 16
    · exact h3
    · have : m < 2 ^ a := Nat.lt_of_lt_of_le hs (by have := Nat.pow_le_pow_right (n := 2) (by omega) (by omega : 16 ≤ a); simpa using this)
      rw [Nat.testBit_lt_two_pow this] at hb
      exact absurd hb (by simp)
  have hbits : bits BinOp.and IntKind.u32 (m : Int) (-(m : Int) % 4294967296) = ((2 ^ a : Nat) : Int) := by
    have e : -(m : Int) % 4294967296 = ((4294967296 - m : Nat) : Int) := by omega
    rw [e, u32_and_nat _ _ (by omega) (by omega), low_and m a hs hb hl]
  obtain ⟨hi1, hi2⟩ := tz_idx a ha
  have hpc : ((2 ^ a : Nat) : Int) * 125613361 % 4294967296 / 134217728 = ((2 ^ a * 125613361 % 4294967296 / 134217728 : Nat) : Int) := pc4 (2 ^ a) 125613361 4294967296 134217728
  have hE : (bits BinOp.and IntKind.u32 (m : Int) (-(m : Int) % 4294967296) * 125613361 % 4294967296 / 134217728).toNat = 2 ^ a * 125613361 % 4294967296 / 134217728 := by
    rw [hbits, hpc]; omega
  have hE2 : bits BinOp.and IntKind.u32 (m : Int) (-(m : Int) % 4294967296) * 125613361 % 4294967296 / 134217728 < 32 := by
    rw [hbits, hpc]; omega
  have hE3 : 0 ≤ bits BinOp.and IntKind.u32 (m : Int) (-(m : Int) % 4294967296) * 125613361 % 4294967296 / 134217728 := by
    rw [hbits, hpc]; omega
  have hc : w.cell? ⟨1, (bits BinOp.and IntKind.u32 (m : Int) (-(m : Int) % 4294967296) * 125613361 % 4294967296 / 134217728).toNat, none⟩ = some (.int .u8 (a : Int)) := by
    rw [hE, hT _ hi2, hi1]
  clear hpc hE hbits hi1 hi2 hb hl hT hs hm0
  go_enter Tryz.func113, Tryz.ntmps113
  go_wp2
  go_ret
  exact ⟨rfl, rfl⟩
/-- what a set still has: those from t on -/
def rest (p : Nat → Bool) (t : Nat) : Nat → Bool := fun j => p j && decide (t ≤ j)
/-- the elements of a set below n, rising -/
def els (n : Nat) (p : Nat → Bool) : List Nat := (List.range n).filter p
theorem els_snoc (p : Nat → Bool) (t a : Nat) (h : t ≤ a) (ha : p a = true) (hl : ∀ j, j < a → t ≤ j → p j = false) : els (a + 1) p = els t p ++ [a] := by
  unfold els
  have e : ∀ d, t + d ≤ a → (List.range (t + d)).filter p = (List.range t).filter p := by
    intro d
    induction d with
    | zero => intro _; rfl
    | succ d ih =>
      intro hd
      rw [← Nat.add_assoc, List.range_succ, List.filter_append, ih (by omega)]
      simp [hl (t + d) (by omega) (by omega)]
  rw [List.range_succ, List.filter_append]
  have := e (a - t) (by omega)
  rw [show t + (a - t) = a from by omega] at this
  rw [this]
  simp [ha]
theorem els_end (n : Nat) (p : Nat → Bool) (t : Nat) (ht : t ≤ n) (hl : ∀ j, j < n → t ≤ j → p j = false) : els n p = els t p := by
  unfold els
  have e : ∀ d, t + d ≤ n → (List.range (t + d)).filter p = (List.range t).filter p := by
    intro d
    induction d with
    | zero => intro _; rfl
    | succ d ih =>
      intro hd
      rw [← Nat.add_assoc, List.range_succ, List.filter_append, ih (by omega)]
      simp [hl (t + d) (by omega) (by omega)]
  have := e (n - t) (by omega)
  rwa [show t + (n - t) = n from by omega] at this
/-- the iterator's own step: its cell -/
def SetAb (Bs : Nat) (A A' : World) : Prop := ∃ v, A' = A.setCell ⟨Bs, 0, none⟩ v
def SetKp (Bs : Nat) (A A' : World) : Prop := (∀ c, A.heap[Bs]? = some (.cells c 153 (0, 0)) → A'.heap[Bs]? = some (.cells c 153 (0, 0))) ∧ (TabOk A → TabOk A')
theorem TabOk.setCell {w : World} (h : TabOk w) {B : Nat} (hB : B ≠ 1) (o : Nat) (v : Value) : TabOk (w.setCell ⟨B, o, none⟩ v) := fun i hi => by
  rw [World.cell?_setCell_other]
  · exact h i hi
  · intro e; injection e; omega
theorem els_pre (n t : Nat) (p : Nat → Bool) (h : t ≤ n) : els t p <+: els n p := by
  obtain ⟨d, rfl⟩ : ∃ d, n = t + d := ⟨n - t, by omega⟩
  unfold els
  rw [List.range_add, List.filter_append]
  exact List.prefix_append _ _
/-- the number in a cell -/
def mval (Bs : Nat) (w : World) : Nat := match w.cell? ⟨Bs, 0, none⟩ with
  | some v => (intOf v).toNat
  | none => 0
theorem all1_in (n : Nat) (p : Nat → Bool) (hn : n ≤ 16) (k l Bs : Nat) (hk : 1 ≤ k) (J Jx : List Nat → World → Prop)
    (hJ : ∀ s A A', SetAb Bs A A' → J s A → J s A') (hJx : ∀ s A A', SetAb Bs A A' → Jx s A → Jx s A')
    (hY : ∀ pre x W1, J pre W1 → (∃ t, t ≤ x ∧ pre = els t p ∧ p x = true ∧ x < n ∧ (∀ j, j < x → t ≤ j → p j = false)) → YieldAt Fence.wide (k - 1) Tryz.prog l #[.int .i64 (x : Int)] W1 fun e W' =>
      (e = .returned (.bool true) ∧ J (pre ++ [x]) W' ∧ SetKp Bs W1 W') ∨ (e = .returned (.bool false) ∧ Jx (pre ++ [x]) W'))
    (W : World) (hT : TabOk W) (hBs0 : Bs ≠ 1) (hB : W.heap[Bs]? = some (.cells #[.int .u32 (msk n p : Nat)] 153 (0, 0))) (h0 : J [] W) :
    CallsIn Fence.wide k Tryz.prog 112 #[.func (.yield l) #[] #[], .pointer (some ⟨Bs, 0, none⟩)] W fun e W' => (∃ v, e = .returned v) ∧
      ((∃ ys, ys = els n p ∧ J ys W') ∨ (∃ pre, pre <+: els n p ∧ Jx pre W')) := by
  refine callsIn_of_wp Tryz.func112 rfl trivial ?_ rfl
  simp only [Tryz.ntmps112, List.size_toArray, List.length_cons, List.length_nil, Nat.reduceAdd, Nat.reduceSub, Array.replicate_succ, Array.replicate_zero, List.push_toArray, List.append_toArray, List.nil_append, List.cons_append]
  gi_wp2
  gi_loopw [3] (fun _ wr => ∃ t, t ≤ n ∧ wr.heap[Bs]? = some (.cells #[.int .u32 (msk n (rest p t) : Nat)] 153 (0, 0)) ∧ TabOk wr ∧ J (els t p) wr)
    (fun _ wr => mval Bs wr)
  case atStart =>
    refine ⟨0, by omega, ?_, hT, h0⟩
    rw [hB]
    have : msk n (rest p 0) = msk n p := msk_congr n _ _ fun j _ => by simp [rest]
    rw [this]
  case round =>
    obtain ⟨t, ht, hh, hT', hj⟩ := hrel
    by_cases hz : msk n (rest p t) = 0
    · have hc : wr.cell? ⟨Bs, 0, none⟩ = some (.int .u32 0) := by simp [World.cell?, hh, hz]
      have hend := els_end n p t ht (fun j hj h2 => by have := msk_zero n _ hz j hj; simpa [rest, h2] using this)
      rw [← hend] at hj
      have HJ := Lib.hid hj
      clear hj hh hz hend
      gi_wp2
      go_end0
      exact ⟨⟨_, rfl⟩, .inl ⟨_, rfl, HJ.out⟩⟩
    · obtain ⟨a, ha, hpa, hla⟩ := least n (rest p t) (msk_ne n _ hz)
      have hm := msk_lt16 n (rest p t) hn
      have hbit : (msk n (rest p t)).testBit a = true := by rw [msk_bit]; simp [ha, hpa]
      have hlow : ∀ j, j < a → (msk n (rest p t)).testBit j = false := fun j hj => by rw [msk_bit, hla j hj]; simp
      have hstep := msk_step n (rest p t) a ha hpa hla
      have hrest : msk n (fun j => rest p t j && decide (a < j)) = msk n (rest p (a + 1)) := msk_congr n _ _ fun j _ => by
        have h3 : t ≤ a := by simp [rest] at hpa; omega
        unfold rest
        by_cases h4 : a < j
        · rw [decide_eq_true h4, decide_eq_true (by omega : t ≤ j), decide_eq_true (by omega : a + 1 ≤ j)]; simp
        · rw [decide_eq_false h4, decide_eq_false (by omega : ¬ a + 1 ≤ j)]; simp
      have hta : t ≤ a := by simp [rest] at hpa; omega
      have hpa' : p a = true := by simp [rest] at hpa; exact hpa.1
      have hla' : ∀ j, j < a → t ≤ j → p j = false := fun j h1 h2 => by have := hla j h1; simpa [rest, h2] using this
      have hsn := els_snoc p t a hta hpa' hla'
      obtain ⟨fn, tmps, assign, body, hy, hR⟩ := hY (els t p) a wr hj ⟨t, hta, rfl, hpa', ha, hla'⟩
      rw [hstep.symm.trans rfl] at hrest
      have hne : ((msk n (rest p t) : Nat) : Int) ≠ 0 := by omega
      generalize hM : msk n (rest p t) = M at *
      have hc : wr.cell? ⟨Bs, 0, none⟩ = some (.int .u32 (M : Int)) := by simp [World.cell?, hh]
      have hb : ((M : Int) != 0) = true := by rw [bne_iff_ne]; exact hne
      have hnext : bits BinOp.and IntKind.u32 (M : Int) ((M : Int) - 1) = ((msk n (rest p (a + 1)) : Nat) : Int) := by
        have e : ((M : Int) - 1) = ((M - 1 : Nat) : Int) := by omega
        rw [e, u32_and_nat _ _ (by omega) (by omega), hrest]
      have hless : msk n (rest p (a + 1)) < M := by
        rw [← hrest]
        exact Nat.lt_of_le_of_lt Nat.and_le_right (by omega)
      have hpos : (0 : Int) < (M : Int) := by omega
      have hMb : (M : Int) < 65536 := by omega
      gi_wp2_with (refine ⟨trivial, ?_⟩; gi_at_call 113; refine (callsIn_wide.2 (tz_any _ _ a hm hbit hlow hT')).mono ?_; rintro e w' ⟨rfl, rfl⟩)
      clear hne hb
      refine hR.mono ?_
      clear hy hR hY
      rintro e W3 (⟨rfl, hJ3, hk3⟩ | ⟨rfl, hJx3⟩)
      · have hh3 : W3.heap[Bs]? = some (.cells #[.int .u32 (M : Int)] 153 (0, 0)) := hk3.1 _ hh
        have hc3 : W3.cell? ⟨Bs, 0, none⟩ = some (.int .u32 (M : Int)) := by simp [World.cell?, hh3]
        have hf3 : W3.frozen? ⟨Bs, 0, none⟩ = false := by simp [World.frozen?, hh3]
        have hT3 := hk3.2 hT'
        have HJ3 := Lib.hid hJ3
        have Hsn := Lib.hid hsn
        have Hh3 := Lib.hid hh3
        have Hhh := Lib.hid hh
        have Hl := Lib.hid hless
        have HT3 := Lib.hid hT3
        have hcm : mval Bs wr = M := by simp [mval, hc, intOf]
        have Hcm := Lib.hid hcm
        clear hJ3 hsn hh3 hj hk3 hrest hstep hla hla' hlow hbit hpa hpa' hm hta hh hT' hT3 hc hcm hless
        gi_wp2
        go_roundw
        case rel =>
          refine ⟨a + 1, by omega, ?_, ?_, ?_⟩
          · rw [heap_setCell_cells Hh3.out]; rfl
          · exact HT3.out.setCell hBs0 _ _
          · rw [Hsn.out]; exact hJ _ _ _ ⟨_, rfl⟩ HJ3.out
        case measure =>
          rw [Hcm.out]
          refine Nat.lt_of_le_of_lt (Nat.le_of_eq ?_) Hl.out
          simp [mval, World.cell?, heap_setCell_cells Hh3.out, intOf]
      · have Hsn := Lib.hid hsn
        clear hsn hrest hstep
        gi_wp2
        refine bodyPost_ret (results_none rfl _ _ _) rfl ?_
        exact ⟨⟨_, rfl⟩, .inr ⟨els t p ++ [a], by rw [← Hsn.out]; exact els_pre n (a + 1) p (by omega), hJx3⟩⟩

/-- the steps that a loop's own invariant must abide: the iterator's cell; new blocks; the loop's own book-keeping -/
def Soft (B Bs : Nat) (W W' : World) : Prop := SetAb Bs W W' ∨ ∃ row, W.grownBy W' row ∧ ∀ r, row = some r → B ≤ r ∧ ∃ o : Obj, W.heap[r]? = some o ∧ o.isCells = false
theorem Soft.cells {B Bs : Nat} {W W' : World} (h : Soft B Bs W W') {k : Nat} {c : Array Value} {t : TypeId} {f : Nat × Nat} (hk : W.heap[k]? = some (.cells c t f)) (hne : k ≠ Bs) : W'.heap[k]? = some (.cells c t f) := by
  rcases h with ⟨v, rfl⟩ | ⟨row, hg, hr⟩
  · exact heap_setCell hk hne v
  · exact grown_cells hg (fun r e => (hr r e).2) hk
theorem Soft.setcells {B Bs : Nat} {W W' : World} (h : Soft B Bs W W') {c : Array Value} {t : TypeId} {f : Nat × Nat} (hk : W.heap[Bs]? = some (.cells c t f)) : ∃ c', W'.heap[Bs]? = some (.cells c' t f) := by
  rcases h with ⟨v, rfl⟩ | ⟨row, hg, hr⟩
  · exact ⟨_, heap_setCell_cells hk 0 v⟩
  · exact ⟨_, grown_cells hg (fun r e => (hr r e).2) hk⟩
theorem Soft.chg {B Bs : Nat} {w W W' : World} (h : Soft B Bs W W') {S : Nat → Prop} (hc : Chg S w W) (hB : w.heap.size ≤ B) (hs : S Bs ∨ w.heap.size ≤ Bs) : Chg S w W' := by
  rcases h with ⟨v, rfl⟩ | ⟨row, hg, hr⟩
  · exact hc.setCell hs v
  · exact hc.grown hg (fun k e => .inr (Nat.le_trans hB (hr k e).1))
theorem Soft.old {B Bs : Nat} {W W' : World} (h : Soft B Bs W W') {k : Nat} {o : Obj} (hk : W.heap[k]? = some o) (hB : k < B) (hne : k ≠ Bs) : W'.heap[k]? = some o := by
  rcases h with ⟨v, rfl⟩ | ⟨row, hg, hr⟩
  · exact heap_setCell hk hne v
  · exact (hg.block k (lt_of_heap hk) (fun e => by have := (hr k e.symm).1; omega)).trans hk
theorem Soft.size {B Bs : Nat} {W W' : World} (h : Soft B Bs W W') : W.heap.size ≤ W'.heap.size := by
  rcases h with ⟨v, rfl⟩ | ⟨row, hg, hr⟩
  · simp [World.setCell]
  · exact hg.size
theorem TabOk.block {w w' : World} (h : TabOk w) (hk : ∀ c t f, w.heap[1]? = some (.cells c t f) → w'.heap[1]? = some (.cells c t f)) : TabOk w' := fun i hi => by
  have h' := h i hi
  have : ∃ c t f, w.heap[1]? = some (.cells c t f) := by
    unfold World.cell? at h'
    split at h'
    · rename_i c t f e; exact ⟨_, _, _, e⟩
    · cases h'
  obtain ⟨c, t, f, e⟩ := this
  exact (World.cell?_of_block (w := w) ((hk _ _ _ e).trans e.symm)).trans h'
theorem TabOk.chg {S : Nat → Prop} {w w' : World} (h : TabOk w) (hc : Chg S w w') (hS : ¬ S 1) : TabOk w' := h.block fun _ _ _ e => hc.keep e hS
theorem TabOk.alloc {w : World} (h : TabOk w) (o : Obj) : TabOk (w.alloc o) := h.block fun _ _ _ e => heap_alloc e
/-- A RANGE OVER A SET's ELEMENTS. -/
theorem range_set {g : Operand} {ps : Array Tmp} {assign body : Code} {Q : Exit → Act → World → Prop} {a : Act} {w : World} {Bs : Nat}
    (hg : a.eval g = .func (.func 112) #[] #[.pointer (some ⟨Bs, 0, none⟩)]) (hps : ps.size = 1)
    (n : Nat) (p : Nat → Bool) (hn : n ≤ 16) (hB : w.heap[Bs]? = some (.cells #[.int .u32 (msk n p : Nat)] 153 (0, 0))) (hBs0 : Bs ≠ 1) (hT : TabOk w)
    (I : List Nat → World → Prop) (Ix : Code → List Nat → World → Prop)
    (hI : ∀ s W W', Soft w.heap.size Bs W W' → I s W → I s W') (hIx : ∀ c s W W', Soft w.heap.size Bs W W' → Ix c s W → Ix c s W') (h0 : I [] w) (a₁ : Nat → Act)
    (hassign : ∀ (l : Nat) (x : Nat) (W : World) (K : Act → World → Prop), K (a₁ x) W →
      assign.wpIn (Fence.wide.inRound l) 7 Tryz.prog (Exit.then K (fun _ _ _ => False)) { tmps := (ps.zip #[.int .i64 (x : Int)]).foldl (fun t (p, v) => t.setIfInBounds p v) a.tmps, defers := [] } W)
    (hbody : ∀ (l t x : Nat) (W : World), t ≤ x → p x = true → x < n → (∀ j, j < x → t ≤ j → p j = false) → I (els t p) W →
      body.wpIn (Fence.wide.inRound l) 7 Tryz.prog (ownPostK (SetKp Bs) I Ix (els t p ++ [x]) W) (a₁ x) W)
    (hdone : ∀ (D : Nat) (W : World), w.heap.size ≤ D → I (els n p) W → W.heap[D]? = some (.deferred (some [])) → Q .normal { a with defers := { target := .collected D, args := #[] } :: a.defers } W)
    (hstop : ∀ (D : Nat) (c : Code) (pre : List Nat) (W : World), w.heap.size ≤ D → Ix c pre W → W.heap[D]? = some (.deferred (some [])) → c.wp Tryz.prog Q { a with defers := { target := .collected D, args := #[] } :: a.defers } W) :
    (Code.rangeFunc g ps assign body).wp Tryz.prog Q a w := by
  have hlt := lt_of_heap hB
  refine wpIn_wide.1 (wpIn_range_gen (F := Fence.wide) (n := 9) (encs := fun x : Nat => #[.int .i64 (x : Int)]) (Ab := SetAb Bs) (Kp := SetKp Bs)
    (S := fun l => l = els n p) (Sp := fun l => l <+: els n p) (Nx := fun pre x => ∃ t, t ≤ x ∧ pre = els t p ∧ p x = true ∧ x < n ∧ (∀ j, j < x → t ≤ j → p j = false))
    rfl (by omega) hg trivial (enters_of Tryz.func112 (by kernel_rfl) rfl) ?_ ?_ ?_ ?_ (fun _ => by simp [hps]) I Ix
    (fun s W W' row hs hg hr => hI s W W' (.inr ⟨row, hg, hr⟩) hs) (fun c s W W' row hs hg hr => hIx c s W W' (.inr ⟨row, hg, hr⟩) hs)
    (fun s A A' h hs => hI s A A' (.inl h) hs) (fun c s A A' h hs => hIx c s A A' (.inl h) hs) h0 a₁ hassign ?_ ?_ ?_)
  · intro l J Jx W hW hJ hJx hY h0
    refine all1_in n p hn 8 l Bs (by omega) J Jx hJ hJx hY W ?_ hBs0 ?_ h0
    · exact hT.chg (Below.chg hW (Nat.le_refl _) (fun _ => False)) (fun h => h)
    · exact (hW.block _ hlt).trans hB
  · rintro A A' ⟨v, rfl⟩ k o hk ho _
    exact heap_setCell ho (by simp; omega) v
  · rintro A B C ⟨h1, h2⟩ ⟨h3, h4⟩
    exact ⟨fun c e => h3 c (h1 c e), fun h => h4 (h2 h)⟩
  · intro W l o o' hl ho hc
    intro _
    refine ⟨fun c e => (World.putObj_heap_other (by omega)).trans e, fun h => h.block fun c t f e => (World.putObj_heap_other ?_).trans e⟩
    rintro rfl
    rw [ho] at e
    cases e
    simp [Obj.isCells] at hc
  · rintro l pre x W hi ⟨t, h1, rfl, h3, h4, h5⟩
    exact hbody l t x W h1 h3 h4 h5 hi
  · rintro D xs W hD rfl hi hd
    exact hdone D W hD hi hd
  · intro D c pre W hD _ hi hd
    exact wpIn_wide.2 (hstop D c pre W hD hi hd)

theorem assign_one {F : Fence} {n : Nat} {P : Program} {K : Act → World → Prop} {Q : Exit → Act → World → Prop} {a : Act} {W : World} {id s1 s2 : Nat} {ty : TypeId} {pos : String} {after : Array Edge} (hF : ∀ f, F.fn f)
    (h : K (a.put (some s2) (a.tmps.getD s1 undef)) W) : (Code.region id #[{ dst := some s2, op := .assign (.tmp s1), type := ty, pos := pos, after := after, guard := none }] false).wpIn F n P (Exit.then K Q) a W := by
  refine wpIn_region ?_
  simp only [List.size_toArray, List.length_cons, List.length_nil, List.range_succ, List.range_zero, List.nil_append, wpOpsIn]
  have hr : (Region.wanted { dst := some s2, op := Op.assign (.tmp s1), type := ty, pos := pos, after := after, guard := none } (yielded #[{ dst := some s2, op := Op.assign (.tmp s1), type := ty, pos := pos, after := after, guard := none }] a.tmps)) = true := rfl
  simp only [Nat.zero_add, List.getElem?_toArray, List.getElem?_cons_zero, hr, if_true]
  refine ⟨fun f _ => hF f, ?_⟩
  cases F.round with
  | none => exact h
  | some l => exact h
theorem range_set1 {g : Operand} {s1 s2 id : Nat} {ty : TypeId} {pos : String} {after : Array Edge} {body : Code} {Q : Exit → Act → World → Prop} {a : Act} {w : World} {Bs : Nat}
    (hs1 : s1 < a.tmps.size)
    (hg : a.eval g = .func (.func 112) #[] #[.pointer (some ⟨Bs, 0, none⟩)])
    (n : Nat) (p : Nat → Bool) (hn : n ≤ 16) (hB : w.heap[Bs]? = some (.cells #[.int .u32 (msk n p : Nat)] 153 (0, 0))) (hBs0 : Bs ≠ 1) (hT : TabOk w)
    (I : List Nat → World → Prop) (Ix : Code → List Nat → World → Prop)
    (hI : ∀ s W W', Soft w.heap.size Bs W W' → I s W → I s W') (hIx : ∀ c s W W', Soft w.heap.size Bs W W' → Ix c s W → Ix c s W') (h0 : I [] w)
    (hbody : ∀ (l t x : Nat) (W : World), t ≤ x → p x = true → x < n → (∀ j, j < x → t ≤ j → p j = false) → I (els t p) W →
      body.wpIn (Fence.wide.inRound l) 7 Tryz.prog (ownPostK (SetKp Bs) I Ix (els t p ++ [x]) W) { tmps := (a.tmps.setIfInBounds s1 (.int .i64 (x : Int))).setIfInBounds s2 (.int .i64 (x : Int)), defers := [] } W)
    (hdone : ∀ (D : Nat) (W : World), w.heap.size ≤ D → I (els n p) W → W.heap[D]? = some (.deferred (some [])) → Q .normal { a with defers := { target := .collected D, args := #[] } :: a.defers } W)
    (hstop : ∀ (D : Nat) (c : Code) (pre : List Nat) (W : World), w.heap.size ≤ D → Ix c pre W → W.heap[D]? = some (.deferred (some [])) → c.wp Tryz.prog Q { a with defers := { target := .collected D, args := #[] } :: a.defers } W) :
    (Code.rangeFunc g #[s1] (Code.region id #[{ dst := some s2, op := .assign (.tmp s1), type := ty, pos := pos, after := after, guard := none }] false) body).wp Tryz.prog Q a w := by
  refine range_set hg rfl n p hn hB hBs0 hT I Ix hI hIx h0 _ (fun l x W K hK => ?_) hbody hdone hstop
  refine assign_one (fun _ => trivial) ?_
  have e : ((#[s1].zip #[Value.int .i64 (x : Int)]).foldl (fun t (p, v) => t.setIfInBounds p v) a.tmps) = a.tmps.setIfInBounds s1 (.int .i64 (x : Int)) := by simp
  simp only [e]
  have e2 : (a.tmps.setIfInBounds s1 (.int .i64 (x : Int))).getD s1 undef = .int .i64 (x : Int) := by simp [Array.getD, hs1]
  simp only [e2]
  exact hK
end Go.Proofs.YtfhmmekamommcaaGreatDoor
