/- strings.SplitSeq at a dot: its iterator, walked; the law for a range over it. -/
import Derived.Test.YtfhmmekamommcaaGreatDoorRangeGen2
import Derived.Test.YtfhmmekamommcaaGreatDoorFrame
import Derived.Test.YtfhmmekamommcaaGreatDoorIdPlain
import Derived.Test.YtfhmmekamommcaaGreatDoorShelf
import Derived.RangeFuncNested
import Derived.RangeFuncBound
import Derived.RangeFuncCalls
import Derived.RangeFuncLeaves
import Derived.Shelf.Abstract
import Derived.Shelf.RegionOpen
import Derived.WalkKit
import Derived.OwnWalkIn
import Derived.TacticsInMore
import Derived.LoopNIn
import Derived.LoopIn
import Derived.Lib.Hide
namespace Go.Proofs.YtfhmmekamommcaaGreatDoor
set_option linter.unusedVariables false
set_option linter.unusedSimpArgs false
open Go Go.RowKit Go.Proofs Go.Shelf
attribute [local go_sem] Oper.semAt_some
/-- the iterator's own step: its cell -/
def SplAb (Bs : Nat) (A A' : World) : Prop := ∃ v, A' = A.setCell ⟨Bs, 0, none⟩ v
def SplKp (Bs : Nat) (A A' : World) : Prop := ∀ k c t f, (k = Bs ∨ k = Bs + 1 ∨ k = Bs + 2) → A.heap[k]? = some (.cells c t f) → A'.heap[k]? = some (.cells c t f)
/-- the text in a cell: its length -/
def sval (Bs : Nat) (w : World) : Nat := match w.cell? ⟨Bs, 0, none⟩ with
  | some (.string s) => s.size
  | _ => 0
theorem idx_none {l : List UInt8} {c : UInt8} (h : c ∉ l) : Lib.indexByte l c = -1 := by
  have hge := Lib.indexByte_ge l c
  by_cases e : Lib.indexByte l c = -1
  · exact e
  · obtain ⟨i, hi⟩ : ∃ i : Nat, Lib.indexByte l c = i := ⟨(Lib.indexByte l c).toNat, by omega⟩
    obtain ⟨h2, _⟩ := Lib.indexByte_some hi
    exact absurd (List.mem_of_getElem? h2) h
theorem idx_hit {r t : List UInt8} {c : UInt8} (h : c ∉ r) : Lib.indexByte (r ++ c :: t) c = (r.length : Int) := by
  have hge := Lib.indexByte_ge (r ++ c :: t) c
  by_cases e : Lib.indexByte (r ++ c :: t) c = -1
  · exact absurd (by simp) (Lib.indexByte_none e r.length)
  · obtain ⟨i, hi⟩ : ∃ i : Nat, Lib.indexByte (r ++ c :: t) c = i := ⟨(Lib.indexByte (r ++ c :: t) c).toNat, by omega⟩
    obtain ⟨h2, h3⟩ := Lib.indexByte_some hi
    rw [hi]
    congr 1
    rcases Nat.lt_trichotomy i r.length with h4 | h4 | h4
    · rw [List.getElem?_append_left h4] at h2
      exact absurd (List.mem_of_getElem? h2) h
    · exact h4
    · exact absurd (by simp) (h3 r.length h4)
theorem bs_extract (r s t : List UInt8) : (bs (r ++ s ++ t)).extract r.length (r.length + s.length) = bs s := by
  apply ByteArray.ext
  simp [bs, ByteArray.data_extract]
theorem split1_in (L : List UInt8) (hL : L.length < 4611686018427387904) (k l Bs : Nat) (hk : 1 ≤ k) (J Jx : List (List UInt8) → World → Prop)
    (hJ : ∀ s A A', SplAb Bs A A' → J s A → J s A') (hJx : ∀ s A A', SplAb Bs A A' → Jx s A → Jx s A')
    (hY : ∀ pre x W1, J pre W1 → (pre ++ [x] <+: pieces 46 L) → YieldAt Fence.wide (k - 1) Tryz.prog l #[.string (bs x)] W1 fun e W' =>
      (e = .returned (.bool true) ∧ J (pre ++ [x]) W' ∧ SplKp Bs W1 W') ∨ (e = .returned (.bool false) ∧ Jx (pre ++ [x]) W'))
    (W : World) (hB : W.heap[Bs]? = some (.cells #[.string (bs L)] 9 (0, 0))) (hP : W.heap[Bs + 1]? = some (.cells #[.string ⟨#[46]⟩] 9 (0, 0))) (hZ : W.heap[Bs + 2]? = some (.cells #[.int .i64 0] 3 (0, 0))) (h0 : J [] W) :
    CallsIn Fence.wide k Tryz.prog 154 #[.func (.yield l) #[] #[], .pointer (some ⟨Bs + 1, 0, none⟩), .pointer (some ⟨Bs, 0, none⟩), .pointer (some ⟨Bs + 2, 0, none⟩)] W fun e W' => (∃ v, e = .returned v) ∧
      ((∃ ys, ys = pieces 46 L ∧ J ys W') ∨ (∃ pre, pre <+: pieces 46 L ∧ Jx pre W')) := by
  have hcp := cell_of_heap hP 0
  simp only [List.getElem?_toArray, List.getElem?_cons_zero] at hcp
  have e1 : (⟨#[46]⟩ : ByteArray).toList.isEmpty = false := by rw [ByteArray.toList_eq]; rfl
  refine callsIn_of_wp Tryz.func154 rfl trivial ?_ rfl
  simp only [Tryz.ntmps154, List.size_toArray, List.length_cons, List.length_nil, Nat.reduceAdd, Nat.reduceSub, Array.replicate_succ, Array.replicate_zero, List.push_toArray, List.append_toArray, List.nil_append, List.cons_append]
  gi_wp2
  gi_loopw [7, 8] (fun _ _ wr => ∃ (pre : List (List UInt8)) (rest : List UInt8), pieces 46 L = pre ++ pieces 46 rest ∧ rest.length ≤ L.length ∧ wr.heap[Bs]? = some (.cells #[.string (bs rest)] 9 (0, 0)) ∧ wr.heap[Bs + 1]? = some (.cells #[.string ⟨#[46]⟩] 9 (0, 0)) ∧ wr.heap[Bs + 2]? = some (.cells #[.int .i64 0] 3 (0, 0)) ∧ J pre wr)
    (fun _ _ wr => sval Bs wr)
  case atStart =>
    exact ⟨[], L, rfl, Nat.le_refl _, hB, hP, hZ, h0⟩
  case round =>
    obtain ⟨pre, rest, hpc, hlen, hh, hhp, hhz, hj⟩ := hrel
    have hI := Tryz.strings_Index_one (bs rest) 46
    rw [list_bs] at hI
    have c0 := cell_of_heap hh 0
    have c1 := cell_of_heap hhp 0
    have c2 := cell_of_heap hhz 0
    simp only [List.getElem?_toArray, List.getElem?_cons_zero] at c0 c1 c2
    by_cases hm : (46 : UInt8) ∈ rest
    · obtain ⟨r, t, rfl, hr⟩ := cut_first 46 rest hm
      rw [idx_hit hr] at hI
      have hpc2 := hpc
      rw [pieces_hit 46 r t hr] at hpc2
      obtain ⟨fn, tmps, assign, body, hy, hR⟩ := hY pre r wr hj ⟨pieces 46 t, by rw [hpc2]; simp⟩
      have hsz : (bs (r ++ 46 :: t)).size = r.length + 1 + t.length := by rw [bs_size]; simp; omega
      have hl2 : r.length + 1 + t.length ≤ L.length := by simpa [Nat.add_assoc, Nat.add_comm, Nat.add_left_comm] using hlen
      have x1 : (bs (r ++ 46 :: t)).extract 0 r.length = bs r := by
        have := bs_extract [] r (46 :: t)
        simpa using this
      have x2 : (bs (r ++ 46 :: t)).extract (r.length + 1) (r.length + 1 + t.length) = bs t := by
        have := bs_extract (r ++ [46]) t []
        simpa using this
      have hms : sval Bs wr = r.length + 1 + t.length := by simp [sval, c0, hsz]
      generalize bs (r ++ 46 :: t) = S at *
      have HPC := Lib.hid hpc2
      have HMS := Lib.hid hms
      clear hpc hpc2 hms hlen hm hcp
      gi_wp2_with (refine ⟨trivial, ?_⟩; gi_at_call 156; refine (callsIn_wide.2 (hI _)).mono ?_; rintro e w' ⟨rfl, rfl⟩)
      clear hI
      refine hR.mono ?_
      clear hy hR hY
      rintro e W3 (⟨rfl, hJ3, hk3⟩ | ⟨rfl, hJx3⟩)
      · have hh3 := hk3 _ _ _ _ (.inl rfl) hh
        have hhp3 := hk3 _ _ _ _ (.inr (.inl rfl)) hhp
        have hhz3 := hk3 _ _ _ _ (.inr (.inr rfl)) hhz
        have d0 := cell_of_heap hh3 0
        have d1 := cell_of_heap hhp3 0
        simp only [List.getElem?_toArray, List.getElem?_cons_zero] at d0 d1
        have df : W3.frozen? ⟨Bs, 0, none⟩ = false := by simp [World.frozen?, hh3]
        have HJ3 := Lib.hid hJ3
        have Hh3 := Lib.hid hh3
        have Hp3 := Lib.hid hhp3
        have Hz3 := Lib.hid hhz3
        clear hk3 hh hhp hhz hJ3 hh3 hhp3 hhz3 hj c0 c1 c2
        gi_wp2
        go_roundw
        case rel =>
          refine ⟨pre ++ [r], t, by rw [HPC.out]; simp, by omega, ?_, ?_, ?_, hJ _ _ _ ⟨_, rfl⟩ HJ3.out⟩
          · rw [heap_setCell_cells Hh3.out]; rfl
          · exact heap_setCell Hp3.out (by simp) _
          · exact heap_setCell Hz3.out (by simp) _
        case measure =>
          rw [HMS.out]
          simp [sval, World.cell?, heap_setCell_cells Hh3.out, bs_size]
      · gi_wp2
        refine bodyPost_ret (results_none rfl _ _ _) rfl ?_
        exact ⟨⟨_, rfl⟩, .inr ⟨pre ++ [r], ⟨pieces 46 t, by rw [HPC.out]; simp⟩, hJx3⟩⟩
    · rw [idx_none hm] at hI
      rw [pieces_none 46 rest hm] at hpc
      obtain ⟨fn, tmps, assign, body, hy, hR⟩ := hY pre rest wr hj ⟨[], by rw [hpc]; simp⟩
      have HPC := Lib.hid hpc
      clear hpc hm hcp
      generalize bs rest = S at *
      gi_wp2_with (refine ⟨trivial, ?_⟩; gi_at_call 156; refine (callsIn_wide.2 (hI _)).mono ?_; rintro e w' ⟨rfl, rfl⟩)
      clear hI
      refine hR.mono ?_
      clear hy hR hY
      rintro e W3 (⟨rfl, hJ3, hk3⟩ | ⟨rfl, hJx3⟩)
      · gi_wp2
        go_end0
        exact ⟨⟨_, rfl⟩, .inl ⟨_, rfl, by rw [HPC.out]; exact hJ3⟩⟩
      · gi_wp2
        go_end0
        exact ⟨⟨_, rfl⟩, .inr ⟨pre ++ [rest], ⟨[], by rw [HPC.out]; simp⟩, hJx3⟩⟩
/-- the steps that a loop's own invariant must abide: the iterator's cell; new blocks; the loop's own book-keeping -/
def SplSoft (B Bs : Nat) (W W' : World) : Prop := SplAb Bs W W' ∨ (W'.drawn = W.drawn ∧ ∃ row, W.grownBy W' row ∧ ∀ r, row = some r → B ≤ r ∧ ∃ o : Obj, W.heap[r]? = some o ∧ o.isCells = false)
theorem SplSoft.cells {B Bs : Nat} {W W' : World} (h : SplSoft B Bs W W') {k : Nat} {c : Array Value} {t : TypeId} {f : Nat × Nat} (hk : W.heap[k]? = some (.cells c t f)) (hne : k ≠ Bs) : W'.heap[k]? = some (.cells c t f) := by
  rcases h with ⟨v, rfl⟩ | ⟨_, row, hg, hr⟩
  · exact heap_setCell hk hne v
  · exact grown_cells hg (fun r e => (hr r e).2) hk
theorem SplSoft.chg {B Bs : Nat} {w W W' : World} (h : SplSoft B Bs W W') {S : Nat → Prop} (hc : Chg S w W) (hB : w.heap.size ≤ B) (hs : S Bs ∨ w.heap.size ≤ Bs) : Chg S w W' := by
  rcases h with ⟨v, rfl⟩ | ⟨_, row, hg, hr⟩
  · exact hc.setCell hs v
  · exact hc.grown hg (fun k e => .inr (Nat.le_trans hB (hr k e).1))
theorem SplSoft.size {B Bs : Nat} {W W' : World} (h : SplSoft B Bs W W') : W.heap.size ≤ W'.heap.size := by
  rcases h with ⟨v, rfl⟩ | ⟨_, row, hg, hr⟩
  · simp [World.setCell]
  · exact hg.size
theorem SplSoft.drawn {B Bs : Nat} {W W' : World} (h : SplSoft B Bs W W') : W'.drawn = W.drawn := by
  rcases h with ⟨v, rfl⟩ | ⟨e, _⟩
  · rfl
  · exact e
/-- A RANGE OVER THE PARTS OF A TEXT. -/
theorem range_split {g : Operand} {ps : Array Tmp} {assign body : Code} {Q : Exit → Act → World → Prop} {a : Act} {w : World} {Bs : Nat}
    (hg : a.eval g = .func (.func 154) #[] #[.pointer (some ⟨Bs + 1, 0, none⟩), .pointer (some ⟨Bs, 0, none⟩), .pointer (some ⟨Bs + 2, 0, none⟩)]) (hps : ps.size = 1)
    (L : List UInt8) (hL : L.length < 4611686018427387904) (hB : w.heap[Bs]? = some (.cells #[.string (bs L)] 9 (0, 0))) (hP : w.heap[Bs + 1]? = some (.cells #[.string ⟨#[46]⟩] 9 (0, 0))) (hZ : w.heap[Bs + 2]? = some (.cells #[.int .i64 0] 3 (0, 0)))
    (I : List (List UInt8) → World → Prop) (Ix : Code → List (List UInt8) → World → Prop)
    (hI : ∀ s W W', SplSoft w.heap.size Bs W W' → I s W → I s W') (hIx : ∀ c s W W', SplSoft w.heap.size Bs W W' → Ix c s W → Ix c s W') (h0 : I [] w) (a₁ : List UInt8 → Act)
    (hassign : ∀ (l : Nat) (x : List UInt8) (W : World) (K : Act → World → Prop), K (a₁ x) W →
      assign.wpIn (Fence.wide.inRound l) 7 Tryz.prog (Exit.then K (fun _ _ _ => False)) { tmps := (ps.zip #[.string (bs x)]).foldl (fun t (p, v) => t.setIfInBounds p v) a.tmps, defers := [] } W)
    (hbody : ∀ (l : Nat) (pre : List (List UInt8)) (x : List UInt8) (W : World), (pre ++ [x] <+: pieces 46 L) → I pre W →
      body.wpIn (Fence.wide.inRound l) 7 Tryz.prog (ownPostK (SplKp Bs) I Ix (pre ++ [x]) W) (a₁ x) W)
    (hdone : ∀ (D : Nat) (W : World), w.heap.size ≤ D → I (pieces 46 L) W → W.heap[D]? = some (.deferred (some [])) → Q .normal { a with defers := { target := .collected D, args := #[] } :: a.defers } W)
    (hstop : ∀ (D : Nat) (c : Code) (pre : List (List UInt8)) (W : World), w.heap.size ≤ D → (pre <+: pieces 46 L) → Ix c pre W → W.heap[D]? = some (.deferred (some [])) → c.wp Tryz.prog Q { a with defers := { target := .collected D, args := #[] } :: a.defers } W) :
    (Code.rangeFunc g ps assign body).wp Tryz.prog Q a w := by
  have hlt := lt_of_heap hB
  have hltp := lt_of_heap hP
  have hltz := lt_of_heap hZ
  refine wpIn_wide.1 (wpIn_range_gen2 (F := Fence.wide) (n := 9) (encs := fun x : List UInt8 => #[.string (bs x)]) (Ab := SplAb Bs) (Kp := SplKp Bs)
    (S := fun l => l = pieces 46 L) (Sp := fun l => l <+: pieces 46 L) (Nx := fun pre x => pre ++ [x] <+: pieces 46 L)
    rfl (by omega) hg trivial (enters_of Tryz.func154 (by kernel_rfl) rfl) ?_ ?_ ?_ ?_ (fun _ => by simp [hps]) I Ix
    ⟨fun {s A} o hs => hI s A (A.alloc o) (.inr ⟨rfl, none, World.grownBy_alloc A o none, fun r e => by cases e⟩) hs, fun {s A l o} o' hs hl ho hc => hI s A (A.putObj l o') (.inr ⟨rfl, some l, grownBy_putObj' A l o', fun r e => by cases e; exact ⟨hl, o, ho, hc⟩⟩) hs⟩
    (fun c => ⟨fun {s A} o hs => hIx c s A (A.alloc o) (.inr ⟨rfl, none, World.grownBy_alloc A o none, fun r e => by cases e⟩) hs, fun {s A l o} o' hs hl ho hc => hIx c s A (A.putObj l o') (.inr ⟨rfl, some l, grownBy_putObj' A l o', fun r e => by cases e; exact ⟨hl, o, ho, hc⟩⟩) hs⟩)
    (fun s A A' h hs => hI s A A' (.inl h) hs) (fun c s A A' h hs => hIx c s A A' (.inl h) hs) h0 a₁ hassign ?_ ?_ ?_)
  · intro l J Jx W hW hJ hJx hY h0
    exact split1_in L hL 8 l Bs (by omega) J Jx hJ hJx hY W ((hW.block _ hlt).trans hB) ((hW.block _ hltp).trans hP) ((hW.block _ hltz).trans hZ) h0
  · rintro A A' ⟨v, rfl⟩ k o hk ho _
    exact heap_setCell ho (by simp; omega) v
  · rintro A B C h1 h2 k c t f hk e
    exact h2 k c t f hk (h1 k c t f hk e)
  · intro W l o o' hl ho hc _ k c t f hk e
    exact (World.putObj_heap_other (by omega)).trans e
  · rintro l pre x W hi hx
    exact hbody l pre x W hx hi
  · rintro D xs W hD rfl hi hd
    exact hdone D W hD hi hd
  · intro D c pre W hD hp hi hd
    exact wpIn_wide.2 (hstop D c pre W hD hp hi hd)
theorem spl_assign {F : Fence} {n : Nat} {P : Program} {K : Act → World → Prop} {Q : Exit → Act → World → Prop} {a : Act} {W : World} {id s1 s2 : Nat} {ty : TypeId} {pos : String} {after : Array Edge} (hF : ∀ f, F.fn f)
    (h : K (a.put (some s2) (a.tmps.getD s1 undef)) W) : (Code.region id #[{ dst := some s2, op := .assign (.tmp s1), type := ty, pos := pos, after := after, guard := none }] false).wpIn F n P (Exit.then K Q) a W := by
  refine wpIn_region ?_
  simp only [List.size_toArray, List.length_cons, List.length_nil, List.range_succ, List.range_zero, List.nil_append, wpOpsIn]
  have hr : (Region.wanted { dst := some s2, op := Op.assign (.tmp s1), type := ty, pos := pos, after := after, guard := none } (yielded #[{ dst := some s2, op := Op.assign (.tmp s1), type := ty, pos := pos, after := after, guard := none }] a.tmps)) = true := rfl
  simp only [Nat.zero_add, List.getElem?_toArray, List.getElem?_cons_zero, hr, if_true]
  refine ⟨fun f _ => hF f, ?_⟩
  cases F.round with
  | none => exact h
  | some l => exact h
theorem range_split1 {g : Operand} {s1 s2 id : Nat} {ty : TypeId} {pos : String} {after : Array Edge} {body : Code} {Q : Exit → Act → World → Prop} {a : Act} {w : World} {Bs : Nat}
    (hs1 : s1 < a.tmps.size)
    (hg : a.eval g = .func (.func 154) #[] #[.pointer (some ⟨Bs + 1, 0, none⟩), .pointer (some ⟨Bs, 0, none⟩), .pointer (some ⟨Bs + 2, 0, none⟩)])
    (L : List UInt8) (hL : L.length < 4611686018427387904) (hB : w.heap[Bs]? = some (.cells #[.string (bs L)] 9 (0, 0))) (hP : w.heap[Bs + 1]? = some (.cells #[.string ⟨#[46]⟩] 9 (0, 0))) (hZ : w.heap[Bs + 2]? = some (.cells #[.int .i64 0] 3 (0, 0)))
    (I : List (List UInt8) → World → Prop) (Ix : Code → List (List UInt8) → World → Prop)
    (hI : ∀ s W W', SplSoft w.heap.size Bs W W' → I s W → I s W') (hIx : ∀ c s W W', SplSoft w.heap.size Bs W W' → Ix c s W → Ix c s W') (h0 : I [] w)
    (hbody : ∀ (l : Nat) (pre : List (List UInt8)) (x : List UInt8) (W : World), (pre ++ [x] <+: pieces 46 L) → I pre W →
      body.wpIn (Fence.wide.inRound l) 7 Tryz.prog (ownPostK (SplKp Bs) I Ix (pre ++ [x]) W) { tmps := (a.tmps.setIfInBounds s1 (.string (bs x))).setIfInBounds s2 (.string (bs x)), defers := [] } W)
    (hdone : ∀ (D : Nat) (W : World), w.heap.size ≤ D → I (pieces 46 L) W → W.heap[D]? = some (.deferred (some [])) → Q .normal { a with defers := { target := .collected D, args := #[] } :: a.defers } W)
    (hstop : ∀ (D : Nat) (c : Code) (pre : List (List UInt8)) (W : World), w.heap.size ≤ D → (pre <+: pieces 46 L) → Ix c pre W → W.heap[D]? = some (.deferred (some [])) → c.wp Tryz.prog Q { a with defers := { target := .collected D, args := #[] } :: a.defers } W) :
    (Code.rangeFunc g #[s1] (Code.region id #[{ dst := some s2, op := .assign (.tmp s1), type := ty, pos := pos, after := after, guard := none }] false) body).wp Tryz.prog Q a w := by
  refine range_split hg rfl L hL hB hP hZ I Ix hI hIx h0 _ (fun l x W K hK => ?_) hbody hdone hstop
  refine spl_assign (fun _ => trivial) ?_
  have e : ((#[s1].zip #[Value.string (bs x)]).foldl (fun t (p, v) => t.setIfInBounds p v) a.tmps) = a.tmps.setIfInBounds s1 (.string (bs x)) := by simp
  simp only [e]
  have e2 : (a.tmps.setIfInBounds s1 (.string (bs x))).getD s1 undef = .string (bs x) := by simp [Array.getD, hs1]
  simp only [e2]
  exact hK
end Go.Proofs.YtfhmmekamommcaaGreatDoor
