/- push: rows of texts: as they read, cut, turned round; alike. -/
import Derived.Test.YteiedafdakffeaaDoorPushS1
import Derived.Test.YteiedafdakffeaaDoorWMore
namespace Go.Proofs.YteiedafdakffeaaDoor
set_option linter.unusedVariables false
set_option linter.unusedSimpArgs false
open Go Go.RowKit Go.Proofs Go.Shelf Go.Sort
open Go.Proofs.YteiedafdakffeaaDoorW.PrintWords (Kd Reps OwnRow ReadsOf own_move print_drop_of print_take_of gate_dst gate_store)
attribute [local go_sem] Go.Proofs.YteiedafdakffeaaDoorW.PrintMore.min2_int Go.Proofs.YteiedafdakffeaaDoorW.PrintMore.min_two
theorem own_of_R {w : World} {base : Nat} {ok : Nat → Prop} {v : Value} {xs : List ByteArray} (h : Kd.R Kd.string 9 w base ok v xs) : w.ownsRow base 9 1 v xs.length (xs.map Value.string) := by
  obtain ⟨_, inner, ho, hl, hr⟩ := h
  have e : inner = xs.map Value.string := by
    apply List.ext_getElem?
    intro j
    rcases Nat.lt_or_ge j xs.length with hj | hj
    · have h1 := hr j xs[j] (List.getElem?_eq_getElem hj)
      have h2 : (inner.drop (j * 1)).take 1 = [Value.string xs[j]] := h1
      have hl' : inner.length = xs.length := by rw [hl]; exact Nat.mul_one _
      have hi : j < inner.length := by omega
      rw [Nat.mul_one, List.drop_eq_getElem_cons hi] at h2
      simp only [List.take_succ_cons, List.take_zero, List.cons.injEq, and_true] at h2
      rw [List.getElem?_eq_getElem hi, h2]
      simp [hj]
    · have hl' : inner.length = xs.length := by rw [hl]; exact Nat.mul_one _
      rw [List.getElem?_eq_none (by omega), List.getElem?_eq_none (by simpa using hj)]
  rw [e] at ho
  exact ho
theorem reads_of_lns {w : World} {A : Option Addr} {l : List ByteArray} (h : Lns w A l) (hb : l.length ≤ 9223372036854775807) : ReadsOf Value.string ByteArray.empty w A l.length l := by
  refine ⟨rfl, hb, fun h0 => ?_⟩
  obtain ⟨g, p, rfl, hc⟩ := lns_cells h h0
  refine ⟨_, rfl, fun j hj => ?_⟩
  rw [← hc j hj]
  congr 1
  unfold Addr.add
  by_cases e : j = 0
  · subst e; simp
  · simp [e]
theorem lns_of_reads {w : World} {A : Option Addr} {l : List ByteArray} (h : ReadsOf Value.string ByteArray.empty w A l.length l) : Lns w A l := fun i hi => by
  obtain ⟨ad, rfl, hc⟩ := h.2.2 (by omega)
  have h0 := hc 0 (by omega)
  have hs : ad.spot = none := (show (ad.add 0).spot = ad.spot by simp [Addr.add]).symm.trans (World.cell?_spot h0)
  obtain ⟨g, p, s⟩ := ad
  simp at hs
  subst hs
  refine ⟨g, p, rfl, ?_⟩
  rw [← hc i hi]
  congr 1
  unfold Addr.add
  by_cases e : i = 0
  · subst e; simp
  · simp [e]
/-! ### a row in its place, that may be written -/
def MRow (w : World) (g off : Nat) (l : List ByteArray) : Prop := ∀ j, j < l.length → w.cell? ⟨g, off + j, none⟩ = some (.string (l.getD j ByteArray.empty)) ∧ w.frozen? ⟨g, off + j, none⟩ = false
theorem MRow.lns {w : World} {g off : Nat} {l : List ByteArray} (h : MRow w g off l) : Lns w (some ⟨g, off, none⟩) l := fun i hi => ⟨g, off, rfl, (h i hi).1⟩
theorem MRow.drop {w : World} {g off : Nat} {l : List ByteArray} (h : MRow w g off l) (k : Nat) : MRow w g (off + k) (l.drop k) := fun j hj => by
  rw [List.length_drop] at hj
  have := h (k + j) (by omega)
  rw [Nat.add_assoc]
  rw [show (l.drop k).getD j ByteArray.empty = l.getD (k + j) ByteArray.empty by simp [List.getD, List.getElem?_drop]]
  exact this
theorem own_mrow {W : World} {base : Nat} {v : Value} {l : List ByteArray} (h : W.ownsRow base 9 1 v l.length (l.map Value.string)) : (v = .slice none 0 0 ∧ l = []) ∨ ∃ g cap, v = .slice (some ⟨g, 0, none⟩) l.length cap ∧ base ≤ g ∧ l.length ≤ cap ∧ MRow W g 0 l := by
  rcases h.2 with ⟨rfl, h2⟩ | ⟨g, cap, cur, rfl, hg, hh, r1, r2, r3, r4⟩
  · exact .inl ⟨rfl, by simpa using h2⟩
  · refine .inr ⟨g, cap, rfl, hg, r1, fun i hi => ⟨?_, by simp [World.frozen?, hh]⟩⟩
    rw [Nat.zero_add, cell_of_heap hh]
    have h5 : (cur.toList.take (l.length * 1))[i]? = (l.map Value.string)[i]? := by rw [r4]
    rw [List.getElem?_take, if_pos (by omega)] at h5
    rw [← Array.getElem?_toList, h5, List.getElem?_map, List.getElem?_eq_getElem hi]
    simp [List.getD, hi]
def encs (l : List ByteArray) : List (List UInt8) := l.map fun s => s.data.toList
theorem encs_get (l : List ByteArray) (j : Nat) (hj : j < l.length) : encStr (encs l).toArray[j]! = .string (l.getD j ByteArray.empty) := by
  have h1 : j < (encs l).toArray.size := by simpa [encs] using hj
  rw [getElem!_pos _ j h1]
  simp [encs, List.getD, hj, encStr]
theorem mrow_holds {w : World} {g off : Nat} {l : List ByteArray} : MRow w g off l ↔ Holds encStr w g off (encs l).toArray := by
  constructor
  · intro h j hj
    have hj' : j < l.length := by simpa [encs] using hj
    rw [encs_get l j hj']
    exact h j hj'
  · intro h j hj
    have := h j (by simpa [encs] using hj)
    rw [encs_get l j hj] at this
    exact this
theorem chg_putRow (w : World) (n g off : Nat) (d : Array (List UInt8)) : Chg (fun k => k = g) w (putRow encStr (Sort.ahead w n) g off d) :=
  ⟨rfl, rfl, rfl, by simp [putRow, mapBlock, Sort.ahead], fun k hk hn => by
    simp only [putRow, mapBlock, Sort.ahead, Array.getElem?_modify]
    rw [if_neg (fun e => hn e.symm)]⟩
theorem reverse_some (w : World) (g off cap : Nat) (l : List ByteArray) (h : MRow w g off l) (hb : l.length ≤ 9223372036854775807) :
    Calls Tryd.prog 48 #[.slice (some ⟨g, off, none⟩) l.length cap] w fun e w' => e = .returned (.tuple #[]) ∧ MRow w' g off l.reverse ∧ Chg (fun k => k = g) w w' := by
  have hl : (encs l).length = l.length := by simp [encs]
  have := Tryd.slices_Reverse_string g off cap (encs l) w (mrow_holds.1 h) (by rw [hl]; exact hb)
  rw [hl] at this
  refine this.mono ?_
  rintro e w' ⟨rfl, n, rfl⟩
  refine ⟨rfl, ?_, chg_putRow _ _ _ _ _⟩
  have e : (encs l).reverse.toArray = (encs l.reverse).toArray := by simp [encs]
  rw [e]
  exact mrow_holds.2 (holds_putRow encStr (Sort.ahead w n) g off _ _ (holds_ahead _ _ _ _ _ _ (mrow_holds.1 h)) (by simp [encs]))
/-! ### alike -/
def alikeN : List ByteArray → List ByteArray → Nat
  | x :: s, y :: t => if x = y then alikeN s t + 1 else 0
  | _, _ => 0
theorem alikeN_le (l m : List ByteArray) : alikeN l m ≤ l.length ∧ alikeN l m ≤ m.length := by
  induction l generalizing m with
  | nil => simp [alikeN]
  | cons x s ih =>
    cases m with
    | nil => simp [alikeN]
    | cons y t =>
      have := ih t
      simp only [alikeN, List.length_cons]
      split <;> omega
theorem alikeN_step (l m : List ByteArray) (k : Nat) (h1 : k < l.length) (h2 : k < m.length) : alikeN (l.drop k) (m.drop k) = if l.getD k ByteArray.empty = m.getD k ByteArray.empty then alikeN (l.drop (k + 1)) (m.drop (k + 1)) + 1 else 0 := by
  rw [List.drop_eq_getElem_cons h1, List.drop_eq_getElem_cons h2]
  simp only [alikeN, List.getD, List.getElem?_eq_getElem h1, List.getElem?_eq_getElem h2, Option.getD_some]
theorem alikeN_end (l m : List ByteArray) (k : Nat) (h : l.length ≤ k ∨ m.length ≤ k) : alikeN (l.drop k) (m.drop k) = 0 := by
  rcases h with h | h
  · rw [List.drop_of_length_le h]; rfl
  · rw [List.drop_of_length_le h]; cases l.drop k <;> rfl
theorem ba_eq (x y : ByteArray) : (x.toList == y.toList) = decide (x = y) := by
  rw [Bool.eq_iff_iff, beq_iff_eq, decide_eq_true_eq]
  constructor
  · intro h
    rw [ByteArray.toList_eq, ByteArray.toList_eq] at h
    exact ByteArray.ext (Array.ext' h)
  · rintro rfl; rfl
set_option maxRecDepth 100000 in
set_option maxHeartbeats 4000000 in
theorem alike_some (w : World) (A B : Option Addr) (l m : List ByteArray) (c d : Nat) (hl : Lns w A l) (hm : Lns w B m) (h1 : l.length ≤ 9223372036854775807) (h2 : m.length ≤ 9223372036854775807) :
    Calls Tryd.prog 46 #[.slice A l.length c, .slice B m.length d] w fun e w' => e = .returned (.int .i64 (alikeN l m)) ∧ Chg (fun _ => False) w w' := by
  have HL := Lib.hid hl
  have HM := Lib.hid hm
  clear hl hm
  go_enter Tryd.func46, Tryd.ntmps46
  go_wp2_with fail
  go_loopw [4] (fun i wr => ∃ k q : Nat, k ≤ l.length ∧ k ≤ m.length ∧ i = .int .i64 k ∧ Hid (alikeN l m = k + alikeN (l.drop k) (m.drop k)) ∧ wr = w.drewN q) (fun i _ => l.length - (intOf i).toNat)
  case atStart => exact ⟨0, 0, by omega, by omega, rfl, Lib.hid (by simp), rfl⟩
  case round =>
    obtain ⟨k, q, hk1, hk2, rfl, HE, rfl⟩ := hrel
    by_cases hml : m.length < l.length
    · by_cases hlt2 : k < m.length
      · have hlt1 : k < l.length := by omega
        obtain ⟨g, p, rfl, c1⟩ := HL.out k hlt1
        obtain ⟨g', p', rfl, c2⟩ := HM.out k hlt2
        have hst := alikeN_step l m k hlt1 hlt2
        have hq := ba_eq (l.getD k ByteArray.empty) (m.getD k ByteArray.empty)
        have HST := Lib.hid hst
        clear hst
        generalize l.getD k ByteArray.empty = x at *
        generalize m.getD k ByteArray.empty = y at *
        by_cases hxy : x = y
        · have HT : Hid (alikeN l m = (k + 1 : Nat) + alikeN (l.drop (k + 1)) (m.drop (k + 1))) := Lib.hid (by rw [HE.out, HST.out, if_pos hxy]; omega)
          rw [decide_eq_true hxy] at hq
          clear hxy HST HE
          go_wp2_with fail
          go_quiet (fail)
          go_wp2
          go_roundw
          case rel => exact ⟨k + 1, _, by omega, by omega, by go_num, HT, rfl⟩
          case measure => simp [intOf]; omega
        · have HT : Hid (alikeN l m = k) := Lib.hid (by rw [HE.out, HST.out, if_neg hxy]; omega)
          rw [decide_eq_false hxy] at hq
          clear hxy HST HE
          go_wp2_with fail
          go_quiet (fail)
          go_wp2
          go_ret
          exact ⟨by rw [HT.out]; rfl, by rw [World.drewN_drewN]; exact (Chg.refl _ _).drewN _⟩
      · have HT : Hid (alikeN l m = k) := Lib.hid (by rw [HE.out, alikeN_end l m k (by omega)]; omega)
        have hd : decide (k < m.length) = false := decide_eq_false hlt2
        clear HE
        go_wp2_with fail
        go_quiet (fail)
        go_wp2
        go_ret
        exact ⟨by rw [HT.out]; rfl, by rw [World.drewN_drewN]; exact (Chg.refl _ _).drewN _⟩
    · by_cases hlt1 : k < l.length
      · have hlt2 : k < m.length := by omega
        obtain ⟨g, p, rfl, c1⟩ := HL.out k hlt1
        obtain ⟨g', p', rfl, c2⟩ := HM.out k hlt2
        have hst := alikeN_step l m k hlt1 hlt2
        have hq := ba_eq (l.getD k ByteArray.empty) (m.getD k ByteArray.empty)
        have HST := Lib.hid hst
        clear hst
        generalize l.getD k ByteArray.empty = x at *
        generalize m.getD k ByteArray.empty = y at *
        by_cases hxy : x = y
        · have HT : Hid (alikeN l m = (k + 1 : Nat) + alikeN (l.drop (k + 1)) (m.drop (k + 1))) := Lib.hid (by rw [HE.out, HST.out, if_pos hxy]; omega)
          rw [decide_eq_true hxy] at hq
          clear hxy HST HE
          go_wp2_with fail
          go_quiet (fail)
          go_wp2
          go_roundw
          case rel => exact ⟨k + 1, _, by omega, by omega, by go_num, HT, rfl⟩
          case measure => simp [intOf]; omega
        · have HT : Hid (alikeN l m = k) := Lib.hid (by rw [HE.out, HST.out, if_neg hxy]; omega)
          rw [decide_eq_false hxy] at hq
          clear hxy HST HE
          go_wp2_with fail
          go_quiet (fail)
          go_wp2
          go_ret
          exact ⟨by rw [HT.out]; rfl, by rw [World.drewN_drewN]; exact (Chg.refl _ _).drewN _⟩
      · have HT : Hid (alikeN l m = k) := Lib.hid (by rw [HE.out, alikeN_end l m k (by omega)]; omega)
        have hd : decide (k < l.length) = false := decide_eq_false hlt1
        clear HE
        go_wp2_with fail
        go_quiet (fail)
        go_wp2
        go_ret
        exact ⟨by rw [HT.out]; rfl, by rw [World.drewN_drewN]; exact (Chg.refl _ _).drewN _⟩
end Go.Proofs.YteiedafdakffeaaDoor
