/- push: Check at unknown kinds; what an append to a row of bytes keeps; row. -/
import Derived.Test.YteiedafdakffeaaDoorPushJ
import Derived.Maps.AppendAt
import Derived.Lib.AppendStr
import Derived.IntWalk
namespace Go.Proofs.YteiedafdakffeaaDoor
set_option linter.unusedVariables false
set_option linter.unusedSimpArgs false
open Go Go.RowKit
set_option maxRecDepth 100000 in
set_option maxHeartbeats 4000000 in
theorem check_un (w : World) (k ver fr nd tk hd tl : Int) (tx : ByteArray) (s : Value) (h : ¬ (1 ≤ k ∧ k ≤ 5)) :
    Calls Tryd.prog 24 #[.agg #[.int .i64 k, .int .i64 ver, .int .i64 fr, .int .i64 nd, .int .i64 tk, .int .i64 hd, .int .i64 tl, .string tx, s]] w fun e w' => e = .returned (.int .i64 2) ∧ Chg (fun _ => False) w w' := by
  have hk := known_some k
  have hkk : (decide (1 ≤ k) && decide (k ≤ 5)) = false := by
    by_cases h1 : 1 ≤ k
    · rw [decide_eq_true h1, decide_eq_false (by omega)]; rfl
    · rw [decide_eq_false h1]; rfl
  rw [hkk] at hk
  have HK := Lib.hid hk
  clear hk hkk h
  go_enter Tryd.func24, Tryd.ntmps24
  go_wp2_with fail
  refine (HK.out _).mono ?_
  rintro e w2 ⟨rfl, rfl⟩
  clear HK
  go_wp2_with fail
  go_ret
  exact ⟨rfl, (Chg.refl _ _).alloc _⟩
/-- what appends to rows of bytes keep: blocks below base, and those of other types -/
structure Grow (base : Nat) (w w' : World) : Prop where
  chg : Chg (fun k => base ≤ k) w w'
  keep : ∀ (k : Nat) (c : Array Value) (t : TypeId) (f : Nat × Nat), t ≠ 5 → w.heap[k]? = some (Obj.cells c t f) → w'.heap[k]? = some (Obj.cells c t f)
theorem Grow.refl (base : Nat) (w : World) : Grow base w w := ⟨Chg.refl _ _, fun _ _ _ _ _ h => h⟩
theorem Grow.trans {base : Nat} {a b c : World} (h : Grow base a b) (k : Grow base b c) : Grow base a c := ⟨h.chg.trans k.chg, fun i x t f ht hh => k.keep i x t f ht (h.keep i x t f ht hh)⟩
theorem Grow.alloc {base : Nat} {a w : World} (h : Grow base a w) (o : Obj) : Grow base a (w.alloc o) := ⟨h.chg.alloc o, fun k c t f ht hh => heap_alloc (h.keep k c t f ht hh)⟩
theorem Grow.drew {base : Nat} {a w : World} (h : Grow base a w) : Grow base a w.drew := ⟨h.chg.drew, fun k c t f ht hh => h.keep k c t f ht hh⟩
theorem Grow.grown {base : Nat} {a w w' : World} {v : Value} {n : Nat} {xs : List Value} (h : Grow base a w) (ho : w.ownsRow base 5 1 v n xs) (hg : w.grownBy w' v.ownBlock) : Grow base a w' :=
  ⟨h.chg.grown hg (fun k hk => .inl (own_block ho hk)), fun k c t f ht hh => grown_keep hg (h.keep k c t f ht hh) (own_ne ho (h.keep k c t f ht hh) ht)⟩
theorem Grow.cell {base : Nat} {a w : World} (h : Grow base a w) {g i : Nat} {c : Array Value} {t : TypeId} {f : Nat × Nat} (ht : t ≠ 5) (hh : a.heap[g]? = some (.cells c t f)) : w.cell? ⟨g, i, none⟩ = c[i]? := cell_of_heap (h.keep g c t f ht hh) i
def u8s (xs : List Int) : List Value := xs.map (Value.int .u8)
theorem u8s_append (a b : List Int) : u8s (a ++ b) = u8s a ++ u8s b := by simp [u8s]
/-- byte i of size of a number -/
def byteAt (n : Int) (c : Nat) : Int := n / 2 ^ (8 * c) % 256
def rowB (n : Int) (size : Nat) : List Int := (List.range size).map fun i => byteAt n (size - 1 - i)
theorem rowB_take (n : Int) (size k : Nat) (h : k < size) : (rowB n size).take (k + 1) = (rowB n size).take k ++ [byteAt n (size - 1 - k)] := by
  have hl : k < (rowB n size).length := by simp [rowB, h]
  rw [List.take_add_one, List.getElem?_eq_getElem hl]
  simp [rowB]
theorem rowB_length (n : Int) (size : Nat) : (rowB n size).length = size := by simp [rowB]
theorem info5 : (Tryd.prog.info? 5).map (fun i => (i.zero, i.size, i.bytes)) = some (some (.int .u8 0), 1, 1) := by kernel_rfl
set_option maxRecDepth 100000 in
set_option maxHeartbeats 4000000 in
theorem row_some (w : World) (base : Nat) (v : Value) (xs : List Int) (n : Int) (size : Nat) (hown : w.ownsRow base 5 1 v xs.length (u8s xs)) (hb : base ≤ w.heap.size) (hs7 : size ≤ 7) (hbig : xs.length + size ≤ 140737488355328) :
    Calls Tryd.prog 58 #[v, .int .i64 n, .int .i64 size] w fun e w' => ∃ v', e = .returned v' ∧ w'.ownsRow base 5 1 v' (xs ++ rowB n size).length (u8s (xs ++ rowB n size)) ∧ Grow base w w' := by
  obtain ⟨i0, hi, hz0, hz1, hz2⟩ := info_parts info5
  have HO := Lib.hid hown
  clear hown
  go_enter Tryd.func58, Tryd.ntmps58
  go_wp2_with fail
  go_loopw [0, 7, 9] (fun s0 s7 i wr => ∃ k : Nat, k ≤ size ∧ i = .int .i64 k ∧ wr.ownsRow base 5 1 s0 (xs ++ (rowB n size).take k).length (u8s (xs ++ (rowB n size).take k)) ∧ Grow base w wr) (fun _ _ i _ => size - (intOf i).toNat)
  case atStart => exact ⟨0, by omega, rfl, by simpa using HO.out, Grow.refl _ _⟩
  case round =>
    obtain ⟨k, hk, rfl, ho, hG⟩ := hrel
    have hlen : ((rowB n size).take k).length = k := by rw [List.length_take, rowB_length]; omega
    by_cases hlt : k < size
    · have hsz := hG.chg.size
      go_wp2_with (at_builtin; refine wpList_append_own_at _ rfl _ _ 22 rfl base 5 i0 (.int .u8 0) 1 1 Tryd.underlying22 hi hz0 hz1 hz2 rfl (by decide) _ _ _ rfl (ho.alloc _) ⟨wr.heap.size, 0, none⟩ 1 1 [.int .u8 (byteAt n (size - 1 - k))] rfl rfl ?c1 ?c2 ?c3 ?c4 ?c5 ?_)
      case c1 => exact cell_one_new _ _ _
      case c2 => simp [Value.oneCell']
      case c3 => unfold maxLen; rw [List.length_append, hlen]; omega
      case c4 => rw [List.length_append, hlen]; omega
      case c5 => simp; omega
      intro v' w1 hown' hgrow _ hat
      have hG1 : Grow base w w1 := (hG.alloc _).grown (ho.alloc _) hgrow
      have HR : Hid (w1.ownsRow base 5 1 v' (xs ++ (rowB n size).take (k + 1)).length (u8s (xs ++ (rowB n size).take (k + 1)))) := Lib.hid (by
        have e := rowB_take n size k hlt
        rw [e, ← List.append_assoc, u8s_append]
        simp only [List.length_append, hlen, List.length_singleton]
        exact hown')
      have HG := Lib.hid hG1
      clear hG hG1 hgrow hown' ho hat
      go_wp2
      go_roundw
      case rel => exact ⟨k + 1, by omega, by go_num, HR.out, HG.out⟩
      case measure => simp [intOf] <;> omega
    · obtain rfl : k = size := by omega
      have hr := rowB_length n k
      have HR : Hid (wr.ownsRow base 5 1 u0 (xs ++ rowB n k).length (u8s (xs ++ rowB n k))) := Lib.hid (by
        have e : (rowB n k).take k = rowB n k := List.take_of_length_le (by omega)
        rw [e] at ho
        exact ho)
      have HG := Lib.hid hG
      clear hG ho hlen hr
      go_wp2
      go_ret
      exact ⟨_, rfl, HR.out, HG.out⟩
end Go.Proofs.YteiedafdakffeaaDoor
