/- The laws' helpers: names, fails. -/
import Derived.Test.YtfmacnkjhboefaaGreatDoorLatEval
import Derived.Maps.AppendAt
namespace Go.Proofs.YtfmacnkjhboefaaGreatDoor
set_option linter.unusedVariables false
set_option linter.unusedSimpArgs false
open Go Go.RowKit Go.Proofs Go.Shelf Go.Sort
theorem infoStr : (Tryz.prog.info? 9).map (fun i => (i.zero, i.size, i.bytes)) = some (some (.string ByteArray.empty), 1, 16) := by kernel_rfl
theorem infoPair : (Tryz.prog.info? 41).map (fun i => (i.zero, i.size, i.bytes)) = some (some (.agg #[.int .i64 0, .int .i64 0]), 2, 16) := by kernel_rfl
def strV (N : List (List UInt8)) : List Value := N.map fun s => .string (bs s)
theorem own_strs {w : World} {base : Nat} {v : Value} {N : List (List UInt8)} (h : w.ownsRow base 9 1 v N.length (strV N)) : InStrs w v N := by
  rcases h.2 with ⟨rfl, h0⟩ | ⟨g, cap, cur, rfl, _, hh, hq, _, _, ht⟩
  · have : N = [] := List.length_eq_zero_iff.1 h0
    subst this
    exact ⟨none, 0, rfl, Nat.le_refl _, fun i hi => absurd hi (by simp)⟩
  · refine ⟨some ⟨g, 0, none⟩, cap, rfl, hq, fun i hi => ⟨g, 0, rfl, ?_⟩⟩
    rw [Nat.zero_add, cell_of_heap hh]
    have h1 : (cur.toList.take (N.length * 1))[i]? = (strV N)[i]? := by rw [ht]
    rw [List.getElem?_take_of_lt (by omega)] at h1
    have h2 : (strV N)[i]? = some (.string (bs (N.getD i []))) := by simp [strV, List.getD, hi]
    rw [h2] at h1
    simpa using h1
theorem digit_cat : ∀ k, k < 10 → (⟨#[108]⟩ : ByteArray) ++ (⟨#[48, 49, 50, 51, 52, 53, 54, 55, 56, 57]⟩ : ByteArray).extract k (k + 1) = bs [108, UInt8.ofNat (48 + k)] := by decide +kernel
theorem namesL_succ (k : Nat) : namesL (k + 1) = namesL k ++ [[108, UInt8.ofNat (48 + k)]] := by simp [namesL, List.range_succ]
theorem strV_append (a b : List (List UInt8)) : strV (a ++ b) = strV a ++ strV b := by simp [strV]
theorem one_new (w : World) (v : Value) (t : TypeId) : ∀ j u, [v][j]? = some u → (w.alloc (.cells #[v] t)).cell? ((⟨w.heap.size, 0, none⟩ : Addr).add j) = some u := cell_one_new w v t
set_option maxRecDepth 100000 in
set_option maxHeartbeats 4000000 in
theorem names_own (n : Nat) (hn : n ≤ 10) (w : World) : Calls Tryz.prog 14 #[.int .i64 n] w fun e w' => ∃ v, e = .returned v ∧ w'.ownsRow w.heap.size 9 1 v (namesL n).length (strV (namesL n)) ∧ Chg (fun _ => False) w w' := by
  obtain ⟨i0, hi, hz0, hz1, hz2⟩ := info_parts infoStr
  go_enter Tryz.func14, Tryz.ntmps14
  go_wp2_with fail
  go_loopw [3, 4] (fun t i wr => ∃ k : Nat, k ≤ n ∧ i = .int .i64 k ∧ wr.ownsRow w.heap.size 9 1 t (namesL k).length (strV (namesL k)) ∧ Chg (fun _ => False) w wr) (fun _ i _ => n - (intOf i).toNat)
  case atStart => exact ⟨0, by omega, rfl, World.ownsRow_nil _ _ _ _, Chg.refl _ _⟩
  case round =>
    obtain ⟨k, k0, rfl, hR, hC⟩ := hrel
    obtain ⟨A, l, c, rfl⟩ := own_slice hR
    by_cases hk : k < n
    · have hw3 : IntKind.i64.wrap ((k : Int) + 1) = k + 1 := IntWalk.i64_in _ ⟨by omega, by omega⟩
      have hmod : (k : Int).tmod 10 = k := by rw [Int.tmod_eq_emod_of_nonneg (by omega)]; omega
      have hcat := digit_cat k (by omega)
      have hsz := hC.size
      have hnx := namesL_succ k
      obtain ⟨s, hs⟩ : ∃ s, ([108, UInt8.ofNat (48 + k)] : List UInt8) = s := ⟨_, rfl⟩
      rw [hs] at hcat hnx
      have HR := Lib.hid hR
      have HC := Lib.hid hC
      have HX := Lib.hid hnx
      have hl := namesL_len k
      have HL := Lib.hid hl
      clear hR hC hl hs hnx
      go_wp2_with (at_builtin; refine wpList_append_own_at _ rfl _ _ 22 rfl w.heap.size 9 i0 (.string ByteArray.empty) 1 16 Tryz.underlying22 hi hz0 hz1 hz2 rfl (by decide) _ _ _ rfl (HR.out.alloc _) ⟨wr.heap.size, 0, none⟩ 1 1 [.string (bs s)] rfl rfl (one_new _ _ _) ?c2 ?c3 ?c4 ?c5 ?_)
      case c2 => intro u hu; simp at hu; subst hu; rfl
      case c3 => rw [HL.out]; unfold maxLen; omega
      case c4 => rw [HL.out]; omega
      case c5 => simp; omega
      intro v' w1 hown' hgrow hnil hat
      have hrb := fun j (hj : (Value.slice A l c).ownBlock = some j) => own_block HR.out hj
      have hC1 : Chg (fun _ => False) w w1 := (HC.out.alloc _).grown hgrow (fun j e => .inr (hrb j e))
      have HN := Lib.hid hown'
      clear hgrow hrb hnil hat hown'
      go_wp2_with fail
      go_roundw
      case rel =>
        refine ⟨k + 1, by omega, by go_num, ?_, hC1⟩
        have e1 : (namesL k).length + 1 = (namesL (k + 1)).length := by rw [namesL_len, namesL_len]
        have e2 : strV (namesL k) ++ [.string (bs s)] = strV (namesL (k + 1)) := by rw [HX.out, strV_append]; rfl
        rw [← e1, ← e2]
        exact HN.out
      case measure => simp [intOf]; omega
    · have hkn : k = n := by omega
      have HN := Lib.hid hkn
      clear hkn
      go_wp2_with fail
      go_ret
      exact ⟨_, rfl, by rw [← HN.out]; exact hR, hC⟩
theorem names_any (n : Nat) (hn : n ≤ 10) (w : World) : Calls Tryz.prog 14 #[.int .i64 n] w fun e w' => ∃ v, e = .returned v ∧ InStrs w' v (namesL n) ∧ Chg (fun _ => False) w w' :=
  (names_own n hn w).mono fun e w' ⟨v, h1, h2, h3⟩ => ⟨v, h1, own_strs h2, h3⟩
theorem fails_any {w : World} {vn vp : Value} {N : List (List UInt8)} {P : List (Int × Int)} (hN : InStrs w vn N) (hP : InPairs w vp P) (hl : P.length ≤ 140737488355328) (hn : N.length ≤ 140737488355328) (hT : TabOk w) (want : Int) (hw : want ≠ 0) :
    Calls Tryz.prog 38 #[vn, vp, .int .i64 want] w fun e w' => e = .returned (.bool (makeE N P == want)) ∧ Chg (fun _ => False) w w' := by
  have hm := make_any hN hP hl hn hT
  obtain ⟨na, nc, rfl, _⟩ := hN
  obtain ⟨pa, pc, rfl, _⟩ := hP
  unfold MakePost at hm
  by_cases h0 : makeE N P = 0
  · have hr : (makeE N P == want) = false := by rw [h0, beq_eq_false_iff_ne]; exact fun h => hw h.symm
    rw [hr]
    have hm' := Calls.mono hm (R' := fun e w' => ∃ la, e = .returned (.tuple #[.pointer (some ⟨la, 0, none⟩), .int .i64 0]) ∧ Chg (fun _ => False) w w') (fun e w' h => by
      obtain ⟨hC, ⟨h1, _⟩ | ⟨_, _, la, h2, _⟩⟩ := h
      · exact absurd h0 h1
      · exact ⟨la, h2, hC⟩)
    clear hm h0 hr
    go_enter Tryz.func38, Tryz.ntmps38
    go_wp2_with (first | (go_at_call 6; refine hm'.mono ?_; rintro e w1 ⟨la, rfl, hC⟩))
    go_ret
    exact ⟨rfl, hC⟩
  · have hm' := Calls.mono hm (R' := fun e w' => e = .returned (.tuple #[.pointer none, .int .i64 (makeE N P)]) ∧ Chg (fun _ => False) w w') (fun e w' h => by
      obtain ⟨hC, ⟨_, h1⟩ | ⟨h1, _⟩⟩ := h
      · exact ⟨h1, hC⟩
      · exact absurd h1 h0)
    generalize makeE N P = q at *
    clear hm h0
    go_enter Tryz.func38, Tryz.ntmps38
    go_wp2_with (first | (go_at_call 6; refine hm'.mono ?_; rintro e w1 ⟨rfl, hC⟩))
    go_ret
    exact ⟨rfl, hC⟩
/-- pairs, as values -/
def prs (l : List (Nat × Nat)) : List Value := l.flatMap fun (x : Nat × Nat) => [.int .i64 (x.1 : Int), .int .i64 (x.2 : Int)]
theorem prs_snoc (l : List (Nat × Nat)) (a b : Nat) : prs (l ++ [(a, b)]) = prs l ++ [.int .i64 (a : Int), .int .i64 (b : Int)] := by simp [prs]
theorem prs_len (l : List (Nat × Nat)) : (prs l).length = l.length * 2 := by
  induction l with
  | nil => rfl
  | cons x l ih => simp only [prs, List.flatMap_cons, List.length_append, List.length_cons] at *; simp at *; omega
theorem prs_get (l : List (Nat × Nat)) (i : Nat) (h : i < l.length) : (prs l)[i * 2]? = some (.int .i64 ((l.getD i (0, 0)).1 : Nat)) ∧ (prs l)[i * 2 + 1]? = some (.int .i64 ((l.getD i (0, 0)).2 : Nat)) := by
  induction l generalizing i with
  | nil => simp at h
  | cons x l ih =>
    cases i with
    | zero => simp [prs]
    | succ i =>
      have h' : i < l.length := by simpa using h
      have := ih i h'
      have e : prs (x :: l) = .int .i64 (x.1 : Int) :: .int .i64 (x.2 : Int) :: prs l := rfl
      rw [e, show (i + 1) * 2 = i * 2 + 1 + 1 by omega, List.getElem?_cons_succ, List.getElem?_cons_succ, List.getElem?_cons_succ, List.getElem?_cons_succ]
      exact ⟨by rw [this.1]; simp [List.getD], by rw [this.2]; simp [List.getD]⟩
theorem toP_get (l : List (Nat × Nat)) (i : Nat) (h : i < l.length) : (toP l).getD i (0, 0) = ((((l.getD i (0, 0)).1 : Nat) : Int), (((l.getD i (0, 0)).2 : Nat) : Int)) := by
  simp [toP, List.getD, h]
theorem own_pairs {w : World} {base : Nat} {v : Value} {l : List (Nat × Nat)} (h : w.ownsRow base 41 2 v l.length (prs l)) : InPairs w v (toP l) := by
  rcases h.2 with ⟨rfl, h0⟩ | ⟨g, cap, cur, rfl, _, hh, hq, _, _, ht⟩
  · have : l = [] := List.length_eq_zero_iff.1 h0
    subst this
    exact ⟨none, 0, rfl, fun i hi => absurd hi (by simp [toP])⟩
  · refine ⟨some ⟨g, 0, none⟩, cap, by simp [toP], fun i hi => ⟨g, 0, rfl, ?_⟩⟩
    have hi' : i < l.length := by simpa [toP] using hi
    obtain ⟨p1, p2⟩ := prs_get l i hi'
    rw [toP_get l i hi', Nat.zero_add, cell_of_heap hh, cell_of_heap hh]
    have h1 : (cur.toList.take (l.length * 2))[i * 2]? = (prs l)[i * 2]? := by rw [ht]
    have h2 : (cur.toList.take (l.length * 2))[i * 2 + 1]? = (prs l)[i * 2 + 1]? := by rw [ht]
    rw [List.getElem?_take_of_lt (by omega), p1] at h1
    rw [List.getElem?_take_of_lt (by omega), p2] at h2
    exact ⟨by simpa using h1, by simpa using h2⟩
theorem lit_pairs (w : World) (l : List (Nat × Nat)) (t : TypeId) (f : Nat × Nat) (cap : Nat) : InPairs (w.alloc (.cells (prs l).toArray t f)) (.slice (some ⟨w.heap.size, 0, none⟩) l.length cap) (toP l) := by
  refine ⟨some ⟨w.heap.size, 0, none⟩, cap, by simp [toP], fun i hi => ⟨_, 0, rfl, ?_⟩⟩
  have hi' : i < l.length := by simpa [toP] using hi
  obtain ⟨p1, p2⟩ := prs_get l i hi'
  rw [toP_get l i hi', Nat.zero_add, cell_of_heap (heap_new w _), cell_of_heap (heap_new w _)]
  exact ⟨by simpa using p1, by simpa using p2⟩
theorem nil_pairs (w : World) : InPairs w (.slice none 0 0) (toP []) := ⟨none, 0, rfl, fun i hi => absurd hi (by simp [toP])⟩
theorem lit_strs (w : World) (N : List (List UInt8)) (t : TypeId) (f : Nat × Nat) (cap : Nat) (hc : N.length ≤ cap) : InStrs (w.alloc (.cells (strV N).toArray t f)) (.slice (some ⟨w.heap.size, 0, none⟩) N.length cap) N := by
  refine ⟨_, cap, rfl, hc, fun i hi => ⟨_, 0, rfl, ?_⟩⟩
  rw [Nat.zero_add, cell_of_heap (heap_new w _)]
  simp [strV, List.getD, hi]
theorem two_new (w : World) (x y : Value) (t : TypeId) : ∀ j u, [x, y][j]? = some u → (w.alloc (.cells #[x, y] t)).cell? ((⟨w.heap.size, 0, none⟩ : Addr).add j) = some u := by
  intro j u hj
  match j, hj with
  | 0, hj => simp at hj; subst hj; simp [Addr.add]
  | 1, hj => simp at hj; subst hj; simp [Addr.add]
end Go.Proofs.YtfmacnkjhboefaaGreatDoor
