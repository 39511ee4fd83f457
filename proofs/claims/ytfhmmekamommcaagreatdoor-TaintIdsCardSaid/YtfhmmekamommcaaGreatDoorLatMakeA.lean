/- lattice.Make: its closures; whether a pair is out of the names' range. -/
import Derived.Test.YtfhmmekamommcaaGreatDoorLatWhole
import Derived.Test.YtfhmmekamommcaaGreatDoorTxtName
namespace Go.Proofs.YtfhmmekamommcaaGreatDoor
set_option linter.unusedVariables false
set_option linter.unusedSimpArgs false
open Go Go.RowKit Go.Proofs Go.Shelf Go.Sort
/-- a slice of pairs that came in -/
def InPairs (w : World) (v : Value) (L : List (Int × Int)) : Prop := ∃ a cap, v = .slice a L.length cap ∧ ∀ i, i < L.length → ∃ g o, a = some ⟨g, o, none⟩ ∧ w.cell? ⟨g, o + i * 2, none⟩ = some (.int .i64 (L.getD i (0, 0)).1) ∧ w.cell? ⟨g, o + i * 2 + 1, none⟩ = some (.int .i64 (L.getD i (0, 0)).2)
theorem InPairs.chg {w w' : World} {v : Value} {L : List (Int × Int)} (h : InPairs w v L) (hc : Chg (fun _ => False) w w') : InPairs w' v L := by
  obtain ⟨a, cap, hv, hL⟩ := h
  refine ⟨a, cap, hv, fun i hi => ?_⟩
  obtain ⟨g, o, ha, h1, h2⟩ := hL i hi
  exact ⟨g, o, ha, hc.cell h1 (fun x => x), hc.cell h2 (fun x => x)⟩
theorem InPairs.below {w w' : World} {v : Value} {L : List (Int × Int)} {S : Nat → Prop} (h : InPairs w v L) (hc : Chg S w w') (hS : ∀ k, k < w.heap.size → ¬ S k) : InPairs w' v L := by
  obtain ⟨a, cap, hv, hL⟩ := h
  refine ⟨a, cap, hv, fun i hi => ?_⟩
  obtain ⟨g, o, ha, h1, h2⟩ := hL i hi
  exact ⟨g, o, ha, hc.cell h1 (hS _ (World.block_lt_of_cell? w _ h1)), hc.cell h2 (hS _ (World.block_lt_of_cell? w _ h2))⟩
def outI (n : Nat) (x : Int) : Bool := !decide (inB n x)
def outP (n : Nat) (p : Int × Int) : Bool := outI n p.1 || outI n p.2
theorem make1_any {w : World} {Bn n c : Nat} {A : Option Addr} (h : w.cell? ⟨Bn, 0, none⟩ = some (.slice A n c)) (x : Int) :
    Calls Tryz.prog 47 #[.int .i64 x, .pointer (some ⟨Bn, 0, none⟩)] w fun e w' => e = .returned (.bool (outI n x)) ∧ w' = w := by
  by_cases h0 : x < 0
  · have e : outI n x = true := by unfold outI; rw [decide_eq_false (fun h : inB n x => by unfold inB at h; omega)]; rfl
    rw [e]
    clear e
    go_enter Tryz.func47, Tryz.ntmps47
    go_wp2_with fail
    go_ret
    exact ⟨rfl, rfl⟩
  · by_cases h1 : (n : Int) ≤ x
    · have e : outI n x = true := by unfold outI; rw [decide_eq_false (fun h : inB n x => by unfold inB at h; omega)]; rfl
      rw [e]
      clear e
      go_enter Tryz.func47, Tryz.ntmps47
      go_wp2_with fail
      go_ret
      exact ⟨rfl, rfl⟩
    · have e : outI n x = false := by unfold outI; rw [decide_eq_true (show inB n x by unfold inB; omega)]; rfl
      rw [e]
      clear e
      go_enter Tryz.func47, Tryz.ntmps47
      go_wp2_with fail
      go_ret
      exact ⟨rfl, rfl⟩
theorem make2_any {w : World} {Bo Bn n c : Nat} {A : Option Addr} (ho : w.cell? ⟨Bo, 0, none⟩ = some (.func (.func 47) #[] #[.pointer (some ⟨Bn, 0, none⟩)])) (h : w.cell? ⟨Bn, 0, none⟩ = some (.slice A n c)) (x y : Int) :
    Calls Tryz.prog 49 #[.agg #[.int .i64 x, .int .i64 y], .pointer (some ⟨Bo, 0, none⟩)] w fun e w' => e = .returned (.bool (outP n (x, y))) ∧ Chg (fun _ => False) w w' := by
  have hc := (Chg.refl (fun _ => False) w).alloc (.cells #[.int .i64 x, .int .i64 y] 32)
  have hb := heap_new w (.cells #[.int .i64 x, .int .i64 y] 32)
  have z0 := cell_of_heap hb 0
  have z1 := cell_of_heap hb 1
  simp only [List.getElem?_toArray, List.getElem?_cons_zero, List.getElem?_cons_succ] at z0 z1
  have h1 := make1_any (hc.cell h (fun x => x)) x
  have h2 := make1_any (hc.cell h (fun x => x)) y
  have ho' := hc.cell ho (fun x => x)
  have HC := Lib.hid hc
  have e : outP n (x, y) = (outI n x || outI n y) := rfl
  rw [e]
  generalize outI n x = r1 at *
  generalize outI n y = r2 at *
  clear hc hb h ho e
  cases r1 with
  | true =>
    go_enter Tryz.func49, Tryz.ntmps49
    go_wp2_with (first | (go_at_call 47; refine h1.mono ?_; rintro e w' ⟨rfl, rfl⟩))
    go_ret
    exact ⟨rfl, HC.out⟩
  | false =>
    have t1 : True := trivial
    have t2 : True := trivial
    go_enter Tryz.func49, Tryz.ntmps49
    go_wp2_with (first | (go_at_call 47; have _t := t1; clear _t t1; refine h1.mono ?_; rintro e w' ⟨rfl, rfl⟩) | (go_at_call 47; have _t := t2; clear _t t2; refine h2.mono ?_; rintro e w' ⟨rfl, rfl⟩))
    go_ret
    exact ⟨by simp, HC.out⟩
set_option maxHeartbeats 2000000 in
theorem idx_pairs {w : World} {v : Value} {L : List (Int × Int)} {Bo Bn n c : Nat} {A : Option Addr} (hL : InPairs w v L) (hl : L.length ≤ 140737488355328) (ho : w.cell? ⟨Bo, 0, none⟩ = some (.func (.func 47) #[] #[.pointer (some ⟨Bn, 0, none⟩)])) (h : w.cell? ⟨Bn, 0, none⟩ = some (.slice A n c)) :
    Calls Tryz.prog 88 #[v, .func (.func 49) #[] #[.pointer (some ⟨Bo, 0, none⟩)]] w fun e w' => ∃ k : Int, e = .returned (.int .i64 k) ∧ (decide (k ≥ 0)) = L.any (outP n) ∧ Chg (fun _ => False) w w' := by
  obtain ⟨a, cap, rfl, hc⟩ := hL
  have HL := Lib.hid hc
  clear hc
  go_enter Tryz.func88, Tryz.ntmps88
  go_wp2_with fail
  go_loopw [8] (fun a wr => ∃ k : Nat, a = .int .i64 k ∧ k ≤ L.length ∧ Chg (fun _ => False) w wr ∧ Hid ((L.take k).any (outP n) = false)) (fun a _ => L.length - (intOf a).toNat)
  case atStart => exact ⟨0, rfl, by omega, Chg.refl _ _, Lib.hid (by simp)⟩
  case round =>
    obtain ⟨k, rfl, k0, hC, HK⟩ := hrel
    by_cases hk : k < L.length
    · obtain ⟨g, o, rfl, c1, c2⟩ := HL.out k hk
      have d1 := hC.cell c1 (fun x => x)
      have d2 := hC.cell c2 (fun x => x)
      have hm := make2_any (hC.cell ho (fun x => x)) (hC.cell h (fun x => x)) (L.getD k (0, 0)).1 (L.getD k (0, 0)).2
      have hw3 : IntKind.i64.wrap ((k : Int) + 1) = k + 1 := IntWalk.i64_in _ ⟨by omega, by omega⟩
      have ht : (L.take (k + 1)).any (outP n) = ((L.take k).any (outP n) || outP n (L.getD k (0, 0))) := by
        rw [List.take_succ_eq_append_getElem hk, List.any_append]
        simp [List.getD, hk]
      have ht2 : outP n (L.getD k (0, 0)) = true → L.any (outP n) = true := fun h => List.any_eq_true.2 ⟨L.getD k (0, 0), by simp [List.getD, hk], h⟩
      rw [show ((L.getD k (0, 0)).1, (L.getD k (0, 0)).2) = L.getD k (0, 0) from rfl] at hm
      have HT := Lib.hid ht
      have HT2 := Lib.hid ht2
      clear c1 c2 ht ht2
      generalize hx : (L.getD k (0, 0)).1 = x at *
      generalize hy : (L.getD k (0, 0)).2 = y at *
      obtain ⟨r, hr⟩ : ∃ r, outP n (L.getD k (0, 0)) = r := ⟨_, rfl⟩
      rw [hr] at hm
      have HR := Lib.hid hr
      clear hr hx hy
      cases r with
      | true =>
        go_wp2_with (first | (go_at_call 49; refine hm.mono ?_; rintro e w2 ⟨rfl, hC2⟩))
        go_ret
        exact ⟨k, rfl, by rw [HT2.out HR.out]; simp, hC.trans hC2⟩
      | false =>
        go_wp2_with (first | (go_at_call 49; refine hm.mono ?_; rintro e w2 ⟨rfl, hC2⟩))
        go_roundw
        case rel => exact ⟨k + 1, by go_num, by omega, hC.trans hC2, Lib.hid (by rw [HT.out, HK.out, HR.out]; rfl)⟩
        case measure => simp [intOf]; omega
    · have hkn : k = L.length := by omega
      have HN := Lib.hid hkn
      clear hkn
      go_wp2_with fail
      go_ret
      refine ⟨-1, rfl, ?_, hC⟩
      have := HK.out
      rw [HN.out, List.take_length] at this
      rw [this]
      rfl
theorem contains_pairs {w : World} {v : Value} {L : List (Int × Int)} {Bo Bn n c : Nat} {A : Option Addr} (hL : InPairs w v L) (hl : L.length ≤ 140737488355328) (ho : w.cell? ⟨Bo, 0, none⟩ = some (.func (.func 47) #[] #[.pointer (some ⟨Bn, 0, none⟩)])) (h : w.cell? ⟨Bn, 0, none⟩ = some (.slice A n c)) :
    Calls Tryz.prog 48 #[v, .func (.func 49) #[] #[.pointer (some ⟨Bo, 0, none⟩)]] w fun e w' => e = .returned (.bool (L.any (outP n))) ∧ Chg (fun _ => False) w w' := by
  have hi := idx_pairs hL hl ho h
  obtain ⟨a, cap, rfl, hc⟩ := hL
  obtain ⟨r, hr⟩ : ∃ r, L.any (outP n) = r := ⟨_, rfl⟩
  rw [hr] at hi ⊢
  clear hc hr ho h
  go_enter Tryz.func48, Tryz.ntmps48
  go_wp2_with (first | (go_at_call 88; refine hi.mono ?_; rintro e w2 ⟨k, rfl, hk, hC2⟩))
  go_ret
  exact ⟨by rw [← hk]; rfl, hC2⟩
end Go.Proofs.YtfhmmekamommcaaGreatDoor
