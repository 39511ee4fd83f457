/- Lists held one against the other. -/
import Derived.Test.YtkonpkejddcegaaDoorOrd11
namespace Go.Proofs.YtkonpkejddcegaaDoor
set_option linter.unusedVariables false
set_option linter.unusedSimpArgs false
open Go Go.RowKit Go.Proofs Go.Shelf
/-- a slice of whole numbers reads as a list -/
def HasInts (w : World) (v : Value) (l : List Nat) : Prop := (v = .slice none 0 0 ∧ l = []) ∨ ∃ g cap, v = .slice (some ⟨g, 0, none⟩) l.length cap ∧ ∀ i, i < l.length → w.cell? ⟨g, i, none⟩ = some (.int .i64 (l.getD i 0 : Nat))
theorem own_ints {w : World} {base : Nat} {v : Value} {l : List Nat} (h : w.ownsRow base 3 1 v l.length (nints l)) : HasInts w v l := by
  rcases h.2 with ⟨rfl, h0⟩ | ⟨g, cap, cur, rfl, _, hh, _, _, _, ht⟩
  · exact .inl ⟨rfl, List.length_eq_zero_iff.1 h0⟩
  · refine .inr ⟨g, cap, rfl, fun i hi => ?_⟩
    rw [cell_of_heap hh]
    have h1 : (cur.toList.take (l.length * 1))[i]? = (nints l)[i]? := by rw [ht]
    rw [List.getElem?_take_of_lt (by omega)] at h1
    have h2 : (nints l)[i]? = some (.int .i64 (l.getD i 0 : Nat)) := by
      simp [nints, List.getD, hi]
    rw [h2] at h1
    simpa using h1
theorem HasInts.chg {w w' : World} {v : Value} {l : List Nat} (h : HasInts w v l) (hc : Chg (fun _ => False) w w') : HasInts w' v l := by
  rcases h with h | ⟨g, cap, rfl, h⟩
  · exact .inl h
  · exact .inr ⟨g, cap, rfl, fun i hi => by
      have h1 := h i hi
      exact (World.cell?_of_block (w := w) (hc.block _ (World.block_lt_of_cell? w _ h1) (fun x => x))).trans h1⟩
def BoolPost (w : World) (r : Bool) (e : Ending) (w' : World) : Prop := e = .returned (.bool r) ∧ Chg (fun _ => False) w w'
theorem eqInts_any (w : World) (va vb : Value) (l m : List Nat) (ha : HasInts w va l) (hb : HasInts w vb m) (hl : l.length ≤ 1000000) (hm : m.length ≤ 1000000) :
    Calls Tryd.prog 19 #[va, vb] w (BoolPost w (decide (l = m))) := by
  by_cases hlen : l.length = m.length
  · rcases ha with ⟨rfl, rfl⟩ | ⟨g, cap, rfl, ha⟩
    · obtain rfl : m = [] := List.length_eq_zero_iff.1 hlen.symm
      rcases hb with ⟨rfl, _⟩ | ⟨g', cap', rfl, hb⟩
      · clear hlen hl hm
        go_enter Tryd.func19, Tryd.ntmps19
        go_wp2
        go_loop [5] (fun i => i = .int .i64 0) (fun _ => 0)
        case atStart => rfl
        case round =>
          subst hrel
          go_wp2
          go_ret
          exact ⟨by simp, Chg.refl _ _⟩
      · clear hlen hl hm hb
        go_enter Tryd.func19, Tryd.ntmps19
        go_wp2
        go_loop [5] (fun i => i = .int .i64 0) (fun _ => 0)
        case atStart => rfl
        case round =>
          subst hrel
          go_wp2
          go_ret
          exact ⟨by simp, Chg.refl _ _⟩
    · rcases hb with ⟨rfl, rfl⟩ | ⟨g', cap', rfl, hb⟩
      · obtain rfl : l = [] := List.length_eq_zero_iff.1 hlen
        clear hlen hl hm ha
        go_enter Tryd.func19, Tryd.ntmps19
        go_wp2
        go_loop [5] (fun i => i = .int .i64 0) (fun _ => 0)
        case atStart => rfl
        case round =>
          subst hrel
          go_wp2
          go_ret
          exact ⟨by simp, Chg.refl _ _⟩
      · rw [← hlen]
        have Hlen := Lib.hid hlen
        have Ha := Lib.hid ha
        have Hb := Lib.hid hb
        clear hlen ha hb hm
        have e0 : ((l.length : Int) != (l.length : Int)) = false := by simp
        go_enter Tryd.func19, Tryd.ntmps19
        go_wp2
        go_loopw [5] (fun i wr => ∃ k : Nat, k ≤ l.length ∧ i = .int .i64 k ∧ (∀ j, j < k → l.getD j 0 = m.getD j 0) ∧ Chg (fun _ => False) w wr) (fun i _ => l.length - (intOf i).toNat)
        case atStart => exact ⟨0, Nat.zero_le _, rfl, fun j h => by omega, Chg.refl _ _⟩
        case round =>
          obtain ⟨k, hk, rfl, heq, hch⟩ := hrel
          by_cases hlt : k < l.length
          · have c1 : wr.cell? ⟨g, k, none⟩ = some (.int .i64 (l.getD k 0 : Nat)) := by
              have h1 := Ha.out k hlt
              exact (World.cell?_of_block (w := w) (hch.block _ (World.block_lt_of_cell? w _ h1) (fun x => x))).trans h1
            have c2 : wr.cell? ⟨g', k, none⟩ = some (.int .i64 (m.getD k 0 : Nat)) := by
              have h1 := Hb.out k (by rw [← Hlen.out]; exact hlt)
              exact (World.cell?_of_block (w := w) (hch.block _ (World.block_lt_of_cell? w _ h1) (fun x => x))).trans h1
            have Heq := Lib.hid heq
            have Hch := Lib.hid hch
            clear heq hch
            generalize hx : l.getD k 0 = x at c1
            generalize hy : m.getD k 0 = y at c2
            have Hx := Lib.hid hx
            have Hy := Lib.hid hy
            clear hx hy
            go_wp2
            have hS : wr.drew.cell? ⟨g, k, none⟩ = some (.int .i64 (x : Int)) ∧ wr.drew.cell? ⟨g', k, none⟩ = some (.int .i64 (y : Int)) := ⟨c1, c2⟩
            refine region_lone (fun W' => W'.cell? ⟨g, k, none⟩ = some (.int .i64 (x : Int)) ∧ W'.cell? ⟨g', k, none⟩ = some (.int .i64 (y : Int))) [] (by kernel_rfl) ?_
            refine take_one 0 hS rfl (by kernel_rfl) rfl ?_
            apply Exists.intro
            refine And.intro (fun W' hS' => ?y0) (And.intro (fun _ _ _ h => h) ?_)
            case y0 => obtain ⟨d1, d2⟩ := hS'; go_simp; rfl
            refine take_one 1 hS rfl (by kernel_rfl) rfl ?_
            apply Exists.intro
            refine And.intro (fun W' hS' => ?y1) (And.intro (fun _ _ _ h => h) ?_)
            case y1 => obtain ⟨d1, d2⟩ := hS'; go_simp; rfl
            refine take_one 2 hS rfl (by kernel_rfl) rfl ?_
            apply Exists.intro
            refine And.intro (fun W' hS' => ?y2) (And.intro (fun _ _ _ h => h) ?_)
            case y2 => obtain ⟨d1, d2⟩ := hS'; go_simp; rfl
            refine take_one 3 hS rfl (by kernel_rfl) rfl ?_
            apply Exists.intro
            refine And.intro (fun W' hS' => ?y3) (And.intro (fun _ _ _ h => h) ?_)
            case y3 => obtain ⟨d1, d2⟩ := hS'; go_simp; rfl
            refine take_one 4 hS rfl (by kernel_rfl) rfl ?_
            apply Exists.intro
            refine And.intro (fun W' hS' => ?y4) (And.intro (fun _ _ _ h => h) ?_)
            case y4 => obtain ⟨d1, d2⟩ := hS'; go_simp; rfl
            refine take_one 5 hS rfl (by kernel_rfl) rfl ?_
            apply Exists.intro
            refine And.intro (fun W' hS' => ?y5) (And.intro (fun _ _ _ h => h) ?_)
            case y5 => obtain ⟨d1, d2⟩ := hS'; go_simp; rfl
            refine take_one 6 hS rfl (by kernel_rfl) rfl ?_
            apply Exists.intro
            refine And.intro (fun W' hS' => ?y6) (And.intro (fun _ _ _ h => h) ?_)
            case y6 => obtain ⟨d1, d2⟩ := hS'; go_simp; rfl
            refine take_one 7 hS rfl (by kernel_rfl) rfl ?_
            apply Exists.intro
            refine And.intro (fun W' hS' => ?y7) (And.intro (fun _ _ _ h => h) ?_)
            case y7 => obtain ⟨d1, d2⟩ := hS'; go_simp; rfl
            refine take_one 8 hS rfl (by kernel_rfl) rfl ?_
            apply Exists.intro
            refine And.intro (fun W' hS' => ?y8) (And.intro (fun _ _ _ h => h) ?_)
            case y8 => obtain ⟨d1, d2⟩ := hS'; go_simp; rfl
            refine all_done (by kernel_rfl) ?_ _
            by_cases hxy : x = y
            · have e1 : ((x : Int) != (y : Int)) = false := by rw [hxy]; simp
              have Hxy := Lib.hid hxy
              clear hxy
              go_simp
              go_wp2
              go_roundw
              case rel =>
                refine ⟨k + 1, by omega, by go_num, fun j hj => ?_, Hch.out.drew⟩
                by_cases e : j < k
                · exact Heq.out j e
                · obtain rfl : j = k := by omega
                  rw [Hx.out, Hy.out, Hxy.out]
              case measure => simp [intOf]; omega
            · have e1 : ((x : Int) != (y : Int)) = true := by rw [bne_iff_ne]; omega
              have Hxy := Lib.hid hxy
              clear hxy
              go_simp
              go_wp2
              go_ret
              exact ⟨by rw [decide_eq_false (fun h => Hxy.out (by rw [← Hx.out, ← Hy.out, h]))]; rfl, Hch.out.drew⟩
          · obtain rfl : k = l.length := by omega
            have Heq := Lib.hid heq
            have Hch := Lib.hid hch
            clear heq hch
            go_wp2
            go_ret
            have hfin : l = m := List.ext_getElem Hlen.out fun i h1 h2 => by
              have := Heq.out i h1
              simpa [List.getD, h1, h2] using this
            exact ⟨by rw [decide_eq_true hfin]; rfl, Hch.out⟩
  · have e0 : ((l.length : Int) != (m.length : Int)) = true := by rw [bne_iff_ne]; omega
    have er : decide (l = m) = false := decide_eq_false (fun h => hlen (by rw [h]))
    rw [er]
    rcases ha with ⟨rfl, rfl⟩ | ⟨g, cap, rfl, ha⟩
    · rcases hb with ⟨rfl, rfl⟩ | ⟨g', cap', rfl, hb⟩
      · exact absurd rfl hlen
      · clear hlen er hb
        rw [show ((([] : List Nat).length : Nat) : Int) = 0 from rfl] at e0
        go_enter Tryd.func19, Tryd.ntmps19
        go_wp2
        go_ret
        exact ⟨rfl, Chg.refl _ _⟩
    · rcases hb with ⟨rfl, rfl⟩ | ⟨g', cap', rfl, hb⟩
      · clear hlen er ha
        rw [show ((([] : List Nat).length : Nat) : Int) = 0 from rfl] at e0
        go_enter Tryd.func19, Tryd.ntmps19
        go_wp2
        go_ret
        exact ⟨rfl, Chg.refl _ _⟩
      · clear hlen er ha hb
        go_enter Tryd.func19, Tryd.ntmps19
        go_wp2
        go_ret
        exact ⟨rfl, Chg.refl _ _⟩
end Go.Proofs.YtkonpkejddcegaaDoor
