/- Lists of pairs held one against the other. -/
import Derived.Test.YtkonpkejddcegaaDoorOrd12
import Derived.ChangeKeysEq
import Derived.Laws.StructEq
namespace Go.Proofs.YtkonpkejddcegaaDoor
set_option linter.unusedVariables false
set_option linter.unusedSimpArgs false
open Go Go.RowKit Go.Proofs Go.Shelf
theorem cellsInt : Tryd.prog.cellsOf 3 = 1 := by kernel_rfl
theorem partInt (v : Value) (xs : Array Value) (i : Nat) (h : xs[i]? = some v) (w : World) : (part 3 xs i).run Tryd.prog w = .ok v w := by
  unfold part
  simp [go_sem, h]
theorem neq_pair (a b c d : Int) (w : World) : (binOp .neq 31 (.agg #[.int .i64 a, .int .i64 b]) (.agg #[.int .i64 c, .int .i64 d])).run Tryd.prog w = .ok (.bool (!(a == c && b == d))) w := by
  obtain ⟨i0, hi, hz0, hz1, hz2⟩ := info_parts infoInt
  have h := fun (d' : Nat) (w : World) => run_equalIn_array (P := Tryd.prog) w d' #[.int .i64 a, .int .i64 b] #[.int .i64 c, .int .i64 d] Tryd.underlying31 hi
  have u3 := Tryd.underlying3
  have p0 := fun w => partInt (.int .i64 a) #[.int .i64 a, .int .i64 b] 0 rfl w
  have p1 := fun w => partInt (.int .i64 b) #[.int .i64 a, .int .i64 b] 1 rfl w
  have q0 := fun w => partInt (.int .i64 c) #[.int .i64 c, .int .i64 d] 0 rfl w
  have q1 := fun w => partInt (.int .i64 d) #[.int .i64 c, .int .i64 d] 1 rfl w
  have e1 := fun (d' : Nat) (x y : Int) (w : World) => run_equalIn_int (P := Tryd.prog) w d' 3 .i64 .i64 x y u3
  simp only [binOp]
  simp [Op.equal, Op.maxDepth, h, cellsInt, List.range_succ, Op.eqItems, p0, p1, q0, q1, e1]
  by_cases h1 : a = c <;> by_cases h2 : b = d <;> simp [h1, h2]
/-- are two pairs unlike? -/
def prNe (x y : Nat × Nat) : Bool := decide (x ≠ y)
theorem ne_pair (x y : Nat × Nat) (w : World) : (binOp .neq 31 (.agg #[.int .i64 (x.1 : Nat), .int .i64 (x.2 : Nat)]) (.agg #[.int .i64 (y.1 : Nat), .int .i64 (y.2 : Nat)])).run Tryd.prog w = .ok (.bool (prNe x y)) w := by
  rw [neq_pair]
  congr 2
  unfold prNe
  rw [Bool.eq_iff_iff]
  have : x = y ↔ x.1 = y.1 ∧ x.2 = y.2 := Prod.ext_iff
  simp [this]
  omega
/-- a slice of pairs reads as a list -/
def HasPairs (w : World) (v : Value) (l : List (Nat × Nat)) : Prop := (v = .slice none 0 0 ∧ l = []) ∨ ∃ g cap, v = .slice (some ⟨g, 0, none⟩) l.length cap ∧ ∀ i, i < l.length → w.cell? ⟨g, i * 2, none⟩ = some (.int .i64 ((l.getD i (0, 0)).1 : Nat)) ∧ w.cell? ⟨g, i * 2 + 1, none⟩ = some (.int .i64 ((l.getD i (0, 0)).2 : Nat))
theorem prs_get (l : List (Nat × Nat)) (i : Nat) (h : i < l.length) : (prs l)[i * 2]? = some (.int .i64 ((l.getD i (0, 0)).1 : Nat)) ∧ (prs l)[i * 2 + 1]? = some (.int .i64 ((l.getD i (0, 0)).2 : Nat)) := by
  induction l generalizing i with
  | nil => simp at h
  | cons x l ih =>
    have e : prs (x :: l) = .int .i64 (x.1 : Int) :: .int .i64 (x.2 : Int) :: prs l := by simp [prs]
    rw [e]
    cases i with
    | zero => simp
    | succ i =>
      have h' : i < l.length := by simpa using h
      have := ih i h'
      rw [show (i + 1) * 2 = i * 2 + 1 + 1 by omega]
      simpa using this
theorem own_pairs {w : World} {base : Nat} {v : Value} {l : List (Nat × Nat)} (h : w.ownsRow base 31 2 v l.length (prs l)) : HasPairs w v l := by
  rcases h.2 with ⟨rfl, h0⟩ | ⟨g, cap, cur, rfl, _, hh, _, _, _, ht⟩
  · exact .inl ⟨rfl, List.length_eq_zero_iff.1 h0⟩
  · refine .inr ⟨g, cap, rfl, fun i hi => ?_⟩
    rw [cell_of_heap hh, cell_of_heap hh]
    have h1 : ∀ j : Nat, (cur.toList.take (l.length * 2))[j]? = (prs l)[j]? := fun j => by rw [ht]
    have h2 := h1 (i * 2)
    have h3 := h1 (i * 2 + 1)
    rw [List.getElem?_take_of_lt (by omega)] at h2 h3
    rw [(prs_get l i hi).1] at h2
    rw [(prs_get l i hi).2] at h3
    exact ⟨by simpa using h2, by simpa using h3⟩
theorem HasPairs.chg {w w' : World} {v : Value} {l : List (Nat × Nat)} (h : HasPairs w v l) (hc : Chg (fun _ => False) w w') : HasPairs w' v l := by
  rcases h with h | ⟨g, cap, rfl, h⟩
  · exact .inl h
  · exact .inr ⟨g, cap, rfl, fun i hi => by
      have h1 := (h i hi).1
      have h2 := (h i hi).2
      exact ⟨hc.cell h1 (fun x => x), hc.cell h2 (fun x => x)⟩⟩
theorem is_any (w : World) (va vb : Value) (l m : List (Nat × Nat)) (ha : HasPairs w va l) (hb : HasPairs w vb m) (hl : l.length ≤ 1000000) (hm : m.length ≤ 1000000) :
    Calls Tryd.prog 20 #[va, vb] w (BoolPost w (decide (l = m))) := by
  by_cases hlen : l.length = m.length
  · rcases ha with ⟨rfl, rfl⟩ | ⟨g, cap, rfl, ha⟩
    · obtain rfl : m = [] := List.length_eq_zero_iff.1 hlen.symm
      rcases hb with ⟨rfl, _⟩ | ⟨g', cap', rfl, hb⟩
      · clear hlen hl hm
        go_enter Tryd.func20, Tryd.ntmps20
        go_wp2
        go_loop [5] (fun i => i = .int .i64 0) (fun _ => 0)
        case atStart => rfl
        case round =>
          subst hrel
          go_wp2
          go_ret
          exact ⟨by simp, Chg.refl _ _⟩
      · clear hlen hl hm hb
        go_enter Tryd.func20, Tryd.ntmps20
        go_wp2
        go_loop [5] (fun i => i = .int .i64 0) (fun _ => 0)
        case atStart => rfl
        case round =>
          subst hrel
          go_wp2
          go_ret
          exact ⟨by simp, Chg.refl _ _⟩
    · rcases hb with ⟨rfl, rfl⟩ | ⟨g', cap', rfl, hb⟩
      · obtain rfl : l = [] := List.length_eq_zero_iff.1 hlen
        clear hlen hl hm ha
        go_enter Tryd.func20, Tryd.ntmps20
        go_wp2
        go_loop [5] (fun i => i = .int .i64 0) (fun _ => 0)
        case atStart => rfl
        case round =>
          subst hrel
          go_wp2
          go_ret
          exact ⟨by simp, Chg.refl _ _⟩
      · rw [← hlen]
        have Hlen := Lib.hid hlen
        have Ha := Lib.hid ha
        have Hb := Lib.hid hb
        clear hlen ha hb hm
        have e0 : ((l.length : Int) != (l.length : Int)) = false := by simp
        go_enter Tryd.func20, Tryd.ntmps20
        go_wp2
        go_loopw [5] (fun i wr => ∃ k : Nat, k ≤ l.length ∧ i = .int .i64 k ∧ (∀ j, j < k → l.getD j (0, 0) = m.getD j (0, 0)) ∧ Chg (fun _ => False) w wr) (fun i _ => l.length - (intOf i).toNat)
        case atStart => exact ⟨0, Nat.zero_le _, rfl, fun j h => by omega, Chg.refl _ _⟩
        case round =>
          obtain ⟨k, hk, rfl, heq, hch⟩ := hrel
          by_cases hlt : k < l.length
          · have hc : (wr.cell? ⟨g, k * 2, none⟩ = some (.int .i64 ((l.getD k (0, 0)).1 : Nat)) ∧ wr.cell? ⟨g, k * 2 + 1, none⟩ = some (.int .i64 ((l.getD k (0, 0)).2 : Nat))) := by
              have h1 := Ha.out k hlt
              exact ⟨hch.cell h1.1 (fun x => x), hch.cell h1.2 (fun x => x)⟩
            have hd : (wr.cell? ⟨g', k * 2, none⟩ = some (.int .i64 ((m.getD k (0, 0)).1 : Nat)) ∧ wr.cell? ⟨g', k * 2 + 1, none⟩ = some (.int .i64 ((m.getD k (0, 0)).2 : Nat))) := by
              have h1 := Hb.out k (by rw [← Hlen.out]; exact hlt)
              exact ⟨hch.cell h1.1 (fun x => x), hch.cell h1.2 (fun x => x)⟩
            have Heq := Lib.hid heq
            have Hch := Lib.hid hch
            clear heq hch
            generalize hx : l.getD k (0, 0) = x at hc
            generalize hy : m.getD k (0, 0) = y at hd
            obtain ⟨c1, c2⟩ := hc
            obtain ⟨c3, c4⟩ := hd
            have Hx := Lib.hid hx
            have Hy := Lib.hid hy
            have hne := fun w => ne_pair x y w
            clear hx hy
            go_wp2
            have hS : wr.drew.cell? ⟨g, k * 2, none⟩ = some (.int .i64 (x.1 : Nat)) ∧ wr.drew.cell? ⟨g, k * 2 + 1, none⟩ = some (.int .i64 (x.2 : Nat)) ∧ wr.drew.cell? ⟨g', k * 2, none⟩ = some (.int .i64 (y.1 : Nat)) ∧ wr.drew.cell? ⟨g', k * 2 + 1, none⟩ = some (.int .i64 (y.2 : Nat)) := ⟨c1, c2, c3, c4⟩
            refine region_lone (fun W' => W'.cell? ⟨g, k * 2, none⟩ = some (.int .i64 (x.1 : Nat)) ∧ W'.cell? ⟨g, k * 2 + 1, none⟩ = some (.int .i64 (x.2 : Nat)) ∧ W'.cell? ⟨g', k * 2, none⟩ = some (.int .i64 (y.1 : Nat)) ∧ W'.cell? ⟨g', k * 2 + 1, none⟩ = some (.int .i64 (y.2 : Nat))) [] (by kernel_rfl) ?_
            refine take_one 0 hS rfl (by kernel_rfl) rfl ?_
            apply Exists.intro
            refine And.intro (fun W' hS' => ?y0) (And.intro (fun _ _ _ h => h) ?_)
            case y0 => obtain ⟨d1, d2, d3, d4⟩ := hS'; go_simp; rfl
            refine take_one 1 hS rfl (by kernel_rfl) rfl ?_
            apply Exists.intro
            refine And.intro (fun W' hS' => ?y1) (And.intro (fun _ _ _ h => h) ?_)
            case y1 => obtain ⟨d1, d2, d3, d4⟩ := hS'; go_simp; rfl
            refine take_one 2 hS rfl (by kernel_rfl) rfl ?_
            apply Exists.intro
            refine And.intro (fun W' hS' => ?y2) (And.intro (fun _ _ _ h => h) ?_)
            case y2 => obtain ⟨d1, d2, d3, d4⟩ := hS'; go_simp; rfl
            refine take_one 3 hS rfl (by kernel_rfl) rfl ?_
            apply Exists.intro
            refine And.intro (fun W' hS' => ?y3) (And.intro (fun _ _ _ h => h) ?_)
            case y3 => obtain ⟨d1, d2, d3, d4⟩ := hS'; go_simp; rfl
            refine take_one 4 hS rfl (by kernel_rfl) rfl ?_
            apply Exists.intro
            refine And.intro (fun W' hS' => ?y4) (And.intro (fun _ _ _ h => h) ?_)
            case y4 => obtain ⟨d1, d2, d3, d4⟩ := hS'; go_simp; rfl
            refine take_one 5 hS rfl (by kernel_rfl) rfl ?_
            apply Exists.intro
            refine And.intro (fun W' hS' => ?y5) (And.intro (fun _ _ _ h => h) ?_)
            case y5 => obtain ⟨d1, d2, d3, d4⟩ := hS'; go_simp; rfl
            refine take_one 6 hS rfl (by kernel_rfl) rfl ?_
            apply Exists.intro
            refine And.intro (fun W' hS' => ?y6) (And.intro (fun _ _ _ h => h) ?_)
            case y6 => obtain ⟨d1, d2, d3, d4⟩ := hS'; go_simp; rfl
            refine take_one 7 hS rfl (by kernel_rfl) rfl ?_
            apply Exists.intro
            refine And.intro (fun W' hS' => ?y7) (And.intro (fun _ _ _ h => h) ?_)
            case y7 => obtain ⟨d1, d2, d3, d4⟩ := hS'; go_simp; rfl
            refine take_one 8 hS rfl (by kernel_rfl) rfl ?_
            apply Exists.intro
            refine And.intro (fun W' hS' => ?y8) (And.intro (fun _ _ _ h => h) ?_)
            case y8 => obtain ⟨d1, d2, d3, d4⟩ := hS'; go_simp; rfl
            refine all_done (by kernel_rfl) ?_ _
            by_cases hxy : x = y
            · have e1 : prNe x y = false := by simp [prNe, hxy]
              have Hxy := Lib.hid hxy
              clear hxy
              go_simp
              go_wp2
              go_roundw
              case rel =>
                refine ⟨k + 1, by omega, by go_num, fun j hj => ?_, Hch.out.drew⟩
                by_cases e : j < k
                · exact Heq.out j e
                · obtain rfl : j = k := by omega
                  rw [Hx.out, Hy.out, Hxy.out]
              case measure => simp [intOf]; omega
            · have e1 : prNe x y = true := by simp [prNe, hxy]
              have Hxy := Lib.hid hxy
              clear hxy
              go_simp
              go_wp2
              go_ret
              exact ⟨by rw [decide_eq_false (fun h => Hxy.out (by rw [← Hx.out, ← Hy.out, h]))]; rfl, Hch.out.drew⟩
          · obtain rfl : k = l.length := by omega
            have Heq := Lib.hid heq
            have Hch := Lib.hid hch
            clear heq hch
            go_wp2
            go_ret
            have hfin : l = m := List.ext_getElem Hlen.out fun i h1 h2 => by
              have := Heq.out i h1
              simpa [List.getD, h1, h2] using this
            exact ⟨by rw [decide_eq_true hfin]; rfl, Hch.out⟩
  · have e0 : ((l.length : Int) != (m.length : Int)) = true := by rw [bne_iff_ne]; omega
    have er : decide (l = m) = false := decide_eq_false (fun h => hlen (by rw [h]))
    rw [er]
    rcases ha with ⟨rfl, rfl⟩ | ⟨g, cap, rfl, ha⟩
    · rcases hb with ⟨rfl, rfl⟩ | ⟨g', cap', rfl, hb⟩
      · exact absurd rfl hlen
      · clear hlen er hb
        rw [show ((([] : List (Nat × Nat)).length : Nat) : Int) = 0 from rfl] at e0
        go_enter Tryd.func20, Tryd.ntmps20
        go_wp2
        go_ret
        exact ⟨rfl, Chg.refl _ _⟩
    · rcases hb with ⟨rfl, rfl⟩ | ⟨g', cap', rfl, hb⟩
      · clear hlen er ha
        rw [show ((([] : List (Nat × Nat)).length : Nat) : Int) = 0 from rfl] at e0
        go_enter Tryd.func20, Tryd.ntmps20
        go_wp2
        go_ret
        exact ⟨rfl, Chg.refl _ _⟩
      · clear hlen er ha hb
        go_enter Tryd.func20, Tryd.ntmps20
        go_wp2
        go_ret
        exact ⟨rfl, Chg.refl _ _⟩
end Go.Proofs.YtkonpkejddcegaaDoor
