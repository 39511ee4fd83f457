/- The document's lattice: join and meet over its table. -/
import Derived.Test.YtfmacnkjhboefaaGreatDoorRefOrd
namespace Go.Proofs.YtfmacnkjhboefaaGreatDoor
set_option linter.unusedVariables false
set_option linter.unusedSimpArgs false
open Go Go.RowKit Go.Proofs Go.Shelf Go.Sort
theorem firstD_hit {n : Nat} {p : Nat → Bool} {k : Nat} (hk : k < n) (h : p k = true) (hn : ∀ j, j < k → p j = false) : firstD n p = k := by
  unfold firstD
  have : (List.range n).find? p = some k := by
    rw [List.find?_eq_some_iff_getElem]
    exact ⟨h, k, by simpa using hk, by simp, fun j hj => by have := hn j hj; simpa using this⟩
  rw [this]
theorem firstD_none {n : Nat} {p : Nat → Bool} (hn : ∀ j, j < n → p j = false) : firstD n p = -1 := by
  unfold firstD
  have : (List.range n).find? p = none := by
    rw [List.find?_eq_none]
    intro a ha
    have := hn a (List.mem_range.1 ha)
    simp [this]
  rw [this]
/-- the document's lattice, by its cells -/
structure RefT (w : World) (la bo n : Nat) (Le : Nat → Nat → Bool) : Prop where
  ord : w.cell? ⟨la, 1, none⟩ = some (refp bo)
  many : w.cell? ⟨bo, 0, none⟩ = some (.int .i64 n)
  le : ∀ i j, i < 10 → j < 10 → w.cell? ⟨la, 2 + i * 10 + j, none⟩ = some (.bool (Le i j))
  n10 : n ≤ 10
theorem RefT.same {w w' : World} {la bo n : Nat} {Le : Nat → Nat → Bool} (h : RefT w la bo n Le) (hc : Chg (fun _ => False) w w') : RefT w' la bo n Le :=
  ⟨hc.cell h.ord (fun x => x), hc.cell h.many (fun x => x), fun i j hi hj => hc.cell (h.le i j hi hj) (fun x => x), h.n10⟩
theorem RefT.chg {w w' : World} {la bo n : Nat} {Le : Nat → Nat → Bool} {S : Nat → Prop} (h : RefT w la bo n Le) (hc : Chg S w w') (h1 : ¬ S la) (h2 : ¬ S bo) : RefT w' la bo n Le :=
  ⟨hc.cell h.ord h1, hc.cell h.many h2, fun i j hi hj => hc.cell (h.le i j hi hj) h1, h.n10⟩
theorem all_range_succ (k : Nat) (p : Nat → Bool) : (List.range (k + 1)).all p = ((List.range k).all p && p k) := by
  rw [List.range_succ, List.all_append]; simp
theorem all_range_le {k n : Nat} (h : k ≤ n) {p : Nat → Bool} (hk : (List.range k).all p = false) : (List.range n).all p = false := by
  rw [Bool.eq_false_iff] at hk ⊢
  intro hn
  exact hk (List.all_eq_true.2 fun x hx => List.all_eq_true.1 hn x (List.mem_range.2 (Nat.lt_of_lt_of_le (List.mem_range.1 hx) h)))
set_option maxRecDepth 100000 in
set_option maxHeartbeats 8000000 in
theorem refjoin_some {w : World} {la bo n : Nat} {Le : Nat → Nat → Bool} (h : RefT w la bo n Le) (a b : Nat) (ha : a < n) (hb : b < n) :
    Calls Tryz.prog 63 #[refp la, .int .i64 (a : Int), .int .i64 (b : Int)] w fun e w' => e = .returned (.int .i64 (joinD n Le a b)) ∧ w' = w := by
  have z1 := h.ord
  have z2 := h.many
  have n10 := h.n10
  have HH := Lib.hid h
  obtain ⟨r, hr⟩ : ∃ r, joinD n Le a b = r := ⟨_, rfl⟩
  rw [hr]
  have HR := Lib.hid hr
  have ha10 : (a : Int) < 10 := by omega
  have hb10 : (b : Int) < 10 := by omega
  have ha0 : ¬ (a : Int) < 0 := by omega
  have hb0 : ¬ (b : Int) < 0 := by omega
  clear h hr
  unfold refp at *
  go_enter Tryz.func63, Tryz.ntmps63
  go_wp2_with fail
  go_loop [7] (fun i => ∃ c : Nat, i = .int .i64 c ∧ c ≤ n ∧ Hid (∀ j, j < c → (fun c => (Le a c && Le b c) && (List.range n).all fun d => !(Le a d && Le b d) || Le c d) j = false)) (fun i => n - (intOf i).toNat)
  case atStart => exact ⟨0, rfl, by omega, Lib.hid (fun j h => by omega)⟩
  case round =>
    obtain ⟨c, rfl, c0, HK⟩ := hrel
    by_cases hc : c < n
    · have hw3 : IntKind.i64.wrap ((c : Int) + 1) = c + 1 := IntWalk.i64_in _ ⟨by omega, by omega⟩
      have hc10 : (c : Int) < 10 := by omega
      have hc0 : ¬ (c : Int) < 0 := by omega
      have y1 := HH.out.le a c (by omega) (by omega)
      have y2 := HH.out.le b c (by omega) (by omega)
      obtain ⟨p1, hp1⟩ : ∃ p1, Le a c = p1 := ⟨_, rfl⟩
      obtain ⟨p2, hp2⟩ : ∃ p2, Le b c = p2 := ⟨_, rfl⟩
      rw [hp1] at y1
      rw [hp2] at y2
      have H1 := Lib.hid hp1
      have H2 := Lib.hid hp2
      clear hp1 hp2
      go_upto_region 4 with fail
      go_cut [8] from 21 to 38 (fun v W => v = .bool (p1 && p2) ∧ W = w)
      case first =>
        cases p1 <;> cases p2
        · go_wp2_with fail
          go_meet
          exact ⟨rfl, rfl⟩
        · go_wp2_with fail
          go_meet
          exact ⟨rfl, rfl⟩
        · go_wp2_with fail
          go_meet
          exact ⟨rfl, rfl⟩
        · go_wp2_with fail
          go_meet
          exact ⟨rfl, rfl⟩
      case rest =>
        obtain ⟨rfl, rfl⟩ := hcut
        clear y1 y2
        obtain ⟨l0, hl0⟩ : ∃ l0, (p1 && p2) = l0 := ⟨_, rfl⟩
        rw [hl0]
        have L0 := Lib.hid hl0
        clear hl0
        go_wp2_with fail
        go_loop [8, 9] (fun t i => ∃ (d : Nat) (l : Bool), i = .int .i64 d ∧ d ≤ n ∧ t = .bool l ∧ Hid (l = (l0 && (List.range d).all fun d => !(Le a d && Le b d) || Le c d))) (fun _ i => n - (intOf i).toNat)
        case atStart => exact ⟨0, l0, rfl, by omega, rfl, Lib.hid (by simp)⟩
        case round =>
          obtain ⟨d, l, rfl, d0, rfl, HL⟩ := hrel
          by_cases hd : d < n
          · cases l with
            | true =>
              have hw4 : IntKind.i64.wrap ((d : Int) + 1) = d + 1 := IntWalk.i64_in _ ⟨by omega, by omega⟩
              have hd10 : (d : Int) < 10 := by omega
              have hd0 : ¬ (d : Int) < 0 := by omega
              have y1 := HH.out.le a d (by omega) (by omega)
              have y2 := HH.out.le b d (by omega) (by omega)
              have y3 := HH.out.le c d (by omega) (by omega)
              have hstep : ∀ v : Bool, v = (!(Le a d && Le b d) || Le c d) → v = (l0 && (List.range (d + 1)).all fun d => !(Le a d && Le b d) || Le c d) := fun v hv => by
                rw [all_range_succ, ← Bool.and_assoc, ← HL.out, Bool.true_and]; exact hv
              have HS := Lib.hid hstep
              clear hstep
              obtain ⟨q1, hq1⟩ : ∃ q1, Le a d = q1 := ⟨_, rfl⟩
              obtain ⟨q2, hq2⟩ : ∃ q2, Le b d = q2 := ⟨_, rfl⟩
              obtain ⟨q3, hq3⟩ : ∃ q3, Le c d = q3 := ⟨_, rfl⟩
              rw [hq1] at y1
              rw [hq2] at y2
              rw [hq3] at y3
              have G1 := Lib.hid hq1
              have G2 := Lib.hid hq2
              have G3 := Lib.hid hq3
              clear hq1 hq2 hq3
              cases q1 with
              | false =>
                go_wp2_with fail
                go_round
                case rel => exact ⟨d + 1, true, by go_num, by omega, rfl, Lib.hid (HS.out _ (by rw [G1.out]; rfl))⟩
                case measure => simp [intOf]; omega
              | true =>
                cases q2 with
                | false =>
                  go_wp2_with fail
                  go_round
                  case rel => exact ⟨d + 1, true, by go_num, by omega, rfl, Lib.hid (HS.out _ (by rw [G1.out, G2.out]; rfl))⟩
                  case measure => simp [intOf]; omega
                | true =>
                  go_wp2_with fail
                  go_round
                  case rel => exact ⟨d + 1, q3, by go_num, by omega, rfl, Lib.hid (HS.out _ (by rw [G1.out, G2.out, G3.out]; simp))⟩
                  case measure => simp [intOf]; omega
            | false =>
              have hno : ((Le a c && Le b c) && (List.range n).all fun d => !(Le a d && Le b d) || Le c d) = false := by
                rw [H1.out, H2.out, L0.out]
                have := HL.out.symm
                rw [Bool.and_eq_false_iff] at this ⊢
                exact this.imp id (fun h => all_range_le (by omega) h)
              have HNO := Lib.hid hno
              clear hno
              go_wp2_with fail
              go_round
              case rel => exact ⟨c + 1, by go_num, by omega, Lib.hid (fun j hj => by
                by_cases e : j = c
                · subst e; exact HNO.out
                · exact HK.out j (by omega))⟩
              case measure => simp [intOf]; omega
          · have hdn : d = n := by omega
            have HD := Lib.hid hdn
            clear hdn
            cases l with
            | true =>
              have hyes : ((Le a c && Le b c) && (List.range n).all fun d => !(Le a d && Le b d) || Le c d) = true := by
                rw [H1.out, H2.out, L0.out, ← HD.out]; exact HL.out.symm
              have HY := Lib.hid hyes
              clear hyes
              go_wp2_with fail
              go_ret
              refine ⟨?_, rfl⟩
              rw [← HR.out]
              unfold joinD
              rw [firstD_hit hc HY.out HK.out]
              rfl
            | false =>
              have hno : ((Le a c && Le b c) && (List.range n).all fun d => !(Le a d && Le b d) || Le c d) = false := by
                rw [H1.out, H2.out, L0.out, ← HD.out]; exact HL.out.symm
              have HNO := Lib.hid hno
              clear hno
              go_wp2_with fail
              go_round
              case rel => exact ⟨c + 1, by go_num, by omega, Lib.hid (fun j hj => by
                by_cases e : j = c
                · subst e; exact HNO.out
                · exact HK.out j (by omega))⟩
              case measure => simp [intOf]; omega
    · have hcn : c = n := by omega
      have HN := Lib.hid hcn
      clear hcn
      go_wp2_with fail
      go_ret
      refine ⟨?_, rfl⟩
      rw [← HR.out]
      unfold joinD
      rw [firstD_none (fun j hj => HK.out j (by rw [HN.out]; exact hj))]
      rfl
set_option maxRecDepth 100000 in
set_option maxHeartbeats 8000000 in
theorem refmeet_some {w : World} {la bo n : Nat} {Le : Nat → Nat → Bool} (h : RefT w la bo n Le) (a b : Nat) (ha : a < n) (hb : b < n) :
    Calls Tryz.prog 64 #[refp la, .int .i64 (a : Int), .int .i64 (b : Int)] w fun e w' => e = .returned (.int .i64 (meetD n Le a b)) ∧ w' = w := by
  have z1 := h.ord
  have z2 := h.many
  have n10 := h.n10
  have HH := Lib.hid h
  obtain ⟨r, hr⟩ : ∃ r, meetD n Le a b = r := ⟨_, rfl⟩
  rw [hr]
  have HR := Lib.hid hr
  have ha10 : (a : Int) < 10 := by omega
  have hb10 : (b : Int) < 10 := by omega
  have ha0 : ¬ (a : Int) < 0 := by omega
  have hb0 : ¬ (b : Int) < 0 := by omega
  clear h hr
  unfold refp at *
  go_enter Tryz.func64, Tryz.ntmps64
  go_wp2_with fail
  go_loop [7] (fun i => ∃ c : Nat, i = .int .i64 c ∧ c ≤ n ∧ Hid (∀ j, j < c → (fun c => (Le c a && Le c b) && (List.range n).all fun d => !(Le d a && Le d b) || Le d c) j = false)) (fun i => n - (intOf i).toNat)
  case atStart => exact ⟨0, rfl, by omega, Lib.hid (fun j h => by omega)⟩
  case round =>
    obtain ⟨c, rfl, c0, HK⟩ := hrel
    by_cases hc : c < n
    · have hw3 : IntKind.i64.wrap ((c : Int) + 1) = c + 1 := IntWalk.i64_in _ ⟨by omega, by omega⟩
      have hc10 : (c : Int) < 10 := by omega
      have hc0 : ¬ (c : Int) < 0 := by omega
      have y1 := HH.out.le c a (by omega) (by omega)
      have y2 := HH.out.le c b (by omega) (by omega)
      obtain ⟨p1, hp1⟩ : ∃ p1, Le c a = p1 := ⟨_, rfl⟩
      obtain ⟨p2, hp2⟩ : ∃ p2, Le c b = p2 := ⟨_, rfl⟩
      rw [hp1] at y1
      rw [hp2] at y2
      have H1 := Lib.hid hp1
      have H2 := Lib.hid hp2
      clear hp1 hp2
      go_upto_region 4 with fail
      go_cut [8] from 21 to 38 (fun v W => v = .bool (p1 && p2) ∧ W = w)
      case first =>
        cases p1 <;> cases p2
        · go_wp2_with fail
          go_meet
          exact ⟨rfl, rfl⟩
        · go_wp2_with fail
          go_meet
          exact ⟨rfl, rfl⟩
        · go_wp2_with fail
          go_meet
          exact ⟨rfl, rfl⟩
        · go_wp2_with fail
          go_meet
          exact ⟨rfl, rfl⟩
      case rest =>
        obtain ⟨rfl, rfl⟩ := hcut
        clear y1 y2
        obtain ⟨l0, hl0⟩ : ∃ l0, (p1 && p2) = l0 := ⟨_, rfl⟩
        rw [hl0]
        have L0 := Lib.hid hl0
        clear hl0
        go_wp2_with fail
        go_loop [8, 9] (fun t i => ∃ (d : Nat) (l : Bool), i = .int .i64 d ∧ d ≤ n ∧ t = .bool l ∧ Hid (l = (l0 && (List.range d).all fun d => !(Le d a && Le d b) || Le d c))) (fun _ i => n - (intOf i).toNat)
        case atStart => exact ⟨0, l0, rfl, by omega, rfl, Lib.hid (by simp)⟩
        case round =>
          obtain ⟨d, l, rfl, d0, rfl, HL⟩ := hrel
          by_cases hd : d < n
          · cases l with
            | true =>
              have hw4 : IntKind.i64.wrap ((d : Int) + 1) = d + 1 := IntWalk.i64_in _ ⟨by omega, by omega⟩
              have hd10 : (d : Int) < 10 := by omega
              have hd0 : ¬ (d : Int) < 0 := by omega
              have y1 := HH.out.le d a (by omega) (by omega)
              have y2 := HH.out.le d b (by omega) (by omega)
              have y3 := HH.out.le d c (by omega) (by omega)
              have hstep : ∀ v : Bool, v = (!(Le d a && Le d b) || Le d c) → v = (l0 && (List.range (d + 1)).all fun d => !(Le d a && Le d b) || Le d c) := fun v hv => by
                rw [all_range_succ, ← Bool.and_assoc, ← HL.out, Bool.true_and]; exact hv
              have HS := Lib.hid hstep
              clear hstep
              obtain ⟨q1, hq1⟩ : ∃ q1, Le d a = q1 := ⟨_, rfl⟩
              obtain ⟨q2, hq2⟩ : ∃ q2, Le d b = q2 := ⟨_, rfl⟩
              obtain ⟨q3, hq3⟩ : ∃ q3, Le d c = q3 := ⟨_, rfl⟩
              rw [hq1] at y1
              rw [hq2] at y2
              rw [hq3] at y3
              have G1 := Lib.hid hq1
              have G2 := Lib.hid hq2
              have G3 := Lib.hid hq3
              clear hq1 hq2 hq3
              cases q1 with
              | false =>
                go_wp2_with fail
                go_round
                case rel => exact ⟨d + 1, true, by go_num, by omega, rfl, Lib.hid (HS.out _ (by rw [G1.out]; rfl))⟩
                case measure => simp [intOf]; omega
              | true =>
                cases q2 with
                | false =>
                  go_wp2_with fail
                  go_round
                  case rel => exact ⟨d + 1, true, by go_num, by omega, rfl, Lib.hid (HS.out _ (by rw [G1.out, G2.out]; rfl))⟩
                  case measure => simp [intOf]; omega
                | true =>
                  go_wp2_with fail
                  go_round
                  case rel => exact ⟨d + 1, q3, by go_num, by omega, rfl, Lib.hid (HS.out _ (by rw [G1.out, G2.out, G3.out]; simp))⟩
                  case measure => simp [intOf]; omega
            | false =>
              have hno : ((Le c a && Le c b) && (List.range n).all fun d => !(Le d a && Le d b) || Le d c) = false := by
                rw [H1.out, H2.out, L0.out]
                have := HL.out.symm
                rw [Bool.and_eq_false_iff] at this ⊢
                exact this.imp id (fun h => all_range_le (by omega) h)
              have HNO := Lib.hid hno
              clear hno
              go_wp2_with fail
              go_round
              case rel => exact ⟨c + 1, by go_num, by omega, Lib.hid (fun j hj => by
                by_cases e : j = c
                · subst e; exact HNO.out
                · exact HK.out j (by omega))⟩
              case measure => simp [intOf]; omega
          · have hdn : d = n := by omega
            have HD := Lib.hid hdn
            clear hdn
            cases l with
            | true =>
              have hyes : ((Le c a && Le c b) && (List.range n).all fun d => !(Le d a && Le d b) || Le d c) = true := by
                rw [H1.out, H2.out, L0.out, ← HD.out]; exact HL.out.symm
              have HY := Lib.hid hyes
              clear hyes
              go_wp2_with fail
              go_ret
              refine ⟨?_, rfl⟩
              rw [← HR.out]
              unfold meetD
              rw [firstD_hit hc HY.out HK.out]
              rfl
            | false =>
              have hno : ((Le c a && Le c b) && (List.range n).all fun d => !(Le d a && Le d b) || Le d c) = false := by
                rw [H1.out, H2.out, L0.out, ← HD.out]; exact HL.out.symm
              have HNO := Lib.hid hno
              clear hno
              go_wp2_with fail
              go_round
              case rel => exact ⟨c + 1, by go_num, by omega, Lib.hid (fun j hj => by
                by_cases e : j = c
                · subst e; exact HNO.out
                · exact HK.out j (by omega))⟩
              case measure => simp [intOf]; omega
    · have hcn : c = n := by omega
      have HN := Lib.hid hcn
      clear hcn
      go_wp2_with fail
      go_ret
      refine ⟨?_, rfl⟩
      rw [← HR.out]
      unfold meetD
      rw [firstD_none (fun j hj => HK.out j (by rw [HN.out]; exact hj))]
      rfl
end Go.Proofs.YtfmacnkjhboefaaGreatDoor
