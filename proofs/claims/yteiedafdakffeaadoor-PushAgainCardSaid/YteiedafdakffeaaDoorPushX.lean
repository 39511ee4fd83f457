/- push: an append of a row as it reads; slices.Grow of nil; slices.Concat of three. -/
import Derived.Test.YteiedafdakffeaaDoorPushW
import Derived.Lib.AppendZerosOnto
import Derived.Laws.AppendOwnNone
namespace Go.Proofs.YteiedafdakffeaaDoor
set_option linter.unusedVariables false
set_option linter.unusedSimpArgs false
open Go Go.RowKit Go.Proofs
set_option maxRecDepth 100000 in
theorem append_lns (w : World) (base : Nat) (v : Value) (acc : List ByteArray) (ho : w.ownsRow base 9 1 v acc.length (acc.map Value.string)) (A : Option Addr) (l : List ByteArray) (c : Nat) (hl : Lns w A l) (hbig : (acc.length + l.length) * 16 ≤ 140737488355328) (hb : base ≤ w.heap.size) :
    ∃ v' w', (Builtin.append_ #[24, 24] 24 #[v, .slice A l.length c]).run Tryd.prog w = .ok v' w' ∧ w'.ownsRow base 9 1 v' (acc ++ l).length ((acc ++ l).map Value.string) ∧ w.grownBy w' v.ownBlock := by
  obtain ⟨i9, hi9, hz90, hz91, hz92⟩ := info_parts info9
  cases A with
  | none =>
    have el : l = [] := by
      cases l with
      | nil => rfl
      | cons x t => obtain ⟨g, p, e, _⟩ := hl 0 (by simp); cases e
    subst el
    refine ⟨v, w, ?_, by simpa using ho, ⟨rfl, rfl, rfl, Nat.le_refl _, fun _ _ _ => rfl⟩⟩
    have hz1 : i9.size = 1 := hz91
    rcases ho.2 with ⟨rfl, h2⟩ | ⟨g, cap, cur, rfl, _, _, hnc, _⟩
    · simp [Builtin.append_, run_underlying Tryd.underlying24, sizeOf, typeInfo, hi9, Builtin.lenOf, Builtin.firstCells]
    · simp [Builtin.append_, run_underlying Tryd.underlying24, sizeOf, typeInfo, hi9, Builtin.lenOf, Builtin.firstCells, hnc, storeCells]
  | some a =>
    obtain ⟨v', w', h1, h2, h3, _⟩ := run_append_own_at (P := Tryd.prog) w base 24 24 9 i9 (.string ByteArray.empty) 1 16 Tryd.underlying24 hi9 hz90 hz91 hz92 rfl (by decide) v acc.length (acc.map Value.string) ho a l.length c (l.map Value.string) (by simp) (fun j u hj => by
        rw [List.getElem?_map] at hj
        obtain ⟨x, hx, rfl⟩ := Option.map_eq_some_iff.1 hj
        have hjl : j < l.length := (List.getElem?_eq_some_iff.1 hx).1
        obtain ⟨g, p, e, hc⟩ := hl j hjl
        cases e
        rw [show l.getD j ByteArray.empty = x by simp [List.getD, hx]] at hc
        rw [← hc]
        congr 1
        unfold Addr.add
        by_cases e : j = 0
        · subst e; simp
        · simp [e]) (fun u hu => by
        obtain ⟨x, _, rfl⟩ := List.mem_map.1 hu
        rfl) (by unfold maxLen; omega) hbig hb
    refine ⟨v', w', h1, ?_, h3⟩
    rw [List.length_append, List.map_append]
    exact h2
set_option maxHeartbeats 4000000 in
set_option maxRecDepth 100000 in
theorem grow_nil (w : World) (n : Nat) (hn : n * 16 ≤ 140737488355328) :
    Calls Tryd.prog 71 #[.slice none 0 0, .int .i64 n] w fun e w' => ∃ v, e = .returned v ∧ w'.ownsRow w.heap.size 9 1 v 0 [] ∧ Chg (fun _ => False) w w' := by
  obtain ⟨i9, hi9, hz90, hz91, hz92⟩ := info_parts info9
  rcases Nat.eq_zero_or_pos n with h0 | h0
  · subst h0
    go_enter Tryd.func71, Tryd.ntmps71
    go_wp2
    go_ret
    exact ⟨_, rfl, World.ownsRow_nil _ _ _ _, Chg.refl _ _⟩
  · have h1 : ¬ ((n : Int) < 0) := by omega
    have hrz : ∀ ty, (Builtin.append_ #[24, 3] ty #[.slice none 0 0, .int .i64 (n : Int)]).run Tryd.prog w =
        .ok (.slice (some ⟨w.heap.size, 0, none⟩) n (grownCap w n 0 9)) (w.drew.alloc (.cells (#[] ++ Builtin.zeroCells (Value.string ByteArray.empty).cells n ++ Builtin.zeroCells (Value.string ByteArray.empty).cells (grownCap w n 0 9 - n)) 9)) := fun ty => by
      have h := Lib.run_append_grow_zeros w 24 3 ty 9 i9 (.string ByteArray.empty) .i64 .i64 Tryd.underlying24 Tryd.underlying3 hi9 hz90 none 0 0 [] (run_firstCells_none w.drew i9.size 0 0 0) n h0 (by omega) (by omega) (by omega) (by rw [hz92]; omega) (by
        rw [Nat.zero_add]
        exact growslice_fits h0 (by rw [hz92]; omega))
      simpa using h
    have hGn : n ≤ grownCap w n 0 9 := grownCap_ge w _ _ _
    have hGm : grownCap w n 0 9 ≤ maxLen := grownCap_le_maxLen w n 0 9 (by unfold maxLen; omega)
    obtain ⟨G, hG⟩ : ∃ G, G = grownCap w n 0 9 := ⟨_, rfl⟩
    rw [← hG] at hrz hGn hGm
    clear hG
    have hG63 : G ≤ 9223372036854775807 := by unfold maxLen at hGm; omega
    have hsz : (#[] ++ Builtin.zeroCells (Value.string ByteArray.empty).cells n ++ Builtin.zeroCells (Value.string ByteArray.empty).cells (G - n)).size = G := by
      have : (Value.string ByteArray.empty).cells.size = 1 := rfl
      rw [Array.size_append, Array.size_append, size_zeroCells, size_zeroCells, this]
      simp only [List.size_toArray, List.length_nil]
      omega
    generalize (#[] ++ Builtin.zeroCells (Value.string ByteArray.empty).cells n ++ Builtin.zeroCells (Value.string ByteArray.empty).cells (G - n)) = cs at *
    go_enter Tryd.func71, Tryd.ntmps71
    go_wp2_with (at_builtin; refine Lib.wpList_append_run _ rfl _ _ _ _ rfl _ _ rfl rfl _ _ (hrz _) ?_)
    go_ret
    refine ⟨_, rfl, ⟨rfl, .inr ⟨w.heap.size, G, cs, rfl, Nat.le_refl _, heap_alloc_new _ _, Nat.zero_le _, hGm, by rw [hsz, Nat.mul_one], by simp⟩⟩, ((Chg.refl _ _).drew).alloc _⟩
def catL (L : Nat → List ByteArray) (k : Nat) : List ByteArray := (List.range k).flatMap L
theorem catL_succ (L : Nat → List ByteArray) (k : Nat) : catL L (k + 1) = catL L k ++ L k := by simp [catL, List.range_succ]
theorem catL_le (L : Nat → List ByteArray) (k : Nat) (hk : k ≤ 3) (M : Nat) (h : ∀ i, i < 3 → (L i).length ≤ M) : (catL L k).length ≤ k * M := by
  induction k with
  | zero => simp [catL]
  | succ k ih =>
    rw [catL_succ, List.length_append]
    have := ih (by omega)
    have := h k (by omega)
    rw [Nat.add_mul, Nat.one_mul]
    omega
set_option maxHeartbeats 4000000 in
set_option maxRecDepth 100000 in
theorem concat3 (w : World) (S : Nat) (AA : Nat → Option Addr) (L : Nat → List ByteArray) (CC : Nat → Nat) (hS : w.heap[S]? = some (.cells #[.slice (AA 0) (L 0).length (CC 0), .slice (AA 1) (L 1).length (CC 1), .slice (AA 2) (L 2).length (CC 2)] 24 (0, 0)))
    (hL : ∀ i, i < 3 → Lns w (AA i) (L i)) (hb : ∀ i, i < 3 → (L i).length ≤ 1000000000) :
    Calls Tryd.prog 51 #[.slice (some ⟨S, 0, none⟩) 3 3] w fun e w' => ∃ v, e = .returned v ∧ w'.ownsRow w.heap.size 9 1 v (catL L 3).length ((catL L 3).map Value.string) ∧ Chg (fun _ => False) w w' := by
  have hSc : ∀ k, k < 3 → w.cell? ⟨S, k, none⟩ = some (.slice (AA k) (L k).length (CC k)) := fun k hk => by
    rw [cell_of_heap hS]
    have : k = 0 ∨ k = 1 ∨ k = 2 := by omega
    rcases this with rfl | rfl | rfl <;> rfl
  have HS := Lib.hid hSc
  have HL := Lib.hid hL
  have HB := Lib.hid hb
  have HLE := Lib.hid (fun k hk => catL_le L k hk 1000000000 hb)
  clear hS hSc hL hb
  go_enter Tryd.func51, Tryd.ntmps51
  go_upto_block 0 with fail
  go_cut [3, 5, 11] from 12 to 22 (fun s3 _ _ W => s3 = .int .i64 ((catL L 3).length : Nat) ∧ w = W)
  case first =>
    go_wp2_with fail
    go_loop [3, 5, 11] (fun s3 _ i => ∃ k : Nat, k ≤ 3 ∧ i = .int .i64 k ∧ s3 = .int .i64 ((catL L k).length : Nat)) (fun _ _ i => 3 - (intOf i).toNat)
    case atStart => exact ⟨0, by omega, rfl, rfl⟩
    case round =>
      obtain ⟨k, hk, rfl, rfl⟩ := hrel
      by_cases hlt : k < 3
      · have ck := HS.out k hlt
        have hsu : (catL L (k + 1)).length = (catL L k).length + (L k).length := by rw [catL_succ, List.length_append]
        have hle := HLE.out k hk
        have hlk := HB.out k hlt
        have HSU := Lib.hid hsu
        clear hsu
        generalize (L k).length = n at *
        generalize AA k = A at *
        generalize CC k = c at *
        generalize (catL L k).length = m at *
        go_wp2_with fail
        go_round
        case rel => exact ⟨k + 1, by omega, by go_num, by rw [HSU.out]; go_num⟩
        case measure => simp [intOf] <;> omega
      · obtain rfl : k = 3 := by omega
        go_wp2_with fail
        go_meet
        exact ⟨rfl, rfl⟩
  case rest =>
    obtain ⟨rfl, rfl⟩ := hcut
    have hle3 := HLE.out 3 (by omega)
    have HG := Lib.hid (grow_nil w (catL L 3).length (by omega))
    generalize hT : (catL L 3).length = T at *
    have HT := Lib.hid hT
    clear hT
    go_wp2_with fail
    refine HG.out.mono ?_
    rintro e w2 ⟨v2, rfl, ho2, hC2⟩
    have HO2 := Lib.hid ho2
    have HC2 := Lib.hid hC2
    have hsz2 := hC2.size
    clear ho2 hC2 HG
    go_wp2_with fail
    go_loopw [6, 8, 27] (fun s6 _ i wr => ∃ k : Nat, k ≤ 3 ∧ i = .int .i64 k ∧ wr.ownsRow w.heap.size 9 1 s6 (catL L k).length ((catL L k).map Value.string) ∧ Chg (fun _ => False) w wr) (fun _ _ i _ => 3 - (intOf i).toNat)
    case atStart => exact ⟨0, by omega, rfl, HO2.out, HC2.out⟩
    case round =>
      obtain ⟨k, hk, rfl, ho, hC⟩ := hrel
      by_cases hlt : k < 3
      · have ck := hC.cell (HS.out k hlt) (fun h => h)
        have hsz := hC.size
        have hle := HLE.out k hk
        have hlk := HB.out k hlt
        obtain ⟨v', w', hrun, ho', hg'⟩ := append_lns wr w.heap.size u6 (catL L k) ho (AA k) (L k) (CC k) ((HL.out k hlt).chg hC) (by omega) hsz
        rw [← catL_succ] at ho'
        have HO' := Lib.hid ho'
        have HC' := Lib.hid (hC.grown hg' (fun q hq => .inr (own_block ho hq)))
        clear ho hC ho' hg' hle hlk
        generalize (L k).length = n at *
        generalize AA k = A at *
        generalize CC k = c at *
        obtain ⟨va, vn, vc, rfl⟩ := own_slice HO'.out
        go_wp2_with (at_builtin; refine Lib.wpList_append_run _ rfl _ _ _ _ rfl _ _ rfl rfl _ _ hrun ?_)
        go_roundw
        case rel => exact ⟨k + 1, by omega, by go_num, HO'.out, HC'.out⟩
        case measure => simp [intOf] <;> omega
      · obtain rfl : k = 3 := by omega
        have HO3 := Lib.hid ho
        have HC3 := Lib.hid hC
        clear ho hC
        go_wp2_with fail
        go_ret
        exact ⟨_, rfl, by rw [← HT.out]; exact HO3.out, HC3.out⟩
end Go.Proofs.YteiedafdakffeaaDoor
