/- push: strings.Builder's writes. (And what follows from it: PushW, PushX, PushY, PushZ.) -/
import Derived.Test.YteiedafdakffeaaDoorPuD
import Derived.Test.YteiedafdakffeaaDoorShelfB
import Derived.Laws.Externs
import Derived.Lib.AppendZerosOnto
import Derived.Laws.AppendOwnNone
/- push: strings.Builder's writes. -/
namespace Go.Proofs.YteiedafdakffeaaDoor
set_option linter.unusedVariables false
set_option linter.unusedSimpArgs false
open Go Go.RowKit Go.Proofs
set_option maxHeartbeats 4000000 in
set_option maxRecDepth 100000 in
theorem copyCheck_used (b : Nat) (w : World) (h0 : w.cell? ⟨b, 0, none⟩ = some (.pointer (some ⟨b, 0, none⟩))) :
    Calls Tryd.prog 72 #[.pointer (some ⟨b, 0, none⟩)] w fun e w' => e = .returned (.tuple #[]) ∧ w' = w := by
  have hz : (Tryd.prog.info? 82).map (·.size) = some 2 := by kernel_rfl
  obtain ⟨j, hj, hjs⟩ := Option.map_eq_some_iff.1 hz
  go_enter Tryd.func72, Tryd.ntmps72
  go_wp2
  rw [Lib.run_neq_ptr_same w _ Tryd.underlying80 hj]
  go_wp2
  go_end0
  exact ⟨rfl, rfl⟩
set_option maxHeartbeats 4000000 in
set_option maxRecDepth 100000 in
theorem copyCheck_fresh (b : Nat) (w : World) (h0 : w.cell? ⟨b, 0, none⟩ = some (.pointer none)) (hsh : w.shape? b = some (82, 2)) (hfz : w.frozen? ⟨b, 0, none⟩ = false) :
    Calls Tryd.prog 72 #[.pointer (some ⟨b, 0, none⟩)] w fun e w' => e = .returned (.tuple #[]) ∧ w' = w.setCell ⟨b, 0, none⟩ (.pointer (some ⟨b, 0, none⟩)) := by
  have hz : (Tryd.prog.info? 82).map (·.size) = some 2 := by kernel_rfl
  obtain ⟨j, hj, hjs⟩ := Option.map_eq_some_iff.1 hz
  go_enter Tryd.func72, Tryd.ntmps72
  go_wp2
  rw [Lib.run_to_unsafe w ⟨b, 0, none⟩ Tryd.underlying80 Tryd.underlying108 hj (by rw [hjs]; decide) hsh (Nat.zero_lt_succ 1)]
  simp only [Result.andThen]
  rw [Oper.upon_value]
  go_wp2
  rw [run_callFunc_extern Tryd.func79 (by kernel_rfl) (by kernel_rfl) (by kernel_rfl) (e := Extern.AbiNoEscape.same) (by kernel_rfl)]
  rw [Lib.run_noEscape]
  simp only [Result.andThen]
  rw [Oper.upon_value]
  go_wp2
  rw [Lib.run_from_unsafe w ⟨b, 0, none⟩ Tryd.underlying108 Tryd.underlying80 hj hsh (by kernel_rfl)]
  simp only [Result.andThen]
  rw [Oper.upon_value]
  go_wp2
  go_end0
  exact ⟨rfl, rfl⟩
/-- blocks of cells that are neither bytes nor block b stay -/
def OthersStay (b : Nat) (w w' : World) : Prop := ∀ (k : Nat) (c : Array Value) (t : TypeId) (f : Nat × Nat), t ≠ 5 → k ≠ b → w.heap[k]? = some (Obj.cells c t f) → w'.heap[k]? = some (Obj.cells c t f)
theorem copyCheck_some (B b : Nat) (bs : List Value) (w : World) (h : Lib.IsBuilder 82 5 B b bs w) :
    Calls Tryd.prog 72 #[.pointer (some ⟨b, 0, none⟩)] w fun e w' => e = .returned (.tuple #[]) ∧ (Lib.BuilderAt 82 5 B b (.pointer (some ⟨b, 0, none⟩)) bs w' ∧ Below B w w' ∧ OthersStay b w w') := by
  rcases h with h | h
  · refine (copyCheck_fresh b w h.cell0 h.shape h.frozen0).mono ?_
    rintro e w' ⟨rfl, rfl⟩
    exact ⟨rfl, h.used _, (Below.refl B w).setCell (p := ⟨b, 0, none⟩) h.1 _, fun k c t f _ hk hh => heap_setCell hh hk _⟩
  · refine (copyCheck_used b w h.cell0).mono ?_
    rintro e w' ⟨rfl, rfl⟩
    exact ⟨rfl, h, Below.refl B _, fun k c t f _ _ hh => hh⟩
set_option maxHeartbeats 4000000 in
set_option maxRecDepth 100000 in
theorem writeString_some (B b : Nat) (bs : List Value) (s : ByteArray) (w : World) (h : Lib.IsBuilder 82 5 B b bs w) (hlen : bs.length + s.size ≤ 140737488355328) (hBw : B ≤ w.heap.size) :
    Calls Tryd.prog 52 #[.pointer (some ⟨b, 0, none⟩), .string s] w fun e w' => e = .returned (.tuple #[.int .i64 s.size, .nilIface]) ∧ (Lib.IsBuilder 82 5 B b (bs ++ Lib.strCells s) w' ∧ Below B w w' ∧ OthersStay b w w') := by
  obtain ⟨i0, hi, hz0, hz1, hz2⟩ := info_parts info5
  have HCC := Lib.hid (copyCheck_some B b bs w h)
  clear h
  go_enter Tryd.func52, Tryd.ntmps52
  go_wp2_with fail
  refine HCC.out.mono ?_
  rintro e w1 ⟨rfl, h1, hb1, hos1⟩
  obtain ⟨hB, v, hbk, hown, hne⟩ := h1
  have c0 : w1.cell? ⟨b, 0, none⟩ = some (.pointer (some ⟨b, 0, none⟩)) := by rw [Lib.cell_of_heap hbk]; rfl
  have c1 : w1.cell? ⟨b, 1, none⟩ = some v := by rw [Lib.cell_of_heap hbk]; rfl
  go_wp2_with (at_builtin; refine Lib.wpList_append_own_string _ rfl _ _ 22 9 rfl B 5 i0 Tryd.underlying22 Tryd.underlying9 hi hz0 hz1 hz2 _ _ _ rfl hown s rfl ?c3 ?c4 ?c5 ?_)
  case c3 => unfold maxLen; omega
  case c4 => omega
  case c5 => have := hb1.size; omega
  intro v' w2 hown' hgrow _
  have hlt := lt_of_heap hbk
  have hb2 : w2.heap[b]? = some (.cells #[.pointer (some ⟨b, 0, none⟩), v] 82 (0, 0)) := by
    rw [hgrow.block b hlt (fun e => hne e.symm)]
    exact hbk
  have d0 : w2.cell? ⟨b, 0, none⟩ = some (.pointer (some ⟨b, 0, none⟩)) := by rw [Lib.cell_of_heap hb2]; rfl
  have d1 : w2.cell? ⟨b, 1, none⟩ = some v := by rw [Lib.cell_of_heap hb2]; rfl
  have f1 : w2.frozen? ⟨b, 1, none⟩ = false := Lib.frozen_of_heap hb2 1
  obtain ⟨ao, n', cap, rfl⟩ := own_slice hown'
  have HB2 := Lib.hid hb2
  have HO := Lib.hid hown'
  have HG := Lib.hid hgrow
  have HOS : Hid (OthersStay b w w2) := Lib.hid fun k c t f ht hk hh => grown_keep hgrow (hos1 k c t f ht hk hh) (own_ne hown (hos1 k c t f ht hk hh) ht)
  clear hb2 hown' hos1 HCC
  go_wp2
  go_ret2
  refine ⟨rfl, .inr ?_, ?_, fun k c t f ht hk hh => heap_setCell (HOS.out k c t f ht hk hh) hk _⟩
  · exact Lib.BuilderAt.put (T := 82) (e := 5) hB HB2.out (bs' := bs ++ Lib.strCells s) (by simpa [Lib.strCells_length] using HO.out) (by decide)
  · exact (hb1.grown HG.out (by have := hb1.size; omega) (fun k hk => (hown.lt k hk).1)).setCell (p := ⟨b, 1, none⟩) hB _
end Go.Proofs.YteiedafdakffeaaDoor

/- push: an append of a row as it reads; slices.Grow of nil; slices.Concat of three. -/
namespace Go.Proofs.YteiedafdakffeaaDoor
set_option linter.unusedVariables false
set_option linter.unusedSimpArgs false
open Go Go.RowKit Go.Proofs
set_option maxRecDepth 100000 in
theorem append_lns (w : World) (base : Nat) (v : Value) (acc : List ByteArray) (ho : w.ownsRow base 9 1 v acc.length (acc.map Value.string)) (A : Option Addr) (l : List ByteArray) (c : Nat) (hl : Lns w A l) (hbig : (acc.length + l.length) * 16 ≤ 140737488355328) (hb : base ≤ w.heap.size) :
    ∃ v' w', (Builtin.append_ #[24, 24] 24 #[v, .slice A l.length c]).run Tryd.prog w = .ok v' w' ∧ w'.ownsRow base 9 1 v' (acc ++ l).length ((acc ++ l).map Value.string) ∧ w.grownBy w' v.ownBlock := by
  obtain ⟨i9, hi9, hz90, hz91, hz92⟩ := info_parts info9
  cases A with
  | none =>
    have el : l = [] := by
      cases l with
      | nil => rfl
      | cons x t => obtain ⟨g, p, e, _⟩ := hl 0 (by simp); cases e
    subst el
    refine ⟨v, w, ?_, by simpa using ho, ⟨rfl, rfl, rfl, Nat.le_refl _, fun _ _ _ => rfl⟩⟩
    have hz1 : i9.size = 1 := hz91
    rcases ho.2 with ⟨rfl, h2⟩ | ⟨g, cap, cur, rfl, _, _, hnc, _⟩
    · simp [Builtin.append_, run_underlying Tryd.underlying24, sizeOf, typeInfo, hi9, Builtin.lenOf, Builtin.firstCells]
    · simp [Builtin.append_, run_underlying Tryd.underlying24, sizeOf, typeInfo, hi9, Builtin.lenOf, Builtin.firstCells, hnc, storeCells]
  | some a =>
    obtain ⟨v', w', h1, h2, h3, _⟩ := run_append_own_at (P := Tryd.prog) w base 24 24 9 i9 (.string ByteArray.empty) 1 16 Tryd.underlying24 hi9 hz90 hz91 hz92 rfl (by decide) v acc.length (acc.map Value.string) ho a l.length c (l.map Value.string) (by simp) (fun j u hj => by
        rw [List.getElem?_map] at hj
        obtain ⟨x, hx, rfl⟩ := Option.map_eq_some_iff.1 hj
        have hjl : j < l.length := (List.getElem?_eq_some_iff.1 hx).1
        obtain ⟨g, p, e, hc⟩ := hl j hjl
        cases e
        rw [show l.getD j ByteArray.empty = x by simp [List.getD, hx]] at hc
        rw [← hc]
        congr 1
        unfold Addr.add
        by_cases e : j = 0
        · subst e; simp
        · simp [e]) (fun u hu => by
        obtain ⟨x, _, rfl⟩ := List.mem_map.1 hu
        rfl) (by unfold maxLen; omega) hbig hb
    refine ⟨v', w', h1, ?_, h3⟩
    rw [List.length_append, List.map_append]
    exact h2
set_option maxHeartbeats 4000000 in
set_option maxRecDepth 100000 in
theorem grow_nil (w : World) (n : Nat) (hn : n * 16 ≤ 140737488355328) :
    Calls Tryd.prog 71 #[.slice none 0 0, .int .i64 n] w fun e w' => ∃ v, e = .returned v ∧ w'.ownsRow w.heap.size 9 1 v 0 [] ∧ Chg (fun _ => False) w w' := by
  obtain ⟨i9, hi9, hz90, hz91, hz92⟩ := info_parts info9
  rcases Nat.eq_zero_or_pos n with h0 | h0
  · subst h0
    go_enter Tryd.func71, Tryd.ntmps71
    go_wp2
    go_ret
    exact ⟨_, rfl, World.ownsRow_nil _ _ _ _, Chg.refl _ _⟩
  · have h1 : ¬ ((n : Int) < 0) := by omega
    have hrz : ∀ ty, (Builtin.append_ #[24, 3] ty #[.slice none 0 0, .int .i64 (n : Int)]).run Tryd.prog w =
        .ok (.slice (some ⟨w.heap.size, 0, none⟩) n (grownCap w n 0 9)) (w.drew.alloc (.cells (#[] ++ Builtin.zeroCells (Value.string ByteArray.empty).cells n ++ Builtin.zeroCells (Value.string ByteArray.empty).cells (grownCap w n 0 9 - n)) 9)) := fun ty => by
      have h := Lib.run_append_grow_zeros w 24 3 ty 9 i9 (.string ByteArray.empty) .i64 .i64 Tryd.underlying24 Tryd.underlying3 hi9 hz90 none 0 0 [] (run_firstCells_none w.drew i9.size 0 0 0) n h0 (by omega) (by omega) (by omega) (by rw [hz92]; omega) (by
        rw [Nat.zero_add]
        exact growslice_fits h0 (by rw [hz92]; omega))
      simpa using h
    have hGn : n ≤ grownCap w n 0 9 := grownCap_ge w _ _ _
    have hGm : grownCap w n 0 9 ≤ maxLen := grownCap_le_maxLen w n 0 9 (by unfold maxLen; omega)
    obtain ⟨G, hG⟩ : ∃ G, G = grownCap w n 0 9 := ⟨_, rfl⟩
    rw [← hG] at hrz hGn hGm
    clear hG
    have hG63 : G ≤ 9223372036854775807 := by unfold maxLen at hGm; omega
    have hsz : (#[] ++ Builtin.zeroCells (Value.string ByteArray.empty).cells n ++ Builtin.zeroCells (Value.string ByteArray.empty).cells (G - n)).size = G := by
      have : (Value.string ByteArray.empty).cells.size = 1 := rfl
      rw [Array.size_append, Array.size_append, size_zeroCells, size_zeroCells, this]
      simp only [List.size_toArray, List.length_nil]
      omega
    generalize (#[] ++ Builtin.zeroCells (Value.string ByteArray.empty).cells n ++ Builtin.zeroCells (Value.string ByteArray.empty).cells (G - n)) = cs at *
    go_enter Tryd.func71, Tryd.ntmps71
    go_wp2_with (at_builtin; refine Lib.wpList_append_run _ rfl _ _ _ _ rfl _ _ rfl rfl _ _ (hrz _) ?_)
    go_ret
    refine ⟨_, rfl, ⟨rfl, .inr ⟨w.heap.size, G, cs, rfl, Nat.le_refl _, heap_alloc_new _ _, Nat.zero_le _, hGm, by rw [hsz, Nat.mul_one], by simp⟩⟩, ((Chg.refl _ _).drew).alloc _⟩
def catL (L : Nat → List ByteArray) (k : Nat) : List ByteArray := (List.range k).flatMap L
theorem catL_succ (L : Nat → List ByteArray) (k : Nat) : catL L (k + 1) = catL L k ++ L k := by simp [catL, List.range_succ]
theorem catL_le (L : Nat → List ByteArray) (k : Nat) (hk : k ≤ 3) (M : Nat) (h : ∀ i, i < 3 → (L i).length ≤ M) : (catL L k).length ≤ k * M := by
  induction k with
  | zero => simp [catL]
  | succ k ih =>
    rw [catL_succ, List.length_append]
    have := ih (by omega)
    have := h k (by omega)
    rw [Nat.add_mul, Nat.one_mul]
    omega
set_option maxHeartbeats 4000000 in
set_option maxRecDepth 100000 in
theorem concat3 (w : World) (S : Nat) (AA : Nat → Option Addr) (L : Nat → List ByteArray) (CC : Nat → Nat) (hS : w.heap[S]? = some (.cells #[.slice (AA 0) (L 0).length (CC 0), .slice (AA 1) (L 1).length (CC 1), .slice (AA 2) (L 2).length (CC 2)] 24 (0, 0)))
    (hL : ∀ i, i < 3 → Lns w (AA i) (L i)) (hb : ∀ i, i < 3 → (L i).length ≤ 1000000000) :
    Calls Tryd.prog 51 #[.slice (some ⟨S, 0, none⟩) 3 3] w fun e w' => ∃ v, e = .returned v ∧ w'.ownsRow w.heap.size 9 1 v (catL L 3).length ((catL L 3).map Value.string) ∧ Chg (fun _ => False) w w' := by
  have hSc : ∀ k, k < 3 → w.cell? ⟨S, k, none⟩ = some (.slice (AA k) (L k).length (CC k)) := fun k hk => by
    rw [cell_of_heap hS]
    have : k = 0 ∨ k = 1 ∨ k = 2 := by omega
    rcases this with rfl | rfl | rfl <;> rfl
  have HS := Lib.hid hSc
  have HL := Lib.hid hL
  have HB := Lib.hid hb
  have HLE := Lib.hid (fun k hk => catL_le L k hk 1000000000 hb)
  clear hS hSc hL hb
  go_enter Tryd.func51, Tryd.ntmps51
  go_upto_block 0 with fail
  go_cut [3, 5, 11] from 12 to 22 (fun s3 _ _ W => s3 = .int .i64 ((catL L 3).length : Nat) ∧ w = W)
  case first =>
    go_wp2_with fail
    go_loop [3, 5, 11] (fun s3 _ i => ∃ k : Nat, k ≤ 3 ∧ i = .int .i64 k ∧ s3 = .int .i64 ((catL L k).length : Nat)) (fun _ _ i => 3 - (intOf i).toNat)
    case atStart => exact ⟨0, by omega, rfl, rfl⟩
    case round =>
      obtain ⟨k, hk, rfl, rfl⟩ := hrel
      by_cases hlt : k < 3
      · have ck := HS.out k hlt
        have hsu : (catL L (k + 1)).length = (catL L k).length + (L k).length := by rw [catL_succ, List.length_append]
        have hle := HLE.out k hk
        have hlk := HB.out k hlt
        have HSU := Lib.hid hsu
        clear hsu
        generalize (L k).length = n at *
        generalize AA k = A at *
        generalize CC k = c at *
        generalize (catL L k).length = m at *
        go_wp2_with fail
        go_round
        case rel => exact ⟨k + 1, by omega, by go_num, by rw [HSU.out]; go_num⟩
        case measure => simp [intOf] <;> omega
      · obtain rfl : k = 3 := by omega
        go_wp2_with fail
        go_meet
        exact ⟨rfl, rfl⟩
  case rest =>
    obtain ⟨rfl, rfl⟩ := hcut
    have hle3 := HLE.out 3 (by omega)
    have HG := Lib.hid (grow_nil w (catL L 3).length (by omega))
    generalize hT : (catL L 3).length = T at *
    have HT := Lib.hid hT
    clear hT
    go_wp2_with fail
    refine HG.out.mono ?_
    rintro e w2 ⟨v2, rfl, ho2, hC2⟩
    have HO2 := Lib.hid ho2
    have HC2 := Lib.hid hC2
    have hsz2 := hC2.size
    clear ho2 hC2 HG
    go_wp2_with fail
    go_loopw [6, 8, 27] (fun s6 _ i wr => ∃ k : Nat, k ≤ 3 ∧ i = .int .i64 k ∧ wr.ownsRow w.heap.size 9 1 s6 (catL L k).length ((catL L k).map Value.string) ∧ Chg (fun _ => False) w wr) (fun _ _ i _ => 3 - (intOf i).toNat)
    case atStart => exact ⟨0, by omega, rfl, HO2.out, HC2.out⟩
    case round =>
      obtain ⟨k, hk, rfl, ho, hC⟩ := hrel
      by_cases hlt : k < 3
      · have ck := hC.cell (HS.out k hlt) (fun h => h)
        have hsz := hC.size
        have hle := HLE.out k hk
        have hlk := HB.out k hlt
        obtain ⟨v', w', hrun, ho', hg'⟩ := append_lns wr w.heap.size u6 (catL L k) ho (AA k) (L k) (CC k) ((HL.out k hlt).chg hC) (by omega) hsz
        rw [← catL_succ] at ho'
        have HO' := Lib.hid ho'
        have HC' := Lib.hid (hC.grown hg' (fun q hq => .inr (own_block ho hq)))
        clear ho hC ho' hg' hle hlk
        generalize (L k).length = n at *
        generalize AA k = A at *
        generalize CC k = c at *
        obtain ⟨va, vn, vc, rfl⟩ := own_slice HO'.out
        go_wp2_with (at_builtin; refine Lib.wpList_append_run _ rfl _ _ _ _ rfl _ _ rfl rfl _ _ hrun ?_)
        go_roundw
        case rel => exact ⟨k + 1, by omega, by go_num, HO'.out, HC'.out⟩
        case measure => simp [intOf] <;> omega
      · obtain rfl : k = 3 := by omega
        have HO3 := Lib.hid ho
        have HC3 := Lib.hid hC
        clear ho hC
        go_wp2_with fail
        go_ret
        exact ⟨_, rfl, by rw [← HT.out]; exact HO3.out, HC3.out⟩
end Go.Proofs.YteiedafdakffeaaDoor

/- push: Apply. -/
namespace Go.Proofs.YteiedafdakffeaaDoor
set_option linter.unusedVariables false
set_option linter.unusedSimpArgs false
open Go Go.RowKit Go.Proofs
open Go.Proofs.YteiedafdakffeaaDoorW.PrintWords (Kd ReadsOf own_move print_drop_of print_take_of gate_dst gate_store)
def outB (l : List ByteArray) : List UInt8 := l.flatMap fun s => s.data.toList ++ [10]
theorem outB_take (l : List ByteArray) (k : Nat) (h : k < l.length) : outB (l.take (k + 1)) = outB (l.take k) ++ ((l.getD k ByteArray.empty).data.toList ++ [10]) := by
  have e : l.take (k + 1) = l.take k ++ [l[k]] := by rw [List.take_add_one, List.getElem?_eq_getElem h]; rfl
  unfold outB
  rw [e, List.flatMap_append]
  simp [List.getD, h]
theorem outB_length (l : List ByteArray) : (outB l).length = sizes l + l.length := by
  induction l with
  | nil => rfl
  | cons x t ih =>
    have : outB (x :: t) = (x.data.toList ++ [10]) ++ outB t := rfl
    have e : sizes (x :: t) = x.size + sizes t := by simp [sizes]
    have hz : x.data.toList.length = x.size := by rw [Array.length_toList]; rfl
    rw [this, List.length_append, List.length_append, ih, e, hz]
    simp only [List.length_cons, List.length_nil]
    omega
theorem strCells_line (s : ByteArray) : Lib.strCells (s ++ ⟨#[10]⟩) = Lib.byteCells (s.data.toList ++ [10]) := by
  have e : (s ++ (⟨#[10]⟩ : ByteArray)).data.toList = s.data.toList ++ [10] := by
    rw [ByteArray.data_append, Array.toList_append]
  simp only [Lib.strCells, Lib.byteCells, e]
theorem byteCells_append (a b : List UInt8) : Lib.byteCells (a ++ b) = Lib.byteCells a ++ Lib.byteCells b := by simp [Lib.byteCells]
theorem line_size (s : ByteArray) : (s ++ (⟨#[10]⟩ : ByteArray)).size = s.size + 1 := by
  rw [ByteArray.size_append]; rfl
theorem own_others {b : Nat} {W W' : World} {base : Nat} {v : Value} {n : Nat} {xs : List Value} (h : W.ownsRow base 9 1 v n xs) (hO : OthersStay b W W') (hb : v.ownBlock ≠ some b) : W'.ownsRow base 9 1 v n xs :=
  own_move h (fun q hq => by
    rcases h.2 with ⟨rfl, _⟩ | ⟨g, cap, cur, rfl, hg, hh, _⟩
    · cases hq
    · cases hq
      rw [hh]
      exact hO _ _ _ _ (by decide) (fun e => hb (by rw [← e]; rfl)) hh)
theorem chg_below {w W W' : World} {B : Nat} (h : Chg (fun _ => False) w W) (hB : w.heap.size ≤ B) (hb : Below B W W') : Chg (fun _ => False) w W' :=
  ⟨hb.os.trans h.os, hb.tape.trans h.tape, hb.output.trans h.output, Nat.le_trans h.size hb.size, fun k hk _ => (hb.block k (by omega)).trans (h.block k hk (fun x => x))⟩
/-! ### what Apply tells -/
def applyL (a l : List ByteArray) (hd tl : Nat) : List ByteArray := a.take hd ++ (l ++ a.drop (a.length - tl))
def applyOk (s : ByteArray) (k ver fr nd tk hd tl : Int) (tx : ByteArray) (l : List ByteArray) : Prop :=
  checkF k ver fr nd tk hd tl tx l = 0 ∧ k = 2 ∧ s.size ≤ 65536 ∧ hd + tl ≤ (lnsOf s).length
instance (s : ByteArray) (k ver fr nd tk hd tl : Int) (tx : ByteArray) (l : List ByteArray) : Decidable (applyOk s k ver fr nd tk hd tl tx l) := by unfold applyOk; infer_instance
def applyS (s : ByteArray) (k ver fr nd tk hd tl : Int) (tx : ByteArray) (l : List ByteArray) : ByteArray :=
  if applyOk s k ver fr nd tk hd tl tx l then if 65536 < (outB (applyL (lnsOf s) l hd.toNat tl.toNat)).length then ByteArray.empty else ⟨(outB (applyL (lnsOf s) l hd.toNat tl.toNat)).toArray⟩ else ByteArray.empty
def applyE (s : ByteArray) (k ver fr nd tk hd tl : Int) (tx : ByteArray) (l : List ByteArray) : Int :=
  if applyOk s k ver fr nd tk hd tl tx l then if 65536 < (outB (applyL (lnsOf s) l hd.toNat tl.toNat)).length then 5 else 0 else 2
theorem allOk_at {own lo fr : Int} {V : Nat → Int} (h : allOk own lo fr V = true) (i : Nat) (hi : i < 6) : okAt own lo fr V i = true := by
  unfold allOk at h
  rw [List.all_eq_true] at h
  exact h i (List.mem_range.2 hi)
theorem delta_ok {ver fr nd tk hd tl : Int} {tx : ByteArray} {l : List ByteArray} (h : checkF 2 ver fr nd tk hd tl tx l = 0) : (0 ≤ hd ∧ hd ≤ 65536) ∧ (0 ≤ tl ∧ tl ≤ 65536) ∧ sizes l ≤ 65536 ∧ l.length ≤ 1000 := by
  unfold checkF at h
  rw [if_pos ⟨by omega, by omega⟩] at h
  unfold checkE at h
  split at h
  · rename_i hc
    simp only [Bool.and_eq_true] at hc
    obtain ⟨h1, h2, h3⟩ := hc
    have a4 := allOk_at h1 4 (by omega)
    have a5 := allOk_at h1 5 (by omega)
    have e4 : okAt (ownOf 2) (leastOf 2) (fromOf 2 ver) (pushV 2 ver fr nd tk hd tl) 4 = (decide (0 ≤ hd) && decide (hd ≤ 65536)) := by
      have hb : (bits .and .i64 (ownOf 2) 16 != 0) = true := rfl
      show fieldOk (ownOf 2) 16 hd 0 65536 = _
      unfold fieldOk
      rw [if_neg (bne_iff_ne.1 hb)]
    have e5 : okAt (ownOf 2) (leastOf 2) (fromOf 2 ver) (pushV 2 ver fr nd tk hd tl) 5 = (decide (0 ≤ tl) && decide (tl ≤ 65536)) := by
      have hb : (bits .and .i64 (ownOf 2) 32 != 0) = true := rfl
      show fieldOk (ownOf 2) 32 tl 0 65536 = _
      unfold fieldOk
      rw [if_neg (bne_iff_ne.1 hb)]
    rw [e4] at a4
    rw [e5] at a5
    unfold listsB at h3
    simp only [Bool.and_eq_true, decide_eq_true_eq] at a4 a5 h3
    exact ⟨a4, a5, h3.2.2.1, h3.2.2.2⟩
  · cases h
theorem checkF_02 (k ver fr nd tk hd tl : Int) (tx : ByteArray) (l : List ByteArray) : checkF k ver fr nd tk hd tl tx l = 0 ∨ checkF k ver fr nd tk hd tl tx l = 2 := by
  unfold checkF checkE
  split
  · split
    · exact .inl rfl
    · exact .inr rfl
  · exact .inr rfl
/-- the parts of a row, as they read -/
theorem take_row (A : Option Addr) (c : Nat) (a : List ByteArray) (n : Nat) (hn : n ≤ a.length) (hc : a.length ≤ c) :
    (∀ W : World, (Instr.slice 24 (.slice A a.length c) none (some (.int .i64 (n : Int))) none).run Tryd.prog W = .ok (.slice A (a.take n).length c) W) ∧ (∀ w, Lns w A a → a.length ≤ 9223372036854775807 → Lns w A (a.take n)) := by
  obtain ⟨i9, hi9, hz90, hz91, hz92⟩ := info_parts info9
  obtain ⟨h1, h2, h3⟩ := print_take_of (P := Tryd.prog) Value.string ByteArray.empty 24 9 .i64 Tryd.underlying24 hi9 hz91 A c a (n : Int) (by omega) (by omega) hc
  rw [Int.toNat_natCast] at h1 h2
  exact ⟨h1, fun w h hb => lns_of_reads (h2 w (reads_of_lns h hb))⟩
theorem drop_row (A : Option Addr) (c : Nat) (a : List ByteArray) (n : Nat) (hn : n ≤ a.length) (hc : a.length ≤ c) :
    ∃ A', (∀ W : World, (Instr.slice 24 (.slice A a.length c) (some (.int .i64 (n : Int))) none none).run Tryd.prog W = .ok (.slice A' (a.drop n).length (c - n)) W) ∧ (∀ w, Lns w A a → a.length ≤ 9223372036854775807 → Lns w A' (a.drop n)) := by
  obtain ⟨i9, hi9, hz90, hz91, hz92⟩ := info_parts info9
  obtain ⟨A', h1, h2, h3⟩ := print_drop_of (P := Tryd.prog) Value.string ByteArray.empty 24 9 .i64 Tryd.underlying24 hi9 hz91 A c a (n : Int) (by omega) (by omega) hc
  rw [Int.toNat_natCast] at h1 h2
  exact ⟨A', h1, fun w h hb => lns_of_reads (h2 w (reads_of_lns h hb))⟩
theorem sizes_append (a b : List ByteArray) : sizes (a ++ b) = sizes a + sizes b := by simp [sizes]
theorem pcs_sum (c : UInt8) (l : List UInt8) : ∀ o r, ((l.foldl (stp c) (o, r)).1.map List.length).sum + (l.foldl (stp c) (o, r)).2.length ≤ (o.map List.length).sum + r.length + l.length := by
  induction l with
  | nil => intro o r; simp
  | cons x t ih =>
    intro o r
    rw [List.foldl_cons, List.length_cons]
    unfold stp
    split
    · refine Nat.le_trans (ih _ _) ?_
      simp <;> omega
    · refine Nat.le_trans (ih _ _) ?_
      simp <;> omega
theorem lnsOf_sizes (s : ByteArray) : sizes (lnsOf s) ≤ s.size := by
  have h := pcs_sum 10 s.data.toList [] []
  have hz : s.data.toList.length = s.size := by rw [Array.length_toList]; rfl
  rw [hz] at h
  have hb : ∀ L : List (List UInt8), sizes (L.map bs) = (L.map List.length).sum := fun L => by
    unfold sizes
    rw [List.map_map]
    have e : ((fun s : ByteArray => s.size) ∘ bs) = List.length := funext fun x => bs_size x
    rw [e]
  have h' : ((pcs 10 s.data.toList).1.map List.length).sum + (pcs 10 s.data.toList).2.length ≤ s.size := by
    refine Nat.le_trans h (by simp)
  unfold lnsOf linesL
  split
  · rw [hb]; omega
  · rw [hb, List.map_append, List.sum_append]; simp <;> omega
theorem sizes_sub_take (a : List ByteArray) (n : Nat) : sizes (a.take n) ≤ sizes a := by
  have := sizes_append (a.take n) (a.drop n)
  rw [List.take_append_drop] at this
  omega
theorem sizes_sub_drop (a : List ByteArray) (n : Nat) : sizes (a.drop n) ≤ sizes a := by
  have := sizes_append (a.take n) (a.drop n)
  rw [List.take_append_drop] at this
  omega
end Go.Proofs.YteiedafdakffeaaDoor

/- push: Apply, walked. -/
namespace Go.Proofs.YteiedafdakffeaaDoor
set_option linter.unusedVariables false
set_option linter.unusedSimpArgs false
open Go Go.RowKit Go.Proofs
open Go.Proofs.YteiedafdakffeaaDoorW.PrintWords (Kd ReadsOf own_move print_drop_of print_take_of gate_dst gate_store)
def ApplyPost (w : World) (s : ByteArray) (n : Int) (en : Ending) (w' : World) : Prop := en = .returned (.tuple #[.string s, .int .i64 n]) ∧ Chg (fun _ => False) w w'
set_option maxRecDepth 100000 in
set_option maxHeartbeats 4000000 in
theorem apply_some (w : World) (s : ByteArray) (k ver fr nd tk hd tl : Int) (tx : ByteArray) (A : Option Addr) (l : List ByteArray) (c : Nat) (hW : WOk w) (hl : Lns w A l) (hlc : l.length ≤ c) (hbig : l.length ≤ 1000000000000) (hs : sizes l ≤ 4611686018427387904) :
    Calls Tryd.prog 19 #[.string s, .agg #[.int .i64 k, .int .i64 ver, .int .i64 fr, .int .i64 nd, .int .i64 tk, .int .i64 hd, .int .i64 tl, .string tx, .slice A l.length c]] w
      (ApplyPost w (applyS s k ver fr nd tk hd tl tx l) (applyE s k ver fr nd tk hd tl tx l)) := by
  have hal := (Chg.refl (fun _ => False) w).alloc (.cells #[.int .i64 k, .int .i64 ver, .int .i64 fr, .int .i64 nd, .int .i64 tk, .int .i64 hd, .int .i64 tl, .string tx, .slice A l.length c] 26)
  have hp := heap_new w (.cells #[.int .i64 k, .int .i64 ver, .int .i64 fr, .int .i64 nd, .int .i64 tk, .int .i64 hd, .int .i64 tl, .string tx, .slice A l.length c] 26)
  have hW1 := hW.chg hal
  obtain ⟨XS, hXS⟩ : ∃ XS, applyS s k ver fr nd tk hd tl tx l = XS := ⟨_, rfl⟩
  obtain ⟨XE, hXE⟩ : ∃ XE, applyE s k ver fr nd tk hd tl tx l = XE := ⟨_, rfl⟩
  rw [hXS, hXE]
  have HXS := Lib.hid hXS
  have HXE := Lib.hid hXE
  have HP := Lib.hid hp
  have HAL := Lib.hid hal
  have HL := Lib.hid hl
  -- the texts' lines: a row that reads
  have hlines : Calls Tryd.prog 45 #[.string s] (w.alloc (.cells #[.int .i64 k, .int .i64 ver, .int .i64 fr, .int .i64 nd, .int .i64 tk, .int .i64 hd, .int .i64 tl, .string tx, .slice A l.length c] 26)) fun e w' => ∃ Aa ca a ee, e = .returned (.tuple #[.slice Aa a.length ca, .int .i64 ee]) ∧ (s.size ≤ 65536 → ee = 0) ∧ (¬ s.size ≤ 65536 → ee = 5) ∧ a.length ≤ ca ∧ Lns w' Aa a ∧ (s.size ≤ 65536 → a = lnsOf s) ∧ a.length ≤ 65537 ∧ Chg (fun _ => False) (w.alloc (.cells #[.int .i64 k, .int .i64 ver, .int .i64 fr, .int .i64 nd, .int .i64 tk, .int .i64 hd, .int .i64 tl, .string tx, .slice A l.length c] 26)) w' := by
    by_cases h : s.size > 65536
    · refine (lines_long _ s hW1 h).mono ?_
      rintro e w' ⟨rfl, hC⟩
      exact ⟨none, 0, [], 5, rfl, fun h' => by omega, fun _ => rfl, by simp, fun i hi => by simp at hi, fun h' => by omega, by simp, hC⟩
    · refine (lines_fits _ s hW1 h).mono ?_
      rintro e w' ⟨v, rfl, ho, hC⟩
      obtain ⟨Aa, ca, rfl, hLa⟩ := own_lines ho
      refine ⟨Aa, ca, lnsOf s, 0, rfl, fun _ => rfl, fun h' => by omega, ?_, hLa, fun _ => rfl, by have := lnsOf_len s; omega, hC⟩
      rcases ho.2 with ⟨h1, h2⟩ | ⟨g', cap', cur, hv, hg', hh, r1, r2, r3, r4⟩
      · have : lnsOf s = [] := by simpa using h2
        rw [this]; simp
      · cases hv; exact r1
  have HLN := Lib.hid hlines
  clear hXS hXE hp hal hl hlines hW1 hW
  go_enter Tryd.func19, Tryd.ntmps19
  go_wp2_with fail
  refine HLN.out.mono ?_
  rintro e w2 ⟨Aa, ca, a, ee, rfl, he0, he5, hca, hLa, hae, hal2, hC2⟩
  have HE0 := Lib.hid he0
  have HE5 := Lib.hid he5
  clear he0 he5
  have HP2 := Lib.hid (hC2.keep HP.out (fun h => h))
  have HC2 := Lib.hid (HAL.out.trans hC2)
  have HLA := Lib.hid hLa
  have HAE := Lib.hid hae
  have HCK := Lib.hid (check_all w2 k ver fr nd tk hd tl tx A l c (HL.out.chg HC2.out) hbig hs)
  clear hC2 hLa hae HLN HAL HP
  go_wp2_with ((with_reducible refine gate_dst (N := 16) rfl ?_); refine wpList_load_row rfl 26 (.tmp 3) rfl w.heap.size rfl 26 _ (0, 0) _ HP2.out Tryd.underlying26 rfl infoP ?_)
  refine HCK.out.mono ?_
  rintro e w3 ⟨rfl, hC3⟩
  have HP3 := Lib.hid (hC3.keep HP2.out (fun h => h))
  have HC3 := Lib.hid (HC2.out.trans hC3)
  have HLA3 := Lib.hid (HLA.out.chg hC3)
  have c0 : w3.cell? ⟨w.heap.size, 0, none⟩ = some (.int .i64 k) := cell_of_heap HP3.out 0
  have c5 : w3.cell? ⟨w.heap.size, 5, none⟩ = some (.int .i64 hd) := cell_of_heap HP3.out 5
  have c6 : w3.cell? ⟨w.heap.size, 6, none⟩ = some (.int .i64 tl) := cell_of_heap HP3.out 6
  have c8 : w3.cell? ⟨w.heap.size, 8, none⟩ = some (.slice A l.length c) := cell_of_heap HP3.out 8
  clear hC3 HCK HP2 HC2 HLA
  have HNO : Hid (¬ applyOk s k ver fr nd tk hd tl tx l → XS = ByteArray.empty ∧ XE = 2) := Lib.hid fun h => ⟨by rw [← HXS.out]; unfold applyS; rw [if_neg h], by rw [← HXE.out]; unfold applyE; rw [if_neg h]⟩
  have hck02 := checkF_02 k ver fr nd tk hd tl tx l
  by_cases hck : checkF k ver fr nd tk hd tl tx l = 0
  · have hcb : (checkF k ver fr nd tk hd tl tx l != 0) = false := by rw [hck]; rfl
    by_cases hk : k = 2
    · have hkb : (k != 2) = false := by rw [hk]; rfl
      subst hk
      obtain ⟨⟨h5, h5'⟩, ⟨h6, h6'⟩, hsl, hll⟩ := delta_ok hck
      by_cases hss : s.size ≤ 65536
      · have hea : a = lnsOf s := HAE.out hss
        obtain rfl := HE0.out hss
        by_cases hht : hd + tl ≤ a.length
        · have hok : applyOk s 2 ver fr nd tk hd tl tx l := ⟨hck, rfl, hss, by rw [← hea]; exact hht⟩
          have HXS2 : Hid (XS = if 65536 < (outB (applyL a l hd.toNat tl.toNat)).length then ByteArray.empty else ⟨(outB (applyL a l hd.toNat tl.toNat)).toArray⟩) := Lib.hid (by rw [← HXS.out]; unfold applyS; rw [if_pos hok, ← hea])
          have HXE2 : Hid (XE = if 65536 < (outB (applyL a l hd.toNat tl.toNat)).length then 5 else 0) := Lib.hid (by rw [← HXE.out]; unfold applyE; rw [if_pos hok, ← hea])
          have hsa : sizes a ≤ 65536 := by rw [hea]; exact Nat.le_trans (lnsOf_sizes s) hss
          obtain ⟨hn, rfl⟩ := Int.eq_ofNat_of_zero_le h5
          obtain ⟨tn, rfl⟩ := Int.eq_ofNat_of_zero_le h6
          rw [Int.toNat_natCast, Int.toNat_natCast] at HXS2 HXE2
          have hhn : hn ≤ a.length := by omega
          have htn : tn ≤ a.length := by omega
          obtain ⟨hcut1, hlt1⟩ := take_row Aa ca a hn hhn hca
          obtain ⟨A3, hcut2, hlt2⟩ := drop_row Aa ca a (a.length - tn) (by omega) hca
          have hsub : ((a.length : Nat) : Int) - (tn : Int) = ((a.length - tn : Nat) : Int) := by omega
          have hw1 : IntKind.i64.wrap (((a.length : Nat) : Int) - (tn : Int)) = ((a.length - tn : Nat) : Int) := by rw [IntWalk.i64_in _ (by omega)]; exact hsub
          have HT := Lib.hid (hlt1 w3 HLA3.out (by omega))
          have HD := Lib.hid (hlt2 w3 HLA3.out (by omega))
          have hT1 : (a.take hn).length ≤ 65537 := by rw [List.length_take]; omega
          have hT2 : sizes (a.take hn) ≤ 65536 := Nat.le_trans (sizes_sub_take a hn) hsa
          have hD1 : (a.drop (a.length - tn)).length ≤ 65537 := by rw [List.length_drop]; omega
          have hD2 : sizes (a.drop (a.length - tn)) ≤ 65536 := Nat.le_trans (sizes_sub_drop a _) hsa
          have HAP : Hid (applyL a l hn tn = a.take hn ++ (l ++ a.drop (a.length - tn))) := Lib.hid rfl
          have hht2 : ¬ ((a.length : Nat) : Int) < (hn : Int) + (tn : Int) := by omega
          clear hlt1 hlt2 hck hck02 hsub hea hok hsa HAE HE0 HE5 HNO HXS HXE
          generalize checkF 2 ver fr nd tk (hn : Int) (tn : Int) tx l = ck at *
          generalize a.take hn = t1 at *
          generalize a.drop (a.length - tn) = t3 at *
          go_upto_region 5 with fail
          have hbl := (Chg.refl (fun _ => False) w3).alloc (.cells #[.pointer none, .slice none 0 0] 82)
          have HBL := Lib.hid hbl
          have HBN := Lib.hid (heap_new w3 (.cells #[.pointer none, .slice none 0 0] 82))
          have HBZ : Hid ((w3.alloc (.cells #[.pointer none, .slice none 0 0] 82)).heap.size = w3.heap.size + 1) := Lib.hid (by simp)
          have e5 := hbl.cell c5 (fun h => h)
          have e6 := hbl.cell c6 (fun h => h)
          have e8 := hbl.cell c8 (fun h => h)
          clear c0 c5 c6 c8 hbl
          generalize w3.alloc (.cells #[.pointer none, .slice none 0 0] 82) = wb at *
          obtain ⟨T, hTT⟩ : ∃ T, t1 ++ (l ++ t3) = T := ⟨_, rfl⟩
          have HTT := Lib.hid hTT
          have hTl : T.length ≤ 200000 := by rw [← hTT]; simp only [List.length_append]; omega
          have hTs : sizes T ≤ 200000 := by rw [← hTT]; simp only [sizes_append]; omega
          rw [hTT] at HAP
          clear hTT
          go_cut [52, 53, 54] from 38 to 51 (fun v52 v53 v54 W => v54 = .int .i64 0 ∧ v53 = .int .i64 (T.length : Nat) ∧ W.ownsRow wb.heap.size 9 1 v52 T.length (T.map Value.string) ∧ Chg (fun _ => False) wb W)
          case first =>
            have hS : wb.drew.cell? ⟨w.heap.size, 5, none⟩ = some (.int .i64 hn) ∧ wb.drew.cell? ⟨w.heap.size, 6, none⟩ = some (.int .i64 tn) ∧ wb.drew.cell? ⟨w.heap.size, 8, none⟩ = some (.slice A l.length c) := ⟨e5, e6, e8⟩
            refine region_lone (fun W' => W'.cell? ⟨w.heap.size, 5, none⟩ = some (.int .i64 hn) ∧ W'.cell? ⟨w.heap.size, 6, none⟩ = some (.int .i64 tn) ∧ W'.cell? ⟨w.heap.size, 8, none⟩ = some (.slice A l.length c)) [] (by kernel_rfl) ?_
            refine take_one 0 hS rfl (by kernel_rfl) rfl ?_
            apply Exists.intro
            refine And.intro (fun W' hS' => ?y0) (And.intro (fun _ _ _ h => h) ?_)
            case y0 => obtain ⟨d5, d6, d8⟩ := hS'; go_simp; rfl
            refine take_one 1 hS rfl (by kernel_rfl) rfl ?_
            apply Exists.intro
            refine And.intro (fun W' hS' => ?y1) (And.intro (fun _ _ _ h => h) ?_)
            case y1 => obtain ⟨d5, d6, d8⟩ := hS'; go_simp; rfl
            refine take_one 2 hS rfl (by kernel_rfl) rfl ?_
            apply Exists.intro
            refine And.intro (fun W' hS' => ?y2) (And.intro (fun _ _ _ h => h) ?_)
            case y2 => obtain ⟨d5, d6, d8⟩ := hS'; go_simp; rfl
            refine take_one 3 hS rfl (by kernel_rfl) rfl ?_
            apply Exists.intro
            refine And.intro (fun W' hS' => ?y3) (And.intro (fun _ _ _ h => h) ?_)
            case y3 => obtain ⟨d5, d6, d8⟩ := hS'; go_simp; rfl
            refine take_one 4 hS rfl (by kernel_rfl) rfl ?_
            apply Exists.intro
            refine And.intro (fun W' hS' => ?y4) (And.intro (fun _ _ _ h => h) ?_)
            case y4 => obtain ⟨d5, d6, d8⟩ := hS'; go_simp; rfl
            refine take_one 5 hS rfl (by kernel_rfl) rfl ?_
            apply Exists.intro
            refine And.intro (fun W' hS' => ?y5) (And.intro (fun _ _ _ h => h) ?_)
            case y5 => obtain ⟨d5, d6, d8⟩ := hS'; go_simp; rfl
            refine take_one 6 hS rfl (by kernel_rfl) rfl ?_
            apply Exists.intro
            refine And.intro (fun W' hS' => ?y6) (And.intro (fun _ _ _ h => h) ?_)
            case y6 => obtain ⟨d5, d6, d8⟩ := hS'; go_simp; rfl
            refine take_one 7 hS rfl (by kernel_rfl) rfl ?_
            apply Exists.intro
            refine And.intro (fun W' hS' => ?y7) (And.intro (fun _ _ _ h => h) ?_)
            case y7 => obtain ⟨d5, d6, d8⟩ := hS'; go_simp; rfl
            refine take_one 8 hS rfl (by kernel_rfl) rfl ?_
            apply Exists.intro
            refine And.intro (fun W' hS' => ?y8) (And.intro (fun _ _ _ h => h) ?_)
            case y8 => obtain ⟨d5, d6, d8⟩ := hS'; go_simp; rfl
            refine take_one 9 hS rfl (by kernel_rfl) rfl ?_
            apply Exists.intro
            refine And.intro (fun W' hS' => ?y9) (And.intro (fun _ _ _ h => h) ?_)
            case y9 => obtain ⟨d5, d6, d8⟩ := hS'; go_simp; rfl
            refine take_one 10 hS rfl (by kernel_rfl) rfl ?_
            apply Exists.intro
            refine And.intro (fun W' hS' => ?y10) (And.intro (fun _ _ _ h => h) ?_)
            case y10 => obtain ⟨d5, d6, d8⟩ := hS'; go_simp; rfl
            refine take_one 11 hS rfl (by kernel_rfl) rfl ?_
            apply Exists.intro
            refine And.intro (fun W' hS' => ?y11) (And.intro (fun _ _ _ h => h) ?_)
            case y11 => obtain ⟨d5, d6, d8⟩ := hS'; go_simp; rfl
            refine take_one 12 hS rfl (by kernel_rfl) rfl ?_
            apply Exists.intro
            refine And.intro (fun W' hS' => ?y12) (And.intro (fun _ _ _ h => h) ?_)
            case y12 => obtain ⟨d5, d6, d8⟩ := hS'; go_simp; rfl
            have hd := (Chg.refl (fun _ => False) wb).drew
            refine take_one 16 hS rfl (by kernel_rfl) rfl ?_
            apply Exists.intro
            refine And.intro (fun W' hS' => ?y16) (And.intro (fun _ _ _ h => h) ?_)
            case y16 => go_simp; rfl
            refine only_one 13 rfl (by kernel_rfl) rfl ?_
            go_simp
            have hal3 := (Chg.refl (fun _ => False) wb).alloc (.cells #[.slice Aa t1.length ca, .slice A l.length c, .slice A3 t3.length (ca - (a.length - tn))] 24)
            have hS3 := heap_new wb (.cells #[.slice Aa t1.length ca, .slice A l.length c, .slice A3 t3.length (ca - (a.length - tn))] 24)
            refine ⟨⟨hal3.cell e5 (fun h => h), hal3.cell e6 (fun h => h), hal3.cell e8 (fun h => h)⟩, ?_⟩
            refine only_one 14 rfl (by kernel_rfl) rfl ?_
            go_simp
            have hcc := concat3 (wb.alloc (.cells #[.slice Aa t1.length ca, .slice A l.length c, .slice A3 t3.length (ca - (a.length - tn))] 24)).drew wb.heap.size (fun i => if i = 0 then Aa else if i = 1 then A else A3) (fun i => if i = 0 then t1 else if i = 1 then l else t3) (fun i => if i = 0 then ca else if i = 1 then c else ca - (a.length - tn)) hS3 (fun i hi => by
                have : i = 0 ∨ i = 1 ∨ i = 2 := by omega
                rcases this with rfl | rfl | rfl
                · exact HT.out.chg ((HBL.out.trans hal3).drew)
                · exact HL.out.chg ((HC3.out.trans (HBL.out.trans hal3)).drew)
                · exact HD.out.chg ((HBL.out.trans hal3).drew)) (fun i hi => by
                have : i = 0 ∨ i = 1 ∨ i = 2 := by omega
                rcases this with rfl | rfl | rfl <;> simp <;> omega)
            refine hcc.mono ?_
            rintro e w6 ⟨v6, rfl, ho6, hC6⟩
            have hcat : catL (fun i => if i = 0 then t1 else if i = 1 then l else t3) 3 = T := by rw [← HTT.out]; simp [catL, List.range_succ]
            rw [hcat] at ho6
            obtain ⟨va, vc, hv6⟩ : ∃ va vc, v6 = .slice va T.length vc := by
              rcases ho6.2 with ⟨h1, h2⟩ | ⟨g', cap', cur, hv, hg', hh, r1, r2, r3, r4⟩
              · have : T = [] := by simpa using h2
                exact ⟨none, 0, by rw [h1, this]; rfl⟩
              · exact ⟨_, _, hv⟩
            subst hv6
            have hS6 := (hal3.drew.trans hC6)
            refine ⟨⟨hS6.cell e5 (fun h => h), hS6.cell e6 (fun h => h), hS6.cell e8 (fun h => h)⟩, ?_⟩
            refine take_one 15 ⟨hS6.cell e5 (fun h => h), hS6.cell e6 (fun h => h), hS6.cell e8 (fun h => h)⟩ rfl (by kernel_rfl) rfl ?_
            apply Exists.intro
            refine And.intro (fun W' hS' => ?y15) (And.intro (fun _ _ _ h => h) ?_)
            case y15 => go_simp; rfl
            refine all_done (by kernel_rfl) ?_ _
            go_simp
            go_wp2_with fail
            go_meet
            exact ⟨rfl, rfl, own_lower ho6 (by show wb.heap.size ≤ (wb.alloc _).heap.size; simp), hS6⟩
          case rest =>
            obtain ⟨rfl, rfl, ho, hC⟩ := hcut
            have hCw : Chg (fun _ => False) w wc := HC3.out.trans (HBL.out.trans hC)
            have hb0 : Lib.IsBuilder 82 5 w3.heap.size w3.heap.size (Lib.byteCells (outB (T.take 0))) wc := .inl ⟨Nat.le_refl _, .slice none 0 0, hC.keep HBN.out (fun h => h), World.ownsRow_nil _ _ _ _, by simp [Value.ownBlock]⟩
            have hne : u52.ownBlock ≠ some w3.heap.size := fun h => by have := own_block ho h; have := HBZ.out; omega
            obtain ⟨Ar, cr, rfl, hLr⟩ := own_lines ho
            have HO := Lib.hid ho
            have HB0 := Lib.hid hb0
            have HCW := Lib.hid hCw
            have HNE := Lib.hid hne
            have hsz3 := HC3.out.size
            have hmax : ∀ k, k ≤ T.length → (outB (T.take k)).length ≤ 400000 := fun k hk => by
              rw [outB_length, List.length_take]
              have := sizes_sub_take T k
              omega
            have HMX := Lib.hid hmax
            have HXA := Lib.hid (show applyL a l hn tn = T from HAP.out)
            rw [HXA.out] at HXS2 HXE2
            clear ho hC hb0 hCw hne hLr hmax HBL HBN e5 e6 e8 HT HD HAP hcut1 hcut2 hw1 HLA3 HL HP3 HBZ
            go_wp2_with fail
            go_loopw [10, 54] (fun _ i wr => ∃ j : Nat, j ≤ T.length ∧ i = .int .i64 j ∧ Lib.IsBuilder 82 5 w3.heap.size w3.heap.size (Lib.byteCells (outB (T.take j))) wr ∧ wr.ownsRow wb.heap.size 9 1 (.slice Ar T.length cr) T.length (T.map Value.string) ∧ Chg (fun _ => False) w wr) (fun _ i _ => T.length - (intOf i).toNat)
            case atStart => exact ⟨0, by omega, rfl, HB0.out, HO.out, HCW.out⟩
            case round =>
              obtain ⟨j, hj, rfl, hbj, hoj, hCj⟩ := hrel
              by_cases hlt : j < T.length
              · obtain ⟨Ar', cr', he, hLr⟩ := own_lines hoj
                cases he
                obtain ⟨g, p, rfl, cx⟩ := hLr j hlt
                have hot := outB_take T j hlt
                have hmx := HMX.out j hj
                have hmx1 := HMX.out (j + 1) (by omega)
                rw [hot, List.length_append, List.length_append] at hmx1
                have hzz : (T.getD j ByteArray.empty).data.toList.length = (T.getD j ByteArray.empty).size := by rw [Array.length_toList]; rfl
                have HOT := Lib.hid hot
                have HBJ := Lib.hid hbj
                have HOJ := Lib.hid hoj
                have HCJ := Lib.hid hCj
                have hszj := hCj.size
                clear hot hbj hoj hCj hLr
                generalize T.getD j ByteArray.empty = x at *
                have hws := writeString_some w3.heap.size w3.heap.size _ (x ++ ⟨#[10]⟩) wr HBJ.out (by rw [Lib.byteCells_length, line_size]; omega) (by
                  rcases HBJ.out with h | h
                  · exact Nat.le_of_lt h.lt
                  · exact Nat.le_of_lt h.lt)
                have HWS := Lib.hid hws
                clear hws
                go_wp2_with fail
                refine HWS.out.mono ?_
                rintro e w7 ⟨rfl, hb7, hbe7, hos7⟩
                have HB7 : Hid (Lib.IsBuilder 82 5 w3.heap.size w3.heap.size (Lib.byteCells (outB (T.take (j + 1)))) w7) := Lib.hid (by
                  rw [HOT.out, byteCells_append, ← strCells_line]
                  exact hb7)
                have HO7 := Lib.hid (own_others HOJ.out hos7 HNE.out)
                have HC7 := Lib.hid (chg_below HCJ.out hsz3 hbe7)
                clear hb7 hbe7 hos7 HWS
                go_wp2_with fail
                go_roundw
                case rel => exact ⟨j + 1, by omega, by go_num, HB7.out, HO7.out, HC7.out⟩
                case measure => simp [intOf] <;> omega
              · obtain rfl : j = T.length := by omega
                rw [List.take_length] at hbj
                have hlen := Tryd.Builder_Len w3.heap.size w3.heap.size _ wr hbj
                rw [Lib.byteCells_length] at hlen
                have HLEN := Lib.hid hlen
                have HSTR := Lib.hid (Tryd.Builder_String_any w3.heap.size w3.heap.size (outB T) wr hbj (by
                  rcases hbj with h | h
                  · exact Nat.le_of_lt h.lt
                  · exact Nat.le_of_lt h.lt))
                have HCJ := Lib.hid hCj
                clear hbj hoj hCj hlen
                generalize hN : (outB T).length = N at *
                go_wp2_with fail
                refine HLEN.out.mono ?_
                rintro e w7 ⟨rfl, rfl⟩
                by_cases hbg : 65536 < N
                · have HX1 : Hid (XS = ByteArray.empty) := Lib.hid (by rw [HXS2.out, if_pos hbg])
                  have HX2 : Hid (XE = 5) := Lib.hid (by rw [HXE2.out, if_pos hbg])
                  clear hN
                  go_wp2_with fail
                  go_ret2
                  exact ⟨by rw [HX1.out, HX2.out]; rfl, HCJ.out⟩
                · have HX1 : Hid (XS = ⟨(outB T).toArray⟩) := Lib.hid (by rw [HXS2.out, if_neg hbg])
                  have HX2 : Hid (XE = 0) := Lib.hid (by rw [HXE2.out, if_neg hbg])
                  clear hN
                  go_wp2_with fail
                  refine HSTR.out.mono ?_
                  rintro e w8 ⟨rfl, hbe8⟩
                  have HC8 := Lib.hid (chg_below HCJ.out hsz3 hbe8)
                  clear hbe8
                  go_wp2_with fail
                  go_ret2
                  exact ⟨by rw [HX1.out, HX2.out]; rfl, HC8.out⟩
        · have hht' : ((a.length : Nat) : Int) < hd + tl := by omega
          obtain ⟨hx1, hx2⟩ := HNO.out (fun h => by have := h.2.2.2; rw [← hea] at this; omega)
          have HX1 := Lib.hid hx1
          have HX2 := Lib.hid hx2
          clear hx1 hx2 hck hck02 hea
          generalize checkF 2 ver fr nd tk hd tl tx l = ck at *
          go_wp2_with fail
          go_ret2
          exact ⟨by rw [HX1.out, HX2.out]; rfl, HC3.out⟩
      · obtain rfl := HE5.out hss
        obtain ⟨hx1, hx2⟩ := HNO.out (fun h => hss h.2.2.1)
        have HX1 := Lib.hid hx1
        have HX2 := Lib.hid hx2
        clear hx1 hx2 hck hck02
        generalize checkF 2 ver fr nd tk hd tl tx l = ck at *
        go_wp2_with fail
        go_ret2
        exact ⟨by rw [HX1.out, HX2.out]; rfl, HC3.out⟩
    · have hkb : (k != 2) = true := bne_iff_ne.2 hk
      obtain ⟨hx1, hx2⟩ := HNO.out (fun h => hk h.2.1)
      have HX1 := Lib.hid hx1
      have HX2 := Lib.hid hx2
      clear hx1 hx2 hck hck02 hk
      generalize checkF k ver fr nd tk hd tl tx l = ck at *
      go_wp2_with fail
      go_ret2
      exact ⟨by rw [HX1.out, HX2.out]; rfl, HC3.out⟩
  · have hcb : (checkF k ver fr nd tk hd tl tx l != 0) = true := bne_iff_ne.2 hck
    obtain ⟨hx1, hx2⟩ := HNO.out (fun h => hck h.1)
    have HX1 := Lib.hid hx1
    have HX2 := Lib.hid hx2
    clear hx1 hx2 hck hck02
    generalize checkF k ver fr nd tk hd tl tx l = ck at *
    go_wp2_with fail
    go_ret2
    exact ⟨by rw [HX1.out, HX2.out]; rfl, HC3.out⟩
end Go.Proofs.YteiedafdakffeaaDoor
