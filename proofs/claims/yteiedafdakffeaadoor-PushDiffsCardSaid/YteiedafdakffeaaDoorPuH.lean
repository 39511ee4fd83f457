/- push: Bring, flat, made: a packet out of a seed may be. -/
import Derived.Test.YteiedafdakffeaaDoorPuF
import Derived.Test.YteiedafdakffeaaDoorPuG
namespace Go.Proofs.YteiedafdakffeaaDoor
set_option linter.unusedVariables false
set_option linter.unusedSimpArgs false
open Go Go.RowKit Go.Proofs
open Go.Proofs.YteiedafdakffeaaDoorW.PrintWords (Kd ReadsInt ReadsOf own_move print_drop_of print_take_of gate_dst gate_store bytesOf bytesOf_length)
theorem tmod_neg {i n : Int} (hn : 0 < n) (h : i.tmod n < 0) : i.tmod n + n = i % n := by
  rw [Int.tmod_eq_emod] at h ⊢
  have := Int.emod_nonneg i (show n ≠ 0 by omega)
  split at h
  · omega
  · rename_i hc
    rw [if_neg hc]
    have : (n.natAbs : Int) = n := by omega
    omega
theorem tmod_pos {i n : Int} (hn : 0 < n) (h : ¬ i.tmod n < 0) : i.tmod n = i % n := by
  rw [Int.tmod_eq_emod] at h ⊢
  have h1 := Int.emod_lt_of_pos i hn
  split at h
  · rename_i hc; rw [if_pos hc]; omega
  · have : (n.natAbs : Int) = n := by omega
    omega
set_option maxRecDepth 100000 in
set_option maxHeartbeats 4000000 in
theorem bring_some (w : World) (i n : Int) (hn : 1 ≤ n) (hn2 : n ≤ 4611686018427387904) (hi : -9223372036854775808 ≤ i) (hi2 : i ≤ 9223372036854775807) :
    Calls Tryd.prog 27 #[.int .i64 i, .int .i64 n] w fun e w' => e = .returned (.int .i64 (i % n)) ∧ w' = w := by
  have h1 := Int.tmod_lt_of_pos i (show 0 < n by omega)
  have h2 : -n < i.tmod n := Int.lt_tmod_of_pos i (show 0 < n by omega)
  by_cases hneg : i.tmod n < 0
  · have he := tmod_neg (show 0 < n by omega) hneg
    have HE := Lib.hid he
    have hw : IntKind.i64.wrap (i.tmod n) = i.tmod n := IntWalk.i64_in _ ⟨by omega, by omega⟩
    have hw2 : IntKind.i64.wrap (i.tmod n + n) = i.tmod n + n := IntWalk.i64_in _ ⟨by omega, by omega⟩
    clear he
    go_enter Tryd.func27, Tryd.ntmps27
    go_wp2
    go_ret
    exact ⟨by rw [← HE.out]; rfl, rfl⟩
  · have he := tmod_pos (show 0 < n by omega) hneg
    have HE := Lib.hid he
    have hw : IntKind.i64.wrap (i.tmod n) = i.tmod n := IntWalk.i64_in _ ⟨by omega, by omega⟩
    clear he
    go_enter Tryd.func27, Tryd.ntmps27
    go_wp2
    go_ret
    exact ⟨by rw [← HE.out]; rfl, rfl⟩
theorem has10_of (l : List Int) (hb : Bys l) (h : ∀ x ∈ l, x ≠ 10) : has10 (strOfNums l) = false := by
  unfold has10
  rw [decide_eq_false_iff_not]
  intro hc
  obtain ⟨o, ho⟩ := Int.eq_ofNat_of_zero_le hc
  have := (Lib.indexByte_some ho).1
  rw [show (strOfNums l).data.toList = l.map (fun x => UInt8.ofNat x.toNat) by simp [strOfNums], List.getElem?_map] at this
  obtain ⟨x, hx, he⟩ := Option.map_eq_some_iff.1 this
  have hm := List.mem_of_getElem? hx
  have h1 := hb x hm
  have h2 := h x hm
  have h3 := congrArg UInt8.toNat he
  have e : (UInt8.ofNat x.toNat).toNat = x.toNat % 256 := by simp
  rw [e] at h3
  have : (10 : UInt8).toNat = 10 := rfl
  omega
set_option maxRecDepth 100000 in
set_option maxHeartbeats 4000000 in
theorem flat_some (w : World) (s : ByteArray) (hs : s.size ≤ 9223372036854775807) :
    Calls Tryd.prog 64 #[.string s] w fun e w' => ∃ r : ByteArray, e = .returned (.string r) ∧ has10 r = false ∧ r.size ≤ 60 ∧ Chg (fun _ => False) w w' := by
  obtain ⟨i0, hi, hz0, hz1, hz2⟩ := info_parts info5
  go_enter Tryd.func64, Tryd.ntmps64
  go_wp2_with fail
  go_loopw [3, 4] (fun s3 i wr => ∃ (j : Nat) (xs : List Int), j ≤ 60 ∧ j ≤ s.size ∧ i = .int .i64 j ∧ wr.ownsRow w.heap.size 5 1 s3 xs.length (u8s xs) ∧ xs.length ≤ j ∧ Bys xs ∧ (∀ x ∈ xs, x ≠ 10) ∧ Chg (fun _ => False) w wr) (fun _ i _ => 60 - (intOf i).toNat)
  case atStart => exact ⟨0, [], by omega, by omega, rfl, World.ownsRow_nil _ _ _ _, by simp, fun x hx => by simp at hx, fun x hx => by simp at hx, Chg.refl _ _⟩
  case round =>
    obtain ⟨j, xs, hj, hj2, rfl, ho, hlen, hby, hne, hC⟩ := hrel
    have HO := Lib.hid ho
    have HB := Lib.hid hby
    have HN := Lib.hid hne
    have HC := Lib.hid hC
    have hsz := hC.size
    clear ho hby hne hC
    by_cases hlt : j < s.size
    · by_cases hlt2 : j < 60
      · have hbx : ((s[j]).toNat : Int) ≤ 255 := by have := (s[j]).toNat_lt; omega
        by_cases hten : (s[j]).toNat = 10
        · have ht : (((s[j]).toNat : Int) != 10) = false := by rw [hten]; rfl
          clear hten
          go_wp2_with fail
          go_roundw
          case rel => exact ⟨j + 1, xs, by omega, by omega, by go_num, HO.out, by omega, HB.out, HN.out, HC.out⟩
          case measure => simp [intOf] <;> omega
        · have ht : (((s[j]).toNat : Int) != 10) = true := bne_iff_ne.2 (by omega)
          have hx10 : ((s[j]).toNat : Int) ≠ 10 := by omega
          have hx0 : (0 : Int) ≤ ((s[j]).toNat : Int) := by omega
          have HX := Lib.hid hx10
          clear hten hx10
          go_wp2_with (at_builtin; refine wpList_append_own_at _ rfl _ _ 22 rfl w.heap.size 5 i0 (.int .u8 0) 1 1 Tryd.underlying22 hi hz0 hz1 hz2 rfl (by decide) _ _ _ rfl (HO.out.alloc _) ⟨wr.heap.size, 0, none⟩ 1 1 [.int .u8 ((s[j]).toNat : Int)] rfl rfl ?c1 ?c2 ?c3 ?c4 ?c5 ?_)
          case c1 => exact cell_one_new _ _ _
          case c2 => simp [Value.oneCell']
          case c3 => unfold maxLen; omega
          case c4 => omega
          case c5 => simp; omega
          intro v' w1 hown' hgrow _ hat
          have HO1 : Hid (w1.ownsRow w.heap.size 5 1 v' (xs ++ [((s[j]).toNat : Int)]).length (u8s (xs ++ [((s[j]).toNat : Int)]))) := Lib.hid (by
            rw [u8s_append, List.length_append]
            exact hown')
          have HC1 := Lib.hid ((HC.out.alloc (.cells #[.int .u8 ((s[j]).toNat : Int)] 5)).grown hgrow (fun k hk => .inr (own_block HO.out hk)))
          have HB1 : Hid (Bys (xs ++ [((s[j]).toNat : Int)])) := Lib.hid fun x hx => by
            rcases List.mem_append.1 hx with h | h
            · exact HB.out x h
            · rw [List.mem_singleton.1 h]; exact ⟨hx0, hbx⟩
          have HN1 : Hid (∀ x ∈ xs ++ [((s[j]).toNat : Int)], x ≠ 10) := Lib.hid fun x hx => by
            rcases List.mem_append.1 hx with h | h
            · exact HN.out x h
            · rw [List.mem_singleton.1 h]; exact HX.out
          clear hown' hgrow hat
          go_wp2
          go_roundw
          case rel => exact ⟨j + 1, _, by omega, by omega, by go_num, HO1.out, by rw [List.length_append]; simp; omega, HB1.out, HN1.out, HC1.out⟩
          case measure => simp [intOf] <;> omega
      · obtain ⟨A, c, rfl, hc, hR⟩ := own_bytes HO.out
        have hcv := Kd.C_string (P := Tryd.prog) (A := A) (c := c) Tryd.underlying22 Tryd.underlying5 Tryd.underlying9 (Kd.C_of_reads (d := (0 : Int)) (h1 := fun _ => rfl) hR)
        have HR := Lib.hid (has10_of xs HB.out HN.out)
        have HS := Lib.hid (strOf_size xs)
        clear hR
        go_wp2
        go_ret
        exact ⟨_, rfl, HR.out, by rw [HS.out]; omega, HC.out⟩
    · obtain ⟨A, c, rfl, hc, hR⟩ := own_bytes HO.out
      have hcv := Kd.C_string (P := Tryd.prog) (A := A) (c := c) Tryd.underlying22 Tryd.underlying5 Tryd.underlying9 (Kd.C_of_reads (d := (0 : Int)) (h1 := fun _ => rfl) hR)
      have HR := Lib.hid (has10_of xs HB.out HN.out)
      have HS := Lib.hid (strOf_size xs)
      clear hR
      go_wp2
      go_ret
      exact ⟨_, rfl, HR.out, by rw [HS.out]; omega, HC.out⟩
end Go.Proofs.YteiedafdakffeaaDoor
