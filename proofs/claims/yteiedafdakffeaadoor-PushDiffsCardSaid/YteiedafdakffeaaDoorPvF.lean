/- push: flat and joined, walked. -/
import Derived.Test.YteiedafdakffeaaDoorPvE
import Derived.Test.YteiedafdakffeaaDoorPuH
namespace Go.Proofs.YteiedafdakffeaaDoor
set_option linter.unusedVariables false
set_option linter.unusedSimpArgs false
open Go Go.RowKit Go.Proofs
open Go.Proofs.YteiedafdakffeaaDoorW.PrintWords (Kd bytesOf bytesOf_length ReadsInt ReadsOf gate_store gate_dst own_move)
theorem flat_step (s : ByteArray) (j : Nat) (h : j < s.size) : nums (flatL (s.data.toList.take (j + 1))) = if (s[j]).toNat = 10 then nums (flatL (s.data.toList.take j)) else nums (flatL (s.data.toList.take j)) ++ [((s[j]).toNat : Int)] := by
  rw [take_byte s j h]
  unfold flatL nums
  rw [List.filter_append]
  by_cases h10 : (s[j]).toNat = 10
  · have e : s[j] = 10 := UInt8.toNat_inj.1 h10
    rw [if_pos h10]
    simp [e]
  · have e : ¬ s[j] = 10 := fun e => h10 (by rw [e]; rfl)
    rw [if_neg h10]
    simp [e]
theorem nums_len (s : ByteArray) (j : Nat) : (nums (flatL (s.data.toList.take j))).length ≤ j := by
  unfold nums flatL
  rw [List.length_map]
  exact Nat.le_trans (List.length_filter_le _ _) (List.length_take_le _ _)
set_option maxRecDepth 100000 in
set_option maxHeartbeats 4000000 in
theorem flatF_some (w : World) (s : ByteArray) (hs : s.size ≤ 9223372036854775807) :
    Calls Tryd.prog 64 #[.string s] w fun e w' => e = .returned (.string (flatF s)) ∧ Chg (fun _ => False) w w' := by
  obtain ⟨i0, hi, hz0, hz1, hz2⟩ := info_parts info5
  go_enter Tryd.func64, Tryd.ntmps64
  go_wp2_with fail
  go_loopw [3, 4] (fun s3 i wr => ∃ (j : Nat) (xs : List Int), j ≤ 60 ∧ j ≤ s.size ∧ i = .int .i64 j ∧ wr.ownsRow w.heap.size 5 1 s3 xs.length (u8s xs) ∧ xs.length ≤ j ∧ Hid (xs = nums (flatL (s.data.toList.take j))) ∧ Chg (fun _ => False) w wr) (fun _ i _ => 60 - (intOf i).toNat)
  case atStart => exact ⟨0, [], by omega, by omega, rfl, World.ownsRow_nil _ _ _ _, by simp, Lib.hid rfl, Chg.refl _ _⟩
  case round =>
    obtain ⟨j, xs, hj, hj2, rfl, ho, hlen, HX, hC⟩ := hrel
    have HO := Lib.hid ho
    have HC := Lib.hid hC
    have hsz := hC.size
    clear ho hC
    by_cases hlt : j < s.size
    · by_cases hlt2 : j < 60
      · have hbx : ((s[j]).toNat : Int) ≤ 255 := by have := (s[j]).toNat_lt; omega
        have HST := Lib.hid (flat_step s j hlt)
        by_cases hten : (s[j]).toNat = 10
        · have ht : (((s[j]).toNat : Int) != 10) = false := by rw [hten]; rfl
          have HX1 : Hid (Hid (xs = nums (flatL (s.data.toList.take (j + 1))))) := Lib.hid (Lib.hid (by rw [HST.out, if_pos hten]; exact HX.out))
          clear hten
          go_wp2_with fail
          go_roundw
          case rel => exact ⟨j + 1, xs, by omega, by omega, by go_num, HO.out, by omega, HX1.out, HC.out⟩
          case measure => simp [intOf] <;> omega
        · have ht : (((s[j]).toNat : Int) != 10) = true := bne_iff_ne.2 (by omega)
          have hx0 : (0 : Int) ≤ ((s[j]).toNat : Int) := by omega
          have HX1 : Hid (Hid (xs ++ [((s[j]).toNat : Int)] = nums (flatL (s.data.toList.take (j + 1))))) := Lib.hid (Lib.hid (by rw [HST.out, if_neg hten, HX.out]))
          clear hten
          go_wp2_with (at_builtin; refine wpList_append_own_at _ rfl _ _ 22 rfl w.heap.size 5 i0 (.int .u8 0) 1 1 Tryd.underlying22 hi hz0 hz1 hz2 rfl (by decide) _ _ _ rfl (HO.out.alloc _) ⟨wr.heap.size, 0, none⟩ 1 1 [.int .u8 ((s[j]).toNat : Int)] rfl rfl ?c1 ?c2 ?c3 ?c4 ?c5 ?_)
          case c1 => exact cell_one_new _ _ _
          case c2 => simp [Value.oneCell']
          case c3 => unfold maxLen; omega
          case c4 => omega
          case c5 => simp; omega
          intro v' w1 hown' hgrow _ hat
          have HO1 : Hid (w1.ownsRow w.heap.size 5 1 v' (xs ++ [((s[j]).toNat : Int)]).length (u8s (xs ++ [((s[j]).toNat : Int)]))) := Lib.hid (by
            rw [u8s_append, List.length_append]
            exact hown')
          have HC1 := Lib.hid ((HC.out.alloc (.cells #[.int .u8 ((s[j]).toNat : Int)] 5)).grown hgrow (fun k hk => .inr (own_block HO.out hk)))
          clear hown' hgrow hat
          go_wp2
          go_roundw
          case rel => exact ⟨j + 1, _, by omega, by omega, by go_num, HO1.out, by rw [List.length_append]; simp; omega, HX1.out, HC1.out⟩
          case measure => simp [intOf] <;> omega
      · obtain rfl : j = 60 := by omega
        obtain ⟨A, c, rfl, hc, hR⟩ := own_bytes HO.out
        have hcv := Kd.C_string (P := Tryd.prog) (A := A) (c := c) Tryd.underlying22 Tryd.underlying5 Tryd.underlying9 (Kd.C_of_reads (d := (0 : Int)) (h1 := fun _ => rfl) hR)
        have HE : Hid (strOfNums xs = flatF s) := Lib.hid (by rw [HX.out]; exact strOf_nums _)
        clear hR
        go_wp2
        go_ret
        exact ⟨by rw [← HE.out]; rfl, HC.out⟩
    · obtain rfl : j = s.size := by omega
      obtain ⟨A, c, rfl, hc, hR⟩ := own_bytes HO.out
      have hcv := Kd.C_string (P := Tryd.prog) (A := A) (c := c) Tryd.underlying22 Tryd.underlying5 Tryd.underlying9 (Kd.C_of_reads (d := (0 : Int)) (h1 := fun _ => rfl) hR)
      have HE : Hid (strOfNums xs = flatF s) := Lib.hid (by
        rw [HX.out, strOf_nums]
        unfold flatF
        have hz : s.data.toList.length = s.size := by rw [Array.length_toList]; rfl
        rw [List.take_of_length_le (by omega), List.take_of_length_le (by omega)])
      clear hR
      go_wp2
      go_ret
      exact ⟨by rw [← HE.out]; rfl, HC.out⟩
theorem join_step (l : List ByteArray) (j : Nat) (x : ByteArray) (h : j < l.length) (hx : l.getD j ByteArray.empty = x) : mk ((l.take (j + 1)).map flatF) = (mk ((l.take j).map flatF) ++ flatF x) ++ ⟨#[10]⟩ := by
  have e : l.take (j + 1) = l.take j ++ [l[j]] := by rw [List.take_add_one, List.getElem?_eq_getElem h]; rfl
  have e2 : l[j] = x := by rw [← hx]; simp [List.getD, h]
  rw [e, e2, List.map_append, ← mk_append]
  apply ByteArray.ext
  simp only [ByteArray.data_append, List.map_cons, List.map_nil]
  have : (mk [flatF x]).data = (flatF x).data ++ #[10] := by
    unfold mk outB
    apply Array.toList_inj.1
    simp
  rw [this, Array.append_assoc]
theorem join_size (l : List ByteArray) (j : Nat) (hj : j ≤ 40) : (mk ((l.take j).map flatF)).size ≤ 61 * j := by
  rw [mk_size]
  have h1 := sizes_le_of ((l.take j).map flatF) (fun x hx => by obtain ⟨s, _, rfl⟩ := List.mem_map.1 hx; exact flatF_size s)
  have h2 : ((l.take j).map flatF).length ≤ j := by rw [List.length_map]; exact List.length_take_le _ _
  omega
set_option maxRecDepth 100000 in
set_option maxHeartbeats 4000000 in
theorem joined_some (w : World) (A : Option Addr) (l : List ByteArray) (c : Nat) (hl : Lns w A l) (hL : l.length ≤ 9223372036854775807) (hss : ∀ s ∈ l, s.size ≤ 9223372036854775807) :
    Calls Tryd.prog 28 #[.slice A l.length c] w fun e w' => e = .returned (.string (mk (joinL l))) ∧ Chg (fun _ => False) w w' := by
  have HL := Lib.hid hl
  have HSS := Lib.hid hss
  clear hl hss
  go_enter Tryd.func28, Tryd.ntmps28
  go_wp2_with fail
  go_loopw [3, 4] (fun s3 i wr => ∃ (j : Nat) (t : ByteArray), j ≤ 40 ∧ j ≤ l.length ∧ i = .int .i64 j ∧ s3 = .string t ∧ Hid (t = mk ((l.take j).map flatF)) ∧ t.size ≤ 2440 ∧ Chg (fun _ => False) w wr) (fun _ i _ => 40 - (intOf i).toNat)
  case atStart => exact ⟨0, _, by omega, by omega, rfl, rfl, Lib.hid rfl, by decide, Chg.refl _ _⟩
  case round =>
    obtain ⟨j, t, hj, hjl, rfl, rfl, HT, htz, hC⟩ := hrel
    have HC := Lib.hid hC
    clear hC
    by_cases hlt : j < l.length
    · by_cases h40 : j < 40
      · obtain ⟨g, p, rfl, hcs⟩ := lns_cells (HL.out.chg HC.out) (by omega)
        have hcj := hcs j hlt
        have hxm : (l.getD j ByteArray.empty).size ≤ 9223372036854775807 := HSS.out _ (by simp [List.getD, hlt])
        obtain ⟨x, hx⟩ : ∃ x, l.getD j ByteArray.empty = x := ⟨_, rfl⟩
        rw [hx] at hcj hxm
        have HST := Lib.hid (join_step l j x hlt hx)
        have hfs := flatF_size x
        have hz1 := join_size l (j + 1) (by omega)
        rw [HST.out, ← HT.out] at hz1
        clear hcs hx
        go_wp2_with fail
        refine (flatF_some _ x hxm).mono ?_
        rintro e w3 ⟨rfl, hC3⟩
        have HC3 := Lib.hid (HC.out.trans hC3)
        have HT3 : Hid (Hid ((t ++ flatF x) ++ ⟨#[10]⟩ = mk ((l.take (j + 1)).map flatF))) := Lib.hid (Lib.hid (by rw [HST.out, HT.out]))
        have HZ := Lib.hid (show ((t ++ flatF x) ++ ⟨#[10]⟩ : ByteArray).size ≤ 2440 by omega)
        clear hC3 hcj hz1
        generalize flatF x = fx at *
        go_wp2_with fail
        go_roundw
        case rel => exact ⟨j + 1, _, by omega, by omega, by go_num, rfl, HT3.out, HZ.out, HC3.out⟩
        case measure => simp [intOf] <;> omega
      · obtain rfl : j = 40 := by omega
        have HE : Hid (t = mk (joinL l)) := Lib.hid HT.out
        go_wp2_with fail
        go_ret
        exact ⟨by rw [← HE.out]; rfl, HC.out⟩
    · obtain rfl : j = l.length := by omega
      have HE : Hid (t = mk (joinL l)) := Lib.hid (by rw [HT.out]; unfold joinL; rw [List.take_of_length_le (Nat.le_refl _), List.take_of_length_le hj])
      go_wp2_with fail
      go_ret
      exact ⟨by rw [← HE.out]; rfl, HC.out⟩
end Go.Proofs.YteiedafdakffeaaDoor
