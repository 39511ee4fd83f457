/- The contract of text.Join. -/
import Derived.Test.YtnkinkgmceokhaaDoorTxtPreds
import Derived.Lib.Join
import Derived.LoopTactic
namespace Go.Proofs.YtnkinkgmceokhaaDoor
set_option linter.unusedVariables false
set_option linter.unusedSimpArgs false
open Go Go.RowKit Go.Proofs Go.Shelf
open Go.Proofs.YtnkinkgmceokhaaDoorW.PrintWords (Kd)
/-- what Join tells -/
def text_Join.f (l0 : List ByteArray) : Option (ByteArray × Int) :=
  if ([32].intercalate (l0.map fun s => s.data.toList)).length ≤ 140737488355328 ∧ l0.length ≤ 140737488355328 then some (bs (joinR (l0.map fun s => s.data.toList)), joinE (l0.map fun s => s.data.toList)) else none
theorem wN_byte (b : UInt8) : (!wN b.toNat) = !wB b := rfl
theorem contains_word (s : ByteArray) : decide (0 ≤ Lib.idxFunc (fun r => !wN r) true s) = !s.data.toList.all wB := by
  rw [idx_bytes (fun r => !wN r) (fun b => !wB b) s (fun r hr => ?_) (fun b _ => wN_byte b) (fun b hb => ?_)]
  · rw [List.not_all_eq_any_not]
  · unfold wN
    rw [decide_eq_false (by omega : ¬ r ≤ 126)]
    simp
  · rw [← wN_byte]
    unfold wN
    rw [decide_eq_false (by omega : ¬ b.toNat ≤ 126)]
    simp
theorem C_cells {w : World} {A : Option Addr} {n : Nat} {xs : List ByteArray} (h : Kd.C Kd.string w A n xs) (h0 : 0 < n) : ∃ b o, A = some ⟨b, o, none⟩ ∧ b < w.heap.size ∧ ∀ j x, xs[j]? = some x → w.cell? ⟨b, o + j, none⟩ = some (.string x) := by
  obtain ⟨hl, _, hc⟩ := h
  obtain ⟨⟨b, o, s⟩, rfl, hcells⟩ := hc h0
  have hx : xs[0]? = some xs[0] := List.getElem?_eq_getElem (by omega)
  obtain ⟨c, hc1, hc2, hc3⟩ := hcells 0 _ hx
  have hc2' : c = [Value.string xs[0]] := hc2
  have g0 := hc3 0 (Value.string xs[0]) (by rw [hc2']; rfl)
  have hs : s = none := by simpa [Addr.add] using World.cell?_spot g0
  subst hs
  refine ⟨b, o, rfl, World.block_lt_of_cell? w _ (by simpa [Addr.add] using g0), fun j x hj => ?_⟩
  obtain ⟨c, hc1, hc2, hc3⟩ := hcells j x hj
  have hc2' : c = [Value.string x] := hc2
  have := hc3 0 (Value.string x) (by rw [hc2']; rfl)
  have hz : Kd.string.sz = 1 := rfl
  rw [hz, Nat.mul_one, Nat.add_zero] at this
  have e : (⟨b, o, none⟩ : Addr).add j = ⟨b, o + j, none⟩ := by
    unfold Addr.add
    by_cases hj : j = 0
    · subst hj; simp
    · simp [hj]
  rw [e] at this
  exact this
theorem join_bad (l0 : List ByteArray) (k : Nat) (x : ByteArray) (hx : l0[k]? = some x) (hb : isWordL x.data.toList = false) : joinR (l0.map fun s => s.data.toList) = [] ∧ joinE (l0.map fun s => s.data.toList) = 4 := by
  have h : (l0.map fun s => s.data.toList).all isWordL = false := by
    rw [List.all_eq_false]
    exact ⟨x.data.toList, List.mem_map.2 ⟨x, List.mem_of_getElem? hx, rfl⟩, by simp [hb]⟩
  unfold joinR joinE
  rw [h]
  exact ⟨rfl, rfl⟩
theorem join_good (l0 : List ByteArray) (h : ∀ (j : Nat) (x : ByteArray), l0[j]? = some x → isWordL x.data.toList = true) : joinR (l0.map fun s => s.data.toList) = Lib.join (l0.map (·.data.toList)) [32] ∧ joinE (l0.map fun s => s.data.toList) = 0 := by
  have h : (l0.map fun s => s.data.toList).all isWordL = true := by
    rw [List.all_eq_true]
    intro y hy
    obtain ⟨x, hx, rfl⟩ := List.mem_map.1 hy
    obtain ⟨j, hj, e⟩ := List.getElem_of_mem hx
    exact h j x (by rw [List.getElem?_eq_getElem hj, e])
  unfold joinR joinE
  rw [h]
  exact ⟨rfl, rfl⟩
theorem is_word (x : ByteArray) : isWordL x.data.toList = (!x.toList.isEmpty && x.data.toList.all wB) := by
  unfold isWordL
  rw [ByteArray.toList_eq]
set_option maxHeartbeats 1000000 in
theorem join_any (A : Option Addr) (c : Nat) (l0 : List ByteArray) (w : World) (hr : Kd.C Kd.string w A l0.length l0) (hc : l0.length ≤ c) (h1 : ([32].intercalate (l0.map fun s => s.data.toList)).length ≤ 140737488355328) (h2 : l0.length ≤ 140737488355328) :
    Calls Tryd.prog 23 #[.slice A l0.length c] w fun e w' => e = .returned (.tuple #[.string (bs (joinR (l0.map fun s => s.data.toList))), .int .i64 (joinE (l0.map fun s => s.data.toList))]) ∧ Below w.heap.size w w' := by
  have hcf := fun (s : ByteArray) (W : World) => Tryd.strings_ContainsFunc 37 #[] (enters_of Tryd.func37 (by kernel_rfl) rfl) (fun r => !wN r) s W (join_pred W)
  have HCF := Lib.hid hcf
  clear hcf
  rcases Nat.eq_zero_or_pos l0.length with h0 | h0
  · obtain rfl : l0 = [] := List.length_eq_zero_iff.1 h0
    have hj := fun W => Tryd.strings_Join_none A c ⟨#[32]⟩ W
    clear hr hc h1 h2 HCF h0
    show Calls Tryd.prog 23 #[.slice A 0 c] w fun e w' => e = .returned (.tuple #[.string ⟨#[]⟩, .int .i64 0]) ∧ Below w.heap.size w w'
    go_enter Tryd.func23, Tryd.ntmps23
    go_wp2_with fail
    go_loop [8] (fun i => i = .int .i64 0) (fun _ => 0)
    case atStart => rfl
    case round =>
      obtain rfl := hrel
      go_wp2_with fail
      refine (hj _).mono ?_
      rintro e w' ⟨rfl, rfl⟩
      go_wp2
      go_ret2
      exact ⟨rfl, Below.refl _ _⟩
  · obtain ⟨b, o, rfl, hb, hcell⟩ := C_cells hr h0
    have HC := Lib.hid hcell
    have HJ : Hid (∀ W, Below w.heap.size w W → Calls Tryd.prog 38 #[.slice (some ⟨b, o, none⟩) l0.length c, .string ⟨#[32]⟩] W fun e w' => e = .returned (.string ⟨(Lib.join (l0.map (·.data.toList)) [32]).toArray⟩) ∧ Below W.heap.size W w') := Lib.hid fun W hB =>
      Tryd.strings_Join b o c l0 ⟨#[32]⟩ W (fun j x hj => (hB.cell hb).trans (hcell j x hj)) (Nat.lt_of_lt_of_le hb hB.size) h2 hc h1
    have HG := Lib.hid (join_good l0)
    have HBD := Lib.hid (join_bad l0)
    have HE : Hid (∀ k : Nat, k < l0.length → ∃ x, l0[k]? = some x) := Lib.hid fun k hk => ⟨_, List.getElem?_eq_getElem hk⟩
    clear hr hcell h1
    generalize hR : joinR (l0.map fun s => s.data.toList) = R at *
    generalize hE : joinE (l0.map fun s => s.data.toList) = E at *
    generalize hJ : Lib.join (l0.map (·.data.toList)) [32] = J at *
    clear hR hE hJ
    generalize hn : l0.length = n at *
    have HN := Lib.hid hn
    clear hn
    go_enter Tryd.func23, Tryd.ntmps23
    go_wp2_with fail
    go_loopw [8] (fun i wr => ∃ k : Nat, k ≤ n ∧ i = .int .i64 k ∧ Hid (Below w.heap.size w wr) ∧ Hid (∀ j x, j < k → l0[j]? = some x → isWordL x.data.toList = true)) (fun i _ => n - (intOf i).toNat)
    case atStart => exact ⟨0, Nat.zero_le _, rfl, Lib.hid (Below.refl _ _), Lib.hid (fun j x hj => by omega)⟩
    case round =>
      obtain ⟨k, hk, rfl, HB, HW⟩ := hrel
      by_cases hlt : k < n
      · obtain ⟨x, hx⟩ := HE.out k hlt
        have hcx : wr.cell? ⟨b, o + k, none⟩ = some (.string x) := (HB.out.cell hb).trans (HC.out k x hx)
        have hw := is_word x
        have HX := Lib.hid hx
        have hcf := HCF.out x
        rw [contains_word] at hcf
        clear hx
        cases hem : x.toList.isEmpty with
        | true =>
          rw [hem] at hw
          obtain ⟨e1, e2⟩ := HBD.out k x HX.out hw
          clear hw hcf
          have E1 := Lib.hid e1
          have E2 := Lib.hid e2
          clear e1 e2
          go_wp2
          go_ret2
          exact ⟨by rw [E1.out, E2.out]; rfl, HB.out⟩
        | false =>
          rw [hem, Bool.not_false, Bool.true_and] at hw
          rw [← hw] at hcf
          cases hiw : isWordL x.data.toList with
          | false =>
            rw [hiw] at hcf
            obtain ⟨e1, e2⟩ := HBD.out k x HX.out hiw
            clear hw hiw
            have E1 := Lib.hid e1
            have E2 := Lib.hid e2
            clear e1 e2
            go_wp2_with fail
            refine (hcf _).mono ?_
            rintro e w' ⟨rfl, hB2⟩
            have HB2 := Lib.hid hB2
            clear hB2 hcf
            go_wp2
            go_ret2
            exact ⟨by rw [E1.out, E2.out]; rfl, HB.out.trans (HB2.out.mono HB.out.size)⟩
          | true =>
            rw [hiw] at hcf
            have HW2 : Hid (∀ j y, j < k + 1 → l0[j]? = some y → isWordL y.data.toList = true) := Lib.hid fun j y hj hy => by
              by_cases e : j = k
              · subst e
                rw [HX.out] at hy
                cases hy
                exact hiw
              · exact HW.out j y (by omega) hy
            clear hw hiw
            go_wp2_with fail
            refine (hcf _).mono ?_
            rintro e w' ⟨rfl, hB2⟩
            have HB2 := Lib.hid hB2
            clear hB2 hcf
            go_wp2
            go_roundw
            case rel => exact ⟨k + 1, by omega, by go_num, Lib.hid (HB.out.trans (HB2.out.mono HB.out.size)), HW2⟩
            case measure => simp [intOf]; omega
      · obtain rfl : k = n := by omega
        obtain ⟨e1, e2⟩ := HG.out fun j x hj => HW.out j x (by rw [← HN.out]; exact (List.getElem?_eq_some_iff.1 hj).1) hj
        have E1 := Lib.hid e1
        have E2 := Lib.hid e2
        clear e1 e2
        have hj := HJ.out wr HB.out
        go_wp2_with fail
        refine hj.mono ?_
        rintro e w' ⟨rfl, hB2⟩
        have HB2 := Lib.hid hB2
        clear hB2 hj
        go_wp2
        go_ret2
        exact ⟨by rw [E1.out, E2.out]; rfl, HB.out.trans (HB2.out.mono HB.out.size)⟩
theorem text_Join.calls (A0 : Option Addr) (c0 : Nat) (l0 : List ByteArray) (r1 : ByteArray) (r2 : Int) (w : World) (hr0 : Kd.C Kd.string w A0 l0.length l0) (hc0 : l0.length ≤ c0) (h : text_Join.f l0 = some (r1, r2)) (hW : WOk w) :
    Calls Tryd.prog 23 #[.slice A0 l0.length c0] w fun e w' => e = .returned (.tuple #[.string r1, .int .i64 r2]) ∧ Below w.heap.size w w' := by
  unfold text_Join.f at h
  split at h
  · rename_i hc
    simp only [Option.some.injEq, Prod.mk.injEq] at h
    obtain ⟨rfl, rfl⟩ := h
    exact join_any A0 c0 l0 w hr0 hc0 hc.1 hc.2
  · cases h
end Go.Proofs.YtnkinkgmceokhaaDoor
