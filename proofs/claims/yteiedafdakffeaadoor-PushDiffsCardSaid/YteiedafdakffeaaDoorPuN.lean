/- push: the document's equal rows of texts. -/
import Derived.Test.YteiedafdakffeaaDoorPuM
namespace Go.Proofs.YteiedafdakffeaaDoor
set_option linter.unusedVariables false
set_option linter.unusedSimpArgs false
open Go Go.RowKit Go.Proofs
set_option maxRecDepth 100000 in
set_option maxHeartbeats 4000000 in
theorem eqt_some (w : World) (A B : Option Addr) (L M : List ByteArray) (c d : Nat) (hl : Lns w A L) (hm : Lns w B M) (h1 : L.length ≤ 9223372036854775807) (h2 : M.length ≤ 9223372036854775807) :
    Calls Tryd.prog 43 #[.slice A L.length c, .slice B M.length d] w fun e w' => e = .returned (.bool (decide (L = M))) ∧ Chg (fun _ => False) w w' := by
  have HL := Lib.hid hl
  have HM := Lib.hid hm
  clear hl hm
  by_cases hlen : L.length = M.length
  · have hnb : ((L.length : Int) != (M.length : Int)) = false := by rw [hlen]; simp
    have HLEN := Lib.hid hlen
    clear hlen
    go_enter Tryd.func43, Tryd.ntmps43
    go_wp2_with fail
    go_loopw [5] (fun i wr => ∃ j : Nat, j ≤ L.length ∧ i = .int .i64 j ∧ L.take j = M.take j ∧ Chg (fun _ => False) w wr) (fun i _ => L.length - (intOf i).toNat)
    case atStart => exact ⟨0, by omega, rfl, rfl, Chg.refl _ _⟩
    case round =>
      obtain ⟨j, hj, rfl, htk, hCh⟩ := hrel
      have HTK := Lib.hid htk
      have HCH := Lib.hid hCh
      clear htk hCh
      by_cases hlt : j < L.length
      · have hjm : j < M.length := by have := HLEN.out; omega
        obtain ⟨g, p, rfl, hc⟩ := lns_cells HL.out (by omega)
        obtain ⟨g', p', rfl, hc'⟩ := lns_cells HM.out (by omega)
        have c1 := HCH.out.cell (hc j hlt) (fun h => h)
        have c2 := HCH.out.cell (hc' j hjm) (fun h => h)
        have ex : L.getD j ByteArray.empty = L[j] := by simp [List.getD, hlt]
        have ey : M.getD j ByteArray.empty = M[j] := by simp [List.getD, hjm]
        have hs1 : L.take (j + 1) = L.take j ++ [L[j]] := by rw [List.take_add_one, List.getElem?_eq_getElem hlt]; rfl
        have hs2 : M.take (j + 1) = M.take j ++ [M[j]] := by rw [List.take_add_one, List.getElem?_eq_getElem hjm]; rfl
        have HNE := Lib.hid (show L[j] ≠ M[j] → L ≠ M from fun h e => h (by subst e; rfl))
        rw [ex] at c1
        rw [ey] at c2
        have HS1 := Lib.hid hs1
        have HS2 := Lib.hid hs2
        clear hc hc' ex ey hs1 hs2
        generalize L[j] = x at *
        generalize M[j] = y at *
        have hS : wr.drew.cell? ⟨g, p + j, none⟩ = some (.string x) ∧ wr.drew.cell? ⟨g', p' + j, none⟩ = some (.string y) := ⟨c1, c2⟩
        clear c1 c2
        go_wp2_with fail
        refine region_lone (fun W' => W'.cell? ⟨g, p + j, none⟩ = some (.string x) ∧ W'.cell? ⟨g', p' + j, none⟩ = some (.string y)) [] (by kernel_rfl) ?_
        refine take_one 0 hS rfl (by kernel_rfl) rfl ?_
        apply Exists.intro
        refine And.intro (fun W' hS' => ?y0) (And.intro (fun _ _ _ h => h) ?_)
        case y0 => obtain ⟨d0, d1⟩ := hS'; go_simp; rfl
        refine take_one 1 hS rfl (by kernel_rfl) rfl ?_
        apply Exists.intro
        refine And.intro (fun W' hS' => ?y1) (And.intro (fun _ _ _ h => h) ?_)
        case y1 => obtain ⟨d0, d1⟩ := hS'; go_simp; rfl
        refine take_one 2 hS rfl (by kernel_rfl) rfl ?_
        apply Exists.intro
        refine And.intro (fun W' hS' => ?y2) (And.intro (fun _ _ _ h => h) ?_)
        case y2 => obtain ⟨d0, d1⟩ := hS'; go_simp; rfl
        refine take_one 3 hS rfl (by kernel_rfl) rfl ?_
        apply Exists.intro
        refine And.intro (fun W' hS' => ?y3) (And.intro (fun _ _ _ h => h) ?_)
        case y3 => obtain ⟨d0, d1⟩ := hS'; go_simp; rfl
        refine take_one 4 hS rfl (by kernel_rfl) rfl ?_
        apply Exists.intro
        refine And.intro (fun W' hS' => ?y4) (And.intro (fun _ _ _ h => h) ?_)
        case y4 => obtain ⟨d0, d1⟩ := hS'; go_simp; rfl
        refine take_one 5 hS rfl (by kernel_rfl) rfl ?_
        apply Exists.intro
        refine And.intro (fun W' hS' => ?y5) (And.intro (fun _ _ _ h => h) ?_)
        case y5 => obtain ⟨d0, d1⟩ := hS'; go_simp; rfl
        refine take_one 6 hS rfl (by kernel_rfl) rfl ?_
        apply Exists.intro
        refine And.intro (fun W' hS' => ?y6) (And.intro (fun _ _ _ h => h) ?_)
        case y6 => obtain ⟨d0, d1⟩ := hS'; go_simp; rfl
        refine take_one 7 hS rfl (by kernel_rfl) rfl ?_
        apply Exists.intro
        refine And.intro (fun W' hS' => ?y7) (And.intro (fun _ _ _ h => h) ?_)
        case y7 => obtain ⟨d0, d1⟩ := hS'; go_simp; rfl
        refine take_one 8 hS rfl (by kernel_rfl) rfl ?_
        apply Exists.intro
        refine And.intro (fun W' hS' => ?y8) (And.intro (fun _ _ _ h => h) ?_)
        case y8 => obtain ⟨d0, d1⟩ := hS'; go_simp; rfl
        refine all_done (by kernel_rfl) ?_ _
        clear hS
        go_simp
        obtain ⟨q, hq⟩ : ∃ q, (!(x.toList == y.toList)) = q := ⟨_, rfl⟩
        rw [hq]
        cases q
        · have hxy : x = y := by
            have h : x.toList = y.toList := by simpa using hq
            rw [ByteArray.toList_eq, ByteArray.toList_eq] at h
            exact ByteArray.ext (Array.toList_inj.1 h)
          have HXY := Lib.hid hxy
          clear hxy hq
          go_wp2_with fail
          go_roundw
          case rel => exact ⟨j + 1, by omega, by go_num, by rw [HS1.out, HS2.out, HTK.out, HXY.out], HCH.out.drew⟩
          case measure => simp [intOf] <;> omega
        · have hxy : x ≠ y := by
            intro e
            subst e
            simp at hq
          have HD := Lib.hid (decide_eq_false (HNE.out hxy))
          clear hxy hq
          go_wp2_with fail
          go_ret
          exact ⟨congrArg (fun b => Ending.returned (.bool b)) HD.out.symm, HCH.out.drew⟩
      · have hLM : L = M := by
          have h := HTK.out
          rw [List.take_of_length_le (by omega), List.take_of_length_le (by have := HLEN.out; omega)] at h
          exact h
        have hd : decide (L = M) = true := decide_eq_true hLM
        have HD := Lib.hid hd
        clear hLM hd
        go_wp2_with fail
        go_ret
        exact ⟨congrArg (fun b => Ending.returned (.bool b)) HD.out.symm, HCH.out⟩
  · have hnb : ((L.length : Int) != (M.length : Int)) = true := bne_iff_ne.2 (by omega)
    have hd : decide (L = M) = false := decide_eq_false (fun e => hlen (by rw [e]))
    rw [hd]
    clear hd hlen
    go_enter Tryd.func43, Tryd.ntmps43
    go_wp2_with fail
    go_ret
    exact ⟨rfl, Chg.refl _ _⟩
end Go.Proofs.YteiedafdakffeaaDoor
