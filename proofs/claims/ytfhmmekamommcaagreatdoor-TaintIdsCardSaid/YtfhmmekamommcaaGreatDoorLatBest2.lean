/- lattice: best. -/
import Derived.Test.YtfhmmekamommcaaGreatDoorLatBest
import Derived.Test.YtfhmmekamommcaaGreatDoorInRound
import Derived.Lib.Hide
import Derived.WalkKit
import Derived.WalkLawsBesides
import Derived.WalkSpells
import Derived.Deep.QuietTactic
import Derived.Deep.CutBlock
import Derived.BigQuiet
import Derived.StillTailTactics
namespace Go.Proofs.YtfhmmekamommcaaGreatDoor
set_option linter.unusedVariables false
set_option linter.unusedSimpArgs false
open Go Go.RowKit Go.Proofs Go.Shelf Go.Sort
/-- a function value that tells which of two is ahead -/
def IsAhead (w : World) (fv : Value) (A : Int → Int → Bool) : Prop :=
  ∃ b bu bd cu cd n R D, IsOrd w b bu bd cu cd n R D ∧ ((fv = .func (.func 73) #[optr b] #[] ∧ A = atM n R) ∨
    ∃ Bl la, fv = .func (.func 116) #[] #[.pointer (some ⟨Bl, 0, none⟩)] ∧ w.cell? ⟨Bl, 0, none⟩ = some (.pointer (some ⟨la, 0, none⟩)) ∧ w.cell? ⟨la, 1, none⟩ = some (optr b) ∧ A = fun x y => atM n R y x)
theorem IsAhead.keep {w w' : World} {fv : Value} {A : Int → Int → Bool} (h : IsAhead w fv A) (hk : ∀ k, k < w.heap.size → w'.heap[k]? = w.heap[k]?) : IsAhead w' fv A := by
  obtain ⟨b, bu, bd, cu, cd, n, R, D, hO, h⟩ := h
  refine ⟨b, bu, bd, cu, cd, n, R, D, hO.keep fun k c t f _ e => by rw [hk _ (lt_of_heap e)]; exact e, ?_⟩
  rcases h with h | ⟨Bl, la, h1, h2, h3, h4⟩
  · exact .inl h
  · exact .inr ⟨Bl, la, h1, cell_keep h2 hk, cell_keep h3 hk, h4⟩
theorem down_any {w : World} {b bu bd cu cd n Bl la : Nat} {R D : Nat → Nat → Bool} (hO : IsOrd w b bu bd cu cd n R D) (h2 : w.cell? ⟨Bl, 0, none⟩ = some (.pointer (some ⟨la, 0, none⟩))) (h3 : w.cell? ⟨la, 1, none⟩ = some (optr b)) (x y : Int) :
    Calls Tryz.prog 116 #[.int .i64 x, .int .i64 y, .pointer (some ⟨Bl, 0, none⟩)] w fun e w' => e = .returned (.bool (atM n R y x)) ∧ w' = w := by
  have hA := atMost_some hO y x
  generalize atM n R y x = r at *
  unfold optr at *
  go_enter Tryz.func116, Tryz.ntmps116
  go_wp2_with (first | (go_at_call 73; refine hA.mono ?_; rintro e w' ⟨rfl, rfl⟩))
  go_ret
  exact ⟨rfl, rfl⟩
theorem best1_any {w : World} {Ba Bx : Nat} {fv : Value} {A : Int → Int → Bool} (hA : IsAhead w fv A) (ha : w.cell? ⟨Ba, 0, none⟩ = some fv) {a : Int} (hx : w.cell? ⟨Bx, 0, none⟩ = some (.int .i64 a)) (x : Int) :
    Calls Tryz.prog 136 #[.int .i64 x, .pointer (some ⟨Ba, 0, none⟩), .pointer (some ⟨Bx, 0, none⟩)] w fun e w' => e = .returned (.bool (!A a x)) ∧ w' = w := by
  obtain ⟨b, bu, bd, cu, cd, n, R, D, hO, ⟨rfl, rfl⟩ | ⟨Bl, la, rfl, h2, h3, rfl⟩⟩ := hA
  · have hA := atMost_some hO a x
    generalize atM n R a x = r at *
    unfold optr at *
    go_enter Tryz.func136, Tryz.ntmps136
    go_wp2_with (first | (go_at_call 73; refine hA.mono ?_; rintro e w' ⟨rfl, rfl⟩))
    go_ret
    exact ⟨rfl, rfl⟩
  · have hA := down_any hO h2 h3 a x
    simp only
    generalize atM n R x a = r at *
    go_enter Tryz.func136, Tryz.ntmps136
    go_wp2_with (first | (go_at_call 116; refine hA.mono ?_; rintro e w' ⟨rfl, rfl⟩))
    go_ret
    exact ⟨rfl, rfl⟩
def bestL (A : Int → Int → Bool) (l : List Int) : Int := match l.find? (fun a => l.all (A a)) with
  | some a => a
  | none => -1
theorem bestL_hit {A : Int → Int → Bool} {l : List Int} {k : Nat} {e : Int} (hk : l[k]? = some e) (hn : ∀ (j : Nat) (x : Int), j < k → l[j]? = some x → l.all (A x) = false) (he : l.all (A e) = true) : bestL A l = e := by
  unfold bestL
  have : l.find? (fun a => l.all (A a)) = some e := by
    rw [List.find?_eq_some_iff_getElem]
    obtain ⟨hkl, hke⟩ := List.getElem?_eq_some_iff.1 hk
    exact ⟨he, k, hkl, hke, fun j hj => by simpa using hn j _ hj (List.getElem?_eq_getElem (by omega))⟩
  rw [this]
theorem bestL_none {A : Int → Int → Bool} {l : List Int} (hn : ∀ (j : Nat) (x : Int), l[j]? = some x → l.all (A x) = false) : bestL A l = -1 := by
  unfold bestL
  have : l.find? (fun a => l.all (A a)) = none := by
    rw [List.find?_eq_none]
    intro x hx
    obtain ⟨j, hj⟩ := List.getElem?_of_mem hx
    simpa using hn j x hj
  rw [this]
set_option maxRecDepth 100000 in
set_option maxHeartbeats 4000000 in
theorem best_any {w : World} {v fv : Value} {l : List Int} {A : Int → Int → Bool} (h : HasInts w v l) (hl : l.length ≤ 1000) (hA : IsAhead w fv A) :
    Calls Tryz.prog 117 #[v, fv] w fun e w' => e = .returned (.int .i64 (bestL A l)) ∧ Chg (fun _ => False) w w' := by
  have hsl : ∃ S c, v = .slice S l.length c := by
    rcases h with ⟨rfl, rfl⟩ | ⟨g, cap, rfl, _⟩
    · exact ⟨none, _, rfl⟩
    · exact ⟨_, _, rfl⟩
  obtain ⟨S, c, rfl⟩ := hsl
  have hfv : ∃ fn fs cs, fv = .func fn fs cs := by
    obtain ⟨b, bu, bd, cu, cd, n, R, D, hO, ⟨rfl, _⟩ | ⟨Bl, la, rfl, _⟩⟩ := hA
    · exact ⟨_, _, _, rfl⟩
    · exact ⟨_, _, _, rfl⟩
  obtain ⟨fn, fs, cs, rfl⟩ := hfv
  have hal := (Chg.refl (fun _ => False) w).alloc (.cells #[.func fn fs cs] 133)
  have hbox : (w.alloc (.cells #[.func fn fs cs] 133)).cell? ⟨w.heap.size, 0, none⟩ = some (.func fn fs cs) := cell_of_heap (heap_new w _) 0
  have h1 := h.chg hal
  have hA1 := hA.keep (w' := w.alloc (.cells #[.func fn fs cs] 133)) (fun k hk => hal.block k hk (fun x => x))
  obtain ⟨r, hr⟩ : ∃ r, bestL A l = r := ⟨_, rfl⟩
  have HR := Lib.hid hr
  rw [hr]
  clear h hA hr
  go_enter Tryz.func117, Tryz.ntmps117
  go_upto_block 0 with fail
  generalize w.alloc (.cells #[.func fn fs cs] 133) = w1 at *
  generalize w.heap.size = Ba at *
  go_wp2_with fail
  go_loopw [9] (fun a wr => ∃ k : Nat, a = .int .i64 k ∧ k ≤ l.length ∧ Chg (fun _ => False) w1 wr ∧ Hid (∀ (j : Nat) (x : Int), j < k → l[j]? = some x → l.all (A x) = false))
    (fun a _ => l.length - (intOf a).toNat)
  case atStart => exact ⟨0, rfl, by omega, Chg.refl _ _, Lib.hid (fun j x hj => by omega)⟩
  case round =>
    obtain ⟨k, rfl, k0, hC, HN⟩ := hrel
    by_cases hkl : k < l.length
    · obtain ⟨e, he⟩ : ∃ e, l[k]? = some e := ⟨_, List.getElem?_eq_getElem hkl⟩
      rcases h1.chg hC with ⟨e0, rfl⟩ | ⟨g, cap, e0, hcells⟩
      · simp at hkl
      · cases e0
        have c0 : wr.cell? ⟨g, k, none⟩ = some (.int .i64 e) := by
          have := hcells k hkl
          rw [this, List.getD_eq_getElem?_getD, he]
          rfl
        have hCa := hC.alloc (.cells #[.int .i64 e] 3)
        have hv0 : (wr.alloc (.cells #[.int .i64 e] 3)).cell? ⟨wr.heap.size, 0, none⟩ = some (.int .i64 e) := cell_of_heap (heap_new wr _) 0
        have hb2 := hCa.cell hbox (fun x => x)
        have hA2 := hA1.keep (w' := wr.alloc (.cells #[.int .i64 e] 3)) (fun k hk => hCa.block k hk (fun x => x))
        have eg : ∀ args w, (callFunc 136 args).run Tryz.prog w = .ok (.enter 136 args) w := enters_of Tryz.func136 (by kernel_rfl) rfl
        have hcf := Tryz.slices_ContainsFunc (Value.int .i64) (fun x => !A e x) 136 #[.pointer (some ⟨Ba, 0, none⟩), .pointer (some ⟨wr.heap.size, 0, none⟩)] eg g 0 l.length c l (wr.alloc (.cells #[.int .i64 e] 3))
          (fun W x hb => (best1_any (hA2.keep hb.block) (cell_keep hb2 hb.block) (cell_keep hv0 hb.block) x).mono fun e w' ⟨p1, p2⟩ => ⟨p1, 0, p2⟩) (Nat.le_refl _) (by omega) (fun j hj => by
            rw [Nat.zero_add]
            have hj2 := (h1.chg hCa)
            rcases hj2 with ⟨e1, _⟩ | ⟨g2, cap2, e1, hc2⟩
            · cases e1
            · cases e1
              rw [hc2 j hj, List.getD_eq_getElem?_getD, List.getElem?_eq_getElem hj, getElem!_pos l j hj]
              rfl)
        rw [List.take_length] at hcf
        have hany : (l.any fun x => !A e x) = !l.all (A e) := by rw [List.all_eq_not_any_not]; simp
        rw [hany] at hcf
        have hw3 : IntKind.i64.wrap ((k : Int) + 1) = k + 1 := IntWalk.i64_in _ ⟨by omega, by omega⟩
        have HE := Lib.hid he
        clear hcells he hany
        obtain ⟨t, ht⟩ : ∃ t, l.all (A e) = t := ⟨_, rfl⟩
        rw [ht] at hcf
        have HT := Lib.hid ht
        clear ht
        cases t
        · go_wp2_with (first | (go_at_call 135; refine hcf.mono ?_; rintro e2 w2 ⟨rfl, q, rfl⟩))
          go_roundw
          case rel => exact ⟨k + 1, by go_num, by omega, hCa.drewN _, Lib.hid (fun j x hj hx => by
            by_cases c : j = k
            · subst c
              rw [HE.out] at hx
              cases hx
              exact HT.out
            · exact HN.out j x (by omega) hx)⟩
          case measure => simp [intOf]; omega
        · have hv3 : ∀ q, ((wr.alloc (.cells #[.int .i64 e] 3)).drewN q).cell? ⟨wr.heap.size, 0, none⟩ = some (.int .i64 e) := fun q => hv0
          go_wp2_with (first | (go_at_call 135; refine hcf.mono ?_; rintro e2 w2 ⟨rfl, q, rfl⟩))
          go_ret
          exact ⟨by rw [← HR.out, bestL_hit HE.out HN.out HT.out]; rfl, (hal.trans hCa).drewN _⟩
    · have hke : k = l.length := by omega
      have HK := Lib.hid hke
      go_wp2_with fail
      go_ret
      exact ⟨by rw [← HR.out, bestL_none (fun j x hx => HN.out j x (by rw [HK.out]; exact (List.getElem?_eq_some_iff.1 hx).1) hx)]; rfl, hal.trans hC⟩
end Go.Proofs.YtfhmmekamommcaaGreatDoor
