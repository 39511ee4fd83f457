/- The contract of text.Name. -/
import Derived.Test.YtfhmmekamommcaaGreatDoorTxtPreds
import Derived.Test.YtfhmmekamommcaaGreatDoorTxtNames
import Derived.Test.YtfhmmekamommcaaGreatDoorInRound
import Derived.Laws.EntriesVeiled
import Derived.IntWalk
namespace Go.Proofs.YtfhmmekamommcaaGreatDoor
set_option linter.unusedVariables false
set_option linter.unusedSimpArgs false
open Go Go.RowKit Go.Proofs Go.Shelf
/-- what Name tells -/
def text_Name.f (a0 : ByteArray) : Option (Int) := some (nameE a0.data.toList)
theorem mN_byte (b : UInt8) : (!mN b.toNat) = !nmB b := by
  unfold mN lN nmB lcB
  have e : decide (b.toNat = 45) = (b == 45) := by
    rw [Bool.eq_iff_iff, decide_eq_true_eq, beq_iff_eq, ← UInt8.toNat_inj]
    rfl
  rw [e]
theorem contains_name (s : ByteArray) : decide (0 ≤ Lib.idxFunc (fun r => !mN r) true s) = !s.data.toList.all nmB := by
  rw [idx_bytes (fun r => !mN r) (fun b => !nmB b) s (fun r hr => ?_) (fun b _ => mN_byte b) (fun b hb => ?_)]
  · rw [List.not_all_eq_any_not]
  · unfold mN lN
    rw [decide_eq_false (by omega : ¬ r ≤ 122), decide_eq_false (by omega : ¬ r ≤ 57), decide_eq_false (by omega : ¬ r = 45)]
    simp
  · rw [← mN_byte]
    unfold mN lN
    rw [decide_eq_false (by omega : ¬ b.toNat ≤ 122), decide_eq_false (by omega : ¬ b.toNat ≤ 57), decide_eq_false (by omega : ¬ b.toNat = 45)]
    simp
theorem below_undrew {B : Nat} {w W : World} (h : Below B w.drew W) : Below B w W := ⟨h.os, h.tape, h.output, h.size, h.block⟩
theorem drewN_below {B : Nat} {w W : World} (h : Below B w W) (n : Nat) : Below B w (W.drewN n) := ⟨h.os, h.tape, h.output, h.size, h.block⟩
set_option maxRecDepth 100000 in
theorem name_any (l : List UInt8) (w : World) : Calls Tryz.prog 45 #[.string (bs l)] w fun e w' => e = .returned (.int .i64 (nameE l)) ∧ Below w.heap.size w w' := by
  cases l with
  | nil =>
    have h0 : (bs []).toList.isEmpty = true := by simp [bs, ByteArray.toList_eq]
    have e1 : nameE [] = 31 := rfl
    rw [e1]
    generalize bs [] = s at *
    go_enter Tryz.func45, Tryz.ntmps45
    go_wp2_with fail
    have k1 : ((w.alloc (.cells #[.func (.func 84) #[] #[]] 147)).alloc (.cells #[.func (.func 85) #[] #[.pointer (some ⟨w.heap.size, 0, none⟩)]] 147)).cell? ⟨w.heap.size, 0, none⟩ = some (.func (.func 84) #[] #[]) := by simp
    have k2 : ((w.alloc (.cells #[.func (.func 84) #[] #[]] 147)).alloc (.cells #[.func (.func 85) #[] #[.pointer (some ⟨w.heap.size, 0, none⟩)]] 147)).cell? ⟨w.heap.size + 1, 0, none⟩ = some (.func (.func 85) #[] #[.pointer (some ⟨w.heap.size, 0, none⟩)]) := by simp
    have HB := Lib.hid (((Below.refl w.heap.size w).alloc (Nat.le_refl _) (.cells #[.func (.func 84) #[] #[]] 147)).alloc (by simp) (.cells #[.func (.func 85) #[] #[.pointer (some ⟨w.heap.size, 0, none⟩)]] 147))
    generalize ((w.alloc (.cells #[.func (.func 84) #[] #[]] 147)).alloc (.cells #[.func (.func 85) #[] #[.pointer (some ⟨w.heap.size, 0, none⟩)]] 147)) = W1 at *
    go_quiet (fail)
    go_wp2
    go_ret
    exact ⟨rfl, drewN_below HB.out _⟩
  | cons b t =>
    have hne : (bs (b :: t)).toList.isEmpty = false := by simp [bs, ByteArray.toList_eq]
    have hz := bs_size (b :: t)
    by_cases hlen : (b :: t).length ≤ 12
    · have hl' : ¬ (12 : Int) < ((bs (b :: t)).size : Int) := by omega
      have hs0 : 0 < (bs (b :: t)).size := by rw [hz]; simp
      have hb0 : (((bs (b :: t))[0]'hs0).toNat : Int) = (b.toNat : Int) := rfl
      have hn := name_cons b t
      have hlt : decide (t.length < 12) = true := decide_eq_true (by simp at hlen; omega)
      rw [hlt, Bool.and_true] at hn
      have hla := letter_any b.toNat
      have hb9 : (b.toNat : Int) ≤ 255 := by have := b.toNat_lt; omega
      have hcf := contains_name (bs (b :: t))
      rw [list_bs] at hcf
      cases hlc : lcB b with
      | false =>
        have e : nameE (b :: t) = 31 := by unfold nameE; rw [hn, hlc]; rfl
        rw [e]
        have hlN : lN b.toNat = false := hlc
        rw [hlN] at hla
        clear hlN hlc hn hlt hlen hz hcf e
        generalize (bs (b :: t)) = s at *
        generalize b.toNat = r at *
        have hwr : IntKind.i32.wrap (r : Int) = (r : Int) := IntWalk.i32_in _ ⟨by omega, by omega⟩
        go_enter Tryz.func45, Tryz.ntmps45
        go_wp2_with fail
        have k1 : ((w.alloc (.cells #[.func (.func 84) #[] #[]] 147)).alloc (.cells #[.func (.func 85) #[] #[.pointer (some ⟨w.heap.size, 0, none⟩)]] 147)).cell? ⟨w.heap.size, 0, none⟩ = some (.func (.func 84) #[] #[]) := by simp
        have k2 : ((w.alloc (.cells #[.func (.func 84) #[] #[]] 147)).alloc (.cells #[.func (.func 85) #[] #[.pointer (some ⟨w.heap.size, 0, none⟩)]] 147)).cell? ⟨w.heap.size + 1, 0, none⟩ = some (.func (.func 85) #[] #[.pointer (some ⟨w.heap.size, 0, none⟩)]) := by simp
        have HB := Lib.hid (((Below.refl w.heap.size w).alloc (Nat.le_refl _) (.cells #[.func (.func 84) #[] #[]] 147)).alloc (by simp) (.cells #[.func (.func 85) #[] #[.pointer (some ⟨w.heap.size, 0, none⟩)]] 147))
        generalize ((w.alloc (.cells #[.func (.func 84) #[] #[]] 147)).alloc (.cells #[.func (.func 85) #[] #[.pointer (some ⟨w.heap.size, 0, none⟩)]] 147)) = W1 at *
        go_quiet ((go_at_call 84; exact Calls.quiet_of_same ((hla _).mono (fun e w' h => ⟨h.1, h.2.symm⟩))))
        go_wp2
        go_ret
        exact ⟨rfl, drewN_below HB.out _⟩
      | true =>
        have e : nameE (b :: t) = if (b :: t).all nmB then 0 else 31 := by
          unfold nameE
          rw [hn, hlc]
          simp only [Bool.true_and, List.all_cons, lcB_nm b hlc]
        rw [e]
        have hlN : lN b.toNat = true := hlc
        rw [hlN] at hla
        clear hlN hlc hn hlt hlen hz e
        generalize (b :: t).all nmB = q at *
        obtain ⟨nq, rfl⟩ : ∃ nq, q = !nq := ⟨!q, by simp⟩
        rw [Bool.not_not] at hcf
        have hl2 : decide (12 < ((bs (b :: t)).size : Int)) = false := decide_eq_false hl'
        generalize (bs (b :: t)) = s at *
        generalize b.toNat = r at *
        have hwr : IntKind.i32.wrap (r : Int) = (r : Int) := IntWalk.i32_in _ ⟨by omega, by omega⟩
        go_enter Tryz.func45, Tryz.ntmps45
        go_wp2_with fail
        have k1 : ((w.alloc (.cells #[.func (.func 84) #[] #[]] 147)).alloc (.cells #[.func (.func 85) #[] #[.pointer (some ⟨w.heap.size, 0, none⟩)]] 147)).cell? ⟨w.heap.size, 0, none⟩ = some (.func (.func 84) #[] #[]) := by simp
        have k2 : ((w.alloc (.cells #[.func (.func 84) #[] #[]] 147)).alloc (.cells #[.func (.func 85) #[] #[.pointer (some ⟨w.heap.size, 0, none⟩)]] 147)).cell? ⟨w.heap.size + 1, 0, none⟩ = some (.func (.func 85) #[] #[.pointer (some ⟨w.heap.size, 0, none⟩)]) := by simp
        have HB := Lib.hid (((Below.refl w.heap.size w).alloc (Nat.le_refl _) (.cells #[.func (.func 84) #[] #[]] 147)).alloc (by simp) (.cells #[.func (.func 85) #[] #[.pointer (some ⟨w.heap.size, 0, none⟩)]] 147))
        generalize ((w.alloc (.cells #[.func (.func 84) #[] #[]] 147)).alloc (.cells #[.func (.func 85) #[] #[.pointer (some ⟨w.heap.size, 0, none⟩)]] 147)) = W1 at *
        have hcont := Tryz.strings_ContainsFunc 87 #[.pointer (some ⟨w.heap.size + 1, 0, none⟩)] (enters_of Tryz.func87 (by kernel_rfl) rfl) (fun r => !mN r) s
        rw [hcf] at hcont
        refine region_lone (fun W' => W'.cell? ⟨w.heap.size, 0, none⟩ = some (.func (.func 84) #[] #[]) ∧ W'.cell? ⟨w.heap.size + 1, 0, none⟩ = some (.func (.func 85) #[] #[.pointer (some ⟨w.heap.size, 0, none⟩)])) [] (by kernel_rfl) ?_
        have hS : W1.drew.cell? ⟨w.heap.size, 0, none⟩ = some (.func (.func 84) #[] #[]) ∧ W1.drew.cell? ⟨w.heap.size + 1, 0, none⟩ = some (.func (.func 85) #[] #[.pointer (some ⟨w.heap.size, 0, none⟩)]) := ⟨k1, k2⟩
        refine take_one 0 hS rfl (by kernel_rfl) rfl ?_
        apply Exists.intro
        refine And.intro (fun W' hS' => ?y0) (And.intro (fun _ _ _ h => h) ?_)
        case y0 => obtain ⟨d1, d2⟩ := hS'; go_simp; rfl
        refine take_one 1 hS rfl (by kernel_rfl) rfl ?_
        apply Exists.intro
        refine And.intro (fun W' hS' => ?y1) (And.intro (fun _ _ _ h => h) ?_)
        case y1 => obtain ⟨d1, d2⟩ := hS'; go_simp; rfl
        refine take_one 2 hS rfl (by kernel_rfl) rfl ?_
        apply Exists.intro
        refine And.intro (fun W' hS' => ?y2) (And.intro (fun _ _ _ h => h) ?_)
        case y2 => obtain ⟨d1, d2⟩ := hS'; go_simp; rfl
        go_simp
        refine take_one 3 hS rfl (by kernel_rfl) (by kernel_rfl) ?_
        apply Exists.intro
        refine And.intro (fun W' hS' => ?y3) (And.intro (fun _ _ _ h => h) ?_)
        case y3 => obtain ⟨d1, d2⟩ := hS'; go_simp; rfl
        refine take_one 4 hS rfl (by kernel_rfl) (by kernel_rfl) ?_
        apply Exists.intro
        refine And.intro (fun W' hS' => ?y4) (And.intro (fun _ _ _ h => h) ?_)
        case y4 => obtain ⟨d1, d2⟩ := hS'; go_simp; rfl
        refine take_one 5 hS rfl (by kernel_rfl) (by kernel_rfl) ?_
        apply Exists.intro
        refine And.intro (fun W' hS' => ?y5) (And.intro (fun _ _ _ h => h) ?_)
        case y5 => obtain ⟨d1, d2⟩ := hS'; go_simp; rfl
        refine take_one 6 hS rfl (by kernel_rfl) (by kernel_rfl) ?_
        apply Exists.intro
        refine And.intro (fun W' hS' => ?y6) (And.intro (fun _ _ _ h => h) ?_)
        case y6 => obtain ⟨d1, d2⟩ := hS'; go_simp; rfl
        refine take_one 7 hS rfl (by kernel_rfl) (by kernel_rfl) ?_
        apply Exists.intro
        refine And.intro (fun W' hS' => ?y7) (And.intro (fun _ _ _ h => h) ?_)
        case y7 => obtain ⟨d1, d2⟩ := hS'; go_simp; rfl
        go_simp
        refine take_one 8 hS rfl (by kernel_rfl) (by kernel_rfl) ?_
        apply Exists.intro
        refine And.intro (fun W' hS' => ?y8) (And.intro (fun _ _ _ h => h) ?_)
        case y8 => obtain ⟨d1, d2⟩ := hS'; go_simp; rfl
        refine take_one 9 hS rfl (by kernel_rfl) (by kernel_rfl) ?_
        apply Exists.intro
        refine And.intro (fun W' hS' => ?y9) (And.intro (fun _ _ _ h => h) ?_)
        case y9 => obtain ⟨d1, d2⟩ := hS'; go_simp; rfl
        refine take_one 10 hS rfl (by kernel_rfl) (by kernel_rfl) ?_
        apply Exists.intro
        refine And.intro (fun W' hS' => ?y10) (And.intro (fun _ _ _ h => h) ?_)
        case y10 => obtain ⟨d1, d2⟩ := hS'; go_simp; rfl
        refine take_one 11 hS rfl (by kernel_rfl) (by kernel_rfl) ?_
        apply Exists.intro
        refine And.intro (fun W' hS' => ?y11) (And.intro (fun _ _ _ h => h) ?_)
        case y11 => obtain ⟨d1, d2⟩ := hS'; go_simp; rfl
        go_simp
        refine only_one 12 rfl (by kernel_rfl) (by kernel_rfl) ?_
        go_simp
        refine (hla _).mono ?_
        rintro e w' ⟨rfl, rfl⟩
        refine ⟨hS, ?_⟩
        go_simp
        refine take_one 13 hS rfl (by kernel_rfl) (by kernel_rfl) ?_
        apply Exists.intro
        refine And.intro (fun W' hS' => ?y13) (And.intro (fun _ _ _ h => h) ?_)
        case y13 => obtain ⟨d1, d2⟩ := hS'; go_simp; rfl
        refine take_one 14 hS rfl (by kernel_rfl) (by kernel_rfl) ?_
        apply Exists.intro
        refine And.intro (fun W' hS' => ?y14) (And.intro (fun _ _ _ h => h) ?_)
        case y14 => obtain ⟨d1, d2⟩ := hS'; go_simp; rfl
        refine take_one 15 hS rfl (by kernel_rfl) (by kernel_rfl) ?_
        apply Exists.intro
        refine And.intro (fun W' hS' => ?y15) (And.intro (fun _ _ _ h => h) ?_)
        case y15 => obtain ⟨d1, d2⟩ := hS'; go_simp; rfl
        go_simp
        refine take_one 16 hS rfl (by kernel_rfl) (by kernel_rfl) ?_
        apply Exists.intro
        refine And.intro (fun W' hS' => ?y16) (And.intro (fun _ _ _ h => h) ?_)
        case y16 => obtain ⟨d1, d2⟩ := hS'; go_simp; rfl
        refine take_one 17 hS rfl (by kernel_rfl) (by kernel_rfl) ?_
        apply Exists.intro
        refine And.intro (fun W' hS' => ?y17) (And.intro (fun _ _ _ h => h) ?_)
        case y17 => obtain ⟨d1, d2⟩ := hS'; go_simp; rfl
        go_simp
        refine only_one 18 rfl (by kernel_rfl) (by kernel_rfl) ?_
        go_simp
        refine (hcont _ (name_pred _ _ _ hS.1 hS.2)).mono ?_
        rintro e w5 ⟨rfl, hB5⟩
        have hS5 : w5.cell? ⟨w.heap.size, 0, none⟩ = some (.func (.func 84) #[] #[]) ∧ w5.cell? ⟨w.heap.size + 1, 0, none⟩ = some (.func (.func 85) #[] #[.pointer (some ⟨w.heap.size, 0, none⟩)]) :=
          ⟨(hB5.cell (World.block_lt_of_cell? _ _ hS.1)).trans hS.1, (hB5.cell (World.block_lt_of_cell? _ _ hS.2)).trans hS.2⟩
        refine ⟨hS5, ?_⟩
        have HB5 := Lib.hid hB5
        clear hB5
        go_simp
        refine take_one 19 hS5 rfl (by kernel_rfl) (by kernel_rfl) ?_
        apply Exists.intro
        refine And.intro (fun W' hS' => ?y19) (And.intro (fun _ _ _ h => h) ?_)
        case y19 => obtain ⟨d1, d2⟩ := hS'; go_simp; rfl
        refine all_done (by kernel_rfl) ?_ _
        clear hS hS5 hcont hla k1 k2 hwr
        cases nq with
        | true =>
          go_wp2
          go_ret
          exact ⟨rfl, HB.out.trans ((below_undrew HB5.out).mono HB.out.size)⟩
        | false =>
          go_wp2
          go_ret
          exact ⟨rfl, HB.out.trans ((below_undrew HB5.out).mono HB.out.size)⟩
    · have e : nameE (b :: t) = 31 := by
        unfold nameE
        rw [name_cons, decide_eq_false (fun h => hlen (by simp; omega)), Bool.and_false]
        rfl
      rw [e]
      have hl' : (12 : Int) < ((bs (b :: t)).size : Int) := by omega
      clear hlen e hz
      generalize (bs (b :: t)) = s at *
      go_enter Tryz.func45, Tryz.ntmps45
      go_wp2_with fail
      have k1 : ((w.alloc (.cells #[.func (.func 84) #[] #[]] 147)).alloc (.cells #[.func (.func 85) #[] #[.pointer (some ⟨w.heap.size, 0, none⟩)]] 147)).cell? ⟨w.heap.size, 0, none⟩ = some (.func (.func 84) #[] #[]) := by simp
      have k2 : ((w.alloc (.cells #[.func (.func 84) #[] #[]] 147)).alloc (.cells #[.func (.func 85) #[] #[.pointer (some ⟨w.heap.size, 0, none⟩)]] 147)).cell? ⟨w.heap.size + 1, 0, none⟩ = some (.func (.func 85) #[] #[.pointer (some ⟨w.heap.size, 0, none⟩)]) := by simp
      have HB := Lib.hid (((Below.refl w.heap.size w).alloc (Nat.le_refl _) (.cells #[.func (.func 84) #[] #[]] 147)).alloc (by simp) (.cells #[.func (.func 85) #[] #[.pointer (some ⟨w.heap.size, 0, none⟩)]] 147))
      generalize ((w.alloc (.cells #[.func (.func 84) #[] #[]] 147)).alloc (.cells #[.func (.func 85) #[] #[.pointer (some ⟨w.heap.size, 0, none⟩)]] 147)) = W1 at *
      go_quiet (fail)
      go_wp2
      go_ret
      exact ⟨rfl, drewN_below HB.out _⟩
end Go.Proofs.YtfhmmekamommcaaGreatDoor
