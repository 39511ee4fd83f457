/- order.New -/
import Derived.Test.YtfhmmekamommcaaGreatDoorOrd3
import Derived.Deep.OwnRows
import Derived.StillTailTactics
namespace Go.Proofs.YtfhmmekamommcaaGreatDoor
set_option linter.unusedVariables false
set_option linter.unusedSimpArgs false
open Go Go.RowKit Go.Proofs Go.Shelf
theorem infoSet : (Tryz.prog.info? 153).map (fun i => (i.zero, i.size, i.bytes)) = some (some (.int .u32 0), 1, 4) := by kernel_rfl
theorem make_sets (n : Nat) (hn : n ≤ 16) (W : World) : (Instr.makeSlice 150 (.int .i64 (n : Int)) (.int .i64 (n : Int))).run Tryz.prog W = .ok (.slice (some ⟨W.heap.size, 0, none⟩) n n) (W.alloc (.cells (madeCells #[.int .u32 0] n) 153)) :=
  run_make_row' (P := Tryz.prog) 150 153 (.int .u32 0) 4 Tryz.underlying150 infoSet rfl .i64 .i64 n (by omega) (by omega) W
/-- each thing is at most itself alone; so far those below k -/
def idTo (k : Nat) : Nat → Nat → Bool := fun i j => decide (i = j ∧ i < k)
def NewPost (w : World) (n : Nat) (e : Ending) (w' : World) : Prop :=
  ∃ b bu bd, e = .returned (.tuple #[.pointer (some ⟨b, 0, none⟩), .int .i64 0]) ∧ w.heap.size ≤ b ∧ w.heap.size ≤ bu ∧ w.heap.size ≤ bd ∧ IsOrd w' b bu bd n n n (idTo n) (idTo n) ∧ Chg (fun _ => False) w w'
theorem made_get (n i : Nat) (v : Value) (h : i < n) : (madeCells #[v] n)[i]? = some v := by
  have : (madeCells #[v] n).toList[i]? = some v := by rw [toList_madeCells_one]; simp [h]
  simpa using this
theorem msk_none (n : Nat) (i : Nat) : msk n (idTo 0 i) = 0 := by
  induction n with
  | zero => rfl
  | succ n ih => simp [msk, ih, idTo]
def CutNew (w : World) (n k : Nat) (s : Value) (W : World) : Prop := ∃ b bu bd, s = .pointer (some ⟨b, 0, none⟩) ∧ w.heap.size ≤ b ∧ w.heap.size ≤ bu ∧ w.heap.size ≤ bd ∧ IsOrd W b bu bd n n n (idTo k) (idTo k) ∧ Chg (fun _ => False) w W
theorem new_cut (n : Nat) (h1 : 1 ≤ n) (h16 : n ≤ 16) (w : World) (x y : Nat) (h : x = w.heap.size ∧ y = w.heap.size + 1 ∨ x = w.heap.size + 1 ∧ y = w.heap.size) :
    CutNew w n 0 (.pointer (some ⟨w.heap.size + 1 + 1, 0, none⟩)) (((w.alloc (.cells (madeCells #[.int .u32 0] n) 153)).alloc (.cells (madeCells #[.int .u32 0] n) 153)).alloc (.cells #[.slice (some ⟨x, 0, none⟩) n n, .slice (some ⟨y, 0, none⟩) n n] 152)).drew := by
  have e2 := heap_new ((w.alloc (.cells (madeCells #[.int .u32 0] n) 153)).alloc (.cells (madeCells #[.int .u32 0] n) 153)) (.cells #[.slice (some ⟨x, 0, none⟩) n n, .slice (some ⟨y, 0, none⟩) n n] 152)
  have e1 := heap_alloc (o' := .cells #[.slice (some ⟨x, 0, none⟩) n n, .slice (some ⟨y, 0, none⟩) n n] 152) (heap_new (w.alloc (.cells (madeCells #[.int .u32 0] n) 153)) (.cells (madeCells #[.int .u32 0] n) 153))
  have e0 := heap_alloc (o' := .cells #[.slice (some ⟨x, 0, none⟩) n n, .slice (some ⟨y, 0, none⟩) n n] 152) (heap_alloc (o' := .cells (madeCells #[.int .u32 0] n) 153) (heap_new w (.cells (madeCells #[.int .u32 0] n) 153)))
  simp only [World.size_alloc] at e1 e2
  have hc : ∀ i, i < n → (madeCells #[Value.int .u32 0] n)[i]? = some (.int .u32 (msk n (idTo 0 i) : Nat)) := fun i hi => by rw [msk_none]; exact made_get n i _ hi
  refine ⟨_, x, y, rfl, by omega, by omega, by omega, ⟨e2, ⟨_, ?_, hc⟩, ⟨_, ?_, hc⟩, h1, h16, by omega, by omega, by omega⟩, ((((Chg.refl _ _).alloc _).alloc _).alloc _).drew⟩
  · rcases h with ⟨rfl, rfl⟩ | ⟨rfl, rfl⟩
    · exact e0
    · exact e1
  · rcases h with ⟨rfl, rfl⟩ | ⟨rfl, rfl⟩
    · exact e1
    · exact e0
theorem new_step {w W : World} {b bu bd n k : Nat} (hk : k < n) (h1 : w.heap.size ≤ bu) (h2 : w.heap.size ≤ bd) (h : IsOrd W b bu bd n n n (idTo k) (idTo k)) (hc : Chg (fun _ => False) w W) :
    IsOrd (((W.setCell ⟨bu, k, none⟩ (.int .u32 (2 ^ k : Nat))).setCell ⟨bd, k, none⟩ (.int .u32 (2 ^ k : Nat)))) b bu bd n n n (idTo (k + 1)) (idTo (k + 1)) ∧
      Chg (fun _ => False) w ((W.setCell ⟨bu, k, none⟩ (.int .u32 (2 ^ k : Nat))).setCell ⟨bd, k, none⟩ (.int .u32 (2 ^ k : Nat))) := by
  rw [msk_one n k hk]
  have hf : ∀ i j, (if i = k then decide (j = k) else idTo k i j) = idTo (k + 1) i j := fun i j => by
    unfold idTo
    by_cases e : i = k
    · subst e
      by_cases e2 : j = i
      · subst e2; simp
      · have e3 : ¬ i = j := fun x => e2 x.symm
        simp [e2, e3]
    · rw [if_neg e]
      by_cases e2 : i < k
      · simp [e2, (by omega : i < k + 1)]
      · have e3 : ¬ (i = j ∧ i < k) := fun x => e2 x.2
        have e4 : ¬ (i = j ∧ i < k + 1) := fun x => by omega
        rw [decide_eq_false e3, decide_eq_false e4]
  exact ⟨((h.setU k _).setD k _).congr (fun i j _ _ => hf i j) (fun i j _ _ => hf i j), (hc.setCell (.inr h1) _).setCell (.inr h2) _⟩
theorem shl_one (k : Nat) (hk : k < 16) : IntKind.u32.wrap (2 ^ k) = ((2 ^ k : Nat) : Int) := by
  have h : 2 ^ k ≤ 2 ^ 15 := Nat.pow_le_pow_right (by omega) (by omega)
  rw [show ((2 : Int) ^ k) = ((2 ^ k : Nat) : Int) by simp]
  generalize 2 ^ k = q at *
  simp [IntKind.wrap, IntKind.bits, IntKind.signed]
  omega
set_option maxHeartbeats 1000000 in
theorem new_ok (n : Nat) (h1 : 1 ≤ n) (h16 : n ≤ 16) (w : World) : Calls Tryz.prog 50 #[.int .i64 (n : Int)] w (NewPost w n) := by
  have hmk := make_sets n h16
  go_enter Tryz.func50, Tryz.ntmps50
  go_upto_region 3 with fail
  go_cut [4] (fun s4 W => CutNew w n 0 s4 W)
  case first =>
    go_region
    all_goals (go_wp2_with fail; go_meet)
    · exact new_cut n h1 h16 w _ _ (.inl ⟨rfl, rfl⟩)
    · exact new_cut n h1 h16 w _ _ (.inr ⟨rfl, rfl⟩)
  case rest =>
    obtain ⟨b, bu, bd, rfl, hb, hbu, hbd, hO, hC⟩ := hcut
    clear hmk
    have HO := Lib.hid hO
    have HC := Lib.hid hC
    clear hO hC
    go_wp2
    go_loopw [19] (fun i wr => ∃ k : Nat, k ≤ n ∧ i = .int .i64 k ∧ IsOrd wr b bu bd n n n (idTo k) (idTo k) ∧ Chg (fun _ => False) w wr) (fun i _ => n - (intOf i).toNat)
    case atStart => exact ⟨0, Nat.zero_le _, rfl, HO.out, HC.out⟩
    case round =>
      obtain ⟨k, hk, rfl, hI, hch⟩ := hrel
      by_cases hlt : k < n
      · have c1 := hI.up
        have c2 := hI.dn
        have c3 := hI.hu k hlt
        have c4 := hI.hd k hlt
        have c5 := hI.fu k
        have c6 := hI.fd k
        have n1 := hI.ne3
        have n2 := hI.ne1
        have n3 := hI.ne2
        have HS := Lib.hid (new_step hlt hbu hbd hI hch)
        clear hI hch HO HC
        go_wp2
        have hS : wr.drew.cell? ⟨b, 0, none⟩ = some (.slice (some ⟨bu, 0, none⟩) n n) ∧ wr.drew.cell? ⟨b, 1, none⟩ = some (.slice (some ⟨bd, 0, none⟩) n n) := ⟨c1, c2⟩
        refine region_lone (fun W' => W'.cell? ⟨b, 0, none⟩ = some (.slice (some ⟨bu, 0, none⟩) n n) ∧ W'.cell? ⟨b, 1, none⟩ = some (.slice (some ⟨bd, 0, none⟩) n n)) [] (by kernel_rfl) ?_
        refine take_one 0 hS rfl (by kernel_rfl) rfl ?_
        apply Exists.intro
        refine And.intro (fun W' hS' => ?y0) (And.intro (fun _ _ _ h => h) ?_)
        case y0 => obtain ⟨d1, d2⟩ := hS'; go_simp; rfl
        refine take_one 1 hS rfl (by kernel_rfl) rfl ?_
        apply Exists.intro
        refine And.intro (fun W' hS' => ?y1) (And.intro (fun _ _ _ h => h) ?_)
        case y1 => obtain ⟨d1, d2⟩ := hS'; go_simp; rfl
        refine take_one 2 hS rfl (by kernel_rfl) rfl ?_
        apply Exists.intro
        refine And.intro (fun W' hS' => ?y2) (And.intro (fun _ _ _ h => h) ?_)
        case y2 => obtain ⟨d1, d2⟩ := hS'; go_simp; rfl
        refine take_one 3 hS rfl (by kernel_rfl) rfl ?_
        apply Exists.intro
        refine And.intro (fun W' hS' => ?y3) (And.intro (fun _ _ _ h => h) ?_)
        case y3 => obtain ⟨d1, d2⟩ := hS'; go_simp; rfl
        refine take_one 4 hS rfl (by kernel_rfl) rfl ?_
        apply Exists.intro
        refine And.intro (fun W' hS' => ?y4) (And.intro (fun _ _ _ h => h) ?_)
        case y4 => obtain ⟨d1, d2⟩ := hS'; go_simp; rfl
        refine take_one 5 hS rfl (by kernel_rfl) rfl ?_
        apply Exists.intro
        refine And.intro (fun W' hS' => ?y5) (And.intro (fun _ _ _ h => h) ?_)
        case y5 => obtain ⟨d1, d2⟩ := hS'; go_simp; rfl
        refine take_one 6 hS rfl (by kernel_rfl) rfl ?_
        apply Exists.intro
        refine And.intro (fun W' hS' => ?y6) (And.intro (fun _ _ _ h => h) ?_)
        case y6 => obtain ⟨d1, d2⟩ := hS'; go_simp; rfl
        refine take_one 7 hS rfl (by kernel_rfl) rfl ?_
        apply Exists.intro
        refine And.intro (fun W' hS' => ?y7) (And.intro (fun _ _ _ h => h) ?_)
        case y7 => obtain ⟨d1, d2⟩ := hS'; go_simp; rfl
        refine take_one 8 hS rfl (by kernel_rfl) rfl ?_
        apply Exists.intro
        refine And.intro (fun W' hS' => ?y8) (And.intro (fun _ _ _ h => h) ?_)
        case y8 => obtain ⟨d1, d2⟩ := hS'; go_simp; rfl
        refine take_one 9 hS rfl (by kernel_rfl) rfl ?_
        apply Exists.intro
        refine And.intro (fun W' hS' => ?y9) (And.intro (fun _ _ _ h => h) ?_)
        case y9 => obtain ⟨d1, d2⟩ := hS'; go_simp; rfl
        refine take_one 10 hS rfl (by kernel_rfl) rfl ?_
        apply Exists.intro
        refine And.intro (fun W' hS' => ?y10) (And.intro (fun _ _ _ h => h) ?_)
        case y10 => obtain ⟨d1, d2⟩ := hS'; go_simp; rfl
        refine take_one 11 hS rfl (by kernel_rfl) rfl ?_
        apply Exists.intro
        refine And.intro (fun W' hS' => ?y11) (And.intro (fun _ _ _ h => h) ?_)
        case y11 => obtain ⟨d1, d2⟩ := hS'; go_simp; rfl
        refine take_one 12 hS rfl (by kernel_rfl) rfl ?_
        apply Exists.intro
        refine And.intro (fun W' hS' => ?y12) (And.intro (fun _ _ _ h => h) ?_)
        case y12 => obtain ⟨d1, d2⟩ := hS'; go_simp; rfl
        refine take_one 13 hS rfl (by kernel_rfl) rfl ?_
        apply Exists.intro
        refine And.intro (fun W' hS' => ?y13) (And.intro (fun _ _ _ h => h) ?_)
        case y13 => obtain ⟨d1, d2⟩ := hS'; go_simp; rfl
        refine take_one 14 hS rfl (by kernel_rfl) rfl ?_
        apply Exists.intro
        refine And.intro (fun W' hS' => ?y14) (And.intro (fun _ _ _ h => h) ?_)
        case y14 => obtain ⟨d1, d2⟩ := hS'; go_simp; rfl
        refine only_one 15 rfl (by kernel_rfl) rfl ?_
        go_simp
        have hw : IntKind.u32.wrap (2 ^ k) = ((2 ^ k : Nat) : Int) := by
          exact shl_one k (by omega)
        rw [hw]
        have hS2 : (wr.setCell ⟨bu, k, none⟩ (.int .u32 (2 ^ k : Nat))).drew.cell? ⟨b, 0, none⟩ = some (.slice (some ⟨bu, 0, none⟩) n n) ∧ (wr.setCell ⟨bu, k, none⟩ (.int .u32 (2 ^ k : Nat))).drew.cell? ⟨b, 1, none⟩ = some (.slice (some ⟨bd, 0, none⟩) n n) :=
          ⟨cell_setCell c1 (by omega) _, cell_setCell c2 (by omega) _⟩
        refine take_one 16 hS2 rfl (by kernel_rfl) rfl ?_
        apply Exists.intro
        refine And.intro (fun W' hS' => ?y16) (And.intro (fun _ _ _ h => h) ?_)
        case y16 => obtain ⟨d1, d2⟩ := hS'; go_simp; rfl
        have c4' : (wr.setCell ⟨bu, k, none⟩ (.int .u32 (2 ^ k : Nat))).cell? ⟨bd, k, none⟩ = some (.int .u32 (msk n (idTo k k) : Nat)) := cell_setCell c4 (by omega) _
        refine only_one 17 rfl (by kernel_rfl) rfl ?_
        go_simp
        refine all_done (by kernel_rfl) ?_ _
        clear c1 c2 c3 c4 c5 c6 hS hS2 c4' hw
        go_wp2
        go_roundw
        case rel => exact ⟨k + 1, by omega, by go_num, HS.out.1.drew, HS.out.2.drew⟩
        case measure => simp [intOf]; omega
      · have : k = n := by omega
        subst this
        go_wp2
        go_ret2
        exact ⟨b, bu, bd, rfl, hb, hbu, hbd, hI, hch⟩
end Go.Proofs.YtfhmmekamommcaaGreatDoor
