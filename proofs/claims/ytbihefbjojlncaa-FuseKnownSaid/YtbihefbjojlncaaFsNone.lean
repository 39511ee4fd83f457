/- fuse: boxes that are none. -/
import Derived.Test.YtbihefbjojlncaaFrSame
namespace Go.Proofs.Ytbihefbjojlncaa
set_option linter.unusedVariables false
set_option linter.unusedSimpArgs false
open Go Go.RowKit
def NoBox (w : World) (v : Option Addr) : Prop := v = none ∨ ∃ B, v = some ⟨B, 0, none⟩ ∧ w.cell? ⟨B, 3, none⟩ = some (.map none)
theorem NoBox.chg {w w' : World} {v : Option Addr} (h : NoBox w v) (hc : Chg (fun _ => False) w w') : NoBox w' v := by
  rcases h with rfl | ⟨B, rfl, hb⟩
  · exact .inl rfl
  · exact .inr ⟨B, rfl, hc.cell hb (fun x => x)⟩
theorem none_yes (w : World) (v : Option Addr) (h : NoBox w v) :
    Calls Try.prog 32 #[.pointer v] w fun e w' => e = .returned (.bool true) ∧ w' = w := by
  have q30 : ∀ (w : World) (r : Option Nat), (binOp .eql 66 (.map r) (.map none)).run Try.prog w = .ok (.bool r.isNone) w := fun w r => run_eql_map_nil w _ _ _ r Try.underlying66
  rcases h with rfl | ⟨b, rfl, h⟩
  · go_enter Try.func32, Try.ntmps32
    go_wp2
    go_ret
    exact ⟨rfl, rfl⟩
  · go_enter Try.func32, Try.ntmps32
    go_wp2
    go_ret
    exact ⟨rfl, rfl⟩
theorem tick_none (w : World) (v : Option Addr) (h : NoBox w v) :
    Calls Try.prog 23 #[.pointer v] w fun e w' => e = .returned (.int .i64 0) ∧ w' = w := by
  go_enter Try.func23, Try.ntmps23
  go_wp2_with (first | (go_at_call 32; refine (none_yes _ v h).mono ?_; rintro e w' ⟨rfl, rfl⟩))
  go_ret
  exact ⟨rfl, rfl⟩
theorem spots_none (w : World) (v : Option Addr) (h : NoBox w v) :
    Calls Try.prog 22 #[.pointer v] w fun e w' => e = .returned (.slice none 0 0) ∧ w' = w := by
  go_enter Try.func22, Try.ntmps22
  go_wp2_with (first | (go_at_call 32; refine (none_yes _ v h).mono ?_; rintro e w' ⟨rfl, rfl⟩))
  go_ret
  exact ⟨rfl, rfl⟩
theorem at_none (w : World) (v : Option Addr) (d l t : Int) (h : NoBox w v) :
    Calls Try.prog 24 #[.pointer v, .agg #[.int .i64 d, .int .i64 l], .int .i64 t] w fun e w' => e = .returned (.tuple #[.pointer none, .int .i64 0, .int .i64 1]) ∧ Chg (fun _ => False) w w' := by
  have hal := (Chg.refl (fun _ => False) w).alloc (.cells #[.int .i64 d, .int .i64 l] 32)
  have hn := h.chg hal
  clear h
  go_enter Try.func24, Try.ntmps24
  go_wp2_with (first | (go_at_call 32; refine (none_yes _ v hn).mono ?_; rintro e w' ⟨rfl, rfl⟩))
  go_ret3
  exact ⟨rfl, hal⟩
theorem ask_none (w : World) (v : Option Addr) (d l t : Int) (h : NoBox w v) :
    Calls Try.prog 14 #[.pointer v, .agg #[.int .i64 d, .int .i64 l], .int .i64 t] w fun e w' => e = .returned (.int .i64 1) ∧ Chg (fun _ => False) w w' := by
  have hal := (Chg.refl (fun _ => False) w).alloc (.cells #[.int .i64 d, .int .i64 l] 32)
  have hn := h.chg hal
  have c0 : (w.alloc (.cells #[.int .i64 d, .int .i64 l] 32)).cell? ⟨w.heap.size, 0, none⟩ = some (.int .i64 d) := cell_of_heap (heap_new w _) 0
  have c1 : (w.alloc (.cells #[.int .i64 d, .int .i64 l] 32)).cell? ⟨w.heap.size, 1, none⟩ = some (.int .i64 l) := cell_of_heap (heap_new w _) 1
  clear h
  go_enter Try.func14, Try.ntmps14
  go_wp2_with (first | (go_at_call 24; refine (at_none _ v d l t hn).mono ?_; rintro e w1 ⟨rfl, hC1⟩))
  go_ret
  exact ⟨rfl, hal.trans hC1⟩
theorem did_none (w : World) (v : Option Addr) (d l t : Int) (well : Bool) (h : NoBox w v) :
    Calls Try.prog 12 #[.pointer v, .agg #[.int .i64 d, .int .i64 l], .bool well, .int .i64 t] w fun e w' => e = .returned (.int .i64 1) ∧ Chg (fun _ => False) w w' := by
  have hal := (Chg.refl (fun _ => False) w).alloc (.cells #[.int .i64 d, .int .i64 l] 32)
  have hn := h.chg hal
  have c0 : (w.alloc (.cells #[.int .i64 d, .int .i64 l] 32)).cell? ⟨w.heap.size, 0, none⟩ = some (.int .i64 d) := cell_of_heap (heap_new w _) 0
  have c1 : (w.alloc (.cells #[.int .i64 d, .int .i64 l] 32)).cell? ⟨w.heap.size, 1, none⟩ = some (.int .i64 l) := cell_of_heap (heap_new w _) 1
  clear h
  go_enter Try.func12, Try.ntmps12
  go_wp2_with (first | (go_at_call 24; refine (at_none _ v d l t hn).mono ?_; rintro e w1 ⟨rfl, hC1⟩))
  go_ret
  exact ⟨rfl, hal.trans hC1⟩
theorem state_none (w : World) (v : Option Addr) (d l : Int) (h : NoBox w v) :
    Calls Try.prog 20 #[.pointer v, .agg #[.int .i64 d, .int .i64 l]] w fun e w' => e = .returned (.tuple #[.int .i64 0, .int .i64 0, .int .i64 0]) ∧ Chg (fun _ => False) w w' := by
  have hal := (Chg.refl (fun _ => False) w).alloc (.cells #[.int .i64 d, .int .i64 l] 32)
  have hn := h.chg hal
  clear h
  go_enter Try.func20, Try.ntmps20
  go_upto_region 1 with fail
  go_quiet ((go_at_call 32; exact Calls.quiet_of_same (none_yes _ v hn)))
  go_wp2_with fail
  go_ret3
  exact ⟨rfl, hal.drewN _⟩
theorem stands_none (w : World) (v : Option Addr) (d l : Int) (h : NoBox w v) :
    Calls Try.prog 21 #[.pointer v, .agg #[.int .i64 d, .int .i64 l], .int .i64 0, .int .i64 0, .int .i64 0] w fun e w' => e = .returned (.bool true) ∧ Chg (fun _ => False) w w' := by
  have hal := (Chg.refl (fun _ => False) w).alloc (.cells #[.int .i64 d, .int .i64 l] 32)
  have hn := h.chg hal
  have c0 : (w.alloc (.cells #[.int .i64 d, .int .i64 l] 32)).cell? ⟨w.heap.size, 0, none⟩ = some (.int .i64 d) := cell_of_heap (heap_new w _) 0
  have c1 : (w.alloc (.cells #[.int .i64 d, .int .i64 l] 32)).cell? ⟨w.heap.size, 1, none⟩ = some (.int .i64 l) := cell_of_heap (heap_new w _) 1
  clear h
  go_enter Try.func21, Try.ntmps21
  go_wp2_with (first | (go_at_call 20; refine (state_none _ v d l hn).mono ?_; rintro e w1 ⟨rfl, hC1⟩))
  go_ret
  exact ⟨rfl, hal.trans hC1⟩
end Go.Proofs.Ytbihefbjojlncaa
