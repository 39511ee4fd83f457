/- The nil lattice and the zero lattice: what their methods answer. -/
import Derived.Test.YtfmacnkjhboefaaGreatDoorLatFns2
namespace Go.Proofs.YtfmacnkjhboefaaGreatDoor
set_option linter.unusedVariables false
set_option linter.unusedSimpArgs false
open Go Go.RowKit Go.Proofs Go.Shelf Go.Sort
/-- no lattice: the nil pointer, or a block that holds the zero value -/
def NoLat (w : World) (v : Value) : Prop := v = .pointer none ∨ ∃ B, v = .pointer (some ⟨B, 0, none⟩) ∧ w.cell? ⟨B, 0, none⟩ = some (.slice none 0 0) ∧ w.cell? ⟨B, 205, none⟩ = some (.int .i64 0) ∧ w.cell? ⟨B, 206, none⟩ = some (.int .i64 0)
theorem nMany {w : World} {v : Value} (h : NoLat w v) : Calls Tryz.prog 15 #[v] w fun e w' => e = .returned (.int .i64 0) ∧ w' = w := by
  rcases h with rfl | ⟨B, rfl, z1, z2, z3⟩ <;>
  (go_enter Tryz.func15, Tryz.ntmps15
   go_wp2_with fail
   go_ret
   exact ⟨rfl, rfl⟩)
theorem nLow {w : World} {v : Value} (h : NoLat w v) : Calls Tryz.prog 16 #[v] w fun e w' => e = .returned (.int .i64 0) ∧ w' = w := by
  rcases h with rfl | ⟨B, rfl, z1, z2, z3⟩ <;>
  (go_enter Tryz.func16, Tryz.ntmps16
   go_wp2_with fail
   go_ret
   exact ⟨rfl, rfl⟩)
theorem nHigh {w : World} {v : Value} (h : NoLat w v) : Calls Tryz.prog 17 #[v] w fun e w' => e = .returned (.int .i64 0) ∧ w' = w := by
  rcases h with rfl | ⟨B, rfl, z1, z2, z3⟩ <;>
  (go_enter Tryz.func17, Tryz.ntmps17
   go_wp2_with fail
   go_ret
   exact ⟨rfl, rfl⟩)
theorem nIs {w : World} {v : Value} (h : NoLat w v) : Calls Tryz.prog 48 #[v, .int .i64 0] w fun e w' => e = .returned (.bool false) ∧ w' = w := by
  have h1 := nMany h
  clear h
  go_enter Tryz.func48, Tryz.ntmps48
  go_wp2_with (go_at_call 15; refine h1.mono ?_; rintro e w ⟨rfl, rfl⟩)
  go_ret
  exact ⟨rfl, rfl⟩
theorem nLeq {w : World} {v : Value} (h : NoLat w v) : Calls Tryz.prog 20 #[v, .int .i64 0, .int .i64 0] w fun e w' => e = .returned (.bool false) ∧ w' = w := by
  have h1 := nIs h
  clear h
  go_enter Tryz.func20, Tryz.ntmps20
  go_wp2_with (go_at_call 48; refine h1.mono ?_; rintro e w ⟨rfl, rfl⟩)
  go_ret
  exact ⟨rfl, rfl⟩
theorem nJoin {w : World} {v : Value} (h : NoLat w v) (x : Int) (hx : x = 0 ∨ x = 1) : Calls Tryz.prog 18 #[v, .int .i64 0, .int .i64 x] w fun e w' => e = .returned (.int .i64 0) ∧ w' = w := by
  have h1 := nIs h
  have h2 := nHigh h
  clear h hx
  go_enter Tryz.func18, Tryz.ntmps18
  go_wp2_with (first
    | (go_at_call 48; refine h1.mono ?_; rintro e w ⟨rfl, rfl⟩)
    | (go_at_call 17; refine h2.mono ?_; rintro e w ⟨rfl, rfl⟩))
  go_ret
  exact ⟨rfl, rfl⟩
theorem nMeet {w : World} {v : Value} (h : NoLat w v) : Calls Tryz.prog 21 #[v, .int .i64 0, .int .i64 0] w fun e w' => e = .returned (.int .i64 0) ∧ w' = w := by
  have h1 := nIs h
  have h2 := nLow h
  clear h
  go_enter Tryz.func21, Tryz.ntmps21
  go_wp2_with (first
    | (go_at_call 48; refine h1.mono ?_; rintro e w ⟨rfl, rfl⟩)
    | (go_at_call 16; refine h2.mono ?_; rintro e w ⟨rfl, rfl⟩))
  go_ret
  exact ⟨rfl, rfl⟩
theorem nName {w : World} {v : Value} (h : NoLat w v) : Calls Tryz.prog 23 #[v, .int .i64 0] w fun e w' => e = .returned (.string ByteArray.empty) ∧ w' = w := by
  have h1 := nIs h
  clear h
  go_enter Tryz.func23, Tryz.ntmps23
  go_wp2_with (go_at_call 48; refine h1.mono ?_; rintro e w ⟨rfl, rfl⟩)
  go_ret
  exact ⟨rfl, rfl⟩
theorem nCode {w : World} {v : Value} (h : NoLat w v) : Calls Tryz.prog 19 #[v, .int .i64 0] w fun e w' => e = .returned (.int .i64 0) ∧ w' = w := by
  have h1 := nIs h
  clear h
  go_enter Tryz.func19, Tryz.ntmps19
  go_wp2_with (go_at_call 48; refine h1.mono ?_; rintro e w ⟨rfl, rfl⟩)
  go_ret
  exact ⟨rfl, rfl⟩
attribute [local go_sem] mx2 mxs
theorem nFind {w : World} {v : Value} (h : NoLat w v) (s : ByteArray) : Calls Tryz.prog 9 #[v, .string s] w fun e w' => e = .returned (.tuple #[.int .i64 0, .bool false]) ∧ w' = w := by
  have hi := Tryz.slices_Index_string_empty none 0 s w
  have hx : Lib.idxOfS [] s = -1 := rfl
  rw [hx] at hi
  clear hx
  rcases h with rfl | ⟨B, rfl, z1, z2, z3⟩ <;>
  (go_enter Tryz.func9, Tryz.ntmps9
   go_wp2_with (go_at_call 39; refine hi.mono ?_; rintro e w ⟨rfl, rfl⟩)
   go_ret2
   exact ⟨rfl, rfl⟩)
theorem nDecode {w : World} {v : Value} (h : NoLat w v) (x : Int) : Calls Tryz.prog 11 #[v, .int .i64 x] w fun e w' => e = .returned (.tuple #[.int .i64 0, .int .i64 4]) ∧ w' = w := by
  have h1 := nMany h
  clear h
  go_enter Tryz.func11, Tryz.ntmps11
  go_wp2_with (go_at_call 15; refine h1.mono ?_; rintro e w ⟨rfl, rfl⟩)
  go_loop [9] (fun i => i = .int .i64 0) (fun _ => 0)
  case atStart => exact rfl
  case round =>
    subst hrel
    go_wp2_with fail
    go_ret2
    exact ⟨rfl, rfl⟩
theorem nJoinAll {w : World} {v : Value} (h : NoLat w v) {G : Nat} (hc : w.cell? ⟨G, 0, none⟩ = some (.int .i64 1)) : Calls Tryz.prog 22 #[v, .slice (some ⟨G, 0, none⟩) 1 1] w fun e w' => e = .returned (.int .i64 0) ∧ w' = w := by
  have h1 := nLow h
  have h2 := nJoin h 1 (.inr rfl)
  clear h
  go_enter Tryz.func22, Tryz.ntmps22
  go_wp2_with (go_at_call 16; refine h1.mono ?_; rintro e w ⟨rfl, rfl⟩)
  go_loop [5, 12] (fun t i => t = .int .i64 0 ∧ (i = .int .i64 0 ∨ i = .int .i64 1)) (fun _ i => 1 - (intOf i).toNat)
  case atStart => exact ⟨rfl, .inl rfl⟩
  case round =>
    obtain ⟨rfl, rfl | rfl⟩ := hrel
    · go_wp2_with (go_at_call 18; refine h2.mono ?_; rintro e w ⟨rfl, rfl⟩)
      go_round
      case rel => exact ⟨rfl, .inr rfl⟩
      case measure => simp [intOf]
    · go_wp2_with fail
      go_ret
      exact ⟨rfl, rfl⟩
end Go.Proofs.YtfmacnkjhboefaaGreatDoor
