/- The lattice of one label alone. -/
import Derived.Test.YtfmacnkjhboefaaGreatDoorLatWorks
import Derived.Test.YtfmacnkjhboefaaGreatDoorLatNone
namespace Go.Proofs.YtfmacnkjhboefaaGreatDoor
set_option linter.unusedVariables false
set_option linter.unusedSimpArgs false
open Go Go.RowKit Go.Proofs Go.Shelf Go.Sort
def N1 : List (List UInt8) := [[111, 110, 108, 121]]
theorem rows1 : addAllL [] (idL 1) = some [1] := by decide +kernel
theorem agree1 : Agree 1 (makeR N1 (toP [])) (rowR [1]) := makeR_eval (N := N1) (by decide) rows1
theorem made1 : makeE N1 (toP []) = 0 := by
  rw [makeE_eval (by decide) (by decide +kernel) (by decide)]
  decide +kernel
structure Facts1 (N : List (List UInt8)) (R : Nat → Nat → Bool) : Prop where
  len : N.length = 1
  low : lastF N.length R 0 N.length = 0
  high : lastF N.length (flp R) 0 N.length = 0
  join : lJoin N.length R 0 0 = 0
  code : lCode N.length R 0 = 1
theorem facts1 : Facts1 N1 (makeR N1 (toP [])) := by
  have h := agree1
  have e : N1.length = 1 := rfl
  refine ⟨rfl, ?_, ?_, ?_, ?_⟩ <;> rw [e]
  · rw [lastF_congr h 0 1 (by omega)]; decide +kernel
  · rw [lastF_congr h.flp 0 1 (by omega)]; decide +kernel
  · rw [lJoin_congr h]; decide +kernel
  · rw [lCode_congr h]; decide +kernel
theorem make_one (w : World) (hT : TabOk w) : Calls Tryz.prog 6 #[.slice (some ⟨w.heap.size, 0, none⟩) 1 1, .slice none 0 0] (w.alloc (.cells #[.string ⟨#[111, 110, 108, 121]⟩] 9))
    fun e w1 => ∃ la base N R, e = .returned (.tuple #[.pointer (some ⟨la, 0, none⟩), .int .i64 0]) ∧ IsLat w1 base la N R ∧ Facts1 N R ∧ Chg (fun _ => False) w w1 := by
  have c1 := (Chg.refl (fun _ => False) w).alloc (.cells #[.string ⟨#[111, 110, 108, 121]⟩] 9)
  have hN : InStrs _ (.slice (some ⟨w.heap.size, 0, none⟩) 1 1) N1 := (lit_strs w N1 9 (0, 0) 1 (by decide))
  refine (make_any hN (nil_pairs _) (by decide) (by decide) (hT.chg c1 (fun x => x))).mono ?_
  rintro e w1 ⟨hC, ⟨h1, _⟩ | ⟨_, _, la, rfl, hL⟩⟩
  · exact absurd made1 h1
  · exact ⟨la, _, _, _, rfl, hL, facts1, c1.trans hC⟩
theorem NoLat.chg {w w' : World} {v : Value} (h : NoLat w v) (hc : Chg (fun _ => False) w w') : NoLat w' v := by
  rcases h with rfl | ⟨B, rfl, z1, z2, z3⟩
  · exact .inl rfl
  · exact .inr ⟨B, rfl, hc.cell z1 (fun x => x), hc.cell z2 (fun x => x), hc.cell z3 (fun x => x)⟩
theorem zero_lat (w : World) : NoLat (w.alloc (.cells Tryz.zeroCells69 69)) (.pointer (some ⟨w.heap.size, 0, none⟩)) := by
  refine .inr ⟨_, rfl, ?_, ?_, ?_⟩ <;> rw [cell_of_heap (heap_new w _)]
  · have : Tryz.zeroCells69[0]? = some (.slice none 0 0) := by kernel_rfl
    exact this
  · exact zero_at 200 (by omega)
  · exact zero_at 201 (by omega)
end Go.Proofs.YtfmacnkjhboefaaGreatDoor
