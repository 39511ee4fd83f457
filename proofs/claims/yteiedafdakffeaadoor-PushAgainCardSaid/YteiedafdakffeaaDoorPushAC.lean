/- push: what the closed examples come to. -/
import Derived.Test.YteiedafdakffeaaDoorPushAB
namespace Go.Proofs.YteiedafdakffeaaDoor
set_option linter.unusedVariables false
set_option linter.unusedSimpArgs false
open Go Go.RowKit Go.Proofs
def vA : Nat → Int
  | 1 => 3
  | 4 => 258
  | _ => 0
def vB : Nat → Int
  | 1 => 2
  | 3 => 1
  | _ => 0
def wantA : List Int := [3, 0, 0, 0, 0, 0, 0, 3, 0, 0, 0, 0, 0, 1, 2]
def wantB : List Int := [4, 0, 0, 0, 0, 0, 0, 2, 0, 0, 0, 0, 0, 0, 1]
def tx1 : ByteArray := ⟨#[97, 10, 98, 10, 99]⟩
def tx2 : ByteArray := ⟨#[97, 10, 120, 10, 99]⟩
def tx3 : ByteArray := ⟨#[97, 10, 97]⟩
def tx4 : ByteArray := ⟨#[97]⟩
def txX : ByteArray := ⟨#[120]⟩
def txY : ByteArray := ⟨#[121]⟩
theorem ckA : checkF 3 (vA 1) (vA 2) (vA 3) (vA 4) (vA 5) (vA 6) ByteArray.empty [] = 0 := by kernel_rfl
theorem byA : pushB 3 (vA 1) (vA 2) (vA 3) (vA 4) (vA 5) (vA 6) ByteArray.empty [] = wantA := by kernel_rfl
theorem peA : (parseP wantA).e = 0 := by kernel_rfl
theorem smA : sameF 3 vA ByteArray.empty [] (parseP wantA).k (parseP wantA).V (parseP wantA).tx (parseP wantA).l = true := by kernel_rfl
theorem plA : (parseP wantA).l.length ≤ 100000 := by rw [show (parseP wantA).l = [] by kernel_rfl]; simp
theorem ckB : checkF 4 (vB 1) (vB 2) (vB 3) (vB 4) (vB 5) (vB 6) ByteArray.empty [] = 0 := by kernel_rfl
theorem byB : pushB 4 (vB 1) (vB 2) (vB 3) (vB 4) (vB 5) (vB 6) ByteArray.empty [] = wantB := by kernel_rfl
theorem peB : (parseP wantB).e = 0 := by kernel_rfl
theorem smB : sameF 4 vB ByteArray.empty [] (parseP wantB).k (parseP wantB).V (parseP wantB).tx (parseP wantB).l = true := by kernel_rfl
theorem plB : (parseP wantB).l.length ≤ 100000 := by rw [show (parseP wantB).l = [] by kernel_rfl]; simp
theorem bytesA : ∀ x ∈ wantA, 0 ≤ x ∧ x ≤ 255 := by decide
theorem bytesB : ∀ x ∈ wantB, 0 ≤ x ∧ x ≤ 255 := by decide
theorem ckC : checkF 4 0 0 0 1 0 0 ByteArray.empty [] = 2 := by kernel_rfl
theorem pfD : parseP [6] = noPkt 4 := by kernel_rfl
theorem pfE : parseP [3, 0] = noPkt 3 := by kernel_rfl
theorem dfF : diffP tx1 tx2 = ⟨2, diffV 1 1, ByteArray.empty, [txX], 0⟩ := by kernel_rfl
theorem dfG : diffP tx3 tx4 = ⟨2, diffV 1 0, ByteArray.empty, [], 0⟩ := by kernel_rfl
theorem apS : applyS tx1 2 2 1 0 0 1 1 ByteArray.empty [txX, txY] = ⟨#[97, 10, 120, 10, 121, 10, 99, 10]⟩ := by kernel_rfl
theorem apE : applyE tx1 2 2 1 0 0 1 1 ByteArray.empty [txX, txY] = 0 := by kernel_rfl
theorem apE2 : applyE tx3 2 2 1 0 0 3 0 ByteArray.empty [] = 2 := by kernel_rfl
end Go.Proofs.YteiedafdakffeaaDoor
