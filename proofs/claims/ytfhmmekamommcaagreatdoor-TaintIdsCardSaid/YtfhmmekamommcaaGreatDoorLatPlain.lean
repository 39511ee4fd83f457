/- lattice, plainly: what best and both give over an order's rows. -/
import Derived.Test.YtfhmmekamommcaaGreatDoorLatBest2
namespace Go.Proofs.YtfhmmekamommcaaGreatDoor
set_option linter.unusedVariables false
set_option linter.unusedSimpArgs false
open Go Go.RowKit Go.Proofs Go.Shelf Go.Sort
/-- the first below n that is so; below 0: there is none -/
def firstD (n : Nat) (p : Nat → Bool) : Int := match (List.range n).find? p with
  | some c => (c : Int)
  | none => -1
def joinD (n : Nat) (R : Nat → Nat → Bool) (a b : Nat) : Int := firstD n fun c => (R a c && R b c) && (List.range n).all fun d => !(R a d && R b d) || R c d
def meetD (n : Nat) (R : Nat → Nat → Bool) (a b : Nat) : Int := firstD n fun c => (R c a && R c b) && (List.range n).all fun d => !(R d a && R d b) || R d c
theorem find_congr {α : Type} {p q : α → Bool} : ∀ {l : List α}, (∀ x ∈ l, p x = q x) → l.find? p = l.find? q
  | [], _ => rfl
  | x :: r, h => by
    have hx := h x (by simp)
    have hr := find_congr (l := r) (fun y hy => h y (by simp [hy]))
    simp only [List.find?_cons, hx, hr]
theorem all_congr' {α : Type} {p q : α → Bool} : ∀ {l : List α}, (∀ x ∈ l, p x = q x) → l.all p = l.all q
  | [], _ => rfl
  | x :: r, h => by
    have hx := h x (by simp)
    have hr := all_congr' (l := r) (fun y hy => h y (by simp [hy]))
    simp only [List.all_cons, hx, hr]
theorem bestL_toI (A : Int → Int → Bool) (l : List Nat) : bestL A (toI l) = match l.find? (fun (c : Nat) => l.all fun (d : Nat) => A (c : Int) (d : Int)) with
  | some c => (c : Int)
  | none => -1 := by
  unfold bestL toI
  rw [List.find?_map]
  have : ((fun a => (l.map fun (x : Nat) => (x : Int)).all (A a)) ∘ fun (x : Nat) => (x : Int)) = fun (c : Nat) => l.all fun (d : Nat) => A (c : Int) (d : Int) := by
    funext c
    simp only [Function.comp, List.all_map]
    rfl
  rw [this]
  cases l.find? (fun (c : Nat) => l.all fun (d : Nat) => A (c : Int) (d : Int)) <;> rfl
theorem bestL_els (n : Nat) (s : Nat → Bool) (A : Int → Int → Bool) (A' : Nat → Nat → Bool) (h : ∀ c d : Nat, c < n → d < n → A c d = A' c d) :
    bestL A (toI (els n s)) = firstD n fun c => s c && (List.range n).all fun d => !s d || A' c d := by
  rw [bestL_toI]
  unfold firstD
  have e : (els n s).find? (fun (c : Nat) => (els n s).all fun (d : Nat) => A (c : Int) (d : Int)) = (List.range n).find? fun (c : Nat) => s c && (List.range n).all fun d => !s d || A' c d := by
    unfold els
    rw [List.find?_filter]
    refine find_congr fun c hc => ?_
    have hcn : c < n := List.mem_range.1 hc
    rw [List.all_filter]
    have : ((List.range n).all fun (d : Nat) => !s d || A (c : Int) (d : Int)) = (List.range n).all fun d => !s d || A' c d := all_congr' fun d hd => by rw [h c d hcn (List.mem_range.1 hd)]
    rw [this]
    generalize (List.range n).all (fun d => !s d || A' c d) = t
    cases s c <;> cases t <;> rfl
  rw [e]
theorem toI_contains (l : List Nat) (x : Nat) : (toI l).contains (x : Int) = decide (x ∈ l) := by
  rw [Bool.eq_iff_iff, decide_eq_true_eq, List.contains_iff_mem]
  unfold toI
  constructor
  · intro h
    obtain ⟨a, ha, e⟩ := List.mem_map.1 h
    have : a = x := by omega
    subst this
    exact ha
  · intro h
    exact List.mem_map.2 ⟨x, h, rfl⟩
theorem both_els (n : Nat) (p q : Nat → Bool) : ((toI (els n p)).filter fun x => (toI (els n q)).contains x) = toI (els n fun x => p x && q x) := by
  have e1 : ((toI (els n p)).filter fun x => (toI (els n q)).contains x) = toI ((els n p).filter fun x => decide (x ∈ els n q)) := by
    show ((List.map (fun (x : Nat) => (x : Int)) (els n p)).filter fun x => (toI (els n q)).contains x) = _
    rw [List.filter_map]
    show _ = List.map _ _
    congr 1
    refine List.filter_congr fun x _ => ?_
    exact toI_contains _ x
  rw [e1]
  congr 1
  unfold els
  rw [List.filter_filter]
  refine List.filter_congr fun x hx => ?_
  simp only [List.mem_filter]
  have := hx
  rw [Bool.and_comm]
  congr 1
  simp [List.mem_range.1 hx]
theorem atM_nat {n : Nat} {R : Nat → Nat → Bool} {a b : Nat} (ha : a < n) (hb : b < n) : atM n R a b = R a b := by
  unfold atM
  simp [ha, hb]
theorem join_plain (n : Nat) (R : Nat → Nat → Bool) (a b : Nat) : bestL (atM n R) ((toI (els n (R a))).filter fun x => (toI (els n (R b))).contains x) = joinD n R a b := by
  rw [both_els, bestL_els n _ _ R (fun c d hc hd => atM_nat hc hd)]
  rfl
theorem meet_plain (n : Nat) (R : Nat → Nat → Bool) (a b : Nat) : bestL (fun x y => atM n R y x) ((toI (els n (flp R a))).filter fun x => (toI (els n (flp R b))).contains x) = meetD n R a b := by
  rw [both_els, bestL_els n _ (fun x y => atM n R y x) (fun c d => R d c) (fun c d hc hd => atM_nat hd hc)]
  rfl
theorem size_lat : Tryz.prog.cellsOf 72 = 207 := by kernel_rfl
end Go.Proofs.YtfhmmekamommcaaGreatDoor
