/- fuse: works: the chapter's fuse. -/
import Derived.Test.YtbihefbjojlncaaFsLaw0
import Derived.Deep.CutBlock
import Derived.Deep.DeepCutAuto
namespace Go.Proofs.Ytbihefbjojlncaa
set_option linter.unusedVariables false
set_option linter.unusedSimpArgs false
open Go Go.RowKit
/-- a box of the call's own, and a spot in a variable -/
structure WS (w W : World) (B : Nat) (d l : Int) (p : Nat) (X : FX) (S : FS) (n : Nat) : Prop where
  box : BoxAt W X S n
  hp : X.b = p
  c0 : W.cell? ⟨B, 0, none⟩ = some (.int .i64 d)
  c1 : W.cell? ⟨B, 1, none⟩ = some (.int .i64 l)
  ap : ¬ X.Own B
  lt : B < W.heap.size
  chg : Chg (fun _ => False) w W
  up : ∀ i, X.Own i → w.heap.size ≤ i
theorem WS.went {w W W' : World} {B : Nat} {d l : Int} {p : Nat} {X X' : FX} {S S' : FS} {n n' : Nat} (h : WS w W B d l p X S n) (hw : Went W W' X X') (hb : BoxAt W' X' S' n') : WS w W' B d l p X' S' n' :=
  ⟨hb, hw.b.trans h.hp, hw.chg.cell h.c0 h.ap, hw.chg.cell h.c1 h.ap, fun x => (hw.new _ x).elim h.ap (fun y => by have := h.lt; omega), Nat.lt_of_lt_of_le h.lt hw.chg.size,
    h.chg.trans' hw.chg (fun i hi hs => absurd hi (by have := h.up i hs; omega)), hw.above h.chg.size h.up⟩
theorem WS.same {w W W' : World} {B : Nat} {d l : Int} {p : Nat} {X : FX} {S : FS} {n : Nat} (h : WS w W B d l p X S n) (hc : Chg (fun _ => False) W W') : WS w W' B d l p X S n :=
  ⟨h.box.chg hc (fun _ _ x => x), h.hp, hc.cell h.c0 (fun x => x), hc.cell h.c1 (fun x => x), h.ap, Nat.lt_of_lt_of_le h.lt hc.size, h.chg.trans hc, h.up⟩
/-- a new spot's variable, behind a box -/
theorem WS.make {w W : World} {X : FX} {S : FS} {n : Nat} (d l : Int) (hb : BoxAt W X S n) (hc : Chg (fun _ => False) w W) (hu : ∀ i, X.Own i → w.heap.size ≤ i) : WS w (W.alloc (.cells #[.int .i64 d, .int .i64 l] 32)) W.heap.size d l X.b X S n :=
  ⟨hb.alloc _, rfl, cell_of_heap (heap_new W _) 0, cell_of_heap (heap_new W _) 1, fun x => by have := hb.lt x; omega, by simp, hc.alloc _, hu⟩
theorem updN_twice (N : Int → Int → Int) (d l x y : Int) : updN (updN N d l x) d l y = updN N d l y := by
  funext a b
  unfold updN
  split <;> rfl
/-- the chapter's box: one fuse with a number -/
def Bx (now x : Int) : FS := ⟨2, 5, now, updN (fun _ _ => 0) 1 0 x⟩
theorem Bx_new : FS.new 2 5 = Bx 0 0 := by
  unfold FS.new Bx
  congr 1
  funext a b
  unfold updN
  split <;> rfl
theorem Bx_N (now x : Int) : (Bx now x).N 1 0 = x := updN_same (fun _ _ => 0) 1 0 x
theorem askB {now x t now' x' r : Int} (h : mayAt 1 0 t = true) (hn : max now t = now') (hr : (if x % 4 = 0 then ((x, 0) : Int × Int) else if now' < x / 4 then (x, 170) else ((now' + 5) * 4 + 2, 0)) = (x', r)) :
    (Bx now x).ask 1 0 t = (Bx now' x', r) := by
  have e1 : (Bx now x).tick t = Bx now' x := by subst hn; rfl
  unfold FS.ask
  rw [h, if_pos rfl, e1]
  unfold FS.ask1
  rw [Bx_N]
  by_cases c1 : x % 4 = 0
  · rw [if_pos c1] at hr ⊢
    cases hr; rfl
  · rw [if_neg c1] at hr ⊢
    by_cases c2 : now' < x / 4
    · rw [if_pos c2] at hr
      have c3 : (Bx now' x).now < x / 4 := c2
      rw [if_pos c3]
      cases hr; rfl
    · rw [if_neg c2] at hr
      have c3 : ¬ (Bx now' x).now < x / 4 := c2
      rw [if_neg c3]
      cases hr
      unfold FS.set Bx
      rw [updN_twice]
theorem didB {now x t now' x' : Int} {well : Bool} (h : mayAt 1 0 t = true) (hn : max now t = now') (hr : (if x % 4 = 1 then x else if well then 0 else if x % 4 = 0 ∧ x / 4 + 1 < 2 then (x / 4 + 1) * 4 else (now' + 5) * 4 + 1) = x') :
    (Bx now x).did 1 0 well t = (Bx now' x', 0) := by
  have e1 : (Bx now x).tick t = Bx now' x := by subst hn; rfl
  unfold FS.did
  rw [h, if_pos rfl, e1]
  unfold FS.did1
  rw [Bx_N]
  by_cases c1 : x % 4 = 1
  · rw [if_pos c1] at hr ⊢
    subst hr; rfl
  · rw [if_neg c1] at hr ⊢
    cases well
    · rw [if_neg (by decide)] at hr ⊢
      by_cases c2 : x % 4 = 0 ∧ x / 4 + 1 < 2
      · rw [if_pos c2] at hr
        have c3 : x % 4 = 0 ∧ x / 4 + 1 < (Bx now' x).most := c2
        rw [if_pos c3]
        subst hr
        unfold FS.set Bx
        rw [updN_twice]
      · rw [if_neg c2] at hr
        have c3 : ¬ (x % 4 = 0 ∧ x / 4 + 1 < (Bx now' x).most) := c2
        rw [if_neg c3]
        subst hr
        unfold FS.set Bx
        rw [updN_twice]
    · rw [if_pos rfl] at hr ⊢
      subst hr
      unfold FS.set Bx
      rw [updN_twice]
theorem ask11 (now x t now' : Int) (h : mayAt 1 1 t = true) (hn : max now t = now') : (Bx now x).ask 1 1 t = (Bx now' x, 0) := by
  have e1 : (Bx now x).tick t = Bx now' x := by subst hn; rfl
  unfold FS.ask
  rw [h, if_pos rfl, e1]
  unfold FS.ask1
  have : (Bx now' x).N 1 1 = 0 := updN_other (fun _ _ => 0) (d := 1) (l := 0) (x := x) (a := 1) (b := 1) (by decide)
  rw [this]
  rfl
theorem Bx_state (now x a b c : Int) (h : (if x % 4 = 0 then ((0, x / 4, 0) : Int × Int × Int) else (x % 4, 0, x / 4)) = (a, b, c)) : (Bx now x).state 1 0 = (a, b, c) := by
  unfold FS.state
  rw [Bx_N]
  exact h
theorem a1 : (Bx 0 0).ask 1 0 0 = (Bx 0 0, 0) := askB (by decide) (by decide) (by decide)
theorem a2 : (Bx 0 0).did 1 0 false 1 = (Bx 1 4, 0) := didB (by decide) (by decide) (by decide)
theorem t2 : (Bx 1 4).state 1 0 = (0, 1, 0) := Bx_state _ _ _ _ _ (by decide)
theorem a3 : (Bx 1 4).did 1 0 false 2 = (Bx 2 29, 0) := didB (by decide) (by decide) (by decide)
theorem t3 : (Bx 2 29).state 1 0 = (1, 0, 7) := Bx_state _ _ _ _ _ (by decide)
theorem a4 : (Bx 2 29).ask 1 0 6 = (Bx 6 29, 170) := askB (by decide) (by decide) (by decide)
theorem a5 : (Bx 6 29).ask 1 0 7 = (Bx 7 50, 0) := askB (by decide) (by decide) (by decide)
theorem a6 : (Bx 7 50).ask 1 0 8 = (Bx 8 50, 170) := askB (by decide) (by decide) (by decide)
theorem t6 : (Bx 8 50).state 1 0 = (2, 0, 12) := Bx_state _ _ _ _ _ (by decide)
theorem a7 : (Bx 8 50).did 1 0 true 9 = (Bx 9 0, 0) := didB (by decide) (by decide) (by decide)
theorem t7 : (Bx 9 0).state 1 0 = (0, 0, 0) := Bx_state _ _ _ _ _ (by decide)
theorem a8 : (Bx 9 0).ask 1 1 3 = (Bx 9 0, 0) := ask11 _ _ _ _ (by decide) (by decide)
theorem A8_now : (Bx 9 0).now = 9 := rfl
theorem A8_still : (Bx 9 0).still := by
  intro a b
  show updN (fun _ _ => 0) 1 0 0 a b = 0
  unfold updN
  split <;> rfl
set_option maxRecDepth 100000 in
set_option maxHeartbeats 8000000 in
theorem works_some (w : World) : Calls Try.prog 17 #[] w fun e w' => e = .returned (.bool true) ∧ Chg (fun _ => False) w w' := by
  have hq1 : ∀ W : World, Sem.run Try.prog (Instr.build 32 #[(0, Value.int .i64 1)]) W = .ok (.agg #[.int .i64 1, .int .i64 0]) W := fun W => run_build W _ _ _ (by kernel_rfl)
  have hq2 : ∀ W : World, Sem.run Try.prog (Instr.build 32 #[(0, Value.int .i64 1), (1, Value.int .i64 1)]) W = .ok (.agg #[.int .i64 1, .int .i64 1]) W := fun W => run_build W _ _ _ (by kernel_rfl)
  have i0 : I64 0 := by unfold I64; omega
  have i1 : I64 1 := by unfold I64; omega
  go_enter Try.func17, Try.ntmps17
  go_upto_region 3 with (first | (go_at_call 9; refine (new_some w 2 5 (by omega) (by omega)).mono ?_; rintro e w0 ⟨X0, rfl, hB0, hC0, hU0⟩))
  have hs0 : WS w (w0.alloc (.cells #[.int .i64 1, .int .i64 0] 32)) w0.heap.size 1 0 X0.b X0 (Bx 0 0) 0 := WS.make 1 0 (by rw [← Bx_new]; exact hB0) hC0 hU0
  generalize w0.alloc (.cells #[.int .i64 1, .int .i64 0] 32) = W0 at *
  have hb0 := hs0.box
  have c00 := hs0.c0
  have c01 := hs0.c1
  clear hB0 hC0 hU0
  have tk1 : True := trivial
  go_wp2_with (first
    | (go_at_call 14; have _t := tk1; clear _t tk1; refine (askE hb0 hs0.hp (by omega) a1).mono ?_; rintro e w1 ⟨X1, rfl, hB1, hW1⟩; have hs1 := hs0.went hW1 hB1; have hb1 := hs1.box; have c10 := hs1.c0; have c11 := hs1.c1; clear c00 c01; have tk2 : True := trivial)
    | (go_at_call 12; have _t := tk2; clear _t tk2; refine (didE hb1 hs1.hp (by omega) a2).mono ?_; rintro e w2 ⟨X2, rfl, hB2, hW2⟩; have hs2 := hs1.went hW2 hB2; have hb2 := hs2.box; have c20 := hs2.c0; have c21 := hs2.c1; clear c10 c11; have tk3 : True := trivial)
    | (go_at_call 21; have _t := tk3; clear _t tk3; refine (stands_yes hb2 hs2.hp i1 i0 t2).mono ?_; rintro e w3 ⟨rfl, hC3⟩; have hs3 := hs2.same hC3; have hb3 := hs3.box; have c30 := hs3.c0; have c31 := hs3.c1; clear c20 c21; have tk4 : True := trivial)
    | (go_at_call 12; have _t := tk4; clear _t tk4; refine (didE hb3 hs3.hp (by omega) a3).mono ?_; rintro e w4 ⟨X4, rfl, hB4, hW4⟩; have hs4 := hs3.went hW4 hB4; have hb4 := hs4.box; have c40 := hs4.c0; have c41 := hs4.c1; clear c30 c31; have tk5 : True := trivial)
    | (go_at_call 21; have _t := tk5; clear _t tk5; refine (stands_yes hb4 hs4.hp i1 i0 t3).mono ?_; rintro e w5 ⟨rfl, hC5⟩; have hs5 := hs4.same hC5; have hb5 := hs5.box; have c50 := hs5.c0; have c51 := hs5.c1; clear c40 c41; have tk6 : True := trivial)
    | (go_at_call 14; have _t := tk6; clear _t tk6; refine (askE hb5 hs5.hp (by omega) a4).mono ?_; rintro e w6 ⟨X6, rfl, hB6, hW6⟩; have hs6 := hs5.went hW6 hB6; have hb6 := hs6.box; have c60 := hs6.c0; have c61 := hs6.c1; clear c50 c51; have tk7 : True := trivial)
    | (go_at_call 14; have _t := tk7; clear _t tk7; refine (askE hb6 hs6.hp (by omega) a5).mono ?_; rintro e w7 ⟨X7, rfl, hB7, hW7⟩; have hs7 := hs6.went hW7 hB7; have hb7 := hs7.box; have c70 := hs7.c0; have c71 := hs7.c1; clear c60 c61; have tk8 : True := trivial)
    | (go_at_call 14; have _t := tk8; clear _t tk8; refine (askE hb7 hs7.hp (by omega) a6).mono ?_; rintro e w8 ⟨X8, rfl, hB8, hW8⟩; have hs8 := hs7.went hW8 hB8; have hb8 := hs8.box; have c80 := hs8.c0; have c81 := hs8.c1; clear c70 c71; have tk9 : True := trivial)
    | (go_at_call 21; have _t := tk9; clear _t tk9; refine (stands_yes hb8 hs8.hp i1 i0 t6).mono ?_; rintro e w9 ⟨rfl, hC9⟩; have hs9 := hs8.same hC9; have hb9 := hs9.box; have c90 := hs9.c0; have c91 := hs9.c1; clear c80 c81; have tk10 : True := trivial)
    | (go_at_call 12; have _t := tk10; clear _t tk10; refine (didE hb9 hs9.hp (by omega) a7).mono ?_; rintro e w10 ⟨X10, rfl, hB10, hW10⟩; have hs10 := hs9.went hW10 hB10; have hb10 := hs10.box; have c100 := hs10.c0; have c101 := hs10.c1; clear c90 c91; have tk11 : True := trivial)
    | (go_at_call 21; have _t := tk11; clear _t tk11; refine (stands_yes hb10 hs10.hp i1 i0 t7).mono ?_; rintro e w11 ⟨rfl, hC11⟩; have hs11 := hs10.same hC11; have hb11 := hs11.box; have c110 := hs11.c0; have c111 := hs11.c1; clear c100 c101; have tk12 : True := trivial)
    | (go_at_call 14; have _t := tk12; clear _t tk12; refine (askE hb11 hs11.hp (by omega) a8).mono ?_; rintro e w12 ⟨X12, rfl, hB12, hW12⟩; have hs12 := hs11.went hW12 hB12; have hb12 := hs12.box; have c120 := hs12.c0; have c121 := hs12.c1; clear c110 c111; have tk13 : True := trivial)
    | (go_at_call 23; refine (tickE hb12 hs12.hp A8_now).mono ?_; rintro e w13 ⟨rfl, rfl⟩)
    | (go_at_call 22; refine (spotsE hb12 hs12.hp A8_still).mono ?_; rintro e w14 ⟨rfl, hC⟩; have hs14 := hs12.same hC))
  go_ret
  exact ⟨rfl, hs14.chg⟩
end Go.Proofs.Ytbihefbjojlncaa
