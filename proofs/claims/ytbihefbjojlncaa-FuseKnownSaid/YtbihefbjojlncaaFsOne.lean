/- fuse: a box of which one spot alone has a number. -/
import Derived.Test.YtbihefbjojlncaaFsWorks
namespace Go.Proofs.Ytbihefbjojlncaa
set_option linter.unusedVariables false
set_option linter.unusedSimpArgs false
open Go Go.RowKit
def One (most rest d l now x : Int) : FS := ⟨most, rest, now, updN (fun _ _ => 0) d l x⟩
section
variable {most rest d l now x t now' x' r : Int}
theorem One_N : (One most rest d l now x).N d l = x := updN_same (fun _ _ => 0) d l x
theorem One_new (most rest d l : Int) : FS.new most rest = One most rest d l 0 0 := by
  unfold FS.new One
  congr 1
  funext a b
  unfold updN
  split <;> rfl
theorem One_tick (hn : max now t = now') : (One most rest d l now x).tick t = One most rest d l now' x := by subst hn; rfl
theorem One_set (y : Int) : (One most rest d l now x).set d l y = One most rest d l now y := by
  unfold FS.set One
  rw [updN_twice]
theorem askO (h : mayAt d l t = true) (hn : max now t = now') (hr : (if x % 4 = 0 then ((x, 0) : Int × Int) else if now' < x / 4 then (x, 170) else ((now' + rest) * 4 + 2, 0)) = (x', r)) :
    (One most rest d l now x).ask d l t = (One most rest d l now' x', r) := by
  unfold FS.ask
  rw [h, if_pos rfl, One_tick hn]
  unfold FS.ask1
  rw [One_N]
  by_cases c1 : x % 4 = 0
  · rw [if_pos c1] at hr ⊢
    cases hr; rfl
  · rw [if_neg c1] at hr ⊢
    by_cases c2 : now' < x / 4
    · rw [if_pos c2] at hr
      rw [if_pos (show (One most rest d l now' x).now < x / 4 from c2)]
      cases hr; rfl
    · rw [if_neg c2] at hr
      rw [if_neg (show ¬ (One most rest d l now' x).now < x / 4 from c2)]
      cases hr
      rw [One_set]
      rfl
theorem didO {well : Bool} (h : mayAt d l t = true) (hn : max now t = now') (hr : (if x % 4 = 1 then x else if well then 0 else if x % 4 = 0 ∧ x / 4 + 1 < most then (x / 4 + 1) * 4 else (now' + rest) * 4 + 1) = x') :
    (One most rest d l now x).did d l well t = (One most rest d l now' x', 0) := by
  unfold FS.did
  rw [h, if_pos rfl, One_tick hn]
  unfold FS.did1
  rw [One_N]
  by_cases c1 : x % 4 = 1
  · rw [if_pos c1] at hr ⊢
    subst hr; rfl
  · rw [if_neg c1] at hr ⊢
    cases well
    · rw [if_neg (by decide)] at hr ⊢
      by_cases c2 : x % 4 = 0 ∧ x / 4 + 1 < most
      · rw [if_pos c2] at hr
        rw [if_pos (show x % 4 = 0 ∧ x / 4 + 1 < (One most rest d l now' x).most from c2), One_set, hr]
      · rw [if_neg c2] at hr
        rw [if_neg (show ¬ (x % 4 = 0 ∧ x / 4 + 1 < (One most rest d l now' x).most) from c2), One_set, ← hr]
        rfl
    · rw [if_pos rfl] at hr ⊢
      rw [One_set, hr]
theorem stateO {a b c : Int} (h : (if x % 4 = 0 then ((0, x / 4, 0) : Int × Int × Int) else (x % 4, 0, x / 4)) = (a, b, c)) : (One most rest d l now x).state d l = (a, b, c) := by
  unfold FS.state
  rw [One_N]
  exact h
theorem One_still : (One most rest d l now 0).still := by
  intro a b
  show updN (fun _ _ => 0) d l 0 a b = 0
  unfold updN
  split <;> rfl
end
theorem spot_agg (w : World) (i d l : Int) (hi : I64 i) (hd : spD i = d) (hl : spL i = l) :
    Calls Try.prog 18 #[.int .i64 i] w fun e w' => e = .returned (.agg #[.int .i64 d, .int .i64 l]) ∧ Chg (fun _ => False) w w' := by
  subst hd hl
  exact spot_some w i hi
theorem bringE (w : World) (i n r : Int) (hi : I64 i) (hn : 1 ≤ n) (hn2 : n ≤ 1000000) (hr : i % n = r) :
    Calls Try.prog 11 #[.int .i64 i, .int .i64 n] w fun e w' => e = .returned (.int .i64 r) ∧ w' = w := by
  subst hr
  exact bring_some w i n hn (by omega) hi.1 hi.2
theorem i64_small {n : Int} (h0 : 0 ≤ n) (h1 : n ≤ 10000) : I64 n := by unfold I64; omega
theorem may_small {d l t : Int} (hd : 0 ≤ d ∧ d ≤ 2) (hl : 0 ≤ l ∧ l ≤ 2) (ht : 0 ≤ t) (ht2 : t ≤ 4503599627370496) : mayAt d l t = true := mayAt_iff.2 ⟨ht, ht2, hd.1, by omega, hl.1, by omega⟩
end Go.Proofs.Ytbihefbjojlncaa
