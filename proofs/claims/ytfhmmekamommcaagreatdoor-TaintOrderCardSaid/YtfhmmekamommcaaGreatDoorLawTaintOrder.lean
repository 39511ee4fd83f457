/- TaintOrder at every input: it returns true. -/
import Derived.Test.YtfhmmekamommcaaGreatDoorIdMade
import Derived.Test.YtfhmmekamommcaaGreatDoorTabWorks2
import Derived.Deep.CutBlock
import Derived.Deep.DeepCutAuto
namespace Go.Proofs.YtfhmmekamommcaaGreatDoor
set_option linter.unusedVariables false
set_option linter.unusedSimpArgs false
open Go Go.RowKit Go.Proofs Go.Shelf
/-! ### plain -/
theorem idLess_not {a b : List UInt8} (ha : idOk a = true) (hb : idOk b = true) (h : a ≠ b) : idLess b a = !idLess a b := by
  unfold idLess
  rw [ha, hb]
  have h0 : cmpL (idNs a) (idNs b) ≠ 0 := fun e => h (idNs_inj (idOk_all ha).1 (idOk_all hb).1 (cmpL_zero e))
  have h1 := cmpL_swap (idNs a) (idNs b)
  simp only [Bool.true_and]
  rcases cmpL_cases (idNs a) (idNs b) with e | e | e
  · rw [h1, e]; decide
  · exact absurd e h0
  · rw [h1, e]; decide
theorem cmpL_ext (A C : List Nat) (h : C ≠ []) : cmpL A (A ++ C) < 0 := by
  induction A with
  | nil =>
    cases C with
    | nil => exact absurd rfl h
    | cons _ _ => simp [cmpL]
  | cons x A ih =>
    rw [List.cons_append]
    unfold cmpL
    rw [if_neg (by omega), if_neg (by omega)]
    exact ih
theorem cmpL_between {A B D : List Nat} (n : Nat) (h1 : cmpL A B < 0) (h2 : cmpL B (A ++ D) < 0) : ∃ C, C ≠ [] ∧ B = A ++ C := by
  induction A generalizing B with
  | nil =>
    cases B with
    | nil => simp [cmpL] at h1
    | cons y B => exact ⟨y :: B, by simp, rfl⟩
  | cons x A ih =>
    cases B with
    | nil => simp [cmpL] at h1
    | cons y B =>
      rw [List.cons_append] at h2
      unfold cmpL at h1 h2
      by_cases e1 : x < y
      · rw [if_neg (by omega), if_pos e1] at h2; omega
      · rw [if_neg e1] at h1
        by_cases e2 : y < x
        · rw [if_pos e2] at h1; omega
        · rw [if_neg e2] at h1
          rw [if_neg e2, if_neg e1] at h2
          obtain rfl : x = y := by omega
          obtain ⟨C, c0, c1⟩ := ih h1 h2
          exact ⟨C, c0, by rw [c1]; rfl⟩
theorem parts_ahead : ∀ (a b : List UInt8) (Q : List (List UInt8)), Q ≠ [] → parts b = parts a ++ Q → ∃ t, b = a ++ 46 :: t := by
  have h : ∀ n (a b : List UInt8) (Q : List (List UInt8)), a.length = n → Q ≠ [] → parts b = parts a ++ Q → ∃ t, b = a ++ 46 :: t := by
    intro n
    induction n using Nat.strongRecOn with
    | _ n ih =>
      intro a b Q hn hQ he
      have hb : (46 : UInt8) ∈ b := by
        rw [← parts_two, he]
        have h1 := List.length_pos_iff.2 (pieces_ne 46 a)
        have h2 := List.length_pos_iff.2 hQ
        unfold parts
        simp
        omega
      obtain ⟨r, t, rfl, hr⟩ := cut_first 46 b hb
      unfold parts at he
      rw [pieces_hit 46 r t hr] at he
      by_cases ha : (46 : UInt8) ∈ a
      · obtain ⟨r', t', rfl, hr'⟩ := cut_first 46 a ha
        rw [pieces_hit 46 r' t' hr', List.cons_append] at he
        obtain ⟨rfl, e⟩ := List.cons.inj he
        obtain ⟨u, rfl⟩ := ih t'.length (by simp at hn; omega) t' t Q rfl hQ e
        exact ⟨u, by simp⟩
      · rw [pieces_none 46 a ha] at he
        obtain ⟨rfl, _⟩ := List.cons.inj he
        exact ⟨t, rfl⟩
  exact fun a b Q => h _ a b Q rfl
theorem parts_of_ns {a b : List UInt8} {C : List Nat} (ha : idAll a = true) (hb : idAll b = true) (hC : C ≠ []) (h : idNs b = idNs a ++ C) : ∃ Q, Q ≠ [] ∧ parts b = parts a ++ Q := by
  have key : ∀ (A B : List (List UInt8)), A.all okP = true → B.all okP = true → B.map valL = A.map valL ++ C → ∃ Q, Q ≠ [] ∧ B = A ++ Q := by
    intro A
    induction A with
    | nil =>
      intro B _ _ e
      refine ⟨B, ?_, rfl⟩
      rintro rfl
      simp at e
      exact hC e
    | cons x A ih =>
      intro B hA hB e
      cases B with
      | nil => simp at e
      | cons y B =>
        simp only [List.all_cons, Bool.and_eq_true, List.map_cons, List.cons_append, List.cons.injEq] at hA hB e
        obtain ⟨Q, q0, q1⟩ := ih B hA.2 hB.2 e.2
        exact ⟨Q, q0, by rw [q1, okP_inj hB.1 hA.1 e.1]; rfl⟩
  exact key _ _ ha hb h
/-- what lies between an id and a child of it begins with the id -/
theorem between_below {a b d : List UInt8} {n : Nat} (hd : idNs d = idNs a ++ [n]) (h1 : idLess a b = true) (h2 : idLess b d = true) : ∃ t, b = a ++ 46 :: t := by
  unfold idLess at h1 h2
  simp only [Bool.and_eq_true, decide_eq_true_eq] at h1 h2
  rw [hd] at h2
  obtain ⟨C, c0, c1⟩ := cmpL_between 0 h1.2 h2.2
  obtain ⟨Q, q0, q1⟩ := parts_of_ns (idOk_all h1.1.1).1 (idOk_all h1.1.2).1 c0 c1
  exact parts_ahead a b Q q0 q1
theorem par_less {a : List UInt8} (h : idOk a = true) (hm : (46 : UInt8) ∈ a) : ∃ p, idPar a = (p, true) ∧ p.length ≤ a.length ∧ idLess p a = true := by
  obtain ⟨s, p, rfl, hp⟩ := cut_last 46 a hm
  obtain ⟨k1, k2⟩ := idOk_par hp h
  unfold idPar
  rw [if_pos ⟨hm, h⟩, idCut_eq s p hp]
  refine ⟨s, rfl, by simp, ?_⟩
  unfold idLess
  rw [k1, h]
  simp only [Bool.true_and, decide_eq_true_eq]
  unfold idNs
  rw [parts_last s p hp, List.map_append]
  exact cmpL_ext _ _ (by simp)
theorem par_none {a : List UInt8} (hm : (46 : UInt8) ∉ a) : idPar a = ([], false) := by
  unfold idPar
  rw [if_neg fun h => hm h.1]
theorem kid_par {a : List UInt8} {n : Nat} (h1 : 1 ≤ n) (h2 : n ≤ 9007199254740991) (h : idOk a = true) (h8 : (parts a).length ≠ 8) :
    idPar (a ++ 46 :: Lib.decDigits n) = (a, true) ∧ idLess a (a ++ 46 :: Lib.decDigits n) = true := by
  obtain ⟨k1, k2⟩ := kid_ok h1 h2 h h8
  constructor
  · unfold idPar
    rw [if_pos ⟨by simp, k1⟩, idCut_eq _ _ (okP_nodot (dec_okP h1 h2))]
  · unfold idLess
    rw [h, k1, k2]
    simp only [Bool.true_and, decide_eq_true_eq]
    exact cmpL_ext _ _ (by simp)
/-! ### walked -/
theorem bs_beqL (a b : List UInt8) : ((bs a).toList == (bs b).toList) = decide (a = b) := by
  rw [ByteArray.toList_eq, ByteArray.toList_eq, Bool.eq_iff_iff, beq_iff_eq, decide_eq_true_eq]
  rfl
set_option maxRecDepth 100000 in
set_option maxHeartbeats 8000000 in
def LessAt (w : World) (A B : List UInt8) (t : Bool) : Prop := ∀ W, Chg (fun _ => False) w W → Calls Tryz.prog 34 #[.string (bs A), .string (bs B)] W fun e w' => e = .returned (.bool t) ∧ Chg (fun _ => False) w w'
theorem lessAt {w : World} (hW : WOk w) {A B : List UInt8} {t : Bool} (hA : A.length ≤ 1000) (hB : B.length ≤ 1000) (h : idLess A B = t) : LessAt w A B t := by
  intro W hC
  subst h
  exact (less_any A B (by omega) (by omega) W (hW.mono (Chg.below hC _ (Nat.le_refl _) (fun _ _ h => h)))).mono fun e w' ⟨h1, h2⟩ => ⟨h1, hC.trans h2⟩
def IdAt (w : World) (A : List UInt8) : Prop := ∀ W, Chg (fun _ => False) w W → Calls Tryz.prog 25 #[.string (bs A)] W fun e w' => e = .returned (.int .i64 0) ∧ Chg (fun _ => False) w w'
theorem idAt {w : World} (hW : WOk w) {A : List UInt8} (hA : A.length ≤ 1000) (h : idOk A = true) : IdAt w A := by
  intro W hC
  refine (id_any A (by omega) W (hW.mono (Chg.below hC _ (Nat.le_refl _) (fun _ _ h => h)))).mono ?_
  rintro e w' ⟨h1, h2⟩
  rw [if_pos h] at h1
  exact ⟨h1, hC.trans h2⟩
theorem below_cut (a t : List UInt8) : (((bs (a ++ 46 :: t)).extract 0 (a.length + 1)).toList == (bs a ++ ⟨#[46]⟩).toList) = true := by
  have h1 := bs_extract [] (a ++ [46]) t
  have h2 : (⟨#[46]⟩ : ByteArray) = bs [46] := rfl
  rw [h2, bs_append]
  simp only [List.nil_append, List.length_nil, Nat.zero_add, List.append_assoc, List.cons_append, List.length_append, List.length_cons] at h1
  rw [h1]
  exact beq_self_eq_true _
theorem par_any {a : List UInt8} {x : Nat} (oka : idOk a = true) (la : a.length ≤ 168) (pa : (parts a).length = min (x - 1) 7 + 1) :
    ∃ p has, idPar a = (p, has) ∧ (has = true → p.length ≤ 168 ∧ idLess p a = true ∧ 2 ≤ x) ∧ (has = false → x < 2) := by
  by_cases hm : (46 : UInt8) ∈ a
  · obtain ⟨p, h1, h2, h3⟩ := par_less oka hm
    have := (parts_two a).2 hm
    exact ⟨p, true, h1, fun _ => ⟨by omega, h3, by omega⟩, fun h => by cases h⟩
  · refine ⟨_, _, par_none hm, (fun h => by cases h), fun _ => ?_⟩
    have h : ¬ 2 ≤ (parts a).length := fun h => hm ((parts_two a).1 h)
    omega
theorem kid_any {a : List UInt8} {n : Nat} {x : Nat} (oka : idOk a = true) (la : a.length ≤ 168) (pa : (parts a).length = min (x - 1) 7 + 1) (h1 : 1 ≤ n) (h2 : n ≤ 9007199254740991) :
    (idKid a (n : Int) = [] ∧ idKidE a (n : Int) = 5 ∧ 8 ≤ x) ∨ (∃ d, idKid a (n : Int) = d ∧ idKidE a (n : Int) = 0 ∧ d.length ≤ 200 ∧ idPar d = (a, true) ∧ idLess a d = true ∧ idNs d = idNs a ++ [n]) := by
  by_cases h8 : (parts a).length = 8
  · have e : idKidE a (n : Int) = 5 := by unfold idKidE; rw [if_pos oka, if_pos (by omega), if_pos h8]
    refine .inl ⟨?_, e, by omega⟩
    unfold idKid
    rw [e]
    rfl
  · have e : idKidE a (n : Int) = 0 := by unfold idKidE; rw [if_pos oka, if_pos (by omega), if_neg h8]
    have ek : idKid a (n : Int) = a ++ 46 :: Lib.decDigits n := by unfold idKid; rw [if_pos e]; simp
    obtain ⟨k1, k2⟩ := kid_par h1 h2 oka h8
    have := dec_small h2
    exact .inr ⟨_, ek, e, by simp; omega, k1, k2, (kid_ok h1 h2 oka h8).2⟩
def WorkAt (w : World) : Prop := ∀ W, Chg (fun _ => False) w W → Calls Tryz.prog 24 #[] W fun e w' => e = .returned (.bool true) ∧ Chg (fun _ => False) w w'
theorem workAt {w : World} (hT : TabOk w) (hW : WOk w) : WorkAt w := by
  intro W hC
  exact (tworks_some W (hT.chg hC (fun x => x)) (hW.mono (Chg.below hC _ (Nat.le_refl _) (fun _ _ h => h)))).mono fun e w' ⟨h1, h2⟩ => ⟨h1, hC.trans h2⟩
def ParAt (w : World) (A p : List UInt8) (has : Bool) : Prop := ∀ W, Chg (fun _ => False) w W → Calls Tryz.prog 29 #[.string (bs A)] W fun e w' => e = .returned (.tuple #[.string (bs p), .bool has]) ∧ Chg (fun _ => False) w w'
theorem parAt {w : World} (hW : WOk w) {A p : List UInt8} {has : Bool} (hA : A.length ≤ 1000) (h : idPar A = (p, has)) : ParAt w A p has := by
  intro W hC
  refine (parent_any A (by omega) W (hW.mono (Chg.below hC _ (Nat.le_refl _) (fun _ _ h => h)))).mono ?_
  rintro e w' ⟨h1, h2⟩
  rw [h] at h1
  exact ⟨h1, hC.trans h2⟩
def KidAt (w : World) (A : List UInt8) (n : Int) (d : List UInt8) (E : Int) : Prop := ∀ W, Chg (fun _ => False) w W → Calls Tryz.prog 31 #[.string (bs A), .int .i64 n] W fun e w' => e = .returned (.tuple #[.string (bs d), .int .i64 E]) ∧ Chg (fun _ => False) w w'
theorem kidAt {w : World} (hW : WOk w) {A d : List UInt8} {n E : Int} (hA : A.length ≤ 1000) (h : idKid A n = d) (h' : idKidE A n = E) : KidAt w A n d E := by
  intro W hC
  refine (child_any A n (by omega) W (hW.mono (Chg.below hC _ (Nat.le_refl _) (fun _ _ h => h)))).mono ?_
  rintro e w' ⟨h1, h2⟩
  rw [h, h'] at h1
  exact ⟨h1, hC.trans h2⟩
set_option maxRecDepth 100000 in
set_option maxHeartbeats 4000000 in
theorem taintOrder_some (x y z : List Int) (v1 v2 v3 : Value) (w : World) (hx : InInts w v1 x) (hy : InInts w v2 y) (hz : InInts w v3 z) (bx : InR x) (by' : InR y) (bz : InR z) (hT : TabOk w) (hW : WOk w) :
    Calls Tryz.prog 6 #[v1, v2, v3] w fun e w' => e = .returned (.bool true) ∧ Chg (fun _ => False) w w' := by
  have ma := made_walk x bx v1 w hx
  have mb := made_walk y by' v2 w hy
  have mc := made_walk z bz v3 w hz
  obtain ⟨ax, cx, rfl, _⟩ := hx
  obtain ⟨ay, cy, rfl, _⟩ := hy
  obtain ⟨az, cz, rfl, _⟩ := hz
  have lx := bx.1
  have ly := by'.1
  clear bx by' bz
  obtain ⟨oka, pa, la⟩ := mdL_ok x
  obtain ⟨okb, pb, lb⟩ := mdL_ok y
  obtain ⟨okc, pc, lc⟩ := mdL_ok z
  have pa : (parts (mdL x)).length = min (x.length - 1) 7 + 1 := pa
  clear pb pc
  generalize mdL x = a at *
  generalize mdL y = b at *
  generalize mdL z = c at *
  have za : (bs a).size = a.length := bs_size _
  have zb : (bs b).size = b.length := bs_size _
  have la : a.length ≤ 168 := la
  have hC0 := Chg.refl (fun _ => False) w
  have Ia := Lib.hid (idAt hW (A := a) (by omega) oka)
  have Ib := Lib.hid (idAt hW (A := b) (by omega) okb)
  have Laa := Lib.hid (lessAt hW (A := a) (B := a) (by omega) (by omega) (idLess_irr a))
  go_enter Tryz.func6, Tryz.ntmps6
  have t1 : True := trivial
  have t2 : True := trivial
  go_upto_region 2 with (first
    | (go_at_call 36; have _t := t1; clear _t t1; refine ma.mono ?_; rintro e w ⟨rfl, rfl⟩)
    | (go_at_call 36; have _t := t2; clear _t t2; refine mb.mono ?_; rintro e w ⟨rfl, rfl⟩)
    | (go_at_call 36; refine mc.mono ?_; rintro e w ⟨rfl, rfl⟩))
  clear ma mb mc
  go_cut [66] from 24 to 65 (fun s W => s = .bool false ∧ Chg (fun _ => False) w W)
  case first =>
    by_cases e : a = b
    · subst e
      have k0 : True := trivial
      have k1 : True := trivial
      have k2 : True := trivial
      have k3 : True := trivial
      go_wp2_with (first
        | (go_at_call 25; have _t := k0; clear _t k0; refine (Ia.out _ hC0).mono ?_; rintro e w2 ⟨rfl, hC1⟩; clear hC0; have hC0 := hC1; clear hC1)
        | (go_at_call 25; have _t := k1; clear _t k1; refine (Ib.out _ hC0).mono ?_; rintro e w2 ⟨rfl, hC1⟩; clear hC0; have hC0 := hC1; clear hC1)
        | (go_at_call 34; have _t := k2; clear _t k2; refine (Laa.out _ hC0).mono ?_; rintro e w2 ⟨rfl, hC1⟩; clear hC0; have hC0 := hC1; clear hC1)
        | (go_at_call 34; have _t := k3; clear _t k3; refine (Laa.out _ hC0).mono ?_; rintro e w2 ⟨rfl, hC1⟩; clear hC0; have hC0 := hC1; clear hC1))
      go_meet
      exact ⟨rfl, hC0⟩
    · have he : ((bs a).toList == (bs b).toList) = false := by rw [bs_beqL]; simp [e]
      have hn := idLess_not oka okb e
      clear e
      cases hab : idLess a b with
      | true =>
        rw [hab] at hn
        have Lab := Lib.hid (lessAt hW (A := a) (B := b) (by omega) (by omega) hab)
        have Lba := Lib.hid (lessAt hW (A := b) (B := a) (by omega) (by omega) hn)
        cases hbc : idLess b c with
        | true =>
          have Lbc := Lib.hid (lessAt hW (A := b) (B := c) (by omega) (by omega) hbc)
          have Lac := Lib.hid (lessAt hW (A := a) (B := c) (by omega) (by omega) (idLess_trans hab hbc))
          clear hab hn hbc
          have k0 : True := trivial
          have k1 : True := trivial
          have k2 : True := trivial
          have k3 : True := trivial
          have k4 : True := trivial
          have k5 : True := trivial
          have k6 : True := trivial
          have k7 : True := trivial
          go_wp2_with (first
            | (go_at_call 25; have _t := k0; clear _t k0; refine (Ia.out _ hC0).mono ?_; rintro e w2 ⟨rfl, hC1⟩; clear hC0; have hC0 := hC1; clear hC1)
            | (go_at_call 25; have _t := k1; clear _t k1; refine (Ib.out _ hC0).mono ?_; rintro e w2 ⟨rfl, hC1⟩; clear hC0; have hC0 := hC1; clear hC1)
            | (go_at_call 34; have _t := k2; clear _t k2; refine (Laa.out _ hC0).mono ?_; rintro e w2 ⟨rfl, hC1⟩; clear hC0; have hC0 := hC1; clear hC1)
            | (go_at_call 34; have _t := k3; clear _t k3; refine (Lab.out _ hC0).mono ?_; rintro e w2 ⟨rfl, hC1⟩; clear hC0; have hC0 := hC1; clear hC1)
            | (go_at_call 34; have _t := k4; clear _t k4; refine (Lba.out _ hC0).mono ?_; rintro e w2 ⟨rfl, hC1⟩; clear hC0; have hC0 := hC1; clear hC1)
            | (go_at_call 34; have _t := k5; clear _t k5; refine (Lab.out _ hC0).mono ?_; rintro e w2 ⟨rfl, hC1⟩; clear hC0; have hC0 := hC1; clear hC1)
            | (go_at_call 34; have _t := k6; clear _t k6; refine (Lbc.out _ hC0).mono ?_; rintro e w2 ⟨rfl, hC1⟩; clear hC0; have hC0 := hC1; clear hC1)
            | (go_at_call 34; have _t := k7; clear _t k7; refine (Lac.out _ hC0).mono ?_; rintro e w2 ⟨rfl, hC1⟩; clear hC0; have hC0 := hC1; clear hC1))
          go_meet
          exact ⟨rfl, hC0⟩
        | false =>
          have Lbc := Lib.hid (lessAt hW (A := b) (B := c) (by omega) (by omega) hbc)
          clear hab hn hbc
          have k0 : True := trivial
          have k1 : True := trivial
          have k2 : True := trivial
          have k3 : True := trivial
          have k4 : True := trivial
          have k5 : True := trivial
          have k6 : True := trivial
          go_wp2_with (first
            | (go_at_call 25; have _t := k0; clear _t k0; refine (Ia.out _ hC0).mono ?_; rintro e w2 ⟨rfl, hC1⟩; clear hC0; have hC0 := hC1; clear hC1)
            | (go_at_call 25; have _t := k1; clear _t k1; refine (Ib.out _ hC0).mono ?_; rintro e w2 ⟨rfl, hC1⟩; clear hC0; have hC0 := hC1; clear hC1)
            | (go_at_call 34; have _t := k2; clear _t k2; refine (Laa.out _ hC0).mono ?_; rintro e w2 ⟨rfl, hC1⟩; clear hC0; have hC0 := hC1; clear hC1)
            | (go_at_call 34; have _t := k3; clear _t k3; refine (Lab.out _ hC0).mono ?_; rintro e w2 ⟨rfl, hC1⟩; clear hC0; have hC0 := hC1; clear hC1)
            | (go_at_call 34; have _t := k4; clear _t k4; refine (Lba.out _ hC0).mono ?_; rintro e w2 ⟨rfl, hC1⟩; clear hC0; have hC0 := hC1; clear hC1)
            | (go_at_call 34; have _t := k5; clear _t k5; refine (Lab.out _ hC0).mono ?_; rintro e w2 ⟨rfl, hC1⟩; clear hC0; have hC0 := hC1; clear hC1)
            | (go_at_call 34; have _t := k6; clear _t k6; refine (Lbc.out _ hC0).mono ?_; rintro e w2 ⟨rfl, hC1⟩; clear hC0; have hC0 := hC1; clear hC1))
          go_meet
          exact ⟨rfl, hC0⟩
      | false =>
        rw [hab] at hn
        have Lab := Lib.hid (lessAt hW (A := a) (B := b) (by omega) (by omega) hab)
        have Lba := Lib.hid (lessAt hW (A := b) (B := a) (by omega) (by omega) hn)
        clear hab hn
        have k0 : True := trivial
        have k1 : True := trivial
        have k2 : True := trivial
        have k3 : True := trivial
        have k4 : True := trivial
        have k5 : True := trivial
        go_wp2_with (first
          | (go_at_call 25; have _t := k0; clear _t k0; refine (Ia.out _ hC0).mono ?_; rintro e w2 ⟨rfl, hC1⟩; clear hC0; have hC0 := hC1; clear hC1)
          | (go_at_call 25; have _t := k1; clear _t k1; refine (Ib.out _ hC0).mono ?_; rintro e w2 ⟨rfl, hC1⟩; clear hC0; have hC0 := hC1; clear hC1)
          | (go_at_call 34; have _t := k2; clear _t k2; refine (Laa.out _ hC0).mono ?_; rintro e w2 ⟨rfl, hC1⟩; clear hC0; have hC0 := hC1; clear hC1)
          | (go_at_call 34; have _t := k3; clear _t k3; refine (Lab.out _ hC0).mono ?_; rintro e w2 ⟨rfl, hC1⟩; clear hC0; have hC0 := hC1; clear hC1)
          | (go_at_call 34; have _t := k4; clear _t k4; refine (Lba.out _ hC0).mono ?_; rintro e w2 ⟨rfl, hC1⟩; clear hC0; have hC0 := hC1; clear hC1)
          | (go_at_call 34; have _t := k5; clear _t k5; refine (Lab.out _ hC0).mono ?_; rintro e w2 ⟨rfl, hC1⟩; clear hC0; have hC0 := hC1; clear hC1))
        go_meet
        exact ⟨rfl, hC0⟩
  case rest =>
    obtain ⟨rfl, hC1⟩ := hcut
    clear hC0 Ia Ib Laa
    have hC0 := hC1
    clear hC1
    have WK := Lib.hid (workAt hT hW)
    obtain ⟨p, has, hpar, hyes, hno⟩ := par_any (x := x.length) oka la pa
    have Pa := Lib.hid (parAt hW (A := a) (by omega) hpar)
    clear hpar
    go_upto_region 5 with (first | (go_at_call 29; refine (Pa.out _ hC0).mono ?_; rintro e w2 ⟨rfl, hC1⟩; clear hC0; have hC0 := hC1; clear hC1))
    go_cut [85] from 72 to 84 (fun s W => s = .bool false ∧ Chg (fun _ => False) w W)
    case first =>
      cases has with
      | true =>
        obtain ⟨lp, hlp, hx2⟩ := hyes rfl
        have Lpa := Lib.hid (lessAt hW (A := p) (B := a) (by omega) (by omega) hlp)
        have x2 : ¬ ((x.length : Int) < 2) := by omega
        clear hyes hno hlp
        go_wp2_with (first | (go_at_call 34; refine (Lpa.out _ hC0).mono ?_; rintro e w2 ⟨rfl, hC1⟩; clear hC0; have hC0 := hC1; clear hC1))
        go_meet
        exact ⟨by first | rfl | exact congrArg Value.bool (decide_eq_false x2) | simp [x2], hC0⟩
      | false =>
        have x1 := hno rfl
        have x2 : (x.length : Int) < 2 := by omega
        clear hyes hno
        go_wp2_with fail
        go_meet
        exact ⟨rfl, hC0⟩
    case rest =>
      obtain ⟨rfl, hC1⟩ := hcut
      clear hC0 hyes hno Pa
      have hC0 := hC1
      clear hC1
      have hbr := fun W => tbring_some W (y.length : Int) 5 (by decide) (by decide) (by omega) (by omega)
      have hm0 := Int.emod_nonneg (y.length : Int) (show (5 : Int) ≠ 0 by decide)
      have hm1 := Int.emod_lt_of_pos (y.length : Int) (show (0 : Int) < 5 by decide)
      generalize (y.length : Int) % 5 = r at *
      obtain ⟨n, hn⟩ : ∃ n : Nat, 1 + r = (n : Int) := ⟨(1 + r).toNat, by omega⟩
      have hw1 : IntKind.i64.wrap (1 + r) = (n : Int) := by rw [hn]; exact IntWalk.i64_in _ ⟨by omega, by omega⟩
      have hkid := kid_any (n := n) (x := x.length) oka la pa (by omega) (by omega)
      have HB := Lib.hid hbr
      clear hbr
      rcases hkid with ⟨k1, k2, k3⟩ | ⟨d, k1, k2, ld, k4, k5, k6⟩
      · have Ka := Lib.hid (kidAt hW (A := a) (by omega) k1 k2)
        have x8 : (8 : Int) ≤ (x.length : Int) := by omega
        clear k1 k2
        go_wp2_with (first | (go_at_call 13; refine (HB.out _).mono ?_; rintro e w2 ⟨rfl, rfl⟩) | (go_at_call 31; refine (Ka.out _ hC0).mono ?_; rintro e w2 ⟨rfl, hC1⟩; clear hC0; have hC0 := hC1; clear hC1) | (go_at_call 24; refine (WK.out _ hC0).mono ?_; rintro e w2 ⟨rfl, hC1⟩; clear hC0; have hC0 := hC1; clear hC1))
        go_ret
        exact ⟨rfl, hC0⟩
      · have Ka := Lib.hid (kidAt hW (A := a) (by omega) k1 k2)
        have Pd := Lib.hid (parAt hW (A := d) (by omega) k4)
        have Lad := Lib.hid (lessAt hW (A := a) (B := d) (by omega) (by omega) k5)
        have hbel := fun h1 h2 => between_below (b := b) (d := d) k6 h1 h2
        clear k1 k2 k4
        go_upto_region 11 with (first | (go_at_call 13; refine (HB.out _).mono ?_; rintro e w2 ⟨rfl, rfl⟩) | (go_at_call 31; refine (Ka.out _ hC0).mono ?_; rintro e w2 ⟨rfl, hC1⟩; clear hC0; have hC0 := hC1; clear hC1) | (go_at_call 29; refine (Pd.out _ hC0).mono ?_; rintro e w2 ⟨rfl, hC1⟩; clear hC0; have hC0 := hC1; clear hC1))
        go_cut [16] from 112 to 119 (fun s W => ∃ q, s = .bool q ∧ (q = true → ∃ t, b = a ++ 46 :: t) ∧ Chg (fun _ => False) w W)
        case first =>
          cases hab : idLess a b with
          | true =>
            have Lab := Lib.hid (lessAt hW (A := a) (B := b) (by omega) (by omega) hab)
            obtain ⟨q, hq⟩ : ∃ q, idLess b d = q := ⟨_, rfl⟩
            have Lbd := Lib.hid (lessAt hW (A := b) (B := d) (by omega) (by omega) hq)
            have hbe := fun h : q = true => hbel hab (hq.trans h)
            clear hab hq hbel
            have j1 : True := trivial
            go_wp2_with (first | (go_at_call 34; have _t := j1; clear _t j1; refine (Lab.out _ hC0).mono ?_; rintro e w2 ⟨rfl, hC1⟩; clear hC0; have hC0 := hC1; clear hC1) | (go_at_call 34; refine (Lbd.out _ hC0).mono ?_; rintro e w2 ⟨rfl, hC1⟩; clear hC0; have hC0 := hC1; clear hC1))
            go_meet
            exact ⟨q, by cases q <;> rfl, hbe, hC0⟩
          | false =>
            have Lab := Lib.hid (lessAt hW (A := a) (B := b) (by omega) (by omega) hab)
            clear hab hbel
            go_wp2_with (first | (go_at_call 34; refine (Lab.out _ hC0).mono ?_; rintro e w2 ⟨rfl, hC1⟩; clear hC0; have hC0 := hC1; clear hC1))
            go_meet
            exact ⟨false, rfl, (fun h => by cases h), hC0⟩
        case rest =>
          obtain ⟨so, rfl, hso, hC1⟩ := hcut
          clear hC0 hbel
          have hC0 := hC1
          clear hC1
          go_upto_region 12 with fail
          go_cut [17] from 120 to 134 (fun s W => ∃ q, s = .bool q ∧ ((∃ t, b = a ++ 46 :: t) → q = true) ∧ Chg (fun _ => False) w W)
          case first =>
            by_cases hl : a.length < b.length
            · have hl1 : (a.length : Int) < (b.length : Int) := by omega
              have hw2 : IntKind.i64.wrap ((a.length : Int) + 1) = a.length + 1 := IntWalk.i64_in _ ⟨by omega, by omega⟩
              have ht : ((a.length : Int) + 1).toNat = a.length + 1 := by omega
              have z4 : (⟨#[46]⟩ : ByteArray).size = 1 := rfl
              obtain ⟨q, hq⟩ : ∃ q, (((bs b).extract 0 (a.length + 1)).toList == (bs a ++ ⟨#[46]⟩).toList) = q := ⟨_, rfl⟩
              have hqq : (∃ t, b = a ++ 46 :: t) → q = true := by
                rintro ⟨t, rfl⟩
                rw [← hq]
                exact below_cut a t
              have HQ := Lib.hid hqq
              have HS := Lib.hid hso
              clear hqq hso
              go_wp2_with fail
              go_meet
              exact ⟨q, by cases q <;> rfl, HQ.out, hC0⟩
            · have hl1 : ¬ ((a.length : Int) < (b.length : Int)) := by omega
              have HS := Lib.hid hso
              clear hso
              go_wp2_with fail
              go_meet
              refine ⟨false, rfl, ?_, hC0⟩
              rintro ⟨t, rfl⟩
              simp at hl
          case rest =>
            obtain ⟨bel, rfl, hbl, hC1⟩ := hcut
            clear hC0
            have hC0 := hC1
            clear hC1
            cases so with
            | true =>
              obtain rfl : bel = true := hbl (hso rfl)
              clear hbl hso
              go_wp2_with (first | (go_at_call 34; refine (Lad.out _ hC0).mono ?_; rintro e w2 ⟨rfl, hC1⟩; clear hC0; have hC0 := hC1; clear hC1) | (go_at_call 24; refine (WK.out _ hC0).mono ?_; rintro e w2 ⟨rfl, hC1⟩; clear hC0; have hC0 := hC1; clear hC1))
              go_ret
              exact ⟨rfl, hC0⟩
            | false =>
              clear hbl hso
              go_wp2_with (first | (go_at_call 34; refine (Lad.out _ hC0).mono ?_; rintro e w2 ⟨rfl, hC1⟩; clear hC0; have hC0 := hC1; clear hC1) | (go_at_call 24; refine (WK.out _ hC0).mono ?_; rintro e w2 ⟨rfl, hC1⟩; clear hC0; have hC0 := hC1; clear hC1))
              go_ret
              exact ⟨rfl, hC0⟩
end Go.Proofs.YtfhmmekamommcaaGreatDoor
