/- lattice: tables (the function that is done once). -/
import Derived.Test.YtfhmmekamommcaaGreatDoorLatCells
namespace Go.Proofs.YtfhmmekamommcaaGreatDoor
set_option linter.unusedVariables false
set_option linter.unusedSimpArgs false
open Go Go.RowKit Go.Proofs Go.Shelf Go.Sort
/-- a table, filled up to a place -/
def tabJ (n : Nat) (f J0 : Nat → Nat → Int) (k q : Nat) : Nat → Nat → Int := fun i j => if (i < k ∧ j < n) ∨ (i = k ∧ j < q) then f i j else J0 i j
theorem tabJ_next (n : Nat) (f J0 : Nat → Nat → Int) (k : Nat) (i j : Nat) : tabJ n f J0 k n i j = tabJ n f J0 (k + 1) 0 i j := by
  unfold tabJ
  by_cases h : (i < k ∧ j < n) ∨ (i = k ∧ j < n)
  · rw [if_pos h, if_pos (by omega)]
  · rw [if_neg h, if_neg (by omega)]
theorem tabJ_set (n : Nat) (f J0 : Nat → Nat → Int) (k q : Nat) (hq : q < n) (i j : Nat) : (if i = k ∧ j = q then f k q else tabJ n f J0 k q i j) = tabJ n f J0 k (q + 1) i j := by
  unfold tabJ
  by_cases h : i = k ∧ j = q
  · obtain ⟨rfl, rfl⟩ := h
    rw [if_pos ⟨rfl, rfl⟩, if_pos (by omega)]
  · rw [if_neg h]
    by_cases h2 : (i < k ∧ j < n) ∨ (i = k ∧ j < q)
    · rw [if_pos h2, if_pos (by omega)]
    · rw [if_neg h2, if_neg (by omega)]
theorem tabJ_zero (n : Nat) (f J0 : Nat → Nat → Int) (i j : Nat) : J0 i j = tabJ n f J0 0 0 i j := by
  unfold tabJ; rw [if_neg (by omega)]
/-- the last one of which a row is full -/
def lastF (n : Nat) (R : Nat → Nat → Bool) (x0 : Int) (k : Nat) : Int := (List.range k).foldl (fun x a => if (els n (R a)).length = n then (a : Int) else x) x0
theorem lastF_succ (n : Nat) (R : Nat → Nat → Bool) (x0 : Int) (k : Nat) : lastF n R x0 (k + 1) = if (els n (R k)).length = n then (k : Int) else lastF n R x0 k := by
  unfold lastF; rw [List.range_succ, List.foldl_append]; rfl
theorem rows_ne {n : Nat} {R : Nat → Nat → Bool} (hr : ∀ a, a < n → R a a = true) {a : Nat} (ha : a < n) : toI (rowOf n R a) ≠ [] := by
  rw [rowOf_nat ha]
  intro h
  have : (a : Int) ∈ toI (els n (R a)) := List.mem_map.2 ⟨a, mem_els.2 ⟨ha, hr a ha⟩, rfl⟩
  rw [h] at this
  cases this
theorem LatRaw.ne {w : World} {la : Nat} {nv ov : Value} {J M : Nat → Nat → Int} {lo hi dn st : Int} (h : LatRaw w la nv ov J M lo hi dn st) {k : Nat} {o : Obj} (hk : w.heap[k]? = some o) (ht : ∀ c, o ≠ .cells c 72 (0, 0)) : k ≠ la := by
  rintro rfl
  obtain ⟨c, hc, _⟩ := h.blk
  rw [hk] at hc
  cases hc
  exact ht _ rfl
set_option maxRecDepth 100000 in
set_option maxHeartbeats 16000000 in
theorem tables1_any {w : World} {Bl la b bu bd cu cd n : Nat} {R : Nat → Nat → Bool} {A : Option Addr} {c : Nat} {dn st lo hi : Int} {J0 M0 : Nat → Nat → Int}
    (hO : IsOrd w b bu bd cu cd n R (flp R)) (hT : TabOk w) (hr : ∀ a, a < n → R a a = true) (hn : n ≤ 10) (hb : w.cell? ⟨Bl, 0, none⟩ = some (.pointer (some ⟨la, 0, none⟩)))
    (hL : LatRaw w la (.slice A n c) (optr b) J0 M0 lo hi dn st) (n1 : Bl ≠ la) (n2 : b ≠ la ∧ bu ≠ la ∧ bd ≠ la) (n3 : 1 ≠ la) :
    Calls Tryz.prog 115 #[.pointer (some ⟨Bl, 0, none⟩)] w fun e w' => e = .returned (.tuple #[]) ∧
      LatRaw w' la (.slice A n c) (optr b) (tabJ n (joinD n R) J0 n 0) (tabJ n (meetD n R) M0 n 0) (lastF n R lo n) (lastF n (flp R) hi n) dn st ∧ Chg (fun k => k = la) w w' := by
  have HO := fun (W : World) (hC : Chg (fun k => k = la) w W) => hO.chg hC (fun k hk e => by rcases hk with rfl | rfl | rfl; exact n2.1 e; exact n2.2.1 e; exact n2.2.2 e)
  have HT := fun (W : World) (hC : Chg (fun k => k = la) w W) => hT.chg hC n3
  have HB := fun (W : World) (hC : Chg (fun k => k = la) w W) => hC.cell hb n1
  have HR := Lib.hid hr
  have HN1 := Lib.hid n1
  have hq0 := hL.names
  have hq1 := hL.ord
  have HLL := Lib.hid hL
  unfold optr at hq1
  clear hO hT hr n1 n2 n3 hL
  go_enter Tryz.func115, Tryz.ntmps115
  go_wp2_with fail
  clear hb hq0 hq1
  go_loopw [16] (fun a wr => ∃ k : Nat, a = .int .i64 k ∧ k ≤ n ∧ LatRaw wr la (.slice A n c) (optr b) (tabJ n (joinD n R) J0 k 0) (tabJ n (meetD n R) M0 k 0) lo hi dn st ∧ Chg (fun k => k = la) w wr)
    (fun a _ => n - (intOf a).toNat)
  case atStart => exact ⟨0, rfl, by omega, HLL.out.congr (fun i j _ _ => tabJ_zero n _ _ i j) (fun i j _ _ => tabJ_zero n _ _ i j), Chg.refl _ _⟩
  case round =>
    obtain ⟨k, rfl, k0, hL, hC⟩ := hrel
    have hb := HB _ hC
    have hq0 := hL.names
    have hq1 := hL.ord
    unfold optr at hq1
    by_cases hk : k < n
    · have hw3 : IntKind.i64.wrap ((k : Int) + 1) = k + 1 := IntWalk.i64_in _ ⟨by omega, by omega⟩
      have HL2 := Lib.hid hL
      clear hL
      go_wp2_with fail
      clear hb hq0 hq1
      go_loopw [24] (fun a wr => ∃ q : Nat, a = .int .i64 q ∧ q ≤ n ∧ LatRaw wr la (.slice A n c) (optr b) (tabJ n (joinD n R) J0 k q) (tabJ n (meetD n R) M0 k q) lo hi dn st ∧ Chg (fun k => k = la) w wr)
        (fun a _ => n - (intOf a).toNat)
      case atStart => exact ⟨0, rfl, by omega, HL2.out, hC⟩
      case round =>
        clear HL2 hC k0
        obtain ⟨q, rfl, q0, hL, hC⟩ := hrel
        have hb := HB _ hC
        have hq0 := hL.names
        have hq1 := hL.ord
        unfold optr at hq1
        by_cases hq : q < n
        · have hw4 : IntKind.i64.wrap ((q : Int) + 1) = q + 1 := IntWalk.i64_in _ ⟨by omega, by omega⟩
          have HL3 := Lib.hid hL
          have HC3 := Lib.hid hC
          clear hL hC
          go_upto_region 7 with fail
          refine region_lone (fun (W' : World) => W'.cell? ⟨Bl, 0, none⟩ = some (.pointer (some ⟨la, 0, none⟩))) [] (by kernel_rfl) ?_
          have hSz : (fun (W' : World) => W'.cell? ⟨Bl, 0, none⟩ = some (.pointer (some ⟨la, 0, none⟩))) wr.drew := hb
          have hCz := HC3.out.drew
          have hLz := HL3.out.keep (w' := wr.drew) rfl
          have hk10 : (k : Int) < 10 := by omega
          have hq10 : (q : Int) < 10 := by omega
          have hk0 : ¬ (k : Int) < 0 := by omega
          have hq0' : ¬ (q : Int) < 0 := by omega
          refine take_one 0 hSz rfl (by kernel_rfl) rfl ?_
          apply Exists.intro
          refine And.intro (fun W' hS' => ?y0) (And.intro (fun _ _ _ h => h) ?_)
          case y0 => have d0 := hS'; go_simp; rfl
          refine take_one 1 hSz rfl (by kernel_rfl) rfl ?_
          apply Exists.intro
          refine And.intro (fun W' hS' => ?y1) (And.intro (fun _ _ _ h => h) ?_)
          case y1 => have d0 := hS'; go_simp; rfl
          refine take_one 2 hSz rfl (by kernel_rfl) rfl ?_
          apply Exists.intro
          refine And.intro (fun W' hS' => ?y2) (And.intro (fun _ _ _ h => h) ?_)
          case y2 => have d0 := hS'; go_simp; rfl
          refine take_one 3 hSz rfl (by kernel_rfl) rfl ?_
          apply Exists.intro
          refine And.intro (fun W' hS' => ?y3) (And.intro (fun _ _ _ h => h) ?_)
          case y3 => have d0 := hS'; go_simp; rfl
          refine take_one 4 hSz rfl (by kernel_rfl) rfl ?_
          apply Exists.intro
          refine And.intro (fun W' hS' => ?y4) (And.intro (fun _ _ _ h => h) ?_)
          case y4 => have d0 := hS'; go_simp; rfl
          refine take_one 6 hSz rfl (by kernel_rfl) rfl ?_
          apply Exists.intro
          refine And.intro (fun W' hS' => ?y6) (And.intro (fun _ _ _ h => h) ?_)
          case y6 => have d0 := hS'; go_simp; rfl
          refine take_one 7 hSz rfl (by kernel_rfl) rfl ?_
          apply Exists.intro
          refine And.intro (fun W' hS' => ?y7) (And.intro (fun _ _ _ h => h) ?_)
          case y7 => have d0 := hS'; go_simp; rfl
          refine take_one 10 hSz rfl (by kernel_rfl) rfl ?_
          apply Exists.intro
          refine And.intro (fun W' hS' => ?y10) (And.intro (fun _ _ _ h => h) ?_)
          case y10 => have d0 := hS'; go_simp; rfl
          try go_simp
          refine take_one 11 hSz rfl (by kernel_rfl) rfl ?_
          apply Exists.intro
          refine And.intro (fun W' hS' => ?y11) (And.intro (fun _ _ _ h => h) ?_)
          case y11 => have d0 := hS'; go_simp; rfl
          refine take_one 13 hSz rfl (by kernel_rfl) rfl ?_
          apply Exists.intro
          refine And.intro (fun W' hS' => ?y13) (And.intro (fun _ _ _ h => h) ?_)
          case y13 => have d0 := hS'; go_simp; rfl
          refine take_one 14 hSz rfl (by kernel_rfl) rfl ?_
          apply Exists.intro
          refine And.intro (fun W' hS' => ?y14) (And.intro (fun _ _ _ h => h) ?_)
          case y14 => have d0 := hS'; go_simp; rfl
          refine take_one 15 hSz rfl (by kernel_rfl) rfl ?_
          apply Exists.intro
          refine And.intro (fun W' hS' => ?y15) (And.intro (fun _ _ _ h => h) ?_)
          case y15 => have d0 := hS'; go_simp; rfl
          refine only_one 5 rfl (by kernel_rfl) rfl ?_
          try go_simp
          refine (up_ints (HO _ hCz) (HT _ hCz) (k : Int)).mono ?_
          rintro e5 w5 ⟨v5, rfl, hI5, hD5⟩
          have hC5 := hCz.trans' hD5 (fun _ _ h => h.elim)
          have hS5 : (fun (W' : World) => W'.cell? ⟨Bl, 0, none⟩ = some (.pointer (some ⟨la, 0, none⟩))) w5 := HB _ hC5
          refine ⟨hS5, ?_⟩
          refine only_one 8 rfl (by kernel_rfl) rfl ?_
          try go_simp
          refine (up_ints (HO _ hC5) (HT _ hC5) (q : Int)).mono ?_
          rintro e8 w8 ⟨v8, rfl, hI8, hD8⟩
          have hC8 := hC5.trans' hD8 (fun _ _ h => h.elim)
          have hS8 : (fun (W' : World) => W'.cell? ⟨Bl, 0, none⟩ = some (.pointer (some ⟨la, 0, none⟩))) w8 := HB _ hC8
          refine ⟨hS8, ?_⟩
          refine only_one 9 rfl (by kernel_rfl) rfl ?_
          try go_simp
          refine (both_any (hI5.chg hD8) hI8 (Nat.le_trans (rowOf_len _ _ _) (by omega)) (Nat.le_trans (rowOf_len _ _ _) (by omega)) (rows_ne HR.out hk)).mono ?_
          rintro e9 w9 ⟨v9, rfl, hI9, hD9⟩
          have hC9 := hC8.trans' hD9 (fun _ _ h => h.elim)
          have hS9 : (fun (W' : World) => W'.cell? ⟨Bl, 0, none⟩ = some (.pointer (some ⟨la, 0, none⟩))) w9 := HB _ hC9
          refine ⟨hS9, ?_⟩
          refine only_one 12 rfl (by kernel_rfl) rfl ?_
          try go_simp
          refine (best_any hI9 (Nat.le_trans (List.length_filter_le _ _) (Nat.le_trans (rowOf_len _ _ _) (by omega))) ⟨b, bu, bd, cu, cd, n, R, _, HO _ hC9, .inl ⟨rfl, rfl⟩⟩).mono ?_
          rintro e12 w12 ⟨rfl, hD12⟩
          rw [rowOf_nat hk, rowOf_nat hq, join_plain]
          have hC12 := hC9.trans' hD12 (fun _ _ h => h.elim)
          have hS12 : (fun (W' : World) => W'.cell? ⟨Bl, 0, none⟩ = some (.pointer (some ⟨la, 0, none⟩))) w12 := HB _ hC12
          refine ⟨hS12, ?_⟩
          refine take_one 16 hS12 rfl (by kernel_rfl) rfl ?_
          apply Exists.intro
          refine And.intro (fun W' hS' => ?y16) (And.intro (fun _ _ _ h => h) ?_)
          case y16 => have d0 := hS'; go_simp; rfl
          refine only_one 17 rfl (by kernel_rfl) rfl ?_
          have hL12 := hLz.chg (((hD5.trans hD8).trans hD9).trans hD12) (fun x => x)
          have z0 := hL12.jn k q (by omega) (by omega)
          have z1 := hL12.free (5 + k * 10 + q)
          have hC17 := hC12.setCell (p := ⟨la, 5 + k * 10 + q, none⟩) (.inl rfl) (.int .i64 (joinD n R k q))
          have hS17 : (fun (W' : World) => W'.cell? ⟨Bl, 0, none⟩ = some (.pointer (some ⟨la, 0, none⟩))) _ := HB _ hC17
          have hL17 := hL12.setJ k q (by omega) (by omega) (joinD n R k q)
          try go_simp
          refine ⟨by kernel_rfl, ?_⟩
          clear hSz hCz hLz hI5 hD5 hC5 hS5 hI8 hD8 hC8 hS8 hI9 hD9 hC9 hS9 hD12 hC12 hS12 hL12 z0 z1 HL3 HC3 hb hq0 hq1 hS17
          generalize w12.setCell ⟨la, 5 + k * 10 + q, none⟩ (.int .i64 (joinD n R k q)) = wm at *
          have HL3 := Lib.hid hL17
          clear hL17 w5 w8 w9 w12
          go_upto_region 8 with fail
          refine region_lone (fun (W' : World) => W'.cell? ⟨Bl, 0, none⟩ = some (.pointer (some ⟨la, 0, none⟩))) [] (by kernel_rfl) ?_
          have hSz : (fun (W' : World) => W'.cell? ⟨Bl, 0, none⟩ = some (.pointer (some ⟨la, 0, none⟩))) wm.drew := HB wm hC17
          have hCz := hC17.drew
          have hLz := HL3.out.keep (w' := wm.drew) rfl
          clear hC17
          refine take_one 0 hSz rfl (by kernel_rfl) rfl ?_
          apply Exists.intro
          refine And.intro (fun W' hS' => ?y0) (And.intro (fun _ _ _ h => h) ?_)
          case y0 => have d0 := hS'; go_simp; rfl
          refine take_one 1 hSz rfl (by kernel_rfl) rfl ?_
          apply Exists.intro
          refine And.intro (fun W' hS' => ?y1) (And.intro (fun _ _ _ h => h) ?_)
          case y1 => have d0 := hS'; go_simp; rfl
          refine take_one 2 hSz rfl (by kernel_rfl) rfl ?_
          apply Exists.intro
          refine And.intro (fun W' hS' => ?y2) (And.intro (fun _ _ _ h => h) ?_)
          case y2 => have d0 := hS'; go_simp; rfl
          refine take_one 3 hSz rfl (by kernel_rfl) rfl ?_
          apply Exists.intro
          refine And.intro (fun W' hS' => ?y3) (And.intro (fun _ _ _ h => h) ?_)
          case y3 => have d0 := hS'; go_simp; rfl
          refine take_one 4 hSz rfl (by kernel_rfl) rfl ?_
          apply Exists.intro
          refine And.intro (fun W' hS' => ?y4) (And.intro (fun _ _ _ h => h) ?_)
          case y4 => have d0 := hS'; go_simp; rfl
          refine take_one 6 hSz rfl (by kernel_rfl) rfl ?_
          apply Exists.intro
          refine And.intro (fun W' hS' => ?y6) (And.intro (fun _ _ _ h => h) ?_)
          case y6 => have d0 := hS'; go_simp; rfl
          refine take_one 7 hSz rfl (by kernel_rfl) rfl ?_
          apply Exists.intro
          refine And.intro (fun W' hS' => ?y7) (And.intro (fun _ _ _ h => h) ?_)
          case y7 => have d0 := hS'; go_simp; rfl
          refine take_one 10 hSz rfl (by kernel_rfl) rfl ?_
          apply Exists.intro
          refine And.intro (fun W' hS' => ?y10) (And.intro (fun _ _ _ h => h) ?_)
          case y10 => have d0 := hS'; go_simp; rfl
          try go_simp
          refine take_one 12 hSz rfl (by kernel_rfl) rfl ?_
          apply Exists.intro
          refine And.intro (fun W' hS' => ?y12) (And.intro (fun _ _ _ h => h) ?_)
          case y12 => have d0 := hS'; go_simp; rfl
          refine take_one 13 hSz rfl (by kernel_rfl) rfl ?_
          apply Exists.intro
          refine And.intro (fun W' hS' => ?y13) (And.intro (fun _ _ _ h => h) ?_)
          case y13 => have d0 := hS'; go_simp; rfl
          refine take_one 14 hSz rfl (by kernel_rfl) rfl ?_
          apply Exists.intro
          refine And.intro (fun W' hS' => ?y14) (And.intro (fun _ _ _ h => h) ?_)
          case y14 => have d0 := hS'; go_simp; rfl
          refine only_one 5 rfl (by kernel_rfl) rfl ?_
          try go_simp
          refine (down_ints (HO _ hCz) (HT _ hCz) (k : Int)).mono ?_
          rintro e5 w5 ⟨v5, rfl, hI5, hD5⟩
          have hC5 := hCz.trans' hD5 (fun _ _ h => h.elim)
          have hS5 : (fun (W' : World) => W'.cell? ⟨Bl, 0, none⟩ = some (.pointer (some ⟨la, 0, none⟩))) w5 := HB _ hC5
          refine ⟨hS5, ?_⟩
          refine only_one 8 rfl (by kernel_rfl) rfl ?_
          try go_simp
          refine (down_ints (HO _ hC5) (HT _ hC5) (q : Int)).mono ?_
          rintro e8 w8 ⟨v8, rfl, hI8, hD8⟩
          have hC8 := hC5.trans' hD8 (fun _ _ h => h.elim)
          have hS8 : (fun (W' : World) => W'.cell? ⟨Bl, 0, none⟩ = some (.pointer (some ⟨la, 0, none⟩))) w8 := HB _ hC8
          refine ⟨hS8, ?_⟩
          refine only_one 9 rfl (by kernel_rfl) rfl ?_
          try go_simp
          refine (both_any (hI5.chg hD8) hI8 (Nat.le_trans (rowOf_len _ _ _) (by omega)) (Nat.le_trans (rowOf_len _ _ _) (by omega)) (rows_ne (R := flp R) (fun a h => HR.out a h) hk)).mono ?_
          rintro e9 w9 ⟨v9, rfl, hI9, hD9⟩
          have hC9 := hC8.trans' hD9 (fun _ _ h => h.elim)
          have hS9 : (fun (W' : World) => W'.cell? ⟨Bl, 0, none⟩ = some (.pointer (some ⟨la, 0, none⟩))) w9 := HB _ hC9
          refine ⟨hS9, ?_⟩
          refine only_one 11 rfl (by kernel_rfl) rfl ?_
          try go_simp
          refine (best_any hI9 (Nat.le_trans (List.length_filter_le _ _) (Nat.le_trans (rowOf_len _ _ _) (by omega))) ⟨b, bu, bd, cu, cd, n, R, _, HO _ hC9, .inr ⟨Bl, la, rfl, HB _ hC9, (hLz.chg ((hD5.trans hD8).trans hD9) (fun x => x)).ord, rfl⟩⟩).mono ?_
          rintro e11 w11 ⟨rfl, hD11⟩
          rw [rowOf_nat hk, rowOf_nat hq, meet_plain]
          have hC11 := hC9.trans' hD11 (fun _ _ h => h.elim)
          have hS11 : (fun (W' : World) => W'.cell? ⟨Bl, 0, none⟩ = some (.pointer (some ⟨la, 0, none⟩))) w11 := HB _ hC11
          refine ⟨hS11, ?_⟩
          refine take_one 15 hS11 rfl (by kernel_rfl) rfl ?_
          apply Exists.intro
          refine And.intro (fun W' hS' => ?y15) (And.intro (fun _ _ _ h => h) ?_)
          case y15 => have d0 := hS'; go_simp; rfl
          refine only_one 16 rfl (by kernel_rfl) rfl ?_
          have hL11 := hLz.chg (((hD5.trans hD8).trans hD9).trans hD11) (fun x => x)
          have z0 := hL11.mt k q (by omega) (by omega)
          have z1 := hL11.free (105 + k * 10 + q)
          have hC16 := hC11.setCell (p := ⟨la, 105 + k * 10 + q, none⟩) (.inl rfl) (.int .i64 (meetD n R k q))
          have hS16 : (fun (W' : World) => W'.cell? ⟨Bl, 0, none⟩ = some (.pointer (some ⟨la, 0, none⟩))) _ := HB _ hC16
          have hL16 := hL11.setM k q (by omega) (by omega) (meetD n R k q)
          try go_simp
          refine ⟨by kernel_rfl, ?_⟩
          clear hSz hCz hLz hI5 hD5 hC5 hS5 hI8 hD8 hC8 hS8 hI9 hD9 hC9 hS9 hD11 hC11 hS11 hL11 z0 z1 HL3 hS16
          generalize w11.setCell ⟨la, 105 + k * 10 + q, none⟩ (.int .i64 (meetD n R k q)) = wm2 at *
          have HL4 := Lib.hid hL16
          clear hL16 w5 w8 w9 w11
          go_wp2_with fail
          go_roundw
          case rel => exact ⟨q + 1, by go_num, by omega, HL4.out.congr (fun i j _ _ => tabJ_set n _ _ k q hq i j) (fun i j _ _ => tabJ_set n _ _ k q hq i j), hC16⟩
          case measure => simp [intOf]; omega
        · have hqn : q = n := by omega
          have HQ := Lib.hid hqn
          have HL3 := Lib.hid hL
          clear hqn hL hb hq0 hq1
          go_wp2_with fail
          go_roundw
          case rel =>
            refine ⟨k + 1, by go_num, by omega, ?_, hC⟩
            have := HL3.out
            rw [HQ.out] at this
            exact this.congr (fun i j _ _ => tabJ_next n _ _ k i j) (fun i j _ _ => tabJ_next n _ _ k i j)
          case measure => simp [intOf]; omega
    · have hkn : k = n := by omega
      have HK := Lib.hid hkn
      have HL3 := Lib.hid hL
      rw [hkn] at hL
      have HL3 := Lib.hid hL
      clear hkn hL hb hq0 hq1 HK
      have hb := HB _ hC
      have hq0 := HL3.out.names
      go_wp2_with fail
      clear hb hq0
      obtain ⟨J, hJ⟩ : ∃ J, tabJ n (joinD n R) J0 n 0 = J := ⟨_, rfl⟩
      obtain ⟨M, hM⟩ : ∃ M, tabJ n (meetD n R) M0 n 0 = M := ⟨_, rfl⟩
      have HL3 := Lib.hid (HL3.out.congr (J' := J) (M' := M) (fun i j _ _ => by rw [hJ]) (fun i j _ _ => by rw [hM]))
      have HJ := Lib.hid hJ
      have HM := Lib.hid hM
      clear hJ hM
      go_loopw [67] (fun a wr => ∃ k : Nat, a = .int .i64 k ∧ k ≤ n ∧ LatRaw wr la (.slice A n c) (optr b) J M (lastF n R lo k) (lastF n (flp R) hi k) dn st ∧ Chg (fun k => k = la) w wr)
        (fun a _ => n - (intOf a).toNat)
      case atStart => exact ⟨0, rfl, by omega, HL3.out, hC⟩
      case round =>
        clear HL3 hC k0
        obtain ⟨q, rfl, q0, hL, hC⟩ := hrel
        by_cases hq : q < n
        · have hw4 : IntKind.i64.wrap ((q : Int) + 1) = q + 1 := IntWalk.i64_in _ ⟨by omega, by omega⟩
          have HL4 := Lib.hid hL
          clear hL
          go_upto_region 14 with fail
          refine region_lone (fun (W' : World) => W'.cell? ⟨Bl, 0, none⟩ = some (.pointer (some ⟨la, 0, none⟩)) ∧ W'.cell? ⟨la, 0, none⟩ = some (.slice A n c)) [] (by kernel_rfl) ?_
          have hSz : (fun (W' : World) => W'.cell? ⟨Bl, 0, none⟩ = some (.pointer (some ⟨la, 0, none⟩)) ∧ W'.cell? ⟨la, 0, none⟩ = some (.slice A n c)) wr.drew := ⟨HB wr hC, HL4.out.names⟩
          have hCz := hC.drew
          have hLz := HL4.out.keep (w' := wr.drew) rfl
          clear HL4 hC
          obtain ⟨r1, hr1⟩ : ∃ r, decide ((els n (R q)).length = n) = r := ⟨_, rfl⟩
          have hr1' : (((els n (R q)).length : Int) == (n : Int)) = r1 := by rw [← hr1, Bool.eq_iff_iff, beq_iff_eq, decide_eq_true_eq]; omega
          have H1 := Lib.hid hr1
          clear hr1
          refine take_one 0 hSz rfl (by kernel_rfl) rfl ?_
          apply Exists.intro
          refine And.intro (fun W' hS' => ?y0) (And.intro (fun _ _ _ h => h) ?_)
          case y0 => obtain ⟨d0, d1⟩ := hS'; go_simp; rfl
          refine take_one 1 hSz rfl (by kernel_rfl) rfl ?_
          apply Exists.intro
          refine And.intro (fun W' hS' => ?y1) (And.intro (fun _ _ _ h => h) ?_)
          case y1 => obtain ⟨d0, d1⟩ := hS'; go_simp; rfl
          refine take_one 4 hSz rfl (by kernel_rfl) rfl ?_
          apply Exists.intro
          refine And.intro (fun W' hS' => ?y4) (And.intro (fun _ _ _ h => h) ?_)
          case y4 => obtain ⟨d0, d1⟩ := hS'; go_simp; rfl
          refine take_one 5 hSz rfl (by kernel_rfl) rfl ?_
          apply Exists.intro
          refine And.intro (fun W' hS' => ?y5) (And.intro (fun _ _ _ h => h) ?_)
          case y5 => obtain ⟨d0, d1⟩ := hS'; go_simp; rfl
          refine take_one 6 hSz rfl (by kernel_rfl) rfl ?_
          apply Exists.intro
          refine And.intro (fun W' hS' => ?y6) (And.intro (fun _ _ _ h => h) ?_)
          case y6 => obtain ⟨d0, d1⟩ := hS'; go_simp; rfl
          refine take_one 7 hSz rfl (by kernel_rfl) rfl ?_
          apply Exists.intro
          refine And.intro (fun W' hS' => ?y7) (And.intro (fun _ _ _ h => h) ?_)
          case y7 => obtain ⟨d0, d1⟩ := hS'; go_simp; rfl
          refine take_one 8 hSz rfl (by kernel_rfl) rfl ?_
          apply Exists.intro
          refine And.intro (fun W' hS' => ?y8) (And.intro (fun _ _ _ h => h) ?_)
          case y8 => obtain ⟨d0, d1⟩ := hS'; go_simp; rfl
          refine only_one 2 rfl (by kernel_rfl) rfl ?_
          try go_simp
          refine (up_ints (HO _ hCz) (HT _ hCz) (q : Int)).mono ?_
          rintro e2 w2 ⟨v2, rfl, hI2, hD2⟩
          obtain ⟨A2, c2, rfl⟩ := hI2.slice
          have hl2 : (toI (rowOf n R q)).length = (els n (R q)).length := by rw [rowOf_nat hq, toI_len]
          rw [hl2]
          have hC2 := hCz.trans' hD2 (fun _ _ h => h.elim)
          have hS2 : (fun (W' : World) => W'.cell? ⟨Bl, 0, none⟩ = some (.pointer (some ⟨la, 0, none⟩)) ∧ W'.cell? ⟨la, 0, none⟩ = some (.slice A n c)) w2 := ⟨HB _ hC2, (hLz.chg hD2 (fun x => x)).names⟩
          refine ⟨hS2, ?_⟩
          refine take_one 3 hS2 rfl (by kernel_rfl) rfl ?_
          apply Exists.intro
          refine And.intro (fun W' hS' => ?y3) (And.intro (fun _ _ _ h => h) ?_)
          case y3 => obtain ⟨d0, d1⟩ := hS'; go_simp; rfl
          try go_simp
          refine take_one 9 hS2 rfl (by kernel_rfl) rfl ?_
          apply Exists.intro
          refine And.intro (fun W' hS' => ?y9) (And.intro (fun _ _ _ h => h) ?_)
          case y9 => obtain ⟨d0, d1⟩ := hS'; go_simp; rfl
          try go_simp
          refine all_done (by kernel_rfl) ?_ _
          have HL5 := Lib.hid (hLz.chg hD2 (fun x => x))
          clear hLz hCz hSz hS2 hD2 hI2 hl2
          clear hr1'
          go_upto_if 79 with fail
          go_cut [] from 79 to 83 (fun W => LatRaw W la (.slice A n c) (optr b) J M (lastF n R lo (q + 1)) (lastF n (flp R) hi q) dn st ∧ Chg (fun k => k = la) w W)
          case first =>
            have z0 := HB _ hC2
            have z1 := HL5.out.low
            have z2 := HL5.out.free 205
            cases r1 with
            | true =>
              have hl := lastF_succ n R lo q
              rw [if_pos (of_decide_eq_true H1.out)] at hl
              have HS := Lib.hid hl
              clear hl
              go_wp2_with fail
              go_meet
              refine ⟨?_, hC2.setCell (.inl rfl) _⟩
              rw [HS.out]
              exact HL5.out.setLo _
            | false =>
              have hl := lastF_succ n R lo q
              rw [if_neg (of_decide_eq_false H1.out)] at hl
              have HS := Lib.hid hl
              clear hl
              go_wp2_with fail
              go_meet
              refine ⟨?_, hC2⟩
              rw [HS.out]
              exact HL5.out
          case rest =>
            obtain ⟨hL6, hC6⟩ := hcut
            clear hC2 HL5 H1 r1
            have HL6 := Lib.hid hL6
            clear hL6
            go_upto_region 16 with fail
            refine region_lone (fun (W' : World) => W'.cell? ⟨Bl, 0, none⟩ = some (.pointer (some ⟨la, 0, none⟩)) ∧ W'.cell? ⟨la, 0, none⟩ = some (.slice A n c)) [] (by kernel_rfl) ?_
            have hSz : (fun (W' : World) => W'.cell? ⟨Bl, 0, none⟩ = some (.pointer (some ⟨la, 0, none⟩)) ∧ W'.cell? ⟨la, 0, none⟩ = some (.slice A n c)) wc.drew := ⟨HB wc hC6, HL6.out.names⟩
            have hCz := hC6.drew
            have hLz := HL6.out.keep (w' := wc.drew) rfl
            clear HL6 hC6
            obtain ⟨r1, hr1⟩ : ∃ r, decide ((els n (flp R q)).length = n) = r := ⟨_, rfl⟩
            have hr1' : (((els n (flp R q)).length : Int) == (n : Int)) = r1 := by rw [← hr1, Bool.eq_iff_iff, beq_iff_eq, decide_eq_true_eq]; omega
            have H1 := Lib.hid hr1
            clear hr1
            refine take_one 0 hSz rfl (by kernel_rfl) rfl ?_
            apply Exists.intro
            refine And.intro (fun W' hS' => ?y0) (And.intro (fun _ _ _ h => h) ?_)
            case y0 => obtain ⟨d0, d1⟩ := hS'; go_simp; rfl
            refine take_one 1 hSz rfl (by kernel_rfl) rfl ?_
            apply Exists.intro
            refine And.intro (fun W' hS' => ?y1) (And.intro (fun _ _ _ h => h) ?_)
            case y1 => obtain ⟨d0, d1⟩ := hS'; go_simp; rfl
            refine take_one 4 hSz rfl (by kernel_rfl) rfl ?_
            apply Exists.intro
            refine And.intro (fun W' hS' => ?y4) (And.intro (fun _ _ _ h => h) ?_)
            case y4 => obtain ⟨d0, d1⟩ := hS'; go_simp; rfl
            refine take_one 5 hSz rfl (by kernel_rfl) rfl ?_
            apply Exists.intro
            refine And.intro (fun W' hS' => ?y5) (And.intro (fun _ _ _ h => h) ?_)
            case y5 => obtain ⟨d0, d1⟩ := hS'; go_simp; rfl
            refine take_one 6 hSz rfl (by kernel_rfl) rfl ?_
            apply Exists.intro
            refine And.intro (fun W' hS' => ?y6) (And.intro (fun _ _ _ h => h) ?_)
            case y6 => obtain ⟨d0, d1⟩ := hS'; go_simp; rfl
            refine take_one 7 hSz rfl (by kernel_rfl) rfl ?_
            apply Exists.intro
            refine And.intro (fun W' hS' => ?y7) (And.intro (fun _ _ _ h => h) ?_)
            case y7 => obtain ⟨d0, d1⟩ := hS'; go_simp; rfl
            refine take_one 8 hSz rfl (by kernel_rfl) rfl ?_
            apply Exists.intro
            refine And.intro (fun W' hS' => ?y8) (And.intro (fun _ _ _ h => h) ?_)
            case y8 => obtain ⟨d0, d1⟩ := hS'; go_simp; rfl
            refine only_one 2 rfl (by kernel_rfl) rfl ?_
            try go_simp
            refine (down_ints (HO _ hCz) (HT _ hCz) (q : Int)).mono ?_
            rintro e2 w2 ⟨v2, rfl, hI2, hD2⟩
            obtain ⟨A2, c2, rfl⟩ := hI2.slice
            have hl2 : (toI (rowOf n (flp R) q)).length = (els n (flp R q)).length := by rw [rowOf_nat hq, toI_len]
            rw [hl2]
            have hC2 := hCz.trans' hD2 (fun _ _ h => h.elim)
            have hS2 : (fun (W' : World) => W'.cell? ⟨Bl, 0, none⟩ = some (.pointer (some ⟨la, 0, none⟩)) ∧ W'.cell? ⟨la, 0, none⟩ = some (.slice A n c)) w2 := ⟨HB _ hC2, (hLz.chg hD2 (fun x => x)).names⟩
            refine ⟨hS2, ?_⟩
            refine take_one 3 hS2 rfl (by kernel_rfl) rfl ?_
            apply Exists.intro
            refine And.intro (fun W' hS' => ?y3) (And.intro (fun _ _ _ h => h) ?_)
            case y3 => obtain ⟨d0, d1⟩ := hS'; go_simp; rfl
            try go_simp
            refine take_one 9 hS2 rfl (by kernel_rfl) rfl ?_
            apply Exists.intro
            refine And.intro (fun W' hS' => ?y9) (And.intro (fun _ _ _ h => h) ?_)
            case y9 => obtain ⟨d0, d1⟩ := hS'; go_simp; rfl
            try go_simp
            refine all_done (by kernel_rfl) ?_ _
            have HL5 := Lib.hid (hLz.chg hD2 (fun x => x))
            clear hLz hCz hSz hS2 hD2 hI2 hl2 hr1'
            go_upto_if 93 with fail
            have z0 := HB _ hC2
            have z1 := HL5.out.high
            have z2 := HL5.out.free 206
            cases r1 with
            | true =>
              have hl := lastF_succ n (flp R) hi q
              rw [if_pos (of_decide_eq_true H1.out)] at hl
              have HS := Lib.hid hl
              clear hl
              go_wp2_with fail
              go_roundw
              case rel => exact ⟨q + 1, by go_num, by omega, by rw [HS.out]; exact HL5.out.setHi _, hC2.setCell (.inl rfl) _⟩
              case measure => simp [intOf]; omega
            | false =>
              have hl := lastF_succ n (flp R) hi q
              rw [if_neg (of_decide_eq_false H1.out)] at hl
              have HS := Lib.hid hl
              clear hl
              go_wp2_with fail
              go_roundw
              case rel => exact ⟨q + 1, by go_num, by omega, by rw [HS.out]; exact HL5.out, hC2⟩
              case measure => simp [intOf]; omega
        · have hqn : q = n := by omega
          have HL4 := Lib.hid (hqn ▸ hL : LatRaw wr la (.slice A n c) (optr b) J M (lastF n R lo n) (lastF n (flp R) hi n) dn st)
          clear hqn hL
          go_wp2_with fail
          go_end0
          exact ⟨rfl, by rw [HJ.out, HM.out]; exact HL4.out, hC⟩
end Go.Proofs.YtfhmmekamommcaaGreatDoor
