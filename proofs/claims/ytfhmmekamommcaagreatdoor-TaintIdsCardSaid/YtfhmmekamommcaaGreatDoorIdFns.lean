/- taint's Id, Parent, Child, Less, walked. -/
import Derived.Test.YtfhmmekamommcaaGreatDoorIdNums
namespace Go.Proofs.YtfhmmekamommcaaGreatDoor
set_option linter.unusedVariables false
set_option linter.unusedSimpArgs false
open Go Go.RowKit Go.Proofs Go.Shelf
/-- a row of numbers in memory -/
def NatRow (w : World) (v : Value) (L : List Nat) : Prop := ∃ a c, v = .slice a L.length c ∧ L.length ≤ c ∧ ∀ i, i < L.length → ∃ g o, a = some ⟨g, o, none⟩ ∧ w.cell? ⟨g, o + i, none⟩ = some (.int .i64 ((L.getD i 0 : Nat) : Int))
theorem NatRow.of_own {w : World} {base : Nat} {v : Value} {L : List Nat} (h : w.ownsRow base 3 1 v L.length (natV L)) : NatRow w v L := by
  rcases h.2 with ⟨rfl, h0⟩ | ⟨g, cap, cur, rfl, _, hh, hc, _, hsz, ht⟩
  · exact ⟨none, 0, by rw [h0], by omega, fun i hi => absurd hi (by omega)⟩
  · refine ⟨_, cap, rfl, hc, fun i hi => ⟨g, 0, rfl, ?_⟩⟩
    rw [Nat.zero_add, cell_of_heap hh]
    have h1 : (cur.toList.take (L.length * 1))[i]? = (natV L)[i]? := by rw [ht]
    rw [List.getElem?_take_of_lt (by omega)] at h1
    rw [← Array.getElem?_toList, h1]
    unfold natV
    rw [List.getElem?_map, List.getElem?_eq_getElem hi]
    simp [List.getD, List.getElem?_eq_getElem hi]
theorem NatRow.keep {w w' : World} {v : Value} {L : List Nat} (h : NatRow w v L) (hk : ∀ (k : Nat) (c : Array Value) (t : TypeId) (f : Nat × Nat), w.heap[k]? = some (Obj.cells c t f) → w'.heap[k]? = some (Obj.cells c t f)) : NatRow w' v L := by
  obtain ⟨a, c, h1, h2, h3⟩ := h
  refine ⟨a, c, h1, h2, fun i hi => ?_⟩
  obtain ⟨g, o, e, hc⟩ := h3 i hi
  refine ⟨g, o, e, ?_⟩
  have h' := hc
  unfold World.cell? at h'
  split at h'
  · rename_i c2 t f e2
    have e3 := hk _ _ _ _ e2
    simp only [World.cell?, e3]
    exact h'
  · cases h'
def cmpI (a b : Int) : Int := if a < b then -1 else if b < a then 1 else 0
theorem isnan_int (w : World) (a : Int) : Calls Tryz.prog 127 #[.int .i64 a] w fun e w' => e = .returned (.bool false) ∧ w' = w := by
  go_enter Tryz.func127, Tryz.ntmps127
  go_wp2
  go_ret
  exact ⟨by first | rfl | simp, rfl⟩
theorem cmp_int (w : World) (a b : Int) : Calls Tryz.prog 99 #[.int .i64 a, .int .i64 b] w fun e w' => e = .returned (.int .i64 (cmpI a b)) ∧ w' = w := by
  unfold cmpI
  by_cases x0 : a < b
  · rw [if_pos x0]
    go_enter Tryz.func99, Tryz.ntmps99
    go_wp2_with (first | (go_at_call 127; refine (isnan_int _ _).mono ?_; rintro e w2 ⟨rfl, rfl⟩))
    go_ret
    exact ⟨rfl, rfl⟩
  · rw [if_neg x0]
    by_cases x1 : b < a
    · rw [if_pos x1]
      go_enter Tryz.func99, Tryz.ntmps99
      go_wp2_with (first | (go_at_call 127; refine (isnan_int _ _).mono ?_; rintro e w2 ⟨rfl, rfl⟩))
      go_ret
      exact ⟨rfl, rfl⟩
    · rw [if_neg x1]
      go_enter Tryz.func99, Tryz.ntmps99
      go_wp2_with (first | (go_at_call 127; refine (isnan_int _ _).mono ?_; rintro e w2 ⟨rfl, rfl⟩))
      go_ret
      exact ⟨rfl, rfl⟩
theorem cmpL_drop_nil {L M : List Nat} {k : Nat} (hL : L.drop k = []) : cmpL (L.drop k) (M.drop k) = if M.length ≤ k then 0 else -1 := by
  rw [hL]
  by_cases h : M.length ≤ k
  · rw [if_pos h, List.drop_eq_nil_of_le h]; rfl
  · rw [if_neg h, List.drop_eq_getElem_cons (by omega)]; rfl
theorem cmpL_step {L M : List Nat} {k : Nat} (hL : k < L.length) (hM : k < M.length) : cmpL (L.drop k) (M.drop k) = if L.getD k 0 < M.getD k 0 then -1 else if M.getD k 0 < L.getD k 0 then 1 else cmpL (L.drop (k + 1)) (M.drop (k + 1)) := by
  rw [List.drop_eq_getElem_cons hL, List.drop_eq_getElem_cons hM]
  simp [cmpL, List.getD, List.getElem?_eq_getElem hL, List.getElem?_eq_getElem hM]
theorem compare_any {w : World} {v1 v2 : Value} {L M : List Nat} (h1 : NatRow w v1 L) (h2 : NatRow w v2 M) (hl : L.length ≤ 4000000000) (hm : M.length ≤ 4000000000) :
    Calls Tryz.prog 66 #[v1, v2] w fun e w' => e = .returned (.int .i64 (cmpL L M)) ∧ w' = w := by
  obtain ⟨a1, c1, rfl, k1, r1⟩ := h1
  obtain ⟨a2, c2, rfl, k2, r2⟩ := h2
  go_enter Tryz.func66, Tryz.ntmps66
  go_wp2_with fail
  go_step3
  go_wp2
  go_step3
  go_wp2
  go_loop [5, 6, 7, 10] (fun _ _ _ i => ∃ k : Nat, i = .int .i64 (k : Int) ∧ k ≤ L.length ∧ k ≤ M.length ∧ cmpL L M = cmpL (L.drop k) (M.drop k)) (fun _ _ _ i => L.length - (intOf i).toNat)
  case atStart => exact ⟨0, rfl, Nat.zero_le _, Nat.zero_le _, rfl⟩
  case round =>
    obtain ⟨k, rfl, hkL, hkM, hc⟩ := hrel
    have hend := cmp_int w (L.length : Int) (M.length : Int)
    by_cases x1 : k < L.length
    · obtain ⟨g1, o1, rfl, z1⟩ := r1 k x1
      have y1 : (k : Int) < (L.length : Int) := by omega
      by_cases x2 : k < M.length
      · obtain ⟨g2, o2, rfl, z2⟩ := r2 k x2
        have y2 : ¬ ((M.length : Int) ≤ (k : Int)) := by omega
        have hw1 : IntKind.i64.wrap ((k : Int) + 1) = k + 1 := IntWalk.i64_in _ ⟨by omega, by omega⟩
        have hst := cmpL_step x1 x2
        have hcmp := cmp_int w (L.getD k 0 : Nat) (M.getD k 0 : Nat)
        generalize L.getD k 0 = p at *
        generalize M.getD k 0 = q at *
        have HC := Lib.hid hc
        have HST := Lib.hid hst
        clear hc hst hend r1 r2
        by_cases e1 : p < q
        · rw [show cmpI (p : Int) (q : Int) = -1 by unfold cmpI; rw [if_pos (by omega)]] at hcmp
          go_wp2_with (first | (go_at_call 99; refine hcmp.mono ?_; rintro e w2 ⟨rfl, rfl⟩))
          rw [Exit.noGoto_ret]
          go_ret
          rw [HC.out, HST.out, if_pos e1]
          exact ⟨rfl, rfl⟩
        · by_cases e2 : q < p
          · rw [show cmpI (p : Int) (q : Int) = 1 by unfold cmpI; rw [if_neg (by omega), if_pos (by omega)]] at hcmp
            go_wp2_with (first | (go_at_call 99; refine hcmp.mono ?_; rintro e w2 ⟨rfl, rfl⟩))
            rw [Exit.noGoto_ret]
            go_ret
            rw [HC.out, HST.out, if_neg e1, if_pos e2]
            exact ⟨rfl, rfl⟩
          · rw [show cmpI (p : Int) (q : Int) = 0 by unfold cmpI; rw [if_neg (by omega), if_neg (by omega)]] at hcmp
            go_wp2_with (first | (go_at_call 99; refine hcmp.mono ?_; rintro e w2 ⟨rfl, rfl⟩))
            go_round
            case rel => exact ⟨k + 1, by go_num, by omega, by omega, by rw [HC.out, HST.out, if_neg e1, if_neg e2]⟩
            case measure => simp [intOf]; omega
      · have y2 : (M.length : Int) ≤ (k : Int) := by omega
        have HC := Lib.hid hc
        rw [show cmpI (L.length : Int) (M.length : Int) = 1 by unfold cmpI; rw [if_neg (by omega), if_pos (by omega)]] at hend
        clear hc r1 r2
        go_wp2_with (first | (go_at_call 99; refine hend.mono ?_; rintro e w2 ⟨rfl, rfl⟩))
        rw [Exit.noGoto_ret]
        go_ret
        rw [HC.out, List.drop_eq_getElem_cons x1, List.drop_eq_nil_of_le (by omega : M.length ≤ k)]
        exact ⟨rfl, rfl⟩
    · have y1 : ¬ ((k : Int) < (L.length : Int)) := by omega
      rw [cmpL_drop_nil (List.drop_eq_nil_of_le (by omega))] at hc
      have HC := Lib.hid hc
      have he : cmpI (L.length : Int) (M.length : Int) = if M.length ≤ k then 0 else -1 := by
        unfold cmpI
        by_cases h : M.length ≤ k
        · rw [if_neg (by omega), if_neg (by omega), if_pos h]
        · rw [if_pos (by omega), if_neg h]
      rw [he] at hend
      clear hc r1 r2 he
      generalize (if M.length ≤ k then (0 : Int) else -1) = z at *
      go_wp2_with (first | (go_at_call 99; refine hend.mono ?_; rintro e w2 ⟨rfl, rfl⟩))
      rw [Exit.noGoto_ret]
      go_ret
      rw [HC.out]
      exact ⟨rfl, rfl⟩
/-- Id -/
theorem id_any (L : List UInt8) (hL : L.length ≤ 1000000000) (w : World) (hW : WOk w) : Calls Tryz.prog 25 #[.string (bs L)] w fun e w' => e = .returned (.int .i64 (if idOk L then 0 else 4)) ∧ Chg (fun _ => False) w w' := by
  have hN := idnums_any L hL w hW
  cases hI : idOk L with
  | true =>
    rw [hI] at hN
    go_enter Tryz.func25, Tryz.ntmps25
    go_wp2_with (first | (go_at_call 65; refine hN.mono ?_; rintro e w1 ⟨v, rfl, hR, hC⟩))
    go_ret
    exact ⟨rfl, hC⟩
  | false =>
    rw [hI] at hN
    go_enter Tryz.func25, Tryz.ntmps25
    go_wp2_with (first | (go_at_call 65; refine hN.mono ?_; rintro e w1 ⟨v, rfl, hR, hC⟩))
    go_ret
    exact ⟨rfl, hC⟩
theorem bs_get (l : List UInt8) (j : Nat) (b : UInt8) (h : l[j]? = some b) : (bs l).data[j]! = b := by
  show l.toArray[j]! = b
  simp [h]
theorem dot_of (b : UInt8) (h : ((b.toNat : Nat) : Int) = 46) : b = 46 := by
  apply UInt8.toNat_inj.1
  show b.toNat = 46
  omega
theorem last_hit (s p : List UInt8) (hp : (46 : UInt8) ∉ p) : Lib.lastIndexByte (bs (s ++ 46 :: p)) 46 = (s.length : Int) := by
  have hz : (bs (s ++ 46 :: p)).size = s.length + 1 + p.length := by rw [bs_size]; simp; omega
  have hs : (s ++ 46 :: p)[s.length]? = some 46 := by simp
  rcases Lib.lastIndexByte_spec (bs (s ++ 46 :: p)) 46 with ⟨_, h⟩ | ⟨i, hi, e, hc, hn⟩
  · exact absurd (by rw [bs_get _ _ _ hs]; rfl) (h s.length (by omega))
  · rw [e]
    rcases Nat.lt_trichotomy i s.length with h4 | h4 | h4
    · exact absurd (by rw [bs_get _ _ _ hs]; rfl) (hn s.length h4 (by omega))
    · rw [h4]
    · obtain ⟨d, rfl⟩ : ∃ d, i = s.length + (d + 1) := ⟨i - s.length - 1, by omega⟩
      have hd : d < p.length := by omega
      have hg : (s ++ 46 :: p)[s.length + (d + 1)]? = some p[d] := by
        rw [List.getElem?_append_right (by omega), Nat.add_sub_cancel_left, List.getElem?_cons_succ, List.getElem?_eq_getElem hd]
      rw [bs_get _ _ _ hg] at hc
      exact absurd (dot_of _ hc ▸ List.getElem_mem hd) hp
theorem last_none (l : List UInt8) (h : (46 : UInt8) ∉ l) : Lib.lastIndexByte (bs l) 46 = -1 := by
  rcases Lib.lastIndexByte_spec (bs l) 46 with ⟨e, _⟩ | ⟨i, hi, e, hc, hn⟩
  · exact e
  · rw [bs_size] at hi
    rw [bs_get l i l[i] (List.getElem?_eq_getElem hi)] at hc
    exact absurd (dot_of _ hc ▸ List.getElem_mem hi) h
/-- Parent -/
theorem parent_any (L : List UInt8) (hL : L.length ≤ 1000000000) (w : World) (hW : WOk w) : Calls Tryz.prog 29 #[.string (bs L)] w fun e w' => e = .returned (.tuple #[.string (bs (idPar L).1), .bool (idPar L).2]) ∧ Chg (fun _ => False) w w' := by
  have hl := Tryz.strings_LastIndexByte (bs L) 46 (by rw [bs_size]; exact Nat.lt_of_le_of_lt hL (by decide)) w
  have hI := id_any L hL w hW
  unfold idPar
  by_cases hm : (46 : UInt8) ∈ L
  · obtain ⟨s, p, rfl, hp⟩ := cut_last 46 L hm
    rw [last_hit s p hp] at hl
    have x1 : (bs (s ++ 46 :: p)).extract 0 s.length = bs s := by
      have := bs_extract [] s (46 :: p)
      simpa using this
    have x2 : (bs (s ++ 46 :: p)).size = s.length + 1 + p.length := by rw [bs_size]; simp; omega
    have hlen : s.length + 1 + p.length ≤ 1000000000 := by simpa [Nat.add_assoc, Nat.add_comm, Nat.add_left_comm] using hL
    cases hok : idOk (s ++ 46 :: p) with
    | true =>
      rw [hok] at hI
      rw [if_pos ⟨hm, rfl⟩, idCut_eq s p hp]
      clear hL hm hok
      generalize bs (s ++ 46 :: p) = S at *
      go_enter Tryz.func29, Tryz.ntmps29
      go_wp2_with (first
        | (go_at_call 69; refine hl.mono ?_; rintro e w1 ⟨rfl, rfl⟩)
        | (go_at_call 25; refine hI.mono ?_; rintro e w2 ⟨rfl, hC⟩))
      go_ret2
      exact ⟨rfl, hC⟩
    | false =>
      rw [hok] at hI
      rw [if_neg (fun h => by simp at h)]
      clear hL hm hok
      generalize bs (s ++ 46 :: p) = S at *
      go_enter Tryz.func29, Tryz.ntmps29
      go_wp2_with (first
        | (go_at_call 69; refine hl.mono ?_; rintro e w1 ⟨rfl, rfl⟩)
        | (go_at_call 25; refine hI.mono ?_; rintro e w2 ⟨rfl, hC⟩))
      go_ret2
      exact ⟨rfl, hC⟩
  · rw [last_none L hm] at hl
    rw [if_neg (fun h => hm h.1)]
    go_enter Tryz.func29, Tryz.ntmps29
    go_wp2_with (first
      | (go_at_call 69; refine hl.mono ?_; rintro e w1 ⟨rfl, rfl⟩))
    go_ret2
    exact ⟨rfl, Chg.refl _ _⟩
/-- Less -/
theorem less_any (L M : List UInt8) (hL : L.length ≤ 1000000000) (hM : M.length ≤ 1000000000) (w : World) (hW : WOk w) : Calls Tryz.prog 34 #[.string (bs L), .string (bs M)] w fun e w' => e = .returned (.bool (idLess L M)) ∧ Chg (fun _ => False) w w' := by
  have hN := idnums_any L hL w hW
  have hN2 := fun W hC => idnums_any M hM W (hW.mono (Chg.below (w' := W) hC _ (Nat.le_refl _) (fun _ _ h => h)))
  have hl1 : ∀ K : List UInt8, K.length ≤ 1000000000 → (idRow K).length ≤ 4000000000 := fun K hK => by
    unfold idRow
    split
    · rw [idNs_len]
      have := (pieces_len_le 46 K).1
      unfold parts
      exact Nat.le_trans this (Nat.le_trans (Nat.add_le_add_right hK 1) (by decide))
    · simp
  have hcmp := fun W v1 v2 (a : NatRow W v1 (idRow L)) (b : NatRow W v2 (idRow M)) => compare_any a b (hl1 L hL) (hl1 M hM)
  have HW := Lib.hid hN2
  have HC := Lib.hid hcmp
  clear hN2 hcmp hl1 hL hM
  unfold idLess
  have arm : True := trivial
  cases hI : idOk L with
  | false =>
    rw [hI] at hN
    rw [Bool.false_and, Bool.false_and]
    have t1 : True := trivial
    go_enter Tryz.func34, Tryz.ntmps34
    go_wp2_with (first
      | (go_at_call 65; have _t := t1; clear _t t1; refine hN.mono ?_; rintro e w1 ⟨v, rfl, hR, hC⟩; have hNN := HW.out _ hC)
      | (go_at_call 65; refine hNN.mono ?_; rintro e w2 ⟨v2, rfl, hR2, hC2⟩))
    go_ret
    exact ⟨rfl, hC.trans hC2⟩
  | true =>
    rw [hI] at hN
    rw [Bool.true_and]
    cases hI2 : idOk M with
    | false =>
      rw [hI2] at HW
      rw [Bool.false_and]
      have t1 : True := trivial
      go_enter Tryz.func34, Tryz.ntmps34
      go_wp2_with (first
        | (go_at_call 65; have _t := t1; clear _t t1; refine hN.mono ?_; rintro e w1 ⟨v, rfl, hR, hC⟩; have hNN := HW.out _ hC)
        | (go_at_call 65; refine hNN.mono ?_; rintro e w2 ⟨v2, rfl, hR2, hC2⟩))
      go_ret
      exact ⟨rfl, hC.trans hC2⟩
    | true =>
      rw [hI2] at HW
      rw [Bool.true_and]
      rw [idRow_ns hI] at hN HC
      rw [idRow_ns hI2] at HW HC
      have t1 : True := trivial
      go_enter Tryz.func34, Tryz.ntmps34
      go_wp2_with (first
        | (go_at_call 65; have _t := t1; clear _t t1; refine hN.mono ?_; rintro e w1 ⟨v, rfl, hR, hC⟩; have hNN := HW.out _ hC; have hR1 := NatRow.of_own hR)
        | (go_at_call 65; refine hNN.mono ?_; rintro e w2 ⟨v2, rfl, hR2, hC2⟩; have hcm := HC.out w2 v v2 (hR1.keep fun k c t f e => hC2.keep e (fun x => x)) (NatRow.of_own hR2))
        | (go_at_call 66; refine hcm.mono ?_; rintro e w3 ⟨rfl, rfl⟩))
      go_ret
      exact ⟨rfl, hC.trans hC2⟩
theorem bs_append (a b : List UInt8) : bs a ++ bs b = bs (a ++ b) := by
  apply ByteArray.ext
  simp [bs, ByteArray.data_append]
theorem dec_small {n : Nat} (h : n ≤ 9007199254740991) : (Lib.decDigits n).length ≤ 20 := by
  rcases Nat.lt_or_ge (Lib.decDigits n).length 21 with h1 | h1
  · omega
  · exfalso
    have h2 := len_digits 9007199254740991 n (by
      have : (Lib.decDigits 9007199254740991).length = 16 := by decide +kernel
      omega)
    omega
/-- Child -/
theorem child_any (L : List UInt8) (n : Int) (hL : L.length ≤ 1000000000) (w : World) (hW : WOk w) : Calls Tryz.prog 31 #[.string (bs L), .int .i64 n] w fun e w' => e = .returned (.tuple #[.string (bs (idKid L n)), .int .i64 (idKidE L n)]) ∧ Chg (fun _ => False) w w' := by
  have hN : Calls Tryz.prog 65 #[.string (bs L)] w fun e w' => ∃ a c, e = .returned (.tuple #[.slice a (idRow L).length c, .bool (idOk L)]) ∧ Chg (fun _ => False) w w' := by
    refine (idnums_any L hL w hW).mono ?_
    rintro e w' ⟨v, rfl, hR, hC⟩
    obtain ⟨a, l, c, rfl⟩ := own_slice hR
    obtain rfl := own_lenI hR
    exact ⟨a, c, rfl, hC⟩
  have hD := fun W (hC : Chg (fun _ => False) w W) => digits_any n W (hW.mono (Chg.below hC _ (Nat.le_refl _) (fun _ _ h => h)))
  have HD := Lib.hid hD
  clear hD
  have key : ∀ z : Int, z ≠ 0 → idKidE L n = z → idKid L n = [] := fun z hz e => by unfold idKid; rw [e, if_neg hz]
  cases hI : idOk L with
  | false =>
    have e : idKidE L n = 4 := by unfold idKidE; rw [hI]; rfl
    rw [key 4 (by decide) e, e]
    rw [hI] at hN
    clear key e
    go_enter Tryz.func31, Tryz.ntmps31
    go_wp2_with (first
      | (go_at_call 65; refine hN.mono ?_; rintro e w1 ⟨a, c, rfl, hC⟩; have hDD := HD.out _ hC)
      | (go_at_call 71; refine hDD.mono ?_; rintro e w2 ⟨rfl, hB⟩))
    go_ret2
    exact ⟨rfl, hC.trans (Below.chg hB (Nat.le_refl _) _)⟩
  | true =>
    rw [hI] at hN
    rw [idRow_ns hI, idNs_len] at hN
    by_cases h1 : 1 ≤ n ∧ n ≤ 9007199254740991
    · have hdr : digR n = Lib.decDigits n.toNat := by unfold digR; rw [if_pos (by omega)]
      have hde : digE n = 0 := by unfold digE; rw [if_pos (by omega)]
      rw [hdr, hde] at HD
      have hds := dec_small (n := n.toNat) (by omega)
      have hlt : ¬ (n < 1) := by omega
      by_cases h8 : (parts L).length = 8
      · have e : idKidE L n = 5 := by unfold idKidE; rw [if_pos hI, if_pos h1, if_pos h8]
        rw [key 5 (by decide) e, e]
        rw [h8] at hN
        clear h1 hL hds key e
        go_enter Tryz.func31, Tryz.ntmps31
        go_wp2_with (first
          | (go_at_call 65; refine hN.mono ?_; rintro e w1 ⟨a, c, rfl, hC⟩; have hDD := HD.out _ hC)
          | (go_at_call 71; refine hDD.mono ?_; rintro e w2 ⟨rfl, hB⟩))
        go_ret2
        exact ⟨rfl, hC.trans (Below.chg hB (Nat.le_refl _) _)⟩
      · have e : idKidE L n = 0 := by unfold idKidE; rw [if_pos hI, if_pos h1, if_neg h8]
        have ek : idKid L n = L ++ 46 :: Lib.decDigits n.toNat := by unfold idKid; rw [if_pos e]
        rw [ek, e]
        clear key e ek
        have h8' : (((parts L).length : Int) == 8) = false := by rw [beq_eq_false_iff_ne]; omega
        have e1 : bs L ++ ⟨#[46]⟩ ++ bs (Lib.decDigits n.toNat) = bs (L ++ 46 :: Lib.decDigits n.toNat) := by
          rw [show (⟨#[46]⟩ : ByteArray) = bs [46] from rfl, bs_append, bs_append]
          simp
        have z1 : (bs L).size = L.length := bs_size _
        have z2 : (bs L ++ ⟨#[46]⟩).size = L.length + 1 := by rw [ByteArray.size_append, bs_size]; rfl
        have z3 : (bs (Lib.decDigits n.toNat)).size = (Lib.decDigits n.toNat).length := bs_size _
        have z4 : (⟨#[46]⟩ : ByteArray).size = 1 := rfl
        have E1 := Lib.hid e1
        clear h1 h8 e1
        generalize (Lib.decDigits n.toNat).length = dl at *
        generalize bs (Lib.decDigits n.toNat) = ds at *
        go_enter Tryz.func31, Tryz.ntmps31
        go_wp2_with (first
          | (go_at_call 65; refine hN.mono ?_; rintro e w1 ⟨a, c, rfl, hC⟩; have hDD := HD.out _ hC)
          | (go_at_call 71; refine hDD.mono ?_; rintro e w2 ⟨rfl, hB⟩))
        go_ret2
        rw [← E1.out]
        exact ⟨rfl, hC.trans (Below.chg hB (Nat.le_refl _) _)⟩
    · have e : idKidE L n = 9 := by unfold idKidE; rw [if_pos hI, if_neg h1]
      rw [key 9 (by decide) e, e]
      clear key e
      by_cases h2 : n = 0
      · subst h2
        rw [show digE 0 = 0 from rfl] at HD
        clear h1
        go_enter Tryz.func31, Tryz.ntmps31
        go_wp2_with (first
          | (go_at_call 65; refine hN.mono ?_; rintro e w1 ⟨a, c, rfl, hC⟩; have hDD := HD.out _ hC)
          | (go_at_call 71; refine hDD.mono ?_; rintro e w2 ⟨rfl, hB⟩))
        go_ret2
        exact ⟨rfl, hC.trans (Below.chg hB (Nat.le_refl _) _)⟩
      · rw [show digE n = 9 by unfold digE; rw [if_neg (by omega)]] at HD
        clear h1 h2
        go_enter Tryz.func31, Tryz.ntmps31
        go_wp2_with (first
          | (go_at_call 65; refine hN.mono ?_; rintro e w1 ⟨a, c, rfl, hC⟩; have hDD := HD.out _ hC)
          | (go_at_call 71; refine hDD.mono ?_; rintro e w2 ⟨rfl, hB⟩))
        go_ret2
        exact ⟨rfl, hC.trans (Below.chg hB (Nat.le_refl _) _)⟩
end Go.Proofs.YtfhmmekamommcaaGreatDoor
