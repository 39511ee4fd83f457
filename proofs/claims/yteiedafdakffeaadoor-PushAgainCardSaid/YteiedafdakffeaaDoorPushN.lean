/- push: the cursor: take, number, limit, text. -/
import Derived.Test.YteiedafdakffeaaDoorPushM
import Derived.Laws.BitsLemmas
namespace Go.Proofs.YteiedafdakffeaaDoor
set_option linter.unusedVariables false
set_option linter.unusedSimpArgs false
open Go Go.RowKit
open Go.Proofs.YteiedafdakffeaaDoorW.PrintWords (Kd bytesOf bytesOf_length ReadsInt ReadsOf print_take_of print_drop_of)
/-! ### what the cursor does, plainly -/
def takeL (b : List Int) (e : Int) (n : Nat) : List Int := if e = 0 then if n ≤ b.length then b.take n else [] else []
def takeR (b : List Int) (e : Int) (n : Nat) : List Int := if e = 0 then if n ≤ b.length then b.drop n else b else b
def takeE (b : List Int) (e : Int) (n : Nat) : Int := if e = 0 then if n ≤ b.length then 0 else 3 else e
def numOf (l : List Int) : Int := l.foldl (fun n x => n * 256 + x) 0
def limE (n most e : Int) : Int := if e = 0 then if most < n then 5 else 0 else e
/-- the cursor in block C: what is left (bytes of world w0), and the error -/
def CurAt (w0 w : World) (C : Nat) (b : List Int) (e : Int) : Prop :=
  ∃ A cap, w.heap[C]? = some (.cells #[.slice A b.length cap, .int .i64 e] 57 (0, 0)) ∧ b.length ≤ cap ∧ ReadsInt w0 .u8 A b.length b
theorem reads_chg {S : Nat → Prop} {w w' : World} {A : Option Addr} {n : Nat} {xs : List Int} (h : ReadsInt w .u8 A n xs) (hC : Chg S w w') (hS : ∀ g i x, S g → w.cell? ⟨g, i, none⟩ = some (.int .u8 x) → False) : ReadsInt w' .u8 A n xs := by
  refine ⟨h.1, h.2.1, fun h0 => ?_⟩
  obtain ⟨ad, e, hc⟩ := h.2.2 h0
  refine ⟨ad, e, fun j hj => ?_⟩
  have hcj := hc j hj
  have hs : (ad.add j).spot = none := World.cell?_spot hcj
  refine hC.cell hcj (fun hS2 => ?_)
  generalize ad.add j = a at *
  obtain ⟨g, i, s⟩ := a
  simp at hs
  subst hs
  exact hS g i _ hS2 hcj
theorem reads_keep {w w' : World} {A : Option Addr} {n : Nat} {xs : List Int} (h : ReadsInt w .u8 A n xs) (hC : Chg (fun _ => False) w w') : ReadsInt w' .u8 A n xs := reads_chg h hC (fun _ _ _ h _ => h)
/-- no byte lies in the cursor's block -/
theorem cur_no {w : World} {C : Nat} {v : Value} {a : Option Addr} {n c : Nat} {e : Int} (h : w.heap[C]? = some (.cells #[.slice a n c, .int .i64 e] 57 (0, 0))) (g i : Nat) (x : Int) (hg : g = C) (hc : w.cell? ⟨g, i, none⟩ = some (.int .u8 x)) : False := by
  subst hg
  rw [cell_of_heap h] at hc
  match i, hc with
  | 0, hc => simp at hc
  | 1, hc => simp at hc
  | (n + 2), hc => simp at hc
theorem drop_end (b : List Int) (n : Nat) : (b.drop n).length = b.length - n := List.length_drop
set_option maxRecDepth 100000 in
set_option maxHeartbeats 4000000 in
theorem take_some (w0 w : World) (C : Nat) (b : List Int) (e : Int) (n : Nat) (hn : n ≤ 9223372036854775807) (hcur : CurAt w0 w C b e) :
    Calls Tryd.prog 68 #[.pointer (some ⟨C, 0, none⟩), .int .i64 n] w fun en w' => ∃ A1 c1, en = .returned (.slice A1 (takeL b e n).length c1) ∧ (takeL b e n).length ≤ c1 ∧ ReadsInt w0 .u8 A1 (takeL b e n).length (takeL b e n) ∧ CurAt w0 w' C (takeR b e n) (takeE b e n) ∧ Chg (fun k => k = C) w w' := by
  obtain ⟨A, cap, hH, hcap, hR⟩ := hcur
  have hmx : b.length ≤ 9223372036854775807 := hR.2.1
  have c0 : w.cell? ⟨C, 0, none⟩ = some (.slice A b.length cap) := cell_of_heap hH 0
  have c1 : w.cell? ⟨C, 1, none⟩ = some (.int .i64 e) := cell_of_heap hH 1
  have hf := fun i => free_of_heap hH i
  have f0 := hf 0
  have f1 := hf 1
  clear hf
  have HH := Lib.hid hH
  have HR := Lib.hid hR
  by_cases he : e = 0
  · subst he
    by_cases hle : n ≤ b.length
    · have e1 : takeL b 0 n = b.take n := by unfold takeL; rw [if_pos rfl, if_pos hle]
      have e2 : takeR b 0 n = b.drop n := by unfold takeR; rw [if_pos rfl, if_pos hle]
      have e3 : takeE b 0 n = 0 := by unfold takeE; rw [if_pos rfl, if_pos hle]
      rw [e1, e2, e3]
      obtain ⟨i0, hi, hz0, hz1, hz2⟩ := info_parts info5
      obtain ⟨hcut, hA, hC⟩ := print_take_of (P := Tryd.prog) (Value.int .u8) (0 : Int) 22 5 .i64 Tryd.underlying22 hi hz1 A cap b (n : Int) (by omega) (by omega) hcap
      obtain ⟨A', hcut2, hA2, hC2⟩ := print_drop_of (P := Tryd.prog) (Value.int .u8) (0 : Int) 22 5 .i64 Tryd.underlying22 hi hz1 A cap b (n : Int) (by omega) (by omega) hcap
      rw [Int.toNat_natCast] at hcut hA hC hcut2 hA2 hC2
      have HA := Lib.hid (hA w0 HR.out)
      have HA2 := Lib.hid (hA2 w0 HR.out)
      have HC := Lib.hid hC
      have HC2 := Lib.hid hC2
      clear hA hA2 hC hC2 e1 e2 e3 hH hR hi hz0 hz1 hz2
      go_enter Tryd.func68, Tryd.ntmps68
      go_wp2_with fail
      go_ret
      have hCh : Chg (fun k => k = C) w (w.setCell ⟨C, 0, none⟩ (.slice A' (b.length - n) (cap - n))) := (Chg.refl (fun k => k = C) w).setCell (p := ⟨C, 0, none⟩) (.inl rfl) _
      refine ⟨A, cap, by rw [show (b.take n).length = n by rw [List.length_take]; omega]; rfl, HC.out, HA.out, ⟨A', cap - n, ?_, HC2.out, HA2.out⟩, hCh⟩
      rw [heap_setCell_cells HH.out, List.length_drop]
      rfl
    · have e1 : takeL b 0 n = [] := by unfold takeL; rw [if_pos rfl, if_neg hle]
      have e2 : takeR b 0 n = b := by unfold takeR; rw [if_pos rfl, if_neg hle]
      have e3 : takeE b 0 n = 3 := by unfold takeE; rw [if_pos rfl, if_neg hle]
      rw [e1, e2, e3]
      clear e1 e2 e3 hH hR
      go_enter Tryd.func68, Tryd.ntmps68
      go_wp2_with fail
      go_ret
      have hCh : Chg (fun k => k = C) w (w.setCell ⟨C, 1, none⟩ (.int .i64 3)) := (Chg.refl (fun k => k = C) w).setCell (p := ⟨C, 1, none⟩) (.inl rfl) _
      refine ⟨none, 0, rfl, Nat.le_refl _, ⟨rfl, by simp, fun h => absurd h (by simp)⟩, ⟨A, cap, ?_, hcap, HR.out⟩, hCh⟩
      rw [heap_setCell_cells HH.out]
      rfl
  · have e1 : takeL b e n = [] := by unfold takeL; rw [if_neg he]
    have e2 : takeR b e n = b := by unfold takeR; rw [if_neg he]
    have e3 : takeE b e n = e := by unfold takeE; rw [if_neg he]
    rw [e1, e2, e3]
    have h1 : (e == 0) = false := beq_eq_false_iff_ne.2 he
    have h2 : (e != 0) = true := bne_iff_ne.2 he
    clear e1 e2 e3 hH hR he
    go_enter Tryd.func68, Tryd.ntmps68
    go_wp2_with fail
    go_ret
    exact ⟨none, 0, rfl, Nat.le_refl _, ⟨rfl, by simp, fun h => absurd h (by simp)⟩, ⟨A, cap, HH.out, hcap, HR.out⟩, Chg.refl _ _⟩
/-! ### number -/
theorem numOf_snoc (l : List Int) (x : Int) : numOf (l ++ [x]) = numOf l * 256 + x := by simp [numOf]
theorem numFold (l : List Int) (h : ∀ x ∈ l, 0 ≤ x ∧ x ≤ 255) : ∀ acc : Int, 0 ≤ acc → 0 ≤ l.foldl (fun n x => n * 256 + x) acc ∧ l.foldl (fun n x => n * 256 + x) acc < (acc + 1) * 256 ^ l.length := by
  induction l with
  | nil => intro acc h0; simp; omega
  | cons x t ih =>
    intro acc h0
    have hx := h x (by simp)
    obtain ⟨h1, h2⟩ := ih (fun y hy => h y (List.mem_cons_of_mem _ hy)) (acc * 256 + x) (by omega)
    refine ⟨h1, Int.lt_of_lt_of_le h2 ?_⟩
    rw [List.length_cons, Int.pow_succ, Int.mul_comm (256 ^ t.length) 256, ← Int.mul_assoc]
    exact Int.mul_le_mul_of_nonneg_right (by omega) (Int.pow_nonneg (by decide))
theorem numOf_lt (l : List Int) (h : ∀ x ∈ l, 0 ≤ x ∧ x ≤ 255) : 0 ≤ numOf l ∧ numOf l < 256 ^ l.length := by
  have := numFold l h 0 (by omega)
  rw [Int.zero_add, Int.one_mul] at this
  exact this
theorem or_byte (n x : Int) (h0 : 0 ≤ n) (h1 : n < 281474976710656) (h2 : 0 ≤ x) (h3 : x ≤ 255) : bits .or .i64 (n * 256) x = n * 256 + x :=
  bits_join .i64 56 (by decide) (fun m a b => by rw [IntKind.wrap_i64]; omega) 8 (n * 256) x (by omega) (by omega) (by omega) h2 (by omega) (by omega)
theorem numOf_lt6 (l : List Int) (h : ∀ x ∈ l, 0 ≤ x ∧ x ≤ 255) (hl : l.length ≤ 6) : 0 ≤ numOf l ∧ numOf l < 281474976710656 := by
  obtain ⟨h1, h2⟩ := numOf_lt l h
  have : (256 : Int) ^ l.length ≤ 281474976710656 := by
    have : l.length = 0 ∨ l.length = 1 ∨ l.length = 2 ∨ l.length = 3 ∨ l.length = 4 ∨ l.length = 5 ∨ l.length = 6 := by omega
    rcases this with h | h | h | h | h | h | h <;> rw [h] <;> decide
  exact ⟨h1, by omega⟩
theorem numOf_lt7 (l : List Int) (h : ∀ x ∈ l, 0 ≤ x ∧ x ≤ 255) (hl : l.length ≤ 7) : 0 ≤ numOf l ∧ numOf l < 72057594037927936 := by
  obtain ⟨h1, h2⟩ := numOf_lt l h
  have : (256 : Int) ^ l.length ≤ 72057594037927936 := by
    have : l.length = 0 ∨ l.length = 1 ∨ l.length = 2 ∨ l.length = 3 ∨ l.length = 4 ∨ l.length = 5 ∨ l.length = 6 ∨ l.length = 7 := by omega
    rcases this with h | h | h | h | h | h | h | h <;> rw [h] <;> decide
  exact ⟨h1, by omega⟩
theorem takeL_sub {b : List Int} {e : Int} {n : Nat} {x : Int} (h : x ∈ takeL b e n) : x ∈ b := by
  unfold takeL at h
  split at h
  · split at h
    · exact List.mem_of_mem_take h
    · simp at h
  · simp at h
theorem takeR_sub {b : List Int} {e : Int} {n : Nat} {x : Int} (h : x ∈ takeR b e n) : x ∈ b := by
  unfold takeR at h
  split at h
  · split at h
    · exact List.mem_of_mem_drop h
    · exact h
  · exact h
theorem takeL_len (b : List Int) (e : Int) (n : Nat) : (takeL b e n).length ≤ n := by
  unfold takeL
  split
  · split
    · rw [List.length_take]; omega
    · simp
  · simp
set_option maxRecDepth 100000 in
set_option maxHeartbeats 4000000 in
theorem number_some (w0 w : World) (C : Nat) (b : List Int) (e : Int) (n : Nat) (hn : n ≤ 7) (h0 : Chg (fun _ => False) w0 w) (hC0 : w0.heap.size ≤ C) (hcur : CurAt w0 w C b e) (hb : ∀ x ∈ b, 0 ≤ x ∧ x ≤ 255) :
    Calls Tryd.prog 33 #[.pointer (some ⟨C, 0, none⟩), .int .i64 n] w fun en w' => en = .returned (.int .i64 (numOf (takeL b e n))) ∧ CurAt w0 w' C (takeR b e n) (takeE b e n) ∧ Chg (fun k => k = C) w w' := by
  have ht := take_some w0 w C b e n (by omega) hcur
  have hLb : ∀ x ∈ takeL b e n, 0 ≤ x ∧ x ≤ 255 := fun x hx => hb x (takeL_sub hx)
  have hLl : (takeL b e n).length ≤ 7 := Nat.le_trans (takeL_len b e n) hn
  generalize takeL b e n = L at *
  have HT := Lib.hid ht
  have H0 := Lib.hid h0
  clear h0
  have HLB := Lib.hid hLb
  clear ht hcur hLb hb
  go_enter Tryd.func33, Tryd.ntmps33
  go_wp2_with fail
  refine HT.out.mono ?_
  rintro en w2 ⟨A1, c1, rfl, hc1, hR0, hC, hCh⟩
  have hR := reads_keep hR0 (H0.out.trans' hCh (fun i h1 h2 => by omega))
  have HC := Lib.hid hC
  have HR := Lib.hid hR
  clear hR0
  have HCH := Lib.hid hCh
  clear HT hC hR hCh
  go_wp2_with fail
  go_loop [4, 6, 11] (fun s4 _ i => ∃ j : Nat, j ≤ L.length ∧ i = .int .i64 j ∧ s4 = .int .i64 (numOf (L.take j))) (fun _ _ i => L.length - (intOf i).toNat)
  case atStart => exact ⟨0, by omega, rfl, rfl⟩
  case round =>
    obtain ⟨j, hj, rfl, rfl⟩ := hrel
    by_cases hlt : j < L.length
    · obtain ⟨ad, rfl, hcell⟩ := HR.out.2.2 (by omega)
      have cj := hcell j hlt
      have hx : L.getD j 0 = L[j] := by simp [List.getD, hlt]
      have hxb := HLB.out L[j] (List.getElem_mem hlt)
      have hts : L.take (j + 1) = L.take j ++ [L[j]] := by rw [List.take_add_one, List.getElem?_eq_getElem hlt]; rfl
      have h6 := numOf_lt6 (L.take j) (fun x hx => HLB.out x (List.mem_of_mem_take hx)) (by rw [List.length_take]; omega)
      have hor := or_byte (numOf (L.take j)) L[j] h6.1 h6.2 hxb.1 hxb.2
      have hns := numOf_snoc (L.take j) L[j]
      rw [← hts] at hns
      rw [hx] at cj
      rw [← hns] at hor
      have hsp : ad.spot = none := (show (ad.add 0).spot = ad.spot by simp [Addr.add]).symm.trans (World.cell?_spot (hcell 0 (by omega)))
      obtain ⟨g, p, s⟩ := ad
      simp at hsp
      subst hsp
      have ea : (⟨g, p, none⟩ : Addr).add j = ⟨g, p + j, none⟩ := by
        unfold Addr.add
        by_cases hj : j = 0
        · subst hj; simp
        · simp [hj]
      rw [ea] at cj
      clear hcell hx hts hns ea
      generalize L[j] = x at *
      generalize hNN : numOf (L.take (j + 1)) = N1 at *
      have HNN := Lib.hid hNN
      clear hNN
      generalize hN : numOf (L.take j) = N at *
      have hN1 : wrap64 (N * 256) = N * 256 := by unfold wrap64; omega
      go_wp2_with fail
      go_round
      case rel => exact ⟨j + 1, by omega, by go_num, by rw [HNN.out]⟩
      case measure => simp [intOf] <;> omega
    · obtain rfl : j = L.length := by omega
      rw [List.take_length]
      go_wp2_with fail
      go_ret
      exact ⟨rfl, HC.out, HCH.out⟩
theorem CurAt.setE {w0 w : World} {C : Nat} {b : List Int} {e : Int} (h : CurAt w0 w C b e) (x : Int) : CurAt w0 (w.setCell ⟨C, 1, none⟩ (.int .i64 x)) C b x := by
  obtain ⟨A, cap, hH, hcap, hR⟩ := h
  refine ⟨A, cap, ?_, hcap, hR⟩
  rw [heap_setCell_cells hH]
  rfl
set_option maxRecDepth 100000 in
set_option maxHeartbeats 4000000 in
theorem limit_some (w0 w : World) (C : Nat) (b : List Int) (e n most : Int) (hcur : CurAt w0 w C b e) :
    Calls Tryd.prog 38 #[.pointer (some ⟨C, 0, none⟩), .int .i64 n, .int .i64 most] w fun en w' => en = .returned (.int .i64 n) ∧ CurAt w0 w' C b (limE n most e) ∧ Chg (fun k => k = C) w w' := by
  have HCU := Lib.hid hcur
  obtain ⟨A, cap, hH, hcap, hR⟩ := hcur
  have c1 : w.cell? ⟨C, 1, none⟩ = some (.int .i64 e) := cell_of_heap hH 1
  have f1 := free_of_heap hH 1
  clear hH hcap hR
  by_cases he : e = 0
  · subst he
    by_cases hm : most < n
    · have e1 : limE n most 0 = 5 := by unfold limE; rw [if_pos rfl, if_pos hm]
      rw [e1]
      clear e1
      go_enter Tryd.func38, Tryd.ntmps38
      go_wp2_with fail
      go_ret
      exact ⟨rfl, HCU.out.setE 5, (Chg.refl (fun k => k = C) w).setCell (p := ⟨C, 1, none⟩) (.inl rfl) _⟩
    · have e1 : limE n most 0 = 0 := by unfold limE; rw [if_pos rfl, if_neg hm]
      rw [e1]
      clear e1
      go_enter Tryd.func38, Tryd.ntmps38
      go_wp2_with fail
      go_ret
      exact ⟨rfl, HCU.out, Chg.refl _ _⟩
  · have e1 : limE n most e = e := by unfold limE; rw [if_neg he]
    rw [e1]
    have h1 : (e == 0) = false := beq_eq_false_iff_ne.2 he
    clear e1 he
    go_enter Tryd.func38, Tryd.ntmps38
    go_wp2_with fail
    go_ret
    exact ⟨rfl, HCU.out, Chg.refl _ _⟩
/-- what text tells; what is left; the error -/
def numN (b : List Int) (e : Int) (n : Nat) : Nat := (numOf (takeL b e n)).toNat
def textE (b : List Int) (e : Int) : Int := limE (numOf (takeL b e 3)) 65536 (takeE b e 3)
def textV (b : List Int) (e : Int) : ByteArray := strOfNums (takeL (takeR b e 3) (textE b e) (numN b e 3))
def textRB (b : List Int) (e : Int) : List Int := takeR (takeR b e 3) (textE b e) (numN b e 3)
def textRE (b : List Int) (e : Int) : Int := takeE (takeR b e 3) (textE b e) (numN b e 3)
set_option maxRecDepth 100000 in
set_option maxHeartbeats 4000000 in
theorem text_some (w0 w : World) (C : Nat) (b : List Int) (e : Int) (h0 : Chg (fun _ => False) w0 w) (hC0 : w0.heap.size ≤ C) (hcur : CurAt w0 w C b e) (hb : ∀ x ∈ b, 0 ≤ x ∧ x ≤ 255) :
    Calls Tryd.prog 37 #[.pointer (some ⟨C, 0, none⟩)] w fun en w' => en = .returned (.string (textV b e)) ∧ CurAt w0 w' C (textRB b e) (textRE b e) ∧ Chg (fun k => k = C) w w' := by
  have hn := number_some w0 w C b e 3 (by omega) h0 hC0 hcur hb
  have hlt := numOf_lt7 (takeL b e 3) (fun x hx => hb x (takeL_sub hx)) (Nat.le_trans (takeL_len b e 3) (by omega))
  have HN := Lib.hid hn
  have H0 := Lib.hid h0
  clear h0
  have HLT := Lib.hid hlt
  clear hn hlt hb hcur
  have HV : Hid (textV b e = strOfNums (takeL (takeR b e 3) (limE (numOf (takeL b e 3)) 65536 (takeE b e 3)) (numOf (takeL b e 3)).toNat)) := Lib.hid rfl
  have HRB : Hid (textRB b e = takeR (takeR b e 3) (limE (numOf (takeL b e 3)) 65536 (takeE b e 3)) (numOf (takeL b e 3)).toNat) := Lib.hid rfl
  have HRE : Hid (textRE b e = takeE (takeR b e 3) (limE (numOf (takeL b e 3)) 65536 (takeE b e 3)) (numOf (takeL b e 3)).toNat) := Lib.hid rfl
  generalize numOf (takeL b e 3) = N at *
  obtain ⟨m, rfl⟩ := Int.eq_ofNat_of_zero_le HLT.out.1
  have hm : m < 72057594037927936 := by have := HLT.out.2; omega
  rw [Int.toNat_natCast] at HV HRB HRE
  generalize takeE b e 3 = E1 at *
  generalize takeR b e 3 = R1 at *
  go_enter Tryd.func37, Tryd.ntmps37
  go_wp2_with fail
  refine HN.out.mono ?_
  rintro en w2 ⟨rfl, hC2, hCh2⟩
  have hlim := limit_some w0 w2 C R1 E1 (m : Int) 65536 hC2
  have HLIM := Lib.hid hlim
  have HCH2 := Lib.hid hCh2
  clear HN hC2 hCh2 hlim
  go_wp2_with fail
  refine HLIM.out.mono ?_
  rintro en w3 ⟨rfl, hC3, hCh3⟩
  have htk := take_some w0 w3 C R1 (limE (m : Int) 65536 E1) m (by omega) hC3
  have HTK := Lib.hid htk
  have HCH3 := Lib.hid (HCH2.out.trans hCh3)
  clear HLIM hC3 hCh3 htk HCH2
  go_wp2_with fail
  refine HTK.out.mono ?_
  rintro en w4 ⟨A1, c1, rfl, hc1, hR0, hC4, hCh4⟩
  have hR := reads_keep hR0 (H0.out.trans' (HCH3.out.trans hCh4) (fun i h1 h2 => by omega))
  clear hR0
  have hconv := Kd.C_string (P := Tryd.prog) (A := A1) (c := c1) Tryd.underlying22 Tryd.underlying5 Tryd.underlying9 (Kd.C_of_reads (d := (0 : Int)) (h1 := fun _ => rfl) hR)
  have HC4 := Lib.hid hC4
  have HCH4 := Lib.hid (HCH3.out.trans hCh4)
  clear HTK hR hC4 hCh4 HCH3
  go_wp2_with fail
  go_ret
  exact ⟨by rw [HV.out]; rfl, by rw [HRB.out, HRE.out]; exact HC4.out, HCH4.out⟩
end Go.Proofs.YteiedafdakffeaaDoor
