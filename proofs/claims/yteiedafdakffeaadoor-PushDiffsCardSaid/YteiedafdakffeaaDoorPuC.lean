/- push: the cursor: take, number, limit, text. (And what follows from it: PushN, PushO, PushP, PushQ, PushR.) -/
import Derived.Test.YteiedafdakffeaaDoorPuB
import Derived.Laws.BitsLemmas
import Derived.Deep.QuietTactic
import Derived.BigQuiet
/- push: the cursor: take, number, limit, text. -/
namespace Go.Proofs.YteiedafdakffeaaDoor
set_option linter.unusedVariables false
set_option linter.unusedSimpArgs false
open Go Go.RowKit
open Go.Proofs.YteiedafdakffeaaDoorW.PrintWords (Kd bytesOf bytesOf_length ReadsInt ReadsOf print_take_of print_drop_of)
/-! ### what the cursor does, plainly -/
def takeL (b : List Int) (e : Int) (n : Nat) : List Int := if e = 0 then if n ≤ b.length then b.take n else [] else []
def takeR (b : List Int) (e : Int) (n : Nat) : List Int := if e = 0 then if n ≤ b.length then b.drop n else b else b
def takeE (b : List Int) (e : Int) (n : Nat) : Int := if e = 0 then if n ≤ b.length then 0 else 3 else e
def numOf (l : List Int) : Int := l.foldl (fun n x => n * 256 + x) 0
def limE (n most e : Int) : Int := if e = 0 then if most < n then 5 else 0 else e
/-- the cursor in block C: what is left (bytes of world w0), and the error -/
def CurAt (w0 w : World) (C : Nat) (b : List Int) (e : Int) : Prop :=
  ∃ A cap, w.heap[C]? = some (.cells #[.slice A b.length cap, .int .i64 e] 57 (0, 0)) ∧ b.length ≤ cap ∧ ReadsInt w0 .u8 A b.length b
theorem reads_chg {S : Nat → Prop} {w w' : World} {A : Option Addr} {n : Nat} {xs : List Int} (h : ReadsInt w .u8 A n xs) (hC : Chg S w w') (hS : ∀ g i x, S g → w.cell? ⟨g, i, none⟩ = some (.int .u8 x) → False) : ReadsInt w' .u8 A n xs := by
  refine ⟨h.1, h.2.1, fun h0 => ?_⟩
  obtain ⟨ad, e, hc⟩ := h.2.2 h0
  refine ⟨ad, e, fun j hj => ?_⟩
  have hcj := hc j hj
  have hs : (ad.add j).spot = none := World.cell?_spot hcj
  refine hC.cell hcj (fun hS2 => ?_)
  generalize ad.add j = a at *
  obtain ⟨g, i, s⟩ := a
  simp at hs
  subst hs
  exact hS g i _ hS2 hcj
theorem reads_keep {w w' : World} {A : Option Addr} {n : Nat} {xs : List Int} (h : ReadsInt w .u8 A n xs) (hC : Chg (fun _ => False) w w') : ReadsInt w' .u8 A n xs := reads_chg h hC (fun _ _ _ h _ => h)
/-- no byte lies in the cursor's block -/
theorem cur_no {w : World} {C : Nat} {v : Value} {a : Option Addr} {n c : Nat} {e : Int} (h : w.heap[C]? = some (.cells #[.slice a n c, .int .i64 e] 57 (0, 0))) (g i : Nat) (x : Int) (hg : g = C) (hc : w.cell? ⟨g, i, none⟩ = some (.int .u8 x)) : False := by
  subst hg
  rw [cell_of_heap h] at hc
  match i, hc with
  | 0, hc => simp at hc
  | 1, hc => simp at hc
  | (n + 2), hc => simp at hc
theorem drop_end (b : List Int) (n : Nat) : (b.drop n).length = b.length - n := List.length_drop
set_option maxRecDepth 100000 in
set_option maxHeartbeats 4000000 in
theorem take_some (w0 w : World) (C : Nat) (b : List Int) (e : Int) (n : Nat) (hn : n ≤ 9223372036854775807) (hcur : CurAt w0 w C b e) :
    Calls Tryd.prog 68 #[.pointer (some ⟨C, 0, none⟩), .int .i64 n] w fun en w' => ∃ A1 c1, en = .returned (.slice A1 (takeL b e n).length c1) ∧ (takeL b e n).length ≤ c1 ∧ ReadsInt w0 .u8 A1 (takeL b e n).length (takeL b e n) ∧ CurAt w0 w' C (takeR b e n) (takeE b e n) ∧ Chg (fun k => k = C) w w' := by
  obtain ⟨A, cap, hH, hcap, hR⟩ := hcur
  have hmx : b.length ≤ 9223372036854775807 := hR.2.1
  have c0 : w.cell? ⟨C, 0, none⟩ = some (.slice A b.length cap) := cell_of_heap hH 0
  have c1 : w.cell? ⟨C, 1, none⟩ = some (.int .i64 e) := cell_of_heap hH 1
  have hf := fun i => free_of_heap hH i
  have f0 := hf 0
  have f1 := hf 1
  clear hf
  have HH := Lib.hid hH
  have HR := Lib.hid hR
  by_cases he : e = 0
  · subst he
    by_cases hle : n ≤ b.length
    · have e1 : takeL b 0 n = b.take n := by unfold takeL; rw [if_pos rfl, if_pos hle]
      have e2 : takeR b 0 n = b.drop n := by unfold takeR; rw [if_pos rfl, if_pos hle]
      have e3 : takeE b 0 n = 0 := by unfold takeE; rw [if_pos rfl, if_pos hle]
      rw [e1, e2, e3]
      obtain ⟨i0, hi, hz0, hz1, hz2⟩ := info_parts info5
      obtain ⟨hcut, hA, hC⟩ := print_take_of (P := Tryd.prog) (Value.int .u8) (0 : Int) 22 5 .i64 Tryd.underlying22 hi hz1 A cap b (n : Int) (by omega) (by omega) hcap
      obtain ⟨A', hcut2, hA2, hC2⟩ := print_drop_of (P := Tryd.prog) (Value.int .u8) (0 : Int) 22 5 .i64 Tryd.underlying22 hi hz1 A cap b (n : Int) (by omega) (by omega) hcap
      rw [Int.toNat_natCast] at hcut hA hC hcut2 hA2 hC2
      have HA := Lib.hid (hA w0 HR.out)
      have HA2 := Lib.hid (hA2 w0 HR.out)
      have HC := Lib.hid hC
      have HC2 := Lib.hid hC2
      clear hA hA2 hC hC2 e1 e2 e3 hH hR hi hz0 hz1 hz2
      go_enter Tryd.func68, Tryd.ntmps68
      go_wp2_with fail
      go_ret
      have hCh : Chg (fun k => k = C) w (w.setCell ⟨C, 0, none⟩ (.slice A' (b.length - n) (cap - n))) := (Chg.refl (fun k => k = C) w).setCell (p := ⟨C, 0, none⟩) (.inl rfl) _
      refine ⟨A, cap, by rw [show (b.take n).length = n by rw [List.length_take]; omega]; rfl, HC.out, HA.out, ⟨A', cap - n, ?_, HC2.out, HA2.out⟩, hCh⟩
      rw [heap_setCell_cells HH.out, List.length_drop]
      rfl
    · have e1 : takeL b 0 n = [] := by unfold takeL; rw [if_pos rfl, if_neg hle]
      have e2 : takeR b 0 n = b := by unfold takeR; rw [if_pos rfl, if_neg hle]
      have e3 : takeE b 0 n = 3 := by unfold takeE; rw [if_pos rfl, if_neg hle]
      rw [e1, e2, e3]
      clear e1 e2 e3 hH hR
      go_enter Tryd.func68, Tryd.ntmps68
      go_wp2_with fail
      go_ret
      have hCh : Chg (fun k => k = C) w (w.setCell ⟨C, 1, none⟩ (.int .i64 3)) := (Chg.refl (fun k => k = C) w).setCell (p := ⟨C, 1, none⟩) (.inl rfl) _
      refine ⟨none, 0, rfl, Nat.le_refl _, ⟨rfl, by simp, fun h => absurd h (by simp)⟩, ⟨A, cap, ?_, hcap, HR.out⟩, hCh⟩
      rw [heap_setCell_cells HH.out]
      rfl
  · have e1 : takeL b e n = [] := by unfold takeL; rw [if_neg he]
    have e2 : takeR b e n = b := by unfold takeR; rw [if_neg he]
    have e3 : takeE b e n = e := by unfold takeE; rw [if_neg he]
    rw [e1, e2, e3]
    have h1 : (e == 0) = false := beq_eq_false_iff_ne.2 he
    have h2 : (e != 0) = true := bne_iff_ne.2 he
    clear e1 e2 e3 hH hR he
    go_enter Tryd.func68, Tryd.ntmps68
    go_wp2_with fail
    go_ret
    exact ⟨none, 0, rfl, Nat.le_refl _, ⟨rfl, by simp, fun h => absurd h (by simp)⟩, ⟨A, cap, HH.out, hcap, HR.out⟩, Chg.refl _ _⟩
/-! ### number -/
theorem numOf_snoc (l : List Int) (x : Int) : numOf (l ++ [x]) = numOf l * 256 + x := by simp [numOf]
theorem numFold (l : List Int) (h : ∀ x ∈ l, 0 ≤ x ∧ x ≤ 255) : ∀ acc : Int, 0 ≤ acc → 0 ≤ l.foldl (fun n x => n * 256 + x) acc ∧ l.foldl (fun n x => n * 256 + x) acc < (acc + 1) * 256 ^ l.length := by
  induction l with
  | nil => intro acc h0; simp; omega
  | cons x t ih =>
    intro acc h0
    have hx := h x (by simp)
    obtain ⟨h1, h2⟩ := ih (fun y hy => h y (List.mem_cons_of_mem _ hy)) (acc * 256 + x) (by omega)
    refine ⟨h1, Int.lt_of_lt_of_le h2 ?_⟩
    rw [List.length_cons, Int.pow_succ, Int.mul_comm (256 ^ t.length) 256, ← Int.mul_assoc]
    exact Int.mul_le_mul_of_nonneg_right (by omega) (Int.pow_nonneg (by decide))
theorem numOf_lt (l : List Int) (h : ∀ x ∈ l, 0 ≤ x ∧ x ≤ 255) : 0 ≤ numOf l ∧ numOf l < 256 ^ l.length := by
  have := numFold l h 0 (by omega)
  rw [Int.zero_add, Int.one_mul] at this
  exact this
theorem or_byte (n x : Int) (h0 : 0 ≤ n) (h1 : n < 281474976710656) (h2 : 0 ≤ x) (h3 : x ≤ 255) : bits .or .i64 (n * 256) x = n * 256 + x :=
  bits_join .i64 56 (by decide) (fun m a b => by rw [IntKind.wrap_i64]; omega) 8 (n * 256) x (by omega) (by omega) (by omega) h2 (by omega) (by omega)
theorem numOf_lt6 (l : List Int) (h : ∀ x ∈ l, 0 ≤ x ∧ x ≤ 255) (hl : l.length ≤ 6) : 0 ≤ numOf l ∧ numOf l < 281474976710656 := by
  obtain ⟨h1, h2⟩ := numOf_lt l h
  have : (256 : Int) ^ l.length ≤ 281474976710656 := by
    have : l.length = 0 ∨ l.length = 1 ∨ l.length = 2 ∨ l.length = 3 ∨ l.length = 4 ∨ l.length = 5 ∨ l.length = 6 := by omega
    rcases this with h | h | h | h | h | h | h <;> rw [h] <;> decide
  exact ⟨h1, by omega⟩
theorem numOf_lt7 (l : List Int) (h : ∀ x ∈ l, 0 ≤ x ∧ x ≤ 255) (hl : l.length ≤ 7) : 0 ≤ numOf l ∧ numOf l < 72057594037927936 := by
  obtain ⟨h1, h2⟩ := numOf_lt l h
  have : (256 : Int) ^ l.length ≤ 72057594037927936 := by
    have : l.length = 0 ∨ l.length = 1 ∨ l.length = 2 ∨ l.length = 3 ∨ l.length = 4 ∨ l.length = 5 ∨ l.length = 6 ∨ l.length = 7 := by omega
    rcases this with h | h | h | h | h | h | h | h <;> rw [h] <;> decide
  exact ⟨h1, by omega⟩
theorem takeL_sub {b : List Int} {e : Int} {n : Nat} {x : Int} (h : x ∈ takeL b e n) : x ∈ b := by
  unfold takeL at h
  split at h
  · split at h
    · exact List.mem_of_mem_take h
    · simp at h
  · simp at h
theorem takeR_sub {b : List Int} {e : Int} {n : Nat} {x : Int} (h : x ∈ takeR b e n) : x ∈ b := by
  unfold takeR at h
  split at h
  · split at h
    · exact List.mem_of_mem_drop h
    · exact h
  · exact h
theorem takeL_len (b : List Int) (e : Int) (n : Nat) : (takeL b e n).length ≤ n := by
  unfold takeL
  split
  · split
    · rw [List.length_take]; omega
    · simp
  · simp
set_option maxRecDepth 100000 in
set_option maxHeartbeats 4000000 in
theorem number_some (w0 w : World) (C : Nat) (b : List Int) (e : Int) (n : Nat) (hn : n ≤ 7) (h0 : Chg (fun _ => False) w0 w) (hC0 : w0.heap.size ≤ C) (hcur : CurAt w0 w C b e) (hb : ∀ x ∈ b, 0 ≤ x ∧ x ≤ 255) :
    Calls Tryd.prog 33 #[.pointer (some ⟨C, 0, none⟩), .int .i64 n] w fun en w' => en = .returned (.int .i64 (numOf (takeL b e n))) ∧ CurAt w0 w' C (takeR b e n) (takeE b e n) ∧ Chg (fun k => k = C) w w' := by
  have ht := take_some w0 w C b e n (by omega) hcur
  have hLb : ∀ x ∈ takeL b e n, 0 ≤ x ∧ x ≤ 255 := fun x hx => hb x (takeL_sub hx)
  have hLl : (takeL b e n).length ≤ 7 := Nat.le_trans (takeL_len b e n) hn
  generalize takeL b e n = L at *
  have HT := Lib.hid ht
  have H0 := Lib.hid h0
  clear h0
  have HLB := Lib.hid hLb
  clear ht hcur hLb hb
  go_enter Tryd.func33, Tryd.ntmps33
  go_wp2_with fail
  refine HT.out.mono ?_
  rintro en w2 ⟨A1, c1, rfl, hc1, hR0, hC, hCh⟩
  have hR := reads_keep hR0 (H0.out.trans' hCh (fun i h1 h2 => by omega))
  have HC := Lib.hid hC
  have HR := Lib.hid hR
  clear hR0
  have HCH := Lib.hid hCh
  clear HT hC hR hCh
  go_wp2_with fail
  go_loop [4, 6, 11] (fun s4 _ i => ∃ j : Nat, j ≤ L.length ∧ i = .int .i64 j ∧ s4 = .int .i64 (numOf (L.take j))) (fun _ _ i => L.length - (intOf i).toNat)
  case atStart => exact ⟨0, by omega, rfl, rfl⟩
  case round =>
    obtain ⟨j, hj, rfl, rfl⟩ := hrel
    by_cases hlt : j < L.length
    · obtain ⟨ad, rfl, hcell⟩ := HR.out.2.2 (by omega)
      have cj := hcell j hlt
      have hx : L.getD j 0 = L[j] := by simp [List.getD, hlt]
      have hxb := HLB.out L[j] (List.getElem_mem hlt)
      have hts : L.take (j + 1) = L.take j ++ [L[j]] := by rw [List.take_add_one, List.getElem?_eq_getElem hlt]; rfl
      have h6 := numOf_lt6 (L.take j) (fun x hx => HLB.out x (List.mem_of_mem_take hx)) (by rw [List.length_take]; omega)
      have hor := or_byte (numOf (L.take j)) L[j] h6.1 h6.2 hxb.1 hxb.2
      have hns := numOf_snoc (L.take j) L[j]
      rw [← hts] at hns
      rw [hx] at cj
      rw [← hns] at hor
      have hsp : ad.spot = none := (show (ad.add 0).spot = ad.spot by simp [Addr.add]).symm.trans (World.cell?_spot (hcell 0 (by omega)))
      obtain ⟨g, p, s⟩ := ad
      simp at hsp
      subst hsp
      have ea : (⟨g, p, none⟩ : Addr).add j = ⟨g, p + j, none⟩ := by
        unfold Addr.add
        by_cases hj : j = 0
        · subst hj; simp
        · simp [hj]
      rw [ea] at cj
      clear hcell hx hts hns ea
      generalize L[j] = x at *
      generalize hNN : numOf (L.take (j + 1)) = N1 at *
      have HNN := Lib.hid hNN
      clear hNN
      generalize hN : numOf (L.take j) = N at *
      have hN1 : wrap64 (N * 256) = N * 256 := by unfold wrap64; omega
      go_wp2_with fail
      go_round
      case rel => exact ⟨j + 1, by omega, by go_num, by rw [HNN.out]⟩
      case measure => simp [intOf] <;> omega
    · obtain rfl : j = L.length := by omega
      rw [List.take_length]
      go_wp2_with fail
      go_ret
      exact ⟨rfl, HC.out, HCH.out⟩
theorem CurAt.setE {w0 w : World} {C : Nat} {b : List Int} {e : Int} (h : CurAt w0 w C b e) (x : Int) : CurAt w0 (w.setCell ⟨C, 1, none⟩ (.int .i64 x)) C b x := by
  obtain ⟨A, cap, hH, hcap, hR⟩ := h
  refine ⟨A, cap, ?_, hcap, hR⟩
  rw [heap_setCell_cells hH]
  rfl
set_option maxRecDepth 100000 in
set_option maxHeartbeats 4000000 in
theorem limit_some (w0 w : World) (C : Nat) (b : List Int) (e n most : Int) (hcur : CurAt w0 w C b e) :
    Calls Tryd.prog 38 #[.pointer (some ⟨C, 0, none⟩), .int .i64 n, .int .i64 most] w fun en w' => en = .returned (.int .i64 n) ∧ CurAt w0 w' C b (limE n most e) ∧ Chg (fun k => k = C) w w' := by
  have HCU := Lib.hid hcur
  obtain ⟨A, cap, hH, hcap, hR⟩ := hcur
  have c1 : w.cell? ⟨C, 1, none⟩ = some (.int .i64 e) := cell_of_heap hH 1
  have f1 := free_of_heap hH 1
  clear hH hcap hR
  by_cases he : e = 0
  · subst he
    by_cases hm : most < n
    · have e1 : limE n most 0 = 5 := by unfold limE; rw [if_pos rfl, if_pos hm]
      rw [e1]
      clear e1
      go_enter Tryd.func38, Tryd.ntmps38
      go_wp2_with fail
      go_ret
      exact ⟨rfl, HCU.out.setE 5, (Chg.refl (fun k => k = C) w).setCell (p := ⟨C, 1, none⟩) (.inl rfl) _⟩
    · have e1 : limE n most 0 = 0 := by unfold limE; rw [if_pos rfl, if_neg hm]
      rw [e1]
      clear e1
      go_enter Tryd.func38, Tryd.ntmps38
      go_wp2_with fail
      go_ret
      exact ⟨rfl, HCU.out, Chg.refl _ _⟩
  · have e1 : limE n most e = e := by unfold limE; rw [if_neg he]
    rw [e1]
    have h1 : (e == 0) = false := beq_eq_false_iff_ne.2 he
    clear e1 he
    go_enter Tryd.func38, Tryd.ntmps38
    go_wp2_with fail
    go_ret
    exact ⟨rfl, HCU.out, Chg.refl _ _⟩
/-- what text tells; what is left; the error -/
def numN (b : List Int) (e : Int) (n : Nat) : Nat := (numOf (takeL b e n)).toNat
def textE (b : List Int) (e : Int) : Int := limE (numOf (takeL b e 3)) 65536 (takeE b e 3)
def textV (b : List Int) (e : Int) : ByteArray := strOfNums (takeL (takeR b e 3) (textE b e) (numN b e 3))
def textRB (b : List Int) (e : Int) : List Int := takeR (takeR b e 3) (textE b e) (numN b e 3)
def textRE (b : List Int) (e : Int) : Int := takeE (takeR b e 3) (textE b e) (numN b e 3)
set_option maxRecDepth 100000 in
set_option maxHeartbeats 4000000 in
theorem text_some (w0 w : World) (C : Nat) (b : List Int) (e : Int) (h0 : Chg (fun _ => False) w0 w) (hC0 : w0.heap.size ≤ C) (hcur : CurAt w0 w C b e) (hb : ∀ x ∈ b, 0 ≤ x ∧ x ≤ 255) :
    Calls Tryd.prog 37 #[.pointer (some ⟨C, 0, none⟩)] w fun en w' => en = .returned (.string (textV b e)) ∧ CurAt w0 w' C (textRB b e) (textRE b e) ∧ Chg (fun k => k = C) w w' := by
  have hn := number_some w0 w C b e 3 (by omega) h0 hC0 hcur hb
  have hlt := numOf_lt7 (takeL b e 3) (fun x hx => hb x (takeL_sub hx)) (Nat.le_trans (takeL_len b e 3) (by omega))
  have HN := Lib.hid hn
  have H0 := Lib.hid h0
  clear h0
  have HLT := Lib.hid hlt
  clear hn hlt hb hcur
  have HV : Hid (textV b e = strOfNums (takeL (takeR b e 3) (limE (numOf (takeL b e 3)) 65536 (takeE b e 3)) (numOf (takeL b e 3)).toNat)) := Lib.hid rfl
  have HRB : Hid (textRB b e = takeR (takeR b e 3) (limE (numOf (takeL b e 3)) 65536 (takeE b e 3)) (numOf (takeL b e 3)).toNat) := Lib.hid rfl
  have HRE : Hid (textRE b e = takeE (takeR b e 3) (limE (numOf (takeL b e 3)) 65536 (takeE b e 3)) (numOf (takeL b e 3)).toNat) := Lib.hid rfl
  generalize numOf (takeL b e 3) = N at *
  obtain ⟨m, rfl⟩ := Int.eq_ofNat_of_zero_le HLT.out.1
  have hm : m < 72057594037927936 := by have := HLT.out.2; omega
  rw [Int.toNat_natCast] at HV HRB HRE
  generalize takeE b e 3 = E1 at *
  generalize takeR b e 3 = R1 at *
  go_enter Tryd.func37, Tryd.ntmps37
  go_wp2_with fail
  refine HN.out.mono ?_
  rintro en w2 ⟨rfl, hC2, hCh2⟩
  have hlim := limit_some w0 w2 C R1 E1 (m : Int) 65536 hC2
  have HLIM := Lib.hid hlim
  have HCH2 := Lib.hid hCh2
  clear HN hC2 hCh2 hlim
  go_wp2_with fail
  refine HLIM.out.mono ?_
  rintro en w3 ⟨rfl, hC3, hCh3⟩
  have htk := take_some w0 w3 C R1 (limE (m : Int) 65536 E1) m (by omega) hC3
  have HTK := Lib.hid htk
  have HCH3 := Lib.hid (HCH2.out.trans hCh3)
  clear HLIM hC3 hCh3 htk HCH2
  go_wp2_with fail
  refine HTK.out.mono ?_
  rintro en w4 ⟨A1, c1, rfl, hc1, hR0, hC4, hCh4⟩
  have hR := reads_keep hR0 (H0.out.trans' (HCH3.out.trans hCh4) (fun i h1 h2 => by omega))
  clear hR0
  have hconv := Kd.C_string (P := Tryd.prog) (A := A1) (c := c1) Tryd.underlying22 Tryd.underlying5 Tryd.underlying9 (Kd.C_of_reads (d := (0 : Int)) (h1 := fun _ => rfl) hR)
  have HC4 := Lib.hid hC4
  have HCH4 := Lib.hid (HCH3.out.trans hCh4)
  clear HTK hR hC4 hCh4 HCH3
  go_wp2_with fail
  go_ret
  exact ⟨by rw [HV.out]; rfl, by rw [HRB.out, HRE.out]; exact HC4.out, HCH4.out⟩
end Go.Proofs.YteiedafdakffeaaDoor

/- push: Parse: what it tells, plainly; a packet in memory. -/
namespace Go.Proofs.YteiedafdakffeaaDoor
set_option linter.unusedVariables false
set_option linter.unusedSimpArgs false
open Go Go.RowKit
open Go.Proofs.YteiedafdakffeaaDoorW.PrintWords (Kd bytesOf bytesOf_length ReadsInt ReadsOf)
def setV (V : Nat → Int) (q : Nat) (x : Int) : Nat → Int := fun i => if i = q then x else V i
/-- a packet in block P -/
def PktAt (w : World) (P : Nat) (k : Int) (V : Nat → Int) (tx : ByteArray) (s : Value) : Prop :=
  w.heap[P]? = some (.cells #[.int .i64 k, .int .i64 (V 1), .int .i64 (V 2), .int .i64 (V 3), .int .i64 (V 4), .int .i64 (V 5), .int .i64 (V 6), .string tx, s] 26 (0, 0))
theorem PktAt.setN {w : World} {P : Nat} {k : Int} {V : Nat → Int} {tx : ByteArray} {s : Value} (h : PktAt w P k V tx s) (q : Nat) (x : Int) (h1 : 1 ≤ q) (h6 : q ≤ 6) : PktAt (w.setCell ⟨P, q, none⟩ (.int .i64 x)) P k (setV V q x) tx s := by
  unfold PktAt at *
  rw [heap_setCell_cells h]
  have : q = 1 ∨ q = 2 ∨ q = 3 ∨ q = 4 ∨ q = 5 ∨ q = 6 := by omega
  rcases this with rfl | rfl | rfl | rfl | rfl | rfl <;> rfl
theorem PktAt.setK {w : World} {P : Nat} {k : Int} {V : Nat → Int} {tx : ByteArray} {s : Value} (h : PktAt w P k V tx s) (x : Int) : PktAt (w.setCell ⟨P, 0, none⟩ (.int .i64 x)) P x V tx s := by
  unfold PktAt at *
  rw [heap_setCell_cells h]
  rfl
theorem PktAt.setT {w : World} {P : Nat} {k : Int} {V : Nat → Int} {tx : ByteArray} {s : Value} (h : PktAt w P k V tx s) (x : ByteArray) : PktAt (w.setCell ⟨P, 7, none⟩ (.string x)) P k V x s := by
  unfold PktAt at *
  rw [heap_setCell_cells h]
  rfl
theorem PktAt.setL {w : World} {P : Nat} {k : Int} {V : Nat → Int} {tx : ByteArray} {s : Value} (h : PktAt w P k V tx s) (x : Value) : PktAt (w.setCell ⟨P, 8, none⟩ x) P k V tx x := by
  unfold PktAt at *
  rw [heap_setCell_cells h]
  rfl
theorem PktAt.keep {w w' : World} {S : Nat → Prop} {P : Nat} {k : Int} {V : Nat → Int} {tx : ByteArray} {s : Value} (h : PktAt w P k V tx s) (hC : Chg S w w') (hS : ¬ S P) : PktAt w' P k V tx s := hC.keep h hS
theorem CurAt.keep {w0 w w' : World} {S : Nat → Prop} {C : Nat} {b : List Int} {e : Int} (h : CurAt w0 w C b e) (hC : Chg S w w') (hS : ¬ S C) : CurAt w0 w' C b e := by
  obtain ⟨A, cap, hH, hcap, hR⟩ := h
  exact ⟨A, cap, hC.keep hH hS, hcap, hR⟩
theorem CurAt.heap {w0 w : World} {C : Nat} {b : List Int} {e : Int} (h : CurAt w0 w C b e) : ∃ c, w.heap[C]? = some (.cells c 57 (0, 0)) := by
  obtain ⟨A, cap, hH, _⟩ := h
  exact ⟨_, hH⟩
theorem CurAt.move {w0 w w' : World} {C : Nat} {b : List Int} {e : Int} (h : CurAt w0 w C b e) (hh : w'.heap[C]? = w.heap[C]?) : CurAt w0 w' C b e := by
  obtain ⟨A, cap, hH, hcap, hR⟩ := h
  exact ⟨A, cap, hh.trans hH, hcap, hR⟩
theorem PktAt.cellN {w : World} {P : Nat} {k : Int} {V : Nat → Int} {tx : ByteArray} {s : Value} (h : PktAt w P k V tx s) (q : Nat) (h1 : 1 ≤ q) (h6 : q ≤ 6) : w.cell? ⟨P, q, none⟩ = some (.int .i64 (V q)) := by
  rw [cell_of_heap h]
  have : q = 1 ∨ q = 2 ∨ q = 3 ∨ q = 4 ∨ q = 5 ∨ q = 6 := by omega
  rcases this with rfl | rfl | rfl | rfl | rfl | rfl <;> rfl
theorem PktAt.free {w : World} {P : Nat} {k : Int} {V : Nat → Int} {tx : ByteArray} {s : Value} (h : PktAt w P k V tx s) (q : Nat) : w.frozen? ⟨P, q, none⟩ = false := free_of_heap h q
theorem PktAt.lt {w : World} {P : Nat} {k : Int} {V : Nat → Int} {tx : ByteArray} {s : Value} (h : PktAt w P k V tx s) : P < w.heap.size := lt_of_heap h
theorem CurAt.lt {w0 w : World} {C : Nat} {b : List Int} {e : Int} (h : CurAt w0 w C b e) : C < w.heap.size := by
  obtain ⟨A, cap, hH, _⟩ := h
  exact lt_of_heap hH
theorem CurAt.cellE {w0 w : World} {C : Nat} {b : List Int} {e : Int} (h : CurAt w0 w C b e) : w.cell? ⟨C, 1, none⟩ = some (.int .i64 e) := by
  obtain ⟨A, cap, hH, _⟩ := h
  exact cell_of_heap hH 1
/-- a row of texts of one's own, as it reads -/
theorem own_lines {W : World} {base : Nat} {v : Value} {l : List ByteArray} (h : W.ownsRow base 9 1 v l.length (l.map Value.string)) : ∃ A c, v = .slice A l.length c ∧ Lns W A l := by
  rcases h.2 with ⟨rfl, h2⟩ | ⟨g, cap, cur, rfl, hg, hh, r1, r2, r3, r4⟩
  · have : l = [] := by simpa using h2
    subst this
    exact ⟨none, 0, rfl, fun i hi => by simp at hi⟩
  · refine ⟨_, cap, rfl, fun i hi => ⟨g, 0, rfl, ?_⟩⟩
    rw [Nat.zero_add, cell_of_heap hh]
    have h5 : (cur.toList.take (l.length * 1))[i]? = (l.map Value.string)[i]? := by rw [r4]
    rw [List.getElem?_take, if_pos (by omega)] at h5
    rw [← Array.getElem?_toList, h5, List.getElem?_map, List.getElem?_eq_getElem hi]
    simp [List.getD, hi]
theorem strOf_size (l : List Int) : (strOfNums l).size = l.length := strOfNums_size l
theorem textV_size (b : List Int) (e : Int) : (textV b e).size ≤ 65536 := by
  unfold textV
  rw [strOf_size]
  by_cases h : textE b e = 0
  · refine Nat.le_trans (takeL_len _ _ _) ?_
    unfold numN
    unfold textE limE at h
    split at h
    · split at h
      · cases h
      · omega
    · contradiction
  · unfold takeL
    rw [if_neg h]
    simp
/-! ### what Parse tells -/
def fieldS (own : Int) (i : Nat) (s : (Nat → Int) × List Int × Int) : (Nat → Int) × List Int × Int :=
  if bits .and .i64 own (fieldAt 0 0 i).2.1 = 0 then s else (setV s.1 (fieldAt 0 0 i).1 (numOf (takeL s.2.1 s.2.2 7)), takeR s.2.1 s.2.2 7, takeE s.2.1 s.2.2 7)
def fieldsS (own : Int) (s : (Nat → Int) × List Int × Int) : Nat → (Nat → Int) × List Int × Int
  | 0 => s
  | n + 1 => fieldS own n (fieldsS own s n)
def linesS : Nat → List Int → Int → List ByteArray × List Int × Int
  | 0, b, e => ([], b, e)
  | n + 1, b, e => if textRE b e = 0 then (textV b e :: (linesS n (textRB b e) (textRE b e)).1, (linesS n (textRB b e) (textRE b e)).2) else ([textV b e], textRB b e, textRE b e)
theorem sub_fieldS (own : Int) (i : Nat) (s : (Nat → Int) × List Int × Int) (x : Int) (h : x ∈ (fieldS own i s).2.1) : x ∈ s.2.1 := by
  unfold fieldS at h
  split at h
  · exact h
  · exact takeR_sub h
theorem sub_fieldsS (own : Int) (s : (Nat → Int) × List Int × Int) (n : Nat) (x : Int) (h : x ∈ (fieldsS own s n).2.1) : x ∈ s.2.1 := by
  induction n with
  | zero => exact h
  | succ n ih => exact ih (sub_fieldS own n _ x h)
theorem textRB_sub {b : List Int} {e x : Int} (h : x ∈ textRB b e) : x ∈ b := takeR_sub (takeR_sub h)
def zeroV : Nat → Int := fun _ => 0
structure Pkt where
  k : Int
  V : Nat → Int
  tx : ByteArray
  l : List ByteArray
  e : Int
def noPkt (e : Int) : Pkt := ⟨0, zeroV, ByteArray.empty, [], e⟩
def checkP (k : Int) (V : Nat → Int) (tx : ByteArray) (l : List ByteArray) : Int := checkF k (V 1) (V 2) (V 3) (V 4) (V 5) (V 6) tx l
/-- behind the lines -/
def endP (k : Int) (V : Nat → Int) (tx : ByteArray) (r : List ByteArray × List Int × Int) : Pkt :=
  if r.2.2 = 0 then if 0 < r.2.1.length then noPkt 4 else if checkP k V tx r.1 = 0 then ⟨k, V, tx, r.1, 0⟩ else noPkt 4 else noPkt r.2.2
/-- behind the text -/
def linesP (k : Int) (V : Nat → Int) (tx : ByteArray) (b : List Int) (e : Int) : Pkt :=
  endP k V tx (if k = 2 then linesS (numN b e 2) (takeR b e 2) (limE (numOf (takeL b e 2)) 1000 (takeE b e 2)) else ([], b, e))
def textP (k : Int) (s : (Nat → Int) × List Int × Int) : Pkt :=
  if k = 1 then linesP k s.1 (textV s.2.1 s.2.2) (textRB s.2.1 s.2.2) (textRE s.2.1 s.2.2) else linesP k s.1 ByteArray.empty s.2.1 s.2.2
def parseP (b : List Int) : Pkt :=
  if takeE b 0 1 = 0 then if 1 ≤ numOf (takeL b 0 1) ∧ numOf (takeL b 0 1) ≤ 5 then textP (numOf (takeL b 0 1)) (fieldsS (ownOf (numOf (takeL b 0 1))) (zeroV, takeR b 0 1, 0) 6) else noPkt 4 else noPkt (takeE b 0 1)
/-- the answer -/
def ParsePost (w : World) (p : Pkt) (en : Ending) (w' : World) : Prop :=
  ∃ v, en = .returned (.tuple #[.agg #[.int .i64 p.k, .int .i64 (p.V 1), .int .i64 (p.V 2), .int .i64 (p.V 3), .int .i64 (p.V 4), .int .i64 (p.V 5), .int .i64 (p.V 6), .string p.tx, v], .int .i64 p.e]) ∧ w'.ownsRow w.heap.size 9 1 v p.l.length (p.l.map Value.string) ∧ Chg (fun _ => False) w w'
def zeroPkt : Array Value := #[.int .i64 0, .int .i64 0, .int .i64 0, .int .i64 0, .int .i64 0, .int .i64 0, .int .i64 0, .string ByteArray.empty, .slice none 0 0]
theorem zeroPkt_all : zeroPkt.all (·.oneCell') = true := by simp [zeroPkt, Value.oneCell']
theorem infoP : (Tryd.prog.info? 26).map (·.size) = some 9 := by kernel_rfl
theorem sizes_snoc (l : List ByteArray) (x : ByteArray) : sizes (l ++ [x]) = sizes l + x.size := by simp [sizes]
theorem linesS_succ (n : Nat) (b : List Int) (e : Int) : linesS (n + 1) b e = if textRE b e = 0 then (textV b e :: (linesS n (textRB b e) (textRE b e)).1, (linesS n (textRB b e) (textRE b e)).2) else ([textV b e], textRB b e, textRE b e) := rfl
theorem info9 : (Tryd.prog.info? 9).map (fun i => (i.zero, i.size, i.bytes)) = some (some (.string ByteArray.empty), 1, 16) := by kernel_rfl
/-- no packet -/
theorem post_no {w W : World} (P : Nat) (e : Int) (hC : Chg (fun _ => False) w W) (hP : w.heap.size ≤ P) : ParsePost w (noPkt e) (.returned (.tuple #[.agg zeroPkt, .int .i64 e])) (W.setRow P zeroPkt) :=
  ⟨.slice none 0 0, rfl, World.ownsRow_nil _ _ _ _, ⟨hC.os, hC.tape, hC.output, by rw [size_setRow]; exact hC.size, fun k hk _ => (setRow_other W P k zeroPkt (by omega)).trans (hC.block k hk (fun h => h))⟩⟩
theorem setRow_same {w : World} {g : Nat} {c : Array Value} {t : TypeId} {f : Nat × Nat} (h : w.heap[g]? = some (.cells c t f)) (k : Nat) : (w.setRow g c).heap[k]? = w.heap[k]? := by
  by_cases e : k = g
  · subst e
    rw [setRow_heap w k c c t f h, h]
  · exact setRow_other w g k c e
theorem CurAt.cellB {w0 w : World} {C : Nat} {b : List Int} {e : Int} (h : CurAt w0 w C b e) : ∃ A cap, w.cell? ⟨C, 0, none⟩ = some (.slice A b.length cap) := by
  obtain ⟨A, cap, hH, _⟩ := h
  exact ⟨A, cap, cell_of_heap hH 0⟩
theorem results12 (tmps : Array Value) (w : World) (g : Nat) (t : TypeId) (cs : Array Value) (fr : Nat × Nat) (e : Int)
    (hp : tmps.getD 2 undef = .pointer (some ⟨g, 0, none⟩)) (he : tmps.getD 3 undef = .int .i64 e) (hg : w.heap[g]? = some (.cells cs 26 fr)) (hs : cs.size = 9) :
    (results Tryd.f12 tmps).run Tryd.prog w = .ok (.tuple #[.agg cs, .int .i64 e]) w := by
  have hp' : tmps[2]?.getD undef = .pointer (some ⟨g, 0, none⟩) := by simpa using hp
  have he' : tmps[3]?.getD undef = .int .i64 e := by simpa using he
  have hi : (Tryd.prog.info? 26).map (·.size) = some cs.size := by rw [hs]; kernel_rfl
  have hr : Tryd.f12.results = #[.cell 2 26, .tmp 3] := rfl
  have hl := run_loadVar_row (P := Tryd.prog) w g 26 26 cs fr _ hg Tryd.underlying26 rfl hi
  simp [results, hr, hp', he', asAddr, hl]
end Go.Proofs.YteiedafdakffeaaDoor

/- push: Parse. -/
namespace Go.Proofs.YteiedafdakffeaaDoor
set_option linter.unusedVariables false
set_option linter.unusedSimpArgs false
open Go Go.RowKit
open Go.Proofs.YteiedafdakffeaaDoorW.PrintWords (Kd bytesOf bytesOf_length ReadsInt ReadsOf gate_store gate_dst own_move)
set_option maxRecDepth 100000 in
set_option maxHeartbeats 4000000 in
theorem parse_some (w : World) (A : Option Addr) (b : List Int) (cap : Nat) (hR : ReadsInt w .u8 A b.length b) (hcap : b.length ≤ cap) (hb : ∀ x ∈ b, 0 ≤ x ∧ x ≤ 255) :
    Calls Tryd.prog 12 #[.slice A b.length cap] w (ParsePost w (parseP b)) := by
  have hC0 := ((Chg.refl (fun _ => False) w).alloc (.cells #[.int .i64 0, .int .i64 0, .int .i64 0, .int .i64 0, .int .i64 0, .int .i64 0, .int .i64 0, .string ByteArray.empty, .slice none 0 0] 26)).alloc (.cells #[.slice A b.length cap, .int .i64 0] 57)
  have hcur : CurAt w ((w.alloc (.cells #[.int .i64 0, .int .i64 0, .int .i64 0, .int .i64 0, .int .i64 0, .int .i64 0, .int .i64 0, .string ByteArray.empty, .slice none 0 0] 26)).alloc (.cells #[.slice A b.length cap, .int .i64 0] 57)) (w.heap.size + 1) b 0 :=
    ⟨A, cap, heap_new1 _ _ _, hcap, hR⟩
  have hpk : PktAt ((w.alloc (.cells #[.int .i64 0, .int .i64 0, .int .i64 0, .int .i64 0, .int .i64 0, .int .i64 0, .int .i64 0, .string ByteArray.empty, .slice none 0 0] 26)).alloc (.cells #[.slice A b.length cap, .int .i64 0] 57)) w.heap.size 0 zeroV ByteArray.empty (.slice none 0 0) :=
    heap_alloc (heap_new _ _)
  have hnum := number_some w _ _ b 0 1 (by omega) hC0 (by omega) hcur hb
  have HB := Lib.hid hb
  have HNUM := Lib.hid hnum
  have HPK := Lib.hid hpk
  have HC0 := Lib.hid hC0
  clear hb hnum hpk hC0 hcur hR hcap
  have HPAR : Hid (parseP b = if takeE b 0 1 = 0 then if 1 ≤ numOf (takeL b 0 1) ∧ numOf (takeL b 0 1) ≤ 5 then textP (numOf (takeL b 0 1)) (fieldsS (ownOf (numOf (takeL b 0 1))) (zeroV, takeR b 0 1, 0) 6) else noPkt 4 else noPkt (takeE b 0 1)) := Lib.hid rfl
  generalize hPP : parseP b = PP at *
  clear hPP
  have HB1 : Hid (∀ x ∈ takeR b 0 1, 0 ≤ x ∧ x ≤ 255) := Lib.hid fun x hx => HB.out x (takeR_sub hx)
  go_enter Tryd.func12, Tryd.ntmps12
  go_wp2_with fail
  refine HNUM.out.mono ?_
  rintro en w2 ⟨rfl, hC2, hCh2⟩
  have hsz2 := hCh2.size
  have hp2 := HPK.out.keep hCh2 (by simp)
  have HC1 := Lib.hid (HC0.out.trans' hCh2 (fun i h1 h2 => by omega))
  generalize numOf (takeL b 0 1) = k at *
  generalize takeR b 0 1 = b1 at *
  generalize takeE b 0 1 = e1 at *
  have HP2 := Lib.hid hp2
  have c0 : w2.cell? ⟨w.heap.size, 0, none⟩ = some (.int .i64 0) := cell_of_heap HP2.out 0
  have f0 := free_of_heap HP2.out 0
  have hst := (Chg.refl (fun k => k = w.heap.size) w2).setCell (p := ⟨w.heap.size, 0, none⟩) (.inl rfl) (.int .i64 k)
  have HP3 := Lib.hid (hp2.setK k)
  have HC3 : Hid (CurAt w _ _ _ _) := Lib.hid (hC2.keep hst (by simp))
  have HCH3 := Lib.hid (HC1.out.trans' hst (fun i h1 h2 => by omega))
  clear hp2 hC2 hCh2 HC1 hst HNUM HPK HC0
  go_upto_region 3 with fail
  clear c0 f0 HP2
  generalize w2.setCell ⟨w.heap.size, 0, none⟩ (.int .i64 k) = w3 at *
  obtain ⟨Ac, capc, hHc, hcapc, hRc⟩ := HC3.out
  have c1 : w3.cell? ⟨w.heap.size + 1, 1, none⟩ = some (.int .i64 e1) := cell_of_heap hHc 1
  clear hHc hcapc hRc
  by_cases he : e1 = 0
  · subst he
    have HPAR2 : Hid (PP = if 1 ≤ k ∧ k ≤ 5 then textP k (fieldsS (ownOf k) (zeroV, b1, 0) 6) else noPkt 4) := Lib.hid (by rw [HPAR.out, if_pos rfl])
    clear HPAR
    have c0 : w3.cell? ⟨w.heap.size, 0, none⟩ = some (.int .i64 k) := cell_of_heap HP3.out 0
    by_cases hkn : 1 ≤ k ∧ k ≤ 5
    · have hk := known_some k
      have hkk : (decide (1 ≤ k) && decide (k ≤ 5)) = true := by rw [decide_eq_true hkn.1, decide_eq_true hkn.2]; rfl
      rw [hkk] at hk
      have HK := Lib.hid hk
      have HPAR3 : Hid (PP = textP k (fieldsS (ownOf k) (zeroV, b1, 0) 6)) := Lib.hid (by rw [HPAR2.out, if_pos hkn])
      have HKN := Lib.hid hkn
      clear hk hkk hkn HPAR2
      go_wp2_with fail
      refine (HK.out _).mono ?_
      rintro e w4 ⟨rfl, rfl⟩
      clear HK
      go_upto_region 7 with fail
      clear c0 c1
      have hidx := index_kinds k HKN.out.1 HKN.out.2
      go_cut [5] from 25 to 34 (fun s5 W => s5 = .int .i64 (ownOf k) ∧ PktAt W w.heap.size k zeroV ByteArray.empty (.slice none 0 0) ∧ CurAt w W (w.heap.size + 1) b1 0 ∧ Chg (fun _ => False) w W)
      case first =>
        have hS : w4.drew.cell? ⟨w.heap.size, 0, none⟩ = some (.int .i64 k) := cell_of_heap HP3.out 0
        refine region_lone (fun W' => W'.cell? ⟨w.heap.size, 0, none⟩ = some (.int .i64 k)) [] (by kernel_rfl) ?_
        refine take_one 1 hS rfl (by kernel_rfl) rfl ?_
        apply Exists.intro
        refine And.intro (fun W' hS' => ?y1) (And.intro (fun _ _ _ h => h) ?_)
        case y1 => go_simp; rfl
        refine take_one 2 hS rfl (by kernel_rfl) rfl ?_
        apply Exists.intro
        refine And.intro (fun W' hS' => ?y2) (And.intro (fun _ _ _ h => h) ?_)
        case y2 => go_simp; rfl
        refine only_one 0 rfl (by kernel_rfl) rfl ?_
        go_simp
        refine (kinds_some _).mono ?_
        rintro e w5 ⟨rfl, hC5⟩
        have hS5 := hC5.cell hS (fun h => h)
        refine ⟨hS5, ?_⟩
        unfold kindsV
        refine take_one 3 hS5 rfl (by kernel_rfl) rfl ?_
        apply Exists.intro
        refine And.intro (fun W' hS' => ?y3) (And.intro (fun _ _ _ h => h) ?_)
        case y3 => go_simp; rfl
        refine take_one 4 hS5 rfl (by kernel_rfl) rfl ?_
        apply Exists.intro
        refine And.intro (fun W' hS' => ?y4) (And.intro (fun _ _ _ h => h) ?_)
        case y4 => go_simp; rfl
        go_simp
        refine all_done (by kernel_rfl) ?_ _
        go_wp2_with fail
        go_meet
        have hd := (Chg.refl (fun _ => False) w4).drew
        exact ⟨rfl, HP3.out.keep (hd.trans hC5) (fun h => h), HC3.out.keep (hd.trans hC5) (fun h => h), HCH3.out.trans (hd.trans hC5)⟩
      case rest =>
        obtain ⟨rfl, hP, hC, hCh⟩ := hcut
        have hfs := fields_some wc w.heap.size k (zeroV 1) (zeroV 2) (zeroV 3) (zeroV 4) (zeroV 5) (zeroV 6) (.string ByteArray.empty) (.slice none 0 0) hP
        have HFS := Lib.hid hfs
        have HP := Lib.hid hP
        have HC := Lib.hid hC
        have HCH := Lib.hid hCh
        have hlP := hP.lt
        have hlC := hC.lt
        clear hidx hP hC hCh hfs HC3 HCH3 HP3
        go_wp2_with fail
        refine HFS.out.mono ?_
        rintro e w6 ⟨g, rfl, hgs, hg, hC6⟩
        clear HFS
        have HG := Lib.hid hg
        have HP6 := Lib.hid (HP.out.keep hC6 (fun h => h))
        have HC6 := Lib.hid (HC.out.keep hC6 (fun h => h))
        have HCH6 := Lib.hid (HCH.out.trans hC6)
        have hsz6 := hC6.size
        clear HP HC HCH hg hC6
        go_upto_block 1 with fail
        go_cut [7, 37] from 38 to 51 (fun _ _ W => PktAt W w.heap.size k (fieldsS (ownOf k) (zeroV, b1, 0) 6).1 ByteArray.empty (.slice none 0 0) ∧ CurAt w W (w.heap.size + 1) (fieldsS (ownOf k) (zeroV, b1, 0) 6).2.1 (fieldsS (ownOf k) (zeroV, b1, 0) 6).2.2 ∧ Chg (fun _ => False) w W)
        case first =>
          go_wp2_with fail
          go_loopw [7, 37] (fun _ i wr => ∃ j : Nat, j ≤ 6 ∧ i = .int .i64 j ∧ PktAt wr w.heap.size k (fieldsS (ownOf k) (zeroV, b1, 0) j).1 ByteArray.empty (.slice none 0 0) ∧ CurAt w wr (w.heap.size + 1) (fieldsS (ownOf k) (zeroV, b1, 0) j).2.1 (fieldsS (ownOf k) (zeroV, b1, 0) j).2.2 ∧ wr.heap[g]? = some (.cells (fieldCells w.heap.size (leastOf k) (fromOf k (zeroV 1))) 66 (0, 0)) ∧ Chg (fun _ => False) w wr) (fun _ i _ => 6 - (intOf i).toNat)
          case atStart => exact ⟨0, by omega, rfl, HP6.out, HC6.out, HG.out, HCH6.out⟩
          case round =>
            obtain ⟨j, hj, rfl, hP, hC, hg, hCh⟩ := hrel
            by_cases hlt : j < 6
            · obtain ⟨f1, f2, f3, f4⟩ := fieldCells_at w.heap.size (leastOf k) (fromOf k (zeroV 1)) j hlt
              obtain ⟨p1, p2⟩ := fieldAt_place (leastOf k) (fromOf k (zeroV 1)) j
              have c1 : wr.cell? ⟨g, j * 4, none⟩ = some (.int .i64 (fieldAt (leastOf k) (fromOf k (zeroV 1)) j).2.1) := (cell_of_heap hg _).trans f1
              have c2 : wr.cell? ⟨g, j * 4 + 1, none⟩ = some (.pointer (some ⟨w.heap.size, (fieldAt (leastOf k) (fromOf k (zeroV 1)) j).1, none⟩)) := (cell_of_heap hg _).trans f2
              have c3 : wr.cell? ⟨g, j * 4 + 2, none⟩ = some (.int .i64 (fieldAt (leastOf k) (fromOf k (zeroV 1)) j).2.2.1) := (cell_of_heap hg _).trans f3
              have c4 : wr.cell? ⟨g, j * 4 + 3, none⟩ = some (.int .i64 (fieldAt (leastOf k) (fromOf k (zeroV 1)) j).2.2.2) := (cell_of_heap hg _).trans f4
              have hfx : fieldsS (ownOf k) (zeroV, b1, 0) (j + 1) = fieldS (ownOf k) j (fieldsS (ownOf k) (zeroV, b1, 0) j) := rfl
              have ef1 : (fieldAt 0 0 j).1 = (fieldAt (leastOf k) (fromOf k (zeroV 1)) j).1 := by
                have : j = 0 ∨ j = 1 ∨ j = 2 ∨ j = 3 ∨ j = 4 ∨ j = 5 := by omega
                rcases this with rfl | rfl | rfl | rfl | rfl | rfl <;> rfl
              have ef2 : (fieldAt 0 0 j).2.1 = (fieldAt (leastOf k) (fromOf k (zeroV 1)) j).2.1 := by
                have : j = 0 ∨ j = 1 ∨ j = 2 ∨ j = 3 ∨ j = 4 ∨ j = 5 := by omega
                rcases this with rfl | rfl | rfl | rfl | rfl | rfl <;> rfl
              have hbs : ∀ x ∈ (fieldsS (ownOf k) (zeroV, b1, 0) j).2.1, 0 ≤ x ∧ x ≤ 255 := fun x hx => HB1.out x (sub_fieldsS _ _ _ _ hx)
              generalize hs2 : fieldsS (ownOf k) (zeroV, b1, 0) (j + 1) = s2 at *
              have HS2 := Lib.hid hs2
              clear hs2
              generalize fieldsS (ownOf k) (zeroV, b1, 0) j = s1 at *
              have HX : Hid (s2 = if bits .and .i64 (ownOf k) (fieldAt (leastOf k) (fromOf k (zeroV 1)) j).2.1 = 0 then s1 else (setV s1.1 (fieldAt (leastOf k) (fromOf k (zeroV 1)) j).1 (numOf (takeL s1.2.1 s1.2.2 7)), takeR s1.2.1 s1.2.2 7, takeE s1.2.1 s1.2.2 7)) := Lib.hid (by rw [hfx]; unfold fieldS; rw [ef1, ef2])
              clear hfx ef1 ef2
              have HPJ := Lib.hid hP
              have HCJ := Lib.hid hC
              have HGJ := Lib.hid hg
              have HCHJ := Lib.hid hCh
              have HBS := Lib.hid hbs
              have hszJ := hCh.size
              clear hP hC hg hCh hbs f1 f2 f3 f4
              generalize (fieldAt (leastOf k) (fromOf k (zeroV 1)) j).1 = q at *
              generalize (fieldAt (leastOf k) (fromOf k (zeroV 1)) j).2.1 = x1 at *
              generalize (fieldAt (leastOf k) (fromOf k (zeroV 1)) j).2.2.1 = x2 at *
              generalize (fieldAt (leastOf k) (fromOf k (zeroV 1)) j).2.2.2 = x3 at *
              by_cases hz : bits .and .i64 (ownOf k) x1 = 0
              · have hz2 : (bits .and .i64 (ownOf k) x1 != 0) = false := by rw [hz]; rfl
                have HY : Hid (s2 = s1) := Lib.hid (by rw [HX.out, if_pos hz])
                have hal := (Chg.refl (fun _ => False) wr).alloc (.cells #[.int .i64 x1, .pointer (some ⟨w.heap.size, q, none⟩), .int .i64 x2, .int .i64 x3] 66)
                have HAL := Lib.hid hal
                clear hz hal
                go_wp2_with fail
                go_roundw
                case rel => exact ⟨j + 1, by omega, by go_num, by rw [HS2.out, HY.out]; exact HPJ.out.keep HAL.out (fun h => h), by rw [HS2.out, HY.out]; exact HCJ.out.keep HAL.out (fun h => h), heap_alloc HGJ.out, HCHJ.out.alloc _⟩
                case measure => simp [intOf] <;> omega
              · have hz2 : (bits .and .i64 (ownOf k) x1 != 0) = true := bne_iff_ne.2 hz
                have HY : Hid (s2 = (setV s1.1 q (numOf (takeL s1.2.1 s1.2.2 7)), takeR s1.2.1 s1.2.2 7, takeE s1.2.1 s1.2.2 7)) := Lib.hid (by rw [HX.out, if_neg hz])
                have hal := (Chg.refl (fun _ => False) wr).alloc (.cells #[.int .i64 x1, .pointer (some ⟨w.heap.size, q, none⟩), .int .i64 x2, .int .i64 x3] 66)
                have HAL := Lib.hid hal
                clear hz hal
                go_wp2_with fail
                have hSx : (wr.alloc (.cells #[.int .i64 x1, .pointer (some ⟨w.heap.size, q, none⟩), .int .i64 x2, .int .i64 x3] 66)).drew.cell? ⟨wr.heap.size, 1, none⟩ = some (.pointer (some ⟨w.heap.size, q, none⟩)) := cell_of_heap (heap_alloc_new wr _) 1
                have hpl := HPJ.out.lt
                have hcl := HCJ.out.lt
                refine region_lone (fun W' => W'.cell? ⟨wr.heap.size, 1, none⟩ = some (.pointer (some ⟨w.heap.size, q, none⟩))) [] (by kernel_rfl) ?_
                refine take_one 0 hSx rfl (by kernel_rfl) rfl ?_
                apply Exists.intro
                refine And.intro (fun W' hS' => ?y0) (And.intro (fun _ _ _ h => h) ?_)
                case y0 => go_simp; rfl
                refine take_one 1 hSx rfl (by kernel_rfl) rfl ?_
                apply Exists.intro
                refine And.intro (fun W' hS' => ?y1) (And.intro (fun _ _ _ h => h) ?_)
                case y1 => go_simp; rfl
                refine take_one 2 hSx rfl (by kernel_rfl) rfl ?_
                apply Exists.intro
                refine And.intro (fun W' hS' => ?y2) (And.intro (fun _ _ _ h => h) ?_)
                case y2 => go_simp; rfl
                refine only_one 3 rfl (by kernel_rfl) rfl ?_
                go_simp
                have hd := HAL.out.drew
                refine (number_some w _ (w.heap.size + 1) s1.2.1 s1.2.2 7 (by omega) (HCHJ.out.trans hd) (by omega) (HCJ.out.keep hd (fun h => h)) HBS.out).mono ?_
                rintro e w8 ⟨rfl, hC8, hCh8⟩
                have hS8 := hCh8.cell hSx (by simp; omega)
                have hP8 := (HPJ.out.keep hd (fun h => h)).keep hCh8 (by simp)
                have hCh9 := (HCHJ.out.trans hd).trans' hCh8 (fun i h1 h2 => by omega)
                have hg8 := hCh8.keep (w := (wr.alloc (.cells #[.int .i64 x1, .pointer (some ⟨w.heap.size, q, none⟩), .int .i64 x2, .int .i64 x3] 66)).drew) (heap_alloc HGJ.out) (by omega)
                refine ⟨hS8, ?_⟩
                have cq := hP8.cellN q p1 p2
                have fq := hP8.free q
                refine take_one 4 hS8 rfl (by kernel_rfl) rfl ?_
                apply Exists.intro
                refine And.intro (fun W' hS' => ?y4) (And.intro (fun _ _ _ h => h) ?_)
                case y4 => go_simp; rfl
                refine only_one 5 rfl (by kernel_rfl) rfl ?_
                go_simp
                have hst := (Chg.refl (fun k => k = w.heap.size) w8).setCell (p := ⟨w.heap.size, q, none⟩) (.inl rfl) (.int .i64 (numOf (takeL s1.2.1 s1.2.2 7)))
                refine ⟨by kernel_rfl, ?_⟩
                have HP9 := Lib.hid (hP8.setN q (numOf (takeL s1.2.1 s1.2.2 7)) p1 p2)
                have HC9 := Lib.hid (hC8.keep hst (by simp))
                have HG9 := Lib.hid (heap_setCell hg8 (a := ⟨w.heap.size, q, none⟩) (by simp; omega) (.int .i64 (numOf (takeL s1.2.1 s1.2.2 7))))
                have HCH9 := Lib.hid (hCh9.trans' hst (fun i h1 h2 => by omega))
                clear cq fq hS8 hC8 hCh8 hP8 hCh9 hg8 hst hd hSx
                go_wp2_with fail
                go_roundw
                case rel => exact ⟨j + 1, by omega, by go_num, by rw [HS2.out, HY.out]; exact HP9.out, by rw [HS2.out, HY.out]; exact HC9.out, HG9.out, HCH9.out⟩
                case measure => simp [intOf] <;> omega
            · obtain rfl : j = 6 := by omega
              have HPJ := Lib.hid hP
              have HCJ := Lib.hid hC
              have HCHJ := Lib.hid hCh
              clear hP hC hg hCh
              go_wp2_with fail
              go_meet
              exact ⟨HPJ.out, HCJ.out, HCHJ.out⟩
        case rest =>
          obtain ⟨hP, hC, hCh⟩ := hcut
          have hbs : ∀ x ∈ (fieldsS (ownOf k) (zeroV, b1, 0) 6).2.1, 0 ≤ x ∧ x ≤ 255 := fun x hx => HB1.out x (sub_fieldsS _ _ _ _ hx)
          have HB2 := Lib.hid hbs
          clear hbs
          obtain ⟨s2, hs2⟩ : ∃ s, fieldsS (ownOf k) (zeroV, b1, 0) 6 = s := ⟨_, rfl⟩
          rw [hs2] at hP hC HB2 HPAR3
          clear hs2
          have HP := Lib.hid hP
          have HC := Lib.hid hC
          have HCH := Lib.hid hCh
          have b64 := bits64 k HKN.out.1 HKN.out.2
          have b128 := bits128 k HKN.out.1 HKN.out.2
          clear hP hC hCh HP6 HC6 HG HCH6 hsz6 hgs hlP hlC
          go_upto_if 54 with fail
          go_cut [54] from 55 to 57 (fun _ W => PktAt W w.heap.size k s2.1 (if k = 1 then textV s2.2.1 s2.2.2 else ByteArray.empty) (.slice none 0 0) ∧ CurAt w W (w.heap.size + 1) (if k = 1 then textRB s2.2.1 s2.2.2 else s2.2.1) (if k = 1 then textRE s2.2.1 s2.2.2 else s2.2.2) ∧ Chg (fun _ => False) w W)
          case first =>
            by_cases hk1 : k = 1
            · have hkb : (k == 1) = true := beq_iff_eq.2 hk1
              have HK1 := Lib.hid hk1
              clear hk1 b64
              have htx := text_some w wc (w.heap.size + 1) s2.2.1 s2.2.2 HCH.out (by omega) HC.out HB2.out
              have HTX := Lib.hid htx
              clear htx
              go_wp2_with fail
              refine HTX.out.mono ?_
              rintro e w7 ⟨rfl, hC7, hCh7⟩
              have hP7 := HP.out.keep hCh7 (by simp)
              have c7 : w7.cell? ⟨w.heap.size, 7, none⟩ = some (.string ByteArray.empty) := cell_of_heap hP7 7
              have f7 := hP7.free 7
              have hst := (Chg.refl (fun k => k = w.heap.size) w7).setCell (p := ⟨w.heap.size, 7, none⟩) (.inl rfl) (.string (textV s2.2.1 s2.2.2))
              have HP8 := Lib.hid (hP7.setT (textV s2.2.1 s2.2.2))
              have HC8 := Lib.hid (hC7.keep hst (by simp))
              have hszc := HCH.out.size
              have HCH8 := Lib.hid ((HCH.out.trans' hCh7 (fun i h1 h2 => by omega)).trans' hst (fun i h1 h2 => by omega))
              clear HTX hC7 hCh7 hP7 hst
              go_wp2_with fail
              go_meet
              exact ⟨by rw [if_pos HK1.out]; exact HP8.out, by rw [if_pos HK1.out, if_pos HK1.out]; exact HC8.out, HCH8.out⟩
            · have hkb : (k == 1) = false := beq_eq_false_iff_ne.2 hk1
              have HK1 := Lib.hid hk1
              clear hk1 b64
              go_wp2_with fail
              go_meet
              exact ⟨by rw [if_neg HK1.out]; exact HP.out, by rw [if_neg HK1.out, if_neg HK1.out]; exact HC.out, HCH.out⟩
          case rest =>
            obtain ⟨hP, hC, hCh⟩ := hcut
            have HPAR4 : Hid (PP = linesP k s2.1 (if k = 1 then textV s2.2.1 s2.2.2 else ByteArray.empty) (if k = 1 then textRB s2.2.1 s2.2.2 else s2.2.1) (if k = 1 then textRE s2.2.1 s2.2.2 else s2.2.2)) := Lib.hid (by
              rw [HPAR3.out]
              unfold textP
              by_cases h : k = 1
              · simp only [if_pos h]
              · simp only [if_neg h])
            have hb3 : ∀ x ∈ (if k = 1 then textRB s2.2.1 s2.2.2 else s2.2.1), 0 ≤ x ∧ x ≤ 255 := fun x hx => by
              split at hx
              · exact HB2.out x (textRB_sub hx)
              · exact HB2.out x hx
            have HB3 := Lib.hid hb3
            clear hb3 HPAR3 HB2
            generalize (if k = 1 then textV s2.2.1 s2.2.2 else ByteArray.empty) = tx at *
            generalize (if k = 1 then textRB s2.2.1 s2.2.2 else s2.2.1) = b3 at *
            generalize (if k = 1 then textRE s2.2.1 s2.2.2 else s2.2.2) = e3 at *
            obtain ⟨V, hV⟩ : ∃ V, s2.1 = V := ⟨_, rfl⟩
            rw [hV] at hP HPAR4
            have HP := Lib.hid hP
            have HC := Lib.hid hC
            have HCH := Lib.hid hCh
            have hszc := hCh.size
            clear hP hC hCh hV
            go_upto_if 60 with fail
            go_cut [60] from 61 to 79 (fun _ W => ∃ v r, r = (if k = 2 then linesS (numN b3 e3 2) (takeR b3 e3 2) (limE (numOf (takeL b3 e3 2)) 1000 (takeE b3 e3 2)) else ([], b3, e3)) ∧ PktAt W w.heap.size k V tx v ∧ W.ownsRow w.heap.size 9 1 v r.1.length (r.1.map Value.string) ∧ CurAt w W (w.heap.size + 1) r.2.1 r.2.2 ∧ r.1.length ≤ 70000 ∧ sizes r.1 ≤ 65536 * 70000 ∧ Chg (fun _ => False) w W)
            case first =>
              by_cases hk2 : k = 2
              · have hkb : (k == 2) = true := beq_iff_eq.2 hk2
                have HK2 := Lib.hid hk2
                clear hk2 b128
                have hnu := number_some w wc (w.heap.size + 1) b3 e3 2 (by omega) HCH.out (by omega) HC.out HB3.out
                have hlt := numOf_lt6 (takeL b3 e3 2) (fun x hx => HB3.out x (takeL_sub hx)) (Nat.le_trans (takeL_len _ _ _) (by omega))
                have hlt2 := (numOf_lt (takeL b3 e3 2) (fun x hx => HB3.out x (takeL_sub hx))).2
                have hpw : (256 : Int) ^ (takeL b3 e3 2).length ≤ 65536 := by
                  have := takeL_len b3 e3 2
                  have : (takeL b3 e3 2).length = 0 ∨ (takeL b3 e3 2).length = 1 ∨ (takeL b3 e3 2).length = 2 := by omega
                  rcases this with h | h | h <;> rw [h] <;> decide
                have HR : Hid (∃ r, r = (if k = 2 then linesS (numN b3 e3 2) (takeR b3 e3 2) (limE (numOf (takeL b3 e3 2)) 1000 (takeE b3 e3 2)) else ([], b3, e3)) ∧ r = linesS (numOf (takeL b3 e3 2)).toNat (takeR b3 e3 2) (limE (numOf (takeL b3 e3 2)) 1000 (takeE b3 e3 2))) := Lib.hid ⟨_, rfl, by rw [if_pos HK2.out]; rfl⟩
                have HB4 : Hid (∀ x ∈ takeR b3 e3 2, 0 ≤ x ∧ x ≤ 255) := Lib.hid fun x hx => HB3.out x (takeR_sub hx)
                have HNU := Lib.hid hnu
                clear hnu
                generalize (if k = 2 then linesS (numN b3 e3 2) (takeR b3 e3 2) (limE (numOf (takeL b3 e3 2)) 1000 (takeE b3 e3 2)) else ([], b3, e3)) = RR at *
                generalize numOf (takeL b3 e3 2) = N at *
                obtain ⟨m, rfl⟩ := Int.eq_ofNat_of_zero_le hlt.1
                have hm : m ≤ 65535 := by omega
                generalize takeR b3 e3 2 = b4 at *
                generalize takeE b3 e3 2 = e4 at *
                rw [Int.toNat_natCast] at HR
                clear hlt hlt2 hpw
                go_wp2_with fail
                refine HNU.out.mono ?_
                rintro e w7 ⟨rfl, hC7, hCh7⟩
                have hlim := limit_some w w7 (w.heap.size + 1) b4 e4 (m : Int) 1000 hC7
                have HLIM := Lib.hid hlim
                have HP7 := Lib.hid (HP.out.keep hCh7 (by simp))
                have HCH7 := Lib.hid (HCH.out.trans' hCh7 (fun i h1 h2 => by omega))
                clear HNU hC7 hCh7 hlim
                go_wp2_with fail
                refine HLIM.out.mono ?_
                rintro e w8 ⟨rfl, hC8, hCh8⟩
                have HP8 := Lib.hid (HP7.out.keep hCh8 (by simp))
                have HCH8 := Lib.hid (HCH7.out.trans' hCh8 (fun i h1 h2 => by omega))
                have HC8 := Lib.hid hC8
                clear HLIM hC8 hCh8 HP7 HCH7
                generalize limE (m : Int) 1000 e4 = e5 at *
                have HR2 : Hid (RR = linesS m b4 e5) := Lib.hid (by obtain ⟨r, h1, h2⟩ := HR.out; exact h1.symm.trans h2)
                clear HR
                go_wp2_with fail
                obtain ⟨i9, hi9, hz90, hz91, hz92⟩ := info_parts info9
                go_loopw [65] (fun i wr => ∃ (j : Nat) (acc : List ByteArray) (v : Value) (b : List Int) (e : Int), j ≤ m ∧ i = .int .i64 j ∧ PktAt wr w.heap.size k V tx v ∧ wr.ownsRow w.heap.size 9 1 v acc.length (acc.map Value.string) ∧ CurAt w wr (w.heap.size + 1) b e ∧ RR = (acc ++ (linesS (m - j) b e).1, (linesS (m - j) b e).2) ∧ acc.length = j ∧ sizes acc ≤ 65536 * j ∧ (∀ x ∈ b, 0 ≤ x ∧ x ≤ 255) ∧ Chg (fun _ => False) w wr) (fun i _ => m - (intOf i).toNat)
                case atStart => exact ⟨0, [], .slice none 0 0, b4, e5, by omega, rfl, HP8.out, World.ownsRow_nil _ _ _ _, HC8.out, by rw [HR2.out]; rfl, rfl, by simp [sizes], HB4.out, HCH8.out⟩
                case round =>
                  obtain ⟨j, acc, v, b, e, hj, rfl, hP, hO, hC, hRR, hal, hsz, hbb, hCh⟩ := hrel
                  by_cases hlt : j < m
                  · have hmj : m - j = (m - (j + 1)) + 1 := by omega
                    rw [hmj, linesS_succ] at hRR
                    have htx := text_some
                    have HBB := Lib.hid hbb
                    have HPJ := Lib.hid hP
                    have HOJ := Lib.hid hO
                    have HCJ := Lib.hid hC
                    have HCHJ := Lib.hid hCh
                    have hszJ := hCh.size
                    have HRR := Lib.hid hRR
                    have HAL := Lib.hid hal
                    have hvs := textV_size b e
                    obtain ⟨va, vn, vc, rfl⟩ := own_slice hO
                    clear hP hO hC hRR hbb hCh hmj htx hal
                    go_wp2_with fail
                    have cS : wr.drew.cell? ⟨w.heap.size, 8, none⟩ = some (.slice va vn vc) := cell_of_heap HPJ.out 8
                    refine region_lone (fun W' => W'.cell? ⟨w.heap.size, 8, none⟩ = some (.slice va vn vc)) [7] (by kernel_rfl) ?_
                    refine take_one 0 cS rfl (by kernel_rfl) rfl ?_
                    apply Exists.intro
                    refine And.intro (fun W' hS' => ?y0) (And.intro (fun _ _ _ h => h) ?_)
                    case y0 => go_simp; rfl
                    refine take_one 1 cS rfl (by kernel_rfl) rfl ?_
                    apply Exists.intro
                    refine And.intro (fun W' hS' => ?y1) (And.intro (fun _ _ _ h => h) ?_)
                    case y1 => go_simp; rfl
                    refine take_one 2 cS rfl (by kernel_rfl) rfl ?_
                    apply Exists.intro
                    refine And.intro (fun W' hS' => ?y2) (And.intro (fun _ _ _ h => h) ?_)
                    case y2 => go_simp; rfl
                    refine only_one 3 rfl (by kernel_rfl) rfl ?_
                    go_simp
                    have hd := (Chg.refl (fun _ => False) wr).drew
                    refine (text_some w _ (w.heap.size + 1) b e (HCHJ.out.trans hd) (by omega) (HCJ.out.keep hd (fun h => h)) HBB.out).mono ?_
                    rintro en w9 ⟨rfl, hC9, hCh9⟩
                    have hP9 := (HPJ.out.keep hd (fun h => h)).keep hCh9 (by simp)
                    have hCH9 := (HCHJ.out.trans hd).trans' hCh9 (fun i h1 h2 => by omega)
                    have hO9 : w9.ownsRow w.heap.size 9 1 (.slice va vn vc) acc.length (acc.map Value.string) := own_move HOJ.out (fun q hq => hCh9.block q (by obtain ⟨c, t, f, hc⟩ := own_cells HOJ.out hq; exact lt_of_heap hc) (fun e => by obtain ⟨c, hc⟩ := HCJ.out.heap; exact own_ne HOJ.out hc (by decide) (by rw [hq, e])))
                    refine ⟨cell_of_heap hP9 8, ?_⟩
                    refine only_one 4 rfl (by kernel_rfl) rfl ?_
                    go_simp
                    refine ⟨cell_of_heap (heap_alloc hP9) 8, ?_⟩
                    refine only_one 5 rfl (by kernel_rfl) rfl ?_
                    refine wp_append (.tmp 68) (.tmp 71) 24 rfl w.heap.size 9 i9 (.string ByteArray.empty) 1 16 Tryd.underlying24 hi9 hz90 hz91 hz92 rfl (by decide) (.slice va vn vc) acc.length (acc.map Value.string) rfl (hO9.alloc _) ⟨w9.heap.size, 0, none⟩ 1 1 [.string (textV b e)] rfl rfl (cell_one_new _ _ _) (by simp [Value.oneCell']) ?_ ?_ ?_ ?_
                    · unfold maxLen; have := HAL.out; omega
                    · have := HAL.out; omega
                    · have := hCH9.size; simp; omega
                    intro v' w10 hO10 hg10
                    obtain ⟨va', vn', vc', rfl⟩ := own_slice hO10
                    have hP10 : PktAt w10 w.heap.size k V tx (.slice va vn vc) := grown_keep hg10 (heap_alloc hP9) (own_ne hO9 hP9 (by decide))
                    have hC10 : CurAt w w10 (w.heap.size + 1) (textRB b e) (textRE b e) := by
                      obtain ⟨c, hc⟩ := hC9.heap
                      refine hC9.move ?_
                      rw [hc]
                      exact grown_keep hg10 (heap_alloc hc) (own_ne hO9 hc (by decide))
                    have hCH10 := (hCH9.alloc (.cells #[.string (textV b e)] 9)).grown hg10 (fun q hq => .inr (own_block hO9 hq))
                    refine ⟨fun _ => cell_of_heap hP10 8, ?_⟩
                    refine take_one 6 (cell_of_heap hP10 8) rfl (by kernel_rfl) rfl ?_
                    apply Exists.intro
                    refine And.intro (fun W' hS' => ?y6) (And.intro (fun _ _ _ h => h) ?_)
                    case y6 => go_simp; rfl
                    have c8 : w10.cell? ⟨w.heap.size, 8, none⟩ = some (.slice va vn vc) := cell_of_heap hP10 8
                    have f8 := hP10.free 8
                    refine only_one 7 rfl (by kernel_rfl) rfl ?_
                    go_simp
                    refine ⟨by kernel_rfl, ?_⟩
                    have hst := (Chg.refl (fun k => k = w.heap.size) w10).setCell (p := ⟨w.heap.size, 8, none⟩) (.inl rfl) (.slice va' vn' vc')
                    have HP11 := Lib.hid (hP10.setL (.slice va' vn' vc'))
                    have HC11 := Lib.hid (hC10.keep hst (by simp))
                    have HO11 : Hid ((w10.setCell ⟨w.heap.size, 8, none⟩ (.slice va' vn' vc')).ownsRow w.heap.size 9 1 (.slice va' vn' vc') (acc ++ [textV b e]).length ((acc ++ [textV b e]).map Value.string)) := Lib.hid (by
                      rw [List.length_append, List.map_append]
                      exact own_move hO10 (fun q hq => hst.block q (by obtain ⟨c, t, f, hc⟩ := own_cells hO10 hq; exact lt_of_heap hc) (fun e => own_ne hO10 hP10 (by decide) (by rw [hq, e]))))
                    have HCH11 := Lib.hid (hCH10.trans' hst (fun i h1 h2 => by omega))
                    have c11 := HC11.out.cellE
                    clear hst c8 f8 hCH10 hC10 hP10 hO10 hg10 hP9 hCH9 hO9 hC9 hCh9 hd cS
                    generalize w10.setCell ⟨w.heap.size, 8, none⟩ (.slice va' vn' vc') = w11 at *
                    have HRB : Hid (∀ x ∈ textRB b e, 0 ≤ x ∧ x ≤ 255) := Lib.hid fun x hx => HBB.out x (textRB_sub hx)
                    have HLN : Hid ((acc ++ [textV b e]).length = j + 1) := Lib.hid (by rw [List.length_append, HAL.out]; rfl)
                    have hsn := sizes_snoc acc (textV b e)
                    have hsz2 : sizes (acc ++ [textV b e]) ≤ 65536 * (j + 1) := by omega
                    have HSZ := Lib.hid hsz2
                    clear hsn hsz2 hvs
                    by_cases he : textRE b e = 0
                    · have HY : Hid (RR = ((acc ++ [textV b e]) ++ (linesS (m - (j + 1)) (textRB b e) (textRE b e)).1, (linesS (m - (j + 1)) (textRB b e) (textRE b e)).2)) := Lib.hid (by rw [HRR.out, if_pos he]; simp)
                      clear HRR
                      generalize textRE b e = e9 at *
                      subst he
                      go_wp2_with fail
                      go_roundw
                      case rel => exact ⟨j + 1, acc ++ [textV b e], _, textRB b e, 0, by omega, by go_num, HP11.out, HO11.out, HC11.out, HY.out, HLN.out, HSZ.out, HRB.out, HCH11.out⟩
                      case measure => simp [intOf] <;> omega
                    · have HY : Hid (RR = (acc ++ [textV b e], textRB b e, textRE b e)) := Lib.hid (by rw [HRR.out, if_neg he])
                      have heb : (textRE b e != 0) = true := bne_iff_ne.2 he
                      clear HRR he
                      go_wp2_with fail
                      go_meet
                      exact ⟨_, (acc ++ [textV b e], textRB b e, textRE b e), HY.out.symm, HP11.out, HO11.out, HC11.out, by have := HLN.out; simp at this ⊢; omega, by have := HSZ.out; simp; omega, HCH11.out⟩
                  · obtain rfl : j = m := by omega
                    rw [Nat.sub_self] at hRR
                    have HE : Hid (RR = (acc, b, e)) := Lib.hid (by rw [hRR]; simp [linesS])
                    have HPJ := Lib.hid hP
                    have HOJ := Lib.hid hO
                    have HCJ := Lib.hid hC
                    have HCHJ := Lib.hid hCh
                    have HAL := Lib.hid hal
                    clear hP hO hC hCh hRR hbb hal
                    go_wp2_with fail
                    go_meet
                    exact ⟨v, (acc, b, e), HE.out.symm, HPJ.out, HOJ.out, HCJ.out, by have := HAL.out; simp; omega, by simp; omega, HCHJ.out⟩
              · have hkb : (k == 2) = false := beq_eq_false_iff_ne.2 hk2
                have HK2 := Lib.hid hk2
                clear hk2 b128
                go_wp2_with fail
                go_meet
                exact ⟨.slice none 0 0, _, (if_neg HK2.out).symm, HP.out, World.ownsRow_nil _ _ _ _, HC.out, by simp, by simp [sizes], HCH.out⟩
            case rest =>
              obtain ⟨v, r, hr, hP, hO, hC, hl1, hl2, hCh⟩ := hcut
              have HPAR5 : Hid (PP = endP k V tx r) := Lib.hid (by rw [HPAR4.out, linesP, hr])
              clear hr HPAR4 b64 b128 HP HC HCH hszc
              have c1 := hC.cellE
              obtain ⟨Ab, capb, c0⟩ := hC.cellB
              obtain ⟨l, b, e⟩ := r
              simp only at *
              have HP := Lib.hid hP
              have HO := Lib.hid hO
              have HCH := Lib.hid hCh
              have hszc := hCh.size
              clear hP hC hCh hO
              by_cases he : e = 0
              · subst he
                by_cases hbl : 0 < b.length
                · have HE : Hid (PP = noPkt 4) := Lib.hid (by rw [HPAR5.out]; unfold endP; rw [if_pos rfl, if_pos hbl])
                  clear HPAR5
                  go_wp2_with ((with_reducible refine gate_store (t := 26) (p := 2) (v := .tmp 101) rfl ?_); refine wpList_store_row rfl 26 (.tmp 2) (.tmp 101) rfl w.heap.size zeroPkt rfl rfl 26 _ HP.out infoP rfl zeroPkt_all ?_)
                  go_wp2_with fail
                  rw [HE.out]
                  exact bodyPost_ret (results12 _ _ w.heap.size 26 zeroPkt (0, 0) 4 rfl rfl (setRow_heap _ _ _ _ _ _ HP.out) rfl) rfl (post_no w.heap.size 4 HCH.out (Nat.le_refl _))
                · obtain ⟨Al, capl, rfl, hLn⟩ := own_lines HO.out
                  have hch := check_all wc k (V 1) (V 2) (V 3) (V 4) (V 5) (V 6) tx Al l capl hLn (by omega) (by omega)
                  have HPAR6 : Hid (PP = if checkP k V tx l = 0 then ⟨k, V, tx, l, 0⟩ else noPkt 4) := Lib.hid (by rw [HPAR5.out]; unfold endP; rw [if_pos rfl, if_neg hbl])
                  have HCK := Lib.hid hch
                  have hcp : checkP k V tx l = checkF k (V 1) (V 2) (V 3) (V 4) (V 5) (V 6) tx l := rfl
                  rw [← hcp] at HCK
                  clear HPAR5 hch hcp
                  have hbz : b = [] := by cases b with | nil => rfl | cons x t => simp at hbl
                  subst hbz
                  clear hbl
                  go_wp2_with ((with_reducible refine gate_dst (N := 98) rfl ?_); refine wpList_load_row rfl 26 (.tmp 2) rfl w.heap.size rfl 26 _ (0, 0) _ HP.out Tryd.underlying26 rfl infoP ?_)
                  refine HCK.out.mono ?_
                  rintro en w9 ⟨rfl, hC9⟩
                  have HP9 := Lib.hid (HP.out.keep hC9 (fun h => h))
                  have HO9 := Lib.hid (own_move HO.out (fun q hq => hC9.block q (by obtain ⟨c, t, f, hc⟩ := own_cells HO.out hq; exact lt_of_heap hc) (fun e => e)))
                  have HCH9 := Lib.hid (HCH.out.trans hC9)
                  clear hC9 HCK HP HO HCH
                  by_cases hck : checkP k V tx l = 0
                  · have HE : Hid (PP = ⟨k, V, tx, l, 0⟩) := Lib.hid (by rw [HPAR6.out, if_pos hck])
                    have hcb : (checkP k V tx l != 0) = false := by rw [hck]; rfl
                    clear HPAR6 hck
                    go_wp2_with (first | ((with_reducible refine gate_dst (N := 102) rfl ?_); refine wpList_load_row rfl 26 (.tmp 2) rfl w.heap.size rfl 26 _ (0, 0) _ HP9.out Tryd.underlying26 rfl infoP ?_) | ((with_reducible refine gate_store (t := 26) (p := 2) (v := .tmp 102) rfl ?_); refine wpList_store_row rfl 26 (.tmp 2) (.tmp 102) rfl w.heap.size _ rfl rfl 26 _ HP9.out infoP rfl (by simp [Value.oneCell']) ?_))
                    go_wp2_with fail
                    rw [HE.out]
                    refine bodyPost_ret (results12 _ _ w.heap.size 26 _ (0, 0) 0 rfl rfl (setRow_heap _ _ _ _ _ _ HP9.out) rfl) rfl ⟨_, rfl, own_move HO9.out (fun q _ => setRow_same HP9.out q), ?_⟩
                    have h9 := HCH9.out
                    exact ⟨h9.os, h9.tape, h9.output, by rw [size_setRow]; exact h9.size, fun q hq _ => (setRow_same HP9.out q).trans (h9.block q hq (fun h => h))⟩
                  · have HE : Hid (PP = noPkt 4) := Lib.hid (by rw [HPAR6.out, if_neg hck])
                    have hcb : (checkP k V tx l != 0) = true := bne_iff_ne.2 hck
                    clear HPAR6 hck
                    go_wp2_with ((with_reducible refine gate_store (t := 26) (p := 2) (v := .tmp 101) rfl ?_); refine wpList_store_row rfl 26 (.tmp 2) (.tmp 101) rfl w.heap.size zeroPkt rfl rfl 26 _ HP9.out infoP rfl zeroPkt_all ?_)
                    go_wp2_with fail
                    rw [HE.out]
                    exact bodyPost_ret (results12 _ _ w.heap.size 26 zeroPkt (0, 0) 4 rfl rfl (setRow_heap _ _ _ _ _ _ HP9.out) rfl) rfl (post_no w.heap.size 4 HCH9.out (Nat.le_refl _))
              · have HE : Hid (PP = noPkt e) := Lib.hid (by rw [HPAR5.out]; unfold endP; rw [if_neg he])
                have heb : (e != 0) = true := bne_iff_ne.2 he
                clear HPAR5 he
                go_wp2_with ((with_reducible refine gate_store (t := 26) (p := 2) (v := .tmp 86) rfl ?_); refine wpList_store_row rfl 26 (.tmp 2) (.tmp 86) rfl w.heap.size zeroPkt rfl rfl 26 _ HP.out infoP rfl zeroPkt_all ?_)
                go_wp2_with fail
                rw [HE.out]
                exact bodyPost_ret (results12 _ _ w.heap.size 26 zeroPkt (0, 0) e rfl rfl (setRow_heap _ _ _ _ _ _ HP.out) rfl) rfl (post_no w.heap.size e HCH.out (Nat.le_refl _))
    · have hk := known_some k
      have hkk : (decide (1 ≤ k) && decide (k ≤ 5)) = false := by
        by_cases h1 : 1 ≤ k
        · rw [decide_eq_true h1, decide_eq_false (by omega)]; rfl
        · rw [decide_eq_false h1]; rfl
      rw [hkk] at hk
      have HK := Lib.hid hk
      have HE : Hid (PP = noPkt 4) := Lib.hid (by rw [HPAR2.out, if_neg hkn])
      clear hk hkk hkn HPAR2
      go_wp2_with fail
      refine (HK.out _).mono ?_
      rintro e w4 ⟨rfl, rfl⟩
      clear HK
      go_wp2_with ((with_reducible refine gate_store (t := 26) (p := 2) (v := .tmp 30) rfl ?_); refine wpList_store_row rfl 26 (.tmp 2) (.tmp 30) rfl w.heap.size zeroPkt rfl rfl 26 _ HP3.out infoP rfl zeroPkt_all ?_)
      go_wp2_with fail
      rw [HE.out]
      exact bodyPost_ret (results12 _ _ w.heap.size 26 zeroPkt (0, 0) 4 rfl rfl (setRow_heap _ _ _ _ _ _ HP3.out) rfl) rfl (post_no w.heap.size 4 HCH3.out (Nat.le_refl _))
  · have hb1 : (e1 != 0) = true := bne_iff_ne.2 he
    have HE : Hid (PP = noPkt e1) := Lib.hid (by rw [HPAR.out, if_neg he])
    clear he HPAR
    go_wp2_with ((with_reducible refine gate_store (t := 26) (p := 2) (v := .tmp 20) rfl ?_); refine wpList_store_row rfl 26 (.tmp 2) (.tmp 20) rfl w.heap.size zeroPkt rfl rfl 26 _ HP3.out infoP rfl zeroPkt_all ?_)
    go_wp2_with fail
    rw [HE.out]
    exact bodyPost_ret (results12 _ _ w.heap.size 26 zeroPkt (0, 0) e1 rfl rfl (setRow_heap _ _ _ _ _ _ HP3.out) rfl) rfl (post_no w.heap.size e1 HCH3.out (Nat.le_refl _))
end Go.Proofs.YteiedafdakffeaaDoor

/- push: Same. -/
namespace Go.Proofs.YteiedafdakffeaaDoor
set_option linter.unusedVariables false
set_option linter.unusedSimpArgs false
open Go Go.RowKit
set_option maxRecDepth 100000 in
set_option maxHeartbeats 4000000 in
theorem same1_some (w : World) (b j b' j' : Nat) (x1 x2 x3 y1 y2 y3 v v' : Int) (hv : w.cell? ⟨b, j, none⟩ = some (.int .i64 v)) (hv' : w.cell? ⟨b', j', none⟩ = some (.int .i64 v')) :
    Calls Tryd.prog 56 #[.agg #[.int .i64 x1, .pointer (some ⟨b, j, none⟩), .int .i64 x2, .int .i64 x3], .agg #[.int .i64 y1, .pointer (some ⟨b', j', none⟩), .int .i64 y2, .int .i64 y3]] w fun e w' => e = .returned (.bool (v == v')) ∧ Chg (fun _ => False) w w' := by
  have l1 := World.block_lt_of_cell? w _ hv
  have l2 := World.block_lt_of_cell? w _ hv'
  go_enter Tryd.func56, Tryd.ntmps56
  go_wp2_with fail
  go_quiet (fail)
  go_wp2_with fail
  go_ret
  exact ⟨rfl, ((((Chg.refl _ _).alloc _).alloc _).drewN _)⟩
def sameTo (V V' : Nat → Int) (lo fr : Int) (n : Nat) : Bool := (List.range n).all fun i => V (fieldAt lo fr i).1 == V' (fieldAt lo fr i).1
theorem fieldAt_1 (lo fr lo' fr' : Int) (i : Nat) (hi : i < 6) : (fieldAt lo fr i).1 = (fieldAt lo' fr' i).1 := by
  have : i = 0 ∨ i = 1 ∨ i = 2 ∨ i = 3 ∨ i = 4 ∨ i = 5 := by omega
  rcases this with rfl | rfl | rfl | rfl | rfl | rfl <;> rfl
theorem sameTo_succ (V V' : Nat → Int) (lo fr : Int) (n : Nat) : sameTo V V' lo fr (n + 1) = (sameTo V V' lo fr n && (V (fieldAt lo fr n).1 == V' (fieldAt lo fr n).1)) := by
  unfold sameTo
  rw [List.range_succ, List.all_append]
  simp
set_option maxRecDepth 100000 in
set_option maxHeartbeats 4000000 in
theorem equal_fields (w : World) (g g' b b' : Nat) (lo fr lo' fr' : Int) (V V' : Nat → Int) (hg : w.heap[g]? = some (.cells (fieldCells b lo fr) 66 (0, 0))) (hg' : w.heap[g']? = some (.cells (fieldCells b' lo' fr') 66 (0, 0)))
    (hV : ∀ j, 1 ≤ j → j ≤ 6 → w.cell? ⟨b, j, none⟩ = some (.int .i64 (V j))) (hV' : ∀ j, 1 ≤ j → j ≤ 6 → w.cell? ⟨b', j, none⟩ = some (.int .i64 (V' j))) :
    Calls Tryd.prog 55 #[.slice (some ⟨g, 0, none⟩) 6 6, .slice (some ⟨g', 0, none⟩) 6 6, .func (.func 56) #[] #[]] w fun e w' => e = .returned (.bool (sameTo V V' lo fr 6)) ∧ Chg (fun _ => False) w w' := by
  have HG := Lib.hid hg
  have HG' := Lib.hid hg'
  have HV := Lib.hid hV
  have HV' := Lib.hid hV'
  clear hg hg' hV hV'
  go_enter Tryd.func55, Tryd.ntmps55
  go_wp2_with fail
  go_loopw [7, 8, 9, 17] (fun _ _ _ i wr => ∃ k : Nat, k ≤ 6 ∧ i = .int .i64 k ∧ sameTo V V' lo fr k = true ∧ Chg (fun _ => False) w wr) (fun _ _ _ i _ => 6 - (intOf i).toNat)
  case atStart => exact ⟨0, by omega, rfl, rfl, Chg.refl _ _⟩
  case round =>
    obtain ⟨k, hk, rfl, hq, hC⟩ := hrel
    by_cases hlt : k < 6
    · obtain ⟨f1, f2, f3, f4⟩ := fieldCells_at b lo fr k hlt
      obtain ⟨f1', f2', f3', f4'⟩ := fieldCells_at b' lo' fr' k hlt
      obtain ⟨p1, p2⟩ := fieldAt_place lo fr k
      have e1 := fieldAt_1 lo' fr' lo fr k hlt
      have hs := sameTo_succ V V' lo fr k
      have hgr := hC.keep HG.out (fun h => h)
      have hgr' := hC.keep HG'.out (fun h => h)
      rw [e1] at f2'
      have c1 : wr.cell? ⟨g, k * 4, none⟩ = some (.int .i64 (fieldAt lo fr k).2.1) := (cell_of_heap hgr _).trans f1
      have c2 : wr.cell? ⟨g, k * 4 + 1, none⟩ = some (.pointer (some ⟨b, (fieldAt lo fr k).1, none⟩)) := (cell_of_heap hgr _).trans f2
      have c3 : wr.cell? ⟨g, k * 4 + 2, none⟩ = some (.int .i64 (fieldAt lo fr k).2.2.1) := (cell_of_heap hgr _).trans f3
      have c4 : wr.cell? ⟨g, k * 4 + 3, none⟩ = some (.int .i64 (fieldAt lo fr k).2.2.2) := (cell_of_heap hgr _).trans f4
      have d1 : wr.cell? ⟨g', k * 4, none⟩ = some (.int .i64 (fieldAt lo' fr' k).2.1) := (cell_of_heap hgr' _).trans f1'
      have d2 : wr.cell? ⟨g', k * 4 + 1, none⟩ = some (.pointer (some ⟨b', (fieldAt lo fr k).1, none⟩)) := (cell_of_heap hgr' _).trans f2'
      have d3 : wr.cell? ⟨g', k * 4 + 2, none⟩ = some (.int .i64 (fieldAt lo' fr' k).2.2.1) := (cell_of_heap hgr' _).trans f3'
      have d4 : wr.cell? ⟨g', k * 4 + 3, none⟩ = some (.int .i64 (fieldAt lo' fr' k).2.2.2) := (cell_of_heap hgr' _).trans f4'
      have lg := lt_of_heap hgr
      have lg' := lt_of_heap hgr'
      have v1 := hC.cell (HV.out _ p1 p2) (fun h => h)
      have v2 := hC.cell (HV'.out _ p1 p2) (fun h => h)
      have lb := World.block_lt_of_cell? _ _ v1
      have lb' := World.block_lt_of_cell? _ _ v2
      simp only at lb lb'
      have HS := Lib.hid hs
      have HQ := Lib.hid hq
      have HK := Lib.hid hC
      clear f1 f2 f3 f4 f1' f2' f3' f4' p1 p2 hgr hgr' hq hC e1 hs
      generalize (fieldAt lo fr k).1 = j at *
      generalize (fieldAt lo fr k).2.1 = x1 at *
      generalize (fieldAt lo fr k).2.2.1 = x2 at *
      generalize (fieldAt lo fr k).2.2.2 = x3 at *
      generalize (fieldAt lo' fr' k).2.1 = y1 at *
      generalize (fieldAt lo' fr' k).2.2.1 = y2 at *
      generalize (fieldAt lo' fr' k).2.2.2 = y3 at *
      generalize V j = a at *
      generalize V' j = a' at *
      have hal := ((Chg.refl (fun _ => False) wr).alloc (.cells #[.int .i64 x1, .pointer (some ⟨b, j, none⟩), .int .i64 x2, .int .i64 x3] 66)).alloc (.cells #[.int .i64 y1, .pointer (some ⟨b', j, none⟩), .int .i64 y2, .int .i64 y3] 66)
      have he := same1_some _ b j b' j x1 x2 x3 y1 y2 y3 a a' (hal.cell v1 (fun h => h)) (hal.cell v2 (fun h => h))
      have HE := Lib.hid he
      have HAL := Lib.hid hal
      clear he hal v1 v2
      go_wp2_with fail
      refine HE.out.mono ?_
      rintro e w2 ⟨rfl, hC2⟩
      have HC2 := Lib.hid (HK.out.trans (HAL.out.trans hC2))
      clear HE hC2 c1 c2 c3 c4 d1 d2 d3 d4
      cases hab : (a == a')
      · go_wp2
        go_ret
        refine ⟨?_, HC2.out⟩
        have : sameTo V V' lo fr 6 = false := by
          have hkk : sameTo V V' lo fr (k + 1) = false := by rw [HS.out, hab, Bool.and_false]
          have : ∀ m, k + 1 ≤ m → sameTo V V' lo fr m = false := by
            intro m hm
            induction m with
            | zero => omega
            | succ m ih =>
              rcases Nat.lt_or_ge m (k + 1) with h | h
              · obtain rfl : m = k := by omega
                exact hkk
              · rw [sameTo_succ, ih h, Bool.false_and]
          exact this 6 (by omega)
        rw [this]
        rfl
      · have HN : Hid (sameTo V V' lo fr (k + 1) = true) := Lib.hid (by rw [HS.out, HQ.out, hab]; rfl)
        go_wp2
        go_roundw
        case rel => exact ⟨k + 1, by omega, by go_num, HN.out, HC2.out⟩
        case measure => simp [intOf] <;> omega
    · obtain rfl : k = 6 := by omega
      have HQ := Lib.hid hq
      have HK := Lib.hid hC
      clear hq hC
      go_wp2
      go_ret
      exact ⟨by rw [HQ.out]; rfl, HK.out⟩
/-! ### slices.Equal -/
theorem lns_cells {w : World} {A : Option Addr} {l : List ByteArray} (h : Lns w A l) (h0 : 0 < l.length) : ∃ g p, A = some ⟨g, p, none⟩ ∧ ∀ j, j < l.length → w.cell? ⟨g, p + j, none⟩ = some (.string (l.getD j ByteArray.empty)) := by
  obtain ⟨g, p, rfl, _⟩ := h 0 h0
  refine ⟨g, p, rfl, fun j hj => ?_⟩
  obtain ⟨g', p', e, hc⟩ := h j hj
  cases e
  exact hc
set_option maxRecDepth 100000 in
set_option maxHeartbeats 4000000 in
theorem equal_some (w : World) (A B : Option Addr) (l m : List ByteArray) (c d : Nat) (hl : Lns w A l) (hm : Lns w B m) (h1 : l.length ≤ 9223372036854775807) (h2 : m.length ≤ 9223372036854775807) :
    Calls Tryd.prog 57 #[.slice A l.length c, .slice B m.length d] w fun e w' => e = .returned (.bool (decide (l = m))) ∧ Chg (fun _ => False) w w' := by
  by_cases hn : l.length = m.length
  · rcases Nat.eq_zero_or_pos l.length with h0 | h0
    · have el : l = [] := List.length_eq_zero_iff.1 h0
      have em : m = [] := List.length_eq_zero_iff.1 (by omega)
      subst el em
      refine (Tryd.slices_Equal_string_empty A B c 0 d w (by omega)).mono ?_
      rintro e w' ⟨rfl, rfl⟩
      exact ⟨rfl, Chg.refl _ _⟩
    · obtain ⟨g, p, rfl, hc⟩ := lns_cells hl h0
      obtain ⟨g', p', rfl, hc'⟩ := lns_cells hm (by omega)
      refine (Tryd.slices_Equal_string g p l.length c g' p' m.length d l m w (Nat.le_refl _) (Nat.le_refl _) h1 h2 hc hc').mono ?_
      rintro e w' ⟨rfl, q, rfl⟩
      rw [List.take_length, List.take_length]
      exact ⟨rfl, (Chg.refl _ _).drewN q⟩
  · have hd : decide (l = m) = false := decide_eq_false (fun e => hn (by rw [e]))
    rw [hd]
    have hne : ((l.length : Int) == (m.length : Int)) = false := by rw [beq_eq_false_iff_ne]; omega
    have hne2 : ((l.length : Int) != (m.length : Int)) = true := by rw [bne_iff_ne]; omega
    clear hd hl hm
    go_enter Tryd.func57, Tryd.ntmps57
    go_wp2_with fail
    go_ret
    exact ⟨rfl, Chg.refl _ _⟩
end Go.Proofs.YteiedafdakffeaaDoor

/- push: Same, Copy. -/
namespace Go.Proofs.YteiedafdakffeaaDoor
set_option linter.unusedVariables false
set_option linter.unusedSimpArgs false
open Go Go.RowKit
open Go.Proofs.YteiedafdakffeaaDoorW.PrintWords (gate_store gate_dst own_move)
def sameN (V V' : Nat → Int) : Bool := sameTo V V' 0 0 6
def sameF (k : Int) (V : Nat → Int) (tx : ByteArray) (l : List ByteArray) (k' : Int) (V' : Nat → Int) (tx' : ByteArray) (l' : List ByteArray) : Bool :=
  (k == k') && (sameN V V' && ((tx.toList == tx'.toList) && decide (l = l')))
theorem sameTo_any (V V' : Nat → Int) (lo fr : Int) (n : Nat) (hn : n ≤ 6) : sameTo V V' lo fr n = sameTo V V' 0 0 n := by
  induction n with
  | zero => rfl
  | succ n ih => rw [sameTo_succ, sameTo_succ, ih (by omega), fieldAt_1 lo fr 0 0 n (by omega)]
def pk (k : Int) (V : Nat → Int) (tx : ByteArray) (s : Value) : Array Value := #[.int .i64 k, .int .i64 (V 1), .int .i64 (V 2), .int .i64 (V 3), .int .i64 (V 4), .int .i64 (V 5), .int .i64 (V 6), .string tx, s]
set_option maxRecDepth 100000 in
set_option maxHeartbeats 4000000 in
theorem same_some (w : World) (k : Int) (V : Nat → Int) (tx : ByteArray) (A : Option Addr) (l : List ByteArray) (c : Nat) (k' : Int) (V' : Nat → Int) (tx' : ByteArray) (A' : Option Addr) (l' : List ByteArray) (c' : Nat)
    (hl : Lns w A l) (hl' : Lns w A' l') (hb : l.length ≤ 9223372036854775807) (hb' : l'.length ≤ 9223372036854775807) :
    Calls Tryd.prog 21 #[.agg #[.int .i64 k, .int .i64 (V 1), .int .i64 (V 2), .int .i64 (V 3), .int .i64 (V 4), .int .i64 (V 5), .int .i64 (V 6), .string tx, .slice A l.length c],
      .agg #[.int .i64 k', .int .i64 (V' 1), .int .i64 (V' 2), .int .i64 (V' 3), .int .i64 (V' 4), .int .i64 (V' 5), .int .i64 (V' 6), .string tx', .slice A' l'.length c']] w fun e w' => e = .returned (.bool (sameF k V tx l k' V' tx' l')) ∧ Chg (fun _ => False) w w' := by
  have hal := ((Chg.refl (fun _ => False) w).alloc (.cells #[.int .i64 k, .int .i64 (V 1), .int .i64 (V 2), .int .i64 (V 3), .int .i64 (V 4), .int .i64 (V 5), .int .i64 (V 6), .string tx, .slice A l.length c] 26)).alloc (.cells #[.int .i64 k', .int .i64 (V' 1), .int .i64 (V' 2), .int .i64 (V' 3), .int .i64 (V' 4), .int .i64 (V' 5), .int .i64 (V' 6), .string tx', .slice A' l'.length c'] 26)
  have hp : PktAt ((w.alloc (.cells #[.int .i64 k, .int .i64 (V 1), .int .i64 (V 2), .int .i64 (V 3), .int .i64 (V 4), .int .i64 (V 5), .int .i64 (V 6), .string tx, .slice A l.length c] 26)).alloc (.cells #[.int .i64 k', .int .i64 (V' 1), .int .i64 (V' 2), .int .i64 (V' 3), .int .i64 (V' 4), .int .i64 (V' 5), .int .i64 (V' 6), .string tx', .slice A' l'.length c'] 26)) w.heap.size k V tx (.slice A l.length c) := heap_alloc (heap_new _ _)
  have hq : PktAt ((w.alloc (.cells #[.int .i64 k, .int .i64 (V 1), .int .i64 (V 2), .int .i64 (V 3), .int .i64 (V 4), .int .i64 (V 5), .int .i64 (V 6), .string tx, .slice A l.length c] 26)).alloc (.cells #[.int .i64 k', .int .i64 (V' 1), .int .i64 (V' 2), .int .i64 (V' 3), .int .i64 (V' 4), .int .i64 (V' 5), .int .i64 (V' 6), .string tx', .slice A' l'.length c'] 26)) (w.heap.size + 1) k' V' tx' (.slice A' l'.length c') := heap_new1 _ _ _
  have hf1 := fields_some _ w.heap.size k (V 1) (V 2) (V 3) (V 4) (V 5) (V 6) (.string tx) (.slice A l.length c) hp
  have HF1 := Lib.hid hf1
  have HP := Lib.hid hp
  have HQ := Lib.hid hq
  have HAL := Lib.hid hal
  have HL := Lib.hid hl
  have HL' := Lib.hid hl'
  clear hf1 hp hq hal hl hl'
  have HF : Hid (sameF k V tx l k' V' tx' l' = ((k == k') && (sameN V V' && ((tx.toList == tx'.toList) && decide (l = l'))))) := Lib.hid rfl
  generalize sameF k V tx l k' V' tx' l' = R at *
  go_enter Tryd.func21, Tryd.ntmps21
  go_wp2_with fail
  refine HF1.out.mono ?_
  rintro e w2 ⟨g, rfl, hgs, hg, hC2⟩
  have HP2 := Lib.hid (HP.out.keep hC2 (fun h => h))
  have hq2 := HQ.out.keep hC2 (fun h => h)
  have hf2 := fields_some w2 (w.heap.size + 1) k' (V' 1) (V' 2) (V' 3) (V' 4) (V' 5) (V' 6) (.string tx') (.slice A' l'.length c') hq2
  have HF2 := Lib.hid hf2
  have HQ2 := Lib.hid hq2
  have HG := Lib.hid hg
  have HC2 := Lib.hid (HAL.out.trans hC2)
  clear HF1 HP HQ hq2 hf2 hg hC2 HAL
  go_wp2_with fail
  refine HF2.out.mono ?_
  rintro e w3 ⟨g', rfl, hgs', hg', hC3⟩
  have HP3 := Lib.hid (HP2.out.keep hC3 (fun h => h))
  have HQ3 := Lib.hid (HQ2.out.keep hC3 (fun h => h))
  have HE := Lib.hid (equal_fields w3 g g' w.heap.size (w.heap.size + 1) (leastOf k) (fromOf k (V 1)) (leastOf k') (fromOf k' (V' 1)) V V' (hC3.keep HG.out (fun h => h)) hg' (fun j h1 h6 => HP3.out.cellN j h1 h6) (fun j h1 h6 => HQ3.out.cellN j h1 h6))
  have HC3 := Lib.hid (HC2.out.trans hC3)
  clear HF2 HP2 HQ2 HG hg' hC3 HC2
  go_wp2_with fail
  refine HE.out.mono ?_
  rintro e w4 ⟨rfl, hC4⟩
  have hp4 := HP3.out.keep hC4 (fun h => h)
  have hq4 := HQ3.out.keep hC4 (fun h => h)
  have c0 : w4.cell? ⟨w.heap.size, 0, none⟩ = some (.int .i64 k) := cell_of_heap hp4 0
  have c7 : w4.cell? ⟨w.heap.size, 7, none⟩ = some (.string tx) := cell_of_heap hp4 7
  have c8 : w4.cell? ⟨w.heap.size, 8, none⟩ = some (.slice A l.length c) := cell_of_heap hp4 8
  have d0 : w4.cell? ⟨w.heap.size + 1, 0, none⟩ = some (.int .i64 k') := cell_of_heap hq4 0
  have d7 : w4.cell? ⟨w.heap.size + 1, 7, none⟩ = some (.string tx') := cell_of_heap hq4 7
  have d8 : w4.cell? ⟨w.heap.size + 1, 8, none⟩ = some (.slice A' l'.length c') := cell_of_heap hq4 8
  have HC4 := Lib.hid (HC3.out.trans hC4)
  have HEQ := Lib.hid (equal_some w4 A A' l l' c c' (HL.out.chg HC4.out) (HL'.out.chg HC4.out) hb hb')
  have HSN : Hid (sameTo V V' (leastOf k) (fromOf k (V 1)) 6 = sameN V V') := Lib.hid (sameTo_any V V' _ _ 6 (Nat.le_refl _))
  clear HE hp4 hq4 hC4 HP3 HQ3 HC3 hb hb'
  rw [HSN.out]
  generalize sameN V V' = sn at *
  generalize decide (l = l') = dl at *
  cases hk : (k == k')
  · have HK : Hid (R = false) := Lib.hid (by rw [HF.out, hk]; rfl)
    go_wp2_with fail
    go_ret
    exact ⟨by rw [HK.out]; rfl, HC4.out⟩
  · cases sn
    · have HK : Hid (R = false) := Lib.hid (by rw [HF.out, Bool.false_and, Bool.and_false])
      go_wp2_with fail
      go_ret
      exact ⟨by rw [HK.out]; rfl, HC4.out⟩
    · cases ht : (tx.toList == tx'.toList)
      · have HK : Hid (R = false) := Lib.hid (by rw [HF.out, ht, Bool.false_and, Bool.and_false, Bool.and_false])
        go_wp2_with fail
        go_ret
        exact ⟨by rw [HK.out]; rfl, HC4.out⟩
      · have HK : Hid (R = dl) := Lib.hid (by rw [HF.out, hk, ht]; rfl)
        go_wp2_with fail
        refine HEQ.out.mono ?_
        rintro e w5 ⟨rfl, hC5⟩
        have HC5 := Lib.hid (HC4.out.trans hC5)
        clear hC5
        go_wp2_with fail
        go_ret
        exact ⟨by rw [HK.out]; rfl, HC5.out⟩
/-! ### Copy -/
theorem clone_some (w : World) (A : Option Addr) (l : List ByteArray) (c : Nat) (hl : Lns w A l) (hb : l.length * 16 ≤ 140737488355328) :
    Calls Tryd.prog 47 #[.slice A l.length c] w fun e w' => ∃ v, e = .returned v ∧ w'.ownsRow w.heap.size 9 1 v l.length (l.map Value.string) ∧ Chg (fun _ => False) w w' := by
  rcases Nat.eq_zero_or_pos l.length with h0 | h0
  · have el : l = [] := List.length_eq_zero_iff.1 h0
    subst el
    cases A with
    | none =>
      refine (Tryd.slices_Clone_string_nil 0 c w).mono ?_
      rintro e w' ⟨rfl, rfl⟩
      exact ⟨_, rfl, World.ownsRow_nil _ _ _ _, Chg.refl _ _⟩
    | some a =>
      refine (Tryd.slices_Clone_string_zero a c w).mono ?_
      rintro e w' ⟨v, rfl, ho, _, hB⟩
      exact ⟨v, rfl, ho, Below.chg hB (Nat.le_refl _) _⟩
  · obtain ⟨g, p, rfl, hc⟩ := lns_cells hl h0
    refine (Tryd.slices_Clone_string g p l.length c l w (Nat.le_refl _) hb hc).mono ?_
    rintro e w' ⟨v, rfl, ho, _, hB⟩
    rw [List.take_length] at ho
    exact ⟨v, rfl, ho, Below.chg hB (Nat.le_refl _) _⟩
theorem own_lower {W : World} {base base' : Nat} {e : TypeId} {size : Nat} {v : Value} {n : Nat} {xs : List Value} (h : W.ownsRow base e size v n xs) (hb : base' ≤ base) : W.ownsRow base' e size v n xs := own_mono h hb
set_option maxRecDepth 100000 in
set_option maxHeartbeats 4000000 in
theorem copy_some (w : World) (k : Int) (V : Nat → Int) (tx : ByteArray) (A : Option Addr) (l : List ByteArray) (c : Nat) (hl : Lns w A l) (hb : l.length * 16 ≤ 140737488355328) :
    Calls Tryd.prog 30 #[.agg (pk k V tx (.slice A l.length c))] w fun e w' => ∃ v, e = .returned (.agg (pk k V tx v)) ∧ w'.ownsRow w.heap.size 9 1 v l.length (l.map Value.string) ∧ Chg (fun _ => False) w w' := by
  have hal := ((Chg.refl (fun _ => False) w).alloc (.cells (pk k V tx (.slice A l.length c)) 26)).alloc (.cells zeroPkt 26)
  have hp : PktAt ((w.alloc (.cells (pk k V tx (.slice A l.length c)) 26)).alloc (.cells zeroPkt 26)) w.heap.size k V tx (.slice A l.length c) := heap_alloc (heap_new _ _)
  have hq : PktAt ((w.alloc (.cells (pk k V tx (.slice A l.length c)) 26)).alloc (.cells zeroPkt 26)) (w.heap.size + 1) 0 zeroV ByteArray.empty (.slice none 0 0) := heap_new1 _ _ _
  have hcl := clone_some ((w.alloc (.cells (pk k V tx (.slice A l.length c)) 26)).alloc (.cells zeroPkt 26)) A l c (hl.chg hal) hb
  have HCL := Lib.hid hcl
  have HP := Lib.hid hp
  have HQ := Lib.hid hq
  have HAL := Lib.hid hal
  clear hcl hp hq hal hl
  unfold pk zeroPkt at *
  go_enter Tryd.func30, Tryd.ntmps30
  go_wp2_with fail
  refine HCL.out.mono ?_
  rintro e w2 ⟨v, rfl, ho, hC2⟩
  obtain ⟨va, vn, vc, rfl⟩ := own_slice ho
  have hp2 := HP.out.keep hC2 (fun h => h)
  have hq2 := HQ.out.keep hC2 (fun h => h)
  have c8 : w2.cell? ⟨w.heap.size, 8, none⟩ = some (.slice A l.length c) := cell_of_heap hp2 8
  have f8 := hp2.free 8
  have hst := (Chg.refl (fun k => k = w.heap.size) w2).setCell (p := ⟨w.heap.size, 8, none⟩) (.inl rfl) (.slice va vn vc)
  have HP3 := Lib.hid (hp2.setL (.slice va vn vc))
  have HQ3 := Lib.hid (hq2.keep hst (by simp))
  have HO3 := Lib.hid (own_move ho (fun q hq => hst.block q (by obtain ⟨c, t, f, hc⟩ := own_cells ho hq; exact lt_of_heap hc) (fun e => by have := own_block ho hq; simp at this; omega)))
  have HC3 := Lib.hid ((HAL.out.trans hC2).trans' hst (fun i h1 h2 => by omega))
  clear HCL HP HQ HAL ho hC2 hp2 hq2 hst
  go_upto_region 2 with fail
  clear c8 f8
  generalize w2.setCell ⟨w.heap.size, 8, none⟩ (.slice va vn vc) = w3 at *
  go_wp2_with (first | ((with_reducible refine gate_dst (N := 7) rfl ?_); refine wpList_load_row rfl 26 (.tmp 1) rfl w.heap.size rfl 26 _ (0, 0) _ HP3.out Tryd.underlying26 rfl infoP ?_) | ((with_reducible refine gate_store (t := 26) (p := 2) (v := .tmp 7) rfl ?_); refine wpList_store_row rfl 26 (.tmp 2) (.tmp 7) rfl (w.heap.size + 1) _ rfl rfl 26 _ HQ3.out infoP rfl (by simp [Value.oneCell']) ?_))
  go_wp2_with fail
  refine bodyPost_ret (results_cell_row rfl _ _ (w.heap.size + 1) 26 _ (0, 0) _ rfl (setRow_heap _ _ _ _ _ _ HQ3.out) Tryd.underlying26 rfl infoP) rfl ?_
  have h9 := HC3.out
  refine ⟨_, rfl, ?_, ⟨h9.os, h9.tape, h9.output, by rw [size_setRow]; exact h9.size, fun q hq _ => (setRow_other _ _ _ _ (by omega)).trans (h9.block q hq (fun h => h))⟩⟩
  refine own_lower (own_move HO3.out (fun q hq => setRow_other _ _ _ _ (by have := own_block HO3.out hq; simp at this; omega))) (by simp; omega)
end Go.Proofs.YteiedafdakffeaaDoor
