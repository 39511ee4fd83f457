/- Plain facts on ids: the parts between dots, their numbers, and their order. -/
import Derived.Test.YtfhmmekamommcaaGreatDoorTxtLaws
namespace Go.Proofs.YtfhmmekamommcaaGreatDoor
set_option linter.unusedVariables false
set_option linter.unusedSimpArgs false
open Go
/-! ### numbers that are written in one way -/
theorem snocI {α : Type} {P : List α → Prop} (h0 : P []) (h1 : ∀ l a, P l → P (l ++ [a])) (l : List α) : P l := by
  have h : ∀ n (l : List α), l.length = n → P l := by
    intro n
    induction n with
    | zero => intro l hl; obtain rfl := List.length_eq_zero_iff.1 hl; exact h0
    | succ n ih =>
      intro l hl
      have hne : l ≠ [] := by rintro rfl; simp at hl
      rw [← List.dropLast_concat_getLast hne]
      exact h1 _ _ (ih _ (by simp [hl]))
  exact h _ l rfl
theorem dec_of_val (p : List UInt8) : numOk p = true → Lib.decDigits (valL p) = p := by
  induction p using snocI with
  | h0 => intro h; cases h
  | h1 q b ih =>
    intro h
    have hdb : dgB b = true := by
      cases q with
      | nil => unfold numOk at h; simp at h; exact h
      | cons c q => unfold numOk at h; simp only [List.cons_append, List.all_cons, List.all_append, Bool.and_eq_true] at h; exact h.1.2.2.1
    have hb : 48 ≤ b.toNat ∧ b.toNat ≤ 57 := by simpa [dgB] using hdb
    rw [valL_snoc]
    cases q with
    | nil =>
      show Lib.decDigits (10 * 0 + (b.toNat - 48)) = [b]
      rw [Lib.decDigits, dif_pos (by omega), show 48 + (10 * 0 + (b.toNat - 48)) = b.toNat by omega]
      simp
    | cons c q =>
      have hq : numOk (c :: q) = true ∧ c ≠ 48 := by
        unfold numOk at h ⊢
        simp only [List.cons_append, List.all_cons, List.all_append, Bool.and_eq_true, Bool.or_eq_true, bne_iff_ne, List.isEmpty_iff] at h ⊢
        obtain ⟨⟨h1, h2, h3⟩, h4⟩ := h
        have hc : c ≠ 48 := h4.resolve_right (by simp)
        exact ⟨⟨⟨h1, h2⟩, .inl hc⟩, hc⟩
      have hv := ih hq.1
      have h1 : 1 ≤ valL (c :: q) := by
        have := hq.1
        unfold numOk at this
        simp only [List.all_cons, Bool.and_eq_true, dgB, decide_eq_true_eq] at this
        have hc2 : c.toNat ≠ 48 := fun e => hq.2 (UInt8.toNat_inj.1 e)
        rw [valL_cons]
        have h6 : 1 ≤ c.toNat - 48 := by omega
        have := Nat.mul_le_mul h6 (Nat.one_le_two_pow (n := 0))
        have h8 : 1 ≤ 10 ^ q.length := Nat.one_le_pow _ _ (by omega)
        have := Nat.mul_le_mul h6 h8
        omega
      rw [Lib.decDigits, dif_neg (by omega), show (10 * valL (c :: q) + (b.toNat - 48)) / 10 = valL (c :: q) by omega, hv, show (10 * valL (c :: q) + (b.toNat - 48)) % 10 = b.toNat - 48 by omega, show 48 + (b.toNat - 48) = b.toNat by omega]
      simp
theorem valL_inj {p q : List UInt8} (hp : numOk p = true) (hq : numOk q = true) (h : valL p = valL q) : p = q := by
  rw [← dec_of_val p hp, ← dec_of_val q hq, h]
/-! ### pieces -/
theorem pieces_hit (c : UInt8) (r l : List UInt8) (hr : c ∉ r) : pieces c (r ++ c :: l) = r :: pieces c l := by
  unfold pieces
  rw [pcs_hit c l r hr]
  rfl
theorem pieces_none (c : UInt8) (r : List UInt8) (hr : c ∉ r) : pieces c r = [r] := by
  unfold pieces
  rw [pcs_none c r hr]
  rfl
theorem cut_first (c : UInt8) (l : List UInt8) (h : c ∈ l) : ∃ r t, l = r ++ c :: t ∧ c ∉ r := by
  induction l with
  | nil => simp at h
  | cons b l ih =>
    by_cases e : b = c
    · exact ⟨[], l, by simp [e], by simp⟩
    · obtain ⟨r, t, h1, h2⟩ := ih ((List.mem_cons.1 h).resolve_left fun x => e x.symm)
      exact ⟨b :: r, t, by rw [h1]; rfl, by simp [h2, Ne.symm e]⟩
theorem cut_last (c : UInt8) (l : List UInt8) : c ∈ l → ∃ s p, l = s ++ c :: p ∧ c ∉ p := by
  induction l using snocI with
  | h0 => intro h; simp at h
  | h1 l b ih =>
    intro h
    by_cases e : b = c
    · exact ⟨l, [], by simp [e], by simp⟩
    · have hm : c ∈ l := by
        rcases List.mem_append.1 h with h | h
        · exact h
        · exact absurd (List.mem_singleton.1 h).symm e
      obtain ⟨s, p, h1, h2⟩ := ih hm
      exact ⟨s, p ++ [b], by rw [h1]; simp, by simp [h2, Ne.symm e]⟩
theorem pieces_ne (c : UInt8) (l : List UInt8) : pieces c l ≠ [] := by unfold pieces; simp
theorem pieces_last (c : UInt8) : ∀ (s p : List UInt8), c ∉ p → pieces c (s ++ c :: p) = pieces c s ++ [p] := by
  have h : ∀ n (s p : List UInt8), s.length = n → c ∉ p → pieces c (s ++ c :: p) = pieces c s ++ [p] := by
    intro n
    induction n using Nat.strongRecOn with
    | _ n ih =>
      intro s p hs hp
      by_cases hm : c ∈ s
      · obtain ⟨r, t, rfl, hr⟩ := cut_first c s hm
        rw [List.append_assoc, List.cons_append, pieces_hit c r _ hr, pieces_hit c r _ hr, ih t.length (by simp at hs; omega) t p rfl hp]
        rfl
      · rw [pieces_hit c s p hm, pieces_none c p hp, pieces_none c s hm]
        rfl
  exact fun s p => h _ s p rfl
theorem pieces_inj (c : UInt8) : ∀ (l m : List UInt8), pieces c l = pieces c m → l = m := by
  have h : ∀ n (l m : List UInt8), l.length = n → pieces c l = pieces c m → l = m := by
    intro n
    induction n using Nat.strongRecOn with
    | _ n ih =>
      intro l m hl he
      by_cases h1 : c ∈ l
      · obtain ⟨r, t, rfl, hr⟩ := cut_first c l h1
        rw [pieces_hit c r t hr] at he
        by_cases h2 : c ∈ m
        · obtain ⟨r', t', rfl, hr'⟩ := cut_first c m h2
          rw [pieces_hit c r' t' hr'] at he
          obtain ⟨rfl, e⟩ := List.cons.inj he
          rw [ih t.length (by simp at hl; omega) t t' rfl e]
        · rw [pieces_none c m h2] at he
          exact absurd (List.cons.inj he).2 (pieces_ne c t)
      · rw [pieces_none c l h1] at he
        by_cases h2 : c ∈ m
        · obtain ⟨r', t', rfl, hr'⟩ := cut_first c m h2
          rw [pieces_hit c r' t' hr'] at he
          exact absurd (List.cons.inj he).2.symm (pieces_ne c t')
        · rw [pieces_none c m h2] at he
          exact (List.cons.inj he).1
  exact fun l m => h _ l m rfl
theorem pieces_len_le (c : UInt8) : ∀ (l : List UInt8), (pieces c l).length ≤ l.length + 1 ∧ ∀ x ∈ pieces c l, x.length ≤ l.length := by
  have h : ∀ n (l : List UInt8), l.length = n → (pieces c l).length ≤ l.length + 1 ∧ ∀ x ∈ pieces c l, x.length ≤ l.length := by
    intro n
    induction n using Nat.strongRecOn with
    | _ n ih =>
      intro l hl
      by_cases h1 : c ∈ l
      · obtain ⟨r, t, rfl, hr⟩ := cut_first c l h1
        obtain ⟨a, b⟩ := ih t.length (by simp at hl; omega) t rfl
        rw [pieces_hit c r t hr]
        refine ⟨by simp; omega, fun x hx => ?_⟩
        rcases List.mem_cons.1 hx with rfl | hx
        · simp
        · have := b x hx
          simp
          omega
      · rw [pieces_none c l h1]
        refine ⟨by simp, fun x hx => ?_⟩
        rw [List.mem_singleton.1 hx]
        exact Nat.le_refl _
  exact fun l => h _ l rfl
/-! ### ids -/
def okP (p : List UInt8) : Bool := numOk p && decide (valL p ≤ 9007199254740991) && decide (1 ≤ valL p)
theorem okP_iff (p : List UInt8) : okP p = true ↔ numE p = 0 ∧ 1 ≤ numR p := by
  unfold okP numE numR
  cases numOk p with
  | false => simp
  | true =>
    by_cases h : valL p ≤ 9007199254740991
    · simp [h]; omega
    · simp [h]
theorem okP_val {p : List UInt8} (h : okP p = true) : numR p = (valL p : Int) ∧ numE p = 0 ∧ 1 ≤ valL p ∧ valL p ≤ 9007199254740991 := by
  unfold okP at h
  simp only [Bool.and_eq_true, decide_eq_true_eq] at h
  unfold numR numE
  rw [if_pos h.1.1, if_pos h.1.2, if_pos h.1.1, if_pos h.1.2]
  exact ⟨rfl, rfl, h.2, h.1.2⟩
theorem okP_inj {p q : List UInt8} (hp : okP p = true) (hq : okP q = true) (h : valL p = valL q) : p = q := by
  unfold okP at hp hq
  simp only [Bool.and_eq_true] at hp hq
  exact valL_inj hp.1.1 hq.1.1 h
def parts (l : List UInt8) : List (List UInt8) := pieces 46 l
def idAll (l : List UInt8) : Bool := (parts l).all okP
def idOk (l : List UInt8) : Bool := idAll l && decide ((parts l).length ≤ 8)
def idNs (l : List UInt8) : List Nat := (parts l).map valL
/-- what numbers hands back: a row, and whether it is an id -/
def idRow (l : List UInt8) : List Nat := if idAll l then idNs l else []
theorem idNs_inj {l m : List UInt8} (hl : idAll l = true) (hm : idAll m = true) (h : idNs l = idNs m) : l = m := by
  refine pieces_inj 46 l m ?_
  have key : ∀ (A B : List (List UInt8)), A.all okP = true → B.all okP = true → A.map valL = B.map valL → A = B := by
    intro A
    induction A with
    | nil => intro B _ _ e; simpa using e.symm
    | cons a A ih =>
      intro B hA hB e
      cases B with
      | nil => simp at e
      | cons b B =>
        simp only [List.all_cons, Bool.and_eq_true, List.map_cons, List.cons.injEq] at hA hB e
        rw [okP_inj hA.1 hB.1 e.1, ih B hA.2 hB.2 e.2]
  exact key _ _ hl hm h
theorem idOk_all {l : List UInt8} (h : idOk l = true) : idAll l = true ∧ (parts l).length ≤ 8 := by
  unfold idOk at h
  simpa using h
theorem idNs_len (l : List UInt8) : (idNs l).length = (parts l).length := by simp [idNs]
theorem idRow_len (l : List UInt8) (h : idOk l = true) : (idRow l).length ≤ 8 := by
  obtain ⟨h1, h2⟩ := idOk_all h
  unfold idRow
  rw [if_pos h1, idNs_len]
  exact h2
theorem idRow_ns {l : List UInt8} (h : idOk l = true) : idRow l = idNs l := by
  unfold idRow
  rw [if_pos (idOk_all h).1]
/-! ### order -/
def cmpL : List Nat → List Nat → Int
  | [], [] => 0
  | [], _ :: _ => -1
  | _ :: _, [] => 1
  | a :: s, b :: t => if a < b then -1 else if b < a then 1 else cmpL s t
theorem cmpL_self (a : List Nat) : cmpL a a = 0 := by
  induction a with
  | nil => rfl
  | cons x a ih => unfold cmpL; rw [if_neg (by omega), if_neg (by omega)]; exact ih
theorem cmpL_cases (a b : List Nat) : cmpL a b = -1 ∨ cmpL a b = 0 ∨ cmpL a b = 1 := by
  induction a generalizing b with
  | nil => cases b <;> simp [cmpL]
  | cons x a ih =>
    cases b with
    | nil => simp [cmpL]
    | cons y b =>
      unfold cmpL
      split
      · simp
      · split
        · simp
        · exact ih b
theorem cmpL_zero {a b : List Nat} (h : cmpL a b = 0) : a = b := by
  induction a generalizing b with
  | nil => cases b with
    | nil => rfl
    | cons _ _ => simp [cmpL] at h
  | cons x a ih =>
    cases b with
    | nil => simp [cmpL] at h
    | cons y b =>
      unfold cmpL at h
      split at h
      · simp at h
      · split at h
        · simp at h
        · rw [ih h, show x = y by omega]
theorem cmpL_swap (a b : List Nat) : cmpL b a = -cmpL a b := by
  induction a generalizing b with
  | nil => cases b <;> rfl
  | cons x a ih =>
    cases b with
    | nil => rfl
    | cons y b =>
      unfold cmpL
      by_cases h1 : x < y
      · rw [if_neg (by omega), if_pos h1, if_pos h1]; rfl
      · by_cases h2 : y < x
        · rw [if_pos h2, if_neg h1, if_pos h2]
        · rw [if_neg h2, if_neg h1, if_neg h1, if_neg h2]; exact ih b
theorem cmpL_trans {a b c : List Nat} (h1 : cmpL a b < 0) (h2 : cmpL b c < 0) : cmpL a c < 0 := by
  induction a generalizing b c with
  | nil =>
    cases c with
    | nil =>
      cases b with
      | nil => simp [cmpL] at h1
      | cons _ _ => simp [cmpL] at h2
    | cons _ _ => simp [cmpL]
  | cons x a ih =>
    cases b with
    | nil => simp [cmpL] at h1
    | cons y b =>
      cases c with
      | nil => simp [cmpL] at h2
      | cons z c =>
        unfold cmpL at h1 h2 ⊢
        by_cases e1 : x < y
        · by_cases e2 : y < z
          · rw [if_pos (by omega)]; omega
          · rw [if_neg e2] at h2
            by_cases e3 : z < y
            · rw [if_pos e3] at h2; omega
            · rw [if_pos (by omega)]; omega
        · rw [if_neg e1] at h1
          by_cases e2 : y < x
          · rw [if_pos e2] at h1; omega
          · rw [if_neg e2] at h1
            obtain rfl : x = y := by omega
            by_cases e3 : x < z
            · rw [if_pos e3]; omega
            · rw [if_neg e3] at h2 ⊢
              by_cases e4 : z < x
              · rw [if_pos e4] at h2; omega
              · rw [if_neg e4] at h2 ⊢
                exact ih h1 h2
/-- which of two ids comes ahead -/
def idLess (a b : List UInt8) : Bool := idOk a && idOk b && decide (cmpL (idNs a) (idNs b) < 0)
/-- what is left without the last number -/
def idCut (l : List UInt8) : List UInt8 × List UInt8 := if 46 ∈ l then (l.reverse.dropWhile (· != 46)).tail.reverse |> fun s => (s, l.drop (s.length + 1)) else ([], l)
theorem idCut_eq (s p : List UInt8) (hp : (46 : UInt8) ∉ p) : idCut (s ++ 46 :: p) = (s, p) := by
  unfold idCut
  rw [if_pos (by simp)]
  have h1 : (s ++ 46 :: p).reverse = p.reverse ++ 46 :: s.reverse := by simp
  have h2 : ∀ (q t : List UInt8), (46 : UInt8) ∉ q → (q ++ 46 :: t).dropWhile (· != 46) = 46 :: t := by
    intro q
    induction q with
    | nil => intro t _; rfl
    | cons b q ih =>
      intro t h
      have hb : (b != 46) = true := bne_iff_ne.2 fun e => h (by simp [e])
      rw [List.cons_append, List.dropWhile_cons, hb]
      exact ih t fun e => h (by simp [e])
  simp only [h1]
  rw [h2 _ _ (by simpa using hp)]
  simp
/-- Parent's answer -/
def idPar (l : List UInt8) : List UInt8 × Bool := if 46 ∈ l ∧ idOk l = true then ((idCut l).1, true) else ([], false)
theorem parts_two (l : List UInt8) : 2 ≤ (parts l).length ↔ (46 : UInt8) ∈ l := by
  constructor
  · intro h
    by_cases hm : (46 : UInt8) ∈ l
    · exact hm
    · unfold parts at h
      rw [pieces_none 46 l hm] at h
      simp at h
  · intro h
    obtain ⟨s, p, rfl, hp⟩ := cut_last 46 l h
    unfold parts
    rw [pieces_last 46 s p hp]
    have := List.length_pos_iff.2 (pieces_ne 46 s)
    simp
    omega
theorem parts_last (s p : List UInt8) (hp : (46 : UInt8) ∉ p) : parts (s ++ 46 :: p) = parts s ++ [p] := pieces_last 46 s p hp
theorem idOk_par {s p : List UInt8} (hp : (46 : UInt8) ∉ p) (h : idOk (s ++ 46 :: p) = true) : idOk s = true ∧ okP p = true := by
  unfold idOk idAll at *
  rw [parts_last s p hp] at h
  simp only [List.all_append, List.all_cons, List.all_nil, Bool.and_true, Bool.and_eq_true, decide_eq_true_eq, List.length_append, List.length_cons, List.length_nil] at h ⊢
  exact ⟨⟨h.1.1, by omega⟩, h.1.2⟩
theorem dg_ne_dot (b : UInt8) (h : dgB b = true) : b ≠ 46 := by
  rintro rfl
  revert h
  decide
theorem okP_nodot {p : List UInt8} (h : okP p = true) : (46 : UInt8) ∉ p := by
  intro hm
  unfold okP at h
  simp only [Bool.and_eq_true] at h
  have h1 := h.1.1
  cases p with
  | nil => simp at hm
  | cons b p =>
    unfold numOk at h1
    simp only [Bool.and_eq_true] at h1
    exact dg_ne_dot 46 (List.all_eq_true.1 h1.1 46 hm) rfl
/-- Child's answer -/
def idKidE (l : List UInt8) (n : Int) : Int := if idOk l then (if 1 ≤ n ∧ n ≤ 9007199254740991 then (if (parts l).length = 8 then 5 else 0) else 9) else 4
def idKid (l : List UInt8) (n : Int) : List UInt8 := if idKidE l n = 0 then l ++ 46 :: Lib.decDigits n.toNat else []
theorem dec_okP {n : Nat} (h1 : 1 ≤ n) (h2 : n ≤ 9007199254740991) : okP (Lib.decDigits n) = true := by
  obtain ⟨e1, e2⟩ := dec_val n
  unfold okP
  rw [e1, e2]
  simp [h1, h2]
theorem kid_parts {l : List UInt8} {n : Nat} (h1 : 1 ≤ n) (h2 : n ≤ 9007199254740991) : parts (l ++ 46 :: Lib.decDigits n) = parts l ++ [Lib.decDigits n] := parts_last l _ (okP_nodot (dec_okP h1 h2))
theorem kid_ok {l : List UInt8} {n : Nat} (h1 : 1 ≤ n) (h2 : n ≤ 9007199254740991) (h : idOk l = true) (h8 : (parts l).length ≠ 8) : idOk (l ++ 46 :: Lib.decDigits n) = true ∧ idNs (l ++ 46 :: Lib.decDigits n) = idNs l ++ [n] := by
  obtain ⟨a, b⟩ := idOk_all h
  unfold idOk idAll idNs
  rw [kid_parts h1 h2]
  unfold idAll at a
  refine ⟨?_, ?_⟩
  · simp only [List.all_append, List.all_cons, List.all_nil, Bool.and_true, Bool.and_eq_true, decide_eq_true_eq, List.length_append, List.length_cons, List.length_nil, a, dec_okP h1 h2]
    first | omega | exact ⟨⟨trivial, trivial⟩, by omega⟩ | exact ⟨trivial, by omega⟩
  · simp [(dec_val n).1]
end Go.Proofs.YtfhmmekamommcaaGreatDoor
