/- Plain facts on texts as lists of bytes: lines, words, names, numbers. -/
import Derived.Lib.Split
import Derived.Lib.SplitLaws
import Derived.Lib.CountLaws
import Derived.Lib.IndexLaws
import Derived.Lib.IndexBytes
import Derived.Lib.Join
import Derived.Lib.AtoiAll
import Derived.Lib.ItoaNum
import Derived.Lib.SlTrimSet
namespace Go.Proofs.YtfhmmekamommcaaGreatDoor
set_option linter.unusedVariables false
set_option linter.unusedSimpArgs false
open Go
/-- bytes as a text -/
def bs (l : List UInt8) : ByteArray := ⟨l.toArray⟩
theorem bs_list (s : ByteArray) : bs s.data.toList = s := rfl
theorem list_bs (l : List UInt8) : (bs l).data.toList = l := rfl
theorem bs_size (l : List UInt8) : (bs l).size = l.length := by simp [bs, ByteArray.size]
theorem bs_inj {a b : List UInt8} (h : bs a = bs b) : a = b := by
  have := congrArg (fun s => s.data.toList) h
  exact this
/-! ### pieces between a byte -/
def stp (c : UInt8) (s : List (List UInt8) × List UInt8) (b : UInt8) : List (List UInt8) × List UInt8 := if b = c then (s.1 ++ [s.2], []) else (s.1, s.2 ++ [b])
def pcs (c : UInt8) (l : List UInt8) : List (List UInt8) × List UInt8 := l.foldl (stp c) ([], [])
def pieces (c : UInt8) (l : List UInt8) : List (List UInt8) := (pcs c l).1 ++ [(pcs c l).2]
theorem fold_pre (c : UInt8) (l : List UInt8) (o : List (List UInt8)) (r : List UInt8) :
    l.foldl (stp c) (o, r) = (o ++ (l.foldl (stp c) ([], r)).1, (l.foldl (stp c) ([], r)).2) := by
  induction l generalizing o r with
  | nil => simp
  | cons b l ih =>
    simp only [List.foldl_cons, stp]
    by_cases h : b = c
    · rw [if_pos h, if_pos h, ih, ih ([] ++ [r])]; simp
    · rw [if_neg h, if_neg h, ih]
theorem pcs_hit (c : UInt8) (l : List UInt8) (r : List UInt8) (hr : c ∉ r) : pcs c (r ++ c :: l) = (r :: (pcs c l).1, (pcs c l).2) := by
  have h1 : ∀ (r p : List UInt8), c ∉ r → r.foldl (stp c) ([], p) = ([], p ++ r) := by
    intro r
    induction r with
    | nil => intro p _; simp
    | cons b r ih =>
      intro p hp
      simp only [List.foldl_cons, stp]
      rw [if_neg (fun e => hp (by simp [e])), ih _ (fun h => hp (by simp [h]))]
      simp
  unfold pcs
  rw [List.foldl_append, h1 r [] hr, List.foldl_cons]
  simp only [stp, if_true, List.nil_append]
  rw [fold_pre]
  simp
theorem pcs_none (c : UInt8) (r : List UInt8) (hr : c ∉ r) : pcs c r = ([], r) := by
  have h1 : ∀ (r p : List UInt8), c ∉ r → r.foldl (stp c) ([], p) = ([], p ++ r) := by
    intro r
    induction r with
    | nil => intro p _; simp
    | cons b r ih =>
      intro p hp
      simp only [List.foldl_cons, stp]
      rw [if_neg (fun e => hp (by simp [e])), ih _ (fun h => hp (by simp [h]))]
      simp
  exact h1 r [] hr
/-- the library's pieces are these -/
theorem splitK_pieces (c : UInt8) (k : Nat) : ∀ l : List UInt8, l.length ≤ k → Lib.splitK [c] 0 (Lib.count l [c]) l = pieces c l := by
  induction k with
  | zero =>
    intro l hl
    obtain rfl : l = [] := List.length_eq_zero_iff.1 (by omega)
    rfl
  | succ k ih =>
    intro l hl
    have hge := Lib.indexByte_ge l c
    by_cases h : Lib.indexByte l c = -1
    · have h1 : Lib.index l [c] = -1 := by rw [Lib.index_one]; exact h
      have hm : c ∉ l := fun hm => by
        obtain ⟨i, hi, e⟩ := List.getElem_of_mem hm
        exact Lib.indexByte_none h i (by rw [List.getElem?_eq_getElem hi, e])
      rw [Lib.count_miss h1]
      unfold pieces
      rw [pcs_none c l hm]
      rfl
    · obtain ⟨i, hi⟩ : ∃ i : Nat, Lib.indexByte l c = i := ⟨(Lib.indexByte l c).toNat, by omega⟩
      have h1 : Lib.index l [c] = i := by rw [Lib.index_one]; exact hi
      obtain ⟨h2, h3⟩ := Lib.indexByte_some hi
      have hlt : i < l.length := (List.getElem?_eq_some_iff.1 h2).1
      have hspl : l = l.take i ++ c :: l.drop (i + 1) := by
        have := List.take_append_drop i l
        rw [List.drop_eq_getElem_cons hlt] at this
        rw [(List.getElem?_eq_some_iff.1 h2).2] at this
        exact this.symm
      have hno : c ∉ l.take i := fun hm => by
        obtain ⟨j, hj, e⟩ := List.getElem_of_mem hm
        have hj' : j < i := by simp at hj; omega
        refine h3 j hj' ?_
        rw [List.getElem?_eq_getElem (by omega)]
        have e2 : l[j]'(by omega) = c := by simpa using e
        rw [e2]
      rw [Lib.count_hit (by simp) h1, Nat.add_comm 1]
      unfold Lib.splitK
      rw [if_neg (by rw [h1]; simp), h1]
      simp only [Int.toNat_natCast, Nat.add_zero, List.length_singleton]
      rw [ih (l.drop (i + 1)) (by simp; omega)]
      unfold pieces
      conv => rhs; rw [hspl]
      rw [pcs_hit c _ _ hno]
      rfl
theorem pieces_length (c : UInt8) (l : List UInt8) : (pieces c l).length = Lib.count l [c] + 1 := by
  have h := Lib.splitB_all ⟨#[c]⟩ (Nat.le_refl 1) 0 (Lib.count l [c]) (bs l) rfl
  have e := Lib.splitB_data ⟨#[c]⟩ 0 (Lib.count l [c]) (bs l)
  have e2 := splitK_pieces c l.length l (Nat.le_refl _)
  have e3 : (Lib.splitK [c] 0 (Lib.count l [c]) l).length = (Lib.splitB ⟨#[c]⟩ 0 (Lib.count l [c]) (bs l)).length := by
    rw [← List.length_map (f := fun s : ByteArray => s.data.toList), e]; rfl
  rw [← e2, e3, h]
theorem splitB_pieces (c : UInt8) (l : List UInt8) : Lib.splitB ⟨#[c]⟩ 0 (Lib.countB (bs l) ⟨#[c]⟩) (bs l) = (pieces c l).map bs := by
  have e := Lib.splitB_data ⟨#[c]⟩ 0 (Lib.count l [c]) (bs l)
  have e2 := splitK_pieces c l.length l (Nat.le_refl _)
  have e4 : (Lib.splitB ⟨#[c]⟩ 0 (Lib.countB (bs l) ⟨#[c]⟩) (bs l)).map (fun s : ByteArray => s.data.toList) = pieces c l := by
    rw [← e2]; exact e
  rw [← e4, List.map_map]
  exact (List.map_id _).symm
/-! ### lines -/
def linesL (l : List UInt8) : List (List UInt8) := if (pcs 10 l).2 = [] then (pcs 10 l).1 else (pcs 10 l).1 ++ [(pcs 10 l).2]
/-! ### words -/
def wB (b : UInt8) : Bool := decide (33 ≤ b.toNat) && decide (b.toNat ≤ 126)
def isWordL (l : List UInt8) : Bool := !l.isEmpty && l.all wB
def wst (s : List (List UInt8) × List UInt8) (b : UInt8) : List (List UInt8) × List UInt8 := if b = 32 then (if s.2 = [] then s else (s.1 ++ [s.2], [])) else (s.1, s.2 ++ [b])
def wcs (l : List UInt8) : List (List UInt8) × List UInt8 := l.foldl wst ([], [])
def okW (l : List UInt8) : Bool := l.all fun b => b == 32 || wB b
def wordsL (l : List UInt8) : List (List UInt8) := if (wcs l).2 = [] then (wcs l).1 else (wcs l).1 ++ [(wcs l).2]
/-- what Words tells -/
def wordsR (l : List UInt8) : List (List UInt8) := if okW l then wordsL l else []
def wordsE (l : List UInt8) : Int := if okW l then 0 else 4
/-- what Join tells -/
def joinR (ws : List (List UInt8)) : List UInt8 := if ws.all isWordL then [32].intercalate ws else []
def joinE (ws : List (List UInt8)) : Int := if ws.all isWordL then 0 else 4
/-! ### names -/
def lcB (b : UInt8) : Bool := decide (97 ≤ b.toNat) && decide (b.toNat ≤ 122)
def nmB (b : UInt8) : Bool := lcB b || (decide (48 ≤ b.toNat) && decide (b.toNat ≤ 57)) || b == 45
def nameOk : List UInt8 → Bool
  | [] => false
  | b :: l => lcB b && (b :: l).all nmB && decide ((b :: l).length ≤ 12)
def nameE (l : List UInt8) : Int := if nameOk l then 0 else 31
/-! ### numbers -/
def dgB (b : UInt8) : Bool := decide (48 ≤ b.toNat) && decide (b.toNat ≤ 57)
def valL (l : List UInt8) : Nat := l.foldl (fun n b => 10 * n + (b.toNat - 48)) 0
/-- are these digits of a number, without a nought ahead? -/
def numOk : List UInt8 → Bool
  | [] => false
  | b :: l => (b :: l).all dgB && (b != 48 || l.isEmpty)
def numE (l : List UInt8) : Int := if numOk l then (if valL l ≤ 9007199254740991 then 0 else 9) else 4
def numR (l : List UInt8) : Int := if numOk l then (if valL l ≤ 9007199254740991 then (valL l : Int) else 0) else 0
def digE (n : Int) : Int := if 0 ≤ n ∧ n ≤ 9007199254740991 then 0 else 9
def digR (n : Int) : List UInt8 := if 0 ≤ n ∧ n ≤ 9007199254740991 then Lib.decDigits n.toNat else []
theorem valL_snoc (l : List UInt8) (b : UInt8) : valL (l ++ [b]) = 10 * valL l + (b.toNat - 48) := by simp [valL]
theorem val_from (l : List UInt8) : ∀ n : Nat, l.foldl (fun n b => 10 * n + (b.toNat - 48)) n = n * 10 ^ l.length + valL l := by
  unfold valL
  induction l with
  | nil => intro n; simp
  | cons b l ih =>
    intro n
    simp only [List.foldl_cons, List.length_cons]
    rw [ih, ih (10 * 0 + (b.toNat - 48))]
    rw [Nat.pow_succ, Nat.mul_zero, Nat.zero_add, Nat.add_mul, Nat.mul_comm 10 n, Nat.mul_assoc, Nat.mul_comm 10 (10 ^ l.length)]
    omega
/-- Atoi's parser on digits: it spells the value, or it overflows -/
theorem parse_digits (l : List UInt8) (hl : l.all dgB = true) : ∀ acc : Nat, acc < 18446744073709551616 →
    (Lib.parseUint10 acc l = .ok (l.foldl (fun n b => 10 * n + (b.toNat - 48)) acc)) ∨ (Lib.parseUint10 acc l = .range ∧ 18446744073709551616 ≤ l.foldl (fun n b => 10 * n + (b.toNat - 48)) acc) := by
  have grow : ∀ (l : List UInt8) (n m : Nat), m ≤ n → m ≤ l.foldl (fun n b => 10 * n + (b.toNat - 48)) n := by
    intro l
    induction l with
    | nil => intro n m h; exact h
    | cons b l ih => intro n m h; exact ih (10 * n + (b.toNat - 48)) _ (by omega)
  induction l with
  | nil => intro acc _; exact .inl rfl
  | cons b l ih =>
    intro acc ha
    simp only [List.all_cons, Bool.and_eq_true] at hl
    obtain ⟨hb, hl⟩ := hl
    simp only [dgB, Bool.and_eq_true, decide_eq_true_eq] at hb
    unfold Lib.parseUint10
    rw [if_pos hb]
    simp only [List.foldl_cons]
    have e : 10 * acc + (b.toNat - 48) = acc * 10 + (b.toNat - 48) := by omega
    split
    · right; exact ⟨rfl, grow _ _ _ (by omega)⟩
    · split
      · right; exact ⟨rfl, grow _ _ _ (by omega)⟩
      · rw [e]; exact ih hl _ (by omega)
theorem atoi_digits (b : UInt8) (l : List UInt8) (hl : (b :: l).all dgB = true) :
    Lib.atoiAll (b :: l) = if valL (b :: l) < 9223372036854775808 then .ok (valL (b :: l) : Int) else .range := by
  have hb : 48 ≤ b.toNat ∧ b.toNat ≤ 57 := by
    simp only [List.all_cons, Bool.and_eq_true, dgB, decide_eq_true_eq] at hl
    exact hl.1
  unfold Lib.atoiAll
  simp only
  rw [if_neg (by omega)]
  unfold Lib.parseMag
  rw [if_neg (by simp)]
  have hv : (b :: l).foldl (fun n b => 10 * n + (b.toNat - 48)) 0 = valL (b :: l) := rfl
  rcases parse_digits (b :: l) hl 0 (by omega) with h | ⟨h, h2⟩
  · rw [h, hv]
    simp only
    have hn : ¬ b.toNat = 45 := by omega
    by_cases hlt : valL (b :: l) < 9223372036854775808
    · rw [if_pos hlt, if_neg (by omega), if_neg (by omega), if_neg hn]
    · rw [if_neg hlt, if_pos ⟨hn, by omega⟩]
  · rw [h]
    simp only
    rw [hv] at h2
    rw [if_neg (by omega)]
/-! ### trimming digits -/
def digs : List UInt8 := [48, 49, 50, 51, 52, 53, 54, 55, 56, 57]
theorem digs_has (b : UInt8) : digs.contains b = dgB b := by
  rw [Bool.eq_iff_iff]
  simp only [digs, dgB, List.contains_cons, List.contains_nil, Bool.or_false, Bool.or_eq_true, beq_iff_eq, Bool.and_eq_true, decide_eq_true_eq, ← UInt8.toNat_inj]
  simp
  omega
theorem drop_nil {α} (p : α → Bool) (l : List α) : l.dropWhile p = [] ↔ l.all p = true := by
  induction l with
  | nil => simp
  | cons a l ih =>
    by_cases h : p a = true
    · simp [h, ih]
    · simp [h]
theorem trim_digs (l : List UInt8) : Lib.trimS l digs = [] ↔ l.all dgB = true := by
  unfold Lib.trimS Lib.trimLeftS Lib.trimRightS
  have e : (fun x => digs.contains x) = dgB := funext digs_has
  rw [e]
  rw [drop_nil]
  constructor
  · intro h
    -- what is left is digits, and what was cut off too
    have h2 : (l.reverse.dropWhile dgB) = [] := by
      cases hd : l.reverse.dropWhile dgB with
      | nil => rfl
      | cons a t =>
        have h3 : dgB a = false := by
          have := List.head?_dropWhile_not dgB l.reverse
          rw [hd] at this
          simpa using this
        rw [hd] at h
        simp [h3] at h
    rw [drop_nil] at h2
    simpa using h2
  · intro h
    have h2 : l.reverse.dropWhile dgB = [] := by rw [drop_nil]; simpa using h
    rw [h2]; rfl
end Go.Proofs.YtfhmmekamommcaaGreatDoor
