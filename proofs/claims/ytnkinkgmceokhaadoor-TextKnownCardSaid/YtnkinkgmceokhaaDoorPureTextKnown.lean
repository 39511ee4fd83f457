/- TextKnown: the plain statement, and the walk. -/
import Derived.Test.YtnkinkgmceokhaaDoorPureCuts
import Derived.Test.YtnkinkgmceokhaaDoorPrTextKnown4
namespace Go.Proofs.YtnkinkgmceokhaaDoor
set_option linter.unusedVariables false
set_option linter.unusedSimpArgs false
open Go Go.RowKit Go.Proofs.YtnkinkgmceokhaaDoor.PrTextKnown Go.Proofs.YtnkinkgmceokhaaDoorW.PrintWords
theorem makes_k (l : List ByteArray) (a1 : Int) (hl : l.length ≤ 8796093022208) (k : Nat) (h1 : 2400 ≤ k) (h2 : k ≤ 400000) : chinoiserielaw01_TextMakes.f k l a1 = some true := by
  unfold chinoiserielaw01_TextMakes.f
  exact makes_l0 l a1 hl 30 0 k (by omega) (by omega) (by omega) (by omega) (by omega)
theorem known_lines (n : Nat) (h1 : 0 < n) (h2 : n ≤ 65536) : text_Lines.f (strOfNums (List.replicate n 0)) = some ([strOfNums (List.replicate n 0)], 0) := by
  have e : (strOfNums (List.replicate n 0)).data.toList = List.replicate n 0 := by
    unfold strOfNums
    rw [List.map_replicate]
    rfl
  have key : ∀ (l : List UInt8), 10 ∉ l → ∀ r, l.foldl (stp 10) (([] : List (List UInt8)), r) = ([], r ++ l) := by
    intro l
    induction l with
    | nil => intro _ r; simp
    | cons b l ih =>
      intro h r
      simp only [List.mem_cons, not_or] at h
      simp only [List.foldl_cons, stp]
      rw [if_neg (fun e => h.1 e.symm), ih h.2]
      simp
  have hs : (strOfNums (List.replicate n 0)).size = n := by rw [ba_len, e, List.length_replicate]
  have hp : pcs 10 (List.replicate n (0 : UInt8)) = ([], List.replicate n 0) := by
    unfold pcs
    rw [key _ (by rw [List.mem_replicate]; rintro ⟨_, h⟩; revert h; decide)]
    rfl
  have hne : (List.replicate n (0 : UInt8)) ≠ [] := by
    intro h
    have := congrArg List.length h
    rw [List.length_replicate, List.length_nil] at this
    omega
  unfold text_Lines.f
  rw [hs, if_neg (by omega), e]
  unfold linesL
  rw [hp]
  simp only [if_neg hne, List.nil_append, List.map_cons, List.map_nil]
  rw [← e]
  rfl
theorem known_last : ((some (List.replicate 65537 0 : List Int)).bind fun y175 => ((text_Lines.f (strOfNums y175)).bind fun bt178 => (if 1 ≤ (y175.length : Int) then ((text_Lines.f (strOfNums (y175.drop 1))).bind fun bt186 => ((chinoiserielaw01_works.f).bind fun t190 => (if t190 = true then (if bt178.2 = 5 then (if bt186.2 = 0 then (some ((bt186.1.length : Int) == 1)) else (some false)) else (some false)) else (some false)))) else (none)))) = some true := by
  have hw : chinoiserielaw01_works.f = some true := rfl
  have e1 : text_Lines.f (strOfNums (List.replicate 65537 0)) = some ([], 5) := by
    have hs : (strOfNums (List.replicate 65537 0)).size = 65537 := by
      rw [ba_len]
      unfold strOfNums
      rw [List.map_replicate]
      exact List.length_replicate
    unfold text_Lines.f
    rw [hs, if_pos (by omega)]
  have e2 : (List.replicate 65537 (0 : Int)).drop 1 = List.replicate 65536 0 := by rw [List.drop_replicate]
  rw [Option.bind_some, e1, e2, known_lines 65536 (by omega) (by omega), hw, List.length_replicate]
  rfl
theorem known_l2 (xs : List ByteArray) (hn : xs.length ≤ 100) : ∀ (d i k : Nat), xs.length - i = d → i ≤ xs.length → d + 2500 < k → k ≤ 400000 → chinoiserielaw01_TextKnown.l2 k xs (i : Int) = some true := by
  intro d
  induction d with
  | zero =>
    intro i k hd hi hk hk2
    obtain ⟨k, rfl⟩ : ∃ m, k = m + 1 := ⟨k - 1, by omega⟩
    rw [chinoiserielaw01_TextKnown.l2, if_neg (by omega), if_pos (by decide)]
    exact known_last
  | succ d ih =>
    intro i k hd hi hk hk2
    obtain ⟨k, rfl⟩ : ∃ m, k = m + 1 := ⟨k - 1, by omega⟩
    rw [chinoiserielaw01_TextKnown.l2, if_pos (by omega), if_pos (by omega), cuts_pure _ k (by omega), Option.bind_some, if_pos rfl, if_pos (by omega), makes_k _ _ (by rw [List.length_drop]; omega) k (by omega) (by omega), Option.bind_some, if_pos rfl, wr1 i (by omega)]
    exact ih (i + 1) k (by omega) (by omega) (by omega) (by omega)
theorem known_l1 (xs : List Int) (hn : xs.length ≤ 100) : ∀ (d i k : Nat), xs.length - i = d → i ≤ xs.length → d + 2700 < k → k ≤ 400000 → chinoiserielaw01_TextKnown.l1 k xs (i : Int) = some true := by
  intro d
  induction d with
  | zero =>
    intro i k hd hi hk hk2
    obtain ⟨k, rfl⟩ : ∃ m, k = m + 1 := ⟨k - 1, by omega⟩
    rw [chinoiserielaw01_TextKnown.l1, if_neg (by omega), if_pos (by decide)]
    exact known_l2 _ (by simp) 15 0 k (by simp) (by omega) (by omega) (by omega)
  | succ d ih =>
    intro i k hd hi hk hk2
    obtain ⟨k, rfl⟩ : ∃ m, k = m + 1 := ⟨k - 1, by omega⟩
    rw [chinoiserielaw01_TextKnown.l1, if_pos (by omega), if_pos (by omega), makes_k _ _ (by simp) k (by omega) (by omega), Option.bind_some, if_pos rfl, wr1 i (by omega)]
    exact ih (i + 1) k (by omega) (by omega) (by omega) (by omega)
theorem known_l0 : ∀ (d i k : Nat), 256 - i = d → i ≤ 256 → d + 3000 < k → k ≤ 400000 → chinoiserielaw01_TextKnown.l0 k (i : Int) = some true := by
  intro d
  induction d with
  | zero =>
    intro i k hd hi hk hk2
    obtain ⟨k, rfl⟩ : ∃ m, k = m + 1 := ⟨k - 1, by omega⟩
    rw [chinoiserielaw01_TextKnown.l0, if_neg (by omega)]
    exact known_l1 _ (by simp) 11 0 k (by simp) (by omega) (by omega) (by omega)
  | succ d ih =>
    intro i k hd hi hk hk2
    obtain ⟨k, rfl⟩ : ∃ m, k = m + 1 := ⟨k - 1, by omega⟩
    have hs : ∀ n : Int, (strOfNums [n]).size = 1 := fun n => rfl
    rw [chinoiserielaw01_TextKnown.l0, if_pos (by omega), Option.bind_some]
    generalize hS : strOfNums [(i : Int) % 256] = S
    have h1 : S.size = 1 := by rw [← hS]; rfl
    have h2 : ((⟨#[97, 32]⟩ : ByteArray) ++ S).size = 3 := by rw [ByteArray.size_append, h1]; rfl
    have h3 : (S ++ (⟨#[10]⟩ : ByteArray)).size = 2 := by rw [ByteArray.size_append, h1]; rfl
    rw [cuts_pure _ k (by omega), Option.bind_some, if_pos rfl, h1, if_pos (by decide), cuts_pure _ k (by omega), Option.bind_some, if_pos rfl, if_pos (by decide), h2, if_pos (by decide), cuts_pure _ k (by omega), Option.bind_some, if_pos rfl, cuts_pure _ k (by omega), Option.bind_some, if_pos rfl,
      makes_k _ _ (by simp) k (by omega) (by omega), Option.bind_some, if_pos rfl, if_pos (by decide), h3, if_pos (by decide), cuts_pure _ k (by omega), Option.bind_some, if_pos rfl, wr1 i (by omega)]
    exact ih (i + 1) k (by omega) (by omega) (by omega) (by omega)
theorem known_pure : chinoiserielaw01_TextKnown.f 4000 = some true := by
  unfold chinoiserielaw01_TextKnown.f
  exact known_l0 256 0 4000 (by omega) (by omega) (by omega) (by omega)
theorem TextKnown_calls (w : World) (hW : WOk w) : Calls Tryd.prog 9 #[] w fun e w' => e = .returned (.bool true) ∧ Below w.heap.size w w' :=
  chinoiserielaw01_TextKnown.calls 4000 true w known_pure hW
end Go.Proofs.YtnkinkgmceokhaaDoor
