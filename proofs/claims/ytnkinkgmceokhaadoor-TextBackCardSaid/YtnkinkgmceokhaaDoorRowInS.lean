/- What a law's row gives its walk: the rows of texts that came in. -/
import Derived.Test.YtnkinkgmceokhaaDoorRowInT
namespace Go.Proofs.YtnkinkgmceokhaaDoor
set_option linter.unusedVariables false
set_option linter.unusedSimpArgs false
open Go Go.RowKit Go.ChangeShapes Go.WideShapes Go.ChangeAt Go.Shelf
open Go.Proofs.YtnkinkgmceokhaaDoorW.PrintWords (Kd)
theorem strs_row {H : Type} {enc : TypeId × Value → H} {W : World} {base n c : Nat} {sp : Nat → Bool} {held : Bool} {A : Option Addr} {d : DataW H} {p : List MemPlace}
    (h0 : DataW.Trod enc Tryd.prog W base sp held 23 (.slice A n c) d p) (hsz : ∀ E S, d = .slice E S → E.length * 16 ≤ 140737488351232) :
    ∃ l : List ByteArray, n = l.length ∧ l.length ≤ c ∧ Kd.C Kd.string W A l.length l ∧ l.length * 16 ≤ 140737488351232 := by
  obtain ⟨fuel, h⟩ := h0
  have h : DataW.trod enc Tryd.prog W base sp held fuel 23 [.slice A n c] = some (d, p) := h
  rcases open_strings Tryd.underlying23 Tryd.underlying9 (by kernel_rfl) h with ⟨hcs, _⟩ | ⟨a, len, cap, ss, hcs, _, hl, hm, hz, hx, hcell, _⟩
  · injection hcs with hcs _
    injection hcs with _ hn hc
    exact ⟨[], hn, Nat.zero_le _, ⟨rfl, by decide, fun h0 => absurd h0 (by simp)⟩, by decide⟩
  · injection hcs with hcs _
    injection hcs with hA hn hc
    subst hA
    subst hn
    subst hc
    have hlen : n ≤ ss.length := by rw [hz]; split <;> omega
    have hn : (ss.take n).length = n := by rw [List.length_take]; omega
    have hN := hsz _ _ (congrArg Prod.fst hx)
    have hst : (strs (H := H) (ss.take n)).length = n := by unfold strs; rw [List.length_map, hn]
    rw [hst] at hN
    refine ⟨ss.take n, hn.symm, by rw [hn]; exact hl, ⟨rfl, by rw [hn]; omega, fun _ => ⟨a, rfl, fun j p hj => ⟨[.string p], rfl, rfl, fun i u hu => ?_⟩⟩⟩, by rw [hn]; exact hN⟩
    have hjn : j < n := by
      have := (List.getElem?_eq_some_iff.1 hj).1
      omega
    cases i with
    | zero =>
      cases hu
      have hz1 : Kd.string.sz = 1 := rfl
      rw [hz1, Nat.mul_one, Nat.add_zero, hcell j (by omega)]
      rw [List.getElem?_take_of_lt hjn] at hj
      simp [List.getD, hj]
    | succ i => simp at hu
theorem strs_len {H : Type} {ts : List TypeId} {ds : List (DataW H)} (h : (DataW.weightsEach Tryd.prog ts ds).all (· ≤ reachBytes) = true) {j : Nat} (ht : ts[j]? = some 23) {d : DataW H} (hd : ds[j]? = some d) :
    ∀ E S, d = .slice E S → E.length * 16 ≤ 140737488351232 := by
  intro E S e
  subst e
  have h1 := sized_slice h ht hd Tryd.underlying23
  have h2 : Tryd.prog.bytesOf 9 = 16 := by kernel_rfl
  rw [h2] at h1
  unfold reachBytes at h1
  have h3 : E.length * 16 ≤ (E.length + S.length) * 16 := Nat.mul_le_mul_right 16 (Nat.le_add_right _ _)
  exact Nat.le_trans h3 (Nat.le_trans h1 (by decide))
end Go.Proofs.YtnkinkgmceokhaaDoor
