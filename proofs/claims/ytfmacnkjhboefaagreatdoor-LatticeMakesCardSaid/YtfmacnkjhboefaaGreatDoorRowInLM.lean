/- What LatticeMakes' row gives its walk: the row of names that came in. -/
import Derived.Test.YtfmacnkjhboefaaGreatDoorRowInL
namespace Go.Proofs.YtfmacnkjhboefaaGreatDoor
open Go Go.RowKit Go.ChangeShapes Go.WideShapes Go.ChangeAt
theorem open_names {H : Type} {enc : TypeId × Value → H} {W : World} {base fuel : Nat} {sp : Nat → Bool} {held : Bool} {v : Value} {x : DataW H × List MemPlace}
    (h : DataW.trod enc Tryz.prog W base sp held fuel 22 [v] = some x) (hsz : ∀ E S, x.1 = .slice E S → E.length ≤ 140737488355328) : ∃ N, InStrs W v N ∧ N.length ≤ 140737488355328 := by
  rcases open_strings Tryz.underlying22 Tryz.underlying9 (by kernel_rfl) h with ⟨hv, _⟩ | ⟨a, len, cap, ss, hv, _, hl, _, hz, hxe, hcell, _⟩
  · obtain rfl := List.head_eq_of_cons_eq hv
    exact ⟨[], ⟨none, 0, rfl, Nat.le_refl _, fun i hi => by cases hi⟩, by simp⟩
  · obtain rfl := List.head_eq_of_cons_eq hv
    have hml : len ≤ ss.length := by rw [hz]; split <;> omega
    have hn : ((ss.take len).map fun s => s.data.toList).length = len := by rw [List.length_map, List.length_take]; omega
    have hN := hsz _ _ (congrArg Prod.fst hxe)
    have hst : (strs (H := H) (ss.take len)).length = len := by unfold strs; rw [List.length_map, List.length_take]; omega
    rw [hst] at hN
    obtain ⟨g, o, s⟩ := a
    refine ⟨(ss.take len).map fun s => s.data.toList, ⟨some ⟨g, o, s⟩, cap, by rw [hn], by rw [hn]; exact hl, fun i hi => ?_⟩, by rw [hn]; exact hN⟩
    rw [hn] at hi
    have h1 := hcell i (by omega)
    obtain rfl : s = none := by simpa [Addr.add] using World.cell?_spot (hcell 0 (by omega))
    refine ⟨g, o, rfl, ?_⟩
    rw [add_plain] at h1
    rw [h1]
    simp [List.getD, hi, show i < ss.length by omega, bs_list]
theorem names_sized {H : Type} {ts : List TypeId} {ds : List (DataW H)} (h : (DataW.weightsEach Tryz.prog ts ds).all (· ≤ reachBytes) = true) {j : Nat} (ht : ts[j]? = some 22) {d : DataW H} (hd : ds[j]? = some d) :
    ∀ E S, d = .slice E S → E.length ≤ 140737488355328 := by
  intro E S e
  subst e
  have h1 := sized_slice h ht hd Tryz.underlying22
  have h2 : Tryz.prog.bytesOf 9 = 16 := by kernel_rfl
  rw [h2] at h1
  unfold reachBytes at h1
  omega
end Go.Proofs.YtfmacnkjhboefaaGreatDoor
