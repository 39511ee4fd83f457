/- fuse: what the sort of spots compares by; the sort. -/
import Derived.Test.YtbihefbjojlncaaFrRest
import Derived.Test.YtbihefbjojlncaaShelfSort
namespace Go.Proofs.Ytbihefbjojlncaa
set_option linter.unusedVariables false
set_option linter.unusedSimpArgs false
open Go Go.RowKit Go.Shelf Go.Sort
def cmpI (a b : Int) : Int := if a < b then -1 else if b < a then 1 else 0
def cmpS (x y : Int × Int) : Int := if cmpI x.1 y.1 = 0 then cmpI x.2 y.2 else cmpI x.1 y.1
theorem isnan_int (w : World) (a : Int) : Calls Try.prog 44 #[.int .i64 a] w fun e w' => e = .returned (.bool false) ∧ w' = w := by
  go_enter Try.func44, Try.ntmps44
  go_wp2
  go_ret
  exact ⟨by first | rfl | simp, rfl⟩
theorem isnan_lab (w : World) (a : Int) : Calls Try.prog 45 #[.int .i64 a] w fun e w' => e = .returned (.bool false) ∧ w' = w := by
  go_enter Try.func45, Try.ntmps45
  go_wp2
  go_ret
  exact ⟨by first | rfl | simp, rfl⟩
theorem cmp_int (w : World) (a b : Int) : Calls Try.prog 37 #[.int .i64 a, .int .i64 b] w fun e w' => e = .returned (.int .i64 (cmpI a b)) ∧ w' = w := by
  unfold cmpI
  by_cases x0 : a < b
  · rw [if_pos x0]
    go_enter Try.func37, Try.ntmps37
    go_wp2_with (first | (go_at_call 44; refine (isnan_int _ _).mono ?_; rintro e w2 ⟨rfl, rfl⟩))
    go_ret
    exact ⟨rfl, rfl⟩
  · rw [if_neg x0]
    by_cases x1 : b < a
    · rw [if_pos x1]
      go_enter Try.func37, Try.ntmps37
      go_wp2_with (first | (go_at_call 44; refine (isnan_int _ _).mono ?_; rintro e w2 ⟨rfl, rfl⟩))
      go_ret
      exact ⟨rfl, rfl⟩
    · rw [if_neg x1]
      go_enter Try.func37, Try.ntmps37
      go_wp2_with (first | (go_at_call 44; refine (isnan_int _ _).mono ?_; rintro e w2 ⟨rfl, rfl⟩))
      go_ret
      exact ⟨rfl, rfl⟩
theorem cmp_lab (w : World) (a b : Int) : Calls Try.prog 38 #[.int .i64 a, .int .i64 b] w fun e w' => e = .returned (.int .i64 (cmpI a b)) ∧ w' = w := by
  unfold cmpI
  by_cases x0 : a < b
  · rw [if_pos x0]
    go_enter Try.func38, Try.ntmps38
    go_wp2_with (first | (go_at_call 45; refine (isnan_lab _ _).mono ?_; rintro e w2 ⟨rfl, rfl⟩))
    go_ret
    exact ⟨rfl, rfl⟩
  · rw [if_neg x0]
    by_cases x1 : b < a
    · rw [if_pos x1]
      go_enter Try.func38, Try.ntmps38
      go_wp2_with (first | (go_at_call 45; refine (isnan_lab _ _).mono ?_; rintro e w2 ⟨rfl, rfl⟩))
      go_ret
      exact ⟨rfl, rfl⟩
    · rw [if_neg x1]
      go_enter Try.func38, Try.ntmps38
      go_wp2_with (first | (go_at_call 45; refine (isnan_lab _ _).mono ?_; rintro e w2 ⟨rfl, rfl⟩))
      go_ret
      exact ⟨rfl, rfl⟩
theorem or_some (w : World) (B : Nat) (x y : Int) (h0 : w.cell? ⟨B, 0, none⟩ = some (.int .i64 x)) (h1 : w.cell? ⟨B, 1, none⟩ = some (.int .i64 y)) :
    Calls Try.prog 36 #[.slice (some ⟨B, 0, none⟩) 2 2] w fun e w' => e = .returned (.int .i64 (if x = 0 then y else x)) ∧ w' = w := by
  obtain ⟨r, hr⟩ : ∃ r, (if x = 0 then y else x) = r := ⟨_, rfl⟩
  have HR := Lib.hid hr
  rw [hr]
  clear hr
  go_enter Try.func36, Try.ntmps36
  go_wp2_with fail
  by_cases hx : x = 0
  · by_cases hy : y = 0
    · subst hx hy
      refine wp_loop_rounds 3 ?_; rw [rounds_succ]
      go_wp2_with fail
      rw [rounds_succ]
      go_wp2_with fail
      rw [rounds_succ]
      go_wp2_with fail
      go_ret
      exact ⟨by rw [← HR.out]; rfl, rfl⟩
    · subst hx
      have hy' : (y == 0) = false := by simpa using hy
      refine wp_loop_rounds 2 ?_; rw [rounds_succ]
      go_wp2_with fail
      rw [rounds_succ]
      go_wp2_with fail
      go_ret
      exact ⟨by rw [← HR.out]; rfl, rfl⟩
  · have hx' : (x == 0) = false := by simpa using hx
    refine wp_loop_rounds 1 ?_; rw [rounds_succ]
    go_wp2_with fail
    go_ret
    exact ⟨by rw [← HR.out, if_neg hx]; rfl, rfl⟩
set_option maxRecDepth 100000 in
set_option maxHeartbeats 4000000 in
theorem less_some (w : World) (a b c d : Int) : Calls Try.prog 35 #[.agg #[.int .i64 a, .int .i64 b], .agg #[.int .i64 c, .int .i64 d]] w fun e w' => e = .returned (.int .i64 (cmpS (a, b) (c, d))) ∧ ∃ q os', w' = grow (w.drewN q) os' := by
  have hh := heap_alloc (o' := .cells #[.int .i64 c, .int .i64 d] 32) (heap_new w (.cells #[.int .i64 a, .int .i64 b] 32))
  have hk := heap_new1 w (.cells #[.int .i64 a, .int .i64 b] 32) (.cells #[.int .i64 c, .int .i64 d] 32)
  have h0 := cell_of_heap hh 0
  have h1 := cell_of_heap hh 1
  have h2 := cell_of_heap hk 0
  have h3 := cell_of_heap hk 1
  simp only [List.getElem?_toArray, List.getElem?_cons_zero, List.getElem?_cons_succ] at h0 h1 h2 h3
  have hg : (w.alloc (.cells #[.int .i64 a, .int .i64 b] 32)).alloc (.cells #[.int .i64 c, .int .i64 d] 32) = grow w #[.cells #[.int .i64 a, .int .i64 b] 32, .cells #[.int .i64 c, .int .i64 d] 32] := by rw [alloc_eq_grow, alloc_eq_grow, grow_grow]; rfl
  have HG := Lib.hid hg
  have hsz : ((w.alloc (.cells #[.int .i64 a, .int .i64 b] 32)).alloc (.cells #[.int .i64 c, .int .i64 d] 32)).heap.size = w.heap.size + 1 + 1 := by simp
  have HSZ := Lib.hid hsz
  have hcmp : cmpS (a, b) (c, d) = if cmpI a c = 0 then cmpI b d else cmpI a c := rfl
  obtain ⟨z, hz⟩ : ∃ z, (if cmpI a c = 0 then cmpI b d else cmpI a c) = z := ⟨_, rfl⟩
  rw [hz] at hcmp
  have HC := Lib.hid hcmp
  clear hg hsz hcmp
  go_enter Try.func35, Try.ntmps35
  go_upto_region 1 with fail
  generalize hW1 : (w.alloc (.cells #[.int .i64 a, .int .i64 b] 32)).alloc (.cells #[.int .i64 c, .int .i64 d] 32) = w1 at *
  clear hh hk
  have hS : (fun (W' : World) => W'.cell? ⟨w.heap.size, 0, none⟩ = some (.int .i64 a) ∧ W'.cell? ⟨w.heap.size, 1, none⟩ = some (.int .i64 b) ∧ W'.cell? ⟨w.heap.size + 1, 0, none⟩ = some (.int .i64 c) ∧ W'.cell? ⟨w.heap.size + 1, 1, none⟩ = some (.int .i64 d)) w1.drew := ⟨h0, h1, h2, h3⟩
  refine region_lone (fun (W' : World) => W'.cell? ⟨w.heap.size, 0, none⟩ = some (.int .i64 a) ∧ W'.cell? ⟨w.heap.size, 1, none⟩ = some (.int .i64 b) ∧ W'.cell? ⟨w.heap.size + 1, 0, none⟩ = some (.int .i64 c) ∧ W'.cell? ⟨w.heap.size + 1, 1, none⟩ = some (.int .i64 d)) [] (by kernel_rfl) ?_
  refine take_one 0 hS rfl (by kernel_rfl) rfl ?_
  apply Exists.intro
  refine And.intro (fun W' hS' => ?y0) (And.intro (fun _ _ _ h => h) ?_)
  case y0 => obtain ⟨y0, y1, y2, y3⟩ := hS'; go_simp; rfl
  refine take_one 1 hS rfl (by kernel_rfl) rfl ?_
  apply Exists.intro
  refine And.intro (fun W' hS' => ?y1) (And.intro (fun _ _ _ h => h) ?_)
  case y1 => obtain ⟨y0, y1, y2, y3⟩ := hS'; go_simp; rfl
  refine take_one 2 hS rfl (by kernel_rfl) rfl ?_
  apply Exists.intro
  refine And.intro (fun W' hS' => ?y2) (And.intro (fun _ _ _ h => h) ?_)
  case y2 => obtain ⟨y0, y1, y2, y3⟩ := hS'; go_simp; rfl
  refine take_one 3 hS rfl (by kernel_rfl) rfl ?_
  apply Exists.intro
  refine And.intro (fun W' hS' => ?y3) (And.intro (fun _ _ _ h => h) ?_)
  case y3 => obtain ⟨y0, y1, y2, y3⟩ := hS'; go_simp; rfl
  refine take_one 5 hS rfl (by kernel_rfl) rfl ?_
  apply Exists.intro
  refine And.intro (fun W' hS' => ?y5) (And.intro (fun _ _ _ h => h) ?_)
  case y5 => obtain ⟨y0, y1, y2, y3⟩ := hS'; go_simp; rfl
  refine take_one 6 hS rfl (by kernel_rfl) rfl ?_
  apply Exists.intro
  refine And.intro (fun W' hS' => ?y6) (And.intro (fun _ _ _ h => h) ?_)
  case y6 => obtain ⟨y0, y1, y2, y3⟩ := hS'; go_simp; rfl
  refine take_one 7 hS rfl (by kernel_rfl) rfl ?_
  apply Exists.intro
  refine And.intro (fun W' hS' => ?y7) (And.intro (fun _ _ _ h => h) ?_)
  case y7 => obtain ⟨y0, y1, y2, y3⟩ := hS'; go_simp; rfl
  refine take_one 8 hS rfl (by kernel_rfl) rfl ?_
  apply Exists.intro
  refine And.intro (fun W' hS' => ?y8) (And.intro (fun _ _ _ h => h) ?_)
  case y8 => obtain ⟨y0, y1, y2, y3⟩ := hS'; go_simp; rfl
  refine only_one 4 rfl (by kernel_rfl) rfl ?_
  try go_simp
  refine (cmp_int _ a c).mono ?_
  rintro e4 w4 ⟨rfl, rfl⟩
  have hS4 := hS
  refine ⟨hS4, ?_⟩
  refine only_one 9 rfl (by kernel_rfl) rfl ?_
  try go_simp
  refine (cmp_lab _ b d).mono ?_
  rintro e9 w9 ⟨rfl, rfl⟩
  have hS9 := hS4
  refine ⟨hS9, ?_⟩
  refine only_one 10 rfl (by kernel_rfl) rfl ?_
  try go_simp
  have hcl : ∀ (ad : Addr) (v : Value), w1.cell? ad = some v → (w1.alloc (.cells #[.int .i64 (cmpI a c), .int .i64 (cmpI b d)] 3)).cell? ad = some v := fun ad v hh => cell_alloc hh _
  have hn := heap_new w1 (.cells #[.int .i64 (cmpI a c), .int .i64 (cmpI b d)] 3)
  have n0 := cell_of_heap hn 0
  have n1 := cell_of_heap hn 1
  simp only [List.getElem?_toArray, List.getElem?_cons_zero, List.getElem?_cons_succ] at n0 n1
  have hS10 : (fun (W' : World) => W'.cell? ⟨w.heap.size, 0, none⟩ = some (.int .i64 a) ∧ W'.cell? ⟨w.heap.size, 1, none⟩ = some (.int .i64 b) ∧ W'.cell? ⟨w.heap.size + 1, 0, none⟩ = some (.int .i64 c) ∧ W'.cell? ⟨w.heap.size + 1, 1, none⟩ = some (.int .i64 d)) ((w1.alloc (.cells #[.int .i64 (cmpI a c), .int .i64 (cmpI b d)] 3))) := ⟨hcl _ _ hS9.1, hcl _ _ hS9.2.1, hcl _ _ hS9.2.2.1, hcl _ _ hS9.2.2.2⟩
  refine ⟨hS10, ?_⟩
  refine only_one 11 rfl (by kernel_rfl) rfl ?_
  try go_simp
  have hor := or_some (w1.alloc (.cells #[.int .i64 (cmpI a c), .int .i64 (cmpI b d)] 3)).drew _ (cmpI a c) (cmpI b d) n0 n1
  rw [hz] at hor
  refine hor.mono ?_
  rintro e11 w11 ⟨rfl, rfl⟩
  have hS11 := hS10
  refine ⟨hS11, ?_⟩
  try go_simp
  refine take_one 12 hS11 rfl (by kernel_rfl) rfl ?_
  apply Exists.intro
  refine And.intro (fun W' hS' => ?y12) (And.intro (fun _ _ _ h => h) ?_)
  case y12 => obtain ⟨y0, y1, y2, y3⟩ := hS'; go_simp; rfl
  try go_simp
  refine all_done (by kernel_rfl) ?_ _
  go_wp2_with fail
  go_ret
  refine ⟨by rw [HC.out]; rfl, 1, #[.cells #[.int .i64 a, .int .i64 b] 32, .cells #[.int .i64 c, .int .i64 d] 32, .cells #[.int .i64 (cmpI a c), .int .i64 (cmpI b d)] 3], ?_⟩
  rw [HG.out, alloc_eq_grow, grow_grow]
  rfl
end Go.Proofs.Ytbihefbjojlncaa
