/- push: a packet of few and short parts. -/
import Derived.Test.YteiedafdakffeaaDoorPvC
namespace Go.Proofs.YteiedafdakffeaaDoor
set_option linter.unusedVariables false
set_option linter.unusedSimpArgs false
open Go Go.RowKit Go.Proofs
open Go.Proofs.YteiedafdakffeaaDoorW.PrintWords (Kd ReadsInt ReadsOf gate_store gate_dst own_move)
attribute [local go_sem] Go.Proofs.YteiedafdakffeaaDoorW.PrintMore.min2_int Go.Proofs.YteiedafdakffeaaDoorW.PrintMore.min_two
def CutPost (w : World) (k : Int) (V : Nat → Int) (e : Ending) (w' : World) : Prop := ∃ tx A l c, e = .returned (.agg (pk k V tx (.slice A l.length c))) ∧ w'.ownsRow w.heap.size 9 1 (.slice A l.length c) l.length (l.map Value.string) ∧ tx.size ≤ 300 ∧ l.length ≤ 20 ∧ sizes l ≤ 2000 ∧ Chg (fun _ => False) w w'
set_option maxRecDepth 100000 in
set_option maxHeartbeats 8000000 in
theorem cut_some (w : World) (k : Int) (V : Nat → Int) (tx : ByteArray) (A : Option Addr) (l : List ByteArray) (c : Nat) (hl : Lns w A l) (hL : l.length ≤ 9223372036854775807) (hss : ∀ s ∈ l, s.size ≤ 9223372036854775807) :
    Calls Tryd.prog 16 #[.agg (pk k V tx (.slice A l.length c))] w (CutPost w k V) := by
  have hal := ((Chg.refl (fun _ => False) w).alloc (.cells (pk k V tx (.slice A l.length c)) 26)).alloc (.cells #[.int .i64 0, .int .i64 0, .int .i64 0, .int .i64 0, .int .i64 0, .int .i64 0, .int .i64 0, .string ⟨#[]⟩, .slice none 0 0] 26)
  have hp : PktAt ((w.alloc (.cells (pk k V tx (.slice A l.length c)) 26)).alloc (.cells #[.int .i64 0, .int .i64 0, .int .i64 0, .int .i64 0, .int .i64 0, .int .i64 0, .int .i64 0, .string ⟨#[]⟩, .slice none 0 0] 26)) w.heap.size k V tx (.slice A l.length c) := heap_alloc (heap_new w _)
  have hr : PktAt ((w.alloc (.cells (pk k V tx (.slice A l.length c)) 26)).alloc (.cells #[.int .i64 0, .int .i64 0, .int .i64 0, .int .i64 0, .int .i64 0, .int .i64 0, .int .i64 0, .string ⟨#[]⟩, .slice none 0 0] 26)) (w.heap.size + 1) 0 zeroV ByteArray.empty (.slice none 0 0) := heap_new1 _ _ _
  have HP := Lib.hid hp
  have HR := Lib.hid hr
  have HC := Lib.hid hal
  have HL := Lib.hid hl
  have HSS := Lib.hid hss
  clear hal hp hr hl hss
  unfold pk at *
  go_enter Tryd.func16, Tryd.ntmps16
  go_upto_region 1 with fail
  generalize (w.alloc (.cells #[.int .i64 k, .int .i64 (V 1), .int .i64 (V 2), .int .i64 (V 3), .int .i64 (V 4), .int .i64 (V 5), .int .i64 (V 6), .string tx, .slice A l.length c] 26)).alloc (.cells #[.int .i64 0, .int .i64 0, .int .i64 0, .int .i64 0, .int .i64 0, .int .i64 0, .int .i64 0, .string ⟨#[]⟩, .slice none 0 0] 26) = w1 at *
  go_cut [] from 5 to 12 (fun W => ∃ tx', PktAt W w.heap.size k V tx' (.slice A l.length c) ∧ tx'.size ≤ 300 ∧ PktAt W (w.heap.size + 1) 0 zeroV ByteArray.empty (.slice none 0 0) ∧ Chg (fun _ => False) w W)
  case first =>
    have q7 : w1.cell? ⟨w.heap.size, 7, none⟩ = some (.string tx) := cell_of_heap HP.out 7
    have f7 := HP.out.free 7
    by_cases hx : tx.size ≤ 300
    · have hmn : min (tx.size : Int) 300 = (tx.size : Int) := by omega
      have hst := (Chg.refl (fun k => k = w.heap.size) w1).setCell (p := ⟨w.heap.size, 7, none⟩) (.inl rfl) (.string tx)
      have HST := Lib.hid hst
      clear hst
      go_wp2_with fail
      go_meet
      exact ⟨tx, HP.out.setT tx, hx, HR.out.keep HST.out (fun (h : w.heap.size + 1 = w.heap.size) => by omega), HC.out.trans' HST.out (fun i h1 h2 => by omega)⟩
    · have hmn : min (tx.size : Int) 300 = 300 := by omega
      have hst := (Chg.refl (fun k => k = w.heap.size) w1).setCell (p := ⟨w.heap.size, 7, none⟩) (.inl rfl) (.string (tx.extract 0 300))
      have HST := Lib.hid hst
      clear hst
      go_wp2_with fail
      go_meet
      exact ⟨tx.extract 0 300, HP.out.setT _, by simp; omega, HR.out.keep HST.out (fun (h : w.heap.size + 1 = w.heap.size) => by omega), HC.out.trans' HST.out (fun i h1 h2 => by omega)⟩
  case rest =>
    obtain ⟨tx', hP, htx', hRr, hC⟩ := hcut
    have HP2 := Lib.hid hP
    have HR2 := Lib.hid hRr
    have HC2 := Lib.hid hC
    clear hP hRr hC HP HR HC
    obtain ⟨i9, hi9, hz90, hz91, hz92⟩ := info_parts info9
    go_upto_block 0 with fail
    go_cut [3, 4] from 13 to 39 (fun s3 _ W => ∃ A3 l3 c3, s3 = .slice A3 l3.length c3 ∧ W.ownsRow w.heap.size 9 1 (.slice A3 l3.length c3) l3.length (l3.map Value.string) ∧ l3.length ≤ 20 ∧ sizes l3 ≤ 2000 ∧ PktAt W w.heap.size k V tx' (.slice A l.length c) ∧ PktAt W (w.heap.size + 1) 0 zeroV ByteArray.empty (.slice none 0 0) ∧ Chg (fun _ => False) w W)
    case first =>
      go_wp2_with fail
      go_loopw [3, 4] (fun s3 i wr => ∃ (j : Nat) (acc : List ByteArray), j ≤ 20 ∧ j ≤ l.length ∧ i = .int .i64 j ∧ acc.length = j ∧ sizes acc ≤ 100 * j ∧ wr.ownsRow w.heap.size 9 1 s3 acc.length (acc.map Value.string) ∧ PktAt wr w.heap.size k V tx' (.slice A l.length c) ∧ PktAt wr (w.heap.size + 1) 0 zeroV ByteArray.empty (.slice none 0 0) ∧ Chg (fun _ => False) w wr) (fun _ i _ => 20 - (intOf i).toNat)
      case atStart => exact ⟨0, [], by omega, by omega, rfl, rfl, by simp [sizes], World.ownsRow_nil _ _ _ _, HP2.out, HR2.out, HC2.out⟩
      case round =>
        obtain ⟨j, acc, hj, hjl, rfl, hal, hsz, hO, hP, hRr, hC⟩ := hrel
        have HOJ := Lib.hid hO
        have HPJ := Lib.hid hP
        have HRJ := Lib.hid hRr
        have HCJ := Lib.hid hC
        have HAL := Lib.hid hal
        have hszJ := hC.size
        have q8 : wr.cell? ⟨w.heap.size, 8, none⟩ = some (.slice A l.length c) := cell_of_heap hP 8
        obtain ⟨va, vn, vc, rfl⟩ := own_slice hO
        clear hO hP hRr hC hal
        by_cases hlt : j < l.length
        · by_cases h20 : j < 20
          · obtain ⟨g, p, rfl, hcs⟩ := lns_cells (HL.out.chg HCJ.out) (by omega)
            have hcj := hcs j hlt
            have hxm : (l.getD j ByteArray.empty).size ≤ 9223372036854775807 := HSS.out _ (by simp [List.getD, hlt])
            obtain ⟨x, hx⟩ : ∃ x, l.getD j ByteArray.empty = x := ⟨_, rfl⟩
            rw [hx] at hcj hxm
            have HLJ : Hid (∀ W, Chg (fun _ => False) w W → W.cell? ⟨g, p + j, none⟩ = some (.string x)) := Lib.hid fun W hW => lns_at (HL.out.chg hW) hlt hx
            clear hcs hx
            go_upto_region 6 with fail
            have hj0 : (0 : Int) ≤ (j : Int) := by omega
            have hji : (j : Int) < (l.length : Int) := by omega
            have hS : wr.drew.cell? ⟨w.heap.size, 8, none⟩ = some (.slice (some ⟨g, p, none⟩) l.length c) ∧ wr.drew.cell? ⟨g, p + j, none⟩ = some (.string x) := ⟨q8, hcj⟩
            have hd := (Chg.refl (fun _ => False) wr).drew
            have hO9 := own_chg HOJ.out hd (fun _ _ h => h)
            have hP9 := HPJ.out.keep hd (fun h => h)
            have hR9 := HRJ.out.keep hd (fun h => h)
            by_cases hx100 : x.size ≤ 100
            · have hmn : (if (100 : Int) < (x.size : Int) then (100 : Int) else (x.size : Int)) = (x.size : Int) := if_neg (by omega)
              have hx0 : (0 : Int) ≤ (x.size : Int) := by omega
              refine region_lone (fun W' => W'.cell? ⟨w.heap.size, 8, none⟩ = some (.slice (some ⟨g, p, none⟩) l.length c) ∧ W'.cell? ⟨g, p + j, none⟩ = some (.string x)) [] (by kernel_rfl) ?_
              refine take_one 0 hS rfl (by kernel_rfl) rfl ?_
              apply Exists.intro
              refine And.intro (fun W' hS' => ?y0) (And.intro (fun _ _ _ h => h) ?_)
              case y0 => obtain ⟨d0, d1⟩ := hS'; go_simp; rfl
              refine take_one 1 hS rfl (by kernel_rfl) rfl ?_
              apply Exists.intro
              refine And.intro (fun W' hS' => ?y1) (And.intro (fun _ _ _ h => h) ?_)
              case y1 => obtain ⟨d0, d1⟩ := hS'; go_simp; rfl
              refine take_one 2 hS rfl (by kernel_rfl) rfl ?_
              apply Exists.intro
              refine And.intro (fun W' hS' => ?y2) (And.intro (fun _ _ _ h => h) ?_)
              case y2 => obtain ⟨d0, d1⟩ := hS'; go_simp; rfl
              refine take_one 3 hS rfl (by kernel_rfl) rfl ?_
              apply Exists.intro
              refine And.intro (fun W' hS' => ?y3) (And.intro (fun _ _ _ h => h) ?_)
              case y3 => obtain ⟨d0, d1⟩ := hS'; go_simp; rfl
              refine take_one 4 hS rfl (by kernel_rfl) rfl ?_
              apply Exists.intro
              refine And.intro (fun W' hS' => ?y4) (And.intro (fun _ _ _ h => h) ?_)
              case y4 => obtain ⟨d0, d1⟩ := hS'; go_simp; rfl
              refine take_one 5 hS rfl (by kernel_rfl) rfl ?_
              apply Exists.intro
              refine And.intro (fun W' hS' => ?y5) (And.intro (fun _ _ _ h => h) ?_)
              case y5 => obtain ⟨d0, d1⟩ := hS'; go_simp; rfl
              refine take_one 6 hS rfl (by kernel_rfl) rfl ?_
              apply Exists.intro
              refine And.intro (fun W' hS' => ?y6) (And.intro (fun _ _ _ h => h) ?_)
              case y6 => obtain ⟨d0, d1⟩ := hS'; go_simp; rfl
              refine take_one 7 hS rfl (by kernel_rfl) rfl ?_
              apply Exists.intro
              refine And.intro (fun W' hS' => ?y7) (And.intro (fun _ _ _ h => h) ?_)
              case y7 => obtain ⟨d0, d1⟩ := hS'; go_simp; rfl
              try go_simp
              refine take_one 8 hS rfl (by kernel_rfl) rfl ?_
              apply Exists.intro
              refine And.intro (fun W' hS' => ?y8) (And.intro (fun _ _ _ h => h) ?_)
              case y8 => obtain ⟨d0, d1⟩ := hS'; go_simp; rfl
              refine take_one 9 hS rfl (by kernel_rfl) rfl ?_
              apply Exists.intro
              refine And.intro (fun W' hS' => ?y9) (And.intro (fun _ _ _ h => h) ?_)
              case y9 => obtain ⟨d0, d1⟩ := hS'; go_simp; rfl
              refine take_one 10 hS rfl (by kernel_rfl) rfl ?_
              apply Exists.intro
              refine And.intro (fun W' hS' => ?y10) (And.intro (fun _ _ _ h => h) ?_)
              case y10 => obtain ⟨d0, d1⟩ := hS'; go_simp; rfl
              refine take_one 11 hS rfl (by kernel_rfl) rfl ?_
              apply Exists.intro
              refine And.intro (fun W' hS' => ?y11) (And.intro (fun _ _ _ h => h) ?_)
              case y11 => obtain ⟨d0, d1⟩ := hS'; go_simp; rfl
              refine take_one 12 hS rfl (by kernel_rfl) rfl ?_
              apply Exists.intro
              refine And.intro (fun W' hS' => ?y12) (And.intro (fun _ _ _ h => h) ?_)
              case y12 => obtain ⟨d0, d1⟩ := hS'; go_simp; rfl
              refine take_one 13 hS rfl (by kernel_rfl) rfl ?_
              apply Exists.intro
              refine And.intro (fun W' hS' => ?y13) (And.intro (fun _ _ _ h => h) ?_)
              case y13 => obtain ⟨d0, d1⟩ := hS'; go_simp; rfl
              try go_simp
              refine only_one 14 rfl (by kernel_rfl) rfl ?_
              go_simp
              have hS4 : (wr.drew.alloc (.cells #[.string x] 9)).cell? ⟨w.heap.size, 8, none⟩ = some (.slice (some ⟨g, p, none⟩) l.length c) ∧ (wr.drew.alloc (.cells #[.string x] 9)).cell? ⟨g, p + j, none⟩ = some (.string x) := ⟨cell_alloc hS.1 _, cell_alloc hS.2 _⟩
              refine ⟨hS4, ?_⟩
              try go_simp
              refine only_one 15 rfl (by kernel_rfl) rfl ?_
              refine wp_append (.tmp 24) (.tmp 38) 24 rfl w.heap.size 9 i9 (.string ByteArray.empty) 1 16 Tryd.underlying24 hi9 hz90 hz91 hz92 rfl (by decide) (.slice va vn vc) acc.length (acc.map Value.string) rfl (hO9.alloc _) ⟨wr.heap.size, 0, none⟩ 1 1 [.string x] rfl rfl (cell_one_new _ _ _) (by simp [Value.oneCell']) ?_ ?_ ?_ ?_
              · unfold maxLen; have := HAL.out; omega
              · have := HAL.out; omega
              · simp; show w.heap.size ≤ wr.heap.size + 1; omega
              intro v' w10 hO10 hg10
              have hP10 : PktAt w10 w.heap.size k V tx' (.slice (some ⟨g, p, none⟩) l.length c) := grown_keep hg10 (heap_alloc hP9) (own_ne hO9 hP9 (by decide))
              have hR10 : PktAt w10 (w.heap.size + 1) 0 zeroV ByteArray.empty (.slice none 0 0) := grown_keep hg10 (heap_alloc hR9) (own_ne hO9 hR9 (by decide))
              have hC10 := ((HCJ.out.trans hd).alloc (.cells #[.string x] 9)).grown hg10 (fun q hq => .inr (own_block hO9 hq))
              have hS10 : w10.cell? ⟨w.heap.size, 8, none⟩ = some (.slice (some ⟨g, p, none⟩) l.length c) ∧ w10.cell? ⟨g, p + j, none⟩ = some (.string x) := ⟨cell_of_heap hP10 8, HLJ.out _ hC10⟩
              refine ⟨fun _ => hS10, ?_⟩
              refine take_one 16 hS10 rfl (by kernel_rfl) rfl ?_
              apply Exists.intro
              refine And.intro (fun W' hS' => ?y16) (And.intro (fun _ _ _ h => h) ?_)
              case y16 => obtain ⟨d0, d1⟩ := hS'; go_simp; rfl
              try go_simp
              refine all_done (by kernel_rfl) ?_ _
              have HO11 : Hid (w10.ownsRow w.heap.size 9 1 v' (acc ++ [x]).length ((acc ++ [x]).map Value.string)) := Lib.hid (by
                rw [List.length_append, List.map_append]
                exact hO10)
              have HP11 := Lib.hid hP10
              have HR11 := Lib.hid hR10
              have HC11 := Lib.hid hC10
              have HLN : Hid ((acc ++ [x]).length = j + 1) := Lib.hid (by rw [List.length_append, HAL.out]; rfl)
              have hys : (x).size ≤ 100 := by exact hx100
              have hsn : sizes (acc ++ [x]) ≤ 100 * (j + 1) := by rw [sizes_snoc]; omega
              have HSN := Lib.hid hsn
              clear hS hS4 hS10 hd hO9 hP9 hR9 hO10 hP10 hR10 hC10 hg10 hsn q8 hcj
              go_wp2_with fail
              go_roundw
              case rel => exact ⟨j + 1, acc ++ [x], by omega, by omega, by go_num, HLN.out, HSN.out, HO11.out, HP11.out, HR11.out, HC11.out⟩
              case measure => simp [intOf] <;> omega
            · have hmn : (if (100 : Int) < (x.size : Int) then (100 : Int) else (x.size : Int)) = 100 := if_pos (by omega)
              have hx0 : (100 : Int) ≤ (x.size : Int) := by omega
              have hx1 : 100 ≤ x.size := by omega
              refine region_lone (fun W' => W'.cell? ⟨w.heap.size, 8, none⟩ = some (.slice (some ⟨g, p, none⟩) l.length c) ∧ W'.cell? ⟨g, p + j, none⟩ = some (.string x)) [] (by kernel_rfl) ?_
              refine take_one 0 hS rfl (by kernel_rfl) rfl ?_
              apply Exists.intro
              refine And.intro (fun W' hS' => ?y0) (And.intro (fun _ _ _ h => h) ?_)
              case y0 => obtain ⟨d0, d1⟩ := hS'; go_simp; rfl
              refine take_one 1 hS rfl (by kernel_rfl) rfl ?_
              apply Exists.intro
              refine And.intro (fun W' hS' => ?y1) (And.intro (fun _ _ _ h => h) ?_)
              case y1 => obtain ⟨d0, d1⟩ := hS'; go_simp; rfl
              refine take_one 2 hS rfl (by kernel_rfl) rfl ?_
              apply Exists.intro
              refine And.intro (fun W' hS' => ?y2) (And.intro (fun _ _ _ h => h) ?_)
              case y2 => obtain ⟨d0, d1⟩ := hS'; go_simp; rfl
              refine take_one 3 hS rfl (by kernel_rfl) rfl ?_
              apply Exists.intro
              refine And.intro (fun W' hS' => ?y3) (And.intro (fun _ _ _ h => h) ?_)
              case y3 => obtain ⟨d0, d1⟩ := hS'; go_simp; rfl
              refine take_one 4 hS rfl (by kernel_rfl) rfl ?_
              apply Exists.intro
              refine And.intro (fun W' hS' => ?y4) (And.intro (fun _ _ _ h => h) ?_)
              case y4 => obtain ⟨d0, d1⟩ := hS'; go_simp; rfl
              refine take_one 5 hS rfl (by kernel_rfl) rfl ?_
              apply Exists.intro
              refine And.intro (fun W' hS' => ?y5) (And.intro (fun _ _ _ h => h) ?_)
              case y5 => obtain ⟨d0, d1⟩ := hS'; go_simp; rfl
              refine take_one 6 hS rfl (by kernel_rfl) rfl ?_
              apply Exists.intro
              refine And.intro (fun W' hS' => ?y6) (And.intro (fun _ _ _ h => h) ?_)
              case y6 => obtain ⟨d0, d1⟩ := hS'; go_simp; rfl
              refine take_one 7 hS rfl (by kernel_rfl) rfl ?_
              apply Exists.intro
              refine And.intro (fun W' hS' => ?y7) (And.intro (fun _ _ _ h => h) ?_)
              case y7 => obtain ⟨d0, d1⟩ := hS'; go_simp; rfl
              try go_simp
              refine take_one 8 hS rfl (by kernel_rfl) rfl ?_
              apply Exists.intro
              refine And.intro (fun W' hS' => ?y8) (And.intro (fun _ _ _ h => h) ?_)
              case y8 => obtain ⟨d0, d1⟩ := hS'; go_simp; rfl
              refine take_one 9 hS rfl (by kernel_rfl) rfl ?_
              apply Exists.intro
              refine And.intro (fun W' hS' => ?y9) (And.intro (fun _ _ _ h => h) ?_)
              case y9 => obtain ⟨d0, d1⟩ := hS'; go_simp; rfl
              refine take_one 10 hS rfl (by kernel_rfl) rfl ?_
              apply Exists.intro
              refine And.intro (fun W' hS' => ?y10) (And.intro (fun _ _ _ h => h) ?_)
              case y10 => obtain ⟨d0, d1⟩ := hS'; go_simp; rfl
              refine take_one 11 hS rfl (by kernel_rfl) rfl ?_
              apply Exists.intro
              refine And.intro (fun W' hS' => ?y11) (And.intro (fun _ _ _ h => h) ?_)
              case y11 => obtain ⟨d0, d1⟩ := hS'; go_simp; rfl
              refine take_one 12 hS rfl (by kernel_rfl) rfl ?_
              apply Exists.intro
              refine And.intro (fun W' hS' => ?y12) (And.intro (fun _ _ _ h => h) ?_)
              case y12 => obtain ⟨d0, d1⟩ := hS'; go_simp; rfl
              refine take_one 13 hS rfl (by kernel_rfl) rfl ?_
              apply Exists.intro
              refine And.intro (fun W' hS' => ?y13) (And.intro (fun _ _ _ h => h) ?_)
              case y13 => obtain ⟨d0, d1⟩ := hS'; go_simp; rfl
              try go_simp
              refine only_one 14 rfl (by kernel_rfl) rfl ?_
              go_simp
              have hS4 : (wr.drew.alloc (.cells #[.string (x.extract 0 100)] 9)).cell? ⟨w.heap.size, 8, none⟩ = some (.slice (some ⟨g, p, none⟩) l.length c) ∧ (wr.drew.alloc (.cells #[.string (x.extract 0 100)] 9)).cell? ⟨g, p + j, none⟩ = some (.string x) := ⟨cell_alloc hS.1 _, cell_alloc hS.2 _⟩
              refine ⟨hS4, ?_⟩
              try go_simp
              refine only_one 15 rfl (by kernel_rfl) rfl ?_
              refine wp_append (.tmp 24) (.tmp 38) 24 rfl w.heap.size 9 i9 (.string ByteArray.empty) 1 16 Tryd.underlying24 hi9 hz90 hz91 hz92 rfl (by decide) (.slice va vn vc) acc.length (acc.map Value.string) rfl (hO9.alloc _) ⟨wr.heap.size, 0, none⟩ 1 1 [.string (x.extract 0 100)] rfl rfl (cell_one_new _ _ _) (by simp [Value.oneCell']) ?_ ?_ ?_ ?_
              · unfold maxLen; have := HAL.out; omega
              · have := HAL.out; omega
              · simp; show w.heap.size ≤ wr.heap.size + 1; omega
              intro v' w10 hO10 hg10
              have hP10 : PktAt w10 w.heap.size k V tx' (.slice (some ⟨g, p, none⟩) l.length c) := grown_keep hg10 (heap_alloc hP9) (own_ne hO9 hP9 (by decide))
              have hR10 : PktAt w10 (w.heap.size + 1) 0 zeroV ByteArray.empty (.slice none 0 0) := grown_keep hg10 (heap_alloc hR9) (own_ne hO9 hR9 (by decide))
              have hC10 := ((HCJ.out.trans hd).alloc (.cells #[.string (x.extract 0 100)] 9)).grown hg10 (fun q hq => .inr (own_block hO9 hq))
              have hS10 : w10.cell? ⟨w.heap.size, 8, none⟩ = some (.slice (some ⟨g, p, none⟩) l.length c) ∧ w10.cell? ⟨g, p + j, none⟩ = some (.string x) := ⟨cell_of_heap hP10 8, HLJ.out _ hC10⟩
              refine ⟨fun _ => hS10, ?_⟩
              refine take_one 16 hS10 rfl (by kernel_rfl) rfl ?_
              apply Exists.intro
              refine And.intro (fun W' hS' => ?y16) (And.intro (fun _ _ _ h => h) ?_)
              case y16 => obtain ⟨d0, d1⟩ := hS'; go_simp; rfl
              try go_simp
              refine all_done (by kernel_rfl) ?_ _
              have HO11 : Hid (w10.ownsRow w.heap.size 9 1 v' (acc ++ [(x.extract 0 100)]).length ((acc ++ [(x.extract 0 100)]).map Value.string)) := Lib.hid (by
                rw [List.length_append, List.map_append]
                exact hO10)
              have HP11 := Lib.hid hP10
              have HR11 := Lib.hid hR10
              have HC11 := Lib.hid hC10
              have HLN : Hid ((acc ++ [(x.extract 0 100)]).length = j + 1) := Lib.hid (by rw [List.length_append, HAL.out]; rfl)
              have hys : ((x.extract 0 100)).size ≤ 100 := by simp; omega
              have hsn : sizes (acc ++ [(x.extract 0 100)]) ≤ 100 * (j + 1) := by rw [sizes_snoc]; omega
              have HSN := Lib.hid hsn
              clear hS hS4 hS10 hd hO9 hP9 hR9 hO10 hP10 hR10 hC10 hg10 hsn q8 hcj
              go_wp2_with fail
              go_roundw
              case rel => exact ⟨j + 1, acc ++ [(x.extract 0 100)], by omega, by omega, by go_num, HLN.out, HSN.out, HO11.out, HP11.out, HR11.out, HC11.out⟩
              case measure => simp [intOf] <;> omega
          · obtain rfl : j = 20 := by omega
            go_wp2_with fail
            go_meet
            have hvn : vn = acc.length := by obtain ⟨A', c', he, _⟩ := own_lines HOJ.out; cases he; rfl
            subst hvn
            exact ⟨va, acc, vc, rfl, HOJ.out, by rw [HAL.out]; omega, by omega, HPJ.out, HRJ.out, HCJ.out⟩
        · obtain rfl : j = l.length := by omega
          go_wp2_with fail
          go_meet
          have hvn : vn = acc.length := by obtain ⟨A', c', he, _⟩ := own_lines HOJ.out; cases he; rfl
          subst hvn
          exact ⟨va, acc, vc, rfl, HOJ.out, by rw [HAL.out]; omega, by omega, HPJ.out, HRJ.out, HCJ.out⟩
    case rest =>
      obtain ⟨A3, l3, c3, rfl, hO, hl3, hs3, hP, hRr, hC⟩ := hcut
      have q8 : wc.cell? ⟨w.heap.size, 8, none⟩ = some (.slice A l.length c) := cell_of_heap hP 8
      have f8 := hP.free 8
      have hst := (Chg.refl (fun k => k = w.heap.size) wc).setCell (p := ⟨w.heap.size, 8, none⟩) (.inl rfl) (.slice A3 l3.length c3)
      have HP3 := Lib.hid (hP.setL (.slice A3 l3.length c3))
      have HR3 := Lib.hid (hRr.keep hst (fun (h : w.heap.size + 1 = w.heap.size) => by omega))
      have HO3 := Lib.hid (own_set hO hP hst)
      have HC3 := Lib.hid (hC.trans' hst (fun i h1 h2 => by omega))
      clear hO hP hRr hC hst HP2 HR2 HC2
      go_upto_region 8 with fail
      clear q8 f8
      generalize wc.setCell ⟨w.heap.size, 8, none⟩ (.slice A3 l3.length c3) = w3 at *
      go_wp2_with (first | ((with_reducible refine gate_dst (N := 42) rfl ?_); refine wpList_load_row rfl 26 (.tmp 1) rfl w.heap.size rfl 26 _ (0, 0) _ HP3.out Tryd.underlying26 rfl infoP ?_) | ((with_reducible refine gate_store (t := 26) (p := 2) (v := .tmp 42) rfl ?_); refine wpList_store_row rfl 26 (.tmp 2) (.tmp 42) rfl (w.heap.size + 1) _ rfl rfl 26 _ HR3.out infoP rfl (by simp [Value.oneCell']) ?_))
      go_wp2_with fail
      refine bodyPost_ret (results_cell_row rfl _ _ (w.heap.size + 1) 26 _ (0, 0) _ rfl (setRow_heap _ _ _ _ _ _ HR3.out) Tryd.underlying26 rfl infoP) rfl ?_
      have h9 := HC3.out
      exact ⟨tx', A3, l3, c3, rfl, own_move HO3.out (fun q hq => setRow_other _ _ _ _ (fun e => own_ne HO3.out HR3.out (by decide) (by rw [hq, e]))), htx', hl3, hs3, ⟨h9.os, h9.tape, h9.output, by rw [size_setRow]; exact h9.size, fun q hq _ => (setRow_other _ _ _ _ (by omega)).trans (h9.block q hq (fun h => h))⟩⟩
end Go.Proofs.YteiedafdakffeaaDoor
