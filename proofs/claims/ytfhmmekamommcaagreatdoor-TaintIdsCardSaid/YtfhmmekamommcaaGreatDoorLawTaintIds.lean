/- The document's Number, walked. (And: RefNum, RefNums, RefIds, RefPar, RefLess, LawTaintIds.) -/
import Derived.Test.YtfhmmekamommcaaGreatDoorIdFns
import Derived.Deep.CutBlock
import Derived.Deep.DeepCutAuto
import Derived.Maps.AppendAt
import Derived.Test.YtfhmmekamommcaaGreatDoorIdMade
import Derived.Test.YtfhmmekamommcaaGreatDoorInRound
import Derived.Test.YtfhmmekamommcaaGreatDoorTabWorks2
/- The document's Number, walked. -/
namespace Go.Proofs.YtfhmmekamommcaaGreatDoor
set_option linter.unusedVariables false
set_option linter.unusedSimpArgs false
open Go Go.RowKit Go.Proofs Go.Shelf
/-- what the loop holds: the number, cut off at 2^53 -/
def capV (l : List UInt8) : Nat := min (valL l) 9007199254740992
theorem capV_snoc (l : List UInt8) (b : UInt8) (h : 48 ≤ b.toNat) : min (10 * capV l + (b.toNat - 48)) 9007199254740992 = capV (l ++ [b]) := by
  unfold capV
  rw [valL_snoc]
  omega
theorem numOk_head (b : UInt8) (t : List UInt8) : numOk (b :: t) = ((b :: t).all dgB && (b != 48 || t.isEmpty)) := by
  unfold numOk
  rfl
theorem bs_empty (L : List UInt8) : (bs L).toList.isEmpty = L.isEmpty := by
  rw [ByteArray.toList_eq]
  show L.toArray.toList.isEmpty = _
  simp
theorem bs_elem (L : List UInt8) (k : Nat) (h : k < L.length) : (bs L)[k]'(by rw [bs_size]; exact h) = L[k] := by
  rfl
theorem num_bad {L : List UInt8} (h : numOk L = false) : numR L = 0 ∧ numE L = 4 := by
  unfold numR numE
  rw [h]
  exact ⟨rfl, rfl⟩
theorem numOk_dgs {L : List UInt8} (h : numOk L = true) : ∀ b ∈ L, dgB b = true := by
  cases L with
  | nil => intro b hb; simp at hb
  | cons c t =>
    rw [numOk_head, Bool.and_eq_true] at h
    exact List.all_eq_true.1 h.1
set_option maxRecDepth 100000 in
set_option maxHeartbeats 2000000 in
theorem refnum_any (L : List UInt8) (hL : L.length ≤ 1000000000) (w : World) : Calls Tryz.prog 101 #[.string (bs L)] w fun e w' => e = .returned (.tuple #[.int .i64 (numR L), .int .i64 (numE L)]) ∧ w' = w := by
  have zL : (bs L).size = L.length := bs_size _
  have hE0 := bs_empty L
  by_cases hn : L = []
  · subst hn
    have hE : (bs []).toList.isEmpty = true := hE0
    obtain ⟨h1, h2⟩ := num_bad (L := []) rfl
    rw [h1, h2]
    go_enter Tryz.func101, Tryz.ntmps101
    go_wp2_with fail
    go_ret2
    exact ⟨rfl, rfl⟩
  · have hE : (bs L).toList.isEmpty = false := by rw [hE0]; simpa using hn
    clear hE0
    obtain ⟨b, t, hbt⟩ : ∃ b t, L = b :: t := by
      cases L with
      | nil => exact absurd rfl hn
      | cons b t => exact ⟨b, t, rfl⟩
    have hpos : 0 < L.length := List.length_pos_iff.2 hn
    have h0 : ((bs L)[0]'(by rw [bs_size]; exact hpos)).toNat = b.toNat := by rw [bs_elem L 0 hpos]; subst hbt; rfl
    have hposI : (0 : Int) < (L.length : Int) := by omega
    by_cases hz : b = 48 ∧ 1 < L.length
    · have hr : numR L = 0 ∧ numE L = 4 := num_bad (by
        rw [hbt] at hz ⊢
        rw [numOk_head]
        cases t with
        | nil => simp at hz
        | cons _ _ => simp [hz.1])
      rw [hr.1, hr.2]
      have h48 : b.toNat = 48 := by rw [hz.1]; rfl
      have ht := hz.2
      rw [h48] at h0
      have hl : (1 : Int) < (L.length : Int) := by omega
      clear hbt hr hn hz
      go_enter Tryz.func101, Tryz.ntmps101
      go_wp2_with fail
      go_ret2
      exact ⟨rfl, rfl⟩
    · have hfirst : L.all dgB = true → numOk L = true := by
        intro h
        rw [hbt] at hz h ⊢
        rw [numOk_head, h]
        cases t with
        | nil => simp
        | cons _ _ =>
          have : b ≠ 48 := fun e => hz ⟨e, by simp⟩
          simp [this]
      have HF := Lib.hid hfirst
      clear hfirst hbt
      go_enter Tryz.func101, Tryz.ntmps101
      go_upto_region 1 with fail
      go_cut [17] from 6 to 16 (fun s W => s = .bool false ∧ W = w)
      case first =>
        generalize hnb : b.toNat = nb at *
        by_cases x : nb = 48
        · have hl : ¬ ((1 : Int) < (L.length : Int)) := fun h => hz ⟨UInt8.toNat_inj.1 (hnb.trans x), by omega⟩
          rw [x] at h0
          clear hz HF hnb
          go_wp2_with fail
          go_meet
          exact ⟨rfl, rfl⟩
        · have x1 : ¬ ((nb : Int) = 48) := by omega
          have x2 : ((nb : Int) == 48) = false := by simpa using x1
          clear hz HF hnb
          go_wp2_with fail
          go_meet
          exact ⟨rfl, rfl⟩
      case rest =>
        obtain ⟨rfl, rfl⟩ := hcut
        clear h0 hz
        go_wp2_with fail
        go_loop [4, 5] (fun n i => ∃ k : Nat, i = .int .i64 (k : Int) ∧ n = .int .i64 ((capV (L.take k) : Nat) : Int) ∧ k ≤ L.length ∧ (L.take k).all dgB = true) (fun _ i => L.length - (intOf i).toNat)
        case atStart => exact ⟨0, rfl, by simp [capV, valL], by omega, by simp⟩
        case round =>
          obtain ⟨k, rfl, rfl, hk, hall⟩ := hrel
          have hcap : capV (L.take k) ≤ 9007199254740992 := Nat.min_le_right _ _
          by_cases hx : k < L.length
          · have y1 : (k : Int) < (L.length : Int) := by omega
            have hel : ((bs L)[k]'(by rw [bs_size]; exact hx)).toNat = L[k].toNat := by rw [bs_elem L k hx]
            have htk : L.take (k + 1) = L.take k ++ [L[k]] := by rw [List.take_succ_eq_append_getElem hx]
            have hmem : L[k] ∈ L := List.getElem_mem hx
            cases hd : dgB L[k] with
            | false =>
              obtain ⟨r1, r2⟩ := num_bad (L := L) (by
                cases h : numOk L with
                | false => rfl
                | true => rw [numOk_dgs h _ hmem] at hd; cases hd)
              have R1 := Lib.hid r1
              have R2 := Lib.hid r2
              clear r1 r2 HF hall htk hmem
              have hd2 : L[k].toNat < 48 ∨ 57 < L[k].toNat := by
                unfold dgB at hd
                simp only [Bool.and_eq_false_iff, decide_eq_false_iff_not] at hd
                omega
              clear hd
              generalize L[k].toNat = nb at *
              by_cases q : nb < 48
              · have q1 : (nb : Int) < 48 := by omega
                clear hd2
                go_wp2_with fail
                go_ret2
                rw [R1.out, R2.out]
                exact ⟨rfl, rfl⟩
              · have q1 : ¬ ((nb : Int) < 48) := by omega
                have q2 : (57 : Int) < (nb : Int) := by omega
                clear hd2
                go_wp2_with fail
                go_ret2
                rw [R1.out, R2.out]
                exact ⟨rfl, rfl⟩
            | true =>
              have hd2 : 48 ≤ L[k].toNat ∧ L[k].toNat ≤ 57 := by simpa [dgB] using hd
              have hstep := capV_snoc (L.take k) L[k] hd2.1
              rw [← htk] at hstep
              have hall2 : (L.take (k + 1)).all dgB = true := by rw [htk, List.all_append, hall]; simp [hd]
              have HS := Lib.hid hstep
              have HA := Lib.hid hall2
              clear hstep hall2 hall htk hmem hd HF
              generalize L[k].toNat = nb at *
              generalize capV (L.take k) = cv at *
              have q1 : ¬ ((nb : Int) < 48) := by omega
              have q2 : ¬ ((57 : Int) < (nb : Int)) := by omega
              have w1 : IntKind.u8.wrap ((nb : Int) - 48) = ((nb - 48 : Nat) : Int) := by
                rw [show ((nb : Int) - 48) = ((nb - 48 : Nat) : Int) by omega]
                unfold IntKind.wrap
                simp [IntKind.bits, IntKind.signed]
                omega
              have w2 : IntKind.i64.wrap (10 * (cv : Int)) = 10 * (cv : Int) := IntWalk.i64_in _ ⟨by omega, by omega⟩
              have w3 : IntKind.i64.wrap (((nb - 48 : Nat) : Int)) = ((nb - 48 : Nat) : Int) := IntWalk.i64_in _ ⟨by omega, by omega⟩
              have w4 : IntKind.i64.wrap (10 * (cv : Int) + ((nb - 48 : Nat) : Int)) = 10 * (cv : Int) + ((nb - 48 : Nat) : Int) := IntWalk.i64_in _ ⟨by omega, by omega⟩
              have w5 : IntKind.i64.wrap ((k : Int) + 1) = k + 1 := IntWalk.i64_in _ ⟨by omega, by omega⟩
              go_wp2_with fail
              go_round
              case rel => exact ⟨k + 1, by go_num, by rw [← HS.out]; go_num, by omega, HA.out⟩
              case measure => simp [intOf]; omega
          · have y1 : ¬ ((k : Int) < (L.length : Int)) := by omega
            have hkL : L.take k = L := List.take_of_length_le (by omega)
            rw [hkL] at hall hcap
            have hok := HF.out hall
            have hv : numR L = (if valL L ≤ 9007199254740991 then (valL L : Int) else 0) ∧ numE L = (if valL L ≤ 9007199254740991 then 0 else 9) := by
              unfold numR numE
              rw [if_pos hok, if_pos hok]
              exact ⟨rfl, rfl⟩
            rw [hkL]
            clear hok hall HF hkL
            by_cases hb : valL L ≤ 9007199254740991
            · have hc : capV L = valL L := by unfold capV; omega
              rw [hc]
              rw [if_pos hb, if_pos hb] at hv
              have R1 := Lib.hid hv.1
              have R2 := Lib.hid hv.2
              clear hv
              have hb1 : ¬ ((9007199254740991 : Int) < (valL L : Int)) := by omega
              clear hc hcap
              generalize valL L = vl at *
              go_wp2_with fail
              go_ret2
              rw [R1.out, R2.out]
              exact ⟨rfl, rfl⟩
            · have hc : capV L = 9007199254740992 := by unfold capV; omega
              rw [hc]
              rw [if_neg hb, if_neg hb] at hv
              have R1 := Lib.hid hv.1
              have R2 := Lib.hid hv.2
              clear hv
              clear hc hcap hb
              go_wp2_with fail
              go_ret2
              rw [R1.out, R2.out]
              exact ⟨rfl, rfl⟩
end Go.Proofs.YtfhmmekamommcaaGreatDoor

/- The document's Numbers, walked: the numbers of an id. -/
namespace Go.Proofs.YtfhmmekamommcaaGreatDoor
set_option linter.unusedVariables false
set_option linter.unusedSimpArgs false
open Go Go.RowKit Go.Proofs Go.Shelf
/-- how far Numbers has come: at byte k, the piece began at f, P are the pieces behind -/
def AtPiece (L : List UInt8) (f k : Nat) (P : List (List UInt8)) : Prop :=
  (f ≤ k ∧ k ≤ L.length ∧ pieces 46 L = P ++ pieces 46 (L.drop f) ∧ (46 : UInt8) ∉ (L.drop f).take (k - f)) ∨ (k = L.length + 1 ∧ pieces 46 L = P)
theorem AtPiece.start (L : List UInt8) : AtPiece L 0 0 [] := .inl ⟨Nat.le_refl _, Nat.zero_le _, by simp, by simp⟩
theorem AtPiece.step {L : List UInt8} {f k : Nat} {P : List (List UInt8)} (h : AtPiece L f k P) (hk : k < L.length) (hb : L[k] ≠ 46) : AtPiece L f (k + 1) P := by
  rcases h with ⟨h1, h2, h3, h4⟩ | ⟨h1, _⟩
  · refine .inl ⟨by omega, by omega, h3, ?_⟩
    have e : (L.drop f).take (k + 1 - f) = (L.drop f).take (k - f) ++ [L[k]] := by
      rw [show k + 1 - f = (k - f) + 1 by omega, List.take_succ_eq_append_getElem (by simp; omega)]
      simp [show f + (k - f) = k by omega]
    rw [e]
    intro hm
    rcases List.mem_append.1 hm with hm | hm
    · exact h4 hm
    · exact hb (List.mem_singleton.1 hm).symm
  · omega
theorem AtPiece.cut {L : List UInt8} {f k : Nat} {P : List (List UInt8)} (h : AtPiece L f k P) (hk : k ≤ L.length) (hb : k = L.length ∨ ∃ h : k < L.length, L[k] = 46) :
    f ≤ k ∧ (bs L).extract f k = bs ((L.drop f).take (k - f)) ∧ AtPiece L (k + 1) (k + 1) (P ++ [(L.drop f).take (k - f)]) ∧ (L.drop f).take (k - f) ∈ pieces 46 L := by
  rcases h with ⟨h1, h2, h3, h4⟩ | ⟨h1, _⟩
  · have ex : (bs L).extract f k = bs ((L.drop f).take (k - f)) := by
      have h := bs_extract (L.take f) ((L.drop f).take (k - f)) (L.drop k)
      have e1 : L.take f ++ (L.drop f).take (k - f) ++ L.drop k = L := by
        have : (L.drop f).drop (k - f) = L.drop k := by rw [List.drop_drop]; congr 1; omega
        rw [List.append_assoc, ← this, List.take_append_drop, List.take_append_drop]
      rw [e1] at h
      have e2 : (L.take f).length = f := by rw [List.length_take]; omega
      have e3 : ((L.drop f).take (k - f)).length = k - f := by rw [List.length_take, List.length_drop]; omega
      rw [e2, e3, show f + (k - f) = k by omega] at h
      exact h
    rcases hb with hb | ⟨hl, hb⟩
    · have e1 : (L.drop f).take (k - f) = L.drop f := List.take_of_length_le (by rw [List.length_drop]; omega)
      rw [e1] at h4 ex ⊢
      rw [pieces_none 46 _ h4] at h3
      exact ⟨h1, ex, .inr ⟨by omega, h3⟩, by rw [h3]; simp⟩
    · have e1 : L.drop f = (L.drop f).take (k - f) ++ 46 :: L.drop (k + 1) := by
        conv => lhs; rw [← List.take_append_drop (k - f) (L.drop f)]
        rw [List.drop_drop, show f + (k - f) = k by omega, List.drop_eq_getElem_cons hl, hb]
      have e2 := pieces_hit 46 _ (L.drop (k + 1)) h4
      rw [← e1] at e2
      rw [e2] at h3
      refine ⟨h1, ex, .inl ⟨Nat.le_refl _, by omega, by rw [h3]; simp, by simp⟩, by rw [h3]; simp⟩
  · omega
theorem AtPiece.done {L : List UInt8} {f k : Nat} {P : List (List UInt8)} (h : AtPiece L f k P) (hk : ¬ k ≤ L.length) : pieces 46 L = P := by
  rcases h with ⟨_, h2, _⟩ | ⟨_, h⟩
  · exact absurd h2 hk
  · exact h
theorem AtPiece.le {L : List UInt8} {f k : Nat} {P : List (List UInt8)} (h : AtPiece L f k P) : k ≤ L.length + 1 ∧ P.length ≤ L.length + 1 := by
  have hp := (pieces_len_le 46 L).1
  rcases h with ⟨_, h2, h3, _⟩ | ⟨h1, h3⟩
  · rw [h3, List.length_append] at hp
    exact ⟨by omega, by omega⟩
  · rw [h3] at hp
    exact ⟨by omega, hp⟩
set_option maxRecDepth 100000 in
set_option maxHeartbeats 4000000 in
theorem refnums_any (L : List UInt8) (hL : L.length ≤ 1000000000) (w : World) : Calls Tryz.prog 70 #[.string (bs L)] w fun e w' =>
    ∃ v, e = .returned (.tuple #[v, .bool (idOk L)]) ∧ w'.ownsRow w.heap.size 3 1 v (idRow L).length (natV (idRow L)) ∧ Chg (fun _ => False) w w' := by
  obtain ⟨i0, hi, hz0, hz1, hz2⟩ := info_parts infoIntI
  have zL : (bs L).size = L.length := bs_size _
  go_enter Tryz.func70, Tryz.ntmps70
  go_wp2_with fail
  go_loopw [4, 5, 6] (fun v f i wr => ∃ (f' k : Nat) (P : List (List UInt8)), f = .int .i64 (f' : Int) ∧ i = .int .i64 (k : Int) ∧ AtPiece L f' k P ∧ P.all okP = true ∧ wr.ownsRow w.heap.size 3 1 v P.length (natV (P.map valL)) ∧ Chg (fun _ => False) w wr) (fun _ _ i _ => L.length + 1 - (intOf i).toNat)
  case atStart => exact ⟨0, 0, [], rfl, rfl, AtPiece.start L, rfl, World.ownsRow_nil _ _ _ _, Chg.refl _ _⟩
  case round =>
    obtain ⟨f, k, P, rfl, rfl, hat, hok, hR, hC⟩ := hrel
    obtain ⟨hk1, hP⟩ := hat.le
    obtain ⟨A, l, c, rfl⟩ := own_slice hR
    obtain rfl := own_lenI hR
    have hw1 : IntKind.i64.wrap ((k : Int) + 1) = k + 1 := IntWalk.i64_in _ ⟨by omega, by omega⟩
    by_cases hk : k ≤ L.length
    · have y1 : (k : Int) ≤ (L.length : Int) := by omega
      by_cases hb : k = L.length ∨ ∃ h : k < L.length, L[k] = 46
      · obtain ⟨hf, hx, hat2, hmem⟩ := hat.cut hk hb
        go_upto_region 6 with fail
        go_cut [24] from 9 to 23 (fun s W => s = .bool false ∧ W = wr)
        case first =>
          clear hat2 hmem hx hat
          rcases hb with hb | ⟨hl, hb⟩
          · have y2 : ¬ ((k : Int) < (L.length : Int)) := by omega
            clear hb
            go_wp2_with fail
            go_meet
            exact ⟨rfl, rfl⟩
          · have y2 : (k : Int) < (L.length : Int) := by omega
            have hel : ((bs L)[k]'(by rw [bs_size]; exact hl)).toNat = 46 := by rw [bs_elem L k hl, hb]; rfl
            clear hb
            go_wp2_with fail
            go_meet
            exact ⟨rfl, rfl⟩
        case rest =>
          obtain ⟨rfl, rfl⟩ := hcut
          have hxl : ((L.drop f).take (k - f)).length ≤ 1000000000 := by
            rw [List.length_take, List.length_drop]
            omega
          generalize (L.drop f).take (k - f) = x at *
          have hnum := refnum_any x hxl wc
          have yf : (f : Int) ≤ (k : Int) := by omega
          have HA := Lib.hid hat2
          have HM := Lib.hid hmem
          have HB := Lib.hid hb
          clear hat hat2 hmem hxl hb
          cases hd : okP x with
          | true =>
            obtain ⟨n1, n2, n3, n4⟩ := okP_val hd
            rw [n1, n2] at hnum
            have hall : (P ++ [x]).all okP = true := by rw [List.all_append, hok]; simp [hd]
            have hvv : natV (P.map valL) ++ [.int .i64 (valL x : Nat)] = natV ((P ++ [x]).map valL) := by simp [natV]
            have HO := Lib.hid hall
            have HV := Lib.hid hvv
            have HR := Lib.hid hR
            have HC := Lib.hid hC
            have hsz := hC.size
            clear hall hvv n1 n2 hd hR hC
            generalize valL x = vx at *
            have hn5 : ¬ ((vx : Int) < 1) := by omega
            go_wp2_with (first
              | (go_at_call 101; refine hnum.mono ?_; rintro e w2 ⟨rfl, rfl⟩)
              | (at_builtin; refine wpList_append_own_at _ rfl _ _ 50 rfl w.heap.size 3 i0 (.int .i64 0) 1 8 Tryz.underlying50 hi hz0 hz1 hz2 rfl (by decide) _ _ _ rfl (HR.out.alloc _) ⟨w2.heap.size, 0, none⟩ 1 1 [.int .i64 (vx : Int)] rfl rfl (cell_one_new _ _ _) ?c2 ?c3 ?c4 ?c5 ?_))
            case c2 => intro u hu; simp at hu; subst hu; rfl
            case c3 => unfold maxLen; omega
            case c4 => omega
            case c5 => simp; omega
            intro v' w1 hown' hgrow hnil hat
            have hrb := fun j (hj : (Value.slice A P.length c).ownBlock = some j) => own_block HR.out hj
            have hC1 : Chg (fun _ => False) w w1 := (HC.out.alloc _).grown hgrow (fun j e => .inr (hrb j e))
            have HN := Lib.hid hown'
            clear hgrow hrb hnil hat hown'
            go_wp2_with fail
            go_roundw
            case rel => exact ⟨k + 1, k + 1, P ++ [x], by go_num, by go_num, HA.out, HO.out, by rw [List.length_append, ← HV.out]; exact HN.out, hC1⟩
            case measure => simp [intOf]; omega
          | false =>
            have hI : idAll L = false := by
              cases h : idAll L with
              | false => rfl
              | true => rw [List.all_eq_true.1 h _ HM.out] at hd; cases hd
            have hres : idOk L = false ∧ idRow L = [] := by
              unfold idOk idRow
              rw [hI]
              exact ⟨rfl, rfl⟩
            have R1 := Lib.hid hres.1
            have R2 := Lib.hid hres.2
            have hbad : ¬ (numE x = 0 ∧ 1 ≤ numR x) := fun h => by rw [(okP_iff x).2 h] at hd; cases hd
            clear hd hI hres hR
            generalize numE x = nE at *
            generalize numR x = nR at *
            by_cases hE : nE = 0
            · subst hE
              have hlt : nR < 1 := by simp at hbad; omega
              clear hbad
              go_wp2_with (first | (go_at_call 101; refine hnum.mono ?_; rintro e w2 ⟨rfl, rfl⟩))
              go_ret2
              refine ⟨.slice none 0 0, by rw [R1.out]; rfl, by rw [R2.out]; exact World.ownsRow_nil _ _ _ _, hC⟩
            · have hE2 : (nE != 0) = true := bne_iff_ne.2 hE
              clear hbad
              go_wp2_with (first | (go_at_call 101; refine hnum.mono ?_; rintro e w2 ⟨rfl, rfl⟩))
              go_ret2
              refine ⟨.slice none 0 0, by rw [R1.out]; rfl, by rw [R2.out]; exact World.ownsRow_nil _ _ _ _, hC⟩
      · have hl : k < L.length := by
          have := fun h => hb (.inl h)
          omega
        have hne : L[k] ≠ 46 := fun e => hb (.inr ⟨hl, e⟩)
        have hat2 := hat.step hl hne
        have y2 : (k : Int) < (L.length : Int) := by omega
        have hel : ((bs L)[k]'(by rw [bs_size]; exact hl)).toNat = L[k].toNat := by rw [bs_elem L k hl]
        have hn2 : ¬ (L[k].toNat = 46) := fun e => hne (UInt8.toNat_inj.1 e)
        have HA := Lib.hid hat2
        have HR := Lib.hid hR
        clear hat2 hat hb hne hR
        generalize L[k].toNat = nb at *
        have hn3 : ¬ ((nb : Int) = 46) := by omega
        have hn4 : ((nb : Int) == 46) = false := by simpa using hn3
        go_wp2_with fail
        go_roundw
        case rel => exact ⟨f, k + 1, P, rfl, by go_num, HA.out, hok, HR.out, hC⟩
        case measure => simp [intOf]; omega
    · have y1 : ¬ ((k : Int) ≤ (L.length : Int)) := by omega
      have hd := hat.done hk
      have hI : idAll L = true := by unfold idAll parts; rw [hd]; exact hok
      have h1 : idOk L = decide (P.length ≤ 8) := by unfold idOk parts; rw [hI, hd, Bool.true_and]
      have h2 : idRow L = P.map valL := by unfold idRow idNs parts; rw [if_pos hI, hd]
      have H1 := Lib.hid h1
      have H2 := Lib.hid h2
      clear h1 h2 hd hI hat
      by_cases h8 : P.length ≤ 8
      · have y8 : (P.length : Int) ≤ 8 := by omega
        have HR := Lib.hid hR
        clear hR
        go_wp2_with fail
        go_ret2
        refine ⟨.slice A P.length c, by rw [H1.out, decide_eq_true h8]; rfl, ?_, hC⟩
        rw [H2.out, List.length_map]
        exact HR.out
      · have y8 : ¬ ((P.length : Int) ≤ 8) := by omega
        have HR := Lib.hid hR
        clear hR
        go_wp2_with fail
        go_ret2
        refine ⟨.slice A P.length c, by rw [H1.out, decide_eq_false h8]; rfl, ?_, hC⟩
        rw [H2.out, List.length_map]
        exact HR.out
end Go.Proofs.YtfhmmekamommcaaGreatDoor

/- The document's Digits, Id, Parent, Child, walked. -/
namespace Go.Proofs.YtfhmmekamommcaaGreatDoor
set_option linter.unusedVariables false
set_option linter.unusedSimpArgs false
open Go Go.RowKit Go.Proofs Go.Shelf
set_option maxRecDepth 100000 in
theorem refdig_any (a0 : Int) (h1 : -9223372036854775808 ≤ a0) (h2 : a0 ≤ 9223372036854775807) (w : World) : Calls Tryz.prog 72 #[.int .i64 a0] w fun e w' => e = .returned (.tuple #[.string (bs (digR a0)), .int .i64 (digE a0)]) ∧ w' = w := by
  by_cases hin : 0 ≤ a0 ∧ a0 ≤ 9007199254740991
  · obtain ⟨N, rfl⟩ : ∃ N : Nat, a0 = (N : Int) := ⟨a0.toNat, by omega⟩
    have hN : N ≤ 9007199254740991 := by omega
    have e1 : digR (N : Int) = Lib.decDigits N := by unfold digR; rw [if_pos hin]; rfl
    have e2 : digE (N : Int) = 0 := by unfold digE; rw [if_pos hin]
    rw [e1, e2]
    have h20 := dec_small hN
    have x0 : ¬ ((N : Int) < 0) := by omega
    have x9 : ¬ ((9007199254740991 : Int) < (N : Int)) := by omega
    clear e1 e2 hin
    go_enter Tryz.func72, Tryz.ntmps72
    go_wp2_with fail
    go_loop [0, 4] (fun n s => ∃ (m : Nat) (t : List UInt8), n = .int .i64 (m : Int) ∧ s = .string (bs t) ∧ m ≤ 9007199254740991 ∧ Lib.decDigits N = Lib.decDigits m ++ t) (fun n _ => (intOf n).toNat)
    case atStart => exact ⟨N, [], rfl, rfl, hN, by simp⟩
    case round =>
      clear x0 x9
      obtain ⟨m, t, rfl, rfl, hm, he⟩ := hrel
      have hlt : t.length ≤ 20 := by
        have := congrArg List.length he
        simp at this
        omega
      have z2 : (bs t).size = t.length := bs_size _
      by_cases x : m < 10
      · have x1 : ¬ ((9 : Int) < (m : Int)) := by omega
        have hw : IntKind.i64.wrap ((m : Int) + 1) = m + 1 := IntWalk.i64_in _ ⟨by omega, by omega⟩
        have hc := digit_cut m x
        have ht : ((m : Int) + 1).toNat = m + 1 := by omega
        rw [one_digit x] at he
        generalize UInt8.ofNat (48 + m) = c at *
        have ha := bs_append [c] t
        rw [← he] at ha
        have z1 : (bs [c]).size = 1 := bs_size _
        generalize bs [c] = C at *
        have HA := Lib.hid ha
        clear he ha h20
        go_wp2
        go_ret2
        exact ⟨by rw [← HA.out]; rfl, rfl⟩
      · have x1 : (9 : Int) < (m : Int) := by omega
        have hr : (m : Int).tmod 10 = ((m % 10 : Nat) : Int) := by rw [Int.tmod_eq_emod_of_nonneg (by omega)]; omega
        have hq : (m : Int).tdiv 10 = ((m / 10 : Nat) : Int) := by rw [Int.tdiv_eq_ediv_of_nonneg (by omega)]; omega
        have hr1 : IntKind.i64.wrap ((m : Int).tmod 10) = ((m % 10 : Nat) : Int) := by rw [hr]; exact IntWalk.i64_in _ ⟨by omega, by omega⟩
        have hq1 : IntKind.i64.wrap ((m : Int).tdiv 10) = ((m / 10 : Nat) : Int) := by rw [hq]; exact IntWalk.i64_in _ ⟨by omega, by omega⟩
        have hd : m % 10 < 10 := by omega
        have hdm : m / 10 < m := by omega
        have he2 : Lib.decDigits N = Lib.decDigits (m / 10) ++ ([UInt8.ofNat (48 + m % 10)] ++ t) := by
          rw [he]
          conv => lhs; arg 1; rw [Lib.decDigits, dif_neg x]
          rw [List.append_assoc]
        have HE := Lib.hid he2
        clear he he2 hr hq
        have hw : IntKind.i64.wrap (((m % 10 : Nat) : Int) + 1) = (m % 10 : Nat) + 1 := IntWalk.i64_in _ ⟨by omega, by omega⟩
        have hc := digit_cut (m % 10) hd
        have ht : (((m % 10 : Nat) : Int) + 1).toNat = (m % 10) + 1 := by omega
        generalize UInt8.ofNat (48 + m % 10) = c at *
        have ha := bs_append [c] t
        have z1 : (bs [c]).size = 1 := bs_size _
        generalize bs [c] = C at *
        have HA := Lib.hid ha
        clear ha h20
        go_wp2
        go_round
        case rel => exact ⟨m / 10, _, rfl, by rw [← HA.out, ← hc], by omega, HE.out⟩
        case measure => simp [intOf]; omega
  · have e1 : digR a0 = [] := by unfold digR; rw [if_neg hin]
    have e2 : digE a0 = 9 := by unfold digE; rw [if_neg hin]
    rw [e1, e2]
    clear e1 e2
    by_cases x0 : a0 < 0
    · clear hin
      go_enter Tryz.func72, Tryz.ntmps72
      go_wp2_with fail
      go_ret2
      exact ⟨rfl, rfl⟩
    · have x9 : (9007199254740991 : Int) < a0 := by omega
      clear hin
      go_enter Tryz.func72, Tryz.ntmps72
      go_wp2_with fail
      go_ret2
      exact ⟨rfl, rfl⟩
/-- Numbers' answer as the others use it: a row of so many -/
theorem refnums_len (L : List UInt8) (hL : L.length ≤ 1000000000) (w : World) : Calls Tryz.prog 70 #[.string (bs L)] w fun e w' => ∃ a c, e = .returned (.tuple #[.slice a (idRow L).length c, .bool (idOk L)]) ∧ Chg (fun _ => False) w w' := by
  refine (refnums_any L hL w).mono ?_
  rintro e w' ⟨v, rfl, hR, hC⟩
  obtain ⟨a, l, c, rfl⟩ := own_slice hR
  obtain rfl := own_lenI hR
  exact ⟨a, c, rfl, hC⟩
theorem refid_any (L : List UInt8) (hL : L.length ≤ 1000000000) (w : World) : Calls Tryz.prog 33 #[.string (bs L)] w fun e w' => e = .returned (.int .i64 (if idOk L then 0 else 4)) ∧ Chg (fun _ => False) w w' := by
  have hN := refnums_len L hL w
  cases hI : idOk L with
  | true =>
    rw [hI] at hN
    go_enter Tryz.func33, Tryz.ntmps33
    go_wp2_with (first | (go_at_call 70; refine hN.mono ?_; rintro e w1 ⟨a, c, rfl, hC⟩))
    go_ret
    exact ⟨rfl, hC⟩
  | false =>
    rw [hI] at hN
    go_enter Tryz.func33, Tryz.ntmps33
    go_wp2_with (first | (go_at_call 70; refine hN.mono ?_; rintro e w1 ⟨a, c, rfl, hC⟩))
    go_ret
    exact ⟨rfl, hC⟩
theorem refkid_any (L : List UInt8) (n : Int) (hn1 : -9223372036854775808 ≤ n) (hn2 : n ≤ 9223372036854775807) (hL : L.length ≤ 1000000000) (w : World) : Calls Tryz.prog 32 #[.string (bs L), .int .i64 n] w fun e w' => e = .returned (.tuple #[.string (bs (idKid L n)), .int .i64 (idKidE L n)]) ∧ Chg (fun _ => False) w w' := by
  have hN := refnums_len L hL w
  have hD := fun W => refdig_any n hn1 hn2 W
  have HD := Lib.hid hD
  clear hD
  have key : ∀ z : Int, z ≠ 0 → idKidE L n = z → idKid L n = [] := fun z hz e => by unfold idKid; rw [e, if_neg hz]
  cases hI : idOk L with
  | false =>
    have e : idKidE L n = 4 := by unfold idKidE; rw [hI]; rfl
    rw [key 4 (by decide) e, e]
    rw [hI] at hN
    clear key e
    go_enter Tryz.func32, Tryz.ntmps32
    go_wp2_with (first | (go_at_call 70; refine hN.mono ?_; rintro e w1 ⟨a, c, rfl, hC⟩))
    go_ret2
    exact ⟨rfl, hC⟩
  | true =>
    rw [hI] at hN
    rw [idRow_ns hI, idNs_len] at hN
    by_cases h1 : 1 ≤ n ∧ n ≤ 9007199254740991
    · have hdr : digR n = Lib.decDigits n.toNat := by unfold digR; rw [if_pos (by omega)]
      have hde : digE n = 0 := by unfold digE; rw [if_pos (by omega)]
      rw [hdr, hde] at HD
      have hds := dec_small (n := n.toNat) (by omega)
      have hlt : ¬ (n < 1) := by omega
      by_cases h8 : (parts L).length = 8
      · have e : idKidE L n = 5 := by unfold idKidE; rw [if_pos hI, if_pos h1, if_pos h8]
        rw [key 5 (by decide) e, e]
        rw [h8] at hN
        clear h1 hL hds key e
        go_enter Tryz.func32, Tryz.ntmps32
        go_wp2_with (first
          | (go_at_call 70; refine hN.mono ?_; rintro e w1 ⟨a, c, rfl, hC⟩)
          | (go_at_call 72; refine (HD.out _).mono ?_; rintro e w2 ⟨rfl, rfl⟩))
        go_ret2
        exact ⟨rfl, hC⟩
      · have e : idKidE L n = 0 := by unfold idKidE; rw [if_pos hI, if_pos h1, if_neg h8]
        have ek : idKid L n = L ++ 46 :: Lib.decDigits n.toNat := by unfold idKid; rw [if_pos e]
        rw [ek, e]
        clear key e ek
        have h8' : (((parts L).length : Int) == 8) = false := by rw [beq_eq_false_iff_ne]; omega
        have e1 : bs L ++ ⟨#[46]⟩ ++ bs (Lib.decDigits n.toNat) = bs (L ++ 46 :: Lib.decDigits n.toNat) := by
          rw [show (⟨#[46]⟩ : ByteArray) = bs [46] from rfl, bs_append, bs_append]
          simp
        have z1 : (bs L).size = L.length := bs_size _
        have z2 : (bs L ++ ⟨#[46]⟩).size = L.length + 1 := by rw [ByteArray.size_append, bs_size]; rfl
        have z3 : (bs (Lib.decDigits n.toNat)).size = (Lib.decDigits n.toNat).length := bs_size _
        have z4 : (⟨#[46]⟩ : ByteArray).size = 1 := rfl
        have E1 := Lib.hid e1
        clear h1 h8 e1
        generalize (Lib.decDigits n.toNat).length = dl at *
        generalize bs (Lib.decDigits n.toNat) = ds at *
        go_enter Tryz.func32, Tryz.ntmps32
        go_wp2_with (first
          | (go_at_call 70; refine hN.mono ?_; rintro e w1 ⟨a, c, rfl, hC⟩)
          | (go_at_call 72; refine (HD.out _).mono ?_; rintro e w2 ⟨rfl, rfl⟩))
        go_ret2
        rw [← E1.out]
        exact ⟨rfl, hC⟩
    · have e : idKidE L n = 9 := by unfold idKidE; rw [if_pos hI, if_neg h1]
      rw [key 9 (by decide) e, e]
      clear key e
      by_cases hE : digE n = 0
      · have hlt : n < 1 := by
          unfold digE at hE
          split at hE
          · omega
          · simp at hE
        rw [hE] at HD
        clear h1 hE
        generalize bs (digR n) = ds at *
        go_enter Tryz.func32, Tryz.ntmps32
        go_wp2_with (first
          | (go_at_call 70; refine hN.mono ?_; rintro e w1 ⟨a, c, rfl, hC⟩)
          | (go_at_call 72; refine (HD.out _).mono ?_; rintro e w2 ⟨rfl, rfl⟩))
        go_ret2
        exact ⟨rfl, hC⟩
      · have hE9 : digE n = 9 := by
          unfold digE at hE ⊢
          split
          · rename_i h; rw [if_pos h] at hE; exact absurd rfl hE
          · rfl
        rw [hE9] at HD
        clear h1 hE hE9
        generalize bs (digR n) = ds at *
        go_enter Tryz.func32, Tryz.ntmps32
        go_wp2_with (first
          | (go_at_call 70; refine hN.mono ?_; rintro e w1 ⟨a, c, rfl, hC⟩)
          | (go_at_call 72; refine (HD.out _).mono ?_; rintro e w2 ⟨rfl, rfl⟩))
        go_ret2
        exact ⟨rfl, hC⟩
end Go.Proofs.YtfhmmekamommcaaGreatDoor

/- The document's Parent, walked. -/
namespace Go.Proofs.YtfhmmekamommcaaGreatDoor
set_option linter.unusedVariables false
set_option linter.unusedSimpArgs false
open Go Go.RowKit Go.Proofs Go.Shelf
set_option maxRecDepth 100000 in
theorem refpar_any (L : List UInt8) (hL : L.length ≤ 1000000000) (w : World) : Calls Tryz.prog 30 #[.string (bs L)] w fun e w' => e = .returned (.tuple #[.string (bs (idPar L).1), .bool (idPar L).2]) ∧ Chg (fun _ => False) w w' := by
  have hN := refnums_len L hL w
  have zL : (bs L).size = L.length := bs_size _
  cases hI : idOk L with
  | false =>
    have e : idPar L = ([], false) := by unfold idPar; rw [if_neg fun h => by rw [h.2] at hI; cases hI]
    rw [e]
    rw [hI] at hN
    clear e
    go_enter Tryz.func30, Tryz.ntmps30
    go_wp2_with (first | (go_at_call 70; refine hN.mono ?_; rintro e w1 ⟨a, c, rfl, hC⟩))
    go_ret2
    exact ⟨rfl, hC⟩
  | true =>
    rw [hI] at hN
    rw [idRow_ns hI, idNs_len] at hN
    by_cases hm : (46 : UInt8) ∈ L
    · have h2 := (parts_two L).2 hm
      have h3 : ¬ (((parts L).length : Int) < 2) := by omega
      obtain ⟨s, p, rfl, hp⟩ := cut_last 46 L hm
      have e : idPar (s ++ 46 :: p) = (s, true) := by unfold idPar; rw [if_pos ⟨hm, hI⟩, idCut_eq s p hp]
      rw [e]
      have hlen : (s ++ 46 :: p).length = s.length + 1 + p.length := by simp; omega
      have hex : (bs (s ++ 46 :: p)).extract 0 s.length = bs s := by
        have h := bs_extract [] s (46 :: p)
        simpa using h
      have hat : ∀ m (h : m < (s ++ 46 :: p).length), s.length ≤ m → (((s ++ 46 :: p)[m] = 46) ↔ m = s.length) := by
        intro m h hs
        rw [List.getElem_append_right hs]
        by_cases q : m = s.length
        · subst q; simp
        · constructor
          · intro hx
            exfalso
            obtain ⟨j, hj⟩ : ∃ j, m - s.length = j + 1 := ⟨m - s.length - 1, by omega⟩
            simp only [hj, List.getElem_cons_succ] at hx
            exact hp (hx ▸ List.getElem_mem _)
          · intro hx; exact absurd hx q
      generalize s ++ 46 :: p = L at *
      have HX := Lib.hid hex
      have HAT := Lib.hid hat
      have hn1 : IntKind.i64.wrap ((L.length : Int) - 1) = ((L.length - 1 : Nat) : Int) := by rw [show ((L.length : Int) - 1) = ((L.length - 1 : Nat) : Int) by omega]; exact IntWalk.i64_in _ ⟨by omega, by omega⟩
      have hpos : s.length < L.length := by omega
      clear e hm h2 hI hex hat hlen
      go_enter Tryz.func30, Tryz.ntmps30
      go_wp2_with (first | (go_at_call 70; refine hN.mono ?_; rintro e w1 ⟨a, c, rfl, hC⟩))
      go_loop [6] (fun i => ∃ m : Nat, i = .int .i64 (m : Int) ∧ s.length ≤ m ∧ m < L.length) (fun i => (intOf i).toNat)
      case atStart => exact ⟨L.length - 1, rfl, by omega, by omega⟩
      case round =>
        clear hn1 hN h3
        obtain ⟨m, rfl, hs, hml⟩ := hrel
        have hel : ((bs L)[m]'(by rw [bs_size]; exact hml)).toNat = L[m].toNat := by rw [bs_elem L m hml]
        have hxx := HAT.out m hml hs
        have y1 : (m : Int) < (L.length : Int) := by omega
        by_cases q : m = s.length
        · have h46 : L[m].toNat = 46 := by rw [hxx.2 q]; rfl
          rw [h46] at hel
          subst q
          clear hxx h46
          have HXX := HX.out
          go_wp2_with fail
          go_ret2
          exact ⟨rfl, hC⟩
        · have h46 : ¬ L[m].toNat = 46 := fun e => q (hxx.1 (UInt8.toNat_inj.1 e))
          clear hxx
          generalize L[m].toNat = nb at *
          have hn3 : ¬ ((nb : Int) = 46) := by omega
          have hn4 : ((nb : Int) == 46) = false := by simpa using hn3
          have hw : IntKind.i64.wrap ((m : Int) - 1) = ((m - 1 : Nat) : Int) := by rw [show ((m : Int) - 1) = ((m - 1 : Nat) : Int) by omega]; exact IntWalk.i64_in _ ⟨by omega, by omega⟩
          go_wp2_with fail
          go_round
          case rel => exact ⟨m - 1, rfl, by omega, by omega⟩
          case measure => simp [intOf]; omega
    · have h2 : ¬ 2 ≤ (parts L).length := fun h => hm ((parts_two L).1 h)
      have h3 : ((parts L).length : Int) < 2 := by omega
      have e : idPar L = ([], false) := by unfold idPar; rw [if_neg fun h => hm h.1]
      rw [e]
      clear e h2 hm hI
      go_enter Tryz.func30, Tryz.ntmps30
      go_wp2_with (first | (go_at_call 70; refine hN.mono ?_; rintro e w1 ⟨a, c, rfl, hC⟩))
      go_ret2
      exact ⟨rfl, hC⟩
end Go.Proofs.YtfhmmekamommcaaGreatDoor

/- The document's Less, walked. -/
namespace Go.Proofs.YtfhmmekamommcaaGreatDoor
set_option linter.unusedVariables false
set_option linter.unusedSimpArgs false
open Go Go.RowKit Go.Proofs Go.Shelf
theorem refnums_row (L : List UInt8) (hL : L.length ≤ 1000000000) (w : World) : Calls Tryz.prog 70 #[.string (bs L)] w fun e w' => ∃ a c, e = .returned (.tuple #[.slice a (idRow L).length c, .bool (idOk L)]) ∧ NatRow w' (.slice a (idRow L).length c) (idRow L) ∧ Chg (fun _ => False) w w' := by
  refine (refnums_any L hL w).mono ?_
  rintro e w' ⟨v, rfl, hR, hC⟩
  obtain ⟨a, l, c, rfl⟩ := own_slice hR
  obtain rfl := own_lenI hR
  exact ⟨a, c, rfl, NatRow.of_own hR, hC⟩
set_option maxRecDepth 100000 in
set_option maxHeartbeats 4000000 in
theorem refless_any (A B : List UInt8) (hA : A.length ≤ 1000000000) (hB : B.length ≤ 1000000000) (w : World) : Calls Tryz.prog 35 #[.string (bs A), .string (bs B)] w fun e w' => e = .returned (.bool (idLess A B)) ∧ Chg (fun _ => False) w w' := by
  have hN1 := refnums_row A hA w
  have hN2 := fun W => refnums_row B hB W
  have H2 := Lib.hid hN2
  clear hN2 hA hB
  have t1 : True := trivial
  by_cases hok : idOk A = true ∧ idOk B = true
  · obtain ⟨hI, hJ⟩ := hok
    have hla := idRow_len A hI
    have hlb := idRow_len B hJ
    have he : idLess A B = decide (cmpL (idRow A) (idRow B) < 0) := by unfold idLess; rw [hI, hJ, idRow_ns hI, idRow_ns hJ]; rfl
    rw [he]
    rw [hI] at hN1
    rw [hJ] at H2
    clear he hI hJ
    generalize idRow A = La at *
    generalize idRow B = Lb at *
    go_enter Tryz.func35, Tryz.ntmps35
    go_wp2_with (first
      | (go_at_call 70; have _t := t1; clear _t t1; refine hN1.mono ?_; rintro e w1 ⟨a1, c1, rfl, hR1, hC1⟩)
      | (go_at_call 70; refine (H2.out _).mono ?_; rintro e w2 ⟨a2, c2, rfl, hR2, hC2⟩))
    replace hR1 := hR1.keep fun k c t f e => hC2.keep e (fun x => x)
    obtain ⟨b1, d1, e1, k1, r1⟩ := hR1
    obtain ⟨rfl, rfl⟩ : a1 = b1 ∧ c1 = d1 := by simpa using e1
    obtain ⟨b2, d2, e2, k2, r2⟩ := hR2
    obtain ⟨rfl, rfl⟩ : a2 = b2 ∧ c2 = d2 := by simpa using e2
    have hC0 := hC1.trans hC2
    clear e1 e2 hN1 H2 hC1 hC2
    have R1 := Lib.hid r1
    have R2 := Lib.hid r2
    have HC0 := Lib.hid hC0
    clear r1 r2 hC0 k1 k2
    go_loopw [9] (fun i wr => ∃ k : Nat, i = .int .i64 (k : Int) ∧ k ≤ La.length ∧ k ≤ Lb.length ∧ cmpL La Lb = cmpL (La.drop k) (Lb.drop k) ∧ Chg (fun _ => False) w2 wr) (fun i _ => La.length - (intOf i).toNat)
    case atStart => exact ⟨0, rfl, Nat.zero_le _, Nat.zero_le _, rfl, Chg.refl _ _⟩
    case round =>
      obtain ⟨k, rfl, hkL, hkM, hc, hC⟩ := hrel
      have HK := Lib.hid hc
      clear hc
      by_cases x1 : k < La.length
      · obtain ⟨g1, o1, rfl, z1⟩ := R1.out k x1
        have y1 : (k : Int) < (La.length : Int) := by omega
        by_cases x2 : k < Lb.length
        · obtain ⟨g2, o2, rfl, z2⟩ := R2.out k x2
          have y2 : (k : Int) < (Lb.length : Int) := by omega
          have hst := cmpL_step x1 x2
          have HST := Lib.hid hst
          replace z1 := hC.cell z1 (fun x => x)
          replace z2 := hC.cell z2 (fun x => x)
          clear hst R1 R2
          generalize La.getD k 0 = p at *
          generalize Lb.getD k 0 = q at *
          have hw1 : IntKind.i64.wrap ((k : Int) + 1) = k + 1 := IntWalk.i64_in _ ⟨by omega, by omega⟩
          have hS : (fun (W' : World) => W'.cell? ⟨g1, o1 + k, none⟩ = some (.int .i64 (p : Int)) ∧ W'.cell? ⟨g2, o2 + k, none⟩ = some (.int .i64 (q : Int))) wr := ⟨z1, z2⟩
          rcases Nat.lt_trichotomy p q with hpq | hpq | hpq
          · have p1 : (p : Int) < (q : Int) := by omega
            have p2 : ((p : Int) != (q : Int)) = true := by simp; omega
            have p3 : ¬ ((p : Int) = (q : Int)) := by omega
            go_upto_region 8 with fail
            refine region_lone (fun (W' : World) => W'.cell? ⟨g1, o1 + k, none⟩ = some (.int .i64 (p : Int)) ∧ W'.cell? ⟨g2, o2 + k, none⟩ = some (.int .i64 (q : Int))) [] (by kernel_rfl) ?_
            refine take_one 0 hS rfl (by kernel_rfl) rfl ?_
            apply Exists.intro
            refine And.intro (fun W' hS' => ?a0) (And.intro (fun _ _ _ h => h) ?_)
            case a0 => obtain ⟨y0, y1⟩ := hS'; go_simp; rfl
            refine take_one 1 hS rfl (by kernel_rfl) rfl ?_
            apply Exists.intro
            refine And.intro (fun W' hS' => ?a1) (And.intro (fun _ _ _ h => h) ?_)
            case a1 => obtain ⟨y0, y1⟩ := hS'; go_simp; rfl
            refine take_one 2 hS rfl (by kernel_rfl) rfl ?_
            apply Exists.intro
            refine And.intro (fun W' hS' => ?a2) (And.intro (fun _ _ _ h => h) ?_)
            case a2 => obtain ⟨y0, y1⟩ := hS'; go_simp; rfl
            refine take_one 3 hS rfl (by kernel_rfl) rfl ?_
            apply Exists.intro
            refine And.intro (fun W' hS' => ?a3) (And.intro (fun _ _ _ h => h) ?_)
            case a3 => obtain ⟨y0, y1⟩ := hS'; go_simp; rfl
            refine take_one 4 hS rfl (by kernel_rfl) rfl ?_
            apply Exists.intro
            refine And.intro (fun W' hS' => ?a4) (And.intro (fun _ _ _ h => h) ?_)
            case a4 => obtain ⟨y0, y1⟩ := hS'; go_simp; rfl
            refine take_one 5 hS rfl (by kernel_rfl) rfl ?_
            apply Exists.intro
            refine And.intro (fun W' hS' => ?a5) (And.intro (fun _ _ _ h => h) ?_)
            case a5 => obtain ⟨y0, y1⟩ := hS'; go_simp; rfl
            refine take_one 6 hS rfl (by kernel_rfl) rfl ?_
            apply Exists.intro
            refine And.intro (fun W' hS' => ?a6) (And.intro (fun _ _ _ h => h) ?_)
            case a6 => obtain ⟨y0, y1⟩ := hS'; go_simp; rfl
            refine take_one 7 hS rfl (by kernel_rfl) rfl ?_
            apply Exists.intro
            refine And.intro (fun W' hS' => ?a7) (And.intro (fun _ _ _ h => h) ?_)
            case a7 => obtain ⟨y0, y1⟩ := hS'; go_simp; rfl
            try go_simp
            refine take_one 8 hS rfl (by kernel_rfl) rfl ?_
            apply Exists.intro
            refine And.intro (fun W' hS' => ?a8) (And.intro (fun _ _ _ h => h) ?_)
            case a8 => obtain ⟨y0, y1⟩ := hS'; go_simp; rfl
            try go_simp
            refine all_done (by kernel_rfl) ?_ _
            have hS9 : (fun (W' : World) => W'.cell? ⟨g1, o1 + k, none⟩ = some (.int .i64 (p : Int)) ∧ W'.cell? ⟨g2, o2 + k, none⟩ = some (.int .i64 (q : Int))) wr.drew := ⟨((Chg.refl (fun _ => False) wr).drew).cell z1 (fun x => x), ((Chg.refl (fun _ => False) wr).drew).cell z2 (fun x => x)⟩
            go_upto_region 9 with fail
            refine region_lone (fun (W' : World) => W'.cell? ⟨g1, o1 + k, none⟩ = some (.int .i64 (p : Int)) ∧ W'.cell? ⟨g2, o2 + k, none⟩ = some (.int .i64 (q : Int))) [] (by kernel_rfl) ?_
            refine take_one 0 hS9 rfl (by kernel_rfl) rfl ?_
            apply Exists.intro
            refine And.intro (fun W' hS' => ?b0) (And.intro (fun _ _ _ h => h) ?_)
            case b0 => obtain ⟨y0, y1⟩ := hS'; go_simp; rfl
            refine take_one 1 hS9 rfl (by kernel_rfl) rfl ?_
            apply Exists.intro
            refine And.intro (fun W' hS' => ?b1) (And.intro (fun _ _ _ h => h) ?_)
            case b1 => obtain ⟨y0, y1⟩ := hS'; go_simp; rfl
            refine take_one 2 hS9 rfl (by kernel_rfl) rfl ?_
            apply Exists.intro
            refine And.intro (fun W' hS' => ?b2) (And.intro (fun _ _ _ h => h) ?_)
            case b2 => obtain ⟨y0, y1⟩ := hS'; go_simp; rfl
            refine take_one 3 hS9 rfl (by kernel_rfl) rfl ?_
            apply Exists.intro
            refine And.intro (fun W' hS' => ?b3) (And.intro (fun _ _ _ h => h) ?_)
            case b3 => obtain ⟨y0, y1⟩ := hS'; go_simp; rfl
            refine take_one 4 hS9 rfl (by kernel_rfl) rfl ?_
            apply Exists.intro
            refine And.intro (fun W' hS' => ?b4) (And.intro (fun _ _ _ h => h) ?_)
            case b4 => obtain ⟨y0, y1⟩ := hS'; go_simp; rfl
            refine take_one 5 hS9 rfl (by kernel_rfl) rfl ?_
            apply Exists.intro
            refine And.intro (fun W' hS' => ?b5) (And.intro (fun _ _ _ h => h) ?_)
            case b5 => obtain ⟨y0, y1⟩ := hS'; go_simp; rfl
            refine take_one 6 hS9 rfl (by kernel_rfl) rfl ?_
            apply Exists.intro
            refine And.intro (fun W' hS' => ?b6) (And.intro (fun _ _ _ h => h) ?_)
            case b6 => obtain ⟨y0, y1⟩ := hS'; go_simp; rfl
            refine take_one 7 hS9 rfl (by kernel_rfl) rfl ?_
            apply Exists.intro
            refine And.intro (fun W' hS' => ?b7) (And.intro (fun _ _ _ h => h) ?_)
            case b7 => obtain ⟨y0, y1⟩ := hS'; go_simp; rfl
            try go_simp
            refine take_one 8 hS9 rfl (by kernel_rfl) rfl ?_
            apply Exists.intro
            refine And.intro (fun W' hS' => ?b8) (And.intro (fun _ _ _ h => h) ?_)
            case b8 => obtain ⟨y0, y1⟩ := hS'; go_simp; rfl
            refine take_one 9 hS9 rfl (by kernel_rfl) rfl ?_
            apply Exists.intro
            refine And.intro (fun W' hS' => ?b9) (And.intro (fun _ _ _ h => h) ?_)
            case b9 => obtain ⟨y0, y1⟩ := hS'; go_simp; rfl
            try go_simp
            refine all_done (by kernel_rfl) ?_ _
            go_wp2_with fail
            go_ret
            refine ⟨?_, (HC0.out.trans hC).drew.drew⟩
            rw [HK.out, HST.out, if_pos hpq]
            rfl
          · subst hpq
            go_upto_region 8 with fail
            refine region_lone (fun (W' : World) => W'.cell? ⟨g1, o1 + k, none⟩ = some (.int .i64 (p : Int)) ∧ W'.cell? ⟨g2, o2 + k, none⟩ = some (.int .i64 (p : Int))) [] (by kernel_rfl) ?_
            refine take_one 0 hS rfl (by kernel_rfl) rfl ?_
            apply Exists.intro
            refine And.intro (fun W' hS' => ?c0) (And.intro (fun _ _ _ h => h) ?_)
            case c0 => obtain ⟨y0, y1⟩ := hS'; go_simp; rfl
            refine take_one 1 hS rfl (by kernel_rfl) rfl ?_
            apply Exists.intro
            refine And.intro (fun W' hS' => ?c1) (And.intro (fun _ _ _ h => h) ?_)
            case c1 => obtain ⟨y0, y1⟩ := hS'; go_simp; rfl
            refine take_one 2 hS rfl (by kernel_rfl) rfl ?_
            apply Exists.intro
            refine And.intro (fun W' hS' => ?c2) (And.intro (fun _ _ _ h => h) ?_)
            case c2 => obtain ⟨y0, y1⟩ := hS'; go_simp; rfl
            refine take_one 3 hS rfl (by kernel_rfl) rfl ?_
            apply Exists.intro
            refine And.intro (fun W' hS' => ?c3) (And.intro (fun _ _ _ h => h) ?_)
            case c3 => obtain ⟨y0, y1⟩ := hS'; go_simp; rfl
            refine take_one 4 hS rfl (by kernel_rfl) rfl ?_
            apply Exists.intro
            refine And.intro (fun W' hS' => ?c4) (And.intro (fun _ _ _ h => h) ?_)
            case c4 => obtain ⟨y0, y1⟩ := hS'; go_simp; rfl
            refine take_one 5 hS rfl (by kernel_rfl) rfl ?_
            apply Exists.intro
            refine And.intro (fun W' hS' => ?c5) (And.intro (fun _ _ _ h => h) ?_)
            case c5 => obtain ⟨y0, y1⟩ := hS'; go_simp; rfl
            refine take_one 6 hS rfl (by kernel_rfl) rfl ?_
            apply Exists.intro
            refine And.intro (fun W' hS' => ?c6) (And.intro (fun _ _ _ h => h) ?_)
            case c6 => obtain ⟨y0, y1⟩ := hS'; go_simp; rfl
            refine take_one 7 hS rfl (by kernel_rfl) rfl ?_
            apply Exists.intro
            refine And.intro (fun W' hS' => ?c7) (And.intro (fun _ _ _ h => h) ?_)
            case c7 => obtain ⟨y0, y1⟩ := hS'; go_simp; rfl
            try go_simp
            refine take_one 8 hS rfl (by kernel_rfl) rfl ?_
            apply Exists.intro
            refine And.intro (fun W' hS' => ?c8) (And.intro (fun _ _ _ h => h) ?_)
            case c8 => obtain ⟨y0, y1⟩ := hS'; go_simp; rfl
            try go_simp
            refine all_done (by kernel_rfl) ?_ _
            go_wp2_with fail
            go_roundw
            case rel => exact ⟨k + 1, by go_num, by omega, by omega, by rw [HK.out, HST.out, if_neg (Nat.lt_irrefl _), if_neg (Nat.lt_irrefl _)], hC.drew⟩
            case measure => simp [intOf]; omega
          · have p1 : ¬ ((p : Int) < (q : Int)) := by omega
            have p2 : ((p : Int) != (q : Int)) = true := by simp; omega
            have p3 : ¬ ((p : Int) = (q : Int)) := by omega
            go_upto_region 8 with fail
            refine region_lone (fun (W' : World) => W'.cell? ⟨g1, o1 + k, none⟩ = some (.int .i64 (p : Int)) ∧ W'.cell? ⟨g2, o2 + k, none⟩ = some (.int .i64 (q : Int))) [] (by kernel_rfl) ?_
            refine take_one 0 hS rfl (by kernel_rfl) rfl ?_
            apply Exists.intro
            refine And.intro (fun W' hS' => ?d0) (And.intro (fun _ _ _ h => h) ?_)
            case d0 => obtain ⟨y0, y1⟩ := hS'; go_simp; rfl
            refine take_one 1 hS rfl (by kernel_rfl) rfl ?_
            apply Exists.intro
            refine And.intro (fun W' hS' => ?d1) (And.intro (fun _ _ _ h => h) ?_)
            case d1 => obtain ⟨y0, y1⟩ := hS'; go_simp; rfl
            refine take_one 2 hS rfl (by kernel_rfl) rfl ?_
            apply Exists.intro
            refine And.intro (fun W' hS' => ?d2) (And.intro (fun _ _ _ h => h) ?_)
            case d2 => obtain ⟨y0, y1⟩ := hS'; go_simp; rfl
            refine take_one 3 hS rfl (by kernel_rfl) rfl ?_
            apply Exists.intro
            refine And.intro (fun W' hS' => ?d3) (And.intro (fun _ _ _ h => h) ?_)
            case d3 => obtain ⟨y0, y1⟩ := hS'; go_simp; rfl
            refine take_one 4 hS rfl (by kernel_rfl) rfl ?_
            apply Exists.intro
            refine And.intro (fun W' hS' => ?d4) (And.intro (fun _ _ _ h => h) ?_)
            case d4 => obtain ⟨y0, y1⟩ := hS'; go_simp; rfl
            refine take_one 5 hS rfl (by kernel_rfl) rfl ?_
            apply Exists.intro
            refine And.intro (fun W' hS' => ?d5) (And.intro (fun _ _ _ h => h) ?_)
            case d5 => obtain ⟨y0, y1⟩ := hS'; go_simp; rfl
            refine take_one 6 hS rfl (by kernel_rfl) rfl ?_
            apply Exists.intro
            refine And.intro (fun W' hS' => ?d6) (And.intro (fun _ _ _ h => h) ?_)
            case d6 => obtain ⟨y0, y1⟩ := hS'; go_simp; rfl
            refine take_one 7 hS rfl (by kernel_rfl) rfl ?_
            apply Exists.intro
            refine And.intro (fun W' hS' => ?d7) (And.intro (fun _ _ _ h => h) ?_)
            case d7 => obtain ⟨y0, y1⟩ := hS'; go_simp; rfl
            try go_simp
            refine take_one 8 hS rfl (by kernel_rfl) rfl ?_
            apply Exists.intro
            refine And.intro (fun W' hS' => ?d8) (And.intro (fun _ _ _ h => h) ?_)
            case d8 => obtain ⟨y0, y1⟩ := hS'; go_simp; rfl
            try go_simp
            refine all_done (by kernel_rfl) ?_ _
            have hS9 : (fun (W' : World) => W'.cell? ⟨g1, o1 + k, none⟩ = some (.int .i64 (p : Int)) ∧ W'.cell? ⟨g2, o2 + k, none⟩ = some (.int .i64 (q : Int))) wr.drew := ⟨((Chg.refl (fun _ => False) wr).drew).cell z1 (fun x => x), ((Chg.refl (fun _ => False) wr).drew).cell z2 (fun x => x)⟩
            go_upto_region 9 with fail
            refine region_lone (fun (W' : World) => W'.cell? ⟨g1, o1 + k, none⟩ = some (.int .i64 (p : Int)) ∧ W'.cell? ⟨g2, o2 + k, none⟩ = some (.int .i64 (q : Int))) [] (by kernel_rfl) ?_
            refine take_one 0 hS9 rfl (by kernel_rfl) rfl ?_
            apply Exists.intro
            refine And.intro (fun W' hS' => ?e0) (And.intro (fun _ _ _ h => h) ?_)
            case e0 => obtain ⟨y0, y1⟩ := hS'; go_simp; rfl
            refine take_one 1 hS9 rfl (by kernel_rfl) rfl ?_
            apply Exists.intro
            refine And.intro (fun W' hS' => ?e1) (And.intro (fun _ _ _ h => h) ?_)
            case e1 => obtain ⟨y0, y1⟩ := hS'; go_simp; rfl
            refine take_one 2 hS9 rfl (by kernel_rfl) rfl ?_
            apply Exists.intro
            refine And.intro (fun W' hS' => ?e2) (And.intro (fun _ _ _ h => h) ?_)
            case e2 => obtain ⟨y0, y1⟩ := hS'; go_simp; rfl
            refine take_one 3 hS9 rfl (by kernel_rfl) rfl ?_
            apply Exists.intro
            refine And.intro (fun W' hS' => ?e3) (And.intro (fun _ _ _ h => h) ?_)
            case e3 => obtain ⟨y0, y1⟩ := hS'; go_simp; rfl
            refine take_one 4 hS9 rfl (by kernel_rfl) rfl ?_
            apply Exists.intro
            refine And.intro (fun W' hS' => ?e4) (And.intro (fun _ _ _ h => h) ?_)
            case e4 => obtain ⟨y0, y1⟩ := hS'; go_simp; rfl
            refine take_one 5 hS9 rfl (by kernel_rfl) rfl ?_
            apply Exists.intro
            refine And.intro (fun W' hS' => ?e5) (And.intro (fun _ _ _ h => h) ?_)
            case e5 => obtain ⟨y0, y1⟩ := hS'; go_simp; rfl
            refine take_one 6 hS9 rfl (by kernel_rfl) rfl ?_
            apply Exists.intro
            refine And.intro (fun W' hS' => ?e6) (And.intro (fun _ _ _ h => h) ?_)
            case e6 => obtain ⟨y0, y1⟩ := hS'; go_simp; rfl
            refine take_one 7 hS9 rfl (by kernel_rfl) rfl ?_
            apply Exists.intro
            refine And.intro (fun W' hS' => ?e7) (And.intro (fun _ _ _ h => h) ?_)
            case e7 => obtain ⟨y0, y1⟩ := hS'; go_simp; rfl
            try go_simp
            refine take_one 8 hS9 rfl (by kernel_rfl) rfl ?_
            apply Exists.intro
            refine And.intro (fun W' hS' => ?e8) (And.intro (fun _ _ _ h => h) ?_)
            case e8 => obtain ⟨y0, y1⟩ := hS'; go_simp; rfl
            refine take_one 9 hS9 rfl (by kernel_rfl) rfl ?_
            apply Exists.intro
            refine And.intro (fun W' hS' => ?e9) (And.intro (fun _ _ _ h => h) ?_)
            case e9 => obtain ⟨y0, y1⟩ := hS'; go_simp; rfl
            try go_simp
            refine all_done (by kernel_rfl) ?_ _
            go_wp2_with fail
            go_ret
            refine ⟨?_, (HC0.out.trans hC).drew.drew⟩
            rw [HK.out, HST.out, if_neg (by omega), if_pos hpq]
            rfl
        · have y2 : ¬ ((k : Int) < (Lb.length : Int)) := by omega
          have y3 : ¬ ((La.length : Int) < (Lb.length : Int)) := by omega
          go_wp2_with fail
          go_ret
          refine ⟨?_, HC0.out.trans hC⟩
          rw [HK.out, List.drop_eq_getElem_cons x1, List.drop_eq_nil_of_le (by omega : Lb.length ≤ k)]
          rfl
      · have y1 : ¬ ((k : Int) < (La.length : Int)) := by omega
        have hk2 := HK.out
        rw [cmpL_drop_nil (List.drop_eq_nil_of_le (by omega))] at hk2
        have HK2 := Lib.hid hk2
        clear hk2
        by_cases x2 : Lb.length ≤ k
        · have y3 : ¬ ((La.length : Int) < (Lb.length : Int)) := by omega
          go_wp2_with fail
          go_ret
          refine ⟨?_, HC0.out.trans hC⟩
          rw [HK2.out, if_pos x2]
          rfl
        · have y3 : (La.length : Int) < (Lb.length : Int) := by omega
          go_wp2_with fail
          go_ret
          refine ⟨?_, HC0.out.trans hC⟩
          rw [HK2.out, if_neg x2]
          rfl
  · have he : idLess A B = false := by
      unfold idLess
      cases hI : idOk A with
      | false => rfl
      | true =>
        cases hJ : idOk B with
        | false => rfl
        | true => exact absurd ⟨hI, hJ⟩ hok
    rw [he]
    clear he
    cases hI : idOk A with
    | false =>
      rw [hI] at hN1
      go_enter Tryz.func35, Tryz.ntmps35
      go_wp2_with (first
        | (go_at_call 70; have _t := t1; clear _t t1; refine hN1.mono ?_; rintro e w1 ⟨a1, c1, rfl, hR1, hC1⟩)
        | (go_at_call 70; refine (H2.out _).mono ?_; rintro e w2 ⟨a2, c2, rfl, hR2, hC2⟩))
      go_ret
      exact ⟨rfl, hC1.trans hC2⟩
    | true =>
      have hJ : idOk B = false := by
        cases hJ : idOk B with
        | false => rfl
        | true => exact absurd ⟨hI, hJ⟩ hok
      rw [hI] at hN1
      rw [hJ] at H2
      go_enter Tryz.func35, Tryz.ntmps35
      go_wp2_with (first
        | (go_at_call 70; have _t := t1; clear _t t1; refine hN1.mono ?_; rintro e w1 ⟨a1, c1, rfl, hR1, hC1⟩)
        | (go_at_call 70; refine (H2.out _).mono ?_; rintro e w2 ⟨a2, c2, rfl, hR2, hC2⟩))
      go_ret
      exact ⟨rfl, hC1.trans hC2⟩
end Go.Proofs.YtfhmmekamommcaaGreatDoor

/- TaintIds at every input: it returns true. -/
namespace Go.Proofs.YtfhmmekamommcaaGreatDoor
set_option linter.unusedVariables false
set_option linter.unusedSimpArgs false
open Go Go.RowKit Go.Proofs Go.Shelf
theorem cut_take (A : List UInt8) (m : Nat) (h : m ≤ A.length) : (bs A).extract 0 m = bs (A.take m) := by
  have := bs_extract [] (A.take m) (A.drop m)
  rw [List.nil_append, List.take_append_drop] at this
  simpa [h] using this
/-- a call that leaves the world but for what it draws and makes -/
def CallAt (w : World) (f : Nat) (args : Array Value) (r : Value) : Prop := ∀ W, Chg (fun _ => False) w W → Calls Tryz.prog f args W fun e w' => e = .returned r ∧ Chg (fun _ => False) w w'
theorem callAt {w : World} {f : Nat} {args : Array Value} {r : Value} (hW : WOk w) (h : ∀ W, WOk W → Calls Tryz.prog f args W fun e w' => e = .returned r ∧ Chg (fun _ => False) W w') : CallAt w f args r := by
  intro W hC
  exact (h W (hW.mono (Chg.below hC _ (Nat.le_refl _) (fun _ _ h => h)))).mono fun e w' ⟨h1, h2⟩ => ⟨h1, hC.trans h2⟩
set_option maxRecDepth 100000 in
set_option maxHeartbeats 4000000 in
theorem taintIds_some (a b : ByteArray) (n : Int) (w : World) (ha : a.size ≤ 140737488351232) (hb : b.size ≤ 140737488351232) (n1 : -9223372036854775808 ≤ n) (n2 : n ≤ 9223372036854775807) (hT : TabOk w) (hW : WOk w) :
    Calls Tryz.prog 5 #[.string a, .string b, .int .i64 n] w fun e w' => e = .returned (.bool true) ∧ Chg (fun _ => False) w w' := by
  obtain ⟨A, rfl⟩ : ∃ A, a = bs A := ⟨a.data.toList, by cases a; simp [bs]⟩
  obtain ⟨B, rfl⟩ : ∃ B, b = bs B := ⟨b.data.toList, by cases b; simp [bs]⟩
  have zA : (bs A).size = A.length := bs_size _
  have zB : (bs B).size = B.length := bs_size _
  rw [zA] at ha
  rw [zB] at hb
  obtain ⟨m, hm⟩ : ∃ m : Nat, min A.length 100 = m := ⟨_, rfl⟩
  obtain ⟨k, hk⟩ : ∃ k : Nat, min B.length 100 = k := ⟨_, rfl⟩
  have hm1 : min (A.length : Int) 100 = (m : Int) := by omega
  have hk1 : min (B.length : Int) 100 = (k : Int) := by omega
  have hm2 : m ≤ A.length := by omega
  have hk2 : k ≤ B.length := by omega
  have eA := cut_take A m hm2
  have eB := cut_take B k hk2
  have lA : (A.take m).length ≤ 1000000000 := by rw [List.length_take]; omega
  have lB : (B.take k).length ≤ 1000000000 := by rw [List.length_take]; omega
  go_enter Tryz.func5, Tryz.ntmps5
  go_upto_region 1 with fail
  have hS : (fun (W' : World) => True) w := trivial
  refine region_lone (fun (W' : World) => True) [] (by kernel_rfl) ?_
  refine take_one 0 hS rfl (by kernel_rfl) rfl ?_
  apply Exists.intro
  refine And.intro (fun W' hS' => ?y0) (And.intro (fun _ _ _ h => h) ?_)
  case y0 => have _y := hS'; go_simp; rfl
  refine take_one 1 hS rfl (by kernel_rfl) rfl ?_
  apply Exists.intro
  refine And.intro (fun W' hS' => ?y1) (And.intro (fun _ _ _ h => h) ?_)
  case y1 => have _y := hS'; go_simp; rfl
  refine take_one 2 hS rfl (by kernel_rfl) rfl ?_
  apply Exists.intro
  refine And.intro (fun W' hS' => ?y2) (And.intro (fun _ _ _ h => h) ?_)
  case y2 => have _y := hS'; go_simp; rfl
  refine take_one 3 hS rfl (by kernel_rfl) rfl ?_
  apply Exists.intro
  refine And.intro (fun W' hS' => ?y3) (And.intro (fun _ _ _ h => h) ?_)
  case y3 => have _y := hS'; go_simp; rfl
  refine take_one 4 hS rfl (by kernel_rfl) rfl ?_
  apply Exists.intro
  refine And.intro (fun W' hS' => ?y4) (And.intro (fun _ _ _ h => h) ?_)
  case y4 => have _y := hS'; go_simp; rfl
  refine take_one 5 hS rfl (by kernel_rfl) rfl ?_
  apply Exists.intro
  refine And.intro (fun W' hS' => ?y5) (And.intro (fun _ _ _ h => h) ?_)
  case y5 => have _y := hS'; go_simp; rfl
  refine take_one 6 hS rfl (by kernel_rfl) rfl ?_
  apply Exists.intro
  refine And.intro (fun W' hS' => ?y6) (And.intro (fun _ _ _ h => h) ?_)
  case y6 => have _y := hS'; go_simp; rfl
  refine take_one 7 hS rfl (by kernel_rfl) rfl ?_
  apply Exists.intro
  refine And.intro (fun W' hS' => ?y7) (And.intro (fun _ _ _ h => h) ?_)
  case y7 => have _y := hS'; go_simp; rfl
  try go_simp
  refine take_one 8 hS rfl (by kernel_rfl) rfl ?_
  apply Exists.intro
  refine And.intro (fun W' hS' => ?y8) (And.intro (fun _ _ _ h => h) ?_)
  case y8 => have _y := hS'; go_simp; rfl
  refine take_one 9 hS rfl (by kernel_rfl) rfl ?_
  apply Exists.intro
  refine And.intro (fun W' hS' => ?y9) (And.intro (fun _ _ _ h => h) ?_)
  case y9 => have _y := hS'; go_simp; rfl
  refine take_one 10 hS rfl (by kernel_rfl) rfl ?_
  apply Exists.intro
  refine And.intro (fun W' hS' => ?y10) (And.intro (fun _ _ _ h => h) ?_)
  case y10 => have _y := hS'; go_simp; rfl
  refine take_one 11 hS rfl (by kernel_rfl) rfl ?_
  apply Exists.intro
  refine And.intro (fun W' hS' => ?y11) (And.intro (fun _ _ _ h => h) ?_)
  case y11 => have _y := hS'; go_simp; rfl
  try go_simp
  refine all_done (by kernel_rfl) ?_ _
  have hC0 : Chg (fun _ => False) w w.drew := (Chg.refl _ _).drew
  try rw [eA]
  try rw [eB]
  generalize A.take m = x at *
  generalize B.take k = y at *
  have P1 := Lib.hid (callAt hW fun W h => parent_any x lA W h)
  have P2 := Lib.hid (callAt hW fun W h => refpar_any x lA W)
  have K1 := Lib.hid (callAt hW fun W h => child_any x n lA W h)
  have K2 := Lib.hid (callAt hW fun W h => refkid_any x n n1 n2 lA W)
  have I1 := Lib.hid (callAt hW fun W h => id_any x lA W h)
  have I2 := Lib.hid (callAt hW fun W h => refid_any x lA W)
  have L1 := Lib.hid (callAt hW fun W h => less_any x y lA lB W h)
  have L2 := Lib.hid (callAt hW fun W h => refless_any x y lA lB W)
  have hwk : CallAt w 24 #[] (.bool true) := fun W hC => (tworks_some W (hT.chg hC (fun x => x)) (hW.mono (Chg.below hC _ (Nat.le_refl _) (fun _ _ h => h)))).mono fun e w' ⟨h1, h2⟩ => ⟨h1, hC.trans h2⟩
  have WK := Lib.hid hwk
  clear hwk hT hW lA lB n1 n2 eA eB hm1 hk1 hm hk hm2 hk2 zA zB ha hb
  generalize (if idOk x = true then (0 : Int) else 4) = di at *
  generalize (idPar x).1 = pa at *
  generalize (idPar x).2 = ph at *
  generalize idKid x n = kd at *
  generalize idKidE x n = ke at *
  generalize idLess x y = le at *
  have q1 : ((bs pa).toList == (bs pa).toList) = true := beq_self_eq_true _
  have q2 : ((bs kd).toList == (bs kd).toList) = true := beq_self_eq_true _
  go_wp2_with (first
    | (go_at_call 29; refine (P1.out _ hC0).mono ?_; rintro e w2 ⟨rfl, hC1⟩; clear hC0; have hC0 := hC1; clear hC1)
    | (go_at_call 30; refine (P2.out _ hC0).mono ?_; rintro e w2 ⟨rfl, hC1⟩; clear hC0; have hC0 := hC1; clear hC1)
    | (go_at_call 31; refine (K1.out _ hC0).mono ?_; rintro e w2 ⟨rfl, hC1⟩; clear hC0; have hC0 := hC1; clear hC1)
    | (go_at_call 32; refine (K2.out _ hC0).mono ?_; rintro e w2 ⟨rfl, hC1⟩; clear hC0; have hC0 := hC1; clear hC1)
    | (go_at_call 25; refine (I1.out _ hC0).mono ?_; rintro e w2 ⟨rfl, hC1⟩; clear hC0; have hC0 := hC1; clear hC1)
    | (go_at_call 33; refine (I2.out _ hC0).mono ?_; rintro e w2 ⟨rfl, hC1⟩; clear hC0; have hC0 := hC1; clear hC1)
    | (go_at_call 34; refine (L1.out _ hC0).mono ?_; rintro e w2 ⟨rfl, hC1⟩; clear hC0; have hC0 := hC1; clear hC1)
    | (go_at_call 35; refine (L2.out _ hC0).mono ?_; rintro e w2 ⟨rfl, hC1⟩; clear hC0; have hC0 := hC1; clear hC1)
    | (go_at_call 24; refine (WK.out _ hC0).mono ?_; rintro e w2 ⟨rfl, hC1⟩; clear hC0; have hC0 := hC1; clear hC1))
  go_ret
  exact ⟨rfl, hC0⟩
end Go.Proofs.YtfhmmekamommcaaGreatDoor
