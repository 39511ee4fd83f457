/- push: how long a packet's bytes are; a copy of bytes. -/
import Derived.Test.YteiedafdakffeaaDoorPuJ
namespace Go.Proofs.YteiedafdakffeaaDoor
set_option linter.unusedVariables false
set_option linter.unusedSimpArgs false
open Go Go.RowKit Go.Proofs
open Go.Proofs.YteiedafdakffeaaDoorW.PrintWords (Kd ReadsInt ReadsOf own_move print_drop_of print_take_of gate_dst gate_store bytesOf bytesOf_length)
theorem pushB_pos (k ver fr nd tk hd tl : Int) (tx : ByteArray) (l : List ByteArray) : 0 < (pushB k ver fr nd tk hd tl tx l).length := by
  unfold pushB
  simp only [List.length_append, List.length_cons, List.length_nil]
  omega
theorem pushB_le (k ver fr nd tk hd tl : Int) (tx : ByteArray) (l : List ByteArray) (ht : tx.size ≤ 65536) (hs : sizes l ≤ 65536) (hl : l.length ≤ 1000) : (pushB k ver fr nd tk hd tl tx l).length ≤ 200000 := by
  unfold pushB
  have h1 := fieldsB_len (ownOf k) (leastOf k) (fromOf k ver) (pushV k ver fr nd tk hd tl) 6
  have h2 := textB_length tx
  have h3 := linesB_length l
  have h4 := rowB_length (l.length : Int) 2
  have h5 : (if k = 1 then textB tx else []).length ≤ 65539 := by
    split
    · omega
    · simp
  have h6 : (if k = 2 then rowB l.length 2 ++ linesB l else []).length ≤ 70000 := by
    split
    · rw [List.length_append]; omega
    · simp
  simp only [List.length_append, List.length_cons, List.length_nil] at *
  omega
/-- an append that stands behind a guard, in a plain region -/
theorem wpList_append_guarded {P : Program} {ops : Array Oper} {rest : List Oper} {o : Oper} {a : Act} {w : World} {Q : Exit → Act → World → Prop} (hg : Region.wanted o (yielded ops a.tmps) = true) (s x : Operand) (t tn : TypeId)
    (ho : o.op = .call { callee := .builtin .append, args := #[s, x], argTypes := #[t, tn] }) (vs vx : Value) (hs : a.eval s = vs) (hx : a.eval x = vx)
    (v' : Value) (w' : World) (hr : (Builtin.append_ #[t, tn] o.type #[vs, vx]).run P w = .ok v' w') (h : wpList P ops Q rest (a.put o.dst v') w') : wpList P ops Q (o :: rest) a w := by
  refine wpList_step fun K hK => ?_
  rw [if_pos hg]
  exact Lib.wp_append_run w s x t tn ho vs vx hs hx v' w' hr (hK _ _ h)
set_option maxRecDepth 100000 in
set_option maxHeartbeats 4000000 in
theorem copyB_some (w : World) (A : Option Addr) (b : List Int) (c : Nat) (hR : ReadsInt w .u8 A b.length b) (h0 : 0 < b.length) (hb : b.length ≤ 140737488351232) :
    Calls Tryd.prog 11 #[.slice A b.length c] w fun e w' => ∃ v, e = .returned v ∧ w'.ownsRow w.heap.size 5 1 v b.length (u8s b) ∧ Chg (fun _ => False) w w' := by
  obtain ⟨i0, hi, hz0, hz1, hz2⟩ := info_parts info5
  obtain ⟨x, rfl, hcell⟩ := hR.2.2 h0
  have HCELL := Lib.hid hcell
  have hu : (u8s b).length = b.length * 1 := by simp [u8s]
  have HU := Lib.hid hu
  clear hcell hu hR
  go_enter Tryd.func11, Tryd.ntmps11
  go_wp2_with (at_builtin; refine wpList_append_own_at _ rfl _ _ 22 rfl w.heap.size 5 i0 (.int .u8 0) 1 1 Tryd.underlying22 hi hz0 hz1 hz2 rfl (by decide) (.slice none 0 0) 0 [] rfl (World.ownsRow_nil _ _ _ _) x b.length c (u8s b) rfl HU.out ?c1 ?c2 ?c3 ?c4 ?c5 ?_)
  case c1 =>
    intro j u hj
    have hjl : j < b.length := by
      have := (List.getElem?_eq_some_iff.1 hj).1
      rw [HU.out] at this
      omega
    rw [HCELL.out j hjl]
    unfold u8s at hj
    rw [List.getElem?_map, List.getElem?_eq_getElem hjl] at hj
    rw [← hj]
    simp [List.getD, hjl]
  case c2 =>
    intro u hu
    unfold u8s at hu
    obtain ⟨n, _, rfl⟩ := List.mem_map.1 hu
    rfl
  case c3 => unfold maxLen; omega
  case c4 => omega
  case c5 => exact Nat.le_refl _
  intro v' w1 hown' hgrow _ hat
  have HO1 : Hid (w1.ownsRow w.heap.size 5 1 v' b.length (u8s b)) := Lib.hid hown'
  have HC1 := Lib.hid ((Chg.refl (fun _ => False) w).grown hgrow (fun k hk => by cases hk))
  clear hown' hgrow hat
  go_wp2_with fail
  go_ret
  exact ⟨_, rfl, HO1.out, HC1.out⟩
end Go.Proofs.YteiedafdakffeaaDoor
