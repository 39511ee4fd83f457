/- A box of fuses, plainly: what it answers, call by call; and the laws on rows of calls. -/
namespace Go.Proofs.Ytbihefbjojlncaa
set_option linter.unusedVariables false
set_option linter.unusedSimpArgs false
/-- most, rest, the tick, and of each spot its number: 4 times the failures, or the tick, and the state -/
structure FS where
  most : Int
  rest : Int
  now : Int
  N : Int → Int → Int
def updN (N : Int → Int → Int) (d l x : Int) : Int → Int → Int := fun a b => if a = d ∧ b = l then x else N a b
theorem updN_same (N : Int → Int → Int) (d l x : Int) : updN N d l x d l = x := by simp [updN]
theorem updN_other (N : Int → Int → Int) {d l x a b : Int} (h : ¬ (a = d ∧ b = l)) : updN N d l x a b = N a b := by simp [updN, h]
/-- may a spot and a tick be? -/
def mayAt (d l t : Int) : Bool := decide (0 ≤ t ∧ t ≤ 4503599627370496 ∧ 0 ≤ d ∧ d ≤ 1000 ∧ 0 ≤ l ∧ l ≤ 9)
def FS.tick (S : FS) (t : Int) : FS := { S with now := max S.now t }
def FS.set (S : FS) (d l x : Int) : FS := { S with N := updN S.N d l x }
/-- Ask behind the tick -/
def FS.ask1 (S : FS) (d l : Int) : FS × Int :=
  if S.N d l % 4 = 0 then (S, 0)
  else if S.now < S.N d l / 4 then (S, 170)
  else (S.set d l ((S.now + S.rest) * 4 + 2), 0)
/-- Did behind the tick -/
def FS.did1 (S : FS) (d l : Int) (well : Bool) : FS :=
  if S.N d l % 4 = 1 then S
  else if well then S.set d l 0
  else if S.N d l % 4 = 0 ∧ S.N d l / 4 + 1 < S.most then S.set d l ((S.N d l / 4 + 1) * 4)
  else S.set d l ((S.now + S.rest) * 4 + 1)
def FS.ask (S : FS) (d l t : Int) : FS × Int := if mayAt d l t then (S.tick t).ask1 d l else (S, 9)
def FS.did (S : FS) (d l : Int) (well : Bool) (t : Int) : FS × Int := if mayAt d l t then ((S.tick t).did1 d l well, 0) else (S, 9)
def FS.state (S : FS) (d l : Int) : Int × Int × Int := if S.N d l % 4 = 0 then (0, S.N d l / 4, 0) else (S.N d l % 4, 0, S.N d l / 4)
/-- what a box's numbers always are -/
structure FS.Ok (S : FS) : Prop where
  most : 1 ≤ S.most ∧ S.most ≤ 1000
  rest : 1 ≤ S.rest ∧ S.rest ≤ 1000000
  now : 0 ≤ S.now ∧ S.now ≤ 4503599627370496
  num : ∀ d l, 0 ≤ S.N d l ∧ S.N d l ≤ 18014398513481987 ∧ (S.N d l % 4 = 0 → S.N d l < 4000)
theorem mayAt_iff {d l t : Int} : mayAt d l t = true ↔ (0 ≤ t ∧ t ≤ 4503599627370496 ∧ 0 ≤ d ∧ d ≤ 1000 ∧ 0 ≤ l ∧ l ≤ 9) := by simp [mayAt]
theorem FS.Ok.tick {S : FS} (h : S.Ok) {t : Int} (ht : t ≤ 4503599627370496) : (S.tick t).Ok := by
  refine ⟨h.most, h.rest, ?_, h.num⟩
  have := h.now
  simp only [FS.tick]
  omega
theorem FS.Ok.set {S : FS} (h : S.Ok) (d l : Int) {x : Int} (h0 : 0 ≤ x) (h1 : x ≤ 18014398513481987) (h2 : x % 4 = 0 → x < 4000) : (S.set d l x).Ok := by
  refine ⟨h.most, h.rest, h.now, fun a b => ?_⟩
  simp only [FS.set, updN]
  split
  · exact ⟨h0, h1, h2⟩
  · exact h.num a b
theorem FS.Ok.ask1 {S : FS} (h : S.Ok) (d l : Int) : (S.ask1 d l).1.Ok := by
  have := h.now; have := h.rest
  unfold FS.ask1
  split
  · exact h
  · split
    · exact h
    · exact h.set d l (by omega) (by omega) (by omega)
theorem FS.Ok.did1 {S : FS} (h : S.Ok) (d l : Int) (well : Bool) : (S.did1 d l well).Ok := by
  have := h.now; have := h.rest; have := h.most; have := h.num d l
  unfold FS.did1
  split
  · exact h
  · split
    · exact h.set d l (by omega) (by omega) (by omega)
    · split
      · exact h.set d l (by omega) (by omega) (by omega)
      · exact h.set d l (by omega) (by omega) (by omega)
theorem FS.Ok.ask {S : FS} (h : S.Ok) (d l t : Int) : (S.ask d l t).1.Ok := by
  unfold FS.ask
  split
  · rename_i hm
    exact (h.tick (mayAt_iff.1 hm).2.1).ask1 d l
  · exact h
theorem FS.Ok.did {S : FS} (h : S.Ok) (d l : Int) (well : Bool) (t : Int) : (S.did d l well t).1.Ok := by
  unfold FS.did
  split
  · rename_i hm
    exact (h.tick (mayAt_iff.1 hm).2.1).did1 d l well
  · exact h
def FS.new (most rest : Int) : FS := ⟨most, rest, 0, fun _ _ => 0⟩
theorem FS.new_ok {most rest : Int} (h : 1 ≤ most ∧ most ≤ 1000) (h' : 1 ≤ rest ∧ rest ≤ 1000000) : (FS.new most rest).Ok :=
  ⟨h, h', ⟨by simp [FS.new], by simp [FS.new]⟩, fun _ _ => ⟨by simp [FS.new], by simp [FS.new], by simp [FS.new]⟩⟩
/-- no fuse has failures, or is blown -/
def FS.still (S : FS) : Prop := ∀ d l, S.N d l = 0

/-! ### what each call leaves -/
theorem FS.ask_other {S : FS} {d l t a b : Int} (h : ¬ (a = d ∧ b = l)) : (S.ask d l t).1.N a b = S.N a b := by
  unfold FS.ask
  split
  · unfold FS.ask1
    split
    · rfl
    · split
      · rfl
      · exact updN_other _ h
  · rfl
theorem FS.did_other {S : FS} {d l t a b : Int} {well : Bool} (h : ¬ (a = d ∧ b = l)) : (S.did d l well t).1.N a b = S.N a b := by
  unfold FS.did
  split
  · unfold FS.did1
    split
    · rfl
    · split
      · exact updN_other _ h
      · split <;> exact updN_other _ h
  · rfl
theorem FS.ask_now {S : FS} {d l t : Int} (h : mayAt d l t = true) : (S.ask d l t).1.now = max S.now t := by
  unfold FS.ask FS.ask1
  rw [if_pos h]
  split
  · rfl
  · split <;> rfl
theorem FS.did_now {S : FS} {d l t : Int} {well : Bool} (h : mayAt d l t = true) : (S.did d l well t).1.now = max S.now t := by
  unfold FS.did FS.did1
  rw [if_pos h]
  split
  · rfl
  · split
    · rfl
    · split <;> rfl
theorem FS.ask_rest {S : FS} {d l t : Int} : (S.ask d l t).1.rest = S.rest ∧ (S.ask d l t).1.most = S.most := by
  unfold FS.ask
  split
  · unfold FS.ask1
    split
    · exact ⟨rfl, rfl⟩
    · split <;> exact ⟨rfl, rfl⟩
  · exact ⟨rfl, rfl⟩
theorem FS.did_rest {S : FS} {d l t : Int} {well : Bool} : (S.did d l well t).1.rest = S.rest ∧ (S.did d l well t).1.most = S.most := by
  unfold FS.did
  split
  · unfold FS.did1
    split
    · exact ⟨rfl, rfl⟩
    · split
      · exact ⟨rfl, rfl⟩
      · split <;> exact ⟨rfl, rfl⟩
  · exact ⟨rfl, rfl⟩
/-- two boxes that stand alike at a spot answer alike there, where the tick that counts is the same -/
structure Like (S T : FS) (d l : Int) : Prop where
  most : S.most = T.most
  rest : S.rest = T.rest
  num : S.N d l = T.N d l
theorem Like.ask {S T : FS} {d l t t' : Int} (h : Like S T d l) (hm : mayAt d l t = mayAt d l t') (hn : mayAt d l t = true → max S.now t = max T.now t') : (S.ask d l t).2 = (T.ask d l t').2 ∧ Like (S.ask d l t).1 (T.ask d l t').1 d l := by
  obtain ⟨m1, r1, n1, N1⟩ := S
  obtain ⟨m2, r2, n2, N2⟩ := T
  obtain ⟨h1, h2, h3⟩ := h
  simp only at h1 h2 h3 hn
  subst h1 h2
  unfold FS.ask
  rw [← hm]
  cases hc : mayAt d l t
  · exact ⟨rfl, rfl, rfl, h3⟩
  · have hn := hn hc
    simp only [if_true, FS.ask1, FS.tick, ← h3, ← hn]
    by_cases c1 : N1 d l % 4 = 0
    · simp only [c1, if_true]
      exact ⟨trivial, rfl, rfl, h3⟩
    · simp only [c1, if_false]
      by_cases c2 : max n1 t < N1 d l / 4
      · simp only [c2, if_true]
        exact ⟨trivial, rfl, rfl, h3⟩
      · simp only [c2, if_false]
        exact ⟨trivial, rfl, rfl, by simp [FS.set, updN_same]⟩
theorem Like.did {S T : FS} {d l t t' : Int} {well : Bool} (h : Like S T d l) (hm : mayAt d l t = mayAt d l t') (hn : mayAt d l t = true → max S.now t = max T.now t') : (S.did d l well t).2 = (T.did d l well t').2 ∧ Like (S.did d l well t).1 (T.did d l well t').1 d l := by
  obtain ⟨m1, r1, n1, N1⟩ := S
  obtain ⟨m2, r2, n2, N2⟩ := T
  obtain ⟨h1, h2, h3⟩ := h
  simp only at h1 h2 h3 hn
  subst h1 h2
  unfold FS.did
  rw [← hm]
  cases hc : mayAt d l t
  · exact ⟨rfl, rfl, rfl, h3⟩
  · have hn := hn hc
    simp only [if_true, FS.did1, FS.tick, ← h3, ← hn]
    by_cases c1 : N1 d l % 4 = 1
    · simp only [c1, if_true]
      exact ⟨trivial, rfl, rfl, h3⟩
    · simp only [c1, if_false]
      cases well
      · by_cases c2 : N1 d l % 4 = 0 ∧ N1 d l / 4 + 1 < m1
        · simp only [c2, if_true, and_self, Bool.false_eq_true, if_false]
          exact ⟨trivial, rfl, rfl, by simp [FS.set, updN_same]⟩
        · simp only [c2, if_false, Bool.false_eq_true]
          exact ⟨trivial, rfl, rfl, by simp [FS.set, updN_same]⟩
      · simp only [if_true]
        exact ⟨trivial, rfl, rfl, by simp [FS.set, updN_same]⟩
theorem Like.state {S T : FS} {d l : Int} (h : Like S T d l) : S.state d l = T.state d l := by
  unfold FS.state
  rw [h.num]
end Go.Proofs.Ytbihefbjojlncaa
