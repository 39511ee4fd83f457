/-
  No cell of these rows narrows 'for every input' (looked for: loops, veiled, ifaces, maps, wideKeys, modest, calm, conditions, laid).
  DERIVED. THE GIVEN ROWS OF THIS SEAT. 6 by the template 'for every input the law returns true; each argument reads behind the call as it read before'; 0 by the template 'total and deterministic' (their statements: YtbihefbjojlncaaTotals.lean).
  GIVEN WITH THE SEED: the statements are not yours to turn. If you find one false, say at which input.
  Laid BY PROGRAM, IN A SANDBOX (cutbox-rows.mjs): the forced cells as the released guide's own fill.sh prints them over the translation 3071b476f1f19bf2… (all of the seat's roots in one cut). By AI agents, Wed Nov 11 2026. No macro, syntax, notation, axiom, sorry.
-/
import Derived.Test.YtbihefbjojlncaaChecked
import GoSem.Claim
import GoSem.ClaimJoined
import GoSem.ClaimMapViews
import Derived.JoinedTies
import Derived.KernelRfl
namespace Go.Proofs.Ytbihefbjojlncaa
/- THE CELL 'sum', in the pinned program and in every row, IS THE sha256 OF THE DUMP (.gsa) THAT YtbihefbjojlncaaProg.lean LOADS. Nothing in Lean hashes anything: it is a label: what it is worth is what the hold of that sum in a sandbox is worth. -/
noncomputable def Try.pinned : Pinned := { name := "ytbihefbjojlncaa", sum := "3071b476f1f19bf2ac54f664448bb104e6737f47509d4b9a40fa96324ec00b1a", checked := Try.checked }
namespace Rows
def none {H : Type} : Left H := { results := [], args := [] }

/-- 'chinoiserielaw17.FusePlays': WHATEVER THE INPUT: true; the input reads as it did. -/
def fusePlaysSpec : ChangeSpec := { name := "fusePlays", fn := fun _ => fun
  | [d1, d2, d3] => { results := [.lit (.bool true)], args := [d1, d2, d3] }
  | _ => none }
def fusePlaysRow : OpenClaim := { program := "ytbihefbjojlncaa", sum := "3071b476f1f19bf2ac54f664448bb104e6737f47509d4b9a40fa96324ec00b1a", func := "chinoiserie/chinoiserielaw17.FusePlays", spec := "fusePlays", inPlace := ["sync/atomic.LoadInt64", "sync/atomic.CompareAndSwapInt64"], unfollowed := true, recurses := true, plainKeys := false, apart := false }
def FusePlaysSaid : Prop := fusePlaysRow.holds Try.pinned (OpenSpec.ofChange fusePlaysSpec)

/-- ITS FALSE NEIGHBOUR: 'it returns false'. Refute it at one input. -/
def fusePlaysWrong : ChangeSpec := { name := "fusePlays", fn := fun _ => fun
  | [d1, d2, d3] => { results := [.lit (.bool false)], args := [d1, d2, d3] }
  | _ => none }
def FusePlaysWrongFalsely : Prop := fusePlaysRow.holds Try.pinned (OpenSpec.ofChange fusePlaysWrong)

/-- 'chinoiserielaw17.FuseApart': WHATEVER THE INPUT: true; the input reads as it did. -/
def fuseApartSpec : ChangeSpec := { name := "fuseApart", fn := fun _ => fun
  | [d1, d2, d3] => { results := [.lit (.bool true)], args := [d1, d2, d3] }
  | _ => none }
def fuseApartRow : OpenClaim := { program := "ytbihefbjojlncaa", sum := "3071b476f1f19bf2ac54f664448bb104e6737f47509d4b9a40fa96324ec00b1a", func := "chinoiserie/chinoiserielaw17.FuseApart", spec := "fuseApart", inPlace := ["sync/atomic.LoadInt64", "sync/atomic.CompareAndSwapInt64"], unfollowed := true, recurses := true, plainKeys := false, apart := false }
def FuseApartSaid : Prop := fuseApartRow.holds Try.pinned (OpenSpec.ofChange fuseApartSpec)

/-- ITS FALSE NEIGHBOUR: 'it returns false'. Refute it at one input. -/
def fuseApartWrong : ChangeSpec := { name := "fuseApart", fn := fun _ => fun
  | [d1, d2, d3] => { results := [.lit (.bool false)], args := [d1, d2, d3] }
  | _ => none }
def FuseApartWrongFalsely : Prop := fuseApartRow.holds Try.pinned (OpenSpec.ofChange fuseApartWrong)

/-- 'chinoiserielaw17.FuseRests': WHATEVER THE INPUT: true; the input reads as it did. -/
def fuseRestsSpec : ChangeSpec := { name := "fuseRests", fn := fun _ => fun
  | [d1, d2, d3] => { results := [.lit (.bool true)], args := [d1, d2, d3] }
  | _ => none }
def fuseRestsRow : OpenClaim := { program := "ytbihefbjojlncaa", sum := "3071b476f1f19bf2ac54f664448bb104e6737f47509d4b9a40fa96324ec00b1a", func := "chinoiserie/chinoiserielaw17.FuseRests", spec := "fuseRests", inPlace := ["sync/atomic.LoadInt64", "sync/atomic.CompareAndSwapInt64"], unfollowed := true, recurses := true, plainKeys := false, apart := false }
def FuseRestsSaid : Prop := fuseRestsRow.holds Try.pinned (OpenSpec.ofChange fuseRestsSpec)

/-- ITS FALSE NEIGHBOUR: 'it returns false'. Refute it at one input. -/
def fuseRestsWrong : ChangeSpec := { name := "fuseRests", fn := fun _ => fun
  | [d1, d2, d3] => { results := [.lit (.bool false)], args := [d1, d2, d3] }
  | _ => none }
def FuseRestsWrongFalsely : Prop := fuseRestsRow.holds Try.pinned (OpenSpec.ofChange fuseRestsWrong)

/-- 'chinoiserielaw17.FuseKeeps': WHATEVER THE INPUT: true; the input reads as it did. -/
def fuseKeepsSpec : ChangeSpec := { name := "fuseKeeps", fn := fun _ => fun
  | [d1, d2, d3] => { results := [.lit (.bool true)], args := [d1, d2, d3] }
  | _ => none }
def fuseKeepsRow : OpenClaim := { program := "ytbihefbjojlncaa", sum := "3071b476f1f19bf2ac54f664448bb104e6737f47509d4b9a40fa96324ec00b1a", func := "chinoiserie/chinoiserielaw17.FuseKeeps", spec := "fuseKeeps", inPlace := ["sync/atomic.LoadInt64", "sync/atomic.CompareAndSwapInt64"], unfollowed := true, recurses := true, plainKeys := false, apart := false }
def FuseKeepsSaid : Prop := fuseKeepsRow.holds Try.pinned (OpenSpec.ofChange fuseKeepsSpec)

/-- ITS FALSE NEIGHBOUR: 'it returns false'. Refute it at one input. -/
def fuseKeepsWrong : ChangeSpec := { name := "fuseKeeps", fn := fun _ => fun
  | [d1, d2, d3] => { results := [.lit (.bool false)], args := [d1, d2, d3] }
  | _ => none }
def FuseKeepsWrongFalsely : Prop := fuseKeepsRow.holds Try.pinned (OpenSpec.ofChange fuseKeepsWrong)

/-- 'chinoiserielaw17.FuseTicks': WHATEVER THE INPUT: true; the input reads as it did. -/
def fuseTicksSpec : ChangeSpec := { name := "fuseTicks", fn := fun _ => fun
  | [d1, d2] => { results := [.lit (.bool true)], args := [d1, d2] }
  | _ => none }
def fuseTicksRow : OpenClaim := { program := "ytbihefbjojlncaa", sum := "3071b476f1f19bf2ac54f664448bb104e6737f47509d4b9a40fa96324ec00b1a", func := "chinoiserie/chinoiserielaw17.FuseTicks", spec := "fuseTicks", inPlace := ["sync/atomic.LoadInt64", "sync/atomic.CompareAndSwapInt64"], unfollowed := true, recurses := true, plainKeys := false, apart := false }
def FuseTicksSaid : Prop := fuseTicksRow.holds Try.pinned (OpenSpec.ofChange fuseTicksSpec)

/-- ITS FALSE NEIGHBOUR: 'it returns false'. Refute it at one input. -/
def fuseTicksWrong : ChangeSpec := { name := "fuseTicks", fn := fun _ => fun
  | [d1, d2] => { results := [.lit (.bool false)], args := [d1, d2] }
  | _ => none }
def FuseTicksWrongFalsely : Prop := fuseTicksRow.holds Try.pinned (OpenSpec.ofChange fuseTicksWrong)

/-- 'chinoiserielaw17.FuseKnown': WHATEVER THE INPUT: true; the input reads as it did. -/
def fuseKnownSpec : ChangeSpec := { name := "fuseKnown", fn := fun _ => fun
  | [] => { results := [.lit (.bool true)], args := [] }
  | _ => none }
def fuseKnownRow : OpenClaim := { program := "ytbihefbjojlncaa", sum := "3071b476f1f19bf2ac54f664448bb104e6737f47509d4b9a40fa96324ec00b1a", func := "chinoiserie/chinoiserielaw17.FuseKnown", spec := "fuseKnown", inPlace := ["sync/atomic.LoadInt64", "sync/atomic.CompareAndSwapInt64"], unfollowed := true, recurses := true, plainKeys := false, apart := false }
def FuseKnownSaid : Prop := fuseKnownRow.holds Try.pinned (OpenSpec.ofChange fuseKnownSpec)

/-- ITS FALSE NEIGHBOUR: 'it returns false'. Refute it at one input. -/
def fuseKnownWrong : ChangeSpec := { name := "fuseKnown", fn := fun _ => fun
  | [] => { results := [.lit (.bool false)], args := [] }
  | _ => none }
def FuseKnownWrongFalsely : Prop := fuseKnownRow.holds Try.pinned (OpenSpec.ofChange fuseKnownWrong)

/- THE SECOND FORM. 'bulk': how many values and letters a reading holds, each counted each time it is reached (what is shared counts as often as it is met; a slice's spare places count too). A statement '..UptoSaid' is the law's where the arguments, and the package variables that the reading takes, are together of bulk at most 1048576: NARROWER than '..Said'. Prove '..Said' where nothing that the law and all that it calls make is longer than what came in: it says more and counts as full. Else prove '..UptoSaid'. A law counts once. -/
mutual
def uptoBulk {H : Type} : DataW H → Nat
  | .lit (.string bytes) => bytes.length + 1
  | .lit _ => 1
  | .nil => 1
  | .ptr d => uptoBulk d + 1
  | .slice elems spare => uptoBulkAll elems + uptoBulkAll spare + 1
  | .agg parts => uptoBulkAll parts + 1
  | .iface _ d => uptoBulk d + 1
  | .map entries => uptoBulkEntries entries + 1
  | .held _ => 1
def uptoBulkAll {H : Type} : List (DataW H) → Nat
  | [] => 0
  | d :: r => uptoBulk d + uptoBulkAll r
def uptoBulkEntries {H : Type} : List (Lit × DataW H) → Nat
  | [] => 0
  | x :: r => uptoBulkEntry x + uptoBulkEntries r
def uptoBulkEntry {H : Type} : Lit × DataW H → Nat
  | (.string bytes, d) => bytes.length + uptoBulk d + 1
  | (_, d) => uptoBulk d + 1
 end
def uptoSmall : (H : Type) → List (DataW H) → Bool := fun _ ds => decide (uptoBulkAll ds ≤ 1048576)
def OpenSpec.upto (s : _root_.Go.ChangeSpec) : _root_.Go.OpenSpec := { _root_.Go.OpenSpec.ofChange s with cond := some uptoSmall }

/-- 'chinoiserielaw17.FusePlays', WHERE WHAT IT READS IS OF BULK AT MOST 1048576: true; the input reads as it did. -/
def fusePlaysUptoRow : OpenClaim := { program := "ytbihefbjojlncaa", sum := "3071b476f1f19bf2ac54f664448bb104e6737f47509d4b9a40fa96324ec00b1a", func := "chinoiserie/chinoiserielaw17.FusePlays", spec := "fusePlays", inPlace := ["sync/atomic.LoadInt64", "sync/atomic.CompareAndSwapInt64"], unfollowed := true, recurses := true, plainKeys := false, apart := false, narrowed := true }
def FusePlaysUptoSaid : Prop := fusePlaysUptoRow.holds Try.pinned (OpenSpec.upto fusePlaysSpec)

/-- 'chinoiserielaw17.FuseApart', WHERE WHAT IT READS IS OF BULK AT MOST 1048576: true; the input reads as it did. -/
def fuseApartUptoRow : OpenClaim := { program := "ytbihefbjojlncaa", sum := "3071b476f1f19bf2ac54f664448bb104e6737f47509d4b9a40fa96324ec00b1a", func := "chinoiserie/chinoiserielaw17.FuseApart", spec := "fuseApart", inPlace := ["sync/atomic.LoadInt64", "sync/atomic.CompareAndSwapInt64"], unfollowed := true, recurses := true, plainKeys := false, apart := false, narrowed := true }
def FuseApartUptoSaid : Prop := fuseApartUptoRow.holds Try.pinned (OpenSpec.upto fuseApartSpec)

/-- 'chinoiserielaw17.FuseRests', WHERE WHAT IT READS IS OF BULK AT MOST 1048576: true; the input reads as it did. -/
def fuseRestsUptoRow : OpenClaim := { program := "ytbihefbjojlncaa", sum := "3071b476f1f19bf2ac54f664448bb104e6737f47509d4b9a40fa96324ec00b1a", func := "chinoiserie/chinoiserielaw17.FuseRests", spec := "fuseRests", inPlace := ["sync/atomic.LoadInt64", "sync/atomic.CompareAndSwapInt64"], unfollowed := true, recurses := true, plainKeys := false, apart := false, narrowed := true }
def FuseRestsUptoSaid : Prop := fuseRestsUptoRow.holds Try.pinned (OpenSpec.upto fuseRestsSpec)

/-- 'chinoiserielaw17.FuseKeeps', WHERE WHAT IT READS IS OF BULK AT MOST 1048576: true; the input reads as it did. -/
def fuseKeepsUptoRow : OpenClaim := { program := "ytbihefbjojlncaa", sum := "3071b476f1f19bf2ac54f664448bb104e6737f47509d4b9a40fa96324ec00b1a", func := "chinoiserie/chinoiserielaw17.FuseKeeps", spec := "fuseKeeps", inPlace := ["sync/atomic.LoadInt64", "sync/atomic.CompareAndSwapInt64"], unfollowed := true, recurses := true, plainKeys := false, apart := false, narrowed := true }
def FuseKeepsUptoSaid : Prop := fuseKeepsUptoRow.holds Try.pinned (OpenSpec.upto fuseKeepsSpec)

/-- 'chinoiserielaw17.FuseTicks', WHERE WHAT IT READS IS OF BULK AT MOST 1048576: true; the input reads as it did. -/
def fuseTicksUptoRow : OpenClaim := { program := "ytbihefbjojlncaa", sum := "3071b476f1f19bf2ac54f664448bb104e6737f47509d4b9a40fa96324ec00b1a", func := "chinoiserie/chinoiserielaw17.FuseTicks", spec := "fuseTicks", inPlace := ["sync/atomic.LoadInt64", "sync/atomic.CompareAndSwapInt64"], unfollowed := true, recurses := true, plainKeys := false, apart := false, narrowed := true }
def FuseTicksUptoSaid : Prop := fuseTicksUptoRow.holds Try.pinned (OpenSpec.upto fuseTicksSpec)

/-- 'chinoiserielaw17.FuseKnown', WHERE WHAT IT READS IS OF BULK AT MOST 1048576: true; the input reads as it did. -/
def fuseKnownUptoRow : OpenClaim := { program := "ytbihefbjojlncaa", sum := "3071b476f1f19bf2ac54f664448bb104e6737f47509d4b9a40fa96324ec00b1a", func := "chinoiserie/chinoiserielaw17.FuseKnown", spec := "fuseKnown", inPlace := ["sync/atomic.LoadInt64", "sync/atomic.CompareAndSwapInt64"], unfollowed := true, recurses := true, plainKeys := false, apart := false, narrowed := true }
def FuseKnownUptoSaid : Prop := fuseKnownUptoRow.holds Try.pinned (OpenSpec.upto fuseKnownSpec)

end Rows
end Go.Proofs.Ytbihefbjojlncaa
