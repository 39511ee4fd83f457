/-
  NARROWER THAN 'FOR EVERY INPUT', by the rows' own cells (each row's printed sentence says how): OrderPartial: laid · OrderCovers: laid · OrderLine: laid · OrderWays: laid · OrderSaid: laid.
  DERIVED. THE GIVEN ROWS OF THIS SEAT. 5 by the template 'for every input the law returns true; each argument reads behind the call as it read before'; 0 by the template 'total and deterministic' (their statements: YtkonpkejddcegaaDoorTotals.lean).
  GIVEN WITH THE SEED: the statements are not yours to turn. If you find one false, say at which input.
  Laid BY PROGRAM, IN A SANDBOX (cutbox-rows.mjs): the forced cells as the released guide's own fill.sh prints them over the translation 1740498339524b36… (all of the seat's roots in one cut). By AI agents, Wed Nov 11 2026. No macro, syntax, notation, axiom, sorry.
-/
import Derived.Test.YtkonpkejddcegaaDoorChecked
import GoSem.Claim
import GoSem.ClaimJoined
import GoSem.ClaimMapViews
import Derived.JoinedTies
import Derived.KernelRfl
namespace Go.Proofs.YtkonpkejddcegaaDoor
/- THE CELL 'sum', in the pinned program and in every row, IS THE sha256 OF THE DUMP (.gsa) THAT YtkonpkejddcegaaDoorProg.lean LOADS. Nothing in Lean hashes anything: it is a label: what it is worth is what the hold of that sum in a sandbox is worth. -/
noncomputable def Tryd.pinned : Pinned := { name := "ytkonpkejddcegaadoor", sum := "1740498339524b36ae0a25ced47172064570b8ee941eb8e92f440dbb8d85d88c", checked := Tryd.checked }
namespace Rows
def none {H : Type} : Left H := { results := [], args := [] }

/- WHAT THE LISTED PACKAGE-LEVEL VARIABLES READ AS WHEN THE CALL BEGINS. Each datum BY PROGRAM (the guide's laid-datum.mjs) off the statement by which the dump's own 'gosem.cut.vars' lays the variable. In a bare row this is a premise. The card (YtkonpkejddcegaaDoorCards.lean) ties it to the program's text. -/
def laid_math_bits_deBruijn32tab {H : Type} : DataW H := .agg [.lit (.int .u8 0), .lit (.int .u8 1), .lit (.int .u8 28), .lit (.int .u8 2), .lit (.int .u8 29), .lit (.int .u8 14), .lit (.int .u8 24), .lit (.int .u8 3), .lit (.int .u8 30), .lit (.int .u8 22), .lit (.int .u8 20), .lit (.int .u8 15), .lit (.int .u8 25), .lit (.int .u8 17), .lit (.int .u8 4), .lit (.int .u8 8), .lit (.int .u8 31), .lit (.int .u8 27), .lit (.int .u8 13), .lit (.int .u8 23), .lit (.int .u8 21), .lit (.int .u8 19), .lit (.int .u8 16), .lit (.int .u8 7), .lit (.int .u8 26), .lit (.int .u8 12), .lit (.int .u8 18), .lit (.int .u8 6), .lit (.int .u8 11), .lit (.int .u8 5), .lit (.int .u8 10), .lit (.int .u8 9)]

/-- 'chinoiserielaw02.OrderPartial': WHATEVER THE INPUT: true; the input reads as it did. -/
def orderPartialSpec : ChangeSpec := { name := "orderPartial", fn := fun _ => fun
  | [d1, d2] => { results := [.lit (.bool true)], args := [d1, d2] }
  | _ => none }
def orderPartialRow : OpenClaim := { program := "ytkonpkejddcegaadoor", sum := "1740498339524b36ae0a25ced47172064570b8ee941eb8e92f440dbb8d85d88c", func := "chinoiserie/chinoiserielaw02.OrderPartial", spec := "orderPartial", unfollowed := true, recurses := true, named := ["math/bits.deBruijn32tab"], apart := false, laid := [("math/bits.deBruijn32tab", laid_math_bits_deBruijn32tab)] }
def OrderPartialSaid : Prop := orderPartialRow.holds Tryd.pinned (OpenSpec.ofChange orderPartialSpec)

/-- ITS FALSE NEIGHBOUR: 'it returns false'. Refute it at one input. -/
def orderPartialWrong : ChangeSpec := { name := "orderPartial", fn := fun _ => fun
  | [d1, d2] => { results := [.lit (.bool false)], args := [d1, d2] }
  | _ => none }
def OrderPartialWrongFalsely : Prop := orderPartialRow.holds Tryd.pinned (OpenSpec.ofChange orderPartialWrong)

/-- 'chinoiserielaw02.OrderCovers': WHATEVER THE INPUT: true; the input reads as it did. -/
def orderCoversSpec : ChangeSpec := { name := "orderCovers", fn := fun _ => fun
  | [d1, d2] => { results := [.lit (.bool true)], args := [d1, d2] }
  | _ => none }
def orderCoversRow : OpenClaim := { program := "ytkonpkejddcegaadoor", sum := "1740498339524b36ae0a25ced47172064570b8ee941eb8e92f440dbb8d85d88c", func := "chinoiserie/chinoiserielaw02.OrderCovers", spec := "orderCovers", unfollowed := true, recurses := true, named := ["math/bits.deBruijn32tab"], apart := false, laid := [("math/bits.deBruijn32tab", laid_math_bits_deBruijn32tab)] }
def OrderCoversSaid : Prop := orderCoversRow.holds Tryd.pinned (OpenSpec.ofChange orderCoversSpec)

/-- ITS FALSE NEIGHBOUR: 'it returns false'. Refute it at one input. -/
def orderCoversWrong : ChangeSpec := { name := "orderCovers", fn := fun _ => fun
  | [d1, d2] => { results := [.lit (.bool false)], args := [d1, d2] }
  | _ => none }
def OrderCoversWrongFalsely : Prop := orderCoversRow.holds Tryd.pinned (OpenSpec.ofChange orderCoversWrong)

/-- 'chinoiserielaw02.OrderLine': WHATEVER THE INPUT: true; the input reads as it did. -/
def orderLineSpec : ChangeSpec := { name := "orderLine", fn := fun _ => fun
  | [d1, d2] => { results := [.lit (.bool true)], args := [d1, d2] }
  | _ => none }
def orderLineRow : OpenClaim := { program := "ytkonpkejddcegaadoor", sum := "1740498339524b36ae0a25ced47172064570b8ee941eb8e92f440dbb8d85d88c", func := "chinoiserie/chinoiserielaw02.OrderLine", spec := "orderLine", unfollowed := true, recurses := true, named := ["math/bits.deBruijn32tab"], apart := false, laid := [("math/bits.deBruijn32tab", laid_math_bits_deBruijn32tab)] }
def OrderLineSaid : Prop := orderLineRow.holds Tryd.pinned (OpenSpec.ofChange orderLineSpec)

/-- ITS FALSE NEIGHBOUR: 'it returns false'. Refute it at one input. -/
def orderLineWrong : ChangeSpec := { name := "orderLine", fn := fun _ => fun
  | [d1, d2] => { results := [.lit (.bool false)], args := [d1, d2] }
  | _ => none }
def OrderLineWrongFalsely : Prop := orderLineRow.holds Tryd.pinned (OpenSpec.ofChange orderLineWrong)

/-- 'chinoiserielaw02.OrderWays': WHATEVER THE INPUT: true; the input reads as it did. -/
def orderWaysSpec : ChangeSpec := { name := "orderWays", fn := fun _ => fun
  | [d1, d2] => { results := [.lit (.bool true)], args := [d1, d2] }
  | _ => none }
def orderWaysRow : OpenClaim := { program := "ytkonpkejddcegaadoor", sum := "1740498339524b36ae0a25ced47172064570b8ee941eb8e92f440dbb8d85d88c", func := "chinoiserie/chinoiserielaw02.OrderWays", spec := "orderWays", unfollowed := true, recurses := true, named := ["math/bits.deBruijn32tab"], apart := false, laid := [("math/bits.deBruijn32tab", laid_math_bits_deBruijn32tab)] }
def OrderWaysSaid : Prop := orderWaysRow.holds Tryd.pinned (OpenSpec.ofChange orderWaysSpec)

/-- ITS FALSE NEIGHBOUR: 'it returns false'. Refute it at one input. -/
def orderWaysWrong : ChangeSpec := { name := "orderWays", fn := fun _ => fun
  | [d1, d2] => { results := [.lit (.bool false)], args := [d1, d2] }
  | _ => none }
def OrderWaysWrongFalsely : Prop := orderWaysRow.holds Tryd.pinned (OpenSpec.ofChange orderWaysWrong)

/-- 'chinoiserielaw02.OrderSaid': WHATEVER THE INPUT: true; the input reads as it did. -/
def orderSaidSpec : ChangeSpec := { name := "orderSaid", fn := fun _ => fun
  | [d1, d2] => { results := [.lit (.bool true)], args := [d1, d2] }
  | _ => none }
def orderSaidRow : OpenClaim := { program := "ytkonpkejddcegaadoor", sum := "1740498339524b36ae0a25ced47172064570b8ee941eb8e92f440dbb8d85d88c", func := "chinoiserie/chinoiserielaw02.OrderSaid", spec := "orderSaid", unfollowed := true, recurses := true, named := ["math/bits.deBruijn32tab"], apart := false, laid := [("math/bits.deBruijn32tab", laid_math_bits_deBruijn32tab)] }
def OrderSaidSaid : Prop := orderSaidRow.holds Tryd.pinned (OpenSpec.ofChange orderSaidSpec)

/-- ITS FALSE NEIGHBOUR: 'it returns false'. Refute it at one input. -/
def orderSaidWrong : ChangeSpec := { name := "orderSaid", fn := fun _ => fun
  | [d1, d2] => { results := [.lit (.bool false)], args := [d1, d2] }
  | _ => none }
def OrderSaidWrongFalsely : Prop := orderSaidRow.holds Tryd.pinned (OpenSpec.ofChange orderSaidWrong)

/- THE SECOND FORM. 'bulk': how many values and letters a reading holds, each counted each time it is reached (what is shared counts as often as it is met; a slice's spare places count too). A statement '..UptoSaid' is the law's where the arguments, and the package variables that the reading takes, are together of bulk at most 1048576: NARROWER than '..Said'. Prove '..Said' where nothing that the law and all that it calls make is longer than what came in: it says more and counts as full. Else prove '..UptoSaid'. A law counts once. -/
mutual
def uptoBulk {H : Type} : DataW H → Nat
  | .lit (.string bytes) => bytes.length + 1
  | .lit _ => 1
  | .nil => 1
  | .ptr d => uptoBulk d + 1
  | .slice elems spare => uptoBulkAll elems + uptoBulkAll spare + 1
  | .agg parts => uptoBulkAll parts + 1
  | .iface _ d => uptoBulk d + 1
  | .map entries => uptoBulkEntries entries + 1
  | .held _ => 1
def uptoBulkAll {H : Type} : List (DataW H) → Nat
  | [] => 0
  | d :: r => uptoBulk d + uptoBulkAll r
def uptoBulkEntries {H : Type} : List (Lit × DataW H) → Nat
  | [] => 0
  | x :: r => uptoBulkEntry x + uptoBulkEntries r
def uptoBulkEntry {H : Type} : Lit × DataW H → Nat
  | (.string bytes, d) => bytes.length + uptoBulk d + 1
  | (_, d) => uptoBulk d + 1
 end
def uptoSmall : (H : Type) → List (DataW H) → Bool := fun _ ds => decide (uptoBulkAll ds ≤ 1048576)
def OpenSpec.upto (s : _root_.Go.ChangeSpec) : _root_.Go.OpenSpec := { _root_.Go.OpenSpec.ofChange s with cond := some uptoSmall }

/-- 'chinoiserielaw02.OrderPartial', WHERE WHAT IT READS IS OF BULK AT MOST 1048576: true; the input reads as it did. -/
def orderPartialUptoRow : OpenClaim := { program := "ytkonpkejddcegaadoor", sum := "1740498339524b36ae0a25ced47172064570b8ee941eb8e92f440dbb8d85d88c", func := "chinoiserie/chinoiserielaw02.OrderPartial", spec := "orderPartial", unfollowed := true, recurses := true, named := ["math/bits.deBruijn32tab"], apart := false, laid := [("math/bits.deBruijn32tab", laid_math_bits_deBruijn32tab)], narrowed := true }
def OrderPartialUptoSaid : Prop := orderPartialUptoRow.holds Tryd.pinned (OpenSpec.upto orderPartialSpec)

/-- 'chinoiserielaw02.OrderCovers', WHERE WHAT IT READS IS OF BULK AT MOST 1048576: true; the input reads as it did. -/
def orderCoversUptoRow : OpenClaim := { program := "ytkonpkejddcegaadoor", sum := "1740498339524b36ae0a25ced47172064570b8ee941eb8e92f440dbb8d85d88c", func := "chinoiserie/chinoiserielaw02.OrderCovers", spec := "orderCovers", unfollowed := true, recurses := true, named := ["math/bits.deBruijn32tab"], apart := false, laid := [("math/bits.deBruijn32tab", laid_math_bits_deBruijn32tab)], narrowed := true }
def OrderCoversUptoSaid : Prop := orderCoversUptoRow.holds Tryd.pinned (OpenSpec.upto orderCoversSpec)

/-- 'chinoiserielaw02.OrderLine', WHERE WHAT IT READS IS OF BULK AT MOST 1048576: true; the input reads as it did. -/
def orderLineUptoRow : OpenClaim := { program := "ytkonpkejddcegaadoor", sum := "1740498339524b36ae0a25ced47172064570b8ee941eb8e92f440dbb8d85d88c", func := "chinoiserie/chinoiserielaw02.OrderLine", spec := "orderLine", unfollowed := true, recurses := true, named := ["math/bits.deBruijn32tab"], apart := false, laid := [("math/bits.deBruijn32tab", laid_math_bits_deBruijn32tab)], narrowed := true }
def OrderLineUptoSaid : Prop := orderLineUptoRow.holds Tryd.pinned (OpenSpec.upto orderLineSpec)

/-- 'chinoiserielaw02.OrderWays', WHERE WHAT IT READS IS OF BULK AT MOST 1048576: true; the input reads as it did. -/
def orderWaysUptoRow : OpenClaim := { program := "ytkonpkejddcegaadoor", sum := "1740498339524b36ae0a25ced47172064570b8ee941eb8e92f440dbb8d85d88c", func := "chinoiserie/chinoiserielaw02.OrderWays", spec := "orderWays", unfollowed := true, recurses := true, named := ["math/bits.deBruijn32tab"], apart := false, laid := [("math/bits.deBruijn32tab", laid_math_bits_deBruijn32tab)], narrowed := true }
def OrderWaysUptoSaid : Prop := orderWaysUptoRow.holds Tryd.pinned (OpenSpec.upto orderWaysSpec)

/-- 'chinoiserielaw02.OrderSaid', WHERE WHAT IT READS IS OF BULK AT MOST 1048576: true; the input reads as it did. -/
def orderSaidUptoRow : OpenClaim := { program := "ytkonpkejddcegaadoor", sum := "1740498339524b36ae0a25ced47172064570b8ee941eb8e92f440dbb8d85d88c", func := "chinoiserie/chinoiserielaw02.OrderSaid", spec := "orderSaid", unfollowed := true, recurses := true, named := ["math/bits.deBruijn32tab"], apart := false, laid := [("math/bits.deBruijn32tab", laid_math_bits_deBruijn32tab)], narrowed := true }
def OrderSaidUptoSaid : Prop := orderSaidUptoRow.holds Tryd.pinned (OpenSpec.upto orderSaidSpec)

end Rows
end Go.Proofs.YtkonpkejddcegaaDoor
