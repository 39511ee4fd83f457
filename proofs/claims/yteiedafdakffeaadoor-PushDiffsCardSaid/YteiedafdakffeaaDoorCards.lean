/-
  DERIVED. GIVEN WITH THE SEED: THE CARDS: each row of YteiedafdakffeaaDoorRows.lean that lists a variable, with what it lists TIED to the program's text (the seventh form; the later family's looks); each row that meets fmt, with fmt's text TOLD by the authors' own Lean function (tested against real Go, not proved from fmt's source: count such statements apart). THE CARD IS WHAT COUNTS. Prove the row's statement (the work); the ties are given (YteiedafdakffeaaDoorTie.lean); close each card by the builder's one call (the guide's Derived/Test/ToyasCard.lean, 'card_holds'). Laid BY PROGRAM, IN A SANDBOX (cutbox-door.mjs). By AI agents, Wed Nov 11 2026. No macro, syntax, notation, axiom, sorry.
-/
import Derived.Test.YteiedafdakffeaaDoorRows
import GoSem.ClaimSeven
namespace Go.Proofs.YteiedafdakffeaaDoor
namespace Rows

/-- THE TIED CARD OF 'chinoiserielaw11.PushReads'. -/
def pushReadsCard : Claim7 := { stood := { row := pushReadsRow, standIns := [], harness := (true, "b3d54ceee5ae4f5d2e6f196e2495b5c99c65e3ba35ce82e9712e868091839c9f"), looks := false }, kinds := [], alts := [], laidByText := true, laidKinds := [.data, .pinned], laidTests := true, laidLooks := .later }
def PushReadsCardSaid : Prop := Claim7.holds Tryd.pinned (.plain (OpenSpec.ofChange pushReadsSpec)) pushReadsCard

/-- THE TIED CARD OF 'chinoiserielaw11.PushPatches'. -/
def pushPatchesCard : Claim7 := { stood := { row := pushPatchesRow, standIns := [], harness := (true, "b3d54ceee5ae4f5d2e6f196e2495b5c99c65e3ba35ce82e9712e868091839c9f"), looks := false }, kinds := [], alts := [], laidByText := true, laidKinds := [.data, .pinned], laidTests := true, laidLooks := .later }
def PushPatchesCardSaid : Prop := Claim7.holds Tryd.pinned (.plain (OpenSpec.ofChange pushPatchesSpec)) pushPatchesCard

/-- THE TIED CARD OF 'chinoiserielaw11.PushAgain'. -/
def pushAgainCard : Claim7 := { stood := { row := pushAgainRow, standIns := [], harness := (true, "b3d54ceee5ae4f5d2e6f196e2495b5c99c65e3ba35ce82e9712e868091839c9f"), looks := false }, kinds := [], alts := [], laidByText := true, laidKinds := [.data, .pinned], laidTests := true, laidLooks := .later }
def PushAgainCardSaid : Prop := Claim7.holds Tryd.pinned (.plain (OpenSpec.ofChange pushAgainSpec)) pushAgainCard

/-- THE TIED CARD OF 'chinoiserielaw11.PushCut'. -/
def pushCutCard : Claim7 := { stood := { row := pushCutRow, standIns := [], harness := (true, "b3d54ceee5ae4f5d2e6f196e2495b5c99c65e3ba35ce82e9712e868091839c9f"), looks := false }, kinds := [], alts := [], laidByText := true, laidKinds := [.data, .pinned], laidTests := true, laidLooks := .later }
def PushCutCardSaid : Prop := Claim7.holds Tryd.pinned (.plain (OpenSpec.ofChange pushCutSpec)) pushCutCard

/-- THE TIED CARD OF 'chinoiserielaw11.PushDiffs'. -/
def pushDiffsCard : Claim7 := { stood := { row := pushDiffsRow, standIns := [], harness := (true, "b3d54ceee5ae4f5d2e6f196e2495b5c99c65e3ba35ce82e9712e868091839c9f"), looks := false }, kinds := [], alts := [], laidByText := true, laidKinds := [.data, .pinned], laidTests := true, laidLooks := .later }
def PushDiffsCardSaid : Prop := Claim7.holds Tryd.pinned (.plain (OpenSpec.ofChange pushDiffsSpec)) pushDiffsCard

/-- THE TIED CARD OF 'chinoiserielaw11.PushWrites'. -/
def pushWritesCard : Claim7 := { stood := { row := pushWritesRow, standIns := [], harness := (true, "b3d54ceee5ae4f5d2e6f196e2495b5c99c65e3ba35ce82e9712e868091839c9f"), looks := false }, kinds := [], alts := [], laidByText := true, laidKinds := [.data, .pinned], laidTests := true, laidLooks := .later }
def PushWritesCardSaid : Prop := Claim7.holds Tryd.pinned (.plain (OpenSpec.ofChange pushWritesSpec)) pushWritesCard

/-- THE TIED CARD OF 'chinoiserielaw11.PushBack'. -/
def pushBackCard : Claim7 := { stood := { row := pushBackRow, standIns := [], harness := (true, "b3d54ceee5ae4f5d2e6f196e2495b5c99c65e3ba35ce82e9712e868091839c9f"), looks := false }, kinds := [], alts := [], laidByText := true, laidKinds := [.data, .pinned], laidTests := true, laidLooks := .later }
def PushBackCardSaid : Prop := Claim7.holds Tryd.pinned (.plain (OpenSpec.ofChange pushBackSpec)) pushBackCard

/-- THE TIED CARD OF 'chinoiserielaw11.PushKnown'. -/
def pushKnownCard : Claim7 := { stood := { row := pushKnownRow, standIns := [], harness := (true, "b3d54ceee5ae4f5d2e6f196e2495b5c99c65e3ba35ce82e9712e868091839c9f"), looks := false }, kinds := [], alts := [], laidByText := true, laidKinds := [.data, .pinned], laidTests := true, laidLooks := .later }
def PushKnownCardSaid : Prop := Claim7.holds Tryd.pinned (.plain (OpenSpec.ofChange pushKnownSpec)) pushKnownCard

/-- THE SECOND FORM's CARD OF 'chinoiserielaw11.PushReads'. -/
def pushReadsUptoCard : Claim7 := { stood := { row := pushReadsUptoRow, standIns := [], harness := (true, "b3d54ceee5ae4f5d2e6f196e2495b5c99c65e3ba35ce82e9712e868091839c9f"), looks := false }, kinds := [], alts := [], laidByText := true, laidKinds := [.data, .pinned], laidTests := true, laidLooks := .later }
def PushReadsUptoCardSaid : Prop := Claim7.holds Tryd.pinned (.plain (OpenSpec.upto pushReadsSpec)) pushReadsUptoCard

/-- THE SECOND FORM's CARD OF 'chinoiserielaw11.PushPatches'. -/
def pushPatchesUptoCard : Claim7 := { stood := { row := pushPatchesUptoRow, standIns := [], harness := (true, "b3d54ceee5ae4f5d2e6f196e2495b5c99c65e3ba35ce82e9712e868091839c9f"), looks := false }, kinds := [], alts := [], laidByText := true, laidKinds := [.data, .pinned], laidTests := true, laidLooks := .later }
def PushPatchesUptoCardSaid : Prop := Claim7.holds Tryd.pinned (.plain (OpenSpec.upto pushPatchesSpec)) pushPatchesUptoCard

/-- THE SECOND FORM's CARD OF 'chinoiserielaw11.PushAgain'. -/
def pushAgainUptoCard : Claim7 := { stood := { row := pushAgainUptoRow, standIns := [], harness := (true, "b3d54ceee5ae4f5d2e6f196e2495b5c99c65e3ba35ce82e9712e868091839c9f"), looks := false }, kinds := [], alts := [], laidByText := true, laidKinds := [.data, .pinned], laidTests := true, laidLooks := .later }
def PushAgainUptoCardSaid : Prop := Claim7.holds Tryd.pinned (.plain (OpenSpec.upto pushAgainSpec)) pushAgainUptoCard

/-- THE SECOND FORM's CARD OF 'chinoiserielaw11.PushCut'. -/
def pushCutUptoCard : Claim7 := { stood := { row := pushCutUptoRow, standIns := [], harness := (true, "b3d54ceee5ae4f5d2e6f196e2495b5c99c65e3ba35ce82e9712e868091839c9f"), looks := false }, kinds := [], alts := [], laidByText := true, laidKinds := [.data, .pinned], laidTests := true, laidLooks := .later }
def PushCutUptoCardSaid : Prop := Claim7.holds Tryd.pinned (.plain (OpenSpec.upto pushCutSpec)) pushCutUptoCard

/-- THE SECOND FORM's CARD OF 'chinoiserielaw11.PushDiffs'. -/
def pushDiffsUptoCard : Claim7 := { stood := { row := pushDiffsUptoRow, standIns := [], harness := (true, "b3d54ceee5ae4f5d2e6f196e2495b5c99c65e3ba35ce82e9712e868091839c9f"), looks := false }, kinds := [], alts := [], laidByText := true, laidKinds := [.data, .pinned], laidTests := true, laidLooks := .later }
def PushDiffsUptoCardSaid : Prop := Claim7.holds Tryd.pinned (.plain (OpenSpec.upto pushDiffsSpec)) pushDiffsUptoCard

/-- THE SECOND FORM's CARD OF 'chinoiserielaw11.PushWrites'. -/
def pushWritesUptoCard : Claim7 := { stood := { row := pushWritesUptoRow, standIns := [], harness := (true, "b3d54ceee5ae4f5d2e6f196e2495b5c99c65e3ba35ce82e9712e868091839c9f"), looks := false }, kinds := [], alts := [], laidByText := true, laidKinds := [.data, .pinned], laidTests := true, laidLooks := .later }
def PushWritesUptoCardSaid : Prop := Claim7.holds Tryd.pinned (.plain (OpenSpec.upto pushWritesSpec)) pushWritesUptoCard

/-- THE SECOND FORM's CARD OF 'chinoiserielaw11.PushBack'. -/
def pushBackUptoCard : Claim7 := { stood := { row := pushBackUptoRow, standIns := [], harness := (true, "b3d54ceee5ae4f5d2e6f196e2495b5c99c65e3ba35ce82e9712e868091839c9f"), looks := false }, kinds := [], alts := [], laidByText := true, laidKinds := [.data, .pinned], laidTests := true, laidLooks := .later }
def PushBackUptoCardSaid : Prop := Claim7.holds Tryd.pinned (.plain (OpenSpec.upto pushBackSpec)) pushBackUptoCard

/-- THE SECOND FORM's CARD OF 'chinoiserielaw11.PushKnown'. -/
def pushKnownUptoCard : Claim7 := { stood := { row := pushKnownUptoRow, standIns := [], harness := (true, "b3d54ceee5ae4f5d2e6f196e2495b5c99c65e3ba35ce82e9712e868091839c9f"), looks := false }, kinds := [], alts := [], laidByText := true, laidKinds := [.data, .pinned], laidTests := true, laidLooks := .later }
def PushKnownUptoCardSaid : Prop := Claim7.holds Tryd.pinned (.plain (OpenSpec.upto pushKnownSpec)) pushKnownUptoCard
end Rows
end Go.Proofs.YteiedafdakffeaaDoor
