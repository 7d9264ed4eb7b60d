/-
  DERIVED. GIVEN WITH THE SEED: THE CARDS: each row of YtepmljcapobodaaDoorRows.lean that lists a variable, with what it lists TIED to the program's text (the seventh form; the later family's looks); each row that meets fmt, with fmt's text TOLD by the authors' own Lean function (tested against real Go, not proved from fmt's source: count such statements apart). THE CARD IS WHAT COUNTS. Prove the row's statement (the work); the ties are given (YtepmljcapobodaaDoorTie.lean); close each card by the builder's one call (the guide's Derived/Test/ToyasCard.lean, 'card_holds'). Laid BY PROGRAM, IN A SANDBOX (cutbox-door.mjs). By AI agents, Wed Nov 11 2026. No macro, syntax, notation, axiom, sorry.
-/
import Derived.Test.YtepmljcapobodaaDoorRows
import GoSem.ClaimSeven
namespace Go.Proofs.YtepmljcapobodaaDoor
namespace Rows

/-- THE TIED CARD OF 'priorylaw09.PallocRefs'. -/
def pallocRefsCard : Claim7 := { stood := { row := pallocRefsRow, standIns := [], harness := (true, "6f766e467f1f76f857c29113ad61a388d69ae06b2677fa7c12f1fa228f819649"), looks := false }, kinds := [], alts := [], laidByText := true, laidKinds := [.data], laidTests := true, laidLooks := .later }
def PallocRefsCardSaid : Prop := Claim7.holds Tryd.pinned (.plain (OpenSpec.ofChange pallocRefsSpec)) pallocRefsCard

/-- THE TIED CARD OF 'priorylaw09.PallocLeast'. -/
def pallocLeastCard : Claim7 := { stood := { row := pallocLeastRow, standIns := [], harness := (true, "6f766e467f1f76f857c29113ad61a388d69ae06b2677fa7c12f1fa228f819649"), looks := false }, kinds := [], alts := [], laidByText := true, laidKinds := [.data], laidTests := true, laidLooks := .later }
def PallocLeastCardSaid : Prop := Claim7.holds Tryd.pinned (.plain (OpenSpec.ofChange pallocLeastSpec)) pallocLeastCard

/-- THE TIED CARD OF 'priorylaw09.PallocNone'. -/
def pallocNoneCard : Claim7 := { stood := { row := pallocNoneRow, standIns := [], harness := (true, "6f766e467f1f76f857c29113ad61a388d69ae06b2677fa7c12f1fa228f819649"), looks := false }, kinds := [], alts := [], laidByText := true, laidKinds := [.data], laidTests := true, laidLooks := .later }
def PallocNoneCardSaid : Prop := Claim7.holds Tryd.pinned (.plain (OpenSpec.ofChange pallocNoneSpec)) pallocNoneCard

/-- THE TIED CARD OF 'priorylaw09.PallocApart'. -/
def pallocApartCard : Claim7 := { stood := { row := pallocApartRow, standIns := [], harness := (true, "6f766e467f1f76f857c29113ad61a388d69ae06b2677fa7c12f1fa228f819649"), looks := false }, kinds := [], alts := [], laidByText := true, laidKinds := [.data], laidTests := true, laidLooks := .later }
def PallocApartCardSaid : Prop := Claim7.holds Tryd.pinned (.plain (OpenSpec.ofChange pallocApartSpec)) pallocApartCard

/-- THE TIED CARD OF 'priorylaw09.PallocTwo'. -/
def pallocTwoCard : Claim7 := { stood := { row := pallocTwoRow, standIns := [], harness := (true, "6f766e467f1f76f857c29113ad61a388d69ae06b2677fa7c12f1fa228f819649"), looks := false }, kinds := [], alts := [], laidByText := true, laidKinds := [.data], laidTests := true, laidLooks := .later }
def PallocTwoCardSaid : Prop := Claim7.holds Tryd.pinned (.plain (OpenSpec.ofChange pallocTwoSpec)) pallocTwoCard

/-- THE TIED CARD OF 'priorylaw09.PallocPlays'. -/
def pallocPlaysCard : Claim7 := { stood := { row := pallocPlaysRow, standIns := [], harness := (true, "6f766e467f1f76f857c29113ad61a388d69ae06b2677fa7c12f1fa228f819649"), looks := false }, kinds := [], alts := [], laidByText := true, laidKinds := [.data], laidTests := true, laidLooks := .later }
def PallocPlaysCardSaid : Prop := Claim7.holds Tryd.pinned (.plain (OpenSpec.ofChange pallocPlaysSpec)) pallocPlaysCard

/-- THE TIED CARD OF 'priorylaw09.PallocWhole'. -/
def pallocWholeCard : Claim7 := { stood := { row := pallocWholeRow, standIns := [], harness := (true, "6f766e467f1f76f857c29113ad61a388d69ae06b2677fa7c12f1fa228f819649"), looks := false }, kinds := [], alts := [], laidByText := true, laidKinds := [.data], laidTests := true, laidLooks := .later }
def PallocWholeCardSaid : Prop := Claim7.holds Tryd.pinned (.plain (OpenSpec.ofChange pallocWholeSpec)) pallocWholeCard

/-- THE TIED CARD OF 'priorylaw10.PtableFull'. -/
def ptableFullCard : Claim7 := { stood := { row := ptableFullRow, standIns := [], harness := (true, "6f766e467f1f76f857c29113ad61a388d69ae06b2677fa7c12f1fa228f819649"), looks := false }, kinds := [], alts := [], laidByText := true, laidKinds := [.data], laidTests := true, laidLooks := .later }
def PtableFullCardSaid : Prop := Claim7.holds Tryd.pinned (.plain (OpenSpec.ofChange ptableFullSpec)) ptableFullCard

/-- THE TIED CARD OF 'priorylaw10.PtableBack'. -/
def ptableBackCard : Claim7 := { stood := { row := ptableBackRow, standIns := [], harness := (true, "6f766e467f1f76f857c29113ad61a388d69ae06b2677fa7c12f1fa228f819649"), looks := false }, kinds := [], alts := [], laidByText := true, laidKinds := [.data], laidTests := true, laidLooks := .later }
def PtableBackCardSaid : Prop := Claim7.holds Tryd.pinned (.plain (OpenSpec.ofChange ptableBackSpec)) ptableBackCard

/-- THE TIED CARD OF 'priorylaw10.PtablePlays'. -/
def ptablePlaysCard : Claim7 := { stood := { row := ptablePlaysRow, standIns := [], harness := (true, "6f766e467f1f76f857c29113ad61a388d69ae06b2677fa7c12f1fa228f819649"), looks := false }, kinds := [], alts := [], laidByText := true, laidKinds := [.data], laidTests := true, laidLooks := .later }
def PtablePlaysCardSaid : Prop := Claim7.holds Tryd.pinned (.plain (OpenSpec.ofChange ptablePlaysSpec)) ptablePlaysCard

/-- THE TIED CARD OF 'priorylaw10.PtableNone'. -/
def ptableNoneCard : Claim7 := { stood := { row := ptableNoneRow, standIns := [], harness := (true, "6f766e467f1f76f857c29113ad61a388d69ae06b2677fa7c12f1fa228f819649"), looks := false }, kinds := [], alts := [], laidByText := true, laidKinds := [.data], laidTests := true, laidLooks := .later }
def PtableNoneCardSaid : Prop := Claim7.holds Tryd.pinned (.plain (OpenSpec.ofChange ptableNoneSpec)) ptableNoneCard

/-- THE TIED CARD OF 'priorylaw10.PtableTwo'. -/
def ptableTwoCard : Claim7 := { stood := { row := ptableTwoRow, standIns := [], harness := (true, "6f766e467f1f76f857c29113ad61a388d69ae06b2677fa7c12f1fa228f819649"), looks := false }, kinds := [], alts := [], laidByText := true, laidKinds := [.data], laidTests := true, laidLooks := .later }
def PtableTwoCardSaid : Prop := Claim7.holds Tryd.pinned (.plain (OpenSpec.ofChange ptableTwoSpec)) ptableTwoCard

/-- THE TIED CARD OF 'priorylaw10.PtableWalk'. -/
def ptableWalkCard : Claim7 := { stood := { row := ptableWalkRow, standIns := [], harness := (true, "6f766e467f1f76f857c29113ad61a388d69ae06b2677fa7c12f1fa228f819649"), looks := false }, kinds := [], alts := [], laidByText := true, laidKinds := [.data], laidTests := true, laidLooks := .later }
def PtableWalkCardSaid : Prop := Claim7.holds Tryd.pinned (.plain (OpenSpec.ofChange ptableWalkSpec)) ptableWalkCard

/-- THE SECOND FORM's CARD OF 'priorylaw09.PallocRefs'. -/
def pallocRefsUptoCard : Claim7 := { stood := { row := pallocRefsUptoRow, standIns := [], harness := (true, "6f766e467f1f76f857c29113ad61a388d69ae06b2677fa7c12f1fa228f819649"), looks := false }, kinds := [], alts := [], laidByText := true, laidKinds := [.data], laidTests := true, laidLooks := .later }
def PallocRefsUptoCardSaid : Prop := Claim7.holds Tryd.pinned (.plain (OpenSpec.upto pallocRefsSpec)) pallocRefsUptoCard

/-- THE SECOND FORM's CARD OF 'priorylaw09.PallocLeast'. -/
def pallocLeastUptoCard : Claim7 := { stood := { row := pallocLeastUptoRow, standIns := [], harness := (true, "6f766e467f1f76f857c29113ad61a388d69ae06b2677fa7c12f1fa228f819649"), looks := false }, kinds := [], alts := [], laidByText := true, laidKinds := [.data], laidTests := true, laidLooks := .later }
def PallocLeastUptoCardSaid : Prop := Claim7.holds Tryd.pinned (.plain (OpenSpec.upto pallocLeastSpec)) pallocLeastUptoCard

/-- THE SECOND FORM's CARD OF 'priorylaw09.PallocNone'. -/
def pallocNoneUptoCard : Claim7 := { stood := { row := pallocNoneUptoRow, standIns := [], harness := (true, "6f766e467f1f76f857c29113ad61a388d69ae06b2677fa7c12f1fa228f819649"), looks := false }, kinds := [], alts := [], laidByText := true, laidKinds := [.data], laidTests := true, laidLooks := .later }
def PallocNoneUptoCardSaid : Prop := Claim7.holds Tryd.pinned (.plain (OpenSpec.upto pallocNoneSpec)) pallocNoneUptoCard

/-- THE SECOND FORM's CARD OF 'priorylaw09.PallocApart'. -/
def pallocApartUptoCard : Claim7 := { stood := { row := pallocApartUptoRow, standIns := [], harness := (true, "6f766e467f1f76f857c29113ad61a388d69ae06b2677fa7c12f1fa228f819649"), looks := false }, kinds := [], alts := [], laidByText := true, laidKinds := [.data], laidTests := true, laidLooks := .later }
def PallocApartUptoCardSaid : Prop := Claim7.holds Tryd.pinned (.plain (OpenSpec.upto pallocApartSpec)) pallocApartUptoCard

/-- THE SECOND FORM's CARD OF 'priorylaw09.PallocTwo'. -/
def pallocTwoUptoCard : Claim7 := { stood := { row := pallocTwoUptoRow, standIns := [], harness := (true, "6f766e467f1f76f857c29113ad61a388d69ae06b2677fa7c12f1fa228f819649"), looks := false }, kinds := [], alts := [], laidByText := true, laidKinds := [.data], laidTests := true, laidLooks := .later }
def PallocTwoUptoCardSaid : Prop := Claim7.holds Tryd.pinned (.plain (OpenSpec.upto pallocTwoSpec)) pallocTwoUptoCard

/-- THE SECOND FORM's CARD OF 'priorylaw09.PallocPlays'. -/
def pallocPlaysUptoCard : Claim7 := { stood := { row := pallocPlaysUptoRow, standIns := [], harness := (true, "6f766e467f1f76f857c29113ad61a388d69ae06b2677fa7c12f1fa228f819649"), looks := false }, kinds := [], alts := [], laidByText := true, laidKinds := [.data], laidTests := true, laidLooks := .later }
def PallocPlaysUptoCardSaid : Prop := Claim7.holds Tryd.pinned (.plain (OpenSpec.upto pallocPlaysSpec)) pallocPlaysUptoCard

/-- THE SECOND FORM's CARD OF 'priorylaw09.PallocWhole'. -/
def pallocWholeUptoCard : Claim7 := { stood := { row := pallocWholeUptoRow, standIns := [], harness := (true, "6f766e467f1f76f857c29113ad61a388d69ae06b2677fa7c12f1fa228f819649"), looks := false }, kinds := [], alts := [], laidByText := true, laidKinds := [.data], laidTests := true, laidLooks := .later }
def PallocWholeUptoCardSaid : Prop := Claim7.holds Tryd.pinned (.plain (OpenSpec.upto pallocWholeSpec)) pallocWholeUptoCard

/-- THE SECOND FORM's CARD OF 'priorylaw10.PtableFull'. -/
def ptableFullUptoCard : Claim7 := { stood := { row := ptableFullUptoRow, standIns := [], harness := (true, "6f766e467f1f76f857c29113ad61a388d69ae06b2677fa7c12f1fa228f819649"), looks := false }, kinds := [], alts := [], laidByText := true, laidKinds := [.data], laidTests := true, laidLooks := .later }
def PtableFullUptoCardSaid : Prop := Claim7.holds Tryd.pinned (.plain (OpenSpec.upto ptableFullSpec)) ptableFullUptoCard

/-- THE SECOND FORM's CARD OF 'priorylaw10.PtableBack'. -/
def ptableBackUptoCard : Claim7 := { stood := { row := ptableBackUptoRow, standIns := [], harness := (true, "6f766e467f1f76f857c29113ad61a388d69ae06b2677fa7c12f1fa228f819649"), looks := false }, kinds := [], alts := [], laidByText := true, laidKinds := [.data], laidTests := true, laidLooks := .later }
def PtableBackUptoCardSaid : Prop := Claim7.holds Tryd.pinned (.plain (OpenSpec.upto ptableBackSpec)) ptableBackUptoCard

/-- THE SECOND FORM's CARD OF 'priorylaw10.PtablePlays'. -/
def ptablePlaysUptoCard : Claim7 := { stood := { row := ptablePlaysUptoRow, standIns := [], harness := (true, "6f766e467f1f76f857c29113ad61a388d69ae06b2677fa7c12f1fa228f819649"), looks := false }, kinds := [], alts := [], laidByText := true, laidKinds := [.data], laidTests := true, laidLooks := .later }
def PtablePlaysUptoCardSaid : Prop := Claim7.holds Tryd.pinned (.plain (OpenSpec.upto ptablePlaysSpec)) ptablePlaysUptoCard

/-- THE SECOND FORM's CARD OF 'priorylaw10.PtableNone'. -/
def ptableNoneUptoCard : Claim7 := { stood := { row := ptableNoneUptoRow, standIns := [], harness := (true, "6f766e467f1f76f857c29113ad61a388d69ae06b2677fa7c12f1fa228f819649"), looks := false }, kinds := [], alts := [], laidByText := true, laidKinds := [.data], laidTests := true, laidLooks := .later }
def PtableNoneUptoCardSaid : Prop := Claim7.holds Tryd.pinned (.plain (OpenSpec.upto ptableNoneSpec)) ptableNoneUptoCard

/-- THE SECOND FORM's CARD OF 'priorylaw10.PtableTwo'. -/
def ptableTwoUptoCard : Claim7 := { stood := { row := ptableTwoUptoRow, standIns := [], harness := (true, "6f766e467f1f76f857c29113ad61a388d69ae06b2677fa7c12f1fa228f819649"), looks := false }, kinds := [], alts := [], laidByText := true, laidKinds := [.data], laidTests := true, laidLooks := .later }
def PtableTwoUptoCardSaid : Prop := Claim7.holds Tryd.pinned (.plain (OpenSpec.upto ptableTwoSpec)) ptableTwoUptoCard

/-- THE SECOND FORM's CARD OF 'priorylaw10.PtableWalk'. -/
def ptableWalkUptoCard : Claim7 := { stood := { row := ptableWalkUptoRow, standIns := [], harness := (true, "6f766e467f1f76f857c29113ad61a388d69ae06b2677fa7c12f1fa228f819649"), looks := false }, kinds := [], alts := [], laidByText := true, laidKinds := [.data], laidTests := true, laidLooks := .later }
def PtableWalkUptoCardSaid : Prop := Claim7.holds Tryd.pinned (.plain (OpenSpec.upto ptableWalkSpec)) ptableWalkUptoCard
end Rows
end Go.Proofs.YtepmljcapobodaaDoor
