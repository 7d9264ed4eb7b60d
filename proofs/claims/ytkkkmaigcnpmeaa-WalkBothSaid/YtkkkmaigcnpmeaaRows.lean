/-
  No cell of these rows narrows 'for every input' (looked for: loops, veiled, ifaces, maps, wideKeys, modest, calm, conditions, laid).
  DERIVED. THE GIVEN ROWS OF THIS SEAT. 25 by the template 'for every input the law returns true; each argument reads behind the call as it read before'; 0 by the template 'total and deterministic' (their statements: YtkkkmaigcnpmeaaTotals.lean).
  GIVEN WITH THE SEED: the statements are not yours to turn. If you find one false, say at which input.
  Laid BY PROGRAM, IN A SANDBOX (cutbox-rows.mjs): the forced cells as the released guide's own fill.sh prints them over the translation d6ff4fdf4324a9af… (all of the seat's roots in one cut). By AI agents, Wed Nov 11 2026. No macro, syntax, notation, axiom, sorry.
-/
import Derived.Test.YtkkkmaigcnpmeaaChecked
import GoSem.Claim
import GoSem.ClaimJoined
import GoSem.ClaimMapViews
import Derived.JoinedTies
import Derived.KernelRfl
namespace Go.Proofs.Ytkkkmaigcnpmeaa
/- THE CELL 'sum', in the pinned program and in every row, IS THE sha256 OF THE DUMP (.gsa) THAT YtkkkmaigcnpmeaaProg.lean LOADS. Nothing in Lean hashes anything: it is a label: what it is worth is what the hold of that sum in a sandbox is worth. -/
noncomputable def Try.pinned : Pinned := { name := "ytkkkmaigcnpmeaa", sum := "d6ff4fdf4324a9af2e902cbc6e86882125e9ac6287c5d12e4d23882d5d509c21", checked := Try.checked }
namespace Rows
def none {H : Type} : Left H := { results := [], args := [] }

/-- 'priorylaw02.MemChain': WHATEVER THE INPUT: true; the input reads as it did. -/
def memChainSpec : ChangeSpec := { name := "memChain", fn := fun _ => fun
  | [d1, d2, d3, d4] => { results := [.lit (.bool true)], args := [d1, d2, d3, d4] }
  | _ => none }
def memChainRow : OpenClaim := { program := "ytkkkmaigcnpmeaa", sum := "d6ff4fdf4324a9af2e902cbc6e86882125e9ac6287c5d12e4d23882d5d509c21", func := "priory/priorylaw02.MemChain", spec := "memChain", unfollowed := true, recurses := true, apart := false }
def MemChainSaid : Prop := memChainRow.holds Try.pinned (OpenSpec.ofChange memChainSpec)

/-- ITS FALSE NEIGHBOUR: 'it returns false'. Refute it at one input. -/
def memChainWrong : ChangeSpec := { name := "memChain", fn := fun _ => fun
  | [d1, d2, d3, d4] => { results := [.lit (.bool false)], args := [d1, d2, d3, d4] }
  | _ => none }
def MemChainWrongFalsely : Prop := memChainRow.holds Try.pinned (OpenSpec.ofChange memChainWrong)

/-- 'priorylaw02.MemZero': WHATEVER THE INPUT: true; the input reads as it did. -/
def memZeroSpec : ChangeSpec := { name := "memZero", fn := fun _ => fun
  | [d1, d2, d3] => { results := [.lit (.bool true)], args := [d1, d2, d3] }
  | _ => none }
def memZeroRow : OpenClaim := { program := "ytkkkmaigcnpmeaa", sum := "d6ff4fdf4324a9af2e902cbc6e86882125e9ac6287c5d12e4d23882d5d509c21", func := "priory/priorylaw02.MemZero", spec := "memZero", unfollowed := true, recurses := true, apart := false }
def MemZeroSaid : Prop := memZeroRow.holds Try.pinned (OpenSpec.ofChange memZeroSpec)

/-- ITS FALSE NEIGHBOUR: 'it returns false'. Refute it at one input. -/
def memZeroWrong : ChangeSpec := { name := "memZero", fn := fun _ => fun
  | [d1, d2, d3] => { results := [.lit (.bool false)], args := [d1, d2, d3] }
  | _ => none }
def MemZeroWrongFalsely : Prop := memZeroRow.holds Try.pinned (OpenSpec.ofChange memZeroWrong)

/-- 'priorylaw02.MemEdges': WHATEVER THE INPUT: true; the input reads as it did. -/
def memEdgesSpec : ChangeSpec := { name := "memEdges", fn := fun _ => fun
  | [d1, d2, d3] => { results := [.lit (.bool true)], args := [d1, d2, d3] }
  | _ => none }
def memEdgesRow : OpenClaim := { program := "ytkkkmaigcnpmeaa", sum := "d6ff4fdf4324a9af2e902cbc6e86882125e9ac6287c5d12e4d23882d5d509c21", func := "priory/priorylaw02.MemEdges", spec := "memEdges", unfollowed := true, recurses := true, apart := false }
def MemEdgesSaid : Prop := memEdgesRow.holds Try.pinned (OpenSpec.ofChange memEdgesSpec)

/-- ITS FALSE NEIGHBOUR: 'it returns false'. Refute it at one input. -/
def memEdgesWrong : ChangeSpec := { name := "memEdges", fn := fun _ => fun
  | [d1, d2, d3] => { results := [.lit (.bool false)], args := [d1, d2, d3] }
  | _ => none }
def MemEdgesWrongFalsely : Prop := memEdgesRow.holds Try.pinned (OpenSpec.ofChange memEdgesWrong)

/-- 'priorylaw02.MemApart': WHATEVER THE INPUT: true; the input reads as it did. -/
def memApartSpec : ChangeSpec := { name := "memApart", fn := fun _ => fun
  | [d1, d2, d3, d4, d5, d6, d7] => { results := [.lit (.bool true)], args := [d1, d2, d3, d4, d5, d6, d7] }
  | _ => none }
def memApartRow : OpenClaim := { program := "ytkkkmaigcnpmeaa", sum := "d6ff4fdf4324a9af2e902cbc6e86882125e9ac6287c5d12e4d23882d5d509c21", func := "priory/priorylaw02.MemApart", spec := "memApart", unfollowed := true, recurses := true, apart := false }
def MemApartSaid : Prop := memApartRow.holds Try.pinned (OpenSpec.ofChange memApartSpec)

/-- ITS FALSE NEIGHBOUR: 'it returns false'. Refute it at one input. -/
def memApartWrong : ChangeSpec := { name := "memApart", fn := fun _ => fun
  | [d1, d2, d3, d4, d5, d6, d7] => { results := [.lit (.bool false)], args := [d1, d2, d3, d4, d5, d6, d7] }
  | _ => none }
def MemApartWrongFalsely : Prop := memApartRow.holds Try.pinned (OpenSpec.ofChange memApartWrong)

/-- 'priorylaw01.WordEntry': WHATEVER THE INPUT: true; the input reads as it did. -/
def wordEntrySpec : ChangeSpec := { name := "wordEntry", fn := fun _ => fun
  | [d] => { results := [.lit (.bool true)], args := [d] }
  | _ => none }
def wordEntryRow : OpenClaim := { program := "ytkkkmaigcnpmeaa", sum := "d6ff4fdf4324a9af2e902cbc6e86882125e9ac6287c5d12e4d23882d5d509c21", func := "priory/priorylaw01.WordEntry", spec := "wordEntry", unfollowed := true, recurses := true, apart := false }
def WordEntrySaid : Prop := wordEntryRow.holds Try.pinned (OpenSpec.ofChange wordEntrySpec)

/-- ITS FALSE NEIGHBOUR: 'it returns false'. Refute it at one input. -/
def wordEntryWrong : ChangeSpec := { name := "wordEntry", fn := fun _ => fun
  | [d] => { results := [.lit (.bool false)], args := [d] }
  | _ => none }
def WordEntryWrongFalsely : Prop := wordEntryRow.holds Try.pinned (OpenSpec.ofChange wordEntryWrong)

/-- 'priorylaw01.WordGet': WHATEVER THE INPUT: true; the input reads as it did. -/
def wordGetSpec : ChangeSpec := { name := "wordGet", fn := fun _ => fun
  | [d] => { results := [.lit (.bool true)], args := [d] }
  | _ => none }
def wordGetRow : OpenClaim := { program := "ytkkkmaigcnpmeaa", sum := "d6ff4fdf4324a9af2e902cbc6e86882125e9ac6287c5d12e4d23882d5d509c21", func := "priory/priorylaw01.WordGet", spec := "wordGet", unfollowed := true, recurses := true, apart := false }
def WordGetSaid : Prop := wordGetRow.holds Try.pinned (OpenSpec.ofChange wordGetSpec)

/-- ITS FALSE NEIGHBOUR: 'it returns false'. Refute it at one input. -/
def wordGetWrong : ChangeSpec := { name := "wordGet", fn := fun _ => fun
  | [d] => { results := [.lit (.bool false)], args := [d] }
  | _ => none }
def WordGetWrongFalsely : Prop := wordGetRow.holds Try.pinned (OpenSpec.ofChange wordGetWrong)

/-- 'priorylaw01.WordBack': WHATEVER THE INPUT: true; the input reads as it did. -/
def wordBackSpec : ChangeSpec := { name := "wordBack", fn := fun _ => fun
  | [d1, d2, d3] => { results := [.lit (.bool true)], args := [d1, d2, d3] }
  | _ => none }
def wordBackRow : OpenClaim := { program := "ytkkkmaigcnpmeaa", sum := "d6ff4fdf4324a9af2e902cbc6e86882125e9ac6287c5d12e4d23882d5d509c21", func := "priory/priorylaw01.WordBack", spec := "wordBack", unfollowed := true, recurses := true, apart := false }
def WordBackSaid : Prop := wordBackRow.holds Try.pinned (OpenSpec.ofChange wordBackSpec)

/-- ITS FALSE NEIGHBOUR: 'it returns false'. Refute it at one input. -/
def wordBackWrong : ChangeSpec := { name := "wordBack", fn := fun _ => fun
  | [d1, d2, d3] => { results := [.lit (.bool false)], args := [d1, d2, d3] }
  | _ => none }
def WordBackWrongFalsely : Prop := wordBackRow.holds Try.pinned (OpenSpec.ofChange wordBackWrong)

/-- 'priorylaw01.WordBits': WHATEVER THE INPUT: true; the input reads as it did. -/
def wordBitsSpec : ChangeSpec := { name := "wordBits", fn := fun _ => fun
  | [d1, d2] => { results := [.lit (.bool true)], args := [d1, d2] }
  | _ => none }
def wordBitsRow : OpenClaim := { program := "ytkkkmaigcnpmeaa", sum := "d6ff4fdf4324a9af2e902cbc6e86882125e9ac6287c5d12e4d23882d5d509c21", func := "priory/priorylaw01.WordBits", spec := "wordBits", unfollowed := true, recurses := true, apart := false }
def WordBitsSaid : Prop := wordBitsRow.holds Try.pinned (OpenSpec.ofChange wordBitsSpec)

/-- ITS FALSE NEIGHBOUR: 'it returns false'. Refute it at one input. -/
def wordBitsWrong : ChangeSpec := { name := "wordBits", fn := fun _ => fun
  | [d1, d2] => { results := [.lit (.bool false)], args := [d1, d2] }
  | _ => none }
def WordBitsWrongFalsely : Prop := wordBitsRow.holds Try.pinned (OpenSpec.ofChange wordBitsWrong)

/-- 'priorylaw02.MemPlays': WHATEVER THE INPUT: true; the input reads as it did. -/
def memPlaysSpec : ChangeSpec := { name := "memPlays", fn := fun _ => fun
  | [d1, d2] => { results := [.lit (.bool true)], args := [d1, d2] }
  | _ => none }
def memPlaysRow : OpenClaim := { program := "ytkkkmaigcnpmeaa", sum := "d6ff4fdf4324a9af2e902cbc6e86882125e9ac6287c5d12e4d23882d5d509c21", func := "priory/priorylaw02.MemPlays", spec := "memPlays", unfollowed := true, recurses := true, apart := false }
def MemPlaysSaid : Prop := memPlaysRow.holds Try.pinned (OpenSpec.ofChange memPlaysSpec)

/-- ITS FALSE NEIGHBOUR: 'it returns false'. Refute it at one input. -/
def memPlaysWrong : ChangeSpec := { name := "memPlays", fn := fun _ => fun
  | [d1, d2] => { results := [.lit (.bool false)], args := [d1, d2] }
  | _ => none }
def MemPlaysWrongFalsely : Prop := memPlaysRow.holds Try.pinned (OpenSpec.ofChange memPlaysWrong)

/-- 'priorylaw02.MemNone': WHATEVER THE INPUT: true; the input reads as it did. -/
def memNoneSpec : ChangeSpec := { name := "memNone", fn := fun _ => fun
  | [d1, d2, d3] => { results := [.lit (.bool true)], args := [d1, d2, d3] }
  | _ => none }
def memNoneRow : OpenClaim := { program := "ytkkkmaigcnpmeaa", sum := "d6ff4fdf4324a9af2e902cbc6e86882125e9ac6287c5d12e4d23882d5d509c21", func := "priory/priorylaw02.MemNone", spec := "memNone", unfollowed := true, recurses := true, apart := false }
def MemNoneSaid : Prop := memNoneRow.holds Try.pinned (OpenSpec.ofChange memNoneSpec)

/-- ITS FALSE NEIGHBOUR: 'it returns false'. Refute it at one input. -/
def memNoneWrong : ChangeSpec := { name := "memNone", fn := fun _ => fun
  | [d1, d2, d3] => { results := [.lit (.bool false)], args := [d1, d2, d3] }
  | _ => none }
def MemNoneWrongFalsely : Prop := memNoneRow.holds Try.pinned (OpenSpec.ofChange memNoneWrong)

/-- 'priorylaw01.WordAddress': WHATEVER THE INPUT: true; the input reads as it did. -/
def wordAddressSpec : ChangeSpec := { name := "wordAddress", fn := fun _ => fun
  | [d1, d2] => { results := [.lit (.bool true)], args := [d1, d2] }
  | _ => none }
def wordAddressRow : OpenClaim := { program := "ytkkkmaigcnpmeaa", sum := "d6ff4fdf4324a9af2e902cbc6e86882125e9ac6287c5d12e4d23882d5d509c21", func := "priory/priorylaw01.WordAddress", spec := "wordAddress", unfollowed := true, recurses := true, apart := false }
def WordAddressSaid : Prop := wordAddressRow.holds Try.pinned (OpenSpec.ofChange wordAddressSpec)

/-- ITS FALSE NEIGHBOUR: 'it returns false'. Refute it at one input. -/
def wordAddressWrong : ChangeSpec := { name := "wordAddress", fn := fun _ => fun
  | [d1, d2] => { results := [.lit (.bool false)], args := [d1, d2] }
  | _ => none }
def WordAddressWrongFalsely : Prop := wordAddressRow.holds Try.pinned (OpenSpec.ofChange wordAddressWrong)

/-- 'priorylaw01.WordCut': WHATEVER THE INPUT: true; the input reads as it did. -/
def wordCutSpec : ChangeSpec := { name := "wordCut", fn := fun _ => fun
  | [d] => { results := [.lit (.bool true)], args := [d] }
  | _ => none }
def wordCutRow : OpenClaim := { program := "ytkkkmaigcnpmeaa", sum := "d6ff4fdf4324a9af2e902cbc6e86882125e9ac6287c5d12e4d23882d5d509c21", func := "priory/priorylaw01.WordCut", spec := "wordCut", unfollowed := true, recurses := true, apart := false }
def WordCutSaid : Prop := wordCutRow.holds Try.pinned (OpenSpec.ofChange wordCutSpec)

/-- ITS FALSE NEIGHBOUR: 'it returns false'. Refute it at one input. -/
def wordCutWrong : ChangeSpec := { name := "wordCut", fn := fun _ => fun
  | [d] => { results := [.lit (.bool false)], args := [d] }
  | _ => none }
def WordCutWrongFalsely : Prop := wordCutRow.holds Try.pinned (OpenSpec.ofChange wordCutWrong)

/-- 'priorylaw01.WordWhole': WHATEVER THE INPUT: true; the input reads as it did. -/
def wordWholeSpec : ChangeSpec := { name := "wordWhole", fn := fun _ => fun
  | [d1, d2] => { results := [.lit (.bool true)], args := [d1, d2] }
  | _ => none }
def wordWholeRow : OpenClaim := { program := "ytkkkmaigcnpmeaa", sum := "d6ff4fdf4324a9af2e902cbc6e86882125e9ac6287c5d12e4d23882d5d509c21", func := "priory/priorylaw01.WordWhole", spec := "wordWhole", unfollowed := true, recurses := true, apart := false }
def WordWholeSaid : Prop := wordWholeRow.holds Try.pinned (OpenSpec.ofChange wordWholeSpec)

/-- ITS FALSE NEIGHBOUR: 'it returns false'. Refute it at one input. -/
def wordWholeWrong : ChangeSpec := { name := "wordWhole", fn := fun _ => fun
  | [d1, d2] => { results := [.lit (.bool false)], args := [d1, d2] }
  | _ => none }
def WordWholeWrongFalsely : Prop := wordWholeRow.holds Try.pinned (OpenSpec.ofChange wordWholeWrong)

/-- 'priorylaw01.WordPage': WHATEVER THE INPUT: true; the input reads as it did. -/
def wordPageSpec : ChangeSpec := { name := "wordPage", fn := fun _ => fun
  | [d1, d2] => { results := [.lit (.bool true)], args := [d1, d2] }
  | _ => none }
def wordPageRow : OpenClaim := { program := "ytkkkmaigcnpmeaa", sum := "d6ff4fdf4324a9af2e902cbc6e86882125e9ac6287c5d12e4d23882d5d509c21", func := "priory/priorylaw01.WordPage", spec := "wordPage", unfollowed := true, recurses := true, apart := false }
def WordPageSaid : Prop := wordPageRow.holds Try.pinned (OpenSpec.ofChange wordPageSpec)

/-- ITS FALSE NEIGHBOUR: 'it returns false'. Refute it at one input. -/
def wordPageWrong : ChangeSpec := { name := "wordPage", fn := fun _ => fun
  | [d1, d2] => { results := [.lit (.bool false)], args := [d1, d2] }
  | _ => none }
def WordPageWrongFalsely : Prop := wordPageRow.holds Try.pinned (OpenSpec.ofChange wordPageWrong)

/-- 'priorylaw04.TrapWords': WHATEVER THE INPUT: true; the input reads as it did. -/
def trapWordsSpec : ChangeSpec := { name := "trapWords", fn := fun _ => fun
  | [d1, d2] => { results := [.lit (.bool true)], args := [d1, d2] }
  | _ => none }
def trapWordsRow : OpenClaim := { program := "ytkkkmaigcnpmeaa", sum := "d6ff4fdf4324a9af2e902cbc6e86882125e9ac6287c5d12e4d23882d5d509c21", func := "priory/priorylaw04.TrapWords", spec := "trapWords", unfollowed := true, recurses := true, apart := false }
def TrapWordsSaid : Prop := trapWordsRow.holds Try.pinned (OpenSpec.ofChange trapWordsSpec)

/-- ITS FALSE NEIGHBOUR: 'it returns false'. Refute it at one input. -/
def trapWordsWrong : ChangeSpec := { name := "trapWords", fn := fun _ => fun
  | [d1, d2] => { results := [.lit (.bool false)], args := [d1, d2] }
  | _ => none }
def TrapWordsWrongFalsely : Prop := trapWordsRow.holds Try.pinned (OpenSpec.ofChange trapWordsWrong)

/-- 'priorylaw04.TrapSave': WHATEVER THE INPUT: true; the input reads as it did. -/
def trapSaveSpec : ChangeSpec := { name := "trapSave", fn := fun _ => fun
  | [d1, d2, d3, d4, d5, d6, d7, d8] => { results := [.lit (.bool true)], args := [d1, d2, d3, d4, d5, d6, d7, d8] }
  | _ => none }
def trapSaveRow : OpenClaim := { program := "ytkkkmaigcnpmeaa", sum := "d6ff4fdf4324a9af2e902cbc6e86882125e9ac6287c5d12e4d23882d5d509c21", func := "priory/priorylaw04.TrapSave", spec := "trapSave", unfollowed := true, recurses := true, apart := false }
def TrapSaveSaid : Prop := trapSaveRow.holds Try.pinned (OpenSpec.ofChange trapSaveSpec)

/-- ITS FALSE NEIGHBOUR: 'it returns false'. Refute it at one input. -/
def trapSaveWrong : ChangeSpec := { name := "trapSave", fn := fun _ => fun
  | [d1, d2, d3, d4, d5, d6, d7, d8] => { results := [.lit (.bool false)], args := [d1, d2, d3, d4, d5, d6, d7, d8] }
  | _ => none }
def TrapSaveWrongFalsely : Prop := trapSaveRow.holds Try.pinned (OpenSpec.ofChange trapSaveWrong)

/-- 'priorylaw04.TrapBack': WHATEVER THE INPUT: true; the input reads as it did. -/
def trapBackSpec : ChangeSpec := { name := "trapBack", fn := fun _ => fun
  | [d1, d2, d3, d4] => { results := [.lit (.bool true)], args := [d1, d2, d3, d4] }
  | _ => none }
def trapBackRow : OpenClaim := { program := "ytkkkmaigcnpmeaa", sum := "d6ff4fdf4324a9af2e902cbc6e86882125e9ac6287c5d12e4d23882d5d509c21", func := "priory/priorylaw04.TrapBack", spec := "trapBack", unfollowed := true, recurses := true, apart := false }
def TrapBackSaid : Prop := trapBackRow.holds Try.pinned (OpenSpec.ofChange trapBackSpec)

/-- ITS FALSE NEIGHBOUR: 'it returns false'. Refute it at one input. -/
def trapBackWrong : ChangeSpec := { name := "trapBack", fn := fun _ => fun
  | [d1, d2, d3, d4] => { results := [.lit (.bool false)], args := [d1, d2, d3, d4] }
  | _ => none }
def TrapBackWrongFalsely : Prop := trapBackRow.holds Try.pinned (OpenSpec.ofChange trapBackWrong)

/-- 'priorylaw04.TrapThree': WHATEVER THE INPUT: true; the input reads as it did. -/
def trapThreeSpec : ChangeSpec := { name := "trapThree", fn := fun _ => fun
  | [d1, d2, d3, d4, d5, d6] => { results := [.lit (.bool true)], args := [d1, d2, d3, d4, d5, d6] }
  | _ => none }
def trapThreeRow : OpenClaim := { program := "ytkkkmaigcnpmeaa", sum := "d6ff4fdf4324a9af2e902cbc6e86882125e9ac6287c5d12e4d23882d5d509c21", func := "priory/priorylaw04.TrapThree", spec := "trapThree", unfollowed := true, recurses := true, apart := false }
def TrapThreeSaid : Prop := trapThreeRow.holds Try.pinned (OpenSpec.ofChange trapThreeSpec)

/-- ITS FALSE NEIGHBOUR: 'it returns false'. Refute it at one input. -/
def trapThreeWrong : ChangeSpec := { name := "trapThree", fn := fun _ => fun
  | [d1, d2, d3, d4, d5, d6] => { results := [.lit (.bool false)], args := [d1, d2, d3, d4, d5, d6] }
  | _ => none }
def TrapThreeWrongFalsely : Prop := trapThreeRow.holds Try.pinned (OpenSpec.ofChange trapThreeWrong)

/-- 'priorylaw04.TrapOver': WHATEVER THE INPUT: true; the input reads as it did. -/
def trapOverSpec : ChangeSpec := { name := "trapOver", fn := fun _ => fun
  | [d1, d2, d3] => { results := [.lit (.bool true)], args := [d1, d2, d3] }
  | _ => none }
def trapOverRow : OpenClaim := { program := "ytkkkmaigcnpmeaa", sum := "d6ff4fdf4324a9af2e902cbc6e86882125e9ac6287c5d12e4d23882d5d509c21", func := "priory/priorylaw04.TrapOver", spec := "trapOver", unfollowed := true, recurses := true, apart := false }
def TrapOverSaid : Prop := trapOverRow.holds Try.pinned (OpenSpec.ofChange trapOverSpec)

/-- ITS FALSE NEIGHBOUR: 'it returns false'. Refute it at one input. -/
def trapOverWrong : ChangeSpec := { name := "trapOver", fn := fun _ => fun
  | [d1, d2, d3] => { results := [.lit (.bool false)], args := [d1, d2, d3] }
  | _ => none }
def TrapOverWrongFalsely : Prop := trapOverRow.holds Try.pinned (OpenSpec.ofChange trapOverWrong)

/-- 'priorylaw03.WalkAt': WHATEVER THE INPUT: true; the input reads as it did. -/
def walkAtSpec : ChangeSpec := { name := "walkAt", fn := fun _ => fun
  | [d1, d2, d3, d4, d5] => { results := [.lit (.bool true)], args := [d1, d2, d3, d4, d5] }
  | _ => none }
def walkAtRow : OpenClaim := { program := "ytkkkmaigcnpmeaa", sum := "d6ff4fdf4324a9af2e902cbc6e86882125e9ac6287c5d12e4d23882d5d509c21", func := "priory/priorylaw03.WalkAt", spec := "walkAt", unfollowed := true, recurses := true, apart := false }
def WalkAtSaid : Prop := walkAtRow.holds Try.pinned (OpenSpec.ofChange walkAtSpec)

/-- ITS FALSE NEIGHBOUR: 'it returns false'. Refute it at one input. -/
def walkAtWrong : ChangeSpec := { name := "walkAt", fn := fun _ => fun
  | [d1, d2, d3, d4, d5] => { results := [.lit (.bool false)], args := [d1, d2, d3, d4, d5] }
  | _ => none }
def WalkAtWrongFalsely : Prop := walkAtRow.holds Try.pinned (OpenSpec.ofChange walkAtWrong)

/-- 'priorylaw03.WalkPlaces': WHATEVER THE INPUT: true; the input reads as it did. -/
def walkPlacesSpec : ChangeSpec := { name := "walkPlaces", fn := fun _ => fun
  | [d1, d2, d3, d4, d5] => { results := [.lit (.bool true)], args := [d1, d2, d3, d4, d5] }
  | _ => none }
def walkPlacesRow : OpenClaim := { program := "ytkkkmaigcnpmeaa", sum := "d6ff4fdf4324a9af2e902cbc6e86882125e9ac6287c5d12e4d23882d5d509c21", func := "priory/priorylaw03.WalkPlaces", spec := "walkPlaces", unfollowed := true, recurses := true, apart := false }
def WalkPlacesSaid : Prop := walkPlacesRow.holds Try.pinned (OpenSpec.ofChange walkPlacesSpec)

/-- ITS FALSE NEIGHBOUR: 'it returns false'. Refute it at one input. -/
def walkPlacesWrong : ChangeSpec := { name := "walkPlaces", fn := fun _ => fun
  | [d1, d2, d3, d4, d5] => { results := [.lit (.bool false)], args := [d1, d2, d3, d4, d5] }
  | _ => none }
def WalkPlacesWrongFalsely : Prop := walkPlacesRow.holds Try.pinned (OpenSpec.ofChange walkPlacesWrong)

/-- 'priorylaw03.WalkBoth': WHATEVER THE INPUT: true; the input reads as it did. -/
def walkBothSpec : ChangeSpec := { name := "walkBoth", fn := fun _ => fun
  | [d1, d2, d3, d4, d5] => { results := [.lit (.bool true)], args := [d1, d2, d3, d4, d5] }
  | _ => none }
def walkBothRow : OpenClaim := { program := "ytkkkmaigcnpmeaa", sum := "d6ff4fdf4324a9af2e902cbc6e86882125e9ac6287c5d12e4d23882d5d509c21", func := "priory/priorylaw03.WalkBoth", spec := "walkBoth", unfollowed := true, recurses := true, apart := false }
def WalkBothSaid : Prop := walkBothRow.holds Try.pinned (OpenSpec.ofChange walkBothSpec)

/-- ITS FALSE NEIGHBOUR: 'it returns false'. Refute it at one input. -/
def walkBothWrong : ChangeSpec := { name := "walkBoth", fn := fun _ => fun
  | [d1, d2, d3, d4, d5] => { results := [.lit (.bool false)], args := [d1, d2, d3, d4, d5] }
  | _ => none }
def WalkBothWrongFalsely : Prop := walkBothRow.holds Try.pinned (OpenSpec.ofChange walkBothWrong)

/-- 'priorylaw03.WalkLook': WHATEVER THE INPUT: true; the input reads as it did. -/
def walkLookSpec : ChangeSpec := { name := "walkLook", fn := fun _ => fun
  | [d1, d2, d3, d4] => { results := [.lit (.bool true)], args := [d1, d2, d3, d4] }
  | _ => none }
def walkLookRow : OpenClaim := { program := "ytkkkmaigcnpmeaa", sum := "d6ff4fdf4324a9af2e902cbc6e86882125e9ac6287c5d12e4d23882d5d509c21", func := "priory/priorylaw03.WalkLook", spec := "walkLook", unfollowed := true, recurses := true, apart := false }
def WalkLookSaid : Prop := walkLookRow.holds Try.pinned (OpenSpec.ofChange walkLookSpec)

/-- ITS FALSE NEIGHBOUR: 'it returns false'. Refute it at one input. -/
def walkLookWrong : ChangeSpec := { name := "walkLook", fn := fun _ => fun
  | [d1, d2, d3, d4] => { results := [.lit (.bool false)], args := [d1, d2, d3, d4] }
  | _ => none }
def WalkLookWrongFalsely : Prop := walkLookRow.holds Try.pinned (OpenSpec.ofChange walkLookWrong)

/-- 'priorylaw03.WalkTables': WHATEVER THE INPUT: true; the input reads as it did. -/
def walkTablesSpec : ChangeSpec := { name := "walkTables", fn := fun _ => fun
  | [d1, d2, d3, d4] => { results := [.lit (.bool true)], args := [d1, d2, d3, d4] }
  | _ => none }
def walkTablesRow : OpenClaim := { program := "ytkkkmaigcnpmeaa", sum := "d6ff4fdf4324a9af2e902cbc6e86882125e9ac6287c5d12e4d23882d5d509c21", func := "priory/priorylaw03.WalkTables", spec := "walkTables", unfollowed := true, recurses := true, apart := false }
def WalkTablesSaid : Prop := walkTablesRow.holds Try.pinned (OpenSpec.ofChange walkTablesSpec)

/-- ITS FALSE NEIGHBOUR: 'it returns false'. Refute it at one input. -/
def walkTablesWrong : ChangeSpec := { name := "walkTables", fn := fun _ => fun
  | [d1, d2, d3, d4] => { results := [.lit (.bool false)], args := [d1, d2, d3, d4] }
  | _ => none }
def WalkTablesWrongFalsely : Prop := walkTablesRow.holds Try.pinned (OpenSpec.ofChange walkTablesWrong)

/-- 'priorylaw03.WalkLoad': WHATEVER THE INPUT: true; the input reads as it did. -/
def walkLoadSpec : ChangeSpec := { name := "walkLoad", fn := fun _ => fun
  | [d1, d2, d3, d4, d5] => { results := [.lit (.bool true)], args := [d1, d2, d3, d4, d5] }
  | _ => none }
def walkLoadRow : OpenClaim := { program := "ytkkkmaigcnpmeaa", sum := "d6ff4fdf4324a9af2e902cbc6e86882125e9ac6287c5d12e4d23882d5d509c21", func := "priory/priorylaw03.WalkLoad", spec := "walkLoad", unfollowed := true, recurses := true, apart := false }
def WalkLoadSaid : Prop := walkLoadRow.holds Try.pinned (OpenSpec.ofChange walkLoadSpec)

/-- ITS FALSE NEIGHBOUR: 'it returns false'. Refute it at one input. -/
def walkLoadWrong : ChangeSpec := { name := "walkLoad", fn := fun _ => fun
  | [d1, d2, d3, d4, d5] => { results := [.lit (.bool false)], args := [d1, d2, d3, d4, d5] }
  | _ => none }
def WalkLoadWrongFalsely : Prop := walkLoadRow.holds Try.pinned (OpenSpec.ofChange walkLoadWrong)

/- THE SECOND FORM. 'bulk': how many values and letters a reading holds, each counted each time it is reached (what is shared counts as often as it is met; a slice's spare places count too). A statement '..UptoSaid' is the law's where the arguments, and the package variables that the reading takes, are together of bulk at most 1048576: NARROWER than '..Said'. Prove '..Said' where nothing that the law and all that it calls make is longer than what came in: it says more and counts as full. Else prove '..UptoSaid'. A law counts once. -/
mutual
def uptoBulk {H : Type} : DataW H → Nat
  | .lit (.string bytes) => bytes.length + 1
  | .lit _ => 1
  | .nil => 1
  | .ptr d => uptoBulk d + 1
  | .slice elems spare => uptoBulkAll elems + uptoBulkAll spare + 1
  | .agg parts => uptoBulkAll parts + 1
  | .iface _ d => uptoBulk d + 1
  | .map entries => uptoBulkEntries entries + 1
  | .held _ => 1
def uptoBulkAll {H : Type} : List (DataW H) → Nat
  | [] => 0
  | d :: r => uptoBulk d + uptoBulkAll r
def uptoBulkEntries {H : Type} : List (Lit × DataW H) → Nat
  | [] => 0
  | x :: r => uptoBulkEntry x + uptoBulkEntries r
def uptoBulkEntry {H : Type} : Lit × DataW H → Nat
  | (.string bytes, d) => bytes.length + uptoBulk d + 1
  | (_, d) => uptoBulk d + 1
 end
def uptoSmall : (H : Type) → List (DataW H) → Bool := fun _ ds => decide (uptoBulkAll ds ≤ 1048576)
def OpenSpec.upto (s : _root_.Go.ChangeSpec) : _root_.Go.OpenSpec := { _root_.Go.OpenSpec.ofChange s with cond := some uptoSmall }

/-- 'priorylaw02.MemChain', WHERE WHAT IT READS IS OF BULK AT MOST 1048576: true; the input reads as it did. -/
def memChainUptoRow : OpenClaim := { program := "ytkkkmaigcnpmeaa", sum := "d6ff4fdf4324a9af2e902cbc6e86882125e9ac6287c5d12e4d23882d5d509c21", func := "priory/priorylaw02.MemChain", spec := "memChain", unfollowed := true, recurses := true, apart := false, narrowed := true }
def MemChainUptoSaid : Prop := memChainUptoRow.holds Try.pinned (OpenSpec.upto memChainSpec)

/-- 'priorylaw02.MemZero', WHERE WHAT IT READS IS OF BULK AT MOST 1048576: true; the input reads as it did. -/
def memZeroUptoRow : OpenClaim := { program := "ytkkkmaigcnpmeaa", sum := "d6ff4fdf4324a9af2e902cbc6e86882125e9ac6287c5d12e4d23882d5d509c21", func := "priory/priorylaw02.MemZero", spec := "memZero", unfollowed := true, recurses := true, apart := false, narrowed := true }
def MemZeroUptoSaid : Prop := memZeroUptoRow.holds Try.pinned (OpenSpec.upto memZeroSpec)

/-- 'priorylaw02.MemEdges', WHERE WHAT IT READS IS OF BULK AT MOST 1048576: true; the input reads as it did. -/
def memEdgesUptoRow : OpenClaim := { program := "ytkkkmaigcnpmeaa", sum := "d6ff4fdf4324a9af2e902cbc6e86882125e9ac6287c5d12e4d23882d5d509c21", func := "priory/priorylaw02.MemEdges", spec := "memEdges", unfollowed := true, recurses := true, apart := false, narrowed := true }
def MemEdgesUptoSaid : Prop := memEdgesUptoRow.holds Try.pinned (OpenSpec.upto memEdgesSpec)

/-- 'priorylaw02.MemApart', WHERE WHAT IT READS IS OF BULK AT MOST 1048576: true; the input reads as it did. -/
def memApartUptoRow : OpenClaim := { program := "ytkkkmaigcnpmeaa", sum := "d6ff4fdf4324a9af2e902cbc6e86882125e9ac6287c5d12e4d23882d5d509c21", func := "priory/priorylaw02.MemApart", spec := "memApart", unfollowed := true, recurses := true, apart := false, narrowed := true }
def MemApartUptoSaid : Prop := memApartUptoRow.holds Try.pinned (OpenSpec.upto memApartSpec)

/-- 'priorylaw01.WordEntry', WHERE WHAT IT READS IS OF BULK AT MOST 1048576: true; the input reads as it did. -/
def wordEntryUptoRow : OpenClaim := { program := "ytkkkmaigcnpmeaa", sum := "d6ff4fdf4324a9af2e902cbc6e86882125e9ac6287c5d12e4d23882d5d509c21", func := "priory/priorylaw01.WordEntry", spec := "wordEntry", unfollowed := true, recurses := true, apart := false, narrowed := true }
def WordEntryUptoSaid : Prop := wordEntryUptoRow.holds Try.pinned (OpenSpec.upto wordEntrySpec)

/-- 'priorylaw01.WordGet', WHERE WHAT IT READS IS OF BULK AT MOST 1048576: true; the input reads as it did. -/
def wordGetUptoRow : OpenClaim := { program := "ytkkkmaigcnpmeaa", sum := "d6ff4fdf4324a9af2e902cbc6e86882125e9ac6287c5d12e4d23882d5d509c21", func := "priory/priorylaw01.WordGet", spec := "wordGet", unfollowed := true, recurses := true, apart := false, narrowed := true }
def WordGetUptoSaid : Prop := wordGetUptoRow.holds Try.pinned (OpenSpec.upto wordGetSpec)

/-- 'priorylaw01.WordBack', WHERE WHAT IT READS IS OF BULK AT MOST 1048576: true; the input reads as it did. -/
def wordBackUptoRow : OpenClaim := { program := "ytkkkmaigcnpmeaa", sum := "d6ff4fdf4324a9af2e902cbc6e86882125e9ac6287c5d12e4d23882d5d509c21", func := "priory/priorylaw01.WordBack", spec := "wordBack", unfollowed := true, recurses := true, apart := false, narrowed := true }
def WordBackUptoSaid : Prop := wordBackUptoRow.holds Try.pinned (OpenSpec.upto wordBackSpec)

/-- 'priorylaw01.WordBits', WHERE WHAT IT READS IS OF BULK AT MOST 1048576: true; the input reads as it did. -/
def wordBitsUptoRow : OpenClaim := { program := "ytkkkmaigcnpmeaa", sum := "d6ff4fdf4324a9af2e902cbc6e86882125e9ac6287c5d12e4d23882d5d509c21", func := "priory/priorylaw01.WordBits", spec := "wordBits", unfollowed := true, recurses := true, apart := false, narrowed := true }
def WordBitsUptoSaid : Prop := wordBitsUptoRow.holds Try.pinned (OpenSpec.upto wordBitsSpec)

/-- 'priorylaw02.MemPlays', WHERE WHAT IT READS IS OF BULK AT MOST 1048576: true; the input reads as it did. -/
def memPlaysUptoRow : OpenClaim := { program := "ytkkkmaigcnpmeaa", sum := "d6ff4fdf4324a9af2e902cbc6e86882125e9ac6287c5d12e4d23882d5d509c21", func := "priory/priorylaw02.MemPlays", spec := "memPlays", unfollowed := true, recurses := true, apart := false, narrowed := true }
def MemPlaysUptoSaid : Prop := memPlaysUptoRow.holds Try.pinned (OpenSpec.upto memPlaysSpec)

/-- 'priorylaw02.MemNone', WHERE WHAT IT READS IS OF BULK AT MOST 1048576: true; the input reads as it did. -/
def memNoneUptoRow : OpenClaim := { program := "ytkkkmaigcnpmeaa", sum := "d6ff4fdf4324a9af2e902cbc6e86882125e9ac6287c5d12e4d23882d5d509c21", func := "priory/priorylaw02.MemNone", spec := "memNone", unfollowed := true, recurses := true, apart := false, narrowed := true }
def MemNoneUptoSaid : Prop := memNoneUptoRow.holds Try.pinned (OpenSpec.upto memNoneSpec)

/-- 'priorylaw01.WordAddress', WHERE WHAT IT READS IS OF BULK AT MOST 1048576: true; the input reads as it did. -/
def wordAddressUptoRow : OpenClaim := { program := "ytkkkmaigcnpmeaa", sum := "d6ff4fdf4324a9af2e902cbc6e86882125e9ac6287c5d12e4d23882d5d509c21", func := "priory/priorylaw01.WordAddress", spec := "wordAddress", unfollowed := true, recurses := true, apart := false, narrowed := true }
def WordAddressUptoSaid : Prop := wordAddressUptoRow.holds Try.pinned (OpenSpec.upto wordAddressSpec)

/-- 'priorylaw01.WordCut', WHERE WHAT IT READS IS OF BULK AT MOST 1048576: true; the input reads as it did. -/
def wordCutUptoRow : OpenClaim := { program := "ytkkkmaigcnpmeaa", sum := "d6ff4fdf4324a9af2e902cbc6e86882125e9ac6287c5d12e4d23882d5d509c21", func := "priory/priorylaw01.WordCut", spec := "wordCut", unfollowed := true, recurses := true, apart := false, narrowed := true }
def WordCutUptoSaid : Prop := wordCutUptoRow.holds Try.pinned (OpenSpec.upto wordCutSpec)

/-- 'priorylaw01.WordWhole', WHERE WHAT IT READS IS OF BULK AT MOST 1048576: true; the input reads as it did. -/
def wordWholeUptoRow : OpenClaim := { program := "ytkkkmaigcnpmeaa", sum := "d6ff4fdf4324a9af2e902cbc6e86882125e9ac6287c5d12e4d23882d5d509c21", func := "priory/priorylaw01.WordWhole", spec := "wordWhole", unfollowed := true, recurses := true, apart := false, narrowed := true }
def WordWholeUptoSaid : Prop := wordWholeUptoRow.holds Try.pinned (OpenSpec.upto wordWholeSpec)

/-- 'priorylaw01.WordPage', WHERE WHAT IT READS IS OF BULK AT MOST 1048576: true; the input reads as it did. -/
def wordPageUptoRow : OpenClaim := { program := "ytkkkmaigcnpmeaa", sum := "d6ff4fdf4324a9af2e902cbc6e86882125e9ac6287c5d12e4d23882d5d509c21", func := "priory/priorylaw01.WordPage", spec := "wordPage", unfollowed := true, recurses := true, apart := false, narrowed := true }
def WordPageUptoSaid : Prop := wordPageUptoRow.holds Try.pinned (OpenSpec.upto wordPageSpec)

/-- 'priorylaw04.TrapWords', WHERE WHAT IT READS IS OF BULK AT MOST 1048576: true; the input reads as it did. -/
def trapWordsUptoRow : OpenClaim := { program := "ytkkkmaigcnpmeaa", sum := "d6ff4fdf4324a9af2e902cbc6e86882125e9ac6287c5d12e4d23882d5d509c21", func := "priory/priorylaw04.TrapWords", spec := "trapWords", unfollowed := true, recurses := true, apart := false, narrowed := true }
def TrapWordsUptoSaid : Prop := trapWordsUptoRow.holds Try.pinned (OpenSpec.upto trapWordsSpec)

/-- 'priorylaw04.TrapSave', WHERE WHAT IT READS IS OF BULK AT MOST 1048576: true; the input reads as it did. -/
def trapSaveUptoRow : OpenClaim := { program := "ytkkkmaigcnpmeaa", sum := "d6ff4fdf4324a9af2e902cbc6e86882125e9ac6287c5d12e4d23882d5d509c21", func := "priory/priorylaw04.TrapSave", spec := "trapSave", unfollowed := true, recurses := true, apart := false, narrowed := true }
def TrapSaveUptoSaid : Prop := trapSaveUptoRow.holds Try.pinned (OpenSpec.upto trapSaveSpec)

/-- 'priorylaw04.TrapBack', WHERE WHAT IT READS IS OF BULK AT MOST 1048576: true; the input reads as it did. -/
def trapBackUptoRow : OpenClaim := { program := "ytkkkmaigcnpmeaa", sum := "d6ff4fdf4324a9af2e902cbc6e86882125e9ac6287c5d12e4d23882d5d509c21", func := "priory/priorylaw04.TrapBack", spec := "trapBack", unfollowed := true, recurses := true, apart := false, narrowed := true }
def TrapBackUptoSaid : Prop := trapBackUptoRow.holds Try.pinned (OpenSpec.upto trapBackSpec)

/-- 'priorylaw04.TrapThree', WHERE WHAT IT READS IS OF BULK AT MOST 1048576: true; the input reads as it did. -/
def trapThreeUptoRow : OpenClaim := { program := "ytkkkmaigcnpmeaa", sum := "d6ff4fdf4324a9af2e902cbc6e86882125e9ac6287c5d12e4d23882d5d509c21", func := "priory/priorylaw04.TrapThree", spec := "trapThree", unfollowed := true, recurses := true, apart := false, narrowed := true }
def TrapThreeUptoSaid : Prop := trapThreeUptoRow.holds Try.pinned (OpenSpec.upto trapThreeSpec)

/-- 'priorylaw04.TrapOver', WHERE WHAT IT READS IS OF BULK AT MOST 1048576: true; the input reads as it did. -/
def trapOverUptoRow : OpenClaim := { program := "ytkkkmaigcnpmeaa", sum := "d6ff4fdf4324a9af2e902cbc6e86882125e9ac6287c5d12e4d23882d5d509c21", func := "priory/priorylaw04.TrapOver", spec := "trapOver", unfollowed := true, recurses := true, apart := false, narrowed := true }
def TrapOverUptoSaid : Prop := trapOverUptoRow.holds Try.pinned (OpenSpec.upto trapOverSpec)

/-- 'priorylaw03.WalkAt', WHERE WHAT IT READS IS OF BULK AT MOST 1048576: true; the input reads as it did. -/
def walkAtUptoRow : OpenClaim := { program := "ytkkkmaigcnpmeaa", sum := "d6ff4fdf4324a9af2e902cbc6e86882125e9ac6287c5d12e4d23882d5d509c21", func := "priory/priorylaw03.WalkAt", spec := "walkAt", unfollowed := true, recurses := true, apart := false, narrowed := true }
def WalkAtUptoSaid : Prop := walkAtUptoRow.holds Try.pinned (OpenSpec.upto walkAtSpec)

/-- 'priorylaw03.WalkPlaces', WHERE WHAT IT READS IS OF BULK AT MOST 1048576: true; the input reads as it did. -/
def walkPlacesUptoRow : OpenClaim := { program := "ytkkkmaigcnpmeaa", sum := "d6ff4fdf4324a9af2e902cbc6e86882125e9ac6287c5d12e4d23882d5d509c21", func := "priory/priorylaw03.WalkPlaces", spec := "walkPlaces", unfollowed := true, recurses := true, apart := false, narrowed := true }
def WalkPlacesUptoSaid : Prop := walkPlacesUptoRow.holds Try.pinned (OpenSpec.upto walkPlacesSpec)

/-- 'priorylaw03.WalkBoth', WHERE WHAT IT READS IS OF BULK AT MOST 1048576: true; the input reads as it did. -/
def walkBothUptoRow : OpenClaim := { program := "ytkkkmaigcnpmeaa", sum := "d6ff4fdf4324a9af2e902cbc6e86882125e9ac6287c5d12e4d23882d5d509c21", func := "priory/priorylaw03.WalkBoth", spec := "walkBoth", unfollowed := true, recurses := true, apart := false, narrowed := true }
def WalkBothUptoSaid : Prop := walkBothUptoRow.holds Try.pinned (OpenSpec.upto walkBothSpec)

/-- 'priorylaw03.WalkLook', WHERE WHAT IT READS IS OF BULK AT MOST 1048576: true; the input reads as it did. -/
def walkLookUptoRow : OpenClaim := { program := "ytkkkmaigcnpmeaa", sum := "d6ff4fdf4324a9af2e902cbc6e86882125e9ac6287c5d12e4d23882d5d509c21", func := "priory/priorylaw03.WalkLook", spec := "walkLook", unfollowed := true, recurses := true, apart := false, narrowed := true }
def WalkLookUptoSaid : Prop := walkLookUptoRow.holds Try.pinned (OpenSpec.upto walkLookSpec)

/-- 'priorylaw03.WalkTables', WHERE WHAT IT READS IS OF BULK AT MOST 1048576: true; the input reads as it did. -/
def walkTablesUptoRow : OpenClaim := { program := "ytkkkmaigcnpmeaa", sum := "d6ff4fdf4324a9af2e902cbc6e86882125e9ac6287c5d12e4d23882d5d509c21", func := "priory/priorylaw03.WalkTables", spec := "walkTables", unfollowed := true, recurses := true, apart := false, narrowed := true }
def WalkTablesUptoSaid : Prop := walkTablesUptoRow.holds Try.pinned (OpenSpec.upto walkTablesSpec)

/-- 'priorylaw03.WalkLoad', WHERE WHAT IT READS IS OF BULK AT MOST 1048576: true; the input reads as it did. -/
def walkLoadUptoRow : OpenClaim := { program := "ytkkkmaigcnpmeaa", sum := "d6ff4fdf4324a9af2e902cbc6e86882125e9ac6287c5d12e4d23882d5d509c21", func := "priory/priorylaw03.WalkLoad", spec := "walkLoad", unfollowed := true, recurses := true, apart := false, narrowed := true }
def WalkLoadUptoSaid : Prop := walkLoadUptoRow.holds Try.pinned (OpenSpec.upto walkLoadSpec)

end Rows
end Go.Proofs.Ytkkkmaigcnpmeaa
