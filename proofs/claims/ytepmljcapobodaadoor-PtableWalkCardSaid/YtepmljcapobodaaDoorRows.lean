/-
  NARROWER THAN 'FOR EVERY INPUT', by the rows' own cells (each row's printed sentence says how): PallocRefs: laid · PallocLeast: laid · PallocNone: laid · PallocApart: laid · PallocTwo: laid · PallocPlays: laid · PallocWhole: laid · PtableFull: laid · PtableBack: laid · PtablePlays: laid · PtableNone: laid · PtableTwo: laid · PtableWalk: laid.
  DERIVED. THE GIVEN ROWS OF THIS SEAT. 13 by the template 'for every input the law returns true; each argument reads behind the call as it read before'; 0 by the template 'total and deterministic' (their statements: YtepmljcapobodaaDoorTotals.lean).
  GIVEN WITH THE SEED: the statements are not yours to turn. If you find one false, say at which input.
  Laid BY PROGRAM, IN A SANDBOX (cutbox-rows.mjs): the forced cells as the released guide's own fill.sh prints them over the translation f394368988c2ec7d… (all of the seat's roots in one cut). By AI agents, Wed Nov 11 2026. No macro, syntax, notation, axiom, sorry.
-/
import Derived.Test.YtepmljcapobodaaDoorChecked
import GoSem.Claim
import GoSem.ClaimJoined
import GoSem.ClaimMapViews
import Derived.JoinedTies
import Derived.KernelRfl
namespace Go.Proofs.YtepmljcapobodaaDoor
/- THE CELL 'sum', in the pinned program and in every row, IS THE sha256 OF THE DUMP (.gsa) THAT YtepmljcapobodaaDoorProg.lean LOADS. Nothing in Lean hashes anything: it is a label: what it is worth is what the hold of that sum in a sandbox is worth. -/
noncomputable def Tryd.pinned : Pinned := { name := "ytepmljcapobodaadoor", sum := "f394368988c2ec7d6a6b869dd4ff16dfbc2553c67284215f3dad6aa93c3b35af", checked := Tryd.checked }
namespace Rows
def none {H : Type} : Left H := { results := [], args := [] }

/- WHAT THE LISTED PACKAGE-LEVEL VARIABLES READ AS WHEN THE CALL BEGINS. Each datum BY PROGRAM (the guide's laid-datum.mjs) off the statement by which the dump's own 'gosem.cut.vars' lays the variable. In a bare row this is a premise. The card (YtepmljcapobodaaDoorCards.lean) ties it to the program's text. -/
def laid_math_bits_deBruijn64tab {H : Type} : DataW H := .agg [.lit (.int .u8 0), .lit (.int .u8 1), .lit (.int .u8 56), .lit (.int .u8 2), .lit (.int .u8 57), .lit (.int .u8 49), .lit (.int .u8 28), .lit (.int .u8 3), .lit (.int .u8 61), .lit (.int .u8 58), .lit (.int .u8 42), .lit (.int .u8 50), .lit (.int .u8 38), .lit (.int .u8 29), .lit (.int .u8 17), .lit (.int .u8 4), .lit (.int .u8 62), .lit (.int .u8 47), .lit (.int .u8 59), .lit (.int .u8 36), .lit (.int .u8 45), .lit (.int .u8 43), .lit (.int .u8 51), .lit (.int .u8 22), .lit (.int .u8 53), .lit (.int .u8 39), .lit (.int .u8 33), .lit (.int .u8 30), .lit (.int .u8 24), .lit (.int .u8 18), .lit (.int .u8 12), .lit (.int .u8 5), .lit (.int .u8 63), .lit (.int .u8 55), .lit (.int .u8 48), .lit (.int .u8 27), .lit (.int .u8 60), .lit (.int .u8 41), .lit (.int .u8 37), .lit (.int .u8 16), .lit (.int .u8 46), .lit (.int .u8 35), .lit (.int .u8 44), .lit (.int .u8 21), .lit (.int .u8 52), .lit (.int .u8 32), .lit (.int .u8 23), .lit (.int .u8 11), .lit (.int .u8 54), .lit (.int .u8 26), .lit (.int .u8 40), .lit (.int .u8 15), .lit (.int .u8 34), .lit (.int .u8 20), .lit (.int .u8 31), .lit (.int .u8 10), .lit (.int .u8 25), .lit (.int .u8 14), .lit (.int .u8 19), .lit (.int .u8 9), .lit (.int .u8 13), .lit (.int .u8 8), .lit (.int .u8 7), .lit (.int .u8 6)]

/-- 'priorylaw09.PallocRefs': WHATEVER THE INPUT: true; the input reads as it did. -/
def pallocRefsSpec : ChangeSpec := { name := "pallocRefs", fn := fun _ => fun
  | [d] => { results := [.lit (.bool true)], args := [d] }
  | _ => none }
def pallocRefsRow : OpenClaim := { program := "ytepmljcapobodaadoor", sum := "f394368988c2ec7d6a6b869dd4ff16dfbc2553c67284215f3dad6aa93c3b35af", func := "priory/priorylaw09.PallocRefs", spec := "pallocRefs", unfollowed := true, recurses := true, named := ["math/bits.deBruijn64tab"], apart := false, laid := [("math/bits.deBruijn64tab", laid_math_bits_deBruijn64tab)] }
def PallocRefsSaid : Prop := pallocRefsRow.holds Tryd.pinned (OpenSpec.ofChange pallocRefsSpec)

/-- ITS FALSE NEIGHBOUR: 'it returns false'. Refute it at one input. -/
def pallocRefsWrong : ChangeSpec := { name := "pallocRefs", fn := fun _ => fun
  | [d] => { results := [.lit (.bool false)], args := [d] }
  | _ => none }
def PallocRefsWrongFalsely : Prop := pallocRefsRow.holds Tryd.pinned (OpenSpec.ofChange pallocRefsWrong)

/-- 'priorylaw09.PallocLeast': WHATEVER THE INPUT: true; the input reads as it did. -/
def pallocLeastSpec : ChangeSpec := { name := "pallocLeast", fn := fun _ => fun
  | [d1, d2] => { results := [.lit (.bool true)], args := [d1, d2] }
  | _ => none }
def pallocLeastRow : OpenClaim := { program := "ytepmljcapobodaadoor", sum := "f394368988c2ec7d6a6b869dd4ff16dfbc2553c67284215f3dad6aa93c3b35af", func := "priory/priorylaw09.PallocLeast", spec := "pallocLeast", unfollowed := true, recurses := true, named := ["math/bits.deBruijn64tab"], apart := false, laid := [("math/bits.deBruijn64tab", laid_math_bits_deBruijn64tab)] }
def PallocLeastSaid : Prop := pallocLeastRow.holds Tryd.pinned (OpenSpec.ofChange pallocLeastSpec)

/-- ITS FALSE NEIGHBOUR: 'it returns false'. Refute it at one input. -/
def pallocLeastWrong : ChangeSpec := { name := "pallocLeast", fn := fun _ => fun
  | [d1, d2] => { results := [.lit (.bool false)], args := [d1, d2] }
  | _ => none }
def PallocLeastWrongFalsely : Prop := pallocLeastRow.holds Tryd.pinned (OpenSpec.ofChange pallocLeastWrong)

/-- 'priorylaw09.PallocNone': WHATEVER THE INPUT: true; the input reads as it did. -/
def pallocNoneSpec : ChangeSpec := { name := "pallocNone", fn := fun _ => fun
  | [d1, d2] => { results := [.lit (.bool true)], args := [d1, d2] }
  | _ => none }
def pallocNoneRow : OpenClaim := { program := "ytepmljcapobodaadoor", sum := "f394368988c2ec7d6a6b869dd4ff16dfbc2553c67284215f3dad6aa93c3b35af", func := "priory/priorylaw09.PallocNone", spec := "pallocNone", unfollowed := true, recurses := true, named := ["math/bits.deBruijn64tab"], apart := false, laid := [("math/bits.deBruijn64tab", laid_math_bits_deBruijn64tab)] }
def PallocNoneSaid : Prop := pallocNoneRow.holds Tryd.pinned (OpenSpec.ofChange pallocNoneSpec)

/-- ITS FALSE NEIGHBOUR: 'it returns false'. Refute it at one input. -/
def pallocNoneWrong : ChangeSpec := { name := "pallocNone", fn := fun _ => fun
  | [d1, d2] => { results := [.lit (.bool false)], args := [d1, d2] }
  | _ => none }
def PallocNoneWrongFalsely : Prop := pallocNoneRow.holds Tryd.pinned (OpenSpec.ofChange pallocNoneWrong)

/-- 'priorylaw09.PallocApart': WHATEVER THE INPUT: true; the input reads as it did. -/
def pallocApartSpec : ChangeSpec := { name := "pallocApart", fn := fun _ => fun
  | [d1, d2, d3] => { results := [.lit (.bool true)], args := [d1, d2, d3] }
  | _ => none }
def pallocApartRow : OpenClaim := { program := "ytepmljcapobodaadoor", sum := "f394368988c2ec7d6a6b869dd4ff16dfbc2553c67284215f3dad6aa93c3b35af", func := "priory/priorylaw09.PallocApart", spec := "pallocApart", unfollowed := true, recurses := true, named := ["math/bits.deBruijn64tab"], apart := false, laid := [("math/bits.deBruijn64tab", laid_math_bits_deBruijn64tab)] }
def PallocApartSaid : Prop := pallocApartRow.holds Tryd.pinned (OpenSpec.ofChange pallocApartSpec)

/-- ITS FALSE NEIGHBOUR: 'it returns false'. Refute it at one input. -/
def pallocApartWrong : ChangeSpec := { name := "pallocApart", fn := fun _ => fun
  | [d1, d2, d3] => { results := [.lit (.bool false)], args := [d1, d2, d3] }
  | _ => none }
def PallocApartWrongFalsely : Prop := pallocApartRow.holds Tryd.pinned (OpenSpec.ofChange pallocApartWrong)

/-- 'priorylaw09.PallocTwo': WHATEVER THE INPUT: true; the input reads as it did. -/
def pallocTwoSpec : ChangeSpec := { name := "pallocTwo", fn := fun _ => fun
  | [d1, d2] => { results := [.lit (.bool true)], args := [d1, d2] }
  | _ => none }
def pallocTwoRow : OpenClaim := { program := "ytepmljcapobodaadoor", sum := "f394368988c2ec7d6a6b869dd4ff16dfbc2553c67284215f3dad6aa93c3b35af", func := "priory/priorylaw09.PallocTwo", spec := "pallocTwo", unfollowed := true, recurses := true, named := ["math/bits.deBruijn64tab"], apart := false, laid := [("math/bits.deBruijn64tab", laid_math_bits_deBruijn64tab)] }
def PallocTwoSaid : Prop := pallocTwoRow.holds Tryd.pinned (OpenSpec.ofChange pallocTwoSpec)

/-- ITS FALSE NEIGHBOUR: 'it returns false'. Refute it at one input. -/
def pallocTwoWrong : ChangeSpec := { name := "pallocTwo", fn := fun _ => fun
  | [d1, d2] => { results := [.lit (.bool false)], args := [d1, d2] }
  | _ => none }
def PallocTwoWrongFalsely : Prop := pallocTwoRow.holds Tryd.pinned (OpenSpec.ofChange pallocTwoWrong)

/-- 'priorylaw09.PallocPlays': WHATEVER THE INPUT: true; the input reads as it did. -/
def pallocPlaysSpec : ChangeSpec := { name := "pallocPlays", fn := fun _ => fun
  | [d1, d2, d3] => { results := [.lit (.bool true)], args := [d1, d2, d3] }
  | _ => none }
def pallocPlaysRow : OpenClaim := { program := "ytepmljcapobodaadoor", sum := "f394368988c2ec7d6a6b869dd4ff16dfbc2553c67284215f3dad6aa93c3b35af", func := "priory/priorylaw09.PallocPlays", spec := "pallocPlays", unfollowed := true, recurses := true, named := ["math/bits.deBruijn64tab"], apart := false, laid := [("math/bits.deBruijn64tab", laid_math_bits_deBruijn64tab)] }
def PallocPlaysSaid : Prop := pallocPlaysRow.holds Tryd.pinned (OpenSpec.ofChange pallocPlaysSpec)

/-- ITS FALSE NEIGHBOUR: 'it returns false'. Refute it at one input. -/
def pallocPlaysWrong : ChangeSpec := { name := "pallocPlays", fn := fun _ => fun
  | [d1, d2, d3] => { results := [.lit (.bool false)], args := [d1, d2, d3] }
  | _ => none }
def PallocPlaysWrongFalsely : Prop := pallocPlaysRow.holds Tryd.pinned (OpenSpec.ofChange pallocPlaysWrong)

/-- 'priorylaw09.PallocWhole': WHATEVER THE INPUT: true; the input reads as it did. -/
def pallocWholeSpec : ChangeSpec := { name := "pallocWhole", fn := fun _ => fun
  | [d1, d2] => { results := [.lit (.bool true)], args := [d1, d2] }
  | _ => none }
def pallocWholeRow : OpenClaim := { program := "ytepmljcapobodaadoor", sum := "f394368988c2ec7d6a6b869dd4ff16dfbc2553c67284215f3dad6aa93c3b35af", func := "priory/priorylaw09.PallocWhole", spec := "pallocWhole", unfollowed := true, recurses := true, named := ["math/bits.deBruijn64tab"], apart := false, laid := [("math/bits.deBruijn64tab", laid_math_bits_deBruijn64tab)] }
def PallocWholeSaid : Prop := pallocWholeRow.holds Tryd.pinned (OpenSpec.ofChange pallocWholeSpec)

/-- ITS FALSE NEIGHBOUR: 'it returns false'. Refute it at one input. -/
def pallocWholeWrong : ChangeSpec := { name := "pallocWhole", fn := fun _ => fun
  | [d1, d2] => { results := [.lit (.bool false)], args := [d1, d2] }
  | _ => none }
def PallocWholeWrongFalsely : Prop := pallocWholeRow.holds Tryd.pinned (OpenSpec.ofChange pallocWholeWrong)

/-- 'priorylaw10.PtableFull': WHATEVER THE INPUT: true; the input reads as it did. -/
def ptableFullSpec : ChangeSpec := { name := "ptableFull", fn := fun _ => fun
  | [d1, d2, d3] => { results := [.lit (.bool true)], args := [d1, d2, d3] }
  | _ => none }
def ptableFullRow : OpenClaim := { program := "ytepmljcapobodaadoor", sum := "f394368988c2ec7d6a6b869dd4ff16dfbc2553c67284215f3dad6aa93c3b35af", func := "priory/priorylaw10.PtableFull", spec := "ptableFull", unfollowed := true, recurses := true, named := ["math/bits.deBruijn64tab"], apart := false, laid := [("math/bits.deBruijn64tab", laid_math_bits_deBruijn64tab)] }
def PtableFullSaid : Prop := ptableFullRow.holds Tryd.pinned (OpenSpec.ofChange ptableFullSpec)

/-- ITS FALSE NEIGHBOUR: 'it returns false'. Refute it at one input. -/
def ptableFullWrong : ChangeSpec := { name := "ptableFull", fn := fun _ => fun
  | [d1, d2, d3] => { results := [.lit (.bool false)], args := [d1, d2, d3] }
  | _ => none }
def PtableFullWrongFalsely : Prop := ptableFullRow.holds Tryd.pinned (OpenSpec.ofChange ptableFullWrong)

/-- 'priorylaw10.PtableBack': WHATEVER THE INPUT: true; the input reads as it did. -/
def ptableBackSpec : ChangeSpec := { name := "ptableBack", fn := fun _ => fun
  | [d1, d2, d3] => { results := [.lit (.bool true)], args := [d1, d2, d3] }
  | _ => none }
def ptableBackRow : OpenClaim := { program := "ytepmljcapobodaadoor", sum := "f394368988c2ec7d6a6b869dd4ff16dfbc2553c67284215f3dad6aa93c3b35af", func := "priory/priorylaw10.PtableBack", spec := "ptableBack", unfollowed := true, recurses := true, named := ["math/bits.deBruijn64tab"], apart := false, laid := [("math/bits.deBruijn64tab", laid_math_bits_deBruijn64tab)] }
def PtableBackSaid : Prop := ptableBackRow.holds Tryd.pinned (OpenSpec.ofChange ptableBackSpec)

/-- ITS FALSE NEIGHBOUR: 'it returns false'. Refute it at one input. -/
def ptableBackWrong : ChangeSpec := { name := "ptableBack", fn := fun _ => fun
  | [d1, d2, d3] => { results := [.lit (.bool false)], args := [d1, d2, d3] }
  | _ => none }
def PtableBackWrongFalsely : Prop := ptableBackRow.holds Tryd.pinned (OpenSpec.ofChange ptableBackWrong)

/-- 'priorylaw10.PtablePlays': WHATEVER THE INPUT: true; the input reads as it did. -/
def ptablePlaysSpec : ChangeSpec := { name := "ptablePlays", fn := fun _ => fun
  | [d1, d2] => { results := [.lit (.bool true)], args := [d1, d2] }
  | _ => none }
def ptablePlaysRow : OpenClaim := { program := "ytepmljcapobodaadoor", sum := "f394368988c2ec7d6a6b869dd4ff16dfbc2553c67284215f3dad6aa93c3b35af", func := "priory/priorylaw10.PtablePlays", spec := "ptablePlays", unfollowed := true, recurses := true, named := ["math/bits.deBruijn64tab"], apart := false, laid := [("math/bits.deBruijn64tab", laid_math_bits_deBruijn64tab)] }
def PtablePlaysSaid : Prop := ptablePlaysRow.holds Tryd.pinned (OpenSpec.ofChange ptablePlaysSpec)

/-- ITS FALSE NEIGHBOUR: 'it returns false'. Refute it at one input. -/
def ptablePlaysWrong : ChangeSpec := { name := "ptablePlays", fn := fun _ => fun
  | [d1, d2] => { results := [.lit (.bool false)], args := [d1, d2] }
  | _ => none }
def PtablePlaysWrongFalsely : Prop := ptablePlaysRow.holds Tryd.pinned (OpenSpec.ofChange ptablePlaysWrong)

/-- 'priorylaw10.PtableNone': WHATEVER THE INPUT: true; the input reads as it did. -/
def ptableNoneSpec : ChangeSpec := { name := "ptableNone", fn := fun _ => fun
  | [d1, d2, d3] => { results := [.lit (.bool true)], args := [d1, d2, d3] }
  | _ => none }
def ptableNoneRow : OpenClaim := { program := "ytepmljcapobodaadoor", sum := "f394368988c2ec7d6a6b869dd4ff16dfbc2553c67284215f3dad6aa93c3b35af", func := "priory/priorylaw10.PtableNone", spec := "ptableNone", unfollowed := true, recurses := true, named := ["math/bits.deBruijn64tab"], apart := false, laid := [("math/bits.deBruijn64tab", laid_math_bits_deBruijn64tab)] }
def PtableNoneSaid : Prop := ptableNoneRow.holds Tryd.pinned (OpenSpec.ofChange ptableNoneSpec)

/-- ITS FALSE NEIGHBOUR: 'it returns false'. Refute it at one input. -/
def ptableNoneWrong : ChangeSpec := { name := "ptableNone", fn := fun _ => fun
  | [d1, d2, d3] => { results := [.lit (.bool false)], args := [d1, d2, d3] }
  | _ => none }
def PtableNoneWrongFalsely : Prop := ptableNoneRow.holds Tryd.pinned (OpenSpec.ofChange ptableNoneWrong)

/-- 'priorylaw10.PtableTwo': WHATEVER THE INPUT: true; the input reads as it did. -/
def ptableTwoSpec : ChangeSpec := { name := "ptableTwo", fn := fun _ => fun
  | [d1, d2, d3, d4] => { results := [.lit (.bool true)], args := [d1, d2, d3, d4] }
  | _ => none }
def ptableTwoRow : OpenClaim := { program := "ytepmljcapobodaadoor", sum := "f394368988c2ec7d6a6b869dd4ff16dfbc2553c67284215f3dad6aa93c3b35af", func := "priory/priorylaw10.PtableTwo", spec := "ptableTwo", unfollowed := true, recurses := true, named := ["math/bits.deBruijn64tab"], apart := false, laid := [("math/bits.deBruijn64tab", laid_math_bits_deBruijn64tab)] }
def PtableTwoSaid : Prop := ptableTwoRow.holds Tryd.pinned (OpenSpec.ofChange ptableTwoSpec)

/-- ITS FALSE NEIGHBOUR: 'it returns false'. Refute it at one input. -/
def ptableTwoWrong : ChangeSpec := { name := "ptableTwo", fn := fun _ => fun
  | [d1, d2, d3, d4] => { results := [.lit (.bool false)], args := [d1, d2, d3, d4] }
  | _ => none }
def PtableTwoWrongFalsely : Prop := ptableTwoRow.holds Tryd.pinned (OpenSpec.ofChange ptableTwoWrong)

/-- 'priorylaw10.PtableWalk': WHATEVER THE INPUT: true; the input reads as it did. -/
def ptableWalkSpec : ChangeSpec := { name := "ptableWalk", fn := fun _ => fun
  | [d1, d2, d3, d4] => { results := [.lit (.bool true)], args := [d1, d2, d3, d4] }
  | _ => none }
def ptableWalkRow : OpenClaim := { program := "ytepmljcapobodaadoor", sum := "f394368988c2ec7d6a6b869dd4ff16dfbc2553c67284215f3dad6aa93c3b35af", func := "priory/priorylaw10.PtableWalk", spec := "ptableWalk", unfollowed := true, recurses := true, named := ["math/bits.deBruijn64tab"], apart := false, laid := [("math/bits.deBruijn64tab", laid_math_bits_deBruijn64tab)] }
def PtableWalkSaid : Prop := ptableWalkRow.holds Tryd.pinned (OpenSpec.ofChange ptableWalkSpec)

/-- ITS FALSE NEIGHBOUR: 'it returns false'. Refute it at one input. -/
def ptableWalkWrong : ChangeSpec := { name := "ptableWalk", fn := fun _ => fun
  | [d1, d2, d3, d4] => { results := [.lit (.bool false)], args := [d1, d2, d3, d4] }
  | _ => none }
def PtableWalkWrongFalsely : Prop := ptableWalkRow.holds Tryd.pinned (OpenSpec.ofChange ptableWalkWrong)

/- THE SECOND FORM. 'bulk': how many values and letters a reading holds, each counted each time it is reached (what is shared counts as often as it is met; a slice's spare places count too). A statement '..UptoSaid' is the law's where the arguments, and the package variables that the reading takes, are together of bulk at most 1048576: NARROWER than '..Said'. Prove '..Said' where nothing that the law and all that it calls make is longer than what came in: it says more and counts as full. Else prove '..UptoSaid'. A law counts once. -/
mutual
def uptoBulk {H : Type} : DataW H → Nat
  | .lit (.string bytes) => bytes.length + 1
  | .lit _ => 1
  | .nil => 1
  | .ptr d => uptoBulk d + 1
  | .slice elems spare => uptoBulkAll elems + uptoBulkAll spare + 1
  | .agg parts => uptoBulkAll parts + 1
  | .iface _ d => uptoBulk d + 1
  | .map entries => uptoBulkEntries entries + 1
  | .held _ => 1
def uptoBulkAll {H : Type} : List (DataW H) → Nat
  | [] => 0
  | d :: r => uptoBulk d + uptoBulkAll r
def uptoBulkEntries {H : Type} : List (Lit × DataW H) → Nat
  | [] => 0
  | x :: r => uptoBulkEntry x + uptoBulkEntries r
def uptoBulkEntry {H : Type} : Lit × DataW H → Nat
  | (.string bytes, d) => bytes.length + uptoBulk d + 1
  | (_, d) => uptoBulk d + 1
 end
def uptoSmall : (H : Type) → List (DataW H) → Bool := fun _ ds => decide (uptoBulkAll ds ≤ 1048576)
def OpenSpec.upto (s : _root_.Go.ChangeSpec) : _root_.Go.OpenSpec := { _root_.Go.OpenSpec.ofChange s with cond := some uptoSmall }

/-- 'priorylaw09.PallocRefs', WHERE WHAT IT READS IS OF BULK AT MOST 1048576: true; the input reads as it did. -/
def pallocRefsUptoRow : OpenClaim := { program := "ytepmljcapobodaadoor", sum := "f394368988c2ec7d6a6b869dd4ff16dfbc2553c67284215f3dad6aa93c3b35af", func := "priory/priorylaw09.PallocRefs", spec := "pallocRefs", unfollowed := true, recurses := true, named := ["math/bits.deBruijn64tab"], apart := false, laid := [("math/bits.deBruijn64tab", laid_math_bits_deBruijn64tab)], narrowed := true }
def PallocRefsUptoSaid : Prop := pallocRefsUptoRow.holds Tryd.pinned (OpenSpec.upto pallocRefsSpec)

/-- 'priorylaw09.PallocLeast', WHERE WHAT IT READS IS OF BULK AT MOST 1048576: true; the input reads as it did. -/
def pallocLeastUptoRow : OpenClaim := { program := "ytepmljcapobodaadoor", sum := "f394368988c2ec7d6a6b869dd4ff16dfbc2553c67284215f3dad6aa93c3b35af", func := "priory/priorylaw09.PallocLeast", spec := "pallocLeast", unfollowed := true, recurses := true, named := ["math/bits.deBruijn64tab"], apart := false, laid := [("math/bits.deBruijn64tab", laid_math_bits_deBruijn64tab)], narrowed := true }
def PallocLeastUptoSaid : Prop := pallocLeastUptoRow.holds Tryd.pinned (OpenSpec.upto pallocLeastSpec)

/-- 'priorylaw09.PallocNone', WHERE WHAT IT READS IS OF BULK AT MOST 1048576: true; the input reads as it did. -/
def pallocNoneUptoRow : OpenClaim := { program := "ytepmljcapobodaadoor", sum := "f394368988c2ec7d6a6b869dd4ff16dfbc2553c67284215f3dad6aa93c3b35af", func := "priory/priorylaw09.PallocNone", spec := "pallocNone", unfollowed := true, recurses := true, named := ["math/bits.deBruijn64tab"], apart := false, laid := [("math/bits.deBruijn64tab", laid_math_bits_deBruijn64tab)], narrowed := true }
def PallocNoneUptoSaid : Prop := pallocNoneUptoRow.holds Tryd.pinned (OpenSpec.upto pallocNoneSpec)

/-- 'priorylaw09.PallocApart', WHERE WHAT IT READS IS OF BULK AT MOST 1048576: true; the input reads as it did. -/
def pallocApartUptoRow : OpenClaim := { program := "ytepmljcapobodaadoor", sum := "f394368988c2ec7d6a6b869dd4ff16dfbc2553c67284215f3dad6aa93c3b35af", func := "priory/priorylaw09.PallocApart", spec := "pallocApart", unfollowed := true, recurses := true, named := ["math/bits.deBruijn64tab"], apart := false, laid := [("math/bits.deBruijn64tab", laid_math_bits_deBruijn64tab)], narrowed := true }
def PallocApartUptoSaid : Prop := pallocApartUptoRow.holds Tryd.pinned (OpenSpec.upto pallocApartSpec)

/-- 'priorylaw09.PallocTwo', WHERE WHAT IT READS IS OF BULK AT MOST 1048576: true; the input reads as it did. -/
def pallocTwoUptoRow : OpenClaim := { program := "ytepmljcapobodaadoor", sum := "f394368988c2ec7d6a6b869dd4ff16dfbc2553c67284215f3dad6aa93c3b35af", func := "priory/priorylaw09.PallocTwo", spec := "pallocTwo", unfollowed := true, recurses := true, named := ["math/bits.deBruijn64tab"], apart := false, laid := [("math/bits.deBruijn64tab", laid_math_bits_deBruijn64tab)], narrowed := true }
def PallocTwoUptoSaid : Prop := pallocTwoUptoRow.holds Tryd.pinned (OpenSpec.upto pallocTwoSpec)

/-- 'priorylaw09.PallocPlays', WHERE WHAT IT READS IS OF BULK AT MOST 1048576: true; the input reads as it did. -/
def pallocPlaysUptoRow : OpenClaim := { program := "ytepmljcapobodaadoor", sum := "f394368988c2ec7d6a6b869dd4ff16dfbc2553c67284215f3dad6aa93c3b35af", func := "priory/priorylaw09.PallocPlays", spec := "pallocPlays", unfollowed := true, recurses := true, named := ["math/bits.deBruijn64tab"], apart := false, laid := [("math/bits.deBruijn64tab", laid_math_bits_deBruijn64tab)], narrowed := true }
def PallocPlaysUptoSaid : Prop := pallocPlaysUptoRow.holds Tryd.pinned (OpenSpec.upto pallocPlaysSpec)

/-- 'priorylaw09.PallocWhole', WHERE WHAT IT READS IS OF BULK AT MOST 1048576: true; the input reads as it did. -/
def pallocWholeUptoRow : OpenClaim := { program := "ytepmljcapobodaadoor", sum := "f394368988c2ec7d6a6b869dd4ff16dfbc2553c67284215f3dad6aa93c3b35af", func := "priory/priorylaw09.PallocWhole", spec := "pallocWhole", unfollowed := true, recurses := true, named := ["math/bits.deBruijn64tab"], apart := false, laid := [("math/bits.deBruijn64tab", laid_math_bits_deBruijn64tab)], narrowed := true }
def PallocWholeUptoSaid : Prop := pallocWholeUptoRow.holds Tryd.pinned (OpenSpec.upto pallocWholeSpec)

/-- 'priorylaw10.PtableFull', WHERE WHAT IT READS IS OF BULK AT MOST 1048576: true; the input reads as it did. -/
def ptableFullUptoRow : OpenClaim := { program := "ytepmljcapobodaadoor", sum := "f394368988c2ec7d6a6b869dd4ff16dfbc2553c67284215f3dad6aa93c3b35af", func := "priory/priorylaw10.PtableFull", spec := "ptableFull", unfollowed := true, recurses := true, named := ["math/bits.deBruijn64tab"], apart := false, laid := [("math/bits.deBruijn64tab", laid_math_bits_deBruijn64tab)], narrowed := true }
def PtableFullUptoSaid : Prop := ptableFullUptoRow.holds Tryd.pinned (OpenSpec.upto ptableFullSpec)

/-- 'priorylaw10.PtableBack', WHERE WHAT IT READS IS OF BULK AT MOST 1048576: true; the input reads as it did. -/
def ptableBackUptoRow : OpenClaim := { program := "ytepmljcapobodaadoor", sum := "f394368988c2ec7d6a6b869dd4ff16dfbc2553c67284215f3dad6aa93c3b35af", func := "priory/priorylaw10.PtableBack", spec := "ptableBack", unfollowed := true, recurses := true, named := ["math/bits.deBruijn64tab"], apart := false, laid := [("math/bits.deBruijn64tab", laid_math_bits_deBruijn64tab)], narrowed := true }
def PtableBackUptoSaid : Prop := ptableBackUptoRow.holds Tryd.pinned (OpenSpec.upto ptableBackSpec)

/-- 'priorylaw10.PtablePlays', WHERE WHAT IT READS IS OF BULK AT MOST 1048576: true; the input reads as it did. -/
def ptablePlaysUptoRow : OpenClaim := { program := "ytepmljcapobodaadoor", sum := "f394368988c2ec7d6a6b869dd4ff16dfbc2553c67284215f3dad6aa93c3b35af", func := "priory/priorylaw10.PtablePlays", spec := "ptablePlays", unfollowed := true, recurses := true, named := ["math/bits.deBruijn64tab"], apart := false, laid := [("math/bits.deBruijn64tab", laid_math_bits_deBruijn64tab)], narrowed := true }
def PtablePlaysUptoSaid : Prop := ptablePlaysUptoRow.holds Tryd.pinned (OpenSpec.upto ptablePlaysSpec)

/-- 'priorylaw10.PtableNone', WHERE WHAT IT READS IS OF BULK AT MOST 1048576: true; the input reads as it did. -/
def ptableNoneUptoRow : OpenClaim := { program := "ytepmljcapobodaadoor", sum := "f394368988c2ec7d6a6b869dd4ff16dfbc2553c67284215f3dad6aa93c3b35af", func := "priory/priorylaw10.PtableNone", spec := "ptableNone", unfollowed := true, recurses := true, named := ["math/bits.deBruijn64tab"], apart := false, laid := [("math/bits.deBruijn64tab", laid_math_bits_deBruijn64tab)], narrowed := true }
def PtableNoneUptoSaid : Prop := ptableNoneUptoRow.holds Tryd.pinned (OpenSpec.upto ptableNoneSpec)

/-- 'priorylaw10.PtableTwo', WHERE WHAT IT READS IS OF BULK AT MOST 1048576: true; the input reads as it did. -/
def ptableTwoUptoRow : OpenClaim := { program := "ytepmljcapobodaadoor", sum := "f394368988c2ec7d6a6b869dd4ff16dfbc2553c67284215f3dad6aa93c3b35af", func := "priory/priorylaw10.PtableTwo", spec := "ptableTwo", unfollowed := true, recurses := true, named := ["math/bits.deBruijn64tab"], apart := false, laid := [("math/bits.deBruijn64tab", laid_math_bits_deBruijn64tab)], narrowed := true }
def PtableTwoUptoSaid : Prop := ptableTwoUptoRow.holds Tryd.pinned (OpenSpec.upto ptableTwoSpec)

/-- 'priorylaw10.PtableWalk', WHERE WHAT IT READS IS OF BULK AT MOST 1048576: true; the input reads as it did. -/
def ptableWalkUptoRow : OpenClaim := { program := "ytepmljcapobodaadoor", sum := "f394368988c2ec7d6a6b869dd4ff16dfbc2553c67284215f3dad6aa93c3b35af", func := "priory/priorylaw10.PtableWalk", spec := "ptableWalk", unfollowed := true, recurses := true, named := ["math/bits.deBruijn64tab"], apart := false, laid := [("math/bits.deBruijn64tab", laid_math_bits_deBruijn64tab)], narrowed := true }
def PtableWalkUptoSaid : Prop := ptableWalkUptoRow.holds Tryd.pinned (OpenSpec.upto ptableWalkSpec)

end Rows
end Go.Proofs.YtepmljcapobodaaDoor
