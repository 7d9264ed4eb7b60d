/-
  No cell of these rows narrows 'for every input' (looked for: loops, veiled, ifaces, maps, wideKeys, modest, calm, conditions, laid).
  DERIVED. THE GIVEN ROWS OF THIS SEAT. 6 by the template 'for every input the law returns true; each argument reads behind the call as it read before'; 0 by the template 'total and deterministic' (their statements: YtepmljcapobodaaTotals.lean).
  GIVEN WITH THE SEED: the statements are not yours to turn. If you find one false, say at which input.
  Laid BY PROGRAM, IN A SANDBOX (cutbox-rows.mjs): the forced cells as the released guide's own fill.sh prints them over the translation 6f55bccdf2a4d197… (all of the seat's roots in one cut). By AI agents, Wed Nov 11 2026. No macro, syntax, notation, axiom, sorry.
-/
import Derived.Test.YtepmljcapobodaaChecked
import GoSem.Claim
import GoSem.ClaimJoined
import GoSem.ClaimMapViews
import Derived.JoinedTies
import Derived.KernelRfl
namespace Go.Proofs.Ytepmljcapobodaa
/- THE CELL 'sum', in the pinned program and in every row, IS THE sha256 OF THE DUMP (.gsa) THAT YtepmljcapobodaaProg.lean LOADS. Nothing in Lean hashes anything: it is a label: what it is worth is what the hold of that sum in a sandbox is worth. -/
noncomputable def Try.pinned : Pinned := { name := "ytepmljcapobodaa", sum := "6f55bccdf2a4d19759b45a9ea3702cdba2884d53a075323d2a8105a2312ebddd", checked := Try.checked }
namespace Rows
def none {H : Type} : Left H := { results := [], args := [] }

/-- 'priorylaw11.BudgetDeep': WHATEVER THE INPUT: true; the input reads as it did. -/
def budgetDeepSpec : ChangeSpec := { name := "budgetDeep", fn := fun _ => fun
  | [d1, d2, d3] => { results := [.lit (.bool true)], args := [d1, d2, d3] }
  | _ => none }
def budgetDeepRow : OpenClaim := { program := "ytepmljcapobodaa", sum := "6f55bccdf2a4d19759b45a9ea3702cdba2884d53a075323d2a8105a2312ebddd", func := "priory/priorylaw11.BudgetDeep", spec := "budgetDeep", unfollowed := true, recurses := true, apart := false }
def BudgetDeepSaid : Prop := budgetDeepRow.holds Try.pinned (OpenSpec.ofChange budgetDeepSpec)

/-- ITS FALSE NEIGHBOUR: 'it returns false'. Refute it at one input. -/
def budgetDeepWrong : ChangeSpec := { name := "budgetDeep", fn := fun _ => fun
  | [d1, d2, d3] => { results := [.lit (.bool false)], args := [d1, d2, d3] }
  | _ => none }
def BudgetDeepWrongFalsely : Prop := budgetDeepRow.holds Try.pinned (OpenSpec.ofChange budgetDeepWrong)

/-- 'priorylaw11.BudgetGone': WHATEVER THE INPUT: true; the input reads as it did. -/
def budgetGoneSpec : ChangeSpec := { name := "budgetGone", fn := fun _ => fun
  | [d1, d2, d3, d4] => { results := [.lit (.bool true)], args := [d1, d2, d3, d4] }
  | _ => none }
def budgetGoneRow : OpenClaim := { program := "ytepmljcapobodaa", sum := "6f55bccdf2a4d19759b45a9ea3702cdba2884d53a075323d2a8105a2312ebddd", func := "priory/priorylaw11.BudgetGone", spec := "budgetGone", unfollowed := true, recurses := true, apart := false }
def BudgetGoneSaid : Prop := budgetGoneRow.holds Try.pinned (OpenSpec.ofChange budgetGoneSpec)

/-- ITS FALSE NEIGHBOUR: 'it returns false'. Refute it at one input. -/
def budgetGoneWrong : ChangeSpec := { name := "budgetGone", fn := fun _ => fun
  | [d1, d2, d3, d4] => { results := [.lit (.bool false)], args := [d1, d2, d3, d4] }
  | _ => none }
def BudgetGoneWrongFalsely : Prop := budgetGoneRow.holds Try.pinned (OpenSpec.ofChange budgetGoneWrong)

/-- 'priorylaw11.BudgetPlays': WHATEVER THE INPUT: true; the input reads as it did. -/
def budgetPlaysSpec : ChangeSpec := { name := "budgetPlays", fn := fun _ => fun
  | [d1, d2] => { results := [.lit (.bool true)], args := [d1, d2] }
  | _ => none }
def budgetPlaysRow : OpenClaim := { program := "ytepmljcapobodaa", sum := "6f55bccdf2a4d19759b45a9ea3702cdba2884d53a075323d2a8105a2312ebddd", func := "priory/priorylaw11.BudgetPlays", spec := "budgetPlays", unfollowed := true, recurses := true, apart := false }
def BudgetPlaysSaid : Prop := budgetPlaysRow.holds Try.pinned (OpenSpec.ofChange budgetPlaysSpec)

/-- ITS FALSE NEIGHBOUR: 'it returns false'. Refute it at one input. -/
def budgetPlaysWrong : ChangeSpec := { name := "budgetPlays", fn := fun _ => fun
  | [d1, d2] => { results := [.lit (.bool false)], args := [d1, d2] }
  | _ => none }
def BudgetPlaysWrongFalsely : Prop := budgetPlaysRow.holds Try.pinned (OpenSpec.ofChange budgetPlaysWrong)

/-- 'priorylaw11.BudgetNone': WHATEVER THE INPUT: true; the input reads as it did. -/
def budgetNoneSpec : ChangeSpec := { name := "budgetNone", fn := fun _ => fun
  | [d1, d2, d3] => { results := [.lit (.bool true)], args := [d1, d2, d3] }
  | _ => none }
def budgetNoneRow : OpenClaim := { program := "ytepmljcapobodaa", sum := "6f55bccdf2a4d19759b45a9ea3702cdba2884d53a075323d2a8105a2312ebddd", func := "priory/priorylaw11.BudgetNone", spec := "budgetNone", unfollowed := true, recurses := true, apart := false }
def BudgetNoneSaid : Prop := budgetNoneRow.holds Try.pinned (OpenSpec.ofChange budgetNoneSpec)

/-- ITS FALSE NEIGHBOUR: 'it returns false'. Refute it at one input. -/
def budgetNoneWrong : ChangeSpec := { name := "budgetNone", fn := fun _ => fun
  | [d1, d2, d3] => { results := [.lit (.bool false)], args := [d1, d2, d3] }
  | _ => none }
def BudgetNoneWrongFalsely : Prop := budgetNoneRow.holds Try.pinned (OpenSpec.ofChange budgetNoneWrong)

/-- 'priorylaw11.BudgetWhole': WHATEVER THE INPUT: true; the input reads as it did. -/
def budgetWholeSpec : ChangeSpec := { name := "budgetWhole", fn := fun _ => fun
  | [d1, d2] => { results := [.lit (.bool true)], args := [d1, d2] }
  | _ => none }
def budgetWholeRow : OpenClaim := { program := "ytepmljcapobodaa", sum := "6f55bccdf2a4d19759b45a9ea3702cdba2884d53a075323d2a8105a2312ebddd", func := "priory/priorylaw11.BudgetWhole", spec := "budgetWhole", unfollowed := true, recurses := true, apart := false }
def BudgetWholeSaid : Prop := budgetWholeRow.holds Try.pinned (OpenSpec.ofChange budgetWholeSpec)

/-- ITS FALSE NEIGHBOUR: 'it returns false'. Refute it at one input. -/
def budgetWholeWrong : ChangeSpec := { name := "budgetWhole", fn := fun _ => fun
  | [d1, d2] => { results := [.lit (.bool false)], args := [d1, d2] }
  | _ => none }
def BudgetWholeWrongFalsely : Prop := budgetWholeRow.holds Try.pinned (OpenSpec.ofChange budgetWholeWrong)

/-- 'priorylaw11.BudgetBack': WHATEVER THE INPUT: true; the input reads as it did. -/
def budgetBackSpec : ChangeSpec := { name := "budgetBack", fn := fun _ => fun
  | [d1, d2, d3, d4, d5, d6] => { results := [.lit (.bool true)], args := [d1, d2, d3, d4, d5, d6] }
  | _ => none }
def budgetBackRow : OpenClaim := { program := "ytepmljcapobodaa", sum := "6f55bccdf2a4d19759b45a9ea3702cdba2884d53a075323d2a8105a2312ebddd", func := "priory/priorylaw11.BudgetBack", spec := "budgetBack", unfollowed := true, recurses := true, apart := false }
def BudgetBackSaid : Prop := budgetBackRow.holds Try.pinned (OpenSpec.ofChange budgetBackSpec)

/-- ITS FALSE NEIGHBOUR: 'it returns false'. Refute it at one input. -/
def budgetBackWrong : ChangeSpec := { name := "budgetBack", fn := fun _ => fun
  | [d1, d2, d3, d4, d5, d6] => { results := [.lit (.bool false)], args := [d1, d2, d3, d4, d5, d6] }
  | _ => none }
def BudgetBackWrongFalsely : Prop := budgetBackRow.holds Try.pinned (OpenSpec.ofChange budgetBackWrong)

/- THE SECOND FORM. 'bulk': how many values and letters a reading holds, each counted each time it is reached (what is shared counts as often as it is met; a slice's spare places count too). A statement '..UptoSaid' is the law's where the arguments, and the package variables that the reading takes, are together of bulk at most 1048576: NARROWER than '..Said'. Prove '..Said' where nothing that the law and all that it calls make is longer than what came in: it says more and counts as full. Else prove '..UptoSaid'. A law counts once. -/
mutual
def uptoBulk {H : Type} : DataW H → Nat
  | .lit (.string bytes) => bytes.length + 1
  | .lit _ => 1
  | .nil => 1
  | .ptr d => uptoBulk d + 1
  | .slice elems spare => uptoBulkAll elems + uptoBulkAll spare + 1
  | .agg parts => uptoBulkAll parts + 1
  | .iface _ d => uptoBulk d + 1
  | .map entries => uptoBulkEntries entries + 1
  | .held _ => 1
def uptoBulkAll {H : Type} : List (DataW H) → Nat
  | [] => 0
  | d :: r => uptoBulk d + uptoBulkAll r
def uptoBulkEntries {H : Type} : List (Lit × DataW H) → Nat
  | [] => 0
  | x :: r => uptoBulkEntry x + uptoBulkEntries r
def uptoBulkEntry {H : Type} : Lit × DataW H → Nat
  | (.string bytes, d) => bytes.length + uptoBulk d + 1
  | (_, d) => uptoBulk d + 1
 end
def uptoSmall : (H : Type) → List (DataW H) → Bool := fun _ ds => decide (uptoBulkAll ds ≤ 1048576)
def OpenSpec.upto (s : _root_.Go.ChangeSpec) : _root_.Go.OpenSpec := { _root_.Go.OpenSpec.ofChange s with cond := some uptoSmall }

/-- 'priorylaw11.BudgetDeep', WHERE WHAT IT READS IS OF BULK AT MOST 1048576: true; the input reads as it did. -/
def budgetDeepUptoRow : OpenClaim := { program := "ytepmljcapobodaa", sum := "6f55bccdf2a4d19759b45a9ea3702cdba2884d53a075323d2a8105a2312ebddd", func := "priory/priorylaw11.BudgetDeep", spec := "budgetDeep", unfollowed := true, recurses := true, apart := false, narrowed := true }
def BudgetDeepUptoSaid : Prop := budgetDeepUptoRow.holds Try.pinned (OpenSpec.upto budgetDeepSpec)

/-- 'priorylaw11.BudgetGone', WHERE WHAT IT READS IS OF BULK AT MOST 1048576: true; the input reads as it did. -/
def budgetGoneUptoRow : OpenClaim := { program := "ytepmljcapobodaa", sum := "6f55bccdf2a4d19759b45a9ea3702cdba2884d53a075323d2a8105a2312ebddd", func := "priory/priorylaw11.BudgetGone", spec := "budgetGone", unfollowed := true, recurses := true, apart := false, narrowed := true }
def BudgetGoneUptoSaid : Prop := budgetGoneUptoRow.holds Try.pinned (OpenSpec.upto budgetGoneSpec)

/-- 'priorylaw11.BudgetPlays', WHERE WHAT IT READS IS OF BULK AT MOST 1048576: true; the input reads as it did. -/
def budgetPlaysUptoRow : OpenClaim := { program := "ytepmljcapobodaa", sum := "6f55bccdf2a4d19759b45a9ea3702cdba2884d53a075323d2a8105a2312ebddd", func := "priory/priorylaw11.BudgetPlays", spec := "budgetPlays", unfollowed := true, recurses := true, apart := false, narrowed := true }
def BudgetPlaysUptoSaid : Prop := budgetPlaysUptoRow.holds Try.pinned (OpenSpec.upto budgetPlaysSpec)

/-- 'priorylaw11.BudgetNone', WHERE WHAT IT READS IS OF BULK AT MOST 1048576: true; the input reads as it did. -/
def budgetNoneUptoRow : OpenClaim := { program := "ytepmljcapobodaa", sum := "6f55bccdf2a4d19759b45a9ea3702cdba2884d53a075323d2a8105a2312ebddd", func := "priory/priorylaw11.BudgetNone", spec := "budgetNone", unfollowed := true, recurses := true, apart := false, narrowed := true }
def BudgetNoneUptoSaid : Prop := budgetNoneUptoRow.holds Try.pinned (OpenSpec.upto budgetNoneSpec)

/-- 'priorylaw11.BudgetWhole', WHERE WHAT IT READS IS OF BULK AT MOST 1048576: true; the input reads as it did. -/
def budgetWholeUptoRow : OpenClaim := { program := "ytepmljcapobodaa", sum := "6f55bccdf2a4d19759b45a9ea3702cdba2884d53a075323d2a8105a2312ebddd", func := "priory/priorylaw11.BudgetWhole", spec := "budgetWhole", unfollowed := true, recurses := true, apart := false, narrowed := true }
def BudgetWholeUptoSaid : Prop := budgetWholeUptoRow.holds Try.pinned (OpenSpec.upto budgetWholeSpec)

/-- 'priorylaw11.BudgetBack', WHERE WHAT IT READS IS OF BULK AT MOST 1048576: true; the input reads as it did. -/
def budgetBackUptoRow : OpenClaim := { program := "ytepmljcapobodaa", sum := "6f55bccdf2a4d19759b45a9ea3702cdba2884d53a075323d2a8105a2312ebddd", func := "priory/priorylaw11.BudgetBack", spec := "budgetBack", unfollowed := true, recurses := true, apart := false, narrowed := true }
def BudgetBackUptoSaid : Prop := budgetBackUptoRow.holds Try.pinned (OpenSpec.upto budgetBackSpec)

end Rows
end Go.Proofs.Ytepmljcapobodaa
