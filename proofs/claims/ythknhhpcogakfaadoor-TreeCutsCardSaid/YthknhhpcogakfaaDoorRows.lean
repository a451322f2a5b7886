/-
  NARROWER THAN 'FOR EVERY INPUT', by the rows' own cells (each row's printed sentence says how): TreeParents: laid · TreeKids: laid · TreeCuts: laid · TreeRights: laid · TreePuts: laid · TreeOwn: laid · TreeBack: laid · TreeMoves: laid.
  DERIVED. THE GIVEN ROWS OF THIS SEAT. 8 by the template 'for every input the law returns true; each argument reads behind the call as it read before'; 0 by the template 'total and deterministic' (their statements: YthknhhpcogakfaaDoorTotals.lean).
  GIVEN WITH THE SEED: the statements are not yours to turn. If you find one false, say at which input.
  Laid BY PROGRAM, IN A SANDBOX (cutbox-rows.mjs): the forced cells as the released guide's own fill.sh prints them over the translation ac5c79fab2732894… (all of the seat's roots in one cut). By AI agents, Wed Nov 11 2026. No macro, syntax, notation, axiom, sorry.
-/
import Derived.Test.YthknhhpcogakfaaDoorChecked
import GoSem.Claim
import GoSem.ClaimJoined
import GoSem.ClaimMapViews
import Derived.JoinedTies
import Derived.KernelRfl
namespace Go.Proofs.YthknhhpcogakfaaDoor
/- THE CELL 'sum', in the pinned program and in every row, IS THE sha256 OF THE DUMP (.gsa) THAT YthknhhpcogakfaaDoorProg.lean LOADS. Nothing in Lean hashes anything: it is a label: what it is worth is what the hold of that sum in a sandbox is worth. -/
noncomputable def Tryd.pinned : Pinned := { name := "ythknhhpcogakfaadoor", sum := "ac5c79fab27328942987d361026cb5f13656b1a2d64cec051a55ac435c0c146b", checked := Tryd.checked }
namespace Rows
def none {H : Type} : Left H := { results := [], args := [] }

/- WHAT THE LISTED PACKAGE-LEVEL VARIABLES READ AS WHEN THE CALL BEGINS. Each datum BY PROGRAM (the guide's laid-datum.mjs) off the statement by which the dump's own 'gosem.cut.vars' lays the variable. In a bare row this is a premise. The card (YthknhhpcogakfaaDoorCards.lean) ties it to the program's text. -/
def laid_pleacher_tree_errTree {H : Type} : DataW H := .iface "*errors.errorString" (.ptr (.agg [.lit (.string [110, 111, 32, 116, 114, 101, 101])]))
def laid_pleacher_tree_errPlace {H : Type} : DataW H := .iface "*errors.errorString" (.ptr (.agg [.lit (.string [110, 111, 32, 112, 108, 97, 99, 101])]))

/-- 'pleacherlaw11.TreeParents': WHATEVER THE INPUT: true; the input reads as it did. -/
def treeParentsSpec : ChangeSpec := { name := "treeParents", fn := fun _ => fun
  | [d] => { results := [.lit (.bool true)], args := [d] }
  | _ => none }
def treeParentsRow : OpenClaim := { program := "ythknhhpcogakfaadoor", sum := "ac5c79fab27328942987d361026cb5f13656b1a2d64cec051a55ac435c0c146b", func := "pleacher/pleacherlaw11.TreeParents", spec := "treeParents", inPlace := ["internal/reflectlite.TypeOf"], unfollowed := true, recurses := true, named := ["pleacher/tree.errTree", "pleacher/tree.errPlace"], apart := false, laid := [("pleacher/tree.errTree", laid_pleacher_tree_errTree), ("pleacher/tree.errPlace", laid_pleacher_tree_errPlace)] }
def TreeParentsSaid : Prop := treeParentsRow.holds Tryd.pinned (OpenSpec.ofChange treeParentsSpec)

/-- ITS FALSE NEIGHBOUR: 'it returns false'. Refute it at one input. -/
def treeParentsWrong : ChangeSpec := { name := "treeParents", fn := fun _ => fun
  | [d] => { results := [.lit (.bool false)], args := [d] }
  | _ => none }
def TreeParentsWrongFalsely : Prop := treeParentsRow.holds Tryd.pinned (OpenSpec.ofChange treeParentsWrong)

/-- 'pleacherlaw11.TreeKids': WHATEVER THE INPUT: true; the input reads as it did. -/
def treeKidsSpec : ChangeSpec := { name := "treeKids", fn := fun _ => fun
  | [d1, d2] => { results := [.lit (.bool true)], args := [d1, d2] }
  | _ => none }
def treeKidsRow : OpenClaim := { program := "ythknhhpcogakfaadoor", sum := "ac5c79fab27328942987d361026cb5f13656b1a2d64cec051a55ac435c0c146b", func := "pleacher/pleacherlaw11.TreeKids", spec := "treeKids", inPlace := ["internal/reflectlite.TypeOf"], unfollowed := true, recurses := true, named := ["pleacher/tree.errTree", "pleacher/tree.errPlace"], apart := false, laid := [("pleacher/tree.errTree", laid_pleacher_tree_errTree), ("pleacher/tree.errPlace", laid_pleacher_tree_errPlace)] }
def TreeKidsSaid : Prop := treeKidsRow.holds Tryd.pinned (OpenSpec.ofChange treeKidsSpec)

/-- ITS FALSE NEIGHBOUR: 'it returns false'. Refute it at one input. -/
def treeKidsWrong : ChangeSpec := { name := "treeKids", fn := fun _ => fun
  | [d1, d2] => { results := [.lit (.bool false)], args := [d1, d2] }
  | _ => none }
def TreeKidsWrongFalsely : Prop := treeKidsRow.holds Tryd.pinned (OpenSpec.ofChange treeKidsWrong)

/-- 'pleacherlaw11.TreeCuts': WHATEVER THE INPUT: true; the input reads as it did. -/
def treeCutsSpec : ChangeSpec := { name := "treeCuts", fn := fun _ => fun
  | [d1, d2] => { results := [.lit (.bool true)], args := [d1, d2] }
  | _ => none }
def treeCutsRow : OpenClaim := { program := "ythknhhpcogakfaadoor", sum := "ac5c79fab27328942987d361026cb5f13656b1a2d64cec051a55ac435c0c146b", func := "pleacher/pleacherlaw11.TreeCuts", spec := "treeCuts", inPlace := ["internal/reflectlite.TypeOf"], unfollowed := true, recurses := true, named := ["pleacher/tree.errTree", "pleacher/tree.errPlace"], apart := false, laid := [("pleacher/tree.errTree", laid_pleacher_tree_errTree), ("pleacher/tree.errPlace", laid_pleacher_tree_errPlace)] }
def TreeCutsSaid : Prop := treeCutsRow.holds Tryd.pinned (OpenSpec.ofChange treeCutsSpec)

/-- ITS FALSE NEIGHBOUR: 'it returns false'. Refute it at one input. -/
def treeCutsWrong : ChangeSpec := { name := "treeCuts", fn := fun _ => fun
  | [d1, d2] => { results := [.lit (.bool false)], args := [d1, d2] }
  | _ => none }
def TreeCutsWrongFalsely : Prop := treeCutsRow.holds Tryd.pinned (OpenSpec.ofChange treeCutsWrong)

/-- 'pleacherlaw11.TreeRights': WHATEVER THE INPUT: true; the input reads as it did. -/
def treeRightsSpec : ChangeSpec := { name := "treeRights", fn := fun _ => fun
  | [d1, d2, d3, d4] => { results := [.lit (.bool true)], args := [d1, d2, d3, d4] }
  | _ => none }
def treeRightsRow : OpenClaim := { program := "ythknhhpcogakfaadoor", sum := "ac5c79fab27328942987d361026cb5f13656b1a2d64cec051a55ac435c0c146b", func := "pleacher/pleacherlaw11.TreeRights", spec := "treeRights", inPlace := ["internal/reflectlite.TypeOf"], unfollowed := true, recurses := true, named := ["pleacher/tree.errTree", "pleacher/tree.errPlace"], apart := false, laid := [("pleacher/tree.errTree", laid_pleacher_tree_errTree), ("pleacher/tree.errPlace", laid_pleacher_tree_errPlace)] }
def TreeRightsSaid : Prop := treeRightsRow.holds Tryd.pinned (OpenSpec.ofChange treeRightsSpec)

/-- ITS FALSE NEIGHBOUR: 'it returns false'. Refute it at one input. -/
def treeRightsWrong : ChangeSpec := { name := "treeRights", fn := fun _ => fun
  | [d1, d2, d3, d4] => { results := [.lit (.bool false)], args := [d1, d2, d3, d4] }
  | _ => none }
def TreeRightsWrongFalsely : Prop := treeRightsRow.holds Tryd.pinned (OpenSpec.ofChange treeRightsWrong)

/-- 'pleacherlaw11.TreePuts': WHATEVER THE INPUT: true; the input reads as it did. -/
def treePutsSpec : ChangeSpec := { name := "treePuts", fn := fun _ => fun
  | [d1, d2, d3, d4] => { results := [.lit (.bool true)], args := [d1, d2, d3, d4] }
  | _ => none }
def treePutsRow : OpenClaim := { program := "ythknhhpcogakfaadoor", sum := "ac5c79fab27328942987d361026cb5f13656b1a2d64cec051a55ac435c0c146b", func := "pleacher/pleacherlaw11.TreePuts", spec := "treePuts", inPlace := ["internal/reflectlite.TypeOf"], unfollowed := true, recurses := true, named := ["pleacher/tree.errTree", "pleacher/tree.errPlace"], apart := false, laid := [("pleacher/tree.errTree", laid_pleacher_tree_errTree), ("pleacher/tree.errPlace", laid_pleacher_tree_errPlace)] }
def TreePutsSaid : Prop := treePutsRow.holds Tryd.pinned (OpenSpec.ofChange treePutsSpec)

/-- ITS FALSE NEIGHBOUR: 'it returns false'. Refute it at one input. -/
def treePutsWrong : ChangeSpec := { name := "treePuts", fn := fun _ => fun
  | [d1, d2, d3, d4] => { results := [.lit (.bool false)], args := [d1, d2, d3, d4] }
  | _ => none }
def TreePutsWrongFalsely : Prop := treePutsRow.holds Tryd.pinned (OpenSpec.ofChange treePutsWrong)

/-- 'pleacherlaw11.TreeOwn': WHATEVER THE INPUT: true; the input reads as it did. -/
def treeOwnSpec : ChangeSpec := { name := "treeOwn", fn := fun _ => fun
  | [d1, d2] => { results := [.lit (.bool true)], args := [d1, d2] }
  | _ => none }
def treeOwnRow : OpenClaim := { program := "ythknhhpcogakfaadoor", sum := "ac5c79fab27328942987d361026cb5f13656b1a2d64cec051a55ac435c0c146b", func := "pleacher/pleacherlaw11.TreeOwn", spec := "treeOwn", inPlace := ["internal/reflectlite.TypeOf"], unfollowed := true, recurses := true, named := ["pleacher/tree.errTree", "pleacher/tree.errPlace"], apart := false, laid := [("pleacher/tree.errTree", laid_pleacher_tree_errTree), ("pleacher/tree.errPlace", laid_pleacher_tree_errPlace)] }
def TreeOwnSaid : Prop := treeOwnRow.holds Tryd.pinned (OpenSpec.ofChange treeOwnSpec)

/-- ITS FALSE NEIGHBOUR: 'it returns false'. Refute it at one input. -/
def treeOwnWrong : ChangeSpec := { name := "treeOwn", fn := fun _ => fun
  | [d1, d2] => { results := [.lit (.bool false)], args := [d1, d2] }
  | _ => none }
def TreeOwnWrongFalsely : Prop := treeOwnRow.holds Tryd.pinned (OpenSpec.ofChange treeOwnWrong)

/-- 'pleacherlaw11.TreeBack': WHATEVER THE INPUT: true; the input reads as it did. -/
def treeBackSpec : ChangeSpec := { name := "treeBack", fn := fun _ => fun
  | [d1, d2, d3, d4] => { results := [.lit (.bool true)], args := [d1, d2, d3, d4] }
  | _ => none }
def treeBackRow : OpenClaim := { program := "ythknhhpcogakfaadoor", sum := "ac5c79fab27328942987d361026cb5f13656b1a2d64cec051a55ac435c0c146b", func := "pleacher/pleacherlaw11.TreeBack", spec := "treeBack", inPlace := ["internal/reflectlite.TypeOf"], unfollowed := true, recurses := true, named := ["pleacher/tree.errTree", "pleacher/tree.errPlace"], apart := false, laid := [("pleacher/tree.errTree", laid_pleacher_tree_errTree), ("pleacher/tree.errPlace", laid_pleacher_tree_errPlace)] }
def TreeBackSaid : Prop := treeBackRow.holds Tryd.pinned (OpenSpec.ofChange treeBackSpec)

/-- ITS FALSE NEIGHBOUR: 'it returns false'. Refute it at one input. -/
def treeBackWrong : ChangeSpec := { name := "treeBack", fn := fun _ => fun
  | [d1, d2, d3, d4] => { results := [.lit (.bool false)], args := [d1, d2, d3, d4] }
  | _ => none }
def TreeBackWrongFalsely : Prop := treeBackRow.holds Tryd.pinned (OpenSpec.ofChange treeBackWrong)

/-- 'pleacherlaw11.TreeMoves': WHATEVER THE INPUT: true; the input reads as it did. -/
def treeMovesSpec : ChangeSpec := { name := "treeMoves", fn := fun _ => fun
  | [d1, d2] => { results := [.lit (.bool true)], args := [d1, d2] }
  | _ => none }
def treeMovesRow : OpenClaim := { program := "ythknhhpcogakfaadoor", sum := "ac5c79fab27328942987d361026cb5f13656b1a2d64cec051a55ac435c0c146b", func := "pleacher/pleacherlaw11.TreeMoves", spec := "treeMoves", inPlace := ["internal/reflectlite.TypeOf"], unfollowed := true, recurses := true, named := ["pleacher/tree.errTree", "pleacher/tree.errPlace"], apart := false, laid := [("pleacher/tree.errTree", laid_pleacher_tree_errTree), ("pleacher/tree.errPlace", laid_pleacher_tree_errPlace)] }
def TreeMovesSaid : Prop := treeMovesRow.holds Tryd.pinned (OpenSpec.ofChange treeMovesSpec)

/-- ITS FALSE NEIGHBOUR: 'it returns false'. Refute it at one input. -/
def treeMovesWrong : ChangeSpec := { name := "treeMoves", fn := fun _ => fun
  | [d1, d2] => { results := [.lit (.bool false)], args := [d1, d2] }
  | _ => none }
def TreeMovesWrongFalsely : Prop := treeMovesRow.holds Tryd.pinned (OpenSpec.ofChange treeMovesWrong)

/- THE SECOND FORM. 'bulk': how many values and letters a reading holds, each counted each time it is reached (what is shared counts as often as it is met; a slice's spare places count too). A statement '..UptoSaid' is the law's where the arguments, and the package variables that the reading takes, are together of bulk at most 1048576: NARROWER than '..Said'. Prove '..Said' where nothing that the law and all that it calls make is longer than what came in: it says more and counts as full. Else prove '..UptoSaid'. A law counts once. -/
mutual
def uptoBulk {H : Type} : DataW H → Nat
  | .lit (.string bytes) => bytes.length + 1
  | .lit _ => 1
  | .nil => 1
  | .ptr d => uptoBulk d + 1
  | .slice elems spare => uptoBulkAll elems + uptoBulkAll spare + 1
  | .agg parts => uptoBulkAll parts + 1
  | .iface _ d => uptoBulk d + 1
  | .map entries => uptoBulkEntries entries + 1
  | .held _ => 1
def uptoBulkAll {H : Type} : List (DataW H) → Nat
  | [] => 0
  | d :: r => uptoBulk d + uptoBulkAll r
def uptoBulkEntries {H : Type} : List (Lit × DataW H) → Nat
  | [] => 0
  | x :: r => uptoBulkEntry x + uptoBulkEntries r
def uptoBulkEntry {H : Type} : Lit × DataW H → Nat
  | (.string bytes, d) => bytes.length + uptoBulk d + 1
  | (_, d) => uptoBulk d + 1
 end
def uptoSmall : (H : Type) → List (DataW H) → Bool := fun _ ds => decide (uptoBulkAll ds ≤ 1048576)
def OpenSpec.upto (s : _root_.Go.ChangeSpec) : _root_.Go.OpenSpec := { _root_.Go.OpenSpec.ofChange s with cond := some uptoSmall }

/-- 'pleacherlaw11.TreeParents', WHERE WHAT IT READS IS OF BULK AT MOST 1048576: true; the input reads as it did. -/
def treeParentsUptoRow : OpenClaim := { program := "ythknhhpcogakfaadoor", sum := "ac5c79fab27328942987d361026cb5f13656b1a2d64cec051a55ac435c0c146b", func := "pleacher/pleacherlaw11.TreeParents", spec := "treeParents", inPlace := ["internal/reflectlite.TypeOf"], unfollowed := true, recurses := true, named := ["pleacher/tree.errTree", "pleacher/tree.errPlace"], apart := false, laid := [("pleacher/tree.errTree", laid_pleacher_tree_errTree), ("pleacher/tree.errPlace", laid_pleacher_tree_errPlace)], narrowed := true }
def TreeParentsUptoSaid : Prop := treeParentsUptoRow.holds Tryd.pinned (OpenSpec.upto treeParentsSpec)

/-- 'pleacherlaw11.TreeKids', WHERE WHAT IT READS IS OF BULK AT MOST 1048576: true; the input reads as it did. -/
def treeKidsUptoRow : OpenClaim := { program := "ythknhhpcogakfaadoor", sum := "ac5c79fab27328942987d361026cb5f13656b1a2d64cec051a55ac435c0c146b", func := "pleacher/pleacherlaw11.TreeKids", spec := "treeKids", inPlace := ["internal/reflectlite.TypeOf"], unfollowed := true, recurses := true, named := ["pleacher/tree.errTree", "pleacher/tree.errPlace"], apart := false, laid := [("pleacher/tree.errTree", laid_pleacher_tree_errTree), ("pleacher/tree.errPlace", laid_pleacher_tree_errPlace)], narrowed := true }
def TreeKidsUptoSaid : Prop := treeKidsUptoRow.holds Tryd.pinned (OpenSpec.upto treeKidsSpec)

/-- 'pleacherlaw11.TreeCuts', WHERE WHAT IT READS IS OF BULK AT MOST 1048576: true; the input reads as it did. -/
def treeCutsUptoRow : OpenClaim := { program := "ythknhhpcogakfaadoor", sum := "ac5c79fab27328942987d361026cb5f13656b1a2d64cec051a55ac435c0c146b", func := "pleacher/pleacherlaw11.TreeCuts", spec := "treeCuts", inPlace := ["internal/reflectlite.TypeOf"], unfollowed := true, recurses := true, named := ["pleacher/tree.errTree", "pleacher/tree.errPlace"], apart := false, laid := [("pleacher/tree.errTree", laid_pleacher_tree_errTree), ("pleacher/tree.errPlace", laid_pleacher_tree_errPlace)], narrowed := true }
def TreeCutsUptoSaid : Prop := treeCutsUptoRow.holds Tryd.pinned (OpenSpec.upto treeCutsSpec)

/-- 'pleacherlaw11.TreeRights', WHERE WHAT IT READS IS OF BULK AT MOST 1048576: true; the input reads as it did. -/
def treeRightsUptoRow : OpenClaim := { program := "ythknhhpcogakfaadoor", sum := "ac5c79fab27328942987d361026cb5f13656b1a2d64cec051a55ac435c0c146b", func := "pleacher/pleacherlaw11.TreeRights", spec := "treeRights", inPlace := ["internal/reflectlite.TypeOf"], unfollowed := true, recurses := true, named := ["pleacher/tree.errTree", "pleacher/tree.errPlace"], apart := false, laid := [("pleacher/tree.errTree", laid_pleacher_tree_errTree), ("pleacher/tree.errPlace", laid_pleacher_tree_errPlace)], narrowed := true }
def TreeRightsUptoSaid : Prop := treeRightsUptoRow.holds Tryd.pinned (OpenSpec.upto treeRightsSpec)

/-- 'pleacherlaw11.TreePuts', WHERE WHAT IT READS IS OF BULK AT MOST 1048576: true; the input reads as it did. -/
def treePutsUptoRow : OpenClaim := { program := "ythknhhpcogakfaadoor", sum := "ac5c79fab27328942987d361026cb5f13656b1a2d64cec051a55ac435c0c146b", func := "pleacher/pleacherlaw11.TreePuts", spec := "treePuts", inPlace := ["internal/reflectlite.TypeOf"], unfollowed := true, recurses := true, named := ["pleacher/tree.errTree", "pleacher/tree.errPlace"], apart := false, laid := [("pleacher/tree.errTree", laid_pleacher_tree_errTree), ("pleacher/tree.errPlace", laid_pleacher_tree_errPlace)], narrowed := true }
def TreePutsUptoSaid : Prop := treePutsUptoRow.holds Tryd.pinned (OpenSpec.upto treePutsSpec)

/-- 'pleacherlaw11.TreeOwn', WHERE WHAT IT READS IS OF BULK AT MOST 1048576: true; the input reads as it did. -/
def treeOwnUptoRow : OpenClaim := { program := "ythknhhpcogakfaadoor", sum := "ac5c79fab27328942987d361026cb5f13656b1a2d64cec051a55ac435c0c146b", func := "pleacher/pleacherlaw11.TreeOwn", spec := "treeOwn", inPlace := ["internal/reflectlite.TypeOf"], unfollowed := true, recurses := true, named := ["pleacher/tree.errTree", "pleacher/tree.errPlace"], apart := false, laid := [("pleacher/tree.errTree", laid_pleacher_tree_errTree), ("pleacher/tree.errPlace", laid_pleacher_tree_errPlace)], narrowed := true }
def TreeOwnUptoSaid : Prop := treeOwnUptoRow.holds Tryd.pinned (OpenSpec.upto treeOwnSpec)

/-- 'pleacherlaw11.TreeBack', WHERE WHAT IT READS IS OF BULK AT MOST 1048576: true; the input reads as it did. -/
def treeBackUptoRow : OpenClaim := { program := "ythknhhpcogakfaadoor", sum := "ac5c79fab27328942987d361026cb5f13656b1a2d64cec051a55ac435c0c146b", func := "pleacher/pleacherlaw11.TreeBack", spec := "treeBack", inPlace := ["internal/reflectlite.TypeOf"], unfollowed := true, recurses := true, named := ["pleacher/tree.errTree", "pleacher/tree.errPlace"], apart := false, laid := [("pleacher/tree.errTree", laid_pleacher_tree_errTree), ("pleacher/tree.errPlace", laid_pleacher_tree_errPlace)], narrowed := true }
def TreeBackUptoSaid : Prop := treeBackUptoRow.holds Tryd.pinned (OpenSpec.upto treeBackSpec)

/-- 'pleacherlaw11.TreeMoves', WHERE WHAT IT READS IS OF BULK AT MOST 1048576: true; the input reads as it did. -/
def treeMovesUptoRow : OpenClaim := { program := "ythknhhpcogakfaadoor", sum := "ac5c79fab27328942987d361026cb5f13656b1a2d64cec051a55ac435c0c146b", func := "pleacher/pleacherlaw11.TreeMoves", spec := "treeMoves", inPlace := ["internal/reflectlite.TypeOf"], unfollowed := true, recurses := true, named := ["pleacher/tree.errTree", "pleacher/tree.errPlace"], apart := false, laid := [("pleacher/tree.errTree", laid_pleacher_tree_errTree), ("pleacher/tree.errPlace", laid_pleacher_tree_errPlace)], narrowed := true }
def TreeMovesUptoSaid : Prop := treeMovesUptoRow.holds Tryd.pinned (OpenSpec.upto treeMovesSpec)

end Rows
end Go.Proofs.YthknhhpcogakfaaDoor
