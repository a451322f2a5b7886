/-
  NARROWER THAN 'FOR EVERY INPUT', by the rows' own cells (each row's printed sentence says how): RankKeys: laid · RankBetween: laid · RankHalves: laid · RankSome: laid · RankRising: laid · RankMany: laid.
  DERIVED. THE GIVEN ROWS OF THIS SEAT. 6 by the template 'for every input the law returns true; each argument reads behind the call as it read before'; 0 by the template 'total and deterministic' (their statements: YtemiocaiimdblaaDoorTotals.lean).
  GIVEN WITH THE SEED: the statements are not yours to turn. If you find one false, say at which input.
  Laid BY PROGRAM, IN A SANDBOX (cutbox-rows.mjs): the forced cells as the released guide's own fill.sh prints them over the translation 701ff181e5833485… (all of the seat's roots in one cut). By AI agents, Wed Nov 11 2026. No macro, syntax, notation, axiom, sorry.
-/
import Derived.Test.YtemiocaiimdblaaDoorChecked
import GoSem.Claim
import GoSem.ClaimJoined
import GoSem.ClaimMapViews
import Derived.JoinedTies
import Derived.KernelRfl
namespace Go.Proofs.YtemiocaiimdblaaDoor
/- THE CELL 'sum', in the pinned program and in every row, IS THE sha256 OF THE DUMP (.gsa) THAT YtemiocaiimdblaaDoorProg.lean LOADS. Nothing in Lean hashes anything: it is a label: what it is worth is what the hold of that sum in a sandbox is worth. -/
noncomputable def Tryd.pinned : Pinned := { name := "ytemiocaiimdblaadoor", sum := "701ff181e583348546fc1dbc17e4d2aec89070c9bb4b64c82d85a01c207a93eb", checked := Tryd.checked }
namespace Rows
def none {H : Type} : Left H := { results := [], args := [] }

/- WHAT THE LISTED PACKAGE-LEVEL VARIABLES READ AS WHEN THE CALL BEGINS. Each datum BY PROGRAM (the guide's laid-datum.mjs) off the statement by which the dump's own 'gosem.cut.vars' lays the variable. In a bare row this is a premise. The card (YtemiocaiimdblaaDoorCards.lean) ties it to the program's text. -/
def laid_pleacher_rank_errKey {H : Type} : DataW H := .iface "*errors.errorString" (.ptr (.agg [.lit (.string [110, 111, 32, 107, 101, 121])]))

/-- 'pleacherlaw12.RankKeys': WHATEVER THE INPUT: true; the input reads as it did. -/
def rankKeysSpec : ChangeSpec := { name := "rankKeys", fn := fun _ => fun
  | [d1, d2] => { results := [.lit (.bool true)], args := [d1, d2] }
  | _ => none }
def rankKeysRow : OpenClaim := { program := "ytemiocaiimdblaadoor", sum := "701ff181e583348546fc1dbc17e4d2aec89070c9bb4b64c82d85a01c207a93eb", func := "pleacher/pleacherlaw12.RankKeys", spec := "rankKeys", inPlace := ["internal/bytealg.abigen_runtime_cmpstring", "sync/atomic.AddInt64", "internal/reflectlite.TypeOf"], unfollowed := true, recurses := true, named := ["pleacher/rank.errKey"], apart := false, laid := [("pleacher/rank.errKey", laid_pleacher_rank_errKey)] }
def RankKeysSaid : Prop := rankKeysRow.holds Tryd.pinned (OpenSpec.ofChange rankKeysSpec)

/-- ITS FALSE NEIGHBOUR: 'it returns false'. Refute it at one input. -/
def rankKeysWrong : ChangeSpec := { name := "rankKeys", fn := fun _ => fun
  | [d1, d2] => { results := [.lit (.bool false)], args := [d1, d2] }
  | _ => none }
def RankKeysWrongFalsely : Prop := rankKeysRow.holds Tryd.pinned (OpenSpec.ofChange rankKeysWrong)

/-- 'pleacherlaw12.RankBetween': WHATEVER THE INPUT: true; the input reads as it did. -/
def rankBetweenSpec : ChangeSpec := { name := "rankBetween", fn := fun _ => fun
  | [d1, d2] => { results := [.lit (.bool true)], args := [d1, d2] }
  | _ => none }
def rankBetweenRow : OpenClaim := { program := "ytemiocaiimdblaadoor", sum := "701ff181e583348546fc1dbc17e4d2aec89070c9bb4b64c82d85a01c207a93eb", func := "pleacher/pleacherlaw12.RankBetween", spec := "rankBetween", inPlace := ["internal/bytealg.abigen_runtime_cmpstring", "sync/atomic.AddInt64", "internal/reflectlite.TypeOf"], unfollowed := true, recurses := true, named := ["pleacher/rank.errKey"], apart := false, laid := [("pleacher/rank.errKey", laid_pleacher_rank_errKey)] }
def RankBetweenSaid : Prop := rankBetweenRow.holds Tryd.pinned (OpenSpec.ofChange rankBetweenSpec)

/-- ITS FALSE NEIGHBOUR: 'it returns false'. Refute it at one input. -/
def rankBetweenWrong : ChangeSpec := { name := "rankBetween", fn := fun _ => fun
  | [d1, d2] => { results := [.lit (.bool false)], args := [d1, d2] }
  | _ => none }
def RankBetweenWrongFalsely : Prop := rankBetweenRow.holds Tryd.pinned (OpenSpec.ofChange rankBetweenWrong)

/-- 'pleacherlaw12.RankHalves': WHATEVER THE INPUT: true; the input reads as it did. -/
def rankHalvesSpec : ChangeSpec := { name := "rankHalves", fn := fun _ => fun
  | [d1, d2] => { results := [.lit (.bool true)], args := [d1, d2] }
  | _ => none }
def rankHalvesRow : OpenClaim := { program := "ytemiocaiimdblaadoor", sum := "701ff181e583348546fc1dbc17e4d2aec89070c9bb4b64c82d85a01c207a93eb", func := "pleacher/pleacherlaw12.RankHalves", spec := "rankHalves", inPlace := ["internal/bytealg.abigen_runtime_cmpstring", "sync/atomic.AddInt64", "internal/reflectlite.TypeOf"], unfollowed := true, recurses := true, named := ["pleacher/rank.errKey"], apart := false, laid := [("pleacher/rank.errKey", laid_pleacher_rank_errKey)] }
def RankHalvesSaid : Prop := rankHalvesRow.holds Tryd.pinned (OpenSpec.ofChange rankHalvesSpec)

/-- ITS FALSE NEIGHBOUR: 'it returns false'. Refute it at one input. -/
def rankHalvesWrong : ChangeSpec := { name := "rankHalves", fn := fun _ => fun
  | [d1, d2] => { results := [.lit (.bool false)], args := [d1, d2] }
  | _ => none }
def RankHalvesWrongFalsely : Prop := rankHalvesRow.holds Tryd.pinned (OpenSpec.ofChange rankHalvesWrong)

/-- 'pleacherlaw12.RankSome': WHATEVER THE INPUT: true; the input reads as it did. -/
def rankSomeSpec : ChangeSpec := { name := "rankSome", fn := fun _ => fun
  | [d1, d2, d3] => { results := [.lit (.bool true)], args := [d1, d2, d3] }
  | _ => none }
def rankSomeRow : OpenClaim := { program := "ytemiocaiimdblaadoor", sum := "701ff181e583348546fc1dbc17e4d2aec89070c9bb4b64c82d85a01c207a93eb", func := "pleacher/pleacherlaw12.RankSome", spec := "rankSome", inPlace := ["internal/bytealg.abigen_runtime_cmpstring", "sync/atomic.AddInt64", "internal/reflectlite.TypeOf", "sync/atomic.LoadInt64"], unfollowed := true, recurses := true, named := ["pleacher/rank.errKey"], apart := false, laid := [("pleacher/rank.errKey", laid_pleacher_rank_errKey)] }
def RankSomeSaid : Prop := rankSomeRow.holds Tryd.pinned (OpenSpec.ofChange rankSomeSpec)

/-- ITS FALSE NEIGHBOUR: 'it returns false'. Refute it at one input. -/
def rankSomeWrong : ChangeSpec := { name := "rankSome", fn := fun _ => fun
  | [d1, d2, d3] => { results := [.lit (.bool false)], args := [d1, d2, d3] }
  | _ => none }
def RankSomeWrongFalsely : Prop := rankSomeRow.holds Tryd.pinned (OpenSpec.ofChange rankSomeWrong)

/-- 'pleacherlaw12.RankRising': WHATEVER THE INPUT: true; the input reads as it did. -/
def rankRisingSpec : ChangeSpec := { name := "rankRising", fn := fun _ => fun
  | [d1, d2, d3] => { results := [.lit (.bool true)], args := [d1, d2, d3] }
  | _ => none }
def rankRisingRow : OpenClaim := { program := "ytemiocaiimdblaadoor", sum := "701ff181e583348546fc1dbc17e4d2aec89070c9bb4b64c82d85a01c207a93eb", func := "pleacher/pleacherlaw12.RankRising", spec := "rankRising", inPlace := ["internal/bytealg.abigen_runtime_cmpstring", "sync/atomic.AddInt64", "internal/reflectlite.TypeOf", "sync/atomic.LoadInt64"], unfollowed := true, recurses := true, named := ["pleacher/rank.errKey"], apart := false, laid := [("pleacher/rank.errKey", laid_pleacher_rank_errKey)] }
def RankRisingSaid : Prop := rankRisingRow.holds Tryd.pinned (OpenSpec.ofChange rankRisingSpec)

/-- ITS FALSE NEIGHBOUR: 'it returns false'. Refute it at one input. -/
def rankRisingWrong : ChangeSpec := { name := "rankRising", fn := fun _ => fun
  | [d1, d2, d3] => { results := [.lit (.bool false)], args := [d1, d2, d3] }
  | _ => none }
def RankRisingWrongFalsely : Prop := rankRisingRow.holds Tryd.pinned (OpenSpec.ofChange rankRisingWrong)

/-- 'pleacherlaw12.RankMany': WHATEVER THE INPUT: true; the input reads as it did. -/
def rankManySpec : ChangeSpec := { name := "rankMany", fn := fun _ => fun
  | [d] => { results := [.lit (.bool true)], args := [d] }
  | _ => none }
def rankManyRow : OpenClaim := { program := "ytemiocaiimdblaadoor", sum := "701ff181e583348546fc1dbc17e4d2aec89070c9bb4b64c82d85a01c207a93eb", func := "pleacher/pleacherlaw12.RankMany", spec := "rankMany", inPlace := ["internal/bytealg.abigen_runtime_cmpstring", "sync/atomic.AddInt64", "internal/reflectlite.TypeOf", "sync/atomic.LoadInt64"], unfollowed := true, recurses := true, named := ["pleacher/rank.errKey"], apart := false, laid := [("pleacher/rank.errKey", laid_pleacher_rank_errKey)] }
def RankManySaid : Prop := rankManyRow.holds Tryd.pinned (OpenSpec.ofChange rankManySpec)

/-- ITS FALSE NEIGHBOUR: 'it returns false'. Refute it at one input. -/
def rankManyWrong : ChangeSpec := { name := "rankMany", fn := fun _ => fun
  | [d] => { results := [.lit (.bool false)], args := [d] }
  | _ => none }
def RankManyWrongFalsely : Prop := rankManyRow.holds Tryd.pinned (OpenSpec.ofChange rankManyWrong)

/- THE SECOND FORM. 'bulk': how many values and letters a reading holds, each counted each time it is reached (what is shared counts as often as it is met; a slice's spare places count too). A statement '..UptoSaid' is the law's where the arguments, and the package variables that the reading takes, are together of bulk at most 1048576: NARROWER than '..Said'. Prove '..Said' where nothing that the law and all that it calls make is longer than what came in: it says more and counts as full. Else prove '..UptoSaid'. A law counts once. -/
mutual
def uptoBulk {H : Type} : DataW H → Nat
  | .lit (.string bytes) => bytes.length + 1
  | .lit _ => 1
  | .nil => 1
  | .ptr d => uptoBulk d + 1
  | .slice elems spare => uptoBulkAll elems + uptoBulkAll spare + 1
  | .agg parts => uptoBulkAll parts + 1
  | .iface _ d => uptoBulk d + 1
  | .map entries => uptoBulkEntries entries + 1
  | .held _ => 1
def uptoBulkAll {H : Type} : List (DataW H) → Nat
  | [] => 0
  | d :: r => uptoBulk d + uptoBulkAll r
def uptoBulkEntries {H : Type} : List (Lit × DataW H) → Nat
  | [] => 0
  | x :: r => uptoBulkEntry x + uptoBulkEntries r
def uptoBulkEntry {H : Type} : Lit × DataW H → Nat
  | (.string bytes, d) => bytes.length + uptoBulk d + 1
  | (_, d) => uptoBulk d + 1
 end
def uptoSmall : (H : Type) → List (DataW H) → Bool := fun _ ds => decide (uptoBulkAll ds ≤ 1048576)
def OpenSpec.upto (s : _root_.Go.ChangeSpec) : _root_.Go.OpenSpec := { _root_.Go.OpenSpec.ofChange s with cond := some uptoSmall }

/-- 'pleacherlaw12.RankKeys', WHERE WHAT IT READS IS OF BULK AT MOST 1048576: true; the input reads as it did. -/
def rankKeysUptoRow : OpenClaim := { program := "ytemiocaiimdblaadoor", sum := "701ff181e583348546fc1dbc17e4d2aec89070c9bb4b64c82d85a01c207a93eb", func := "pleacher/pleacherlaw12.RankKeys", spec := "rankKeys", inPlace := ["internal/bytealg.abigen_runtime_cmpstring", "sync/atomic.AddInt64", "internal/reflectlite.TypeOf"], unfollowed := true, recurses := true, named := ["pleacher/rank.errKey"], apart := false, laid := [("pleacher/rank.errKey", laid_pleacher_rank_errKey)], narrowed := true }
def RankKeysUptoSaid : Prop := rankKeysUptoRow.holds Tryd.pinned (OpenSpec.upto rankKeysSpec)

/-- 'pleacherlaw12.RankBetween', WHERE WHAT IT READS IS OF BULK AT MOST 1048576: true; the input reads as it did. -/
def rankBetweenUptoRow : OpenClaim := { program := "ytemiocaiimdblaadoor", sum := "701ff181e583348546fc1dbc17e4d2aec89070c9bb4b64c82d85a01c207a93eb", func := "pleacher/pleacherlaw12.RankBetween", spec := "rankBetween", inPlace := ["internal/bytealg.abigen_runtime_cmpstring", "sync/atomic.AddInt64", "internal/reflectlite.TypeOf"], unfollowed := true, recurses := true, named := ["pleacher/rank.errKey"], apart := false, laid := [("pleacher/rank.errKey", laid_pleacher_rank_errKey)], narrowed := true }
def RankBetweenUptoSaid : Prop := rankBetweenUptoRow.holds Tryd.pinned (OpenSpec.upto rankBetweenSpec)

/-- 'pleacherlaw12.RankHalves', WHERE WHAT IT READS IS OF BULK AT MOST 1048576: true; the input reads as it did. -/
def rankHalvesUptoRow : OpenClaim := { program := "ytemiocaiimdblaadoor", sum := "701ff181e583348546fc1dbc17e4d2aec89070c9bb4b64c82d85a01c207a93eb", func := "pleacher/pleacherlaw12.RankHalves", spec := "rankHalves", inPlace := ["internal/bytealg.abigen_runtime_cmpstring", "sync/atomic.AddInt64", "internal/reflectlite.TypeOf"], unfollowed := true, recurses := true, named := ["pleacher/rank.errKey"], apart := false, laid := [("pleacher/rank.errKey", laid_pleacher_rank_errKey)], narrowed := true }
def RankHalvesUptoSaid : Prop := rankHalvesUptoRow.holds Tryd.pinned (OpenSpec.upto rankHalvesSpec)

/-- 'pleacherlaw12.RankSome', WHERE WHAT IT READS IS OF BULK AT MOST 1048576: true; the input reads as it did. -/
def rankSomeUptoRow : OpenClaim := { program := "ytemiocaiimdblaadoor", sum := "701ff181e583348546fc1dbc17e4d2aec89070c9bb4b64c82d85a01c207a93eb", func := "pleacher/pleacherlaw12.RankSome", spec := "rankSome", inPlace := ["internal/bytealg.abigen_runtime_cmpstring", "sync/atomic.AddInt64", "internal/reflectlite.TypeOf", "sync/atomic.LoadInt64"], unfollowed := true, recurses := true, named := ["pleacher/rank.errKey"], apart := false, laid := [("pleacher/rank.errKey", laid_pleacher_rank_errKey)], narrowed := true }
def RankSomeUptoSaid : Prop := rankSomeUptoRow.holds Tryd.pinned (OpenSpec.upto rankSomeSpec)

/-- 'pleacherlaw12.RankRising', WHERE WHAT IT READS IS OF BULK AT MOST 1048576: true; the input reads as it did. -/
def rankRisingUptoRow : OpenClaim := { program := "ytemiocaiimdblaadoor", sum := "701ff181e583348546fc1dbc17e4d2aec89070c9bb4b64c82d85a01c207a93eb", func := "pleacher/pleacherlaw12.RankRising", spec := "rankRising", inPlace := ["internal/bytealg.abigen_runtime_cmpstring", "sync/atomic.AddInt64", "internal/reflectlite.TypeOf", "sync/atomic.LoadInt64"], unfollowed := true, recurses := true, named := ["pleacher/rank.errKey"], apart := false, laid := [("pleacher/rank.errKey", laid_pleacher_rank_errKey)], narrowed := true }
def RankRisingUptoSaid : Prop := rankRisingUptoRow.holds Tryd.pinned (OpenSpec.upto rankRisingSpec)

/-- 'pleacherlaw12.RankMany', WHERE WHAT IT READS IS OF BULK AT MOST 1048576: true; the input reads as it did. -/
def rankManyUptoRow : OpenClaim := { program := "ytemiocaiimdblaadoor", sum := "701ff181e583348546fc1dbc17e4d2aec89070c9bb4b64c82d85a01c207a93eb", func := "pleacher/pleacherlaw12.RankMany", spec := "rankMany", inPlace := ["internal/bytealg.abigen_runtime_cmpstring", "sync/atomic.AddInt64", "internal/reflectlite.TypeOf", "sync/atomic.LoadInt64"], unfollowed := true, recurses := true, named := ["pleacher/rank.errKey"], apart := false, laid := [("pleacher/rank.errKey", laid_pleacher_rank_errKey)], narrowed := true }
def RankManyUptoSaid : Prop := rankManyUptoRow.holds Tryd.pinned (OpenSpec.upto rankManySpec)

end Rows
end Go.Proofs.YtemiocaiimdblaaDoor
