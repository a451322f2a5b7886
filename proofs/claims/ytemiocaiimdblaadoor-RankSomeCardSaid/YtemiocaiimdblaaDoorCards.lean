/-
  DERIVED. GIVEN WITH THE SEED: THE CARDS: each row of YtemiocaiimdblaaDoorRows.lean that lists a variable, with what it lists TIED to the program's text (the seventh form; the later family's looks); each row that meets fmt, with fmt's text TOLD by the authors' own Lean function (tested against real Go, not proved from fmt's source: count such statements apart). THE CARD IS WHAT COUNTS. Prove the row's statement (the work); the ties are given (YtemiocaiimdblaaDoorTie.lean); close each card by the builder's one call (the guide's Derived/Test/ToyasCard.lean, 'card_holds'). Laid BY PROGRAM, IN A SANDBOX (cutbox-door.mjs). By AI agents, Wed Nov 11 2026. No macro, syntax, notation, axiom, sorry.
-/
import Derived.Test.YtemiocaiimdblaaDoorRows
import GoSem.ClaimSeven
namespace Go.Proofs.YtemiocaiimdblaaDoor
namespace Rows

/-- THE TIED CARD OF 'pleacherlaw12.RankKeys'. -/
def rankKeysCard : Claim7 := { stood := { row := rankKeysRow, standIns := [], harness := (true, "56adc8e9361545e8b555d0d4f176d2ac90e6e16301138121ec2bb01490f4335a"), looks := true }, kinds := [], alts := [], laidByText := true, laidKinds := [.sentinel], laidTests := true, laidLooks := .later }
def RankKeysCardSaid : Prop := Claim7.holds Tryd.pinned (.plain (OpenSpec.ofChange rankKeysSpec)) rankKeysCard

/-- THE TIED CARD OF 'pleacherlaw12.RankBetween'. -/
def rankBetweenCard : Claim7 := { stood := { row := rankBetweenRow, standIns := [], harness := (true, "56adc8e9361545e8b555d0d4f176d2ac90e6e16301138121ec2bb01490f4335a"), looks := true }, kinds := [], alts := [], laidByText := true, laidKinds := [.sentinel], laidTests := true, laidLooks := .later }
def RankBetweenCardSaid : Prop := Claim7.holds Tryd.pinned (.plain (OpenSpec.ofChange rankBetweenSpec)) rankBetweenCard

/-- THE TIED CARD OF 'pleacherlaw12.RankHalves'. -/
def rankHalvesCard : Claim7 := { stood := { row := rankHalvesRow, standIns := [], harness := (true, "56adc8e9361545e8b555d0d4f176d2ac90e6e16301138121ec2bb01490f4335a"), looks := true }, kinds := [], alts := [], laidByText := true, laidKinds := [.sentinel], laidTests := true, laidLooks := .later }
def RankHalvesCardSaid : Prop := Claim7.holds Tryd.pinned (.plain (OpenSpec.ofChange rankHalvesSpec)) rankHalvesCard

/-- THE TIED CARD OF 'pleacherlaw12.RankSome'. -/
def rankSomeCard : Claim7 := { stood := { row := rankSomeRow, standIns := [], harness := (true, "56adc8e9361545e8b555d0d4f176d2ac90e6e16301138121ec2bb01490f4335a"), looks := true }, kinds := [], alts := [], laidByText := true, laidKinds := [.sentinel], laidTests := true, laidLooks := .later }
def RankSomeCardSaid : Prop := Claim7.holds Tryd.pinned (.plain (OpenSpec.ofChange rankSomeSpec)) rankSomeCard

/-- THE TIED CARD OF 'pleacherlaw12.RankRising'. -/
def rankRisingCard : Claim7 := { stood := { row := rankRisingRow, standIns := [], harness := (true, "56adc8e9361545e8b555d0d4f176d2ac90e6e16301138121ec2bb01490f4335a"), looks := true }, kinds := [], alts := [], laidByText := true, laidKinds := [.sentinel], laidTests := true, laidLooks := .later }
def RankRisingCardSaid : Prop := Claim7.holds Tryd.pinned (.plain (OpenSpec.ofChange rankRisingSpec)) rankRisingCard

/-- THE TIED CARD OF 'pleacherlaw12.RankMany'. -/
def rankManyCard : Claim7 := { stood := { row := rankManyRow, standIns := [], harness := (true, "56adc8e9361545e8b555d0d4f176d2ac90e6e16301138121ec2bb01490f4335a"), looks := true }, kinds := [], alts := [], laidByText := true, laidKinds := [.sentinel], laidTests := true, laidLooks := .later }
def RankManyCardSaid : Prop := Claim7.holds Tryd.pinned (.plain (OpenSpec.ofChange rankManySpec)) rankManyCard

/-- THE SECOND FORM's CARD OF 'pleacherlaw12.RankKeys'. -/
def rankKeysUptoCard : Claim7 := { stood := { row := rankKeysUptoRow, standIns := [], harness := (true, "56adc8e9361545e8b555d0d4f176d2ac90e6e16301138121ec2bb01490f4335a"), looks := true }, kinds := [], alts := [], laidByText := true, laidKinds := [.sentinel], laidTests := true, laidLooks := .later }
def RankKeysUptoCardSaid : Prop := Claim7.holds Tryd.pinned (.plain (OpenSpec.upto rankKeysSpec)) rankKeysUptoCard

/-- THE SECOND FORM's CARD OF 'pleacherlaw12.RankBetween'. -/
def rankBetweenUptoCard : Claim7 := { stood := { row := rankBetweenUptoRow, standIns := [], harness := (true, "56adc8e9361545e8b555d0d4f176d2ac90e6e16301138121ec2bb01490f4335a"), looks := true }, kinds := [], alts := [], laidByText := true, laidKinds := [.sentinel], laidTests := true, laidLooks := .later }
def RankBetweenUptoCardSaid : Prop := Claim7.holds Tryd.pinned (.plain (OpenSpec.upto rankBetweenSpec)) rankBetweenUptoCard

/-- THE SECOND FORM's CARD OF 'pleacherlaw12.RankHalves'. -/
def rankHalvesUptoCard : Claim7 := { stood := { row := rankHalvesUptoRow, standIns := [], harness := (true, "56adc8e9361545e8b555d0d4f176d2ac90e6e16301138121ec2bb01490f4335a"), looks := true }, kinds := [], alts := [], laidByText := true, laidKinds := [.sentinel], laidTests := true, laidLooks := .later }
def RankHalvesUptoCardSaid : Prop := Claim7.holds Tryd.pinned (.plain (OpenSpec.upto rankHalvesSpec)) rankHalvesUptoCard

/-- THE SECOND FORM's CARD OF 'pleacherlaw12.RankSome'. -/
def rankSomeUptoCard : Claim7 := { stood := { row := rankSomeUptoRow, standIns := [], harness := (true, "56adc8e9361545e8b555d0d4f176d2ac90e6e16301138121ec2bb01490f4335a"), looks := true }, kinds := [], alts := [], laidByText := true, laidKinds := [.sentinel], laidTests := true, laidLooks := .later }
def RankSomeUptoCardSaid : Prop := Claim7.holds Tryd.pinned (.plain (OpenSpec.upto rankSomeSpec)) rankSomeUptoCard

/-- THE SECOND FORM's CARD OF 'pleacherlaw12.RankRising'. -/
def rankRisingUptoCard : Claim7 := { stood := { row := rankRisingUptoRow, standIns := [], harness := (true, "56adc8e9361545e8b555d0d4f176d2ac90e6e16301138121ec2bb01490f4335a"), looks := true }, kinds := [], alts := [], laidByText := true, laidKinds := [.sentinel], laidTests := true, laidLooks := .later }
def RankRisingUptoCardSaid : Prop := Claim7.holds Tryd.pinned (.plain (OpenSpec.upto rankRisingSpec)) rankRisingUptoCard

/-- THE SECOND FORM's CARD OF 'pleacherlaw12.RankMany'. -/
def rankManyUptoCard : Claim7 := { stood := { row := rankManyUptoRow, standIns := [], harness := (true, "56adc8e9361545e8b555d0d4f176d2ac90e6e16301138121ec2bb01490f4335a"), looks := true }, kinds := [], alts := [], laidByText := true, laidKinds := [.sentinel], laidTests := true, laidLooks := .later }
def RankManyUptoCardSaid : Prop := Claim7.holds Tryd.pinned (.plain (OpenSpec.upto rankManySpec)) rankManyUptoCard
end Rows
end Go.Proofs.YtemiocaiimdblaaDoor
