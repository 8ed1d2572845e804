/-
  DERIVED. GIVEN WITH THE SEED: THE CARDS: each row of YtaamjpeehejafaaDoorRows.lean that lists a variable, with what it lists TIED to the program's text (the seventh form; the later family's looks); each row that meets fmt, with fmt's text TOLD by the authors' own Lean function (tested against real Go, not proved from fmt's source: count such statements apart). THE CARD IS WHAT COUNTS. Prove the row's statement (the work); the ties are given (YtaamjpeehejafaaDoorTie.lean); close each card by the builder's one call (the guide's Derived/Test/ToyasCard.lean, 'card_holds'). Laid BY PROGRAM, IN A SANDBOX (cutbox-door.mjs). By AI agents, Wed Nov 11 2026. No macro, syntax, notation, axiom, sorry.
-/
import Derived.Test.YtaamjpeehejafaaDoorRows
import GoSem.ClaimSeven
namespace Go.Proofs.YtaamjpeehejafaaDoor
namespace Rows

/-- THE TIED CARD OF 'slipwaylaw17.SagaClosed'. -/
def sagaClosedCard : Claim7 := { stood := { row := sagaClosedRow, standIns := [], harness := (true, "b9721361c1e942a5cdfabe8ad2ccfca7fae2f4585878e0a97e5b21c66d8fbf89"), looks := false }, kinds := [], alts := [], laidByText := true, laidKinds := [.data], laidTests := true, laidLooks := .later }
def SagaClosedCardSaid : Prop := Claim7.holds Tryd.pinned (.plain (OpenSpec.ofChange sagaClosedSpec)) sagaClosedCard

/-- THE TIED CARD OF 'slipwaylaw17.SagaMirrors'. -/
def sagaMirrorsCard : Claim7 := { stood := { row := sagaMirrorsRow, standIns := [], harness := (true, "b9721361c1e942a5cdfabe8ad2ccfca7fae2f4585878e0a97e5b21c66d8fbf89"), looks := false }, kinds := [], alts := [], laidByText := true, laidKinds := [.data], laidTests := true, laidLooks := .later }
def SagaMirrorsCardSaid : Prop := Claim7.holds Tryd.pinned (.plain (OpenSpec.ofChange sagaMirrorsSpec)) sagaMirrorsCard

/-- THE TIED CARD OF 'slipwaylaw17.SagaCodes'. -/
def sagaCodesCard : Claim7 := { stood := { row := sagaCodesRow, standIns := [], harness := (true, "b9721361c1e942a5cdfabe8ad2ccfca7fae2f4585878e0a97e5b21c66d8fbf89"), looks := false }, kinds := [], alts := [], laidByText := true, laidKinds := [.data], laidTests := true, laidLooks := .later }
def SagaCodesCardSaid : Prop := Claim7.holds Tryd.pinned (.plain (OpenSpec.ofChange sagaCodesSpec)) sagaCodesCard

/-- THE SECOND FORM's CARD OF 'slipwaylaw17.SagaClosed'. -/
def sagaClosedUptoCard : Claim7 := { stood := { row := sagaClosedUptoRow, standIns := [], harness := (true, "b9721361c1e942a5cdfabe8ad2ccfca7fae2f4585878e0a97e5b21c66d8fbf89"), looks := false }, kinds := [], alts := [], laidByText := true, laidKinds := [.data], laidTests := true, laidLooks := .later }
def SagaClosedUptoCardSaid : Prop := Claim7.holds Tryd.pinned (.plain (OpenSpec.upto sagaClosedSpec)) sagaClosedUptoCard

/-- THE SECOND FORM's CARD OF 'slipwaylaw17.SagaMirrors'. -/
def sagaMirrorsUptoCard : Claim7 := { stood := { row := sagaMirrorsUptoRow, standIns := [], harness := (true, "b9721361c1e942a5cdfabe8ad2ccfca7fae2f4585878e0a97e5b21c66d8fbf89"), looks := false }, kinds := [], alts := [], laidByText := true, laidKinds := [.data], laidTests := true, laidLooks := .later }
def SagaMirrorsUptoCardSaid : Prop := Claim7.holds Tryd.pinned (.plain (OpenSpec.upto sagaMirrorsSpec)) sagaMirrorsUptoCard

/-- THE SECOND FORM's CARD OF 'slipwaylaw17.SagaCodes'. -/
def sagaCodesUptoCard : Claim7 := { stood := { row := sagaCodesUptoRow, standIns := [], harness := (true, "b9721361c1e942a5cdfabe8ad2ccfca7fae2f4585878e0a97e5b21c66d8fbf89"), looks := false }, kinds := [], alts := [], laidByText := true, laidKinds := [.data], laidTests := true, laidLooks := .later }
def SagaCodesUptoCardSaid : Prop := Claim7.holds Tryd.pinned (.plain (OpenSpec.upto sagaCodesSpec)) sagaCodesUptoCard
end Rows
end Go.Proofs.YtaamjpeehejafaaDoor
