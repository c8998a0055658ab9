/-
  DERIVED. GIVEN WITH THE SEED: THE CARDS: each row of YthfejpldhemakaaDoorRows.lean that lists a variable, with what it lists TIED to the program's text (the seventh form; the later family's looks); each row that meets fmt, with fmt's text TOLD by the authors' own Lean function (tested against real Go, not proved from fmt's source: count such statements apart). THE CARD IS WHAT COUNTS. Prove the row's statement (the work); the ties are given (YthfejpldhemakaaDoorTie.lean); close each card by the builder's one call (the guide's Derived/Test/ToyasCard.lean, 'card_holds'). Laid BY PROGRAM, IN A SANDBOX (cutbox-door.mjs). By AI agents, Wed Nov 11 2026. No macro, syntax, notation, axiom, sorry.
-/
import Derived.Test.YthfejpldhemakaaDoorRows
import GoSem.ClaimSeven
namespace Go.Proofs.YthfejpldhemakaaDoor
namespace Rows

/-- THE TIED CARD OF 'coffretlaw01.ValueRights'. -/
def valueRightsCard : Claim7 := { stood := { row := valueRightsRow, standIns := [], harness := (true, "0926d018044f46a2554cf117a573b51aa7a2fff106de2cba3b77be19109fb175"), looks := true }, kinds := [], alts := [], laidByText := true, laidKinds := [.data, .data, .data, .data, .pinned], laidTests := true, laidLooks := .later }
def ValueRightsCardSaid : Prop := Claim7.holds Tryd.pinned (.plain (OpenSpec.ofChange valueRightsSpec)) valueRightsCard

/-- THE TIED CARD OF 'coffretlaw01.ValueCompares'. -/
def valueComparesCard : Claim7 := { stood := { row := valueComparesRow, standIns := [], harness := (true, "0926d018044f46a2554cf117a573b51aa7a2fff106de2cba3b77be19109fb175"), looks := true }, kinds := [], alts := [], laidByText := true, laidKinds := [.data, .data, .data, .data, .pinned], laidTests := true, laidLooks := .later }
def ValueComparesCardSaid : Prop := Claim7.holds Tryd.pinned (.plain (OpenSpec.ofChange valueComparesSpec)) valueComparesCard

/-- THE TIED CARD OF 'coffretlaw01.ValueOrder'. -/
def valueOrderCard : Claim7 := { stood := { row := valueOrderRow, standIns := [], harness := (true, "0926d018044f46a2554cf117a573b51aa7a2fff106de2cba3b77be19109fb175"), looks := true }, kinds := [], alts := [], laidByText := true, laidKinds := [.data, .data, .data, .data, .pinned], laidTests := true, laidLooks := .later }
def ValueOrderCardSaid : Prop := Claim7.holds Tryd.pinned (.plain (OpenSpec.ofChange valueOrderSpec)) valueOrderCard

/-- THE TIED CARD OF 'coffretlaw01.ValueFields'. -/
def valueFieldsCard : Claim7 := { stood := { row := valueFieldsRow, standIns := [], harness := (true, "0926d018044f46a2554cf117a573b51aa7a2fff106de2cba3b77be19109fb175"), looks := true }, kinds := [], alts := [], laidByText := true, laidKinds := [.data, .data, .data, .data, .pinned], laidTests := true, laidLooks := .later }
def ValueFieldsCardSaid : Prop := Claim7.holds Tryd.pinned (.plain (OpenSpec.ofChange valueFieldsSpec)) valueFieldsCard

/-- THE TIED CARD OF 'coffretlaw03.KeyWrites'. -/
def keyWritesCard : Claim7 := { stood := { row := keyWritesRow, standIns := [], harness := (true, "0926d018044f46a2554cf117a573b51aa7a2fff106de2cba3b77be19109fb175"), looks := true }, kinds := [], alts := [], laidByText := true, laidKinds := [.data, .data, .data, .data, .pinned], laidTests := true, laidLooks := .later }
def KeyWritesCardSaid : Prop := Claim7.holds Tryd.pinned (.plain (OpenSpec.ofChange keyWritesSpec)) keyWritesCard

/-- THE TIED CARD OF 'coffretlaw03.KeyReads'. -/
def keyReadsCard : Claim7 := { stood := { row := keyReadsRow, standIns := [], harness := (true, "0926d018044f46a2554cf117a573b51aa7a2fff106de2cba3b77be19109fb175"), looks := true }, kinds := [], alts := [], laidByText := true, laidKinds := [.data, .data, .data, .data, .pinned], laidTests := true, laidLooks := .later }
def KeyReadsCardSaid : Prop := Claim7.holds Tryd.pinned (.plain (OpenSpec.ofChange keyReadsSpec)) keyReadsCard

/-- THE TIED CARD OF 'coffretlaw03.KeyAfter'. -/
def keyAfterCard : Claim7 := { stood := { row := keyAfterRow, standIns := [], harness := (true, "0926d018044f46a2554cf117a573b51aa7a2fff106de2cba3b77be19109fb175"), looks := true }, kinds := [], alts := [], laidByText := true, laidKinds := [.data, .data, .data, .data, .pinned], laidTests := true, laidLooks := .later }
def KeyAfterCardSaid : Prop := Claim7.holds Tryd.pinned (.plain (OpenSpec.ofChange keyAfterSpec)) keyAfterCard

/-- THE TIED CARD OF 'coffretlaw03.KeyBack'. -/
def keyBackCard : Claim7 := { stood := { row := keyBackRow, standIns := [], harness := (true, "0926d018044f46a2554cf117a573b51aa7a2fff106de2cba3b77be19109fb175"), looks := true }, kinds := [], alts := [], laidByText := true, laidKinds := [.data, .data, .data, .data, .pinned], laidTests := true, laidLooks := .later }
def KeyBackCardSaid : Prop := Claim7.holds Tryd.pinned (.plain (OpenSpec.ofChange keyBackSpec)) keyBackCard

/-- THE TIED CARD OF 'coffretlaw02.BsonWrites'. -/
def bsonWritesCard : Claim7 := { stood := { row := bsonWritesRow, standIns := [], harness := (true, "0926d018044f46a2554cf117a573b51aa7a2fff106de2cba3b77be19109fb175"), looks := true }, kinds := [], alts := [], laidByText := true, laidKinds := [.data, .data, .data, .data, .pinned], laidTests := true, laidLooks := .later }
def BsonWritesCardSaid : Prop := Claim7.holds Tryd.pinned (.plain (OpenSpec.ofChange bsonWritesSpec)) bsonWritesCard

/-- THE TIED CARD OF 'coffretlaw02.BsonReads'. -/
def bsonReadsCard : Claim7 := { stood := { row := bsonReadsRow, standIns := [], harness := (true, "0926d018044f46a2554cf117a573b51aa7a2fff106de2cba3b77be19109fb175"), looks := true }, kinds := [], alts := [], laidByText := true, laidKinds := [.data, .data, .data, .data, .pinned], laidTests := true, laidLooks := .later }
def BsonReadsCardSaid : Prop := Claim7.holds Tryd.pinned (.plain (OpenSpec.ofChange bsonReadsSpec)) bsonReadsCard

/-- THE TIED CARD OF 'coffretlaw02.BsonBack'. -/
def bsonBackCard : Claim7 := { stood := { row := bsonBackRow, standIns := [], harness := (true, "0926d018044f46a2554cf117a573b51aa7a2fff106de2cba3b77be19109fb175"), looks := true }, kinds := [], alts := [], laidByText := true, laidKinds := [.data, .data, .data, .data, .pinned], laidTests := true, laidLooks := .later }
def BsonBackCardSaid : Prop := Claim7.holds Tryd.pinned (.plain (OpenSpec.ofChange bsonBackSpec)) bsonBackCard

/-- THE TIED CARD OF 'coffretlaw02.BsonForm'. -/
def bsonFormCard : Claim7 := { stood := { row := bsonFormRow, standIns := [], harness := (true, "0926d018044f46a2554cf117a573b51aa7a2fff106de2cba3b77be19109fb175"), looks := true }, kinds := [], alts := [], laidByText := true, laidKinds := [.data, .data, .data, .data, .pinned], laidTests := true, laidLooks := .later }
def BsonFormCardSaid : Prop := Claim7.holds Tryd.pinned (.plain (OpenSpec.ofChange bsonFormSpec)) bsonFormCard

/-- THE TIED CARD OF 'coffretlaw02.BsonTurned'. -/
def bsonTurnedCard : Claim7 := { stood := { row := bsonTurnedRow, standIns := [], harness := (true, "0926d018044f46a2554cf117a573b51aa7a2fff106de2cba3b77be19109fb175"), looks := true }, kinds := [], alts := [], laidByText := true, laidKinds := [.data, .data, .data, .data, .pinned], laidTests := true, laidLooks := .later }
def BsonTurnedCardSaid : Prop := Claim7.holds Tryd.pinned (.plain (OpenSpec.ofChange bsonTurnedSpec)) bsonTurnedCard

/-- THE TIED CARD OF 'coffretlaw01.ValueSorts'. -/
def valueSortsCard : Claim7 := { stood := { row := valueSortsRow, standIns := [], harness := (true, "0926d018044f46a2554cf117a573b51aa7a2fff106de2cba3b77be19109fb175"), looks := true }, kinds := [], alts := [], laidByText := true, laidKinds := [.data, .data, .data, .data, .pinned], laidTests := true, laidLooks := .later }
def ValueSortsCardSaid : Prop := Claim7.holds Tryd.pinned (.plain (OpenSpec.ofChange valueSortsSpec)) valueSortsCard

/-- THE TIED CARD OF 'coffretlaw03.KeyOrder'. -/
def keyOrderCard : Claim7 := { stood := { row := keyOrderRow, standIns := [], harness := (true, "0926d018044f46a2554cf117a573b51aa7a2fff106de2cba3b77be19109fb175"), looks := true }, kinds := [], alts := [], laidByText := true, laidKinds := [.data, .data, .data, .data, .pinned], laidTests := true, laidLooks := .later }
def KeyOrderCardSaid : Prop := Claim7.holds Tryd.pinned (.plain (OpenSpec.ofChange keyOrderSpec)) keyOrderCard

/-- THE TIED CARD OF 'coffretlaw01.ValueSides'. -/
def valueSidesCard : Claim7 := { stood := { row := valueSidesRow, standIns := [], harness := (true, "0926d018044f46a2554cf117a573b51aa7a2fff106de2cba3b77be19109fb175"), looks := true }, kinds := [], alts := [], laidByText := true, laidKinds := [.data, .data, .data, .data, .pinned], laidTests := true, laidLooks := .later }
def ValueSidesCardSaid : Prop := Claim7.holds Tryd.pinned (.plain (OpenSpec.ofChange valueSidesSpec)) valueSidesCard

/-- THE SECOND FORM's CARD OF 'coffretlaw01.ValueRights'. -/
def valueRightsUptoCard : Claim7 := { stood := { row := valueRightsUptoRow, standIns := [], harness := (true, "0926d018044f46a2554cf117a573b51aa7a2fff106de2cba3b77be19109fb175"), looks := true }, kinds := [], alts := [], laidByText := true, laidKinds := [.data, .data, .data, .data, .pinned], laidTests := true, laidLooks := .later }
def ValueRightsUptoCardSaid : Prop := Claim7.holds Tryd.pinned (.plain (OpenSpec.upto valueRightsSpec)) valueRightsUptoCard

/-- THE SECOND FORM's CARD OF 'coffretlaw01.ValueCompares'. -/
def valueComparesUptoCard : Claim7 := { stood := { row := valueComparesUptoRow, standIns := [], harness := (true, "0926d018044f46a2554cf117a573b51aa7a2fff106de2cba3b77be19109fb175"), looks := true }, kinds := [], alts := [], laidByText := true, laidKinds := [.data, .data, .data, .data, .pinned], laidTests := true, laidLooks := .later }
def ValueComparesUptoCardSaid : Prop := Claim7.holds Tryd.pinned (.plain (OpenSpec.upto valueComparesSpec)) valueComparesUptoCard

/-- THE SECOND FORM's CARD OF 'coffretlaw01.ValueOrder'. -/
def valueOrderUptoCard : Claim7 := { stood := { row := valueOrderUptoRow, standIns := [], harness := (true, "0926d018044f46a2554cf117a573b51aa7a2fff106de2cba3b77be19109fb175"), looks := true }, kinds := [], alts := [], laidByText := true, laidKinds := [.data, .data, .data, .data, .pinned], laidTests := true, laidLooks := .later }
def ValueOrderUptoCardSaid : Prop := Claim7.holds Tryd.pinned (.plain (OpenSpec.upto valueOrderSpec)) valueOrderUptoCard

/-- THE SECOND FORM's CARD OF 'coffretlaw01.ValueFields'. -/
def valueFieldsUptoCard : Claim7 := { stood := { row := valueFieldsUptoRow, standIns := [], harness := (true, "0926d018044f46a2554cf117a573b51aa7a2fff106de2cba3b77be19109fb175"), looks := true }, kinds := [], alts := [], laidByText := true, laidKinds := [.data, .data, .data, .data, .pinned], laidTests := true, laidLooks := .later }
def ValueFieldsUptoCardSaid : Prop := Claim7.holds Tryd.pinned (.plain (OpenSpec.upto valueFieldsSpec)) valueFieldsUptoCard

/-- THE SECOND FORM's CARD OF 'coffretlaw03.KeyWrites'. -/
def keyWritesUptoCard : Claim7 := { stood := { row := keyWritesUptoRow, standIns := [], harness := (true, "0926d018044f46a2554cf117a573b51aa7a2fff106de2cba3b77be19109fb175"), looks := true }, kinds := [], alts := [], laidByText := true, laidKinds := [.data, .data, .data, .data, .pinned], laidTests := true, laidLooks := .later }
def KeyWritesUptoCardSaid : Prop := Claim7.holds Tryd.pinned (.plain (OpenSpec.upto keyWritesSpec)) keyWritesUptoCard

/-- THE SECOND FORM's CARD OF 'coffretlaw03.KeyReads'. -/
def keyReadsUptoCard : Claim7 := { stood := { row := keyReadsUptoRow, standIns := [], harness := (true, "0926d018044f46a2554cf117a573b51aa7a2fff106de2cba3b77be19109fb175"), looks := true }, kinds := [], alts := [], laidByText := true, laidKinds := [.data, .data, .data, .data, .pinned], laidTests := true, laidLooks := .later }
def KeyReadsUptoCardSaid : Prop := Claim7.holds Tryd.pinned (.plain (OpenSpec.upto keyReadsSpec)) keyReadsUptoCard

/-- THE SECOND FORM's CARD OF 'coffretlaw03.KeyAfter'. -/
def keyAfterUptoCard : Claim7 := { stood := { row := keyAfterUptoRow, standIns := [], harness := (true, "0926d018044f46a2554cf117a573b51aa7a2fff106de2cba3b77be19109fb175"), looks := true }, kinds := [], alts := [], laidByText := true, laidKinds := [.data, .data, .data, .data, .pinned], laidTests := true, laidLooks := .later }
def KeyAfterUptoCardSaid : Prop := Claim7.holds Tryd.pinned (.plain (OpenSpec.upto keyAfterSpec)) keyAfterUptoCard

/-- THE SECOND FORM's CARD OF 'coffretlaw03.KeyBack'. -/
def keyBackUptoCard : Claim7 := { stood := { row := keyBackUptoRow, standIns := [], harness := (true, "0926d018044f46a2554cf117a573b51aa7a2fff106de2cba3b77be19109fb175"), looks := true }, kinds := [], alts := [], laidByText := true, laidKinds := [.data, .data, .data, .data, .pinned], laidTests := true, laidLooks := .later }
def KeyBackUptoCardSaid : Prop := Claim7.holds Tryd.pinned (.plain (OpenSpec.upto keyBackSpec)) keyBackUptoCard

/-- THE SECOND FORM's CARD OF 'coffretlaw02.BsonWrites'. -/
def bsonWritesUptoCard : Claim7 := { stood := { row := bsonWritesUptoRow, standIns := [], harness := (true, "0926d018044f46a2554cf117a573b51aa7a2fff106de2cba3b77be19109fb175"), looks := true }, kinds := [], alts := [], laidByText := true, laidKinds := [.data, .data, .data, .data, .pinned], laidTests := true, laidLooks := .later }
def BsonWritesUptoCardSaid : Prop := Claim7.holds Tryd.pinned (.plain (OpenSpec.upto bsonWritesSpec)) bsonWritesUptoCard

/-- THE SECOND FORM's CARD OF 'coffretlaw02.BsonReads'. -/
def bsonReadsUptoCard : Claim7 := { stood := { row := bsonReadsUptoRow, standIns := [], harness := (true, "0926d018044f46a2554cf117a573b51aa7a2fff106de2cba3b77be19109fb175"), looks := true }, kinds := [], alts := [], laidByText := true, laidKinds := [.data, .data, .data, .data, .pinned], laidTests := true, laidLooks := .later }
def BsonReadsUptoCardSaid : Prop := Claim7.holds Tryd.pinned (.plain (OpenSpec.upto bsonReadsSpec)) bsonReadsUptoCard

/-- THE SECOND FORM's CARD OF 'coffretlaw02.BsonBack'. -/
def bsonBackUptoCard : Claim7 := { stood := { row := bsonBackUptoRow, standIns := [], harness := (true, "0926d018044f46a2554cf117a573b51aa7a2fff106de2cba3b77be19109fb175"), looks := true }, kinds := [], alts := [], laidByText := true, laidKinds := [.data, .data, .data, .data, .pinned], laidTests := true, laidLooks := .later }
def BsonBackUptoCardSaid : Prop := Claim7.holds Tryd.pinned (.plain (OpenSpec.upto bsonBackSpec)) bsonBackUptoCard

/-- THE SECOND FORM's CARD OF 'coffretlaw02.BsonForm'. -/
def bsonFormUptoCard : Claim7 := { stood := { row := bsonFormUptoRow, standIns := [], harness := (true, "0926d018044f46a2554cf117a573b51aa7a2fff106de2cba3b77be19109fb175"), looks := true }, kinds := [], alts := [], laidByText := true, laidKinds := [.data, .data, .data, .data, .pinned], laidTests := true, laidLooks := .later }
def BsonFormUptoCardSaid : Prop := Claim7.holds Tryd.pinned (.plain (OpenSpec.upto bsonFormSpec)) bsonFormUptoCard

/-- THE SECOND FORM's CARD OF 'coffretlaw02.BsonTurned'. -/
def bsonTurnedUptoCard : Claim7 := { stood := { row := bsonTurnedUptoRow, standIns := [], harness := (true, "0926d018044f46a2554cf117a573b51aa7a2fff106de2cba3b77be19109fb175"), looks := true }, kinds := [], alts := [], laidByText := true, laidKinds := [.data, .data, .data, .data, .pinned], laidTests := true, laidLooks := .later }
def BsonTurnedUptoCardSaid : Prop := Claim7.holds Tryd.pinned (.plain (OpenSpec.upto bsonTurnedSpec)) bsonTurnedUptoCard

/-- THE SECOND FORM's CARD OF 'coffretlaw01.ValueSorts'. -/
def valueSortsUptoCard : Claim7 := { stood := { row := valueSortsUptoRow, standIns := [], harness := (true, "0926d018044f46a2554cf117a573b51aa7a2fff106de2cba3b77be19109fb175"), looks := true }, kinds := [], alts := [], laidByText := true, laidKinds := [.data, .data, .data, .data, .pinned], laidTests := true, laidLooks := .later }
def ValueSortsUptoCardSaid : Prop := Claim7.holds Tryd.pinned (.plain (OpenSpec.upto valueSortsSpec)) valueSortsUptoCard

/-- THE SECOND FORM's CARD OF 'coffretlaw03.KeyOrder'. -/
def keyOrderUptoCard : Claim7 := { stood := { row := keyOrderUptoRow, standIns := [], harness := (true, "0926d018044f46a2554cf117a573b51aa7a2fff106de2cba3b77be19109fb175"), looks := true }, kinds := [], alts := [], laidByText := true, laidKinds := [.data, .data, .data, .data, .pinned], laidTests := true, laidLooks := .later }
def KeyOrderUptoCardSaid : Prop := Claim7.holds Tryd.pinned (.plain (OpenSpec.upto keyOrderSpec)) keyOrderUptoCard

/-- THE SECOND FORM's CARD OF 'coffretlaw01.ValueSides'. -/
def valueSidesUptoCard : Claim7 := { stood := { row := valueSidesUptoRow, standIns := [], harness := (true, "0926d018044f46a2554cf117a573b51aa7a2fff106de2cba3b77be19109fb175"), looks := true }, kinds := [], alts := [], laidByText := true, laidKinds := [.data, .data, .data, .data, .pinned], laidTests := true, laidLooks := .later }
def ValueSidesUptoCardSaid : Prop := Claim7.holds Tryd.pinned (.plain (OpenSpec.upto valueSidesSpec)) valueSidesUptoCard
end Rows
end Go.Proofs.YthfejpldhemakaaDoor
