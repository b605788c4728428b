/-
  DERIVED. GIVEN WITH THE SEED: THE CARDS: each row of YtcokgpjmhacmeaaDoorRows.lean that lists a variable, with what it lists TIED to the program's text (the seventh form; the later family's looks); each row that meets fmt, with fmt's text TOLD by the authors' own Lean function (tested against real Go, not proved from fmt's source: count such statements apart). THE CARD IS WHAT COUNTS. Prove the row's statement (the work); the ties are given (YtcokgpjmhacmeaaDoorTie.lean); close each card by the builder's one call (the guide's Derived/Test/ToyasCard.lean, 'card_holds'). Laid BY PROGRAM, IN A SANDBOX (cutbox-door.mjs). By AI agents, Wed Nov 11 2026. No macro, syntax, notation, axiom, sorry.
-/
import Derived.Test.YtcokgpjmhacmeaaDoorRows
import GoSem.ClaimSeven
namespace Go.Proofs.YtcokgpjmhacmeaaDoor
namespace Rows

/-- THE TIED CARD OF 'wharfingerlaw01.QuantParses'. -/
def quantParsesCard : Claim7 := { stood := { row := quantParsesRow, standIns := [], harness := (true, "0e1621123253f10e95116e7d2ee265cb7072d3042f8e80b01fe03704ce6299f3"), looks := true }, kinds := [], alts := [], laidByText := true, laidKinds := [.data, .data, .data, .data, .sentinel, .sentinel, .pinned], laidTests := true, laidLooks := .later }
def QuantParsesCardSaid : Prop := Claim7.holds Tryd.pinned (.plain (OpenSpec.ofChange quantParsesSpec)) quantParsesCard

/-- THE TIED CARD OF 'wharfingerlaw01.QuantBack'. -/
def quantBackCard : Claim7 := { stood := { row := quantBackRow, standIns := [], harness := (true, "0e1621123253f10e95116e7d2ee265cb7072d3042f8e80b01fe03704ce6299f3"), looks := true }, kinds := [], alts := [], laidByText := true, laidKinds := [.data, .data, .data, .data, .sentinel, .sentinel, .pinned], laidTests := true, laidLooks := .later }
def QuantBackCardSaid : Prop := Claim7.holds Tryd.pinned (.plain (OpenSpec.ofChange quantBackSpec)) quantBackCard

/-- THE TIED CARD OF 'wharfingerlaw01.QuantShort'. -/
def quantShortCard : Claim7 := { stood := { row := quantShortRow, standIns := [], harness := (true, "0e1621123253f10e95116e7d2ee265cb7072d3042f8e80b01fe03704ce6299f3"), looks := true }, kinds := [], alts := [], laidByText := true, laidKinds := [.data, .data, .data, .data, .sentinel, .sentinel, .pinned], laidTests := true, laidLooks := .later }
def QuantShortCardSaid : Prop := Claim7.holds Tryd.pinned (.plain (OpenSpec.ofChange quantShortSpec)) quantShortCard

/-- THE TIED CARD OF 'wharfingerlaw01.QuantUp'. -/
def quantUpCard : Claim7 := { stood := { row := quantUpRow, standIns := [], harness := (true, "0e1621123253f10e95116e7d2ee265cb7072d3042f8e80b01fe03704ce6299f3"), looks := true }, kinds := [], alts := [], laidByText := true, laidKinds := [.data, .data, .data, .data, .sentinel, .sentinel, .pinned], laidTests := true, laidLooks := .later }
def QuantUpCardSaid : Prop := Claim7.holds Tryd.pinned (.plain (OpenSpec.ofChange quantUpSpec)) quantUpCard

/-- THE TIED CARD OF 'wharfingerlaw01.QuantUnits'. -/
def quantUnitsCard : Claim7 := { stood := { row := quantUnitsRow, standIns := [], harness := (true, "0e1621123253f10e95116e7d2ee265cb7072d3042f8e80b01fe03704ce6299f3"), looks := true }, kinds := [], alts := [], laidByText := true, laidKinds := [.data, .data, .data, .data, .sentinel, .sentinel, .pinned], laidTests := true, laidLooks := .later }
def QuantUnitsCardSaid : Prop := Claim7.holds Tryd.pinned (.plain (OpenSpec.ofChange quantUnitsSpec)) quantUnitsCard

/-- THE TIED CARD OF 'wharfingerlaw01.QuantOrder'. -/
def quantOrderCard : Claim7 := { stood := { row := quantOrderRow, standIns := [], harness := (true, "0e1621123253f10e95116e7d2ee265cb7072d3042f8e80b01fe03704ce6299f3"), looks := true }, kinds := [], alts := [], laidByText := true, laidKinds := [.data, .data, .data, .data, .sentinel, .sentinel, .pinned], laidTests := true, laidLooks := .later }
def QuantOrderCardSaid : Prop := Claim7.holds Tryd.pinned (.plain (OpenSpec.ofChange quantOrderSpec)) quantOrderCard

/-- THE TIED CARD OF 'wharfingerlaw01.QuantPrints'. -/
def quantPrintsCard : Claim7 := { stood := { row := quantPrintsRow, standIns := [], harness := (true, "0e1621123253f10e95116e7d2ee265cb7072d3042f8e80b01fe03704ce6299f3"), looks := true }, kinds := [], alts := [], laidByText := true, laidKinds := [.data, .data, .data, .data, .sentinel, .sentinel, .pinned], laidTests := true, laidLooks := .later }
def QuantPrintsCardSaid : Prop := Claim7.holds Tryd.pinned (.plain (OpenSpec.ofChange quantPrintsSpec)) quantPrintsCard

/-- THE TIED CARD OF 'wharfingertop.TopRoom'. -/
def topRoomCard : Claim7 := { stood := { row := topRoomRow, standIns := [], harness := (true, "0e1621123253f10e95116e7d2ee265cb7072d3042f8e80b01fe03704ce6299f3"), looks := true }, kinds := [], alts := [], laidByText := true, laidKinds := [.data, .data, .data, .data, .sentinel, .sentinel, .pinned], laidTests := true, laidLooks := .later }
def TopRoomCardSaid : Prop := Claim7.holds Tryd.pinned (.plain (OpenSpec.ofChange topRoomSpec)) topRoomCard

/-- THE SECOND FORM's CARD OF 'wharfingerlaw01.QuantParses'. -/
def quantParsesUptoCard : Claim7 := { stood := { row := quantParsesUptoRow, standIns := [], harness := (true, "0e1621123253f10e95116e7d2ee265cb7072d3042f8e80b01fe03704ce6299f3"), looks := true }, kinds := [], alts := [], laidByText := true, laidKinds := [.data, .data, .data, .data, .sentinel, .sentinel, .pinned], laidTests := true, laidLooks := .later }
def QuantParsesUptoCardSaid : Prop := Claim7.holds Tryd.pinned (.plain (OpenSpec.upto quantParsesSpec)) quantParsesUptoCard

/-- THE SECOND FORM's CARD OF 'wharfingerlaw01.QuantBack'. -/
def quantBackUptoCard : Claim7 := { stood := { row := quantBackUptoRow, standIns := [], harness := (true, "0e1621123253f10e95116e7d2ee265cb7072d3042f8e80b01fe03704ce6299f3"), looks := true }, kinds := [], alts := [], laidByText := true, laidKinds := [.data, .data, .data, .data, .sentinel, .sentinel, .pinned], laidTests := true, laidLooks := .later }
def QuantBackUptoCardSaid : Prop := Claim7.holds Tryd.pinned (.plain (OpenSpec.upto quantBackSpec)) quantBackUptoCard

/-- THE SECOND FORM's CARD OF 'wharfingerlaw01.QuantShort'. -/
def quantShortUptoCard : Claim7 := { stood := { row := quantShortUptoRow, standIns := [], harness := (true, "0e1621123253f10e95116e7d2ee265cb7072d3042f8e80b01fe03704ce6299f3"), looks := true }, kinds := [], alts := [], laidByText := true, laidKinds := [.data, .data, .data, .data, .sentinel, .sentinel, .pinned], laidTests := true, laidLooks := .later }
def QuantShortUptoCardSaid : Prop := Claim7.holds Tryd.pinned (.plain (OpenSpec.upto quantShortSpec)) quantShortUptoCard

/-- THE SECOND FORM's CARD OF 'wharfingerlaw01.QuantUp'. -/
def quantUpUptoCard : Claim7 := { stood := { row := quantUpUptoRow, standIns := [], harness := (true, "0e1621123253f10e95116e7d2ee265cb7072d3042f8e80b01fe03704ce6299f3"), looks := true }, kinds := [], alts := [], laidByText := true, laidKinds := [.data, .data, .data, .data, .sentinel, .sentinel, .pinned], laidTests := true, laidLooks := .later }
def QuantUpUptoCardSaid : Prop := Claim7.holds Tryd.pinned (.plain (OpenSpec.upto quantUpSpec)) quantUpUptoCard

/-- THE SECOND FORM's CARD OF 'wharfingerlaw01.QuantUnits'. -/
def quantUnitsUptoCard : Claim7 := { stood := { row := quantUnitsUptoRow, standIns := [], harness := (true, "0e1621123253f10e95116e7d2ee265cb7072d3042f8e80b01fe03704ce6299f3"), looks := true }, kinds := [], alts := [], laidByText := true, laidKinds := [.data, .data, .data, .data, .sentinel, .sentinel, .pinned], laidTests := true, laidLooks := .later }
def QuantUnitsUptoCardSaid : Prop := Claim7.holds Tryd.pinned (.plain (OpenSpec.upto quantUnitsSpec)) quantUnitsUptoCard

/-- THE SECOND FORM's CARD OF 'wharfingerlaw01.QuantOrder'. -/
def quantOrderUptoCard : Claim7 := { stood := { row := quantOrderUptoRow, standIns := [], harness := (true, "0e1621123253f10e95116e7d2ee265cb7072d3042f8e80b01fe03704ce6299f3"), looks := true }, kinds := [], alts := [], laidByText := true, laidKinds := [.data, .data, .data, .data, .sentinel, .sentinel, .pinned], laidTests := true, laidLooks := .later }
def QuantOrderUptoCardSaid : Prop := Claim7.holds Tryd.pinned (.plain (OpenSpec.upto quantOrderSpec)) quantOrderUptoCard

/-- THE SECOND FORM's CARD OF 'wharfingerlaw01.QuantPrints'. -/
def quantPrintsUptoCard : Claim7 := { stood := { row := quantPrintsUptoRow, standIns := [], harness := (true, "0e1621123253f10e95116e7d2ee265cb7072d3042f8e80b01fe03704ce6299f3"), looks := true }, kinds := [], alts := [], laidByText := true, laidKinds := [.data, .data, .data, .data, .sentinel, .sentinel, .pinned], laidTests := true, laidLooks := .later }
def QuantPrintsUptoCardSaid : Prop := Claim7.holds Tryd.pinned (.plain (OpenSpec.upto quantPrintsSpec)) quantPrintsUptoCard

/-- THE SECOND FORM's CARD OF 'wharfingertop.TopRoom'. -/
def topRoomUptoCard : Claim7 := { stood := { row := topRoomUptoRow, standIns := [], harness := (true, "0e1621123253f10e95116e7d2ee265cb7072d3042f8e80b01fe03704ce6299f3"), looks := true }, kinds := [], alts := [], laidByText := true, laidKinds := [.data, .data, .data, .data, .sentinel, .sentinel, .pinned], laidTests := true, laidLooks := .later }
def TopRoomUptoCardSaid : Prop := Claim7.holds Tryd.pinned (.plain (OpenSpec.upto topRoomSpec)) topRoomUptoCard
end Rows
end Go.Proofs.YtcokgpjmhacmeaaDoor
