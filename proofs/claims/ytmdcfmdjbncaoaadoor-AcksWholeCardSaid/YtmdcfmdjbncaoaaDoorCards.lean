/-
  DERIVED. GIVEN WITH THE SEED: THE CARDS: each row of YtmdcfmdjbncaoaaDoorRows.lean that lists a variable, with what it lists TIED to the program's text (the seventh form; the later family's looks); each row that meets fmt, with fmt's text TOLD by the authors' own Lean function (tested against real Go, not proved from fmt's source: count such statements apart). THE CARD IS WHAT COUNTS. Prove the row's statement (the work); the ties are given (YtmdcfmdjbncaoaaDoorTie.lean); close each card by the builder's one call (the guide's Derived/Test/ToyasCard.lean, 'card_holds'). Laid BY PROGRAM, IN A SANDBOX (cutbox-door.mjs). By AI agents, Wed Nov 11 2026. No macro, syntax, notation, axiom, sorry.
-/
import Derived.Test.YtmdcfmdjbncaoaaDoorRows
import GoSem.ClaimSeven
namespace Go.Proofs.YtmdcfmdjbncaoaaDoor
namespace Rows

/-- THE TIED CARD OF 'conduitlaw16.BufferPuts'. -/
def bufferPutsCard : Claim7 := { stood := { row := bufferPutsRow, standIns := [], harness := (true, "40b0af8142ac0c583ce321e0f9d21d88ee5487042c1a6a44268853e7f015c4fd"), looks := false }, kinds := [], alts := [], laidByText := true, laidKinds := [.data, .pinned], laidTests := true, laidLooks := .later }
def BufferPutsCardSaid : Prop := Claim7.holds Tryd.pinned (.plain (OpenSpec.ofChange bufferPutsSpec)) bufferPutsCard

/-- THE TIED CARD OF 'conduitlaw16.BufferTicks'. -/
def bufferTicksCard : Claim7 := { stood := { row := bufferTicksRow, standIns := [], harness := (true, "40b0af8142ac0c583ce321e0f9d21d88ee5487042c1a6a44268853e7f015c4fd"), looks := false }, kinds := [], alts := [], laidByText := true, laidKinds := [.data, .pinned], laidTests := true, laidLooks := .later }
def BufferTicksCardSaid : Prop := Claim7.holds Tryd.pinned (.plain (OpenSpec.ofChange bufferTicksSpec)) bufferTicksCard

/-- THE TIED CARD OF 'conduitlaw16.BufferWhole'. -/
def bufferWholeCard : Claim7 := { stood := { row := bufferWholeRow, standIns := [], harness := (true, "40b0af8142ac0c583ce321e0f9d21d88ee5487042c1a6a44268853e7f015c4fd"), looks := false }, kinds := [], alts := [], laidByText := true, laidKinds := [.data, .pinned], laidTests := true, laidLooks := .later }
def BufferWholeCardSaid : Prop := Claim7.holds Tryd.pinned (.plain (OpenSpec.ofChange bufferWholeSpec)) bufferWholeCard

/-- THE TIED CARD OF 'conduitlaw24.AcksSend'. -/
def acksSendCard : Claim7 := { stood := { row := acksSendRow, standIns := [], harness := (true, "40b0af8142ac0c583ce321e0f9d21d88ee5487042c1a6a44268853e7f015c4fd"), looks := false }, kinds := [], alts := [], laidByText := true, laidKinds := [.data, .pinned], laidTests := true, laidLooks := .later }
def AcksSendCardSaid : Prop := Claim7.holds Tryd.pinned (.plain (OpenSpec.ofChange acksSendSpec)) acksSendCard

/-- THE TIED CARD OF 'conduitlaw24.AcksDue'. -/
def acksDueCard : Claim7 := { stood := { row := acksDueRow, standIns := [], harness := (true, "40b0af8142ac0c583ce321e0f9d21d88ee5487042c1a6a44268853e7f015c4fd"), looks := false }, kinds := [], alts := [], laidByText := true, laidKinds := [.data, .pinned], laidTests := true, laidLooks := .later }
def AcksDueCardSaid : Prop := Claim7.holds Tryd.pinned (.plain (OpenSpec.ofChange acksDueSpec)) acksDueCard

/-- THE TIED CARD OF 'conduitlaw24.AcksWhole'. -/
def acksWholeCard : Claim7 := { stood := { row := acksWholeRow, standIns := [], harness := (true, "40b0af8142ac0c583ce321e0f9d21d88ee5487042c1a6a44268853e7f015c4fd"), looks := false }, kinds := [], alts := [], laidByText := true, laidKinds := [.data, .pinned], laidTests := true, laidLooks := .later }
def AcksWholeCardSaid : Prop := Claim7.holds Tryd.pinned (.plain (OpenSpec.ofChange acksWholeSpec)) acksWholeCard

/-- THE TIED CARD OF 'conduitlaw24.AcksEnd'. -/
def acksEndCard : Claim7 := { stood := { row := acksEndRow, standIns := [], harness := (true, "40b0af8142ac0c583ce321e0f9d21d88ee5487042c1a6a44268853e7f015c4fd"), looks := false }, kinds := [], alts := [], laidByText := true, laidKinds := [.data, .pinned], laidTests := true, laidLooks := .later }
def AcksEndCardSaid : Prop := Claim7.holds Tryd.pinned (.plain (OpenSpec.ofChange acksEndSpec)) acksEndCard

/-- THE SECOND FORM's CARD OF 'conduitlaw16.BufferPuts'. -/
def bufferPutsUptoCard : Claim7 := { stood := { row := bufferPutsUptoRow, standIns := [], harness := (true, "40b0af8142ac0c583ce321e0f9d21d88ee5487042c1a6a44268853e7f015c4fd"), looks := false }, kinds := [], alts := [], laidByText := true, laidKinds := [.data, .pinned], laidTests := true, laidLooks := .later }
def BufferPutsUptoCardSaid : Prop := Claim7.holds Tryd.pinned (.plain (OpenSpec.upto bufferPutsSpec)) bufferPutsUptoCard

/-- THE SECOND FORM's CARD OF 'conduitlaw16.BufferTicks'. -/
def bufferTicksUptoCard : Claim7 := { stood := { row := bufferTicksUptoRow, standIns := [], harness := (true, "40b0af8142ac0c583ce321e0f9d21d88ee5487042c1a6a44268853e7f015c4fd"), looks := false }, kinds := [], alts := [], laidByText := true, laidKinds := [.data, .pinned], laidTests := true, laidLooks := .later }
def BufferTicksUptoCardSaid : Prop := Claim7.holds Tryd.pinned (.plain (OpenSpec.upto bufferTicksSpec)) bufferTicksUptoCard

/-- THE SECOND FORM's CARD OF 'conduitlaw16.BufferWhole'. -/
def bufferWholeUptoCard : Claim7 := { stood := { row := bufferWholeUptoRow, standIns := [], harness := (true, "40b0af8142ac0c583ce321e0f9d21d88ee5487042c1a6a44268853e7f015c4fd"), looks := false }, kinds := [], alts := [], laidByText := true, laidKinds := [.data, .pinned], laidTests := true, laidLooks := .later }
def BufferWholeUptoCardSaid : Prop := Claim7.holds Tryd.pinned (.plain (OpenSpec.upto bufferWholeSpec)) bufferWholeUptoCard

/-- THE SECOND FORM's CARD OF 'conduitlaw24.AcksSend'. -/
def acksSendUptoCard : Claim7 := { stood := { row := acksSendUptoRow, standIns := [], harness := (true, "40b0af8142ac0c583ce321e0f9d21d88ee5487042c1a6a44268853e7f015c4fd"), looks := false }, kinds := [], alts := [], laidByText := true, laidKinds := [.data, .pinned], laidTests := true, laidLooks := .later }
def AcksSendUptoCardSaid : Prop := Claim7.holds Tryd.pinned (.plain (OpenSpec.upto acksSendSpec)) acksSendUptoCard

/-- THE SECOND FORM's CARD OF 'conduitlaw24.AcksDue'. -/
def acksDueUptoCard : Claim7 := { stood := { row := acksDueUptoRow, standIns := [], harness := (true, "40b0af8142ac0c583ce321e0f9d21d88ee5487042c1a6a44268853e7f015c4fd"), looks := false }, kinds := [], alts := [], laidByText := true, laidKinds := [.data, .pinned], laidTests := true, laidLooks := .later }
def AcksDueUptoCardSaid : Prop := Claim7.holds Tryd.pinned (.plain (OpenSpec.upto acksDueSpec)) acksDueUptoCard

/-- THE SECOND FORM's CARD OF 'conduitlaw24.AcksWhole'. -/
def acksWholeUptoCard : Claim7 := { stood := { row := acksWholeUptoRow, standIns := [], harness := (true, "40b0af8142ac0c583ce321e0f9d21d88ee5487042c1a6a44268853e7f015c4fd"), looks := false }, kinds := [], alts := [], laidByText := true, laidKinds := [.data, .pinned], laidTests := true, laidLooks := .later }
def AcksWholeUptoCardSaid : Prop := Claim7.holds Tryd.pinned (.plain (OpenSpec.upto acksWholeSpec)) acksWholeUptoCard

/-- THE SECOND FORM's CARD OF 'conduitlaw24.AcksEnd'. -/
def acksEndUptoCard : Claim7 := { stood := { row := acksEndUptoRow, standIns := [], harness := (true, "40b0af8142ac0c583ce321e0f9d21d88ee5487042c1a6a44268853e7f015c4fd"), looks := false }, kinds := [], alts := [], laidByText := true, laidKinds := [.data, .pinned], laidTests := true, laidLooks := .later }
def AcksEndUptoCardSaid : Prop := Claim7.holds Tryd.pinned (.plain (OpenSpec.upto acksEndSpec)) acksEndUptoCard
end Rows
end Go.Proofs.YtmdcfmdjbncaoaaDoor
