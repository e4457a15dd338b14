/-
  DERIVED. GIVEN WITH THE SEED: THE CARDS: each row of YtifcpnmcfodacaaGreatDoorRows.lean that lists a variable, with what it lists TIED to the program's text (the seventh form; the later family's looks); each row that meets fmt, with fmt's text TOLD by the authors' own Lean function (tested against real Go, not proved from fmt's source: count such statements apart). THE CARD IS WHAT COUNTS. Prove the row's statement (the work); the ties are given (YtifcpnmcfodacaaGreatDoorTie.lean); close each card by the builder's one call (the guide's Derived/Test/ToyasCard.lean, 'card_holds'). Laid BY PROGRAM, IN A SANDBOX (cutbox-door.mjs). By AI agents, Wed Nov 11 2026. No macro, syntax, notation, axiom, sorry.
-/
import Derived.Test.YtifcpnmcfodacaaGreatDoorRows
import GoSem.ClaimSeven
namespace Go.Proofs.YtifcpnmcfodacaaGreatDoor
namespace Rows

/-- THE TIED CARD OF 'tithelaw18.OpsTexts'. -/
def opsTextsCard : Claim7 := { stood := { row := opsTextsRow, standIns := [], harness := (true, "6d9ce0cead39403fac32a1040a13e43815f602a4d9f0be371531494e1ab07c01"), looks := true }, kinds := [], alts := [], laidByText := true, laidKinds := [.data, .data, .data, .data, .handle, .sentinel, .sentinel, .pinned], laidTests := true, laidLooks := .later }
def OpsTextsCardSaid : Prop := Claim7.holds Tryz.pinned (.plain (OpenSpec.ofChange opsTextsSpec)) opsTextsCard

/-- THE TIED CARD OF 'tithelaw18.OpsBack'. -/
def opsBackCard : Claim7 := { stood := { row := opsBackRow, standIns := [], harness := (true, "6d9ce0cead39403fac32a1040a13e43815f602a4d9f0be371531494e1ab07c01"), looks := true }, kinds := [], alts := [], laidByText := true, laidKinds := [.data, .data, .data, .data, .handle, .sentinel, .sentinel, .pinned], laidTests := true, laidLooks := .later }
def OpsBackCardSaid : Prop := Claim7.holds Tryz.pinned (.plain (OpenSpec.ofChange opsBackSpec)) opsBackCard

/-- THE TIED CARD OF 'tithelaw18.OpsAsks'. -/
def opsAsksCard : Claim7 := { stood := { row := opsAsksRow, standIns := [], harness := (true, "6d9ce0cead39403fac32a1040a13e43815f602a4d9f0be371531494e1ab07c01"), looks := true }, kinds := [], alts := [], laidByText := true, laidKinds := [.data, .data, .data, .data, .handle, .sentinel, .sentinel, .pinned], laidTests := true, laidLooks := .later }
def OpsAsksCardSaid : Prop := Claim7.holds Tryz.pinned (.plain (OpenSpec.ofChange opsAsksSpec)) opsAsksCard

/-- THE TIED CARD OF 'tithelaw18.OpsTells'. -/
def opsTellsCard : Claim7 := { stood := { row := opsTellsRow, standIns := [], harness := (true, "6d9ce0cead39403fac32a1040a13e43815f602a4d9f0be371531494e1ab07c01"), looks := true }, kinds := [], alts := [], laidByText := true, laidKinds := [.data, .data, .data, .data, .handle, .sentinel, .sentinel, .pinned], laidTests := true, laidLooks := .later }
def OpsTellsCardSaid : Prop := Claim7.holds Tryz.pinned (.plain (OpenSpec.ofChange opsTellsSpec)) opsTellsCard

/-- THE SECOND FORM's CARD OF 'tithelaw18.OpsTexts'. -/
def opsTextsUptoCard : Claim7 := { stood := { row := opsTextsUptoRow, standIns := [], harness := (true, "6d9ce0cead39403fac32a1040a13e43815f602a4d9f0be371531494e1ab07c01"), looks := true }, kinds := [], alts := [], laidByText := true, laidKinds := [.data, .data, .data, .data, .handle, .sentinel, .sentinel, .pinned], laidTests := true, laidLooks := .later }
def OpsTextsUptoCardSaid : Prop := Claim7.holds Tryz.pinned (.plain (OpenSpec.upto opsTextsSpec)) opsTextsUptoCard

/-- THE SECOND FORM's CARD OF 'tithelaw18.OpsBack'. -/
def opsBackUptoCard : Claim7 := { stood := { row := opsBackUptoRow, standIns := [], harness := (true, "6d9ce0cead39403fac32a1040a13e43815f602a4d9f0be371531494e1ab07c01"), looks := true }, kinds := [], alts := [], laidByText := true, laidKinds := [.data, .data, .data, .data, .handle, .sentinel, .sentinel, .pinned], laidTests := true, laidLooks := .later }
def OpsBackUptoCardSaid : Prop := Claim7.holds Tryz.pinned (.plain (OpenSpec.upto opsBackSpec)) opsBackUptoCard

/-- THE SECOND FORM's CARD OF 'tithelaw18.OpsAsks'. -/
def opsAsksUptoCard : Claim7 := { stood := { row := opsAsksUptoRow, standIns := [], harness := (true, "6d9ce0cead39403fac32a1040a13e43815f602a4d9f0be371531494e1ab07c01"), looks := true }, kinds := [], alts := [], laidByText := true, laidKinds := [.data, .data, .data, .data, .handle, .sentinel, .sentinel, .pinned], laidTests := true, laidLooks := .later }
def OpsAsksUptoCardSaid : Prop := Claim7.holds Tryz.pinned (.plain (OpenSpec.upto opsAsksSpec)) opsAsksUptoCard

/-- THE SECOND FORM's CARD OF 'tithelaw18.OpsTells'. -/
def opsTellsUptoCard : Claim7 := { stood := { row := opsTellsUptoRow, standIns := [], harness := (true, "6d9ce0cead39403fac32a1040a13e43815f602a4d9f0be371531494e1ab07c01"), looks := true }, kinds := [], alts := [], laidByText := true, laidKinds := [.data, .data, .data, .data, .handle, .sentinel, .sentinel, .pinned], laidTests := true, laidLooks := .later }
def OpsTellsUptoCardSaid : Prop := Claim7.holds Tryz.pinned (.plain (OpenSpec.upto opsTellsSpec)) opsTellsUptoCard
end Rows
end Go.Proofs.YtifcpnmcfodacaaGreatDoor
