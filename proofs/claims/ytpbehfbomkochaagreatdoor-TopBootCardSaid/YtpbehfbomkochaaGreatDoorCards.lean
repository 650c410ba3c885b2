/-
  DERIVED. GIVEN WITH THE SEED: THE CARDS: each row of YtpbehfbomkochaaGreatDoorRows.lean that lists a variable, with what it lists TIED to the program's text (the seventh form; the later family's looks); each row that meets fmt, with fmt's text TOLD by the authors' own Lean function (tested against real Go, not proved from fmt's source: count such statements apart). THE CARD IS WHAT COUNTS. Prove the row's statement (the work); the ties are given (YtpbehfbomkochaaGreatDoorTie.lean); close each card by the builder's one call (the guide's Derived/Test/ToyasCard.lean, 'card_holds'). Laid BY PROGRAM, IN A SANDBOX (cutbox-door.mjs). By AI agents, Wed Nov 11 2026. No macro, syntax, notation, axiom, sorry.
-/
import Derived.Test.YtpbehfbomkochaaGreatDoorRows
import GoSem.ClaimSeven
namespace Go.Proofs.YtpbehfbomkochaaGreatDoor
namespace Rows

/-- THE TIED CARD OF 'alidadetop.TopBoot'. -/
def topBootCard : Claim7 := { stood := { row := topBootRow, standIns := [], harness := (true, "0be1cf4e26bd9add8b1e2e9a459f5b46557c09359674b2eecf05079668f48b43"), looks := true }, kinds := [], alts := [], laidByText := true, laidKinds := [.data, .data, .data, .data, .sentinel, .sentinel, .pinned], laidTests := true, laidLooks := .later }
def TopBootCardSaid : Prop := Claim7.holds Tryz.pinned (.plain (OpenSpec.ofChange topBootSpec)) topBootCard

/-- THE TIED CARD OF 'alidadetop.TopSame'. -/
def topSameCard : Claim7 := { stood := { row := topSameRow, standIns := [], harness := (true, "0be1cf4e26bd9add8b1e2e9a459f5b46557c09359674b2eecf05079668f48b43"), looks := true }, kinds := [], alts := [], laidByText := true, laidKinds := [.data, .data, .data, .data, .sentinel, .sentinel, .pinned], laidTests := true, laidLooks := .later }
def TopSameCardSaid : Prop := Claim7.holds Tryz.pinned (.plain (OpenSpec.ofChange topSameSpec)) topSameCard

/-- THE SECOND FORM's CARD OF 'alidadetop.TopBoot'. -/
def topBootUptoCard : Claim7 := { stood := { row := topBootUptoRow, standIns := [], harness := (true, "0be1cf4e26bd9add8b1e2e9a459f5b46557c09359674b2eecf05079668f48b43"), looks := true }, kinds := [], alts := [], laidByText := true, laidKinds := [.data, .data, .data, .data, .sentinel, .sentinel, .pinned], laidTests := true, laidLooks := .later }
def TopBootUptoCardSaid : Prop := Claim7.holds Tryz.pinned (.plain (OpenSpec.upto topBootSpec)) topBootUptoCard

/-- THE SECOND FORM's CARD OF 'alidadetop.TopSame'. -/
def topSameUptoCard : Claim7 := { stood := { row := topSameUptoRow, standIns := [], harness := (true, "0be1cf4e26bd9add8b1e2e9a459f5b46557c09359674b2eecf05079668f48b43"), looks := true }, kinds := [], alts := [], laidByText := true, laidKinds := [.data, .data, .data, .data, .sentinel, .sentinel, .pinned], laidTests := true, laidLooks := .later }
def TopSameUptoCardSaid : Prop := Claim7.holds Tryz.pinned (.plain (OpenSpec.upto topSameSpec)) topSameUptoCard
end Rows
end Go.Proofs.YtpbehfbomkochaaGreatDoor
