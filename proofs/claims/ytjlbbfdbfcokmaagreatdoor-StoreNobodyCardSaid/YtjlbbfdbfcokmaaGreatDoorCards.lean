/-
  DERIVED. GIVEN WITH THE SEED: THE CARDS: each row of YtjlbbfdbfcokmaaGreatDoorRows.lean that lists a variable, with what it lists TIED to the program's text (the seventh form; the later family's looks); each row that meets fmt, with fmt's text TOLD by the authors' own Lean function (tested against real Go, not proved from fmt's source: count such statements apart). THE CARD IS WHAT COUNTS. Prove the row's statement (the work); the ties are given (YtjlbbfdbfcokmaaGreatDoorTie.lean); close each card by the builder's one call (the guide's Derived/Test/ToyasCard.lean, 'card_holds'). Laid BY PROGRAM, IN A SANDBOX (cutbox-door.mjs). By AI agents, Wed Nov 11 2026. No macro, syntax, notation, axiom, sorry.
-/
import Derived.Test.YtjlbbfdbfcokmaaGreatDoorRows
import GoSem.ClaimSeven
namespace Go.Proofs.YtjlbbfdbfcokmaaGreatDoor
namespace Rows

/-- THE TIED CARD OF 'gemellaw18.StoreNobody'. -/
def storeNobodyCard : Claim7 := { stood := { row := storeNobodyRow, standIns := [], harness := (true, "ff0c47924bd53d1709236be3a67f8d764c5cd4fd4c4399e50fe7b66a05d342f5"), looks := true }, kinds := [], alts := [], laidByText := true, laidKinds := [.data, .data, .data], laidTests := true, laidLooks := .later }
def StoreNobodyCardSaid : Prop := Claim7.holds Tryz.pinned (.plain (OpenSpec.ofChange storeNobodySpec)) storeNobodyCard

/-- THE SECOND FORM's CARD OF 'gemellaw18.StoreNobody'. -/
def storeNobodyUptoCard : Claim7 := { stood := { row := storeNobodyUptoRow, standIns := [], harness := (true, "ff0c47924bd53d1709236be3a67f8d764c5cd4fd4c4399e50fe7b66a05d342f5"), looks := true }, kinds := [], alts := [], laidByText := true, laidKinds := [.data, .data, .data], laidTests := true, laidLooks := .later }
def StoreNobodyUptoCardSaid : Prop := Claim7.holds Tryz.pinned (.plain (OpenSpec.upto storeNobodySpec)) storeNobodyUptoCard
end Rows
end Go.Proofs.YtjlbbfdbfcokmaaGreatDoor
