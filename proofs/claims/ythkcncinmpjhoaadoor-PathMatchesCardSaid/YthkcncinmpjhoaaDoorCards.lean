/-
  DERIVED. GIVEN WITH THE SEED: THE CARDS: each row of YthkcncinmpjhoaaDoorRows.lean that lists a variable, with what it lists TIED to the program's text (the seventh form; the later family's looks); each row that meets fmt, with fmt's text TOLD by the authors' own Lean function (tested against real Go, not proved from fmt's source: count such statements apart). THE CARD IS WHAT COUNTS. Prove the row's statement (the work); the ties are given (YthkcncinmpjhoaaDoorTie.lean); close each card by the builder's one call (the guide's Derived/Test/ToyasCard.lean, 'card_holds'). Laid BY PROGRAM, IN A SANDBOX (cutbox-door.mjs). By AI agents, Wed Nov 11 2026. No macro, syntax, notation, axiom, sorry.
-/
import Derived.Test.YthkcncinmpjhoaaDoorRows
import GoSem.ClaimSeven
namespace Go.Proofs.YthkcncinmpjhoaaDoor
namespace Rows

/-- THE TIED CARD OF 'hotspotlaw39.PathMatches'. -/
def pathMatchesCard : Claim7 := { stood := { row := pathMatchesRow, standIns := [], harness := (true, "2db20e4d8ce5c4b5d27fa8abc9ac93a52c69e931fd1f81115cec220d5a3e4bdb"), looks := false }, kinds := [], alts := [], laidByText := true, laidKinds := [.data], laidTests := true, laidLooks := .later }
def PathMatchesCardSaid : Prop := Claim7.holds Tryd.pinned (.plain (OpenSpec.ofChange pathMatchesSpec)) pathMatchesCard

/-- THE SECOND FORM's CARD OF 'hotspotlaw39.PathMatches'. -/
def pathMatchesUptoCard : Claim7 := { stood := { row := pathMatchesUptoRow, standIns := [], harness := (true, "2db20e4d8ce5c4b5d27fa8abc9ac93a52c69e931fd1f81115cec220d5a3e4bdb"), looks := false }, kinds := [], alts := [], laidByText := true, laidKinds := [.data], laidTests := true, laidLooks := .later }
def PathMatchesUptoCardSaid : Prop := Claim7.holds Tryd.pinned (.plain (OpenSpec.upto pathMatchesSpec)) pathMatchesUptoCard
end Rows
end Go.Proofs.YthkcncinmpjhoaaDoor
