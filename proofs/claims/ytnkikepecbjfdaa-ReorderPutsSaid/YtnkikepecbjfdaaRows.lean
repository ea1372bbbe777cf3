/-
  No cell of these rows narrows 'for every input' (looked for: loops, veiled, ifaces, maps, wideKeys, modest, calm, conditions, laid).
  DERIVED. THE GIVEN ROWS OF THIS SEAT. 8 by the template 'for every input the law returns true; each argument reads behind the call as it read before'; 0 by the template 'total and deterministic' (their statements: YtnkikepecbjfdaaTotals.lean).
  GIVEN WITH THE SEED: the statements are not yours to turn. If you find one false, say at which input.
  Laid BY PROGRAM, IN A SANDBOX (cutbox-rows.mjs): the forced cells as the released guide's own fill.sh prints them over the translation 02aacdb57277e4f3… (all of the seat's roots in one cut). By AI agents, Wed Nov 11 2026. No macro, syntax, notation, axiom, sorry.
-/
import Derived.Test.YtnkikepecbjfdaaChecked
import GoSem.Claim
import GoSem.ClaimJoined
import GoSem.ClaimMapViews
import Derived.JoinedTies
import Derived.KernelRfl
namespace Go.Proofs.Ytnkikepecbjfdaa
/- THE CELL 'sum', in the pinned program and in every row, IS THE sha256 OF THE DUMP (.gsa) THAT YtnkikepecbjfdaaProg.lean LOADS. Nothing in Lean hashes anything: it is a label: what it is worth is what the hold of that sum in a sandbox is worth. -/
noncomputable def Try.pinned : Pinned := { name := "ytnkikepecbjfdaa", sum := "02aacdb57277e4f361052f53369a29d87066f3f0737a0221dffbd13423226812", checked := Try.checked }
namespace Rows
def none {H : Type} : Left H := { results := [], args := [] }

/-- 'hotspotlaw18.ReorderNews': WHATEVER THE INPUT: true; the input reads as it did. -/
def reorderNewsSpec : ChangeSpec := { name := "reorderNews", fn := fun _ => fun
  | [d1, d2, d3] => { results := [.lit (.bool true)], args := [d1, d2, d3] }
  | _ => none }
def reorderNewsRow : OpenClaim := { program := "ytnkikepecbjfdaa", sum := "02aacdb57277e4f361052f53369a29d87066f3f0737a0221dffbd13423226812", func := "hotspot/hotspotlaw18.ReorderNews", spec := "reorderNews", apart := false }
def ReorderNewsSaid : Prop := reorderNewsRow.holds Try.pinned (OpenSpec.ofChange reorderNewsSpec)

/-- ITS FALSE NEIGHBOUR: 'it returns false'. Refute it at one input. -/
def reorderNewsWrong : ChangeSpec := { name := "reorderNews", fn := fun _ => fun
  | [d1, d2, d3] => { results := [.lit (.bool false)], args := [d1, d2, d3] }
  | _ => none }
def ReorderNewsWrongFalsely : Prop := reorderNewsRow.holds Try.pinned (OpenSpec.ofChange reorderNewsWrong)

/-- 'hotspotlaw18.ReorderMoves': WHATEVER THE INPUT: true; the input reads as it did. -/
def reorderMovesSpec : ChangeSpec := { name := "reorderMoves", fn := fun _ => fun
  | [d1, d2] => { results := [.lit (.bool true)], args := [d1, d2] }
  | _ => none }
def reorderMovesRow : OpenClaim := { program := "ytnkikepecbjfdaa", sum := "02aacdb57277e4f361052f53369a29d87066f3f0737a0221dffbd13423226812", func := "hotspot/hotspotlaw18.ReorderMoves", spec := "reorderMoves", unfollowed := true, recurses := true, apart := false }
def ReorderMovesSaid : Prop := reorderMovesRow.holds Try.pinned (OpenSpec.ofChange reorderMovesSpec)

/-- ITS FALSE NEIGHBOUR: 'it returns false'. Refute it at one input. -/
def reorderMovesWrong : ChangeSpec := { name := "reorderMoves", fn := fun _ => fun
  | [d1, d2] => { results := [.lit (.bool false)], args := [d1, d2] }
  | _ => none }
def ReorderMovesWrongFalsely : Prop := reorderMovesRow.holds Try.pinned (OpenSpec.ofChange reorderMovesWrong)

/-- 'hotspotlaw18.ReorderPuts': WHATEVER THE INPUT: true; the input reads as it did. -/
def reorderPutsSpec : ChangeSpec := { name := "reorderPuts", fn := fun _ => fun
  | [d1, d2, d3] => { results := [.lit (.bool true)], args := [d1, d2, d3] }
  | _ => none }
def reorderPutsRow : OpenClaim := { program := "ytnkikepecbjfdaa", sum := "02aacdb57277e4f361052f53369a29d87066f3f0737a0221dffbd13423226812", func := "hotspot/hotspotlaw18.ReorderPuts", spec := "reorderPuts", inPlace := ["slices.overlaps[hotspot/api.HeldSeq]"], unfollowed := true, recurses := true, apart := false }
def ReorderPutsSaid : Prop := reorderPutsRow.holds Try.pinned (OpenSpec.ofChange reorderPutsSpec)

/-- ITS FALSE NEIGHBOUR: 'it returns false'. Refute it at one input. -/
def reorderPutsWrong : ChangeSpec := { name := "reorderPuts", fn := fun _ => fun
  | [d1, d2, d3] => { results := [.lit (.bool false)], args := [d1, d2, d3] }
  | _ => none }
def ReorderPutsWrongFalsely : Prop := reorderPutsRow.holds Try.pinned (OpenSpec.ofChange reorderPutsWrong)

/-- 'hotspotlaw18.ReorderTimely': WHATEVER THE INPUT: true; the input reads as it did. -/
def reorderTimelySpec : ChangeSpec := { name := "reorderTimely", fn := fun _ => fun
  | [d1, d2] => { results := [.lit (.bool true)], args := [d1, d2] }
  | _ => none }
def reorderTimelyRow : OpenClaim := { program := "ytnkikepecbjfdaa", sum := "02aacdb57277e4f361052f53369a29d87066f3f0737a0221dffbd13423226812", func := "hotspot/hotspotlaw18.ReorderTimely", spec := "reorderTimely", inPlace := ["slices.overlaps[hotspot/api.HeldSeq]"], unfollowed := true, recurses := true, apart := false }
def ReorderTimelySaid : Prop := reorderTimelyRow.holds Try.pinned (OpenSpec.ofChange reorderTimelySpec)

/-- ITS FALSE NEIGHBOUR: 'it returns false'. Refute it at one input. -/
def reorderTimelyWrong : ChangeSpec := { name := "reorderTimely", fn := fun _ => fun
  | [d1, d2] => { results := [.lit (.bool false)], args := [d1, d2] }
  | _ => none }
def ReorderTimelyWrongFalsely : Prop := reorderTimelyRow.holds Try.pinned (OpenSpec.ofChange reorderTimelyWrong)

/-- 'hotspotlaw18.ReorderStraight': WHATEVER THE INPUT: true; the input reads as it did. -/
def reorderStraightSpec : ChangeSpec := { name := "reorderStraight", fn := fun _ => fun
  | [d1, d2, d3, d4] => { results := [.lit (.bool true)], args := [d1, d2, d3, d4] }
  | _ => none }
def reorderStraightRow : OpenClaim := { program := "ytnkikepecbjfdaa", sum := "02aacdb57277e4f361052f53369a29d87066f3f0737a0221dffbd13423226812", func := "hotspot/hotspotlaw18.ReorderStraight", spec := "reorderStraight", inPlace := ["slices.overlaps[hotspot/api.HeldSeq]"], unfollowed := true, recurses := true, apart := false }
def ReorderStraightSaid : Prop := reorderStraightRow.holds Try.pinned (OpenSpec.ofChange reorderStraightSpec)

/-- ITS FALSE NEIGHBOUR: 'it returns false'. Refute it at one input. -/
def reorderStraightWrong : ChangeSpec := { name := "reorderStraight", fn := fun _ => fun
  | [d1, d2, d3, d4] => { results := [.lit (.bool false)], args := [d1, d2, d3, d4] }
  | _ => none }
def ReorderStraightWrongFalsely : Prop := reorderStraightRow.holds Try.pinned (OpenSpec.ofChange reorderStraightWrong)

/-- 'hotspotlaw18.ReorderOnce': WHATEVER THE INPUT: true; the input reads as it did. -/
def reorderOnceSpec : ChangeSpec := { name := "reorderOnce", fn := fun _ => fun
  | [d1, d2, d3, d4] => { results := [.lit (.bool true)], args := [d1, d2, d3, d4] }
  | _ => none }
def reorderOnceRow : OpenClaim := { program := "ytnkikepecbjfdaa", sum := "02aacdb57277e4f361052f53369a29d87066f3f0737a0221dffbd13423226812", func := "hotspot/hotspotlaw18.ReorderOnce", spec := "reorderOnce", inPlace := ["slices.overlaps[hotspot/api.HeldSeq]"], unfollowed := true, recurses := true, apart := false }
def ReorderOnceSaid : Prop := reorderOnceRow.holds Try.pinned (OpenSpec.ofChange reorderOnceSpec)

/-- ITS FALSE NEIGHBOUR: 'it returns false'. Refute it at one input. -/
def reorderOnceWrong : ChangeSpec := { name := "reorderOnce", fn := fun _ => fun
  | [d1, d2, d3, d4] => { results := [.lit (.bool false)], args := [d1, d2, d3, d4] }
  | _ => none }
def ReorderOnceWrongFalsely : Prop := reorderOnceRow.holds Try.pinned (OpenSpec.ofChange reorderOnceWrong)

/-- 'hotspotlaw18.ReorderKeeps': WHATEVER THE INPUT: true; the input reads as it did. -/
def reorderKeepsSpec : ChangeSpec := { name := "reorderKeeps", fn := fun _ => fun
  | [d1, d2] => { results := [.lit (.bool true)], args := [d1, d2] }
  | _ => none }
def reorderKeepsRow : OpenClaim := { program := "ytnkikepecbjfdaa", sum := "02aacdb57277e4f361052f53369a29d87066f3f0737a0221dffbd13423226812", func := "hotspot/hotspotlaw18.ReorderKeeps", spec := "reorderKeeps", inPlace := ["slices.overlaps[hotspot/api.HeldSeq]"], unfollowed := true, recurses := true, apart := false }
def ReorderKeepsSaid : Prop := reorderKeepsRow.holds Try.pinned (OpenSpec.ofChange reorderKeepsSpec)

/-- ITS FALSE NEIGHBOUR: 'it returns false'. Refute it at one input. -/
def reorderKeepsWrong : ChangeSpec := { name := "reorderKeeps", fn := fun _ => fun
  | [d1, d2] => { results := [.lit (.bool false)], args := [d1, d2] }
  | _ => none }
def ReorderKeepsWrongFalsely : Prop := reorderKeepsRow.holds Try.pinned (OpenSpec.ofChange reorderKeepsWrong)

/-- 'hotspotlaw18.ReorderNames': WHATEVER THE INPUT: true; the input reads as it did. -/
def reorderNamesSpec : ChangeSpec := { name := "reorderNames", fn := fun _ => fun
  | [] => { results := [.lit (.bool true)], args := [] }
  | _ => none }
def reorderNamesRow : OpenClaim := { program := "ytnkikepecbjfdaa", sum := "02aacdb57277e4f361052f53369a29d87066f3f0737a0221dffbd13423226812", func := "hotspot/hotspotlaw18.ReorderNames", spec := "reorderNames", inPlace := ["slices.overlaps[hotspot/api.HeldSeq]"], unfollowed := true, recurses := true, apart := false }
def ReorderNamesSaid : Prop := reorderNamesRow.holds Try.pinned (OpenSpec.ofChange reorderNamesSpec)

/-- ITS FALSE NEIGHBOUR: 'it returns false'. Refute it at one input. -/
def reorderNamesWrong : ChangeSpec := { name := "reorderNames", fn := fun _ => fun
  | [] => { results := [.lit (.bool false)], args := [] }
  | _ => none }
def ReorderNamesWrongFalsely : Prop := reorderNamesRow.holds Try.pinned (OpenSpec.ofChange reorderNamesWrong)

/- THE SECOND FORM. 'bulk': how many values and letters a reading holds, each counted each time it is reached (what is shared counts as often as it is met; a slice's spare places count too). A statement '..UptoSaid' is the law's where the arguments, and the package variables that the reading takes, are together of bulk at most 1048576: NARROWER than '..Said'. Prove '..Said' where nothing that the law and all that it calls make is longer than what came in: it says more and counts as full. Else prove '..UptoSaid'. A law counts once. -/
mutual
def uptoBulk {H : Type} : DataW H → Nat
  | .lit (.string bytes) => bytes.length + 1
  | .lit _ => 1
  | .nil => 1
  | .ptr d => uptoBulk d + 1
  | .slice elems spare => uptoBulkAll elems + uptoBulkAll spare + 1
  | .agg parts => uptoBulkAll parts + 1
  | .iface _ d => uptoBulk d + 1
  | .map entries => uptoBulkEntries entries + 1
  | .held _ => 1
def uptoBulkAll {H : Type} : List (DataW H) → Nat
  | [] => 0
  | d :: r => uptoBulk d + uptoBulkAll r
def uptoBulkEntries {H : Type} : List (Lit × DataW H) → Nat
  | [] => 0
  | x :: r => uptoBulkEntry x + uptoBulkEntries r
def uptoBulkEntry {H : Type} : Lit × DataW H → Nat
  | (.string bytes, d) => bytes.length + uptoBulk d + 1
  | (_, d) => uptoBulk d + 1
 end
def uptoSmall : (H : Type) → List (DataW H) → Bool := fun _ ds => decide (uptoBulkAll ds ≤ 1048576)
def OpenSpec.upto (s : _root_.Go.ChangeSpec) : _root_.Go.OpenSpec := { _root_.Go.OpenSpec.ofChange s with cond := some uptoSmall }

/-- 'hotspotlaw18.ReorderNews', WHERE WHAT IT READS IS OF BULK AT MOST 1048576: true; the input reads as it did. -/
def reorderNewsUptoRow : OpenClaim := { program := "ytnkikepecbjfdaa", sum := "02aacdb57277e4f361052f53369a29d87066f3f0737a0221dffbd13423226812", func := "hotspot/hotspotlaw18.ReorderNews", spec := "reorderNews", apart := false, narrowed := true }
def ReorderNewsUptoSaid : Prop := reorderNewsUptoRow.holds Try.pinned (OpenSpec.upto reorderNewsSpec)

/-- 'hotspotlaw18.ReorderMoves', WHERE WHAT IT READS IS OF BULK AT MOST 1048576: true; the input reads as it did. -/
def reorderMovesUptoRow : OpenClaim := { program := "ytnkikepecbjfdaa", sum := "02aacdb57277e4f361052f53369a29d87066f3f0737a0221dffbd13423226812", func := "hotspot/hotspotlaw18.ReorderMoves", spec := "reorderMoves", unfollowed := true, recurses := true, apart := false, narrowed := true }
def ReorderMovesUptoSaid : Prop := reorderMovesUptoRow.holds Try.pinned (OpenSpec.upto reorderMovesSpec)

/-- 'hotspotlaw18.ReorderPuts', WHERE WHAT IT READS IS OF BULK AT MOST 1048576: true; the input reads as it did. -/
def reorderPutsUptoRow : OpenClaim := { program := "ytnkikepecbjfdaa", sum := "02aacdb57277e4f361052f53369a29d87066f3f0737a0221dffbd13423226812", func := "hotspot/hotspotlaw18.ReorderPuts", spec := "reorderPuts", inPlace := ["slices.overlaps[hotspot/api.HeldSeq]"], unfollowed := true, recurses := true, apart := false, narrowed := true }
def ReorderPutsUptoSaid : Prop := reorderPutsUptoRow.holds Try.pinned (OpenSpec.upto reorderPutsSpec)

/-- 'hotspotlaw18.ReorderTimely', WHERE WHAT IT READS IS OF BULK AT MOST 1048576: true; the input reads as it did. -/
def reorderTimelyUptoRow : OpenClaim := { program := "ytnkikepecbjfdaa", sum := "02aacdb57277e4f361052f53369a29d87066f3f0737a0221dffbd13423226812", func := "hotspot/hotspotlaw18.ReorderTimely", spec := "reorderTimely", inPlace := ["slices.overlaps[hotspot/api.HeldSeq]"], unfollowed := true, recurses := true, apart := false, narrowed := true }
def ReorderTimelyUptoSaid : Prop := reorderTimelyUptoRow.holds Try.pinned (OpenSpec.upto reorderTimelySpec)

/-- 'hotspotlaw18.ReorderStraight', WHERE WHAT IT READS IS OF BULK AT MOST 1048576: true; the input reads as it did. -/
def reorderStraightUptoRow : OpenClaim := { program := "ytnkikepecbjfdaa", sum := "02aacdb57277e4f361052f53369a29d87066f3f0737a0221dffbd13423226812", func := "hotspot/hotspotlaw18.ReorderStraight", spec := "reorderStraight", inPlace := ["slices.overlaps[hotspot/api.HeldSeq]"], unfollowed := true, recurses := true, apart := false, narrowed := true }
def ReorderStraightUptoSaid : Prop := reorderStraightUptoRow.holds Try.pinned (OpenSpec.upto reorderStraightSpec)

/-- 'hotspotlaw18.ReorderOnce', WHERE WHAT IT READS IS OF BULK AT MOST 1048576: true; the input reads as it did. -/
def reorderOnceUptoRow : OpenClaim := { program := "ytnkikepecbjfdaa", sum := "02aacdb57277e4f361052f53369a29d87066f3f0737a0221dffbd13423226812", func := "hotspot/hotspotlaw18.ReorderOnce", spec := "reorderOnce", inPlace := ["slices.overlaps[hotspot/api.HeldSeq]"], unfollowed := true, recurses := true, apart := false, narrowed := true }
def ReorderOnceUptoSaid : Prop := reorderOnceUptoRow.holds Try.pinned (OpenSpec.upto reorderOnceSpec)

/-- 'hotspotlaw18.ReorderKeeps', WHERE WHAT IT READS IS OF BULK AT MOST 1048576: true; the input reads as it did. -/
def reorderKeepsUptoRow : OpenClaim := { program := "ytnkikepecbjfdaa", sum := "02aacdb57277e4f361052f53369a29d87066f3f0737a0221dffbd13423226812", func := "hotspot/hotspotlaw18.ReorderKeeps", spec := "reorderKeeps", inPlace := ["slices.overlaps[hotspot/api.HeldSeq]"], unfollowed := true, recurses := true, apart := false, narrowed := true }
def ReorderKeepsUptoSaid : Prop := reorderKeepsUptoRow.holds Try.pinned (OpenSpec.upto reorderKeepsSpec)

/-- 'hotspotlaw18.ReorderNames', WHERE WHAT IT READS IS OF BULK AT MOST 1048576: true; the input reads as it did. -/
def reorderNamesUptoRow : OpenClaim := { program := "ytnkikepecbjfdaa", sum := "02aacdb57277e4f361052f53369a29d87066f3f0737a0221dffbd13423226812", func := "hotspot/hotspotlaw18.ReorderNames", spec := "reorderNames", inPlace := ["slices.overlaps[hotspot/api.HeldSeq]"], unfollowed := true, recurses := true, apart := false, narrowed := true }
def ReorderNamesUptoSaid : Prop := reorderNamesUptoRow.holds Try.pinned (OpenSpec.upto reorderNamesSpec)

end Rows
end Go.Proofs.Ytnkikepecbjfdaa
