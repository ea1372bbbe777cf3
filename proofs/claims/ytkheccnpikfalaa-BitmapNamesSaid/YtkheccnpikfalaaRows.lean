/-
  No cell of these rows narrows 'for every input' (looked for: loops, veiled, ifaces, maps, wideKeys, modest, calm, conditions, laid).
  DERIVED. THE GIVEN ROWS OF THIS SEAT. 8 by the template 'for every input the law returns true; each argument reads behind the call as it read before'; 0 by the template 'total and deterministic' (their statements: YtkheccnpikfalaaTotals.lean).
  GIVEN WITH THE SEED: the statements are not yours to turn. If you find one false, say at which input.
  Laid BY PROGRAM, IN A SANDBOX (cutbox-rows.mjs): the forced cells as the released guide's own fill.sh prints them over the translation bb9a2f43a3f8a449… (all of the seat's roots in one cut). By AI agents, Wed Nov 11 2026. No macro, syntax, notation, axiom, sorry.
-/
import Derived.Test.YtkheccnpikfalaaChecked
import GoSem.Claim
import GoSem.ClaimJoined
import GoSem.ClaimMapViews
import Derived.JoinedTies
import Derived.KernelRfl
namespace Go.Proofs.Ytkheccnpikfalaa
/- THE CELL 'sum', in the pinned program and in every row, IS THE sha256 OF THE DUMP (.gsa) THAT YtkheccnpikfalaaProg.lean LOADS. Nothing in Lean hashes anything: it is a label: what it is worth is what the hold of that sum in a sandbox is worth. -/
noncomputable def Try.pinned : Pinned := { name := "ytkheccnpikfalaa", sum := "bb9a2f43a3f8a44905eb402ffe9513f29a486c9a6861cdb1957afc2b867b9c56", checked := Try.checked }
namespace Rows
def none {H : Type} : Left H := { results := [], args := [] }

/-- 'hotspotlaw33.BitmapEncodes': WHATEVER THE INPUT: true; the input reads as it did. -/
def bitmapEncodesSpec : ChangeSpec := { name := "bitmapEncodes", fn := fun _ => fun
  | [d1, d2] => { results := [.lit (.bool true)], args := [d1, d2] }
  | _ => none }
def bitmapEncodesRow : OpenClaim := { program := "ytkheccnpikfalaa", sum := "bb9a2f43a3f8a44905eb402ffe9513f29a486c9a6861cdb1957afc2b867b9c56", func := "hotspot/hotspotlaw33.BitmapEncodes", spec := "bitmapEncodes", unfollowed := true, recurses := true, apart := false }
def BitmapEncodesSaid : Prop := bitmapEncodesRow.holds Try.pinned (OpenSpec.ofChange bitmapEncodesSpec)

/-- ITS FALSE NEIGHBOUR: 'it returns false'. Refute it at one input. -/
def bitmapEncodesWrong : ChangeSpec := { name := "bitmapEncodes", fn := fun _ => fun
  | [d1, d2] => { results := [.lit (.bool false)], args := [d1, d2] }
  | _ => none }
def BitmapEncodesWrongFalsely : Prop := bitmapEncodesRow.holds Try.pinned (OpenSpec.ofChange bitmapEncodesWrong)

/-- 'hotspotlaw33.BitmapShortest': WHATEVER THE INPUT: true; the input reads as it did. -/
def bitmapShortestSpec : ChangeSpec := { name := "bitmapShortest", fn := fun _ => fun
  | [d] => { results := [.lit (.bool true)], args := [d] }
  | _ => none }
def bitmapShortestRow : OpenClaim := { program := "ytkheccnpikfalaa", sum := "bb9a2f43a3f8a44905eb402ffe9513f29a486c9a6861cdb1957afc2b867b9c56", func := "hotspot/hotspotlaw33.BitmapShortest", spec := "bitmapShortest", unfollowed := true, recurses := true, apart := false }
def BitmapShortestSaid : Prop := bitmapShortestRow.holds Try.pinned (OpenSpec.ofChange bitmapShortestSpec)

/-- ITS FALSE NEIGHBOUR: 'it returns false'. Refute it at one input. -/
def bitmapShortestWrong : ChangeSpec := { name := "bitmapShortest", fn := fun _ => fun
  | [d] => { results := [.lit (.bool false)], args := [d] }
  | _ => none }
def BitmapShortestWrongFalsely : Prop := bitmapShortestRow.holds Try.pinned (OpenSpec.ofChange bitmapShortestWrong)

/-- 'hotspotlaw33.BitmapLengths': WHATEVER THE INPUT: true; the input reads as it did. -/
def bitmapLengthsSpec : ChangeSpec := { name := "bitmapLengths", fn := fun _ => fun
  | [d] => { results := [.lit (.bool true)], args := [d] }
  | _ => none }
def bitmapLengthsRow : OpenClaim := { program := "ytkheccnpikfalaa", sum := "bb9a2f43a3f8a44905eb402ffe9513f29a486c9a6861cdb1957afc2b867b9c56", func := "hotspot/hotspotlaw33.BitmapLengths", spec := "bitmapLengths", unfollowed := true, recurses := true, apart := false }
def BitmapLengthsSaid : Prop := bitmapLengthsRow.holds Try.pinned (OpenSpec.ofChange bitmapLengthsSpec)

/-- ITS FALSE NEIGHBOUR: 'it returns false'. Refute it at one input. -/
def bitmapLengthsWrong : ChangeSpec := { name := "bitmapLengths", fn := fun _ => fun
  | [d] => { results := [.lit (.bool false)], args := [d] }
  | _ => none }
def BitmapLengthsWrongFalsely : Prop := bitmapLengthsRow.holds Try.pinned (OpenSpec.ofChange bitmapLengthsWrong)

/-- 'hotspotlaw33.BitmapDecodes': WHATEVER THE INPUT: true; the input reads as it did. -/
def bitmapDecodesSpec : ChangeSpec := { name := "bitmapDecodes", fn := fun _ => fun
  | [d] => { results := [.lit (.bool true)], args := [d] }
  | _ => none }
def bitmapDecodesRow : OpenClaim := { program := "ytkheccnpikfalaa", sum := "bb9a2f43a3f8a44905eb402ffe9513f29a486c9a6861cdb1957afc2b867b9c56", func := "hotspot/hotspotlaw33.BitmapDecodes", spec := "bitmapDecodes", unfollowed := true, recurses := true, apart := false }
def BitmapDecodesSaid : Prop := bitmapDecodesRow.holds Try.pinned (OpenSpec.ofChange bitmapDecodesSpec)

/-- ITS FALSE NEIGHBOUR: 'it returns false'. Refute it at one input. -/
def bitmapDecodesWrong : ChangeSpec := { name := "bitmapDecodes", fn := fun _ => fun
  | [d] => { results := [.lit (.bool false)], args := [d] }
  | _ => none }
def BitmapDecodesWrongFalsely : Prop := bitmapDecodesRow.holds Try.pinned (OpenSpec.ofChange bitmapDecodesWrong)

/-- 'hotspotlaw33.BitmapBack': WHATEVER THE INPUT: true; the input reads as it did. -/
def bitmapBackSpec : ChangeSpec := { name := "bitmapBack", fn := fun _ => fun
  | [d1, d2, d3] => { results := [.lit (.bool true)], args := [d1, d2, d3] }
  | _ => none }
def bitmapBackRow : OpenClaim := { program := "ytkheccnpikfalaa", sum := "bb9a2f43a3f8a44905eb402ffe9513f29a486c9a6861cdb1957afc2b867b9c56", func := "hotspot/hotspotlaw33.BitmapBack", spec := "bitmapBack", unfollowed := true, recurses := true, apart := false }
def BitmapBackSaid : Prop := bitmapBackRow.holds Try.pinned (OpenSpec.ofChange bitmapBackSpec)

/-- ITS FALSE NEIGHBOUR: 'it returns false'. Refute it at one input. -/
def bitmapBackWrong : ChangeSpec := { name := "bitmapBack", fn := fun _ => fun
  | [d1, d2, d3] => { results := [.lit (.bool false)], args := [d1, d2, d3] }
  | _ => none }
def BitmapBackWrongFalsely : Prop := bitmapBackRow.holds Try.pinned (OpenSpec.ofChange bitmapBackWrong)

/-- 'hotspotlaw33.BitmapChanges': WHATEVER THE INPUT: true; the input reads as it did. -/
def bitmapChangesSpec : ChangeSpec := { name := "bitmapChanges", fn := fun _ => fun
  | [d1, d2] => { results := [.lit (.bool true)], args := [d1, d2] }
  | _ => none }
def bitmapChangesRow : OpenClaim := { program := "ytkheccnpikfalaa", sum := "bb9a2f43a3f8a44905eb402ffe9513f29a486c9a6861cdb1957afc2b867b9c56", func := "hotspot/hotspotlaw33.BitmapChanges", spec := "bitmapChanges", inPlace := ["slices.overlaps[int]"], apart := false }
def BitmapChangesSaid : Prop := bitmapChangesRow.holds Try.pinned (OpenSpec.ofChange bitmapChangesSpec)

/-- ITS FALSE NEIGHBOUR: 'it returns false'. Refute it at one input. -/
def bitmapChangesWrong : ChangeSpec := { name := "bitmapChanges", fn := fun _ => fun
  | [d1, d2] => { results := [.lit (.bool false)], args := [d1, d2] }
  | _ => none }
def BitmapChangesWrongFalsely : Prop := bitmapChangesRow.holds Try.pinned (OpenSpec.ofChange bitmapChangesWrong)

/-- 'hotspotlaw33.BitmapSets': WHATEVER THE INPUT: true; the input reads as it did. -/
def bitmapSetsSpec : ChangeSpec := { name := "bitmapSets", fn := fun _ => fun
  | [d1, d2, d3] => { results := [.lit (.bool true)], args := [d1, d2, d3] }
  | _ => none }
def bitmapSetsRow : OpenClaim := { program := "ytkheccnpikfalaa", sum := "bb9a2f43a3f8a44905eb402ffe9513f29a486c9a6861cdb1957afc2b867b9c56", func := "hotspot/hotspotlaw33.BitmapSets", spec := "bitmapSets", inPlace := ["slices.overlaps[int]"], unfollowed := true, recurses := true, apart := false }
def BitmapSetsSaid : Prop := bitmapSetsRow.holds Try.pinned (OpenSpec.ofChange bitmapSetsSpec)

/-- ITS FALSE NEIGHBOUR: 'it returns false'. Refute it at one input. -/
def bitmapSetsWrong : ChangeSpec := { name := "bitmapSets", fn := fun _ => fun
  | [d1, d2, d3] => { results := [.lit (.bool false)], args := [d1, d2, d3] }
  | _ => none }
def BitmapSetsWrongFalsely : Prop := bitmapSetsRow.holds Try.pinned (OpenSpec.ofChange bitmapSetsWrong)

/-- 'hotspotlaw33.BitmapNames': WHATEVER THE INPUT: true; the input reads as it did. -/
def bitmapNamesSpec : ChangeSpec := { name := "bitmapNames", fn := fun _ => fun
  | [] => { results := [.lit (.bool true)], args := [] }
  | _ => none }
def bitmapNamesRow : OpenClaim := { program := "ytkheccnpikfalaa", sum := "bb9a2f43a3f8a44905eb402ffe9513f29a486c9a6861cdb1957afc2b867b9c56", func := "hotspot/hotspotlaw33.BitmapNames", spec := "bitmapNames", inPlace := ["slices.overlaps[int]"], unfollowed := true, recurses := true, apart := false }
def BitmapNamesSaid : Prop := bitmapNamesRow.holds Try.pinned (OpenSpec.ofChange bitmapNamesSpec)

/-- ITS FALSE NEIGHBOUR: 'it returns false'. Refute it at one input. -/
def bitmapNamesWrong : ChangeSpec := { name := "bitmapNames", fn := fun _ => fun
  | [] => { results := [.lit (.bool false)], args := [] }
  | _ => none }
def BitmapNamesWrongFalsely : Prop := bitmapNamesRow.holds Try.pinned (OpenSpec.ofChange bitmapNamesWrong)

/- THE SECOND FORM. 'bulk': how many values and letters a reading holds, each counted each time it is reached (what is shared counts as often as it is met; a slice's spare places count too). A statement '..UptoSaid' is the law's where the arguments, and the package variables that the reading takes, are together of bulk at most 1048576: NARROWER than '..Said'. Prove '..Said' where nothing that the law and all that it calls make is longer than what came in: it says more and counts as full. Else prove '..UptoSaid'. A law counts once. -/
mutual
def uptoBulk {H : Type} : DataW H → Nat
  | .lit (.string bytes) => bytes.length + 1
  | .lit _ => 1
  | .nil => 1
  | .ptr d => uptoBulk d + 1
  | .slice elems spare => uptoBulkAll elems + uptoBulkAll spare + 1
  | .agg parts => uptoBulkAll parts + 1
  | .iface _ d => uptoBulk d + 1
  | .map entries => uptoBulkEntries entries + 1
  | .held _ => 1
def uptoBulkAll {H : Type} : List (DataW H) → Nat
  | [] => 0
  | d :: r => uptoBulk d + uptoBulkAll r
def uptoBulkEntries {H : Type} : List (Lit × DataW H) → Nat
  | [] => 0
  | x :: r => uptoBulkEntry x + uptoBulkEntries r
def uptoBulkEntry {H : Type} : Lit × DataW H → Nat
  | (.string bytes, d) => bytes.length + uptoBulk d + 1
  | (_, d) => uptoBulk d + 1
 end
def uptoSmall : (H : Type) → List (DataW H) → Bool := fun _ ds => decide (uptoBulkAll ds ≤ 1048576)
def OpenSpec.upto (s : _root_.Go.ChangeSpec) : _root_.Go.OpenSpec := { _root_.Go.OpenSpec.ofChange s with cond := some uptoSmall }

/-- 'hotspotlaw33.BitmapEncodes', WHERE WHAT IT READS IS OF BULK AT MOST 1048576: true; the input reads as it did. -/
def bitmapEncodesUptoRow : OpenClaim := { program := "ytkheccnpikfalaa", sum := "bb9a2f43a3f8a44905eb402ffe9513f29a486c9a6861cdb1957afc2b867b9c56", func := "hotspot/hotspotlaw33.BitmapEncodes", spec := "bitmapEncodes", unfollowed := true, recurses := true, apart := false, narrowed := true }
def BitmapEncodesUptoSaid : Prop := bitmapEncodesUptoRow.holds Try.pinned (OpenSpec.upto bitmapEncodesSpec)

/-- 'hotspotlaw33.BitmapShortest', WHERE WHAT IT READS IS OF BULK AT MOST 1048576: true; the input reads as it did. -/
def bitmapShortestUptoRow : OpenClaim := { program := "ytkheccnpikfalaa", sum := "bb9a2f43a3f8a44905eb402ffe9513f29a486c9a6861cdb1957afc2b867b9c56", func := "hotspot/hotspotlaw33.BitmapShortest", spec := "bitmapShortest", unfollowed := true, recurses := true, apart := false, narrowed := true }
def BitmapShortestUptoSaid : Prop := bitmapShortestUptoRow.holds Try.pinned (OpenSpec.upto bitmapShortestSpec)

/-- 'hotspotlaw33.BitmapLengths', WHERE WHAT IT READS IS OF BULK AT MOST 1048576: true; the input reads as it did. -/
def bitmapLengthsUptoRow : OpenClaim := { program := "ytkheccnpikfalaa", sum := "bb9a2f43a3f8a44905eb402ffe9513f29a486c9a6861cdb1957afc2b867b9c56", func := "hotspot/hotspotlaw33.BitmapLengths", spec := "bitmapLengths", unfollowed := true, recurses := true, apart := false, narrowed := true }
def BitmapLengthsUptoSaid : Prop := bitmapLengthsUptoRow.holds Try.pinned (OpenSpec.upto bitmapLengthsSpec)

/-- 'hotspotlaw33.BitmapDecodes', WHERE WHAT IT READS IS OF BULK AT MOST 1048576: true; the input reads as it did. -/
def bitmapDecodesUptoRow : OpenClaim := { program := "ytkheccnpikfalaa", sum := "bb9a2f43a3f8a44905eb402ffe9513f29a486c9a6861cdb1957afc2b867b9c56", func := "hotspot/hotspotlaw33.BitmapDecodes", spec := "bitmapDecodes", unfollowed := true, recurses := true, apart := false, narrowed := true }
def BitmapDecodesUptoSaid : Prop := bitmapDecodesUptoRow.holds Try.pinned (OpenSpec.upto bitmapDecodesSpec)

/-- 'hotspotlaw33.BitmapBack', WHERE WHAT IT READS IS OF BULK AT MOST 1048576: true; the input reads as it did. -/
def bitmapBackUptoRow : OpenClaim := { program := "ytkheccnpikfalaa", sum := "bb9a2f43a3f8a44905eb402ffe9513f29a486c9a6861cdb1957afc2b867b9c56", func := "hotspot/hotspotlaw33.BitmapBack", spec := "bitmapBack", unfollowed := true, recurses := true, apart := false, narrowed := true }
def BitmapBackUptoSaid : Prop := bitmapBackUptoRow.holds Try.pinned (OpenSpec.upto bitmapBackSpec)

/-- 'hotspotlaw33.BitmapChanges', WHERE WHAT IT READS IS OF BULK AT MOST 1048576: true; the input reads as it did. -/
def bitmapChangesUptoRow : OpenClaim := { program := "ytkheccnpikfalaa", sum := "bb9a2f43a3f8a44905eb402ffe9513f29a486c9a6861cdb1957afc2b867b9c56", func := "hotspot/hotspotlaw33.BitmapChanges", spec := "bitmapChanges", inPlace := ["slices.overlaps[int]"], apart := false, narrowed := true }
def BitmapChangesUptoSaid : Prop := bitmapChangesUptoRow.holds Try.pinned (OpenSpec.upto bitmapChangesSpec)

/-- 'hotspotlaw33.BitmapSets', WHERE WHAT IT READS IS OF BULK AT MOST 1048576: true; the input reads as it did. -/
def bitmapSetsUptoRow : OpenClaim := { program := "ytkheccnpikfalaa", sum := "bb9a2f43a3f8a44905eb402ffe9513f29a486c9a6861cdb1957afc2b867b9c56", func := "hotspot/hotspotlaw33.BitmapSets", spec := "bitmapSets", inPlace := ["slices.overlaps[int]"], unfollowed := true, recurses := true, apart := false, narrowed := true }
def BitmapSetsUptoSaid : Prop := bitmapSetsUptoRow.holds Try.pinned (OpenSpec.upto bitmapSetsSpec)

/-- 'hotspotlaw33.BitmapNames', WHERE WHAT IT READS IS OF BULK AT MOST 1048576: true; the input reads as it did. -/
def bitmapNamesUptoRow : OpenClaim := { program := "ytkheccnpikfalaa", sum := "bb9a2f43a3f8a44905eb402ffe9513f29a486c9a6861cdb1957afc2b867b9c56", func := "hotspot/hotspotlaw33.BitmapNames", spec := "bitmapNames", inPlace := ["slices.overlaps[int]"], unfollowed := true, recurses := true, apart := false, narrowed := true }
def BitmapNamesUptoSaid : Prop := bitmapNamesUptoRow.holds Try.pinned (OpenSpec.upto bitmapNamesSpec)

end Rows
end Go.Proofs.Ytkheccnpikfalaa
