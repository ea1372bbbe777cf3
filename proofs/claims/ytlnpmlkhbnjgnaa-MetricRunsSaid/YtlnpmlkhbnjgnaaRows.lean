/-
  No cell of these rows narrows 'for every input' (looked for: loops, veiled, ifaces, maps, wideKeys, modest, calm, conditions, laid).
  DERIVED. THE GIVEN ROWS OF THIS SEAT. 9 by the template 'for every input the law returns true; each argument reads behind the call as it read before'; 0 by the template 'total and deterministic' (their statements: YtlnpmlkhbnjgnaaTotals.lean).
  GIVEN WITH THE SEED: the statements are not yours to turn. If you find one false, say at which input.
  Laid BY PROGRAM, IN A SANDBOX (cutbox-rows.mjs): the forced cells as the released guide's own fill.sh prints them over the translation 824be0e3b12c1a28… (all of the seat's roots in one cut). By AI agents, Wed Nov 11 2026. No macro, syntax, notation, axiom, sorry.
-/
import Derived.Test.YtlnpmlkhbnjgnaaChecked
import GoSem.Claim
import GoSem.ClaimJoined
import GoSem.ClaimMapViews
import Derived.JoinedTies
import Derived.KernelRfl
namespace Go.Proofs.Ytlnpmlkhbnjgnaa
/- THE CELL 'sum', in the pinned program and in every row, IS THE sha256 OF THE DUMP (.gsa) THAT YtlnpmlkhbnjgnaaProg.lean LOADS. Nothing in Lean hashes anything: it is a label: what it is worth is what the hold of that sum in a sandbox is worth. -/
noncomputable def Try.pinned : Pinned := { name := "ytlnpmlkhbnjgnaa", sum := "824be0e3b12c1a2847f8f86f705566738a3356be0d01c6360d733d0a1c6dd8d4", checked := Try.checked }
namespace Rows
def none {H : Type} : Left H := { results := [], args := [] }

/-- 'hotspotlaw38.MetricMatches': WHATEVER THE INPUT: true; the input reads as it did. -/
def metricMatchesSpec : ChangeSpec := { name := "metricMatches", fn := fun _ => fun
  | [d1, d2, d3, d4] => { results := [.lit (.bool true)], args := [d1, d2, d3, d4] }
  | _ => none }
def metricMatchesRow : OpenClaim := { program := "ytlnpmlkhbnjgnaa", sum := "824be0e3b12c1a2847f8f86f705566738a3356be0d01c6360d733d0a1c6dd8d4", func := "hotspot/hotspotlaw38.MetricMatches", spec := "metricMatches", unfollowed := true, recurses := true, apart := false }
def MetricMatchesSaid : Prop := metricMatchesRow.holds Try.pinned (OpenSpec.ofChange metricMatchesSpec)

/-- ITS FALSE NEIGHBOUR: 'it returns false'. Refute it at one input. -/
def metricMatchesWrong : ChangeSpec := { name := "metricMatches", fn := fun _ => fun
  | [d1, d2, d3, d4] => { results := [.lit (.bool false)], args := [d1, d2, d3, d4] }
  | _ => none }
def MetricMatchesWrongFalsely : Prop := metricMatchesRow.holds Try.pinned (OpenSpec.ofChange metricMatchesWrong)

/-- 'hotspotlaw38.MetricMonotone': WHATEVER THE INPUT: true; the input reads as it did. -/
def metricMonotoneSpec : ChangeSpec := { name := "metricMonotone", fn := fun _ => fun
  | [d1, d2, d3, d4] => { results := [.lit (.bool true)], args := [d1, d2, d3, d4] }
  | _ => none }
def metricMonotoneRow : OpenClaim := { program := "ytlnpmlkhbnjgnaa", sum := "824be0e3b12c1a2847f8f86f705566738a3356be0d01c6360d733d0a1c6dd8d4", func := "hotspot/hotspotlaw38.MetricMonotone", spec := "metricMonotone", inPlace := ["internal/bytealg.Compare", "slices.overlaps[hotspot/api.MetricLink]"], unfollowed := true, recurses := true, apart := false }
def MetricMonotoneSaid : Prop := metricMonotoneRow.holds Try.pinned (OpenSpec.ofChange metricMonotoneSpec)

/-- ITS FALSE NEIGHBOUR: 'it returns false'. Refute it at one input. -/
def metricMonotoneWrong : ChangeSpec := { name := "metricMonotone", fn := fun _ => fun
  | [d1, d2, d3, d4] => { results := [.lit (.bool false)], args := [d1, d2, d3, d4] }
  | _ => none }
def MetricMonotoneWrongFalsely : Prop := metricMonotoneRow.holds Try.pinned (OpenSpec.ofChange metricMonotoneWrong)

/-- 'hotspotlaw38.MetricShares': WHATEVER THE INPUT: true; the input reads as it did. -/
def metricSharesSpec : ChangeSpec := { name := "metricShares", fn := fun _ => fun
  | [d] => { results := [.lit (.bool true)], args := [d] }
  | _ => none }
def metricSharesRow : OpenClaim := { program := "ytlnpmlkhbnjgnaa", sum := "824be0e3b12c1a2847f8f86f705566738a3356be0d01c6360d733d0a1c6dd8d4", func := "hotspot/hotspotlaw38.MetricShares", spec := "metricShares", inPlace := ["internal/bytealg.Compare", "slices.overlaps[hotspot/api.MetricLink]"], unfollowed := true, recurses := true, apart := false }
def MetricSharesSaid : Prop := metricSharesRow.holds Try.pinned (OpenSpec.ofChange metricSharesSpec)

/-- ITS FALSE NEIGHBOUR: 'it returns false'. Refute it at one input. -/
def metricSharesWrong : ChangeSpec := { name := "metricShares", fn := fun _ => fun
  | [d] => { results := [.lit (.bool false)], args := [d] }
  | _ => none }
def MetricSharesWrongFalsely : Prop := metricSharesRow.holds Try.pinned (OpenSpec.ofChange metricSharesWrong)

/-- 'hotspotlaw38.MetricConverges': WHATEVER THE INPUT: true; the input reads as it did. -/
def metricConvergesSpec : ChangeSpec := { name := "metricConverges", fn := fun _ => fun
  | [d1, d2, d3, d4] => { results := [.lit (.bool true)], args := [d1, d2, d3, d4] }
  | _ => none }
def metricConvergesRow : OpenClaim := { program := "ytlnpmlkhbnjgnaa", sum := "824be0e3b12c1a2847f8f86f705566738a3356be0d01c6360d733d0a1c6dd8d4", func := "hotspot/hotspotlaw38.MetricConverges", spec := "metricConverges", inPlace := ["internal/bytealg.Compare", "slices.overlaps[hotspot/api.MetricLink]"], unfollowed := true, recurses := true, apart := false }
def MetricConvergesSaid : Prop := metricConvergesRow.holds Try.pinned (OpenSpec.ofChange metricConvergesSpec)

/-- ITS FALSE NEIGHBOUR: 'it returns false'. Refute it at one input. -/
def metricConvergesWrong : ChangeSpec := { name := "metricConverges", fn := fun _ => fun
  | [d1, d2, d3, d4] => { results := [.lit (.bool false)], args := [d1, d2, d3, d4] }
  | _ => none }
def MetricConvergesWrongFalsely : Prop := metricConvergesRow.holds Try.pinned (OpenSpec.ofChange metricConvergesWrong)

/-- 'hotspotlaw38.MetricSums': WHATEVER THE INPUT: true; the input reads as it did. -/
def metricSumsSpec : ChangeSpec := { name := "metricSums", fn := fun _ => fun
  | [d1, d2, d3] => { results := [.lit (.bool true)], args := [d1, d2, d3] }
  | _ => none }
def metricSumsRow : OpenClaim := { program := "ytlnpmlkhbnjgnaa", sum := "824be0e3b12c1a2847f8f86f705566738a3356be0d01c6360d733d0a1c6dd8d4", func := "hotspot/hotspotlaw38.MetricSums", spec := "metricSums", inPlace := ["internal/bytealg.Compare", "slices.overlaps[hotspot/api.MetricLink]"], unfollowed := true, recurses := true, apart := false }
def MetricSumsSaid : Prop := metricSumsRow.holds Try.pinned (OpenSpec.ofChange metricSumsSpec)

/-- ITS FALSE NEIGHBOUR: 'it returns false'. Refute it at one input. -/
def metricSumsWrong : ChangeSpec := { name := "metricSums", fn := fun _ => fun
  | [d1, d2, d3] => { results := [.lit (.bool false)], args := [d1, d2, d3] }
  | _ => none }
def MetricSumsWrongFalsely : Prop := metricSumsRow.holds Try.pinned (OpenSpec.ofChange metricSumsWrong)

/-- 'hotspotlaw38.MetricRuns': WHATEVER THE INPUT: true; the input reads as it did. -/
def metricRunsSpec : ChangeSpec := { name := "metricRuns", fn := fun _ => fun
  | [d] => { results := [.lit (.bool true)], args := [d] }
  | _ => none }
def metricRunsRow : OpenClaim := { program := "ytlnpmlkhbnjgnaa", sum := "824be0e3b12c1a2847f8f86f705566738a3356be0d01c6360d733d0a1c6dd8d4", func := "hotspot/hotspotlaw38.MetricRuns", spec := "metricRuns", inPlace := ["internal/bytealg.Compare", "slices.overlaps[hotspot/api.MetricLink]"], unfollowed := true, recurses := true, apart := false }
def MetricRunsSaid : Prop := metricRunsRow.holds Try.pinned (OpenSpec.ofChange metricRunsSpec)

/-- ITS FALSE NEIGHBOUR: 'it returns false'. Refute it at one input. -/
def metricRunsWrong : ChangeSpec := { name := "metricRuns", fn := fun _ => fun
  | [d] => { results := [.lit (.bool false)], args := [d] }
  | _ => none }
def MetricRunsWrongFalsely : Prop := metricRunsRow.holds Try.pinned (OpenSpec.ofChange metricRunsWrong)

/-- 'hotspotlaw38.MetricNames': WHATEVER THE INPUT: true; the input reads as it did. -/
def metricNamesSpec : ChangeSpec := { name := "metricNames", fn := fun _ => fun
  | [] => { results := [.lit (.bool true)], args := [] }
  | _ => none }
def metricNamesRow : OpenClaim := { program := "ytlnpmlkhbnjgnaa", sum := "824be0e3b12c1a2847f8f86f705566738a3356be0d01c6360d733d0a1c6dd8d4", func := "hotspot/hotspotlaw38.MetricNames", spec := "metricNames", inPlace := ["internal/bytealg.Compare", "slices.overlaps[hotspot/api.MetricLink]"], unfollowed := true, recurses := true, apart := false }
def MetricNamesSaid : Prop := metricNamesRow.holds Try.pinned (OpenSpec.ofChange metricNamesSpec)

/-- ITS FALSE NEIGHBOUR: 'it returns false'. Refute it at one input. -/
def metricNamesWrong : ChangeSpec := { name := "metricNames", fn := fun _ => fun
  | [] => { results := [.lit (.bool false)], args := [] }
  | _ => none }
def MetricNamesWrongFalsely : Prop := metricNamesRow.holds Try.pinned (OpenSpec.ofChange metricNamesWrong)

/-- 'hotspotlaw38.MetricTables': WHATEVER THE INPUT: true; the input reads as it did. -/
def metricTablesSpec : ChangeSpec := { name := "metricTables", fn := fun _ => fun
  | [d1, d2, d3, d4, d5] => { results := [.lit (.bool true)], args := [d1, d2, d3, d4, d5] }
  | _ => none }
def metricTablesRow : OpenClaim := { program := "ytlnpmlkhbnjgnaa", sum := "824be0e3b12c1a2847f8f86f705566738a3356be0d01c6360d733d0a1c6dd8d4", func := "hotspot/hotspotlaw38.MetricTables", spec := "metricTables", inPlace := ["internal/bytealg.Compare", "slices.overlaps[hotspot/api.MetricLink]"], unfollowed := true, recurses := true, apart := false }
def MetricTablesSaid : Prop := metricTablesRow.holds Try.pinned (OpenSpec.ofChange metricTablesSpec)

/-- ITS FALSE NEIGHBOUR: 'it returns false'. Refute it at one input. -/
def metricTablesWrong : ChangeSpec := { name := "metricTables", fn := fun _ => fun
  | [d1, d2, d3, d4, d5] => { results := [.lit (.bool false)], args := [d1, d2, d3, d4, d5] }
  | _ => none }
def MetricTablesWrongFalsely : Prop := metricTablesRow.holds Try.pinned (OpenSpec.ofChange metricTablesWrong)

/-- 'hotspotlaw38.MetricAges': WHATEVER THE INPUT: true; the input reads as it did. -/
def metricAgesSpec : ChangeSpec := { name := "metricAges", fn := fun _ => fun
  | [d1, d2] => { results := [.lit (.bool true)], args := [d1, d2] }
  | _ => none }
def metricAgesRow : OpenClaim := { program := "ytlnpmlkhbnjgnaa", sum := "824be0e3b12c1a2847f8f86f705566738a3356be0d01c6360d733d0a1c6dd8d4", func := "hotspot/hotspotlaw38.MetricAges", spec := "metricAges", inPlace := ["internal/bytealg.Compare", "slices.overlaps[hotspot/api.MetricLink]"], unfollowed := true, recurses := true, apart := false }
def MetricAgesSaid : Prop := metricAgesRow.holds Try.pinned (OpenSpec.ofChange metricAgesSpec)

/-- ITS FALSE NEIGHBOUR: 'it returns false'. Refute it at one input. -/
def metricAgesWrong : ChangeSpec := { name := "metricAges", fn := fun _ => fun
  | [d1, d2] => { results := [.lit (.bool false)], args := [d1, d2] }
  | _ => none }
def MetricAgesWrongFalsely : Prop := metricAgesRow.holds Try.pinned (OpenSpec.ofChange metricAgesWrong)

/- THE SECOND FORM. 'bulk': how many values and letters a reading holds, each counted each time it is reached (what is shared counts as often as it is met; a slice's spare places count too). A statement '..UptoSaid' is the law's where the arguments, and the package variables that the reading takes, are together of bulk at most 1048576: NARROWER than '..Said'. Prove '..Said' where nothing that the law and all that it calls make is longer than what came in: it says more and counts as full. Else prove '..UptoSaid'. A law counts once. -/
mutual
def uptoBulk {H : Type} : DataW H → Nat
  | .lit (.string bytes) => bytes.length + 1
  | .lit _ => 1
  | .nil => 1
  | .ptr d => uptoBulk d + 1
  | .slice elems spare => uptoBulkAll elems + uptoBulkAll spare + 1
  | .agg parts => uptoBulkAll parts + 1
  | .iface _ d => uptoBulk d + 1
  | .map entries => uptoBulkEntries entries + 1
  | .held _ => 1
def uptoBulkAll {H : Type} : List (DataW H) → Nat
  | [] => 0
  | d :: r => uptoBulk d + uptoBulkAll r
def uptoBulkEntries {H : Type} : List (Lit × DataW H) → Nat
  | [] => 0
  | x :: r => uptoBulkEntry x + uptoBulkEntries r
def uptoBulkEntry {H : Type} : Lit × DataW H → Nat
  | (.string bytes, d) => bytes.length + uptoBulk d + 1
  | (_, d) => uptoBulk d + 1
 end
def uptoSmall : (H : Type) → List (DataW H) → Bool := fun _ ds => decide (uptoBulkAll ds ≤ 1048576)
def OpenSpec.upto (s : _root_.Go.ChangeSpec) : _root_.Go.OpenSpec := { _root_.Go.OpenSpec.ofChange s with cond := some uptoSmall }

/-- 'hotspotlaw38.MetricMatches', WHERE WHAT IT READS IS OF BULK AT MOST 1048576: true; the input reads as it did. -/
def metricMatchesUptoRow : OpenClaim := { program := "ytlnpmlkhbnjgnaa", sum := "824be0e3b12c1a2847f8f86f705566738a3356be0d01c6360d733d0a1c6dd8d4", func := "hotspot/hotspotlaw38.MetricMatches", spec := "metricMatches", unfollowed := true, recurses := true, apart := false, narrowed := true }
def MetricMatchesUptoSaid : Prop := metricMatchesUptoRow.holds Try.pinned (OpenSpec.upto metricMatchesSpec)

/-- 'hotspotlaw38.MetricMonotone', WHERE WHAT IT READS IS OF BULK AT MOST 1048576: true; the input reads as it did. -/
def metricMonotoneUptoRow : OpenClaim := { program := "ytlnpmlkhbnjgnaa", sum := "824be0e3b12c1a2847f8f86f705566738a3356be0d01c6360d733d0a1c6dd8d4", func := "hotspot/hotspotlaw38.MetricMonotone", spec := "metricMonotone", inPlace := ["internal/bytealg.Compare", "slices.overlaps[hotspot/api.MetricLink]"], unfollowed := true, recurses := true, apart := false, narrowed := true }
def MetricMonotoneUptoSaid : Prop := metricMonotoneUptoRow.holds Try.pinned (OpenSpec.upto metricMonotoneSpec)

/-- 'hotspotlaw38.MetricShares', WHERE WHAT IT READS IS OF BULK AT MOST 1048576: true; the input reads as it did. -/
def metricSharesUptoRow : OpenClaim := { program := "ytlnpmlkhbnjgnaa", sum := "824be0e3b12c1a2847f8f86f705566738a3356be0d01c6360d733d0a1c6dd8d4", func := "hotspot/hotspotlaw38.MetricShares", spec := "metricShares", inPlace := ["internal/bytealg.Compare", "slices.overlaps[hotspot/api.MetricLink]"], unfollowed := true, recurses := true, apart := false, narrowed := true }
def MetricSharesUptoSaid : Prop := metricSharesUptoRow.holds Try.pinned (OpenSpec.upto metricSharesSpec)

/-- 'hotspotlaw38.MetricConverges', WHERE WHAT IT READS IS OF BULK AT MOST 1048576: true; the input reads as it did. -/
def metricConvergesUptoRow : OpenClaim := { program := "ytlnpmlkhbnjgnaa", sum := "824be0e3b12c1a2847f8f86f705566738a3356be0d01c6360d733d0a1c6dd8d4", func := "hotspot/hotspotlaw38.MetricConverges", spec := "metricConverges", inPlace := ["internal/bytealg.Compare", "slices.overlaps[hotspot/api.MetricLink]"], unfollowed := true, recurses := true, apart := false, narrowed := true }
def MetricConvergesUptoSaid : Prop := metricConvergesUptoRow.holds Try.pinned (OpenSpec.upto metricConvergesSpec)

/-- 'hotspotlaw38.MetricSums', WHERE WHAT IT READS IS OF BULK AT MOST 1048576: true; the input reads as it did. -/
def metricSumsUptoRow : OpenClaim := { program := "ytlnpmlkhbnjgnaa", sum := "824be0e3b12c1a2847f8f86f705566738a3356be0d01c6360d733d0a1c6dd8d4", func := "hotspot/hotspotlaw38.MetricSums", spec := "metricSums", inPlace := ["internal/bytealg.Compare", "slices.overlaps[hotspot/api.MetricLink]"], unfollowed := true, recurses := true, apart := false, narrowed := true }
def MetricSumsUptoSaid : Prop := metricSumsUptoRow.holds Try.pinned (OpenSpec.upto metricSumsSpec)

/-- 'hotspotlaw38.MetricRuns', WHERE WHAT IT READS IS OF BULK AT MOST 1048576: true; the input reads as it did. -/
def metricRunsUptoRow : OpenClaim := { program := "ytlnpmlkhbnjgnaa", sum := "824be0e3b12c1a2847f8f86f705566738a3356be0d01c6360d733d0a1c6dd8d4", func := "hotspot/hotspotlaw38.MetricRuns", spec := "metricRuns", inPlace := ["internal/bytealg.Compare", "slices.overlaps[hotspot/api.MetricLink]"], unfollowed := true, recurses := true, apart := false, narrowed := true }
def MetricRunsUptoSaid : Prop := metricRunsUptoRow.holds Try.pinned (OpenSpec.upto metricRunsSpec)

/-- 'hotspotlaw38.MetricNames', WHERE WHAT IT READS IS OF BULK AT MOST 1048576: true; the input reads as it did. -/
def metricNamesUptoRow : OpenClaim := { program := "ytlnpmlkhbnjgnaa", sum := "824be0e3b12c1a2847f8f86f705566738a3356be0d01c6360d733d0a1c6dd8d4", func := "hotspot/hotspotlaw38.MetricNames", spec := "metricNames", inPlace := ["internal/bytealg.Compare", "slices.overlaps[hotspot/api.MetricLink]"], unfollowed := true, recurses := true, apart := false, narrowed := true }
def MetricNamesUptoSaid : Prop := metricNamesUptoRow.holds Try.pinned (OpenSpec.upto metricNamesSpec)

/-- 'hotspotlaw38.MetricTables', WHERE WHAT IT READS IS OF BULK AT MOST 1048576: true; the input reads as it did. -/
def metricTablesUptoRow : OpenClaim := { program := "ytlnpmlkhbnjgnaa", sum := "824be0e3b12c1a2847f8f86f705566738a3356be0d01c6360d733d0a1c6dd8d4", func := "hotspot/hotspotlaw38.MetricTables", spec := "metricTables", inPlace := ["internal/bytealg.Compare", "slices.overlaps[hotspot/api.MetricLink]"], unfollowed := true, recurses := true, apart := false, narrowed := true }
def MetricTablesUptoSaid : Prop := metricTablesUptoRow.holds Try.pinned (OpenSpec.upto metricTablesSpec)

/-- 'hotspotlaw38.MetricAges', WHERE WHAT IT READS IS OF BULK AT MOST 1048576: true; the input reads as it did. -/
def metricAgesUptoRow : OpenClaim := { program := "ytlnpmlkhbnjgnaa", sum := "824be0e3b12c1a2847f8f86f705566738a3356be0d01c6360d733d0a1c6dd8d4", func := "hotspot/hotspotlaw38.MetricAges", spec := "metricAges", inPlace := ["internal/bytealg.Compare", "slices.overlaps[hotspot/api.MetricLink]"], unfollowed := true, recurses := true, apart := false, narrowed := true }
def MetricAgesUptoSaid : Prop := metricAgesUptoRow.holds Try.pinned (OpenSpec.upto metricAgesSpec)

end Rows
end Go.Proofs.Ytlnpmlkhbnjgnaa
