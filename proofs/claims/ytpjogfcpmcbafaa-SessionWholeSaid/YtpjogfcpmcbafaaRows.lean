/-
  No cell of these rows narrows 'for every input' (looked for: loops, veiled, ifaces, maps, wideKeys, modest, calm, conditions, laid).
  DERIVED. THE GIVEN ROWS OF THIS SEAT. 6 by the template 'for every input the law returns true; each argument reads behind the call as it read before'; 0 by the template 'total and deterministic' (their statements: YtpjogfcpmcbafaaTotals.lean).
  GIVEN WITH THE SEED: the statements are not yours to turn. If you find one false, say at which input.
  Laid BY PROGRAM, IN A SANDBOX (cutbox-rows.mjs): the forced cells as the released guide's own fill.sh prints them over the translation d23d5a76580c7056… (all of the seat's roots in one cut). By AI agents, Wed Nov 11 2026. No macro, syntax, notation, axiom, sorry.
-/
import Derived.Test.YtpjogfcpmcbafaaChecked
import GoSem.Claim
import GoSem.ClaimJoined
import GoSem.ClaimMapViews
import Derived.JoinedTies
import Derived.KernelRfl
namespace Go.Proofs.Ytpjogfcpmcbafaa
/- THE CELL 'sum', in the pinned program and in every row, IS THE sha256 OF THE DUMP (.gsa) THAT YtpjogfcpmcbafaaProg.lean LOADS. Nothing in Lean hashes anything: it is a label: what it is worth is what the hold of that sum in a sandbox is worth. -/
noncomputable def Try.pinned : Pinned := { name := "ytpjogfcpmcbafaa", sum := "d23d5a76580c7056c7475eef91047ff8ed9fe69e9977a1181d55b8b64ba0ee1e", checked := Try.checked }
namespace Rows
def none {H : Type} : Left H := { results := [], args := [] }

/-- 'hotspotlaw20.SessionNames': WHATEVER THE INPUT: true; the input reads as it did. -/
def sessionNamesSpec : ChangeSpec := { name := "sessionNames", fn := fun _ => fun
  | [] => { results := [.lit (.bool true)], args := [] }
  | _ => none }
def sessionNamesRow : OpenClaim := { program := "ytpjogfcpmcbafaa", sum := "d23d5a76580c7056c7475eef91047ff8ed9fe69e9977a1181d55b8b64ba0ee1e", func := "hotspot/hotspotlaw20.SessionNames", spec := "sessionNames", inPlace := ["slices.overlaps[hotspot/api.HeldSeq]"], unfollowed := true, recurses := true, apart := false }
def SessionNamesSaid : Prop := sessionNamesRow.holds Try.pinned (OpenSpec.ofChange sessionNamesSpec)

/-- ITS FALSE NEIGHBOUR: 'it returns false'. Refute it at one input. -/
def sessionNamesWrong : ChangeSpec := { name := "sessionNames", fn := fun _ => fun
  | [] => { results := [.lit (.bool false)], args := [] }
  | _ => none }
def SessionNamesWrongFalsely : Prop := sessionNamesRow.holds Try.pinned (OpenSpec.ofChange sessionNamesWrong)

/-- 'hotspotlaw20.SessionOnce': WHATEVER THE INPUT: true; the input reads as it did. -/
def sessionOnceSpec : ChangeSpec := { name := "sessionOnce", fn := fun _ => fun
  | [d1, d2, d3] => { results := [.lit (.bool true)], args := [d1, d2, d3] }
  | _ => none }
def sessionOnceRow : OpenClaim := { program := "ytpjogfcpmcbafaa", sum := "d23d5a76580c7056c7475eef91047ff8ed9fe69e9977a1181d55b8b64ba0ee1e", func := "hotspot/hotspotlaw20.SessionOnce", spec := "sessionOnce", inPlace := ["slices.overlaps[hotspot/api.HeldSeq]"], unfollowed := true, recurses := true, apart := false }
def SessionOnceSaid : Prop := sessionOnceRow.holds Try.pinned (OpenSpec.ofChange sessionOnceSpec)

/-- ITS FALSE NEIGHBOUR: 'it returns false'. Refute it at one input. -/
def sessionOnceWrong : ChangeSpec := { name := "sessionOnce", fn := fun _ => fun
  | [d1, d2, d3] => { results := [.lit (.bool false)], args := [d1, d2, d3] }
  | _ => none }
def SessionOnceWrongFalsely : Prop := sessionOnceRow.holds Try.pinned (OpenSpec.ofChange sessionOnceWrong)

/-- 'hotspotlaw20.SessionEnds': WHATEVER THE INPUT: true; the input reads as it did. -/
def sessionEndsSpec : ChangeSpec := { name := "sessionEnds", fn := fun _ => fun
  | [d1, d2, d3] => { results := [.lit (.bool true)], args := [d1, d2, d3] }
  | _ => none }
def sessionEndsRow : OpenClaim := { program := "ytpjogfcpmcbafaa", sum := "d23d5a76580c7056c7475eef91047ff8ed9fe69e9977a1181d55b8b64ba0ee1e", func := "hotspot/hotspotlaw20.SessionEnds", spec := "sessionEnds", inPlace := ["slices.overlaps[hotspot/api.HeldSeq]"], unfollowed := true, recurses := true, apart := false }
def SessionEndsSaid : Prop := sessionEndsRow.holds Try.pinned (OpenSpec.ofChange sessionEndsSpec)

/-- ITS FALSE NEIGHBOUR: 'it returns false'. Refute it at one input. -/
def sessionEndsWrong : ChangeSpec := { name := "sessionEnds", fn := fun _ => fun
  | [d1, d2, d3] => { results := [.lit (.bool false)], args := [d1, d2, d3] }
  | _ => none }
def SessionEndsWrongFalsely : Prop := sessionEndsRow.holds Try.pinned (OpenSpec.ofChange sessionEndsWrong)

/-- 'hotspotlaw20.SessionWhole': WHATEVER THE INPUT: true; the input reads as it did. -/
def sessionWholeSpec : ChangeSpec := { name := "sessionWhole", fn := fun _ => fun
  | [d1, d2] => { results := [.lit (.bool true)], args := [d1, d2] }
  | _ => none }
def sessionWholeRow : OpenClaim := { program := "ytpjogfcpmcbafaa", sum := "d23d5a76580c7056c7475eef91047ff8ed9fe69e9977a1181d55b8b64ba0ee1e", func := "hotspot/hotspotlaw20.SessionWhole", spec := "sessionWhole", inPlace := ["slices.overlaps[hotspot/api.HeldSeq]"], unfollowed := true, recurses := true, apart := false }
def SessionWholeSaid : Prop := sessionWholeRow.holds Try.pinned (OpenSpec.ofChange sessionWholeSpec)

/-- ITS FALSE NEIGHBOUR: 'it returns false'. Refute it at one input. -/
def sessionWholeWrong : ChangeSpec := { name := "sessionWhole", fn := fun _ => fun
  | [d1, d2] => { results := [.lit (.bool false)], args := [d1, d2] }
  | _ => none }
def SessionWholeWrongFalsely : Prop := sessionWholeRow.holds Try.pinned (OpenSpec.ofChange sessionWholeWrong)

/-- 'hotspotlaw20.SessionShifts': WHATEVER THE INPUT: true; the input reads as it did. -/
def sessionShiftsSpec : ChangeSpec := { name := "sessionShifts", fn := fun _ => fun
  | [d1, d2, d3, d4] => { results := [.lit (.bool true)], args := [d1, d2, d3, d4] }
  | _ => none }
def sessionShiftsRow : OpenClaim := { program := "ytpjogfcpmcbafaa", sum := "d23d5a76580c7056c7475eef91047ff8ed9fe69e9977a1181d55b8b64ba0ee1e", func := "hotspot/hotspotlaw20.SessionShifts", spec := "sessionShifts", inPlace := ["slices.overlaps[hotspot/api.HeldSeq]"], unfollowed := true, recurses := true, apart := false }
def SessionShiftsSaid : Prop := sessionShiftsRow.holds Try.pinned (OpenSpec.ofChange sessionShiftsSpec)

/-- ITS FALSE NEIGHBOUR: 'it returns false'. Refute it at one input. -/
def sessionShiftsWrong : ChangeSpec := { name := "sessionShifts", fn := fun _ => fun
  | [d1, d2, d3, d4] => { results := [.lit (.bool false)], args := [d1, d2, d3, d4] }
  | _ => none }
def SessionShiftsWrongFalsely : Prop := sessionShiftsRow.holds Try.pinned (OpenSpec.ofChange sessionShiftsWrong)

/-- 'hotspotlaw20.SessionDraws': WHATEVER THE INPUT: true; the input reads as it did. -/
def sessionDrawsSpec : ChangeSpec := { name := "sessionDraws", fn := fun _ => fun
  | [d1, d2, d3] => { results := [.lit (.bool true)], args := [d1, d2, d3] }
  | _ => none }
def sessionDrawsRow : OpenClaim := { program := "ytpjogfcpmcbafaa", sum := "d23d5a76580c7056c7475eef91047ff8ed9fe69e9977a1181d55b8b64ba0ee1e", func := "hotspot/hotspotlaw20.SessionDraws", spec := "sessionDraws", inPlace := ["slices.overlaps[hotspot/api.HeldSeq]"], unfollowed := true, recurses := true, apart := false }
def SessionDrawsSaid : Prop := sessionDrawsRow.holds Try.pinned (OpenSpec.ofChange sessionDrawsSpec)

/-- ITS FALSE NEIGHBOUR: 'it returns false'. Refute it at one input. -/
def sessionDrawsWrong : ChangeSpec := { name := "sessionDraws", fn := fun _ => fun
  | [d1, d2, d3] => { results := [.lit (.bool false)], args := [d1, d2, d3] }
  | _ => none }
def SessionDrawsWrongFalsely : Prop := sessionDrawsRow.holds Try.pinned (OpenSpec.ofChange sessionDrawsWrong)

/- THE SECOND FORM. 'bulk': how many values and letters a reading holds, each counted each time it is reached (what is shared counts as often as it is met; a slice's spare places count too). A statement '..UptoSaid' is the law's where the arguments, and the package variables that the reading takes, are together of bulk at most 1048576: NARROWER than '..Said'. Prove '..Said' where nothing that the law and all that it calls make is longer than what came in: it says more and counts as full. Else prove '..UptoSaid'. A law counts once. -/
mutual
def uptoBulk {H : Type} : DataW H → Nat
  | .lit (.string bytes) => bytes.length + 1
  | .lit _ => 1
  | .nil => 1
  | .ptr d => uptoBulk d + 1
  | .slice elems spare => uptoBulkAll elems + uptoBulkAll spare + 1
  | .agg parts => uptoBulkAll parts + 1
  | .iface _ d => uptoBulk d + 1
  | .map entries => uptoBulkEntries entries + 1
  | .held _ => 1
def uptoBulkAll {H : Type} : List (DataW H) → Nat
  | [] => 0
  | d :: r => uptoBulk d + uptoBulkAll r
def uptoBulkEntries {H : Type} : List (Lit × DataW H) → Nat
  | [] => 0
  | x :: r => uptoBulkEntry x + uptoBulkEntries r
def uptoBulkEntry {H : Type} : Lit × DataW H → Nat
  | (.string bytes, d) => bytes.length + uptoBulk d + 1
  | (_, d) => uptoBulk d + 1
 end
def uptoSmall : (H : Type) → List (DataW H) → Bool := fun _ ds => decide (uptoBulkAll ds ≤ 1048576)
def OpenSpec.upto (s : _root_.Go.ChangeSpec) : _root_.Go.OpenSpec := { _root_.Go.OpenSpec.ofChange s with cond := some uptoSmall }

/-- 'hotspotlaw20.SessionNames', WHERE WHAT IT READS IS OF BULK AT MOST 1048576: true; the input reads as it did. -/
def sessionNamesUptoRow : OpenClaim := { program := "ytpjogfcpmcbafaa", sum := "d23d5a76580c7056c7475eef91047ff8ed9fe69e9977a1181d55b8b64ba0ee1e", func := "hotspot/hotspotlaw20.SessionNames", spec := "sessionNames", inPlace := ["slices.overlaps[hotspot/api.HeldSeq]"], unfollowed := true, recurses := true, apart := false, narrowed := true }
def SessionNamesUptoSaid : Prop := sessionNamesUptoRow.holds Try.pinned (OpenSpec.upto sessionNamesSpec)

/-- 'hotspotlaw20.SessionOnce', WHERE WHAT IT READS IS OF BULK AT MOST 1048576: true; the input reads as it did. -/
def sessionOnceUptoRow : OpenClaim := { program := "ytpjogfcpmcbafaa", sum := "d23d5a76580c7056c7475eef91047ff8ed9fe69e9977a1181d55b8b64ba0ee1e", func := "hotspot/hotspotlaw20.SessionOnce", spec := "sessionOnce", inPlace := ["slices.overlaps[hotspot/api.HeldSeq]"], unfollowed := true, recurses := true, apart := false, narrowed := true }
def SessionOnceUptoSaid : Prop := sessionOnceUptoRow.holds Try.pinned (OpenSpec.upto sessionOnceSpec)

/-- 'hotspotlaw20.SessionEnds', WHERE WHAT IT READS IS OF BULK AT MOST 1048576: true; the input reads as it did. -/
def sessionEndsUptoRow : OpenClaim := { program := "ytpjogfcpmcbafaa", sum := "d23d5a76580c7056c7475eef91047ff8ed9fe69e9977a1181d55b8b64ba0ee1e", func := "hotspot/hotspotlaw20.SessionEnds", spec := "sessionEnds", inPlace := ["slices.overlaps[hotspot/api.HeldSeq]"], unfollowed := true, recurses := true, apart := false, narrowed := true }
def SessionEndsUptoSaid : Prop := sessionEndsUptoRow.holds Try.pinned (OpenSpec.upto sessionEndsSpec)

/-- 'hotspotlaw20.SessionWhole', WHERE WHAT IT READS IS OF BULK AT MOST 1048576: true; the input reads as it did. -/
def sessionWholeUptoRow : OpenClaim := { program := "ytpjogfcpmcbafaa", sum := "d23d5a76580c7056c7475eef91047ff8ed9fe69e9977a1181d55b8b64ba0ee1e", func := "hotspot/hotspotlaw20.SessionWhole", spec := "sessionWhole", inPlace := ["slices.overlaps[hotspot/api.HeldSeq]"], unfollowed := true, recurses := true, apart := false, narrowed := true }
def SessionWholeUptoSaid : Prop := sessionWholeUptoRow.holds Try.pinned (OpenSpec.upto sessionWholeSpec)

/-- 'hotspotlaw20.SessionShifts', WHERE WHAT IT READS IS OF BULK AT MOST 1048576: true; the input reads as it did. -/
def sessionShiftsUptoRow : OpenClaim := { program := "ytpjogfcpmcbafaa", sum := "d23d5a76580c7056c7475eef91047ff8ed9fe69e9977a1181d55b8b64ba0ee1e", func := "hotspot/hotspotlaw20.SessionShifts", spec := "sessionShifts", inPlace := ["slices.overlaps[hotspot/api.HeldSeq]"], unfollowed := true, recurses := true, apart := false, narrowed := true }
def SessionShiftsUptoSaid : Prop := sessionShiftsUptoRow.holds Try.pinned (OpenSpec.upto sessionShiftsSpec)

/-- 'hotspotlaw20.SessionDraws', WHERE WHAT IT READS IS OF BULK AT MOST 1048576: true; the input reads as it did. -/
def sessionDrawsUptoRow : OpenClaim := { program := "ytpjogfcpmcbafaa", sum := "d23d5a76580c7056c7475eef91047ff8ed9fe69e9977a1181d55b8b64ba0ee1e", func := "hotspot/hotspotlaw20.SessionDraws", spec := "sessionDraws", inPlace := ["slices.overlaps[hotspot/api.HeldSeq]"], unfollowed := true, recurses := true, apart := false, narrowed := true }
def SessionDrawsUptoSaid : Prop := sessionDrawsUptoRow.holds Try.pinned (OpenSpec.upto sessionDrawsSpec)

end Rows
end Go.Proofs.Ytpjogfcpmcbafaa
