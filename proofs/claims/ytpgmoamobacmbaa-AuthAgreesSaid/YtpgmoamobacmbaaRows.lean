/-
  No cell of these rows narrows 'for every input' (looked for: loops, veiled, ifaces, maps, wideKeys, modest, calm, conditions, laid).
  DERIVED. THE GIVEN ROWS OF THIS SEAT. 5 by the template 'for every input the law returns true; each argument reads behind the call as it read before'; 0 by the template 'total and deterministic' (their statements: YtpgmoamobacmbaaTotals.lean).
  GIVEN WITH THE SEED: the statements are not yours to turn. If you find one false, say at which input.
  Laid BY PROGRAM, IN A SANDBOX (cutbox-rows.mjs): the forced cells as the released guide's own fill.sh prints them over the translation 5c929ac499d3ca47… (all of the seat's roots in one cut). By AI agents, Wed Nov 11 2026. No macro, syntax, notation, axiom, sorry.
-/
import Derived.Test.YtpgmoamobacmbaaChecked
import GoSem.Claim
import GoSem.ClaimJoined
import GoSem.ClaimMapViews
import Derived.JoinedTies
import Derived.KernelRfl
namespace Go.Proofs.Ytpgmoamobacmbaa
/- THE CELL 'sum', in the pinned program and in every row, IS THE sha256 OF THE DUMP (.gsa) THAT YtpgmoamobacmbaaProg.lean LOADS. Nothing in Lean hashes anything: it is a label: what it is worth is what the hold of that sum in a sandbox is worth. -/
noncomputable def Try.pinned : Pinned := { name := "ytpgmoamobacmbaa", sum := "5c929ac499d3ca4703019d50e2b3ee50a91323c50314d998142fea3effdaf818", checked := Try.checked }
namespace Rows
def none {H : Type} : Left H := { results := [], args := [] }

/-- 'hotspotlaw29.AuthDoors': WHATEVER THE INPUT: true; the input reads as it did. -/
def authDoorsSpec : ChangeSpec := { name := "authDoors", fn := fun _ => fun
  | [d1, d2, d3] => { results := [.lit (.bool true)], args := [d1, d2, d3] }
  | _ => none }
def authDoorsRow : OpenClaim := { program := "ytpgmoamobacmbaa", sum := "5c929ac499d3ca4703019d50e2b3ee50a91323c50314d998142fea3effdaf818", func := "hotspot/hotspotlaw29.AuthDoors", spec := "authDoors", apart := false }
def AuthDoorsSaid : Prop := authDoorsRow.holds Try.pinned (OpenSpec.ofChange authDoorsSpec)

/-- ITS FALSE NEIGHBOUR: 'it returns false'. Refute it at one input. -/
def authDoorsWrong : ChangeSpec := { name := "authDoors", fn := fun _ => fun
  | [d1, d2, d3] => { results := [.lit (.bool false)], args := [d1, d2, d3] }
  | _ => none }
def AuthDoorsWrongFalsely : Prop := authDoorsRow.holds Try.pinned (OpenSpec.ofChange authDoorsWrong)

/-- 'hotspotlaw29.AuthAgrees': WHATEVER THE INPUT: true; the input reads as it did. -/
def authAgreesSpec : ChangeSpec := { name := "authAgrees", fn := fun _ => fun
  | [d1, d2] => { results := [.lit (.bool true)], args := [d1, d2] }
  | _ => none }
def authAgreesRow : OpenClaim := { program := "ytpgmoamobacmbaa", sum := "5c929ac499d3ca4703019d50e2b3ee50a91323c50314d998142fea3effdaf818", func := "hotspot/hotspotlaw29.AuthAgrees", spec := "authAgrees", inPlace := ["internal/bytealg.Compare"], unfollowed := true, recurses := true, named := ["math/bits.divideError", "math/bits.overflowError"], apart := false }
def AuthAgreesSaid : Prop := authAgreesRow.holds Try.pinned (OpenSpec.ofChange authAgreesSpec)

/-- ITS FALSE NEIGHBOUR: 'it returns false'. Refute it at one input. -/
def authAgreesWrong : ChangeSpec := { name := "authAgrees", fn := fun _ => fun
  | [d1, d2] => { results := [.lit (.bool false)], args := [d1, d2] }
  | _ => none }
def AuthAgreesWrongFalsely : Prop := authAgreesRow.holds Try.pinned (OpenSpec.ofChange authAgreesWrong)

/-- 'hotspotlaw29.AuthStrangers': WHATEVER THE INPUT: true; the input reads as it did. -/
def authStrangersSpec : ChangeSpec := { name := "authStrangers", fn := fun _ => fun
  | [d1, d2] => { results := [.lit (.bool true)], args := [d1, d2] }
  | _ => none }
def authStrangersRow : OpenClaim := { program := "ytpgmoamobacmbaa", sum := "5c929ac499d3ca4703019d50e2b3ee50a91323c50314d998142fea3effdaf818", func := "hotspot/hotspotlaw29.AuthStrangers", spec := "authStrangers", inPlace := ["internal/bytealg.Compare"], unfollowed := true, recurses := true, named := ["math/bits.divideError", "math/bits.overflowError"], apart := false }
def AuthStrangersSaid : Prop := authStrangersRow.holds Try.pinned (OpenSpec.ofChange authStrangersSpec)

/-- ITS FALSE NEIGHBOUR: 'it returns false'. Refute it at one input. -/
def authStrangersWrong : ChangeSpec := { name := "authStrangers", fn := fun _ => fun
  | [d1, d2] => { results := [.lit (.bool false)], args := [d1, d2] }
  | _ => none }
def AuthStrangersWrongFalsely : Prop := authStrangersRow.holds Try.pinned (OpenSpec.ofChange authStrangersWrong)

/-- 'hotspotlaw29.AuthNames': WHATEVER THE INPUT: true; the input reads as it did. -/
def authNamesSpec : ChangeSpec := { name := "authNames", fn := fun _ => fun
  | [] => { results := [.lit (.bool true)], args := [] }
  | _ => none }
def authNamesRow : OpenClaim := { program := "ytpgmoamobacmbaa", sum := "5c929ac499d3ca4703019d50e2b3ee50a91323c50314d998142fea3effdaf818", func := "hotspot/hotspotlaw29.AuthNames", spec := "authNames", inPlace := ["internal/bytealg.Compare"], unfollowed := true, recurses := true, named := ["math/bits.divideError", "math/bits.overflowError"], apart := false }
def AuthNamesSaid : Prop := authNamesRow.holds Try.pinned (OpenSpec.ofChange authNamesSpec)

/-- ITS FALSE NEIGHBOUR: 'it returns false'. Refute it at one input. -/
def authNamesWrong : ChangeSpec := { name := "authNames", fn := fun _ => fun
  | [] => { results := [.lit (.bool false)], args := [] }
  | _ => none }
def AuthNamesWrongFalsely : Prop := authNamesRow.holds Try.pinned (OpenSpec.ofChange authNamesWrong)

/-- 'hotspotlaw29.AuthCrowd': WHATEVER THE INPUT: true; the input reads as it did. -/
def authCrowdSpec : ChangeSpec := { name := "authCrowd", fn := fun _ => fun
  | [d1, d2, d3] => { results := [.lit (.bool true)], args := [d1, d2, d3] }
  | _ => none }
def authCrowdRow : OpenClaim := { program := "ytpgmoamobacmbaa", sum := "5c929ac499d3ca4703019d50e2b3ee50a91323c50314d998142fea3effdaf818", func := "hotspot/hotspotlaw29.AuthCrowd", spec := "authCrowd", inPlace := ["internal/bytealg.Compare"], unfollowed := true, recurses := true, named := ["math/bits.divideError", "math/bits.overflowError"], apart := false }
def AuthCrowdSaid : Prop := authCrowdRow.holds Try.pinned (OpenSpec.ofChange authCrowdSpec)

/-- ITS FALSE NEIGHBOUR: 'it returns false'. Refute it at one input. -/
def authCrowdWrong : ChangeSpec := { name := "authCrowd", fn := fun _ => fun
  | [d1, d2, d3] => { results := [.lit (.bool false)], args := [d1, d2, d3] }
  | _ => none }
def AuthCrowdWrongFalsely : Prop := authCrowdRow.holds Try.pinned (OpenSpec.ofChange authCrowdWrong)

/- THE SECOND FORM. 'bulk': how many values and letters a reading holds, each counted each time it is reached (what is shared counts as often as it is met; a slice's spare places count too). A statement '..UptoSaid' is the law's where the arguments, and the package variables that the reading takes, are together of bulk at most 1048576: NARROWER than '..Said'. Prove '..Said' where nothing that the law and all that it calls make is longer than what came in: it says more and counts as full. Else prove '..UptoSaid'. A law counts once. -/
mutual
def uptoBulk {H : Type} : DataW H → Nat
  | .lit (.string bytes) => bytes.length + 1
  | .lit _ => 1
  | .nil => 1
  | .ptr d => uptoBulk d + 1
  | .slice elems spare => uptoBulkAll elems + uptoBulkAll spare + 1
  | .agg parts => uptoBulkAll parts + 1
  | .iface _ d => uptoBulk d + 1
  | .map entries => uptoBulkEntries entries + 1
  | .held _ => 1
def uptoBulkAll {H : Type} : List (DataW H) → Nat
  | [] => 0
  | d :: r => uptoBulk d + uptoBulkAll r
def uptoBulkEntries {H : Type} : List (Lit × DataW H) → Nat
  | [] => 0
  | x :: r => uptoBulkEntry x + uptoBulkEntries r
def uptoBulkEntry {H : Type} : Lit × DataW H → Nat
  | (.string bytes, d) => bytes.length + uptoBulk d + 1
  | (_, d) => uptoBulk d + 1
 end
def uptoSmall : (H : Type) → List (DataW H) → Bool := fun _ ds => decide (uptoBulkAll ds ≤ 1048576)
def OpenSpec.upto (s : _root_.Go.ChangeSpec) : _root_.Go.OpenSpec := { _root_.Go.OpenSpec.ofChange s with cond := some uptoSmall }

/-- 'hotspotlaw29.AuthDoors', WHERE WHAT IT READS IS OF BULK AT MOST 1048576: true; the input reads as it did. -/
def authDoorsUptoRow : OpenClaim := { program := "ytpgmoamobacmbaa", sum := "5c929ac499d3ca4703019d50e2b3ee50a91323c50314d998142fea3effdaf818", func := "hotspot/hotspotlaw29.AuthDoors", spec := "authDoors", apart := false, narrowed := true }
def AuthDoorsUptoSaid : Prop := authDoorsUptoRow.holds Try.pinned (OpenSpec.upto authDoorsSpec)

/-- 'hotspotlaw29.AuthAgrees', WHERE WHAT IT READS IS OF BULK AT MOST 1048576: true; the input reads as it did. -/
def authAgreesUptoRow : OpenClaim := { program := "ytpgmoamobacmbaa", sum := "5c929ac499d3ca4703019d50e2b3ee50a91323c50314d998142fea3effdaf818", func := "hotspot/hotspotlaw29.AuthAgrees", spec := "authAgrees", inPlace := ["internal/bytealg.Compare"], unfollowed := true, recurses := true, named := ["math/bits.divideError", "math/bits.overflowError"], apart := false, narrowed := true }
def AuthAgreesUptoSaid : Prop := authAgreesUptoRow.holds Try.pinned (OpenSpec.upto authAgreesSpec)

/-- 'hotspotlaw29.AuthStrangers', WHERE WHAT IT READS IS OF BULK AT MOST 1048576: true; the input reads as it did. -/
def authStrangersUptoRow : OpenClaim := { program := "ytpgmoamobacmbaa", sum := "5c929ac499d3ca4703019d50e2b3ee50a91323c50314d998142fea3effdaf818", func := "hotspot/hotspotlaw29.AuthStrangers", spec := "authStrangers", inPlace := ["internal/bytealg.Compare"], unfollowed := true, recurses := true, named := ["math/bits.divideError", "math/bits.overflowError"], apart := false, narrowed := true }
def AuthStrangersUptoSaid : Prop := authStrangersUptoRow.holds Try.pinned (OpenSpec.upto authStrangersSpec)

/-- 'hotspotlaw29.AuthNames', WHERE WHAT IT READS IS OF BULK AT MOST 1048576: true; the input reads as it did. -/
def authNamesUptoRow : OpenClaim := { program := "ytpgmoamobacmbaa", sum := "5c929ac499d3ca4703019d50e2b3ee50a91323c50314d998142fea3effdaf818", func := "hotspot/hotspotlaw29.AuthNames", spec := "authNames", inPlace := ["internal/bytealg.Compare"], unfollowed := true, recurses := true, named := ["math/bits.divideError", "math/bits.overflowError"], apart := false, narrowed := true }
def AuthNamesUptoSaid : Prop := authNamesUptoRow.holds Try.pinned (OpenSpec.upto authNamesSpec)

/-- 'hotspotlaw29.AuthCrowd', WHERE WHAT IT READS IS OF BULK AT MOST 1048576: true; the input reads as it did. -/
def authCrowdUptoRow : OpenClaim := { program := "ytpgmoamobacmbaa", sum := "5c929ac499d3ca4703019d50e2b3ee50a91323c50314d998142fea3effdaf818", func := "hotspot/hotspotlaw29.AuthCrowd", spec := "authCrowd", inPlace := ["internal/bytealg.Compare"], unfollowed := true, recurses := true, named := ["math/bits.divideError", "math/bits.overflowError"], apart := false, narrowed := true }
def AuthCrowdUptoSaid : Prop := authCrowdUptoRow.holds Try.pinned (OpenSpec.upto authCrowdSpec)

end Rows
end Go.Proofs.Ytpgmoamobacmbaa
