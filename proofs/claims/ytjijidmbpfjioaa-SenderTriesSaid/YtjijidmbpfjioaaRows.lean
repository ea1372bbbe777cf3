/-
  No cell of these rows narrows 'for every input' (looked for: loops, veiled, ifaces, maps, wideKeys, modest, calm, conditions, laid).
  DERIVED. THE GIVEN ROWS OF THIS SEAT. 5 by the template 'for every input the law returns true; each argument reads behind the call as it read before'; 0 by the template 'total and deterministic' (their statements: YtjijidmbpfjioaaTotals.lean).
  GIVEN WITH THE SEED: the statements are not yours to turn. If you find one false, say at which input.
  Laid BY PROGRAM, IN A SANDBOX (cutbox-rows.mjs): the forced cells as the released guide's own fill.sh prints them over the translation 76511a8d848e43cf… (all of the seat's roots in one cut). By AI agents, Wed Nov 11 2026. No macro, syntax, notation, axiom, sorry.
-/
import Derived.Test.YtjijidmbpfjioaaChecked
import GoSem.Claim
import GoSem.ClaimJoined
import GoSem.ClaimMapViews
import Derived.JoinedTies
import Derived.KernelRfl
namespace Go.Proofs.Ytjijidmbpfjioaa
/- THE CELL 'sum', in the pinned program and in every row, IS THE sha256 OF THE DUMP (.gsa) THAT YtjijidmbpfjioaaProg.lean LOADS. Nothing in Lean hashes anything: it is a label: what it is worth is what the hold of that sum in a sandbox is worth. -/
noncomputable def Try.pinned : Pinned := { name := "ytjijidmbpfjioaa", sum := "76511a8d848e43cfed2f218837d2f302291e1dbb7579145a35c45c93fcf355d4", checked := Try.checked }
namespace Rows
def none {H : Type} : Left H := { results := [], args := [] }

/-- 'hotspotlaw19.SenderNews': WHATEVER THE INPUT: true; the input reads as it did. -/
def senderNewsSpec : ChangeSpec := { name := "senderNews", fn := fun _ => fun
  | [d1, d2, d3, d4, d5] => { results := [.lit (.bool true)], args := [d1, d2, d3, d4, d5] }
  | _ => none }
def senderNewsRow : OpenClaim := { program := "ytjijidmbpfjioaa", sum := "76511a8d848e43cfed2f218837d2f302291e1dbb7579145a35c45c93fcf355d4", func := "hotspot/hotspotlaw19.SenderNews", spec := "senderNews", apart := false }
def SenderNewsSaid : Prop := senderNewsRow.holds Try.pinned (OpenSpec.ofChange senderNewsSpec)

/-- ITS FALSE NEIGHBOUR: 'it returns false'. Refute it at one input. -/
def senderNewsWrong : ChangeSpec := { name := "senderNews", fn := fun _ => fun
  | [d1, d2, d3, d4, d5] => { results := [.lit (.bool false)], args := [d1, d2, d3, d4, d5] }
  | _ => none }
def SenderNewsWrongFalsely : Prop := senderNewsRow.holds Try.pinned (OpenSpec.ofChange senderNewsWrong)

/-- 'hotspotlaw19.SenderWhole': WHATEVER THE INPUT: true; the input reads as it did. -/
def senderWholeSpec : ChangeSpec := { name := "senderWhole", fn := fun _ => fun
  | [d1, d2, d3, d4] => { results := [.lit (.bool true)], args := [d1, d2, d3, d4] }
  | _ => none }
def senderWholeRow : OpenClaim := { program := "ytjijidmbpfjioaa", sum := "76511a8d848e43cfed2f218837d2f302291e1dbb7579145a35c45c93fcf355d4", func := "hotspot/hotspotlaw19.SenderWhole", spec := "senderWhole", unfollowed := true, recurses := true, apart := false }
def SenderWholeSaid : Prop := senderWholeRow.holds Try.pinned (OpenSpec.ofChange senderWholeSpec)

/-- ITS FALSE NEIGHBOUR: 'it returns false'. Refute it at one input. -/
def senderWholeWrong : ChangeSpec := { name := "senderWhole", fn := fun _ => fun
  | [d1, d2, d3, d4] => { results := [.lit (.bool false)], args := [d1, d2, d3, d4] }
  | _ => none }
def SenderWholeWrongFalsely : Prop := senderWholeRow.holds Try.pinned (OpenSpec.ofChange senderWholeWrong)

/-- 'hotspotlaw19.SenderTries': WHATEVER THE INPUT: true; the input reads as it did. -/
def senderTriesSpec : ChangeSpec := { name := "senderTries", fn := fun _ => fun
  | [d1, d2, d3, d4, d5] => { results := [.lit (.bool true)], args := [d1, d2, d3, d4, d5] }
  | _ => none }
def senderTriesRow : OpenClaim := { program := "ytjijidmbpfjioaa", sum := "76511a8d848e43cfed2f218837d2f302291e1dbb7579145a35c45c93fcf355d4", func := "hotspot/hotspotlaw19.SenderTries", spec := "senderTries", unfollowed := true, recurses := true, apart := false }
def SenderTriesSaid : Prop := senderTriesRow.holds Try.pinned (OpenSpec.ofChange senderTriesSpec)

/-- ITS FALSE NEIGHBOUR: 'it returns false'. Refute it at one input. -/
def senderTriesWrong : ChangeSpec := { name := "senderTries", fn := fun _ => fun
  | [d1, d2, d3, d4, d5] => { results := [.lit (.bool false)], args := [d1, d2, d3, d4, d5] }
  | _ => none }
def SenderTriesWrongFalsely : Prop := senderTriesRow.holds Try.pinned (OpenSpec.ofChange senderTriesWrong)

/-- 'hotspotlaw19.SenderAgrees': WHATEVER THE INPUT: true; the input reads as it did. -/
def senderAgreesSpec : ChangeSpec := { name := "senderAgrees", fn := fun _ => fun
  | [d1, d2, d3, d4, d5] => { results := [.lit (.bool true)], args := [d1, d2, d3, d4, d5] }
  | _ => none }
def senderAgreesRow : OpenClaim := { program := "ytjijidmbpfjioaa", sum := "76511a8d848e43cfed2f218837d2f302291e1dbb7579145a35c45c93fcf355d4", func := "hotspot/hotspotlaw19.SenderAgrees", spec := "senderAgrees", unfollowed := true, recurses := true, apart := false }
def SenderAgreesSaid : Prop := senderAgreesRow.holds Try.pinned (OpenSpec.ofChange senderAgreesSpec)

/-- ITS FALSE NEIGHBOUR: 'it returns false'. Refute it at one input. -/
def senderAgreesWrong : ChangeSpec := { name := "senderAgrees", fn := fun _ => fun
  | [d1, d2, d3, d4, d5] => { results := [.lit (.bool false)], args := [d1, d2, d3, d4, d5] }
  | _ => none }
def SenderAgreesWrongFalsely : Prop := senderAgreesRow.holds Try.pinned (OpenSpec.ofChange senderAgreesWrong)

/-- 'hotspotlaw19.SenderOnce': WHATEVER THE INPUT: true; the input reads as it did. -/
def senderOnceSpec : ChangeSpec := { name := "senderOnce", fn := fun _ => fun
  | [d1, d2, d3, d4, d5] => { results := [.lit (.bool true)], args := [d1, d2, d3, d4, d5] }
  | _ => none }
def senderOnceRow : OpenClaim := { program := "ytjijidmbpfjioaa", sum := "76511a8d848e43cfed2f218837d2f302291e1dbb7579145a35c45c93fcf355d4", func := "hotspot/hotspotlaw19.SenderOnce", spec := "senderOnce", unfollowed := true, recurses := true, apart := false }
def SenderOnceSaid : Prop := senderOnceRow.holds Try.pinned (OpenSpec.ofChange senderOnceSpec)

/-- ITS FALSE NEIGHBOUR: 'it returns false'. Refute it at one input. -/
def senderOnceWrong : ChangeSpec := { name := "senderOnce", fn := fun _ => fun
  | [d1, d2, d3, d4, d5] => { results := [.lit (.bool false)], args := [d1, d2, d3, d4, d5] }
  | _ => none }
def SenderOnceWrongFalsely : Prop := senderOnceRow.holds Try.pinned (OpenSpec.ofChange senderOnceWrong)

/- THE SECOND FORM. 'bulk': how many values and letters a reading holds, each counted each time it is reached (what is shared counts as often as it is met; a slice's spare places count too). A statement '..UptoSaid' is the law's where the arguments, and the package variables that the reading takes, are together of bulk at most 1048576: NARROWER than '..Said'. Prove '..Said' where nothing that the law and all that it calls make is longer than what came in: it says more and counts as full. Else prove '..UptoSaid'. A law counts once. -/
mutual
def uptoBulk {H : Type} : DataW H → Nat
  | .lit (.string bytes) => bytes.length + 1
  | .lit _ => 1
  | .nil => 1
  | .ptr d => uptoBulk d + 1
  | .slice elems spare => uptoBulkAll elems + uptoBulkAll spare + 1
  | .agg parts => uptoBulkAll parts + 1
  | .iface _ d => uptoBulk d + 1
  | .map entries => uptoBulkEntries entries + 1
  | .held _ => 1
def uptoBulkAll {H : Type} : List (DataW H) → Nat
  | [] => 0
  | d :: r => uptoBulk d + uptoBulkAll r
def uptoBulkEntries {H : Type} : List (Lit × DataW H) → Nat
  | [] => 0
  | x :: r => uptoBulkEntry x + uptoBulkEntries r
def uptoBulkEntry {H : Type} : Lit × DataW H → Nat
  | (.string bytes, d) => bytes.length + uptoBulk d + 1
  | (_, d) => uptoBulk d + 1
 end
def uptoSmall : (H : Type) → List (DataW H) → Bool := fun _ ds => decide (uptoBulkAll ds ≤ 1048576)
def OpenSpec.upto (s : _root_.Go.ChangeSpec) : _root_.Go.OpenSpec := { _root_.Go.OpenSpec.ofChange s with cond := some uptoSmall }

/-- 'hotspotlaw19.SenderNews', WHERE WHAT IT READS IS OF BULK AT MOST 1048576: true; the input reads as it did. -/
def senderNewsUptoRow : OpenClaim := { program := "ytjijidmbpfjioaa", sum := "76511a8d848e43cfed2f218837d2f302291e1dbb7579145a35c45c93fcf355d4", func := "hotspot/hotspotlaw19.SenderNews", spec := "senderNews", apart := false, narrowed := true }
def SenderNewsUptoSaid : Prop := senderNewsUptoRow.holds Try.pinned (OpenSpec.upto senderNewsSpec)

/-- 'hotspotlaw19.SenderWhole', WHERE WHAT IT READS IS OF BULK AT MOST 1048576: true; the input reads as it did. -/
def senderWholeUptoRow : OpenClaim := { program := "ytjijidmbpfjioaa", sum := "76511a8d848e43cfed2f218837d2f302291e1dbb7579145a35c45c93fcf355d4", func := "hotspot/hotspotlaw19.SenderWhole", spec := "senderWhole", unfollowed := true, recurses := true, apart := false, narrowed := true }
def SenderWholeUptoSaid : Prop := senderWholeUptoRow.holds Try.pinned (OpenSpec.upto senderWholeSpec)

/-- 'hotspotlaw19.SenderTries', WHERE WHAT IT READS IS OF BULK AT MOST 1048576: true; the input reads as it did. -/
def senderTriesUptoRow : OpenClaim := { program := "ytjijidmbpfjioaa", sum := "76511a8d848e43cfed2f218837d2f302291e1dbb7579145a35c45c93fcf355d4", func := "hotspot/hotspotlaw19.SenderTries", spec := "senderTries", unfollowed := true, recurses := true, apart := false, narrowed := true }
def SenderTriesUptoSaid : Prop := senderTriesUptoRow.holds Try.pinned (OpenSpec.upto senderTriesSpec)

/-- 'hotspotlaw19.SenderAgrees', WHERE WHAT IT READS IS OF BULK AT MOST 1048576: true; the input reads as it did. -/
def senderAgreesUptoRow : OpenClaim := { program := "ytjijidmbpfjioaa", sum := "76511a8d848e43cfed2f218837d2f302291e1dbb7579145a35c45c93fcf355d4", func := "hotspot/hotspotlaw19.SenderAgrees", spec := "senderAgrees", unfollowed := true, recurses := true, apart := false, narrowed := true }
def SenderAgreesUptoSaid : Prop := senderAgreesUptoRow.holds Try.pinned (OpenSpec.upto senderAgreesSpec)

/-- 'hotspotlaw19.SenderOnce', WHERE WHAT IT READS IS OF BULK AT MOST 1048576: true; the input reads as it did. -/
def senderOnceUptoRow : OpenClaim := { program := "ytjijidmbpfjioaa", sum := "76511a8d848e43cfed2f218837d2f302291e1dbb7579145a35c45c93fcf355d4", func := "hotspot/hotspotlaw19.SenderOnce", spec := "senderOnce", unfollowed := true, recurses := true, apart := false, narrowed := true }
def SenderOnceUptoSaid : Prop := senderOnceUptoRow.holds Try.pinned (OpenSpec.upto senderOnceSpec)

end Rows
end Go.Proofs.Ytjijidmbpfjioaa
