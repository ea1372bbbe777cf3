/- MetricMatches: for every four ints the law returns true (no condition). -/
import Derived.Test.YtlnpmlkhbnjgnaaMeB
import Derived.Test.YtlnpmlkhbnjgnaaMeU
import Derived.WalkKit
import Derived.ProofKit
import Derived.OpenShut
import Derived.JoinedCond
namespace Go.Proofs.Ytlnpmlkhbnjgnaa.metricMatches
open Go.ChangeShapes Go.WideShapes Go.ChangeAt Go.RowKit Go.AX Go.AX.ME

theorem own : ownKnob Try.prog.godebug = none := by kernel_rfl
theorem laid : laidOutB K.P = true := by kernel_rfl
theorem par : parB K.P Try.f3.params.toList = true := by kernel_rfl

theorem law (B : Nat) (xs : List AV) (h : TyArgs K.P B Try.f3.params.toList xs) : SndP K 3 xs (.v (.bool true)) := by
  have h' : TyArgs K.P B [3, 3, 3, 3] xs := h
  obtain ⟨x, _, rfl, hx, y, _, rfl, hy, z, _, rfl, hz, u, _, rfl, hu, rfl⟩ := h'
  obtain ⟨a, rfl, _⟩ := tyV_int un3 hx
  obtain ⟨b, rfl, _⟩ := tyV_int un3 hy
  obtain ⟨c, rfl, _⟩ := tyV_int un3 hz
  obtain ⟨d, rfl, _⟩ := tyV_int un3 hu
  exact matches' a b c d

set_option maxRecDepth 100000 in
theorem lifted (os : Os) (started : os.Started) (H : Type) (enc : TypeId × Value → H) :
    ReturnsInHanded {} Try.checked os 3 .any (Rows.metricMatchesSpec.pre6 enc Try.prog Try.f3 Rows.metricMatchesRow.domain false) (Rows.metricMatchesSpec.post enc Try.prog Try.f3 false true false false) := by
  refine returnsInHanded_of_change (C := Try.checked) own started (by kernel_rfl) Try.func3
    (ChangeSpec.witness6 (enc := enc) (C := Try.checked) false ⟨#[], #[.int .i64 0, .int .i64 0, .int .i64 0, .int .i64 0], []⟩ 8 (by kernel_rfl) (by kernel_rfl) (by kernel_rfl) (by kernel_rfl)) ?_
  intro W base args ds gs before hval hW hcnd _
  exact law_contract (C := K) (f := 3) (fn := Try.f3) (tb := 4) (B := Rows.uptoBulkAll ds) (bk := Rows.uptoBulk) rfl laid par rfl Try.underlying4 (law _) rfl
    (fun ds hds => by match ds, hds with | [d1, d2, d3, d4], _ => rfl) bulks.bulk hval hW (fun d hd => bulks.part_le hd)

theorem over : Rows.MetricMatchesSaid :=
  OpenClaim.holds_of_wide 3 Try.f3 rfl rfl rfl rfl rfl rfl rfl ⟨rfl, rfl, rfl, rfl, rfl⟩ rfl rfl rfl rfl rfl (by kernel_rfl) Try.func3 (by kernel_rfl)
    (of_decide_eq_true (by kernel_rfl)) (by unfold Func.isWrapper; first | (rw [if_pos (by decide +kernel)]; kernel_rfl) | (rw [if_neg (by decide +kernel)]; exact ⟨rfl, rfl⟩))
    (fun os started H enc _ => lifted os started H enc)

end Go.Proofs.Ytlnpmlkhbnjgnaa.metricMatches
