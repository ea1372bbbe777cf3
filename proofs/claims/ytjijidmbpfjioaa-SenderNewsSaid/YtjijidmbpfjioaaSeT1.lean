/- SenderNews: the law returns true whatever its arguments. -/
import Derived.Test.YtjijidmbpfjioaaSeR
import Derived.Test.YtjijidmbpfjioaaSeU
import Derived.WalkKit
import Derived.ProofKit
import Derived.OpenShut
import Derived.JoinedCond
namespace Go.Proofs.Ytjijidmbpfjioaa.senderNews
open Go.ChangeShapes Go.WideShapes Go.ChangeAt Go.RowKit Go.AX Go.AX.SE

theorem own : ownKnob Try.prog.godebug = none := by kernel_rfl
theorem laid : laidOutB K.P = true := by kernel_rfl
theorem par : parB K.P Try.f3.params.toList = true := by kernel_rfl

theorem law (B : Nat) (xs : List AV) (h : TyArgs K.P B Try.f3.params.toList xs) : SndP K 3 xs (.v (.bool true)) := by
  have h' : TyArgs K.P B [3, 3, 3, 3, 24] xs := h
  obtain ⟨_, _, rfl, ha, _, _, rfl, hb, _, _, rfl, hc, _, _, rfl, hd, _, _, rfl, he, rfl⟩ := h'
  obtain ⟨a, rfl, wa⟩ := tyV_int ud3 ha
  obtain ⟨b, rfl, wb⟩ := tyV_int ud3 hb
  obtain ⟨c, rfl, wc⟩ := tyV_int ud3 hc
  obtain ⟨d, rfl, wd⟩ := tyV_int ud3 hd
  obtain ⟨m, l, rfl, h1⟩ := tyV_ty Try.underlying24 he
  obtain ⟨s, o, m', rfl, hw, h3⟩ := rd_sd h1
  obtain ⟨l, rfl, h4, _⟩ := rd_us h3
  exact l_news a b c d s l (wf_u8 hw.2.1).1

set_option maxRecDepth 100000 in
theorem lifted (os : Os) (started : os.Started) (H : Type) (enc : TypeId × Value → H) :
    ReturnsInHanded {} Try.checked os 3 .any (Rows.senderNewsSpec.pre6 enc Try.prog Try.f3 Rows.senderNewsRow.domain false) (Rows.senderNewsSpec.post enc Try.prog Try.f3 false true false false) := by
  refine returnsInHanded_of_change (C := Try.checked) own started (by kernel_rfl) Try.func3
    (ChangeSpec.witness6 (enc := enc) (C := Try.checked) false ⟨#[], #[.int .i64 0, .int .i64 0, .int .i64 0, .int .i64 0, .agg #[.int .i64 0, .int .u8 0, .int .i64 0, .int .i64 0, .int .i64 0, .int .i64 0, .int .i64 0, .slice none 0 0, .bool false]], []⟩ 8 (by kernel_rfl) (by kernel_rfl) (by kernel_rfl) (by kernel_rfl)) ?_
  intro W base args ds gs before hval hW hcnd _
  exact law_contract (C := K) (f := 3) ⟨Try.f3, Try.func3, rfl, by decide +kernel⟩ (fn := Try.f3) (tb := 4) (B := Rows.uptoBulkAll ds) (bk := Rows.uptoBulk) rfl laid par rfl Try.underlying4 (law _) rfl
    (fun ds hds => by match ds, hds with | [d1, d2, d3, d4, d5], _ => rfl) bulks.bulk hval hW (fun d hd => bulks.part_le hd)

theorem over : Rows.SenderNewsSaid :=
  OpenClaim.holds_of_wide 3 Try.f3 rfl rfl rfl rfl rfl rfl rfl ⟨rfl, rfl, rfl, rfl, rfl⟩ rfl rfl rfl rfl rfl (by kernel_rfl) Try.func3 (by kernel_rfl)
    (of_decide_eq_true (by kernel_rfl)) (by unfold Func.isWrapper; first | (rw [if_pos (by decide +kernel)]; kernel_rfl) | (rw [if_neg (by decide +kernel)]; exact ⟨rfl, rfl⟩))
    (fun os started H enc _ => lifted os started H enc)

end Go.Proofs.Ytjijidmbpfjioaa.senderNews
