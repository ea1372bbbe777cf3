/- BitmapNames: the law returns true whatever its arguments. -/
import Derived.Test.YtkheccnpikfalaaWalkc
import Derived.Test.YtkheccnpikfalaaRows
import Derived.WalkKit
import Derived.ProofKit
import Derived.OpenShut
import Derived.JoinedCond
set_option linter.unusedVariables false
set_option linter.unusedSimpArgs false

/-! (TDL) -/

namespace Go.AX.Z.TD
open Go.AX
theorem names : hotspotlaw33_BitmapNames = some true := by decide +kernel
end Go.AX.Z.TD

/-! (TDY) -/

set_option linter.unusedVariables false
namespace Go.AX.Z.TD
open Go.AX Go.Proofs

/-! ## Arguments, read -/

theorem ud5 : K.P.underlying 5 = some (.int .u8) := by kernel_rfl

theorem ud25 : K.P.underlying 25 = some (.slice 5) := by kernel_rfl

theorem rsl25 {B n : Nat} {x : AV} (h : Ty K.P B n 25 [x]) : ∃ l : (List Int), x = S_vu l ∧ l.length ≤ B ∧ ∀ z ∈ l, (Lit.int .u8 z).wf = true := by
  obtain ⟨vs, rfl, h1, h2⟩ := ty_slice_ints ud25 ud5 h
  exact ⟨vs, rfl, h1, h2⟩

theorem ud4 : K.P.underlying 4 = some (.bool) := by kernel_rfl

theorem ud3 : K.P.underlying 3 = some (.int .i64) := by kernel_rfl

theorem ud22 : K.P.underlying 22 = some (.slice 3) := by kernel_rfl

theorem rsl22 {B n : Nat} {x : AV} (h : Ty K.P B n 22 [x]) : ∃ l : (List Int), x = S_vi l ∧ l.length ≤ B ∧ ∀ z ∈ l, (Lit.int .i64 z).wf = true := by
  obtain ⟨vs, rfl, h1, h2⟩ := ty_slice_ints ud22 ud3 h
  exact ⟨vs, rfl, h1, h2⟩

def W_Traffic (B : Nat) (x : Traffic) : Prop := (x.Aids.length ≤ B ∧ ∀ z ∈ x.Aids, (Lit.int .i64 z).wf = true)

theorem rd24 {B n : Nat} {l : List AV} (h : Ty K.P B n 24 l) : ∃ x : Traffic, l = E_Traffic x ∧ W_Traffic B x := by
  obtain ⟨m, h⟩ := ty_struct Try.underlying24 h
  have h' : TyAll (Ty K.P B m) [4, 22] l := h
  obtain ⟨_, _, rfl, h0, _, _, rfl, h1, rfl⟩ := h'
  obtain ⟨v0, rfl⟩ := ty_bool ud4 h0
  obtain ⟨s1, rfl⟩ : ∃ x, _ = [x] := ty_single h1 (by rw [ud22]; intro _ hh; cases hh) (by rw [ud22]; intro _ _ hh; cases hh)
  obtain ⟨v1, rfl, w1⟩ := rsl22 h1
  exact ⟨⟨v0, v1⟩, rfl, w1⟩

end Go.AX.Z.TD

/-! (TDU) -/

/- How bulks bound what a reading holds. -/
namespace Go.Proofs.Ytkheccnpikfalaa.bulks
open Go.AX

theorem one_le {H : Type} (d : DataW H) : 1 ≤ Rows.uptoBulk d := by
  cases d with
  | lit l => cases l <;> simp [Rows.uptoBulk]
  | nil => simp [Rows.uptoBulk]
  | ptr d => simp [Rows.uptoBulk]
  | slice elems spare => simp [Rows.uptoBulk]
  | agg parts => simp [Rows.uptoBulk]
  | iface t d => simp [Rows.uptoBulk]
  | map entries => simp [Rows.uptoBulk]
  | held h => simp [Rows.uptoBulk]

theorem part_le {H : Type} {d : DataW H} {l : List (DataW H)} (h : d ∈ l) : Rows.uptoBulk d ≤ Rows.uptoBulkAll l := by
  induction l with
  | nil => cases h
  | cons x r ih =>
    simp only [Rows.uptoBulkAll]
    cases List.mem_cons.1 h with
    | inl e => subst e; omega
    | inr e => have := ih e; omega

theorem length_le {H : Type} (l : List (DataW H)) : l.length ≤ Rows.uptoBulkAll l := by
  induction l with
  | nil => simp [Rows.uptoBulkAll]
  | cons x r ih => have := one_le x; simp only [Rows.uptoBulkAll, List.length_cons]; omega

theorem bulk {H : Type} : Bulk (H := H) Rows.uptoBulk where
  ptr d := by simp [Rows.uptoBulk]
  elems es sp d h := by have := part_le h; simp only [Rows.uptoBulk]; omega
  len es sp := by have := length_le es; simp only [Rows.uptoBulk]; omega
  agg ds d h := by have := part_le h; simp only [Rows.uptoBulk]; omega
  str bs := by simp [Rows.uptoBulk]

theorem bound {H : Type} {l : List (DataW H)} (hk : Rows.uptoSmall H l = true) : Rows.uptoBulkAll l ≤ 1048576 := by
  have := of_decide_eq_true hk
  exact this

end Go.Proofs.Ytkheccnpikfalaa.bulks

/-! (TDTBitmapNames) -/

/- BitmapNames: the law returns true whatever its arguments. -/
namespace Go.Proofs.Ytkheccnpikfalaa.bitmapNames
open Go.ChangeShapes Go.WideShapes Go.ChangeAt Go.RowKit Go.AX Go.AX.Z Go.AX.Z.TD

theorem own : ownKnob Try.prog.godebug = none := by kernel_rfl
theorem laid : laidOutB K.P = true := by kernel_rfl
theorem par : parB K.P Try.f10.params.toList = true := by kernel_rfl

theorem law (B : Nat) (xs : List AV) (h : TyArgs K.P B Try.f10.params.toList xs) : SndP K 10 xs (.v (.bool true)) := by
  have h' : TyArgs K.P B [] xs := h
  obtain ⟨rfl⟩ := h'
  exact hotspotlaw33_BitmapNames_p  (names)

set_option maxRecDepth 100000 in
theorem lifted (os : Os) (started : os.Started) (H : Type) (enc : TypeId × Value → H) :
    ReturnsInHanded {} Try.checked os 10 .any (Rows.bitmapNamesSpec.pre6 enc Try.prog Try.f10 Rows.bitmapNamesRow.domain false) (Rows.bitmapNamesSpec.post enc Try.prog Try.f10 false true false false) := by
  refine returnsInHanded_of_change (C := Try.checked) own started (by kernel_rfl) Try.func10
    (ChangeSpec.witness6 (enc := enc) (C := Try.checked) false ⟨#[], #[], []⟩ 8 (by kernel_rfl) (by kernel_rfl) (by kernel_rfl) (by kernel_rfl)) ?_
  intro W base args ds gs before hval hW hcnd _
  exact law_contract (C := K) (f := 10) ⟨Try.f10, Try.func10, rfl, by decide +kernel⟩ (fn := Try.f10) (tb := 4) (B := Rows.uptoBulkAll ds) (bk := Rows.uptoBulk) rfl laid par rfl Try.underlying4 (law _) rfl
    (fun ds hds => by match ds, hds with | [], _ => rfl) bulks.bulk hval hW (fun d hd => bulks.part_le hd)

theorem over : Rows.BitmapNamesSaid :=
  OpenClaim.holds_of_wide 10 Try.f10 rfl rfl rfl rfl rfl rfl rfl ⟨rfl, rfl, rfl, rfl, rfl⟩ rfl rfl rfl rfl rfl (by kernel_rfl) Try.func10 (by kernel_rfl)
    (of_decide_eq_true (by kernel_rfl)) (by unfold Func.isWrapper; first | (rw [if_pos (by decide +kernel)]; kernel_rfl) | (rw [if_neg (by decide +kernel)]; exact ⟨rfl, rfl⟩))
    (fun os started H enc _ => lifted os started H enc)

end Go.Proofs.Ytkheccnpikfalaa.bitmapNames
