/- ReorderNames: the law returns true whatever its arguments. -/
import Derived.Test.YtnkikepecbjfdaaWalkc
import Derived.Test.YtnkikepecbjfdaaRows
import Derived.WalkKit
import Derived.ProofKit
import Derived.OpenShut
import Derived.JoinedCond
set_option linter.unusedVariables false
set_option linter.unusedSimpArgs false

/-! (TRO) -/

namespace Go.AX.Z.TR
open Go.AX
theorem names : hotspotlaw18_ReorderNames = some true := by decide +kernel
end Go.AX.Z.TR

/-! (TRY) -/

set_option linter.unusedVariables false
namespace Go.AX.Z.TR
open Go.AX Go.Proofs

/-! ## Arguments, read -/

theorem ud3 : K.P.underlying 3 = some (.int .i64) := by kernel_rfl

theorem ud5 : K.P.underlying 5 = some (.int .u8) := by kernel_rfl

theorem ud4 : K.P.underlying 4 = some (.bool) := by kernel_rfl

def W_Addr (B : Nat) (x : Addr) : Prop := ((Lit.int .u8 x.a0).wf = true) ∧ ((Lit.int .u8 x.a1).wf = true) ∧ ((Lit.int .u8 x.a2).wf = true) ∧ ((Lit.int .u8 x.a3).wf = true) ∧ ((Lit.int .u8 x.a4).wf = true) ∧ ((Lit.int .u8 x.a5).wf = true)

theorem ud39 : K.P.underlying 39 = some (.array 6 5) := by kernel_rfl

theorem rd39 {B n : Nat} {l : List AV} (h : Ty K.P B n 39 l) : ∃ x : Addr, l = e_Addr x ∧ W_Addr B x := by
  obtain ⟨m, ls, rfl, h1, h2⟩ := ty_array ud39 h
  obtain ⟨vs, h3, h4, h5⟩ := ty_ints ud5 ls h2
  match vs, (h4.trans h1 : vs.length = 6) with
  | [a0, a1, a2, a3, a4, a5], _ => exact ⟨⟨a0, a1, a2, a3, a4, a5⟩, h3, h5 _ (by simp), h5 _ (by simp), h5 _ (by simp), h5 _ (by simp), h5 _ (by simp), h5 _ (by simp)⟩

def W_Header (B : Nat) (x : Header) : Prop := ((Lit.int .u8 x.Kind).wf = true) ∧ ((Lit.int .u8 x.Sub).wf = true) ∧ ((Lit.int .i64 x.Duration).wf = true) ∧ (W_Addr B x.A1) ∧ (W_Addr B x.A2) ∧ (W_Addr B x.A3) ∧ (W_Addr B x.A4) ∧ ((Lit.int .i64 x.Seq).wf = true) ∧ ((Lit.int .i64 x.Frag).wf = true) ∧ ((Lit.int .i64 x.Tid).wf = true) ∧ ((Lit.int .u8 x.Ack).wf = true)

theorem rd41 {B n : Nat} {l : List AV} (h : Ty K.P B n 41 l) : ∃ x : Header, l = e_Header x ∧ W_Header B x := by
  obtain ⟨m, h⟩ := ty_struct Try.underlying41 h
  have h' : TyAll (Ty K.P B m) [5, 5, 4, 4, 4, 4, 4, 4, 4, 3, 39, 39, 39, 39, 3, 3, 3, 5, 4, 4] l := h
  obtain ⟨_, _, rfl, h0, _, _, rfl, h1, _, _, rfl, h2, _, _, rfl, h3, _, _, rfl, h4, _, _, rfl, h5, _, _, rfl, h6, _, _, rfl, h7, _, _, rfl, h8, _, _, rfl, h9, _, _, rfl, h10, _, _, rfl, h11, _, _, rfl, h12, _, _, rfl, h13, _, _, rfl, h14, _, _, rfl, h15, _, _, rfl, h16, _, _, rfl, h17, _, _, rfl, h18, _, _, rfl, h19, rfl⟩ := h'
  obtain ⟨v0, rfl, w0⟩ := ty_int ud5 h0
  obtain ⟨v1, rfl, w1⟩ := ty_int ud5 h1
  obtain ⟨v2, rfl⟩ := ty_bool ud4 h2
  obtain ⟨v3, rfl⟩ := ty_bool ud4 h3
  obtain ⟨v4, rfl⟩ := ty_bool ud4 h4
  obtain ⟨v5, rfl⟩ := ty_bool ud4 h5
  obtain ⟨v6, rfl⟩ := ty_bool ud4 h6
  obtain ⟨v7, rfl⟩ := ty_bool ud4 h7
  obtain ⟨v8, rfl⟩ := ty_bool ud4 h8
  obtain ⟨v9, rfl, w9⟩ := ty_int ud3 h9
  obtain ⟨v10, rfl, w10⟩ := rd39 h10
  obtain ⟨v11, rfl, w11⟩ := rd39 h11
  obtain ⟨v12, rfl, w12⟩ := rd39 h12
  obtain ⟨v13, rfl, w13⟩ := rd39 h13
  obtain ⟨v14, rfl, w14⟩ := ty_int ud3 h14
  obtain ⟨v15, rfl, w15⟩ := ty_int ud3 h15
  obtain ⟨v16, rfl, w16⟩ := ty_int ud3 h16
  obtain ⟨v17, rfl, w17⟩ := ty_int ud5 h17
  obtain ⟨v18, rfl⟩ := ty_bool ud4 h18
  obtain ⟨v19, rfl⟩ := ty_bool ud4 h19
  exact ⟨⟨v0, v1, v2, v3, v4, v5, v6, v7, v8, v9, v10, v11, v12, v13, v14, v15, v16, v17, v18, v19⟩, rfl, ⟨w0, w1, w9, w10, w11, w12, w13, w14, w15, w16, w17⟩⟩

theorem ud42 : K.P.underlying 42 = some (.slice 5) := by kernel_rfl

theorem rsl42 {B n : Nat} {x : AV} (h : Ty K.P B n 42 [x]) : ∃ l : (List Int), x = S_vu l ∧ l.length ≤ B ∧ ∀ z ∈ l, (Lit.int .u8 z).wf = true := by
  obtain ⟨vs, rfl, h1, h2⟩ := ty_slice_ints ud42 ud5 h
  exact ⟨vs, rfl, h1, h2⟩

def W_Frame (B : Nat) (x : Frame) : Prop := (W_Header B x.Head) ∧ (x.Body.length ≤ B ∧ ∀ z ∈ x.Body, (Lit.int .u8 z).wf = true)

theorem rd44 {B n : Nat} {l : List AV} (h : Ty K.P B n 44 l) : ∃ x : Frame, l = E_Frame x ∧ W_Frame B x := by
  obtain ⟨m, h⟩ := ty_struct Try.underlying44 h
  have h' : TyAll (Ty K.P B m) [41, 42] l := h
  obtain ⟨_, _, rfl, h0, _, _, rfl, h1, rfl⟩ := h'
  obtain ⟨v0, rfl, w0⟩ := rd41 h0
  obtain ⟨s1, rfl⟩ : ∃ x, _ = [x] := ty_single h1 (by rw [ud42]; intro _ hh; cases hh) (by rw [ud42]; intro _ _ hh; cases hh)
  obtain ⟨v1, rfl, w1⟩ := rsl42 h1
  exact ⟨⟨v0, v1⟩, rfl, ⟨w0, w1⟩⟩

def W_HeldSeq (B : Nat) (x : HeldSeq) : Prop := ((Lit.int .i64 x.At).wf = true) ∧ (W_Frame B x.Frame)

theorem rd58 {B n : Nat} {l : List AV} (h : Ty K.P B n 58 l) : ∃ x : HeldSeq, l = E_HeldSeq x ∧ W_HeldSeq B x := by
  obtain ⟨m, h⟩ := ty_struct Try.underlying58 h
  have h' : TyAll (Ty K.P B m) [3, 44] l := h
  obtain ⟨_, _, rfl, h0, _, _, rfl, h1, rfl⟩ := h'
  obtain ⟨v0, rfl, w0⟩ := ty_int ud3 h0
  obtain ⟨v1, rfl, w1⟩ := rd44 h1
  exact ⟨⟨v0, v1⟩, rfl, ⟨w0, w1⟩⟩

theorem ud22 : K.P.underlying 22 = some (.slice 58) := by kernel_rfl

theorem rsl22 {B n : Nat} {x : AV} (h : Ty K.P B n 22 [x]) : ∃ l : (List HeldSeq), x = S_HeldSeq l ∧ l.length ≤ B ∧ ∀ z ∈ l, W_HeldSeq B z := by
  obtain ⟨l, rfl, h1, h2⟩ := ty_slice_rows (W_HeldSeq B) ud22 (fun _ _ h => rd58 h) h
  exact ⟨l, rfl, h1, h2⟩

theorem ud23 : K.P.underlying 23 = some (.int .u64) := by kernel_rfl

def W_Window (B : Nat) (x : Window) : Prop := ((Lit.int .i64 x.Start).wf = true) ∧ ((Lit.int .u64 x.Bits).wf = true)

theorem rd25 {B n : Nat} {l : List AV} (h : Ty K.P B n 25 l) : ∃ x : Window, l = e_Window x ∧ W_Window B x := by
  obtain ⟨m, h⟩ := ty_struct Try.underlying25 h
  have h' : TyAll (Ty K.P B m) [3, 23] l := h
  obtain ⟨_, _, rfl, h0, _, _, rfl, h1, rfl⟩ := h'
  obtain ⟨v0, rfl, w0⟩ := ty_int ud3 h0
  obtain ⟨v1, rfl, w1⟩ := ty_int ud23 h1
  exact ⟨⟨v0, v1⟩, rfl, ⟨w0, w1⟩⟩

def W_Reorder (B : Nat) (x : Reorder) : Prop := ((Lit.int .i64 x.Start).wf = true) ∧ ((Lit.int .i64 x.Size).wf = true) ∧ ((Lit.int .i64 x.Hold).wf = true) ∧ (x.Held.length ≤ B ∧ ∀ z ∈ x.Held, W_HeldSeq B z) ∧ (W_Window B x.Seen)

theorem rd27 {B n : Nat} {l : List AV} (h : Ty K.P B n 27 l) : ∃ x : Reorder, l = E_Reorder x ∧ W_Reorder B x := by
  obtain ⟨m, h⟩ := ty_struct Try.underlying27 h
  have h' : TyAll (Ty K.P B m) [3, 3, 3, 22, 25] l := h
  obtain ⟨_, _, rfl, h0, _, _, rfl, h1, _, _, rfl, h2, _, _, rfl, h3, _, _, rfl, h4, rfl⟩ := h'
  obtain ⟨v0, rfl, w0⟩ := ty_int ud3 h0
  obtain ⟨v1, rfl, w1⟩ := ty_int ud3 h1
  obtain ⟨v2, rfl, w2⟩ := ty_int ud3 h2
  obtain ⟨s3, rfl⟩ : ∃ x, _ = [x] := ty_single h3 (by rw [ud22]; intro _ hh; cases hh) (by rw [ud22]; intro _ _ hh; cases hh)
  obtain ⟨v3, rfl, w3⟩ := rsl22 h3
  obtain ⟨v4, rfl, w4⟩ := rd25 h4
  exact ⟨⟨v0, v1, v2, v3, v4⟩, rfl, ⟨w0, w1, w2, w3, w4⟩⟩

def W_Hotspotref18_Step (B : Nat) (x : Hotspotref18_Step) : Prop := ((Lit.int .i64 x.Kind).wf = true) ∧ ((Lit.int .i64 x.N).wf = true) ∧ (W_Frame B x.Frame)

theorem rd75 {B n : Nat} {l : List AV} (h : Ty K.P B n 75 l) : ∃ x : Hotspotref18_Step, l = E_Hotspotref18_Step x ∧ W_Hotspotref18_Step B x := by
  obtain ⟨m, h⟩ := ty_struct Try.underlying75 h
  have h' : TyAll (Ty K.P B m) [3, 3, 44] l := h
  obtain ⟨_, _, rfl, h0, _, _, rfl, h1, _, _, rfl, h2, rfl⟩ := h'
  obtain ⟨v0, rfl, w0⟩ := ty_int ud3 h0
  obtain ⟨v1, rfl, w1⟩ := ty_int ud3 h1
  obtain ⟨v2, rfl, w2⟩ := rd44 h2
  exact ⟨⟨v0, v1, v2⟩, rfl, ⟨w0, w1, w2⟩⟩

theorem ud71 : K.P.underlying 71 = some (.slice 75) := by kernel_rfl

theorem rsl71 {B n : Nat} {x : AV} (h : Ty K.P B n 71 [x]) : ∃ l : (List Hotspotref18_Step), x = S_Hotspotref18_Step l ∧ l.length ≤ B ∧ ∀ z ∈ l, W_Hotspotref18_Step B z := by
  obtain ⟨l, rfl, h1, h2⟩ := ty_slice_rows (W_Hotspotref18_Step B) ud71 (fun _ _ h => rd75 h) h
  exact ⟨l, rfl, h1, h2⟩

end Go.AX.Z.TR

/-! (TRU) -/

/- How bulks bound what a reading holds. -/
namespace Go.Proofs.Ytnkikepecbjfdaa.bulks
open Go.AX

theorem one_le {H : Type} (d : DataW H) : 1 ≤ Rows.uptoBulk d := by
  cases d with
  | lit l => cases l <;> simp [Rows.uptoBulk]
  | nil => simp [Rows.uptoBulk]
  | ptr d => simp [Rows.uptoBulk]
  | slice elems spare => simp [Rows.uptoBulk]
  | agg parts => simp [Rows.uptoBulk]
  | iface t d => simp [Rows.uptoBulk]
  | map entries => simp [Rows.uptoBulk]
  | held h => simp [Rows.uptoBulk]

theorem part_le {H : Type} {d : DataW H} {l : List (DataW H)} (h : d ∈ l) : Rows.uptoBulk d ≤ Rows.uptoBulkAll l := by
  induction l with
  | nil => cases h
  | cons x r ih =>
    simp only [Rows.uptoBulkAll]
    cases List.mem_cons.1 h with
    | inl e => subst e; omega
    | inr e => have := ih e; omega

theorem length_le {H : Type} (l : List (DataW H)) : l.length ≤ Rows.uptoBulkAll l := by
  induction l with
  | nil => simp [Rows.uptoBulkAll]
  | cons x r ih => have := one_le x; simp only [Rows.uptoBulkAll, List.length_cons]; omega

theorem bulk {H : Type} : Bulk (H := H) Rows.uptoBulk where
  ptr d := by simp [Rows.uptoBulk]
  elems es sp d h := by have := part_le h; simp only [Rows.uptoBulk]; omega
  len es sp := by have := length_le es; simp only [Rows.uptoBulk]; omega
  agg ds d h := by have := part_le h; simp only [Rows.uptoBulk]; omega
  str bs := by simp [Rows.uptoBulk]

theorem bound {H : Type} {l : List (DataW H)} (hk : Rows.uptoSmall H l = true) : Rows.uptoBulkAll l ≤ 1048576 := by
  have := of_decide_eq_true hk
  exact this

end Go.Proofs.Ytnkikepecbjfdaa.bulks

/-! (TRTReorderNames) -/

/- ReorderNames: the law returns true whatever its arguments. -/
namespace Go.Proofs.Ytnkikepecbjfdaa.reorderNames
open Go.ChangeShapes Go.WideShapes Go.ChangeAt Go.RowKit Go.AX Go.AX.Z Go.AX.Z.TR

theorem own : ownKnob Try.prog.godebug = none := by kernel_rfl
theorem laid : laidOutB K.P = true := by kernel_rfl
theorem par : parB K.P Try.f10.params.toList = true := by kernel_rfl

theorem law (B : Nat) (xs : List AV) (h : TyArgs K.P B Try.f10.params.toList xs) : SndP K 10 xs (.v (.bool true)) := by
  have h' : TyArgs K.P B [] xs := h
  obtain ⟨rfl⟩ := h'
  exact hotspotlaw18_ReorderNames_p  (names)

set_option maxRecDepth 100000 in
theorem lifted (os : Os) (started : os.Started) (H : Type) (enc : TypeId × Value → H) :
    ReturnsInHanded {} Try.checked os 10 .any (Rows.reorderNamesSpec.pre6 enc Try.prog Try.f10 Rows.reorderNamesRow.domain false) (Rows.reorderNamesSpec.post enc Try.prog Try.f10 false true false false) := by
  refine returnsInHanded_of_change (C := Try.checked) own started (by kernel_rfl) Try.func10
    (ChangeSpec.witness6 (enc := enc) (C := Try.checked) false ⟨#[], #[], []⟩ 8 (by kernel_rfl) (by kernel_rfl) (by kernel_rfl) (by kernel_rfl)) ?_
  intro W base args ds gs before hval hW hcnd _
  exact law_contract (C := K) (f := 10) ⟨Try.f10, Try.func10, rfl, by decide +kernel⟩ (fn := Try.f10) (tb := 4) (B := Rows.uptoBulkAll ds) (bk := Rows.uptoBulk) rfl laid par rfl Try.underlying4 (law _) rfl
    (fun ds hds => by match ds, hds with | [], _ => rfl) bulks.bulk hval hW (fun d hd => bulks.part_le hd)

theorem over : Rows.ReorderNamesSaid :=
  OpenClaim.holds_of_wide 10 Try.f10 rfl rfl rfl rfl rfl rfl rfl ⟨rfl, rfl, rfl, rfl, rfl⟩ rfl rfl rfl rfl rfl (by kernel_rfl) Try.func10 (by kernel_rfl)
    (of_decide_eq_true (by kernel_rfl)) (by unfold Func.isWrapper; first | (rw [if_pos (by decide +kernel)]; kernel_rfl) | (rw [if_neg (by decide +kernel)]; exact ⟨rfl, rfl⟩))
    (fun os started H enc _ => lifted os started H enc)

end Go.Proofs.Ytnkikepecbjfdaa.reorderNames
