/- A part of the proof: SeR. -/
import Derived.Test.YtjijidmbpfjioaaSeE
namespace Go.AX.SE
open Go.Proofs

/-! ## Arguments, read -/

def A6.wf (x : A6) : Prop := (Lit.int .u8 x.a).wf = true ∧ (Lit.int .u8 x.b).wf = true ∧ (Lit.int .u8 x.c).wf = true ∧ (Lit.int .u8 x.d).wf = true ∧ (Lit.int .u8 x.e).wf = true ∧ (Lit.int .u8 x.f).wf = true
theorem ud27 : K.P.underlying 27 = some (.array 6 5) := by kernel_rfl
theorem ud5 : K.P.underlying 5 = some (.int .u8) := by kernel_rfl
theorem rd_ad {B n : Nat} {l : List AV} (h : Ty K.P B n 27 l) : ∃ x : A6, l = ad x ∧ A6.wf x := by
  obtain ⟨m, ls, rfl, h1, h2⟩ := ty_array ud27 h
  obtain ⟨vs, h3, h4, h5⟩ := ty_ints ud5 ls h2
  match vs, (h4.trans h1 : vs.length = 6) with
  | [a0, a1, a2, a3, a4, a5], _ => exact ⟨⟨a0, a1, a2, a3, a4, a5⟩, h3, ⟨h5 _ (by simp), h5 _ (by simp), h5 _ (by simp), h5 _ (by simp), h5 _ (by simp), h5 _ (by simp)⟩⟩

def Hd.wf (x : Hd) : Prop := (Lit.int .u8 x.kind).wf = true ∧ (Lit.int .u8 x.sub).wf = true ∧ (Lit.int .i64 x.dur).wf = true ∧ A6.wf x.a1 ∧ A6.wf x.a2 ∧ A6.wf x.a3 ∧ A6.wf x.a4 ∧ (Lit.int .i64 x.seq).wf = true ∧ (Lit.int .i64 x.frag).wf = true ∧ (Lit.int .i64 x.tid).wf = true ∧ (Lit.int .u8 x.ack).wf = true
theorem ud4 : K.P.underlying 4 = some .bool := by kernel_rfl
theorem ud3 : K.P.underlying 3 = some (.int .i64) := by kernel_rfl
theorem rd_hd {B n : Nat} {l : List AV} (h : Ty K.P B n 29 l) : ∃ (x : Hd), l = hd x ∧ Hd.wf x := by
  obtain ⟨m, h⟩ := ty_struct Try.underlying29 h
  have h' : TyAll (Ty K.P B m) [5, 5, 4, 4, 4, 4, 4, 4, 4, 3, 27, 27, 27, 27, 3, 3, 3, 5, 4, 4] l := h
  obtain ⟨_, _, rfl, h0, _, _, rfl, h1, _, _, rfl, h2, _, _, rfl, h3, _, _, rfl, h4, _, _, rfl, h5, _, _, rfl, h6, _, _, rfl, h7, _, _, rfl, h8, _, _, rfl, h9, _, _, rfl, h10, _, _, rfl, h11, _, _, rfl, h12, _, _, rfl, h13, _, _, rfl, h14, _, _, rfl, h15, _, _, rfl, h16, _, _, rfl, h17, _, _, rfl, h18, _, _, rfl, h19, rfl⟩ := h'
  obtain ⟨v0, rfl, w0⟩ := ty_int ud5 h0
  obtain ⟨v1, rfl, w1⟩ := ty_int ud5 h1
  obtain ⟨v2, rfl⟩ := ty_bool ud4 h2
  obtain ⟨v3, rfl⟩ := ty_bool ud4 h3
  obtain ⟨v4, rfl⟩ := ty_bool ud4 h4
  obtain ⟨v5, rfl⟩ := ty_bool ud4 h5
  obtain ⟨v6, rfl⟩ := ty_bool ud4 h6
  obtain ⟨v7, rfl⟩ := ty_bool ud4 h7
  obtain ⟨v8, rfl⟩ := ty_bool ud4 h8
  obtain ⟨v9, rfl, w9⟩ := ty_int ud3 h9
  obtain ⟨v10, rfl, w10⟩ := rd_ad h10
  obtain ⟨v11, rfl, w11⟩ := rd_ad h11
  obtain ⟨v12, rfl, w12⟩ := rd_ad h12
  obtain ⟨v13, rfl, w13⟩ := rd_ad h13
  obtain ⟨v14, rfl, w14⟩ := ty_int ud3 h14
  obtain ⟨v15, rfl, w15⟩ := ty_int ud3 h15
  obtain ⟨v16, rfl, w16⟩ := ty_int ud3 h16
  obtain ⟨v17, rfl, w17⟩ := ty_int ud5 h17
  obtain ⟨v18, rfl⟩ := ty_bool ud4 h18
  obtain ⟨v19, rfl⟩ := ty_bool ud4 h19
  exact ⟨⟨v0, v1, v2, v3, v4, v5, v6, v7, v8, v9, v10, v11, v12, v13, v14, v15, v16, v17, v18, v19⟩, rfl, ⟨w0, w1, w9, w10, w11, w12, w13, w14, w15, w16, w17⟩⟩

def Fh.wf (x : Fh) : Prop := Hd.wf x.h
theorem ud30 : K.P.underlying 30 = some (.slice 5) := by kernel_rfl
theorem rd_fr {B n : Nat} {l : List AV} (h : Ty K.P B n 32 l) : ∃ (x : Fh) (body : AV) (m : Nat), l = fr x body ∧ Fh.wf x ∧ Ty K.P B m 30 [body] := by
  obtain ⟨m, h⟩ := ty_struct Try.underlying32 h
  have h' : TyAll (Ty K.P B m) [29, 30] l := h
  obtain ⟨_, _, rfl, h0, _, _, rfl, h1, rfl⟩ := h'
  obtain ⟨v0, rfl, w0⟩ := rd_hd h0
  obtain ⟨s1, rfl⟩ : ∃ x, _ = [x] := ty_single h1 (by rw [ud30]; intro _ hh; cases hh) (by rw [ud30]; intro _ _ hh; cases hh)
  exact ⟨⟨v0⟩, s1, m, rfl, w0, h1⟩

def Sd.wf (x : Sd) : Prop := (Lit.int .i64 x.tid).wf = true ∧ (Lit.int .u8 x.phase).wf = true ∧ (Lit.int .i64 x.token).wf = true ∧ (Lit.int .i64 x.next).wf = true ∧ (Lit.int .i64 x.size).wf = true ∧ (Lit.int .i64 x.limit).wf = true ∧ (Lit.int .i64 x.life).wf = true
theorem ud22 : K.P.underlying 22 = some (.slice 78) := by kernel_rfl
theorem rd_sd {B n : Nat} {l : List AV} (h : Ty K.P B n 24 l) : ∃ (x : Sd) (out : AV) (m : Nat), l = sd x out ∧ Sd.wf x ∧ Ty K.P B m 22 [out] := by
  obtain ⟨m, h⟩ := ty_struct Try.underlying24 h
  have h' : TyAll (Ty K.P B m) [3, 5, 3, 3, 3, 3, 3, 22, 4] l := h
  obtain ⟨_, _, rfl, h0, _, _, rfl, h1, _, _, rfl, h2, _, _, rfl, h3, _, _, rfl, h4, _, _, rfl, h5, _, _, rfl, h6, _, _, rfl, h7, _, _, rfl, h8, rfl⟩ := h'
  obtain ⟨v0, rfl, w0⟩ := ty_int ud3 h0
  obtain ⟨v1, rfl, w1⟩ := ty_int ud5 h1
  obtain ⟨v2, rfl, w2⟩ := ty_int ud3 h2
  obtain ⟨v3, rfl, w3⟩ := ty_int ud3 h3
  obtain ⟨v4, rfl, w4⟩ := ty_int ud3 h4
  obtain ⟨v5, rfl, w5⟩ := ty_int ud3 h5
  obtain ⟨v6, rfl, w6⟩ := ty_int ud3 h6
  obtain ⟨s7, rfl⟩ : ∃ x, _ = [x] := ty_single h7 (by rw [ud22]; intro _ hh; cases hh) (by rw [ud22]; intro _ _ hh; cases hh)
  obtain ⟨v8, rfl⟩ := ty_bool ud4 h8
  exact ⟨⟨v0, v1, v2, v3, v4, v5, v6, v8⟩, s7, m, rfl, ⟨w0, w1, w2, w3, w4, w5, w6⟩, h7⟩

def Uh.wf (x : Uh) : Prop := (Lit.int .i64 x.at_).wf = true ∧ (Lit.int .i64 x.tries).wf = true ∧ Hd.wf x.h
theorem rd_ue {B n : Nat} {c : List AV} (h : Ty K.P B n 78 c) : ∃ e : El, c = ue e ∧ e.2.length ≤ B ∧ Uh.wf e.1 := by
  obtain ⟨m, h⟩ := ty_struct Try.underlying78 h
  have h' : TyAll (Ty K.P B m) [3, 3, 4, 32] c := h
  obtain ⟨_, _, rfl, h0, _, _, rfl, h1, _, _, rfl, h2, _, _, rfl, h3, rfl⟩ := h'
  obtain ⟨v0, rfl, w0⟩ := ty_int ud3 h0
  obtain ⟨v1, rfl, w1⟩ := ty_int ud3 h1
  obtain ⟨v2, rfl⟩ := ty_bool ud4 h2
  obtain ⟨x, b, m', rfl, w3, h4⟩ := rd_fr h3
  obtain ⟨vs, rfl, h5, _⟩ := ty_slice_ints ud30 ud5 h4
  exact ⟨(⟨v0, v1, v2, x.h⟩, vs), rfl, h5, w0, w1, w3⟩

theorem rd_us {B n : Nat} {x : AV} (h : Ty K.P B n 22 [x]) : ∃ l : List El, x = us l ∧ l.length ≤ B ∧ ∀ e ∈ l, e.2.length ≤ B ∧ Uh.wf e.1 :=
  ty_slice_rows _ ud22 (fun _ _ h => rd_ue h) h

end Go.AX.SE
