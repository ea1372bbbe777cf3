/- A part of the proof: AxU. -/
import Derived.Test.YtjijidmbpfjioaaAxT
namespace Go.AX
open Go.ChangeShapes Go.WideShapes Go.RowKit

/-- A value of type 't', as a reading at entry gives it. -/
def TyV (P : Program) (B : Nat) (t : TypeId) (x : AV) : Prop :=
  ∃ n l, Ty P B n t l ∧ (match P.underlying t with | some (.struct _) => x = .agg l | some (.array _ _) => x = .agg l | _ => l = [x])

def TyArgs (P : Program) (B : Nat) : List TypeId → List AV → Prop
  | [], xs => xs = []
  | t :: ts, xs => ∃ x r, xs = x :: r ∧ TyV P B t x ∧ TyArgs P B ts r

theorem okWide_not_agg {P : Program} {W : World} {base : Nat} {t : TypeId} {cs : Array Value} (h : Cell.okWide P W .any base t (.agg cs)) : False := by
  unfold Cell.okWide at h
  split at h <;> first | (simp_all; done) | (unfold Cell.ok at h; split at h <;> simp_all)

theorem RelL.single {V : View} {x : AV} {y : Value} (h : RelL V [x] [y]) : Rel r0 V x y := h.rel 0 x y rfl rfl

theorem RelL.agg {V : View} {l : List AV} {cs : Array Value} (h : RelL V l cs.toList) : Rel r0 V (.agg l) (.agg cs) :=
  .agg l cs (by have := h.len; simp at this; omega) (fun i x y hx hy => h.rel i x y hx (by simpa using hy)) fun i y hy => h.sto y (List.mem_of_getElem? (by rw [Array.getElem?_toList]; exact hy))

theorem ty_single {P : Program} {B n : Nat} {t : TypeId} {l : List AV} (h : Ty P B n t l) (hs : ∀ fs, P.underlying t ≠ some (.struct fs)) (ha : ∀ m e, P.underlying t ≠ some (.array m e)) : ∃ x, l = [x] := by
  cases n with
  | zero => exact h.elim
  | succ n =>
    unfold Ty at h
    split at h
    · obtain ⟨b, rfl⟩ := h; exact ⟨_, rfl⟩
    · obtain ⟨b, rfl, _⟩ := h; exact ⟨_, rfl⟩
    · obtain ⟨b, rfl, _⟩ := h; exact ⟨_, rfl⟩
    · rcases h with rfl | ⟨c, rfl, _⟩ <;> exact ⟨_, rfl⟩
    · obtain ⟨b, rfl, _⟩ := h; exact ⟨_, rfl⟩
    · rename_i fs hu; exact absurd hu (hs fs)
    · rename_i m e hu; exact absurd hu (ha m e)
    · obtain ⟨b, rfl⟩ := h; exact ⟨_, rfl⟩

section
variable {H : Type} {enc : TypeId × Value → H} {P : Program} {W : World} {sp : Nat → Bool} {held : Bool} {bk : DataW H → Nat} {B : Nat}

theorem arg_rel (hbk : Bulk bk) (hl : laidOutB P = true) {base : Nat} {t : TypeId} {v : Value} {d : DataW H} {ps : List MemPlace} (ht : t < P.types.size) (hrd : P.readableRec t = true) (hp : posB P t = true) (hv' : Value.okWide P W .any base t v)
    (h : DataW.Trod enc P W 0 sp held t v d ps) (hB : bk d ≤ B) : ∃ x, Rel r0 (hv W) x v ∧ TyV P B t x := by
  obtain ⟨n, hn⟩ := h
  obtain ⟨l, hr, hty⟩ := trod_rel hbk (kids_book hl hrd) (pos_of hp) n t _ _ ⟨ht, book_self t⟩ hn hB
  have single : (∀ fs, P.underlying t ≠ some (.struct fs)) → (∀ m e, P.underlying t ≠ some (.array m e)) → ∃ x, Rel r0 (hv W) x v ∧ TyV P B t x := by
    intro hs ha
    have hc : Cell.okWide P W .any base t v := by
      unfold Value.okWide at hv'
      split at hv'
      · rename_i fs hu; exact absurd hu (hs fs)
      · rename_i m e hu; exact absurd hu (ha m e)
      · exact hv'
    obtain ⟨x, rfl⟩ := ty_single hty hs ha
    have hvc : v.cells.toList = [v] := by
      cases v <;> first | rfl | exact (okWide_not_agg hc).elim
    rw [hvc] at hr
    refine ⟨x, hr.single, n, [x], hty, ?_⟩
    split
    · rename_i fs hu; exact absurd hu (hs fs)
    · rename_i m e hu; exact absurd hu (ha m e)
    · rfl
  cases hu : P.underlying t with
  | none => exact single (by simp [hu]) (by simp [hu])
  | some dd =>
    cases dd with
    | struct fs =>
      unfold Value.okWide at hv'
      simp only [hu] at hv'
      obtain ⟨cs, rfl, _⟩ := hv'
      exact ⟨.agg l, RelL.agg hr, n, l, hty, by simp only [hu]⟩
    | array m e =>
      unfold Value.okWide at hv'
      simp only [hu] at hv'
      obtain ⟨cs, rfl, _⟩ := hv'
      exact ⟨.agg l, RelL.agg hr, n, l, hty, by simp only [hu]⟩
    | _ => exact single (by simp [hu]) (by simp [hu])

theorem args_rel (hbk : Bulk bk) (hl : laidOutB P = true) {base : Nat} : ∀ {ts : List TypeId} {vs : List Value} {ds : List (DataW H)} {ps : List MemPlace}, (∀ t ∈ ts, t < P.types.size ∧ P.readableRec t = true ∧ posB P t = true) →
    (∀ (j : Nat) t v, ts[j]? = some t → vs[j]? = some v → Value.okWide P W .any base t v) → DataW.TrodAll enc P W 0 sp held ts vs ds ps → (∀ d ∈ ds, bk d ≤ B) →
    ∃ xs : List AV, xs.length = vs.length ∧ (∀ (i : Nat) x y, xs[i]? = some x → vs[i]? = some y → Rel r0 (hv W) x y) ∧ TyArgs P B ts xs ∧ ds.length = ts.length
  | [], vs, ds, ps, _, _, h, _ => by
    obtain ⟨rfl, rfl, rfl⟩ := trodAll_nil h
    exact ⟨[], rfl, fun i x y hx => by simp at hx, rfl, rfl⟩
  | t :: ts, vs, ds, ps, ht, hv', h, hB => by
    obtain ⟨v, vs', d, ds', p, q, rfl, rfl, rfl, h1, h2⟩ := trodAll_cons h
    obtain ⟨x, hx1, hx2⟩ := arg_rel hbk hl (ht t (by simp)).1 (ht t (by simp)).2.1 (ht t (by simp)).2.2 (hv' 0 t v rfl rfl) h1 (hB d (by simp))
    obtain ⟨xs, g1, g2, g3, g4⟩ := args_rel hbk hl (fun u hu => ht u (by simp [hu])) (fun j u w hu hw => hv' (j + 1) u w (by simpa using hu) (by simpa using hw)) h2 (fun e he => hB e (by simp [he]))
    refine ⟨x :: xs, by simp [g1], fun i a b ha hb => ?_, ⟨x, xs, rfl, hx2, g3⟩, by simp [g4]⟩
    cases i with
    | zero => simp at ha hb; subst ha; subst hb; exact hx1
    | succ i => simp at ha hb; exact g2 i a b ha hb

theorem args_stay (hl : laidOutB P = true) {W' : World} {sp' : Nat → Bool} : ∀ {ts : List TypeId} {vs : List Value} {ds : List (DataW H)} {ps : List MemPlace}, (∀ t ∈ ts, t < P.types.size ∧ P.readableRec t = true) →
    DataW.TrodAll enc P W 0 (fun _ => true) true ts vs ds ps → (∀ p ∈ ps, W.sameAt W' p) → (∀ p ∈ ps, sp' p.block = true) → DataW.TrodAll enc P W' 0 sp' true ts vs ds ps
  | [], vs, ds, ps, _, h, _, _ => by
    obtain ⟨rfl, rfl, rfl⟩ := trodAll_nil h
    exact trodAll_mk0
  | t :: ts, vs, ds, ps, ht, h, hs, hp => by
    obtain ⟨v, vs', d, ds', p, q, rfl, rfl, rfl, h1, h2⟩ := trodAll_cons h
    exact trodAll_cons_mk (WideElems.Trod_stays hl (ht t (by simp)).2 (ht t (by simp)).1 h1 (fun x hx => hs x (by simp [hx])) (fun x hx => hp x (by simp [hx])))
      (args_stay hl (fun u hu => ht u (by simp [hu])) h2 (fun x hx => hs x (by simp [hx])) (fun x hx => hp x (by simp [hx])))

end

/-- What the parameters' types must be. -/
def parB (P : Program) (ts : List TypeId) : Bool := ts.all fun t => Nat.blt t P.types.size && (P.readableRec t && posB P t)

/-- A LAW: it returns true whatever its arguments, which read as they did. -/
theorem law_contract {C : Ctx} {f : FuncId} (hcal : callable C.P f) (hgt : C.gt = fun _ => none) (hl : laidOutB C.P = true) {fn : Func} (hpar : parB C.P fn.params.toList = true)
    {tb : TypeId} (hres : fn.resultTypes = #[tb]) (htb : C.P.underlying tb = some .bool) {B : Nat}
    (hlaw : ∀ xs, TyArgs C.P B fn.params.toList xs → SndP C f xs (.v (.bool true)))
    {s : ChangeSpec} (hvars : s.vars = []) {H : Type} {enc : TypeId × Value → H} (hs : ∀ ds : List (DataW H), ds.length = fn.params.toList.length → s.fn H ds = { results := [.lit (.bool true)], args := ds })
    {bk : DataW H → Nat} (hbk : Bulk bk) {W : World} {base : Nat} {args : Array Value} {ds gs : List (DataW H)} {before : List MemPlace} {apart fresh handsOn again : Bool}
    (hval : ∀ (j : Nat) t v, fn.params[j]? = some t → args[j]? = some v → Value.okWide C.P W .any base t v)
    (hW : DataW.Whole enc C.P fn.params.toList s.vars apart W args.toList ds gs before) (hB : ∀ d ∈ ds, bk d ≤ B) :
    Calls C.P f args W fun e W' => ∃ v, e = .returned v ∧ s.post enc C.P fn apart fresh handsOn again W args v W' := by
  have hW' := hW
  obtain ⟨p, q, hA, hV, rfl, hfz, hnd⟩ := hW
  rw [hvars] at hV
  obtain ⟨rfl, rfl⟩ := trodVars_none hV
  have hpar' : ∀ t ∈ fn.params.toList, t < C.P.types.size ∧ C.P.readableRec t = true ∧ posB C.P t = true := by
    intro t ht
    have := List.all_eq_true.1 hpar t ht
    simpa using this
  obtain ⟨xs, g1, g2, g3, g4⟩ := args_rel hbk hl hpar' (fun j t v hj hv' => hval j t v (by simpa using hj) (by simpa using hv')) hA hB
  have hI : Inv r0 (hv W) (deadH 0) W := by
    refine ⟨fun b c hb => ?_, fun _ _ => rfl, fun id cells loc h => by simp [deadH] at h, fun id cells loc h => by simp [deadH] at h, fun i j li lj ci cj h => by simp [deadH] at h⟩
    unfold hv at hb
    split at hb
    · rename_i c' T fz hh; cases hb; exact ⟨T, fz, hh⟩
    · cases hb
  have hG : GtOk C (hv W) := by intro g cs h; rw [hgt] at h; cases h
  refine ((((hlaw xs g3).quiet (deadH 0)).2 r0 (hv W) W args (by simpa using g1.symm) (fun i x y hx hy => g2 i x y hx (by simpa using hy)) hI hG).calls hcal).mono ?_
  rintro e W' ⟨y, r, s', ρ', V', rfl, ⟨rfl, rfl⟩, hrel, hinv, hg⟩
  have hy := Rel.v_inv hrel
  subst hy
  have hk : ∀ b, b < W.heap.size → W'.heap[b]? = W.heap[b]? := fun b hb => hg.keep b hb own_dead
  have hkept : W.keptBut W' (fun _ => False) := by
    refine ⟨hg.mem.os, hg.mem.out, fun i hi => ?_⟩
    rw [hk i hi]
    split <;> simp_all
  have hsame : ∀ x ∈ p, W.sameAt W' x := by
    intro x hx
    have hlt := hW'.lt x (by simpa using hx)
    cases x with
    | cell b o => exact World.cell?_of_block (w := W) (hk b hlt)
    | map b => exact hk b hlt
  have hfn : s.fn H (ds ++ []) = { results := [.lit (.bool true)], args := ds } := by rw [List.append_nil]; exact hs ds g4
  refine ⟨_, rfl, post_of_same (pa := p) (pv := []) hW' ?_ ?_ ?_ rfl (World.keptBut_mono (fun x hx => hx.elim) hkept) hg.mem.frz (ok_one hres rfl (okWide_bool_mk htb _))⟩
  · intro b sp hd
    rw [hres, hfn]
    exact trodAll_cons_mk (shut_bool htb _) trodAll_mk0
  · intro sp hsp
    rw [hfn]
    exact args_stay hl (fun t ht => ⟨(hpar' t ht).1, (hpar' t ht).2.1⟩) hA hsame fun x hx => hsp x (by simpa using hx)
  · intro sp _
    rw [hvars, hfn]
    exact rfl

/-! ## What the readings' forms are, one by one -/

section
variable {P : Program} {B : Nat} {t : TypeId} {x : AV}

theorem tyV_int {k : IntKind} (hu : P.underlying t = some (.int k)) (h : TyV P B t x) : ∃ i, x = .v (.int k i) ∧ (Lit.int k i).wf = true := by
  obtain ⟨n, l, h1, h2⟩ := h
  simp only [hu] at h2
  subst h2
  cases n with
  | zero => exact h1.elim
  | succ n => simp only [Ty, hu] at h1; obtain ⟨i, hi, hw⟩ := h1; exact ⟨i, by simpa using hi, hw⟩

theorem tyV_bool (hu : P.underlying t = some .bool) (h : TyV P B t x) : ∃ b, x = .v (.bool b) := by
  obtain ⟨n, l, h1, h2⟩ := h
  simp only [hu] at h2
  subst h2
  cases n with
  | zero => exact h1.elim
  | succ n => simp only [Ty, hu] at h1; obtain ⟨i, hi⟩ := h1; exact ⟨i, by simpa using hi⟩

theorem tyV_struct {fs : Array Field} (hu : P.underlying t = some (.struct fs)) (h : TyV P B t x) : ∃ n l, x = .agg l ∧ TyAll (Ty P B n) (fs.toList.map (·.type)) l := by
  obtain ⟨n, l, h1, h2⟩ := h
  simp only [hu] at h2
  cases n with
  | zero => exact h1.elim
  | succ n => simp only [Ty, hu] at h1; exact ⟨n, l, h2, h1⟩

theorem tyV_slice {e : TypeId} (hu : P.underlying t = some (.slice e)) (h : TyV P B t x) : ∃ n, ∃ ls : List (List AV), x = .imm ls.flatten ls.length ∧ ls.length ≤ B ∧ ∀ c ∈ ls, Ty P B n e c := by
  obtain ⟨n, l, h1, h2⟩ := h
  simp only [hu] at h2
  subst h2
  cases n with
  | zero => exact h1.elim
  | succ n => simp only [Ty, hu] at h1; obtain ⟨ls, hl, h3⟩ := h1; exact ⟨n, ls, by simpa using hl, h3⟩

theorem ty_int {n : Nat} {l : List AV} {k : IntKind} (hu : P.underlying t = some (.int k)) (h : Ty P B n t l) : ∃ i, l = [.v (.int k i)] ∧ (Lit.int k i).wf = true := by
  cases n with
  | zero => exact h.elim
  | succ n => simp only [Ty, hu] at h; exact h
theorem ty_bool {n : Nat} {l : List AV} (hu : P.underlying t = some .bool) (h : Ty P B n t l) : ∃ b, l = [.v (.bool b)] := by
  cases n with
  | zero => exact h.elim
  | succ n => simp only [Ty, hu] at h; exact h
theorem ty_struct {n : Nat} {l : List AV} {fs : Array Field} (hu : P.underlying t = some (.struct fs)) (h : Ty P B n t l) : ∃ m, TyAll (Ty P B m) (fs.toList.map (·.type)) l := by
  cases n with
  | zero => exact h.elim
  | succ n => simp only [Ty, hu] at h; exact ⟨n, h⟩
theorem ty_slice {n : Nat} {l : List AV} {e : TypeId} (hu : P.underlying t = some (.slice e)) (h : Ty P B n t l) : ∃ m, ∃ ls : List (List AV), l = [.imm ls.flatten ls.length] ∧ ls.length ≤ B ∧ ∀ c ∈ ls, Ty P B m e c := by
  cases n with
  | zero => exact h.elim
  | succ n => simp only [Ty, hu] at h; obtain ⟨ls, h1, h2⟩ := h; exact ⟨n, ls, h1, h2⟩
theorem ty_array {n m : Nat} {l : List AV} {e : TypeId} (hu : P.underlying t = some (.array m e)) (h : Ty P B n t l) : ∃ k, ∃ ls : List (List AV), l = ls.flatten ∧ ls.length = m ∧ ∀ c ∈ ls, Ty P B k e c := by
  cases n with
  | zero => exact h.elim
  | succ n => simp only [Ty, hu] at h; obtain ⟨ls, h1, h2⟩ := h; exact ⟨n, ls, h1, h2⟩

/-- Elements that are all of a form. -/
theorem map_of_all {α : Type} {R : List AV → Prop} {f : α → List AV} (W : α → Prop) (hR : ∀ c, R c → ∃ a, c = f a ∧ W a) : ∀ (ls : List (List AV)), (∀ c ∈ ls, R c) → ∃ as : List α, ls = as.map f ∧ ∀ a ∈ as, W a
  | [], _ => ⟨[], rfl, fun a h => by cases h⟩
  | c :: ls, h => by
    obtain ⟨a, rfl, ha⟩ := hR c (h c (by simp))
    obtain ⟨as, rfl, has⟩ := map_of_all W hR ls fun d hd => h d (by simp [hd])
    exact ⟨a :: as, rfl, fun b hb => (List.mem_cons.1 hb).elim (fun e => e ▸ ha) fun hb => has b hb⟩
end

end Go.AX
