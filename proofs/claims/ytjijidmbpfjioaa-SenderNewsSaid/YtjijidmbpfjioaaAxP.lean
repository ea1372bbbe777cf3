/- A part of the proof: AxP. -/
import Derived.Test.YtjijidmbpfjioaaAxO
namespace Go.AX

/-! ## Regions that draw their order -/

/-- A call that leaves the abstract heap alone and looks at nothing of it but 'rd'. -/
def QCall (C : Ctx) (f : FuncId) (args : List AV) (objs : Nat → Ob) (rd : Foot) (r : AV) : Prop :=
  ∀ hs : HS, agrees rd objs hs.objs → Snd C f args hs fun r' hs' => r' = r ∧ hs' = hs

/-- A call that does as an operation does, and looks at nothing of the abstract heap but 'rd'. -/
def ECall (C : Ctx) (f : FuncId) (args : List AV) (objs : Nat → Ob) (rd : Foot) (fr : Nat) (e : Eff) : Prop :=
  ∀ hs : HS, agrees rd objs hs.objs → SndE C f args hs fr e

theorem QCall.toE {C : Ctx} {f : FuncId} {args : List AV} {objs : Nat → Ob} {rd : Foot} {r : AV} (h : QCall C f args objs rd r) (fr : Nat) : ECall C f args objs rd fr ⟨r, .none⟩ :=
  fun hs hh => (h hs hh).toE fr

def addP (p : Print) (acc : List Print) : List Print := if p.2.1.isEmpty && p.2.2.isEmpty then acc else p :: acc

def drawW (C : Ctx) (all : List Oper) (base : Nat) : Nat → List Oper → AS → List Print → (AS → Prop) → Prop
  | _, [], s, acc, K => printsOk all acc = true ∧ K s
  | i, o :: rest, s, acc, K => match o.guard with
    | none => match callOf C s o.op with
      | some (f, args) => ∃ e rd, ECall C f args s.objs rd (base + i) e ∧ drawW C all base (i + 1) rest (s.apply o.dst (base + i) e) (addP (i, rd, wrOf (base + i) e.act) acc) K
      | none => match opEff C s (base + i) o.op with
        | some e => drawW C all base (i + 1) rest (s.apply o.dst (base + i) e) (addP (i, rdOf C s o.op, wrOf (base + i) e.act) acc) K
        | none => False
    | some (g, want) => match (all[g]?).bind (·.dst) with
      | some d => ∃ x, s.tmps d = .v x ∧
          (x = .bool want → match callOf C s o.op with
            | some (f, args) => ∃ e rd, ECall C f args s.objs rd (base + i) e ∧ drawW C all base (i + 1) rest (s.apply o.dst (base + i) e) (addP (i, rd, wrOf (base + i) e.act) acc) K
            | none => match opEff C s (base + i) o.op with
              | some e => drawW C all base (i + 1) rest (s.apply o.dst (base + i) e) (addP (i, rdOf C s o.op, wrOf (base + i) e.act) acc) K
              | none => False) ∧
          (x ≠ .bool want → drawW C all base (i + 1) rest { s with tmps := putT s.tmps o.dst (.v undef) } acc K)
      | none => False

/-- What operation 'o' does in state 's'. -/
def DoesOp (C : Ctx) (fr : Nat) (o : Oper) (e : Eff) (rd : Foot) (s : AS) : Prop :=
  (callOf C s o.op = none ∧ opEff C s fr o.op = some e ∧ rdOf C s o.op = rd) ∨ (∃ f args, callOf C s o.op = some (f, args) ∧ ECall C f args s.objs rd fr e)

def DoesG (C : Ctx) (all : List Oper) (fr : Nat) (o : Oper) (e : Eff) (rd : Foot) (s : AS) : Prop :=
  match o.guard with
  | none => DoesOp C fr o e rd s
  | some (g, want) => ∃ d x, (all[g]?).bind (·.dst) = some d ∧ s.tmps d = .v x ∧ (x = .bool want → DoesOp C fr o e rd s) ∧ (x ≠ .bool want → e = ⟨.v undef, .none⟩)

theorem apply_none (s : AS) (dst : Option Nat) (fr : Nat) (r : AV) : s.apply dst fr ⟨r, .none⟩ = { s with tmps := putT s.tmps dst r } := rfl

/-- The walk of the text, as lists. -/
theorem draw_chain {C : Ctx} {all : List Oper} {base : Nat} {K : AS → Prop} : ∀ (l : List Oper) (i : Nat) (s : AS) (acc : List Print), drawW C all base i l s acc K →
    ∃ (es : List (Eff × Foot)) (acc' : List Print) (ss : List AS) (sn : AS), es.length = l.length ∧ ss.length = l.length ∧ printsOk all acc' = true ∧ K sn ∧ (∀ p ∈ acc, p ∈ acc') ∧
      (ss ++ [sn])[0]? = some s ∧
      (∀ (j : Nat) o e rd t, l[j]? = some o → es[j]? = some (e, rd) → ss[j]? = some t → DoesG C all (base + (i + j)) o e rd t ∧ (ss ++ [sn])[j + 1]? = some (t.apply o.dst (base + (i + j)) e) ∧
        ((rd = [] ∧ wrOf (base + (i + j)) e.act = []) ∨ (i + j, rd, wrOf (base + (i + j)) e.act) ∈ acc'))
  | [], i, s, acc, h => ⟨[], acc, [], s, rfl, rfl, h.1, h.2, fun _ h => h, rfl, fun j o e rd t h1 => by simp at h1⟩
  | o :: rest, i, s, acc, h => by
    -- one step, however it went
    have key : ∀ (e : Eff) (rd : Foot) (acc1 : List Print), DoesG C all (base + i) o e rd s → ((rd = [] ∧ wrOf (base + i) e.act = []) ∨ (i, rd, wrOf (base + i) e.act) ∈ acc1) → (∀ p ∈ acc, p ∈ acc1) →
        drawW C all base (i + 1) rest (s.apply o.dst (base + i) e) acc1 K → ∃ (es : List (Eff × Foot)) (acc' : List Print) (ss : List AS) (sn : AS), es.length = (o :: rest).length ∧ ss.length = (o :: rest).length ∧ printsOk all acc' = true ∧ K sn ∧ (∀ p ∈ acc, p ∈ acc') ∧
      (ss ++ [sn])[0]? = some s ∧
      (∀ (j : Nat) o' e rd t, (o :: rest)[j]? = some o' → es[j]? = some (e, rd) → ss[j]? = some t → DoesG C all (base + (i + j)) o' e rd t ∧ (ss ++ [sn])[j + 1]? = some (t.apply o'.dst (base + (i + j)) e) ∧
        ((rd = [] ∧ wrOf (base + (i + j)) e.act = []) ∨ (i + j, rd, wrOf (base + (i + j)) e.act) ∈ acc')) := by
      intro e rd acc1 hdoes hpr hacc hrest
      obtain ⟨es, acc', ss, sn, h1, h2, h3, h4, h5, h6, h7⟩ := draw_chain rest (i + 1) _ acc1 hrest
      refine ⟨(e, rd) :: es, acc', s :: ss, sn, by simp [h1], by simp [h2], h3, h4, fun p hp => h5 p (hacc p hp), rfl, fun j o' e' rd' t ho he ht => ?_⟩
      cases j with
      | zero =>
        simp at ho he ht
        obtain ⟨rfl, rfl⟩ := he
        subst ho; subst ht
        refine ⟨hdoes, by simpa using h6, ?_⟩
        rcases hpr with hp | hp
        · exact .inl hp
        · exact .inr (h5 _ hp)
      | succ j =>
        simp at ho he ht
        have := h7 j o' e' rd' t ho he ht
        rw [show i + 1 + j = i + (j + 1) by omega] at this
        simpa using this
    have addP_or : ∀ (rd wr : Foot), ((rd = [] ∧ wr = []) ∨ (i, rd, wr) ∈ addP (i, rd, wr) acc) ∧ (∀ p ∈ acc, p ∈ addP (i, rd, wr) acc) := by
      intro rd wr
      unfold addP
      by_cases hh : (rd.isEmpty && wr.isEmpty) = true
      · simp only [hh, if_true]
        simp at hh
        exact ⟨.inl hh, fun p hp => hp⟩
      · simp only [hh]
        exact ⟨.inr (by simp), fun p hp => by simp [hp]⟩
    simp only [drawW] at h
    split at h
    · rename_i hgd
      split at h
      · rename_i f args hc
        obtain ⟨e, rd, hq, hrest⟩ := h
        exact key e rd _ (by unfold DoesG; rw [hgd]; exact .inr ⟨f, args, hc, hq⟩) (addP_or rd _).1 (addP_or rd _).2 hrest
      · rename_i hc
        split at h
        · rename_i e he
          exact key e (rdOf C s o.op) _ (by unfold DoesG; rw [hgd]; exact .inl ⟨hc, he, rfl⟩) (addP_or _ _).1 (addP_or _ _).2 h
        · exact h.elim
    · rename_i g want hgd
      split at h
      · rename_i d hd
        obtain ⟨b, hb, hy, hn⟩ := h
        by_cases hbw : b = .bool want
        · have hnn : ¬ (b ≠ .bool want) := fun hh => hh hbw
          have h := hy hbw
          split at h
          · rename_i f args hc
            obtain ⟨e, rd, hq, hrest⟩ := h
            exact key e rd _ (by unfold DoesG; rw [hgd]; exact ⟨d, b, hd, hb, fun _ => .inr ⟨f, args, hc, hq⟩, fun hh => absurd hh hnn⟩) (addP_or rd _).1 (addP_or rd _).2 hrest
          · rename_i hc
            split at h
            · rename_i e he
              exact key e (rdOf C s o.op) _ (by unfold DoesG; rw [hgd]; exact ⟨d, b, hd, hb, fun _ => .inl ⟨hc, he, rfl⟩, fun hh => absurd hh hnn⟩) (addP_or _ _).1 (addP_or _ _).2 h
            · exact h.elim
        · have hbn : b ≠ .bool want := hbw
          exact key ⟨.v undef, .none⟩ [] acc (by unfold DoesG; rw [hgd]; exact ⟨d, b, hd, hb, fun hh => absurd hh hbw, fun _ => rfl⟩) (.inl ⟨rfl, rfl⟩) (fun p hp => hp) (hn hbn)
      · exact h.elim

theorem meet_symm (x y : Option (Nat × Nat)) : meet x y = meet y x := by
  cases x with
  | none => cases y <;> rfl
  | some a =>
    cases y with
    | none => rfl
    | some b => simp only [meet]; rw [Bool.and_comm]

theorem clash_symm (a b : Foot) : clash a b = clash b a := by
  unfold clash
  rw [Bool.eq_iff_iff]
  simp only [List.any_eq_true, Bool.and_eq_true, beq_iff_eq]
  constructor
  · rintro ⟨x, hx, y, hy, h1, h2⟩; exact ⟨y, hy, x, hx, h1.symm, by rw [meet_symm]; exact h2⟩
  · rintro ⟨x, hx, y, hy, h1, h2⟩; exact ⟨y, hy, x, hx, h1.symm, by rw [meet_symm]; exact h2⟩

theorem ordered_lt {ops : List Oper} (hok : edgesOk ops = true) : ∀ (j i : Nat), ordered ops i j = true → i < j := by
  intro j
  induction j using Nat.strongRecOn with
  | _ j ih =>
    intro i h
    unfold ordered at h
    rcases Nat.lt_or_ge j ops.length with hlt | hge
    · have ho : ops[j]? = some ops[j] := by simp [hlt]
      have hg := befs_get ops [] j ops[j] ho
      simp only [List.length_nil, Nat.zero_add] at hg
      rw [List.getD_eq_getElem?_getD, hg, Option.getD_some] at h
      obtain ⟨e, he, hb, h1⟩ := mask_bit h
      have hej := edgesOk_spec hok ho he hb
      rcases h1 with h1 | h1
      · omega
      · have := ih e.on hej i (by
          unfold ordered
          rw [List.getD_eq_getElem?_getD, List.getElem?_take, if_pos hej, ← List.getD_eq_getElem?_getD] at h1
          exact h1)
        omega
    · obtain ⟨l, hl, hll⟩ := befs_pre ops []
      rw [hl, List.nil_append, List.getD_eq_getElem?_getD, List.getElem?_eq_none (by omega)] at h
      simp at h

theorem looks_ev {C : Ctx} {all : Array Oper} {o : Oper} {s s' : AS} (h : ∀ t ∈ o.looksAt all, s'.tmps t = s.tmps t) : (∀ x ∈ o.op.operands, ev C s' x = ev C s x) ∧ callOf C s' o.op = callOf C s o.op := by
  have h1 : ∀ x ∈ o.op.operands, ev C s' x = ev C s x := by
    intro x hx
    refine ev_same fun t ht => h t ?_
    subst ht
    unfold Oper.looksAt
    exact List.mem_append_left _ (List.mem_filterMap.2 ⟨.tmp t, Array.mem_toList_iff.2 hx, rfl⟩)
  refine ⟨h1, ?_⟩
  obtain ⟨dst, op, type, pos, after, guard⟩ := o
  cases op <;> try rfl
  rename_i c
  obtain ⟨callee, args, ts⟩ := c
  cases callee <;> try rfl
  rename_i f
  simp only [callOf]
  simp only [Op.operands, Call.operands] at h1
  rw [h1 f (by simp)]
  have : args.toList.map (ev C s') = args.toList.map (ev C s) := List.map_congr_left fun x hx => h1 x (by simp [Array.mem_toList_iff.1 hx])
  rw [this]

theorem does_same {C : Ctx} {all : Array Oper} {fr : Nat} {o : Oper} {e : Eff} {rd : Foot} {s s' : AS} (hT : ∀ t ∈ o.looksAt all, s'.tmps t = s.tmps t) (hR : agrees rd s.objs s'.objs) (h : DoesG C all.toList fr o e rd s) : DoesG C all.toList fr o e rd s' := by
  have key : DoesOp C fr o e rd s → DoesOp C fr o e rd s' := by
    obtain ⟨h1, h2⟩ := looks_ev (C := C) hT
    rintro (⟨g1, g2, g3⟩ | ⟨f, args, g1, g3⟩)
    · obtain ⟨e1, e2⟩ := opEff_local (fr := fr) h1 (by rw [g3]; exact hR)
      exact .inl ⟨by rw [h2]; exact g1, by rw [e1]; exact g2, by rw [e2]; exact g3⟩
    · exact .inr ⟨f, args, by rw [h2]; exact g1, fun hs hh => g3 hs (hR.trans hh)⟩
  unfold DoesG at *
  split at h
  · exact key h
  · rename_i g want hg
    obtain ⟨d, b, h1, h2, h3, h4⟩ := h
    refine ⟨d, b, h1, ?_, fun hb => key (h3 hb), h4⟩
    rw [hT d ?_]
    · exact h2
    · unfold Oper.looksAt
      rw [hg]
      refine List.mem_append_right _ ?_
      have : (all[g]?).bind (·.dst) = some d := by rw [← Array.getElem?_toList]; exact h1
      simp [this]

theorem cnt_set : ∀ (l : List Bool) (i : Nat), l[i]? = some false → (l.set i true).count false + 1 = l.count false
  | [], i, h => by simp at h
  | b :: l, 0, h => by simp at h; subst h; simp
  | b :: l, i + 1, h => by
    simp at h
    have := cnt_set l i h
    cases b <;> simp <;> omega

end Go.AX
