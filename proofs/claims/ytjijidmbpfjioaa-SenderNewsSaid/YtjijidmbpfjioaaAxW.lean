/- A part of the proof: AxW. -/
import Derived.Test.YtjijidmbpfjioaaAxV
namespace Go.AX

/-! ## Code, stepped through -/

def seqQ (K : AS → Prop) (Q : AExit → AS → Prop) : AExit → AS → Prop
  | .normal, s => K s
  | .exit j, s => Q (.exit j) s
  | .ret, s => Q .ret s

def blkQ (id : Nat) (Q : AExit → AS → Prop) : AExit → AS → Prop
  | .exit j, s => bif Nat.beq j id then Q .normal s else Q (.exit j) s
  | .normal, s => Q .normal s
  | .ret, s => Q .ret s

def loopQ (K : AS → Prop) (Q : AExit → AS → Prop) : AExit → AS → Prop
  | .normal, s => K s
  | .exit j, s => Q (.exit j) s
  | .ret, s => Q .ret s

section
variable {C : Ctx} {x y z : Code} {Q : AExit → AS → Prop} {s : AS}

theorem awp_mono {C : Ctx} : ∀ (c : Code) {Q Q' : AExit → AS → Prop} {s : AS}, awp C c Q s → (∀ e t, Q e t → Q' e t) → awp C c Q' s := by
  intro c
  induction c with
  | skip => intro Q Q' s h hq; exact hq _ _ h
  | label l => intro Q Q' s h hq; exact hq _ _ h
  | exit id => intro Q Q' s h hq; exact hq _ _ h
  | ret => intro Q Q' s h hq; exact hq _ _ h
  | goto l => intro Q Q' s h hq; exact h.elim
  | refuse why => intro Q Q' s h hq; exact h.elim
  | scope c ih => intro Q Q' s h hq; exact h.elim
  | rangeFunc f ps x y ih1 ih2 => intro Q Q' s h hq; exact h.elim
  | region id ops draw =>
    intro Q Q' s h hq
    have hst : ∀ {all : List Oper} {base : Nat} (l : List Oper) (i : Nat) (s : AS), seqW C all base i l s (Q .normal) → seqW C all base i l s (Q' .normal) := by
      intro all base l
      induction l with
      | nil => intro i s h; exact hq _ _ h
      | cons o rest ih =>
        intro i s h
        have step : ∀ {s : AS}, (stepW C s (base + i) o fun s' => seqW C all base (i + 1) rest s' (Q .normal)) → stepW C s (base + i) o fun s' => seqW C all base (i + 1) rest s' (Q' .normal) := by
          intro s h
          unfold stepW at h ⊢
          split at h
          · rcases h with ⟨R, h1, h2⟩ | ⟨e, h1, h2⟩
            · exact .inl ⟨R, h1, fun r hs hr => ih _ _ (h2 r hs hr)⟩
            · exact .inr ⟨e, h1, ih _ _ h2⟩
          · split at h
            · exact ih _ _ h
            · exact h.elim
        simp only [seqW] at h ⊢
        split at h
        · rename_i hg
          exact step h
        · rename_i g want hg
          split at h
          · rename_i d hd
            first | rw [hd] | skip
            obtain ⟨x, h1, h2, h3⟩ := h
            exact ⟨x, h1, fun hh => step (h2 hh), fun hh => ih _ _ (h3 hh)⟩
          · exact h.elim
    have hdr : ∀ {all : List Oper} {base : Nat} (l : List Oper) (i : Nat) (s : AS) (acc : List Print), drawW C all base i l s acc (Q .normal) → drawW C all base i l s acc (Q' .normal) := by
      intro all base l
      induction l with
      | nil => intro i s acc h; exact ⟨h.1, hq _ _ h.2⟩
      | cons o rest ih =>
        intro i s acc h
        have step : ∀ {s : AS}, (match callOf C s o.op with
            | some (f, args) => ∃ e rd, ECall C f args s.objs rd (base + i) e ∧ drawW C all base (i + 1) rest (s.apply o.dst (base + i) e) (addP (i, rd, wrOf (base + i) e.act) acc) (Q .normal)
            | none => match opEff C s (base + i) o.op with
              | some e => drawW C all base (i + 1) rest (s.apply o.dst (base + i) e) (addP (i, rdOf C s o.op, wrOf (base + i) e.act) acc) (Q .normal)
              | none => False) → (match callOf C s o.op with
            | some (f, args) => ∃ e rd, ECall C f args s.objs rd (base + i) e ∧ drawW C all base (i + 1) rest (s.apply o.dst (base + i) e) (addP (i, rd, wrOf (base + i) e.act) acc) (Q' .normal)
            | none => match opEff C s (base + i) o.op with
              | some e => drawW C all base (i + 1) rest (s.apply o.dst (base + i) e) (addP (i, rdOf C s o.op, wrOf (base + i) e.act) acc) (Q' .normal)
              | none => False) := by
          intro s h
          split at h
          · rename_i f args hc
            obtain ⟨r, rd, h1, h2⟩ := h
            exact ⟨r, rd, h1, ih _ _ _ h2⟩
          · split at h
            · exact ih _ _ _ h
            · exact h.elim
        simp only [drawW] at h ⊢
        split at h
        · rename_i hg
          exact step h
        · rename_i g want hg
          split at h
          · rename_i d hd
            first | rw [hd] | skip
            obtain ⟨x, h1, h2, h3⟩ := h
            exact ⟨x, h1, fun hh => step (h2 hh), fun hh => ih _ _ _ (h3 hh)⟩
          · exact h.elim
    cases draw with
    | false => exact hst _ _ _ h
    | true => exact hdr _ _ _ _ h
  | seq a b iha ihb =>
    intro Q Q' s h hq
    refine iha h ?_
    intro e t ht
    cases e with
    | normal => obtain ⟨u, h1, h2⟩ := ht; exact ⟨u, h1, ihb h2 hq⟩
    | exit j => exact hq _ _ ht
    | ret => exact hq _ _ ht
  | cond c a b iha ihb =>
    intro Q Q' s h hq
    simp only [awp] at h ⊢
    split at h
    · exact ⟨fun hb => iha (h.1 hb) hq, fun hb => ihb (h.2 hb) hq⟩
    · exact h.elim
  | block id c ih =>
    intro Q Q' s h hq
    refine ih h ?_
    intro e t ht
    cases e with
    | normal => exact hq _ _ ht
    | ret => exact hq _ _ ht
    | exit j =>
      simp only at ht ⊢
      split at ht
      · rename_i hj; rw [if_pos hj]; exact hq _ _ ht
      · rename_i hj; rw [if_neg hj]; exact hq _ _ ht
  | loop c ih =>
    intro Q Q' s h hq
    obtain ⟨I, μ, h0, h1⟩ := h
    refine ⟨I, μ, h0, fun t ht => ih (h1 t ht) ?_⟩
    intro e t' ht'
    cases e with
    | normal => exact ht'
    | exit j => exact hq _ _ ht'
    | ret => exact hq _ _ ht'

/-- A sequence; what is known may be weakened in between. -/
theorem awp_seqW (h : awp C x (seqQ (fun t => ∃ u, Wk C t u ∧ awp C y Q u) Q) s) : awp C (.seq x y) Q s := by
  refine awp_mono x h ?_
  intro e t ht
  cases e <;> exact ht

theorem awp_seq (h : awp C x (seqQ (awp C y Q) Q) s) : awp C (.seq x y) Q s := by
  refine awp_mono x h ?_
  intro e t ht
  cases e
  · exact ⟨t, Wk.refl _ _, ht⟩
  · exact ht
  · exact ht

theorem seq_inv (h : awp C (.seq x y) Q s) : awp C x (seqQ (fun t => ∃ u, Wk C t u ∧ awp C y Q u) Q) s := by
  refine awp_mono x h ?_
  intro e t ht
  cases e <;> exact ht

theorem awp_assoc (h : awp C (.seq x (.seq y z)) Q s) : awp C (.seq (.seq x y) z) Q s := by
  refine awp_mono (.seq x y) (Q := seqQ (fun t => ∃ u, Wk C t u ∧ awp C z Q u) Q) (awp_seqW (awp_mono x (seq_inv h) ?_)) ?_
  · intro e t ht
    cases e with
    | normal => obtain ⟨u, h1, h2⟩ := ht; exact ⟨u, h1, seq_inv h2⟩
    | exit j => exact ht
    | ret => exact ht
  · intro e t ht
    cases e <;> exact ht

/-- A region, then the rest. -/
theorem awp_reg {id : Nat} {ops : Array Oper} {draw : Bool} (h : ∀ K : AS → Prop, (∀ t, awp C y Q t → K t) → xw draw C (ops.toList.map (·.dst)) s.next 0 ops.toList { s with next := s.next + ops.size } K) : awp C (.seq (.region id ops draw) y) Q s :=
  awp_seq (awp_region (h _ fun _ ht => ht))

theorem awp_reg1 {id : Nat} {ops : Array Oper} {draw : Bool} (h : ∀ K : AS → Prop, (∀ t, Q .normal t → K t) → xw draw C (ops.toList.map (·.dst)) s.next 0 ops.toList { s with next := s.next + ops.size } K) : awp C (.region id ops draw) Q s :=
  awp_region (h _ fun _ ht => ht)

theorem awp_skip (h : awp C y Q s) : awp C (.seq .skip y) Q s := ⟨s, Wk.refl _ _, h⟩
theorem awp_skip1 (h : Q .normal s) : awp C .skip Q s := h
theorem awp_ret (h : Q .ret s) : awp C (.seq .ret y) Q s := awp_seq h
theorem awp_ret1 (h : Q .ret s) : awp C .ret Q s := h
theorem awp_exit {id : Nat} (h : Q (.exit id) s) : awp C (.seq (.exit id) y) Q s := awp_seq h
theorem awp_exit1 {id : Nat} (h : Q (.exit id) s) : awp C (.exit id) Q s := h

theorem awp_cond1 {c : Operand} {b : Bool} (hc : ev C s c = .v (.bool b)) (h1 : b = true → awp C x Q s) (h2 : b = false → awp C y Q s) : awp C (.cond c x y) Q s := by
  simp only [awp, hc]
  exact ⟨h1, h2⟩

theorem awp_cond {c : Operand} {b : Bool} (hc : ev C s c = .v (.bool b)) (h1 : b = true → awp C (.seq x z) Q s) (h2 : b = false → awp C (.seq y z) Q s) : awp C (.seq (.cond c x y) z) Q s :=
  awp_seqW (awp_cond1 hc (fun hb => seq_inv (h1 hb)) fun hb => seq_inv (h2 hb))

theorem awp_block1 {id : Nat} (h : awp C x (blkQ id Q) s) : awp C (.block id x) Q s := by
  refine awp_mono x h ?_
  intro e t ht
  cases e with
  | normal => exact ht
  | ret => exact ht
  | exit j =>
    simp only [blkQ] at ht
    by_cases hj : j = id
    · subst hj
      simp only [if_true]
      simpa using ht
    · simp only [if_neg hj]
      have : Nat.beq j id = false := Bool.eq_false_iff.2 fun hh => hj (Nat.eq_of_beq_eq_true hh)
      simpa [this] using ht

theorem awp_block {id : Nat} (h : awp C x (blkQ id (seqQ (awp C y Q) Q)) s) : awp C (.seq (.block id x) y) Q s := awp_seq (awp_block1 h)

theorem awp_loopK1 (I : AS → Prop) (μ : AS → Nat) (h0 : ∃ s0, Wk C s s0 ∧ I s0) (h : ∀ t, I t → awp C x (loopQ (fun t' => ∃ t'', Wk C t' t'' ∧ I t'' ∧ μ t'' < μ t) Q) t) : awp C (.loop x) Q s := by
  refine ⟨I, μ, h0, fun t ht => ?_⟩
  refine awp_mono x (h t ht) ?_
  intro e t' ht'
  cases e <;> exact ht'

theorem awp_loop1 (I : AS → Prop) (μ : AS → Nat) (h0 : I s) (h : ∀ t, I t → awp C x (loopQ (fun t' => I t' ∧ μ t' < μ t) Q) t) : awp C (.loop x) Q s := by
  refine awp_loopK1 I μ ⟨s, Wk.refl _ _, h0⟩ fun t ht => awp_mono x (h t ht) ?_
  intro e t' ht'
  cases e with
  | normal => exact ⟨t', Wk.refl _ _, ht'⟩
  | exit j => exact ht'
  | ret => exact ht'

theorem awp_loop (I : AS → Prop) (μ : AS → Nat) (h0 : I s) (h : ∀ t, I t → awp C x (loopQ (fun t' => I t' ∧ μ t' < μ t) (seqQ (awp C y Q) Q)) t) : awp C (.seq (.loop x) y) Q s := awp_seq (awp_loop1 I μ h0 h)

theorem end_ret {fn : Func} {R : AV → HS → Prop} {rs : Array ResultVar} {r : AV} (hrs : fn.results = rs) (h : resV C s rs.toList = some r) (hr : R r s.toHS) : endQ C fn R .ret s := ⟨r, by rw [hrs]; exact h, hr⟩
theorem end_normal {fn : Func} {R : AV → HS → Prop} {rs : Array ResultVar} {r : AV} (hrs : fn.results = rs) (h : resV C s rs.toList = some r) (hr : R r s.toHS) : endQ C fn R .normal s := ⟨r, by rw [hrs]; exact h, hr⟩

theorem seqQ_n {K : AS → Prop} : seqQ K Q .normal s = K s := rfl
theorem seqQ_e {K : AS → Prop} {j : Nat} : seqQ K Q (.exit j) s = Q (.exit j) s := rfl
theorem seqQ_r {K : AS → Prop} : seqQ K Q .ret s = Q .ret s := rfl
theorem loopQ_n {K : AS → Prop} : loopQ K Q .normal s = K s := rfl
theorem loopQ_e {K : AS → Prop} {j : Nat} : loopQ K Q (.exit j) s = Q (.exit j) s := rfl
theorem loopQ_r {K : AS → Prop} : loopQ K Q .ret s = Q .ret s := rfl
theorem blkQ_n {id : Nat} : blkQ id Q .normal s = Q .normal s := rfl
theorem blkQ_r {id : Nat} : blkQ id Q .ret s = Q .ret s := rfl
theorem blkQ_e {id : Nat} : blkQ id Q (.exit id) s = Q .normal s := by simp [blkQ]
theorem blkQ_o {id j : Nat} (h : Nat.beq j id = false) : blkQ id Q (.exit j) s = Q (.exit j) s := by simp [blkQ, h]

end

end Go.AX
