/- A part of the proof: AxK. -/
import Derived.Test.YtjijidmbpfjioaaAxJ
import Derived.Laws.Cover3
namespace Go.AX

/-- What the program's tables must say for the abstract operations to be sound. -/
structure COk (C : Ctx) : Prop where
  eq : EqOk C
  mixed : C.P.follows .mixedOrders = true

section
variable {C : Ctx} {ρ : Rho} {V : View} {s : AS} {w : World} {fr : Nat}

theorem op_copy {t u : Nat} {ty : TypeId} {x y : AV} {q r : Value} {e : Eff} (hI : Inv ρ V s.toHS w) (hq : Rel ρ V x q) (hr : Rel ρ V y r) (h : copyE C.P s t x y = some e) :
    OpRun ρ V s w fr ((do pure (.value (← Builtin.copy_ #[t, u] ty #[q, r])) : Sem Next).run C.P w) e := by
  unfold copyE at h
  split at h
  · rename_i el he
    split at h
    · rename_i sz hsz
      split at h
      · rename_i xs k hsrc
        obtain ⟨ys, hv, hxl, hfc, hlen⟩ := srcOf_rel hI hr hsrc
        cases hq <;> (try simp only at h) <;> try (cases h; done)
        case ref id off len sz' cap loc hρ hc hl =>
          cases ho : s.objs id with
          | dead => simp [ho] at h
          | froz _ => simp [ho] at h
          | live cells =>
            simp only [ho] at h
            split at h
            · rename_i hcond
              obtain ⟨rfl, hle⟩ := hcond
              cases h
              have hfc0 := hfc (min k len) (Nat.min_le_left _ _) C.P w fun _ _ _ _ h => h
              have hv' := hv.take (min k len * sz')
              have hmk : min k len * sz' ≤ k * sz' := Nat.mul_le_mul_right _ (Nat.min_le_left _ _)
              have hxl' : (xs.take (min k len * sz')).length = min k len * sz' := by simp; omega
              obtain ⟨cur, T, h1, h2, h3⟩ := did_wr (fr := fr) (x := .v (.int .i64 (min k len : Nat))) (y := .int .i64 (min k len : Nat)) hI ho hρ (by rw [hxl']; exact hle) hv' (.v _)
              have hst := run_storeCells_at C.P loc.b (loc.base + off) T (ys.take (min k len * sz')) 0 cur w h1 (by simpa using h2) fun v hvv => sto_one (hv'.sto v hvv)
              simp only [Nat.add_zero] at hst
              refine ⟨_, ρ, _, .inl (runAndThenValue ?_), h3⟩
              have hm : Nat.min k len = min k len := rfl
              simp [Builtin.copy_, run_underlying (elS_eq he), hlen, szOf_run hsz, hm, hfc0, hst, goInt]
            · cases h
        case refE id off sz' a =>
          cases ho : s.objs id with
          | dead => simp [ho] at h
          | froz _ => simp [ho] at h
          | live cells =>
            simp only [ho] at h
            split at h
            · rename_i hcond
              obtain ⟨rfl, hle⟩ := hcond
              cases h
              simp only [Nat.min_zero, Nat.zero_mul, List.take_zero]
              have hfc0 := hfc 0 (Nat.zero_le _) C.P w fun _ _ _ _ h => h
              have hobj : doAct fr (.wr id off []) s.objs = s.objs := by
                simp only [doAct, ho]
                funext j
                by_cases hj : j = id
                · subst hj; rw [upd_eq, ho]; simp [putAt]
                · rw [upd_ne _ _ hj]
              refine ⟨.int .i64 (0 : Nat), ρ, w, .inl (runAndThenValue ?_), .v _, by rw [hobj]; exact hI, fun _ _ h => h, fun _ _ => rfl, Nat.le_refl _, fun _ _ _ => rfl, fun b hb => by rw [hobj] at hb; exact .inl hb, Mem.refl _⟩
              simp only [Nat.zero_mul, List.take_zero] at hfc0
              cases a <;> simp [Builtin.copy_, run_underlying (elS_eq he), hlen, szOf_run hsz, hfc0, goInt, storeCells]
            · cases h
      · cases h
    · cases h
  · cases h

theorem isBl_eq {P : Program} {t : Nat} (h : isBl P t = true) : P.underlying t = some .bool := by
  unfold isBl at h
  split at h
  · assumption
  · cases h

theorem nilB_sound {P : Program} {t e : Nat} {x : AV} {q : Value} {b : Bool} (hq : Rel ρ V x q) (hu : P.underlying t = some (.slice e)) (h : nilB x = some b) :
    ∃ a n c, q = .slice a n c ∧ (Op.equal t q (.slice none 0 0)).run P w = .ok b w := by
  have key : ∀ a n c, (Op.equal t (.slice a n c) (.slice none 0 0)).run P w = .ok a.isNone w := fun a n c => run_equal_slice_nil w t e a n c hu
  unfold nilB at h
  split at h
  · cases h
    cases hq
    exact ⟨_, _, _, rfl, key _ _ _⟩
  · cases h
    cases hq with
    | imm => exact ⟨_, _, _, rfl, key _ _ _⟩
  · cases h
    cases hq with
    | ref => exact ⟨_, _, _, rfl, key _ _ _⟩
  · cases h

theorem eqB_sound (hC : COk C) {t : Nat} {x y : AV} {q r : Value} {b : Bool} (hq : Rel ρ V x q) (hr : Rel ρ V y r) (h : eqB C t x y = some b) (X Y : Operand) :
    ((do eqGuard .eql t X Y q r; binOp .eql t q r) : Sem Value).run C.P w = .ok (.bool b) w ∧ ((do eqGuard .neq t X Y q r; binOp .neq t q r) : Sem Value).run C.P w = .ok (.bool (!b)) w := by
  unfold eqB at h
  split at h
  · rename_i a b'
    split at h
    · rename_i hb
      cases h
      cases hq; cases hr
      have h1 := run_eql_bool w t a b' (isBl_eq hb)
      have h2 := run_neq_bool w t a b' (isBl_eq hb)
      constructor
      · simp only [eqGuard]; simpa using h1
      · simp only [eqGuard]; simpa using h2
    · cases h
  · rename_i xs ys
    split at h
    · rename_i ks hks
      split at h
      · rename_i hk
        cases h
        simp only [Bool.and_eq_true] at hk
        obtain ⟨zs, rfl, hz1, hz2⟩ := Rel.agg_iff.1 hq
        obtain ⟨zs', rfl, hz1', hz2'⟩ := Rel.agg_iff.1 hr
        have e1 := kindsOk_rel hk.1 hz1 hz2
        have e2 := kindsOk_rel hk.2 hz1' hz2'
        obtain ⟨hg, hrun⟩ := hC.eq t ks hks
        have hrun' := hrun xs ys hk.1 hk.2 w
        rw [← e1, ← e2] at hrun'
        have hb : ∀ op, binOp op t (.agg zs) (.agg zs') = (match op with | .eql => do pure (.bool (← Op.equal t (.agg zs) (.agg zs'))) | .neq => do pure (.bool (!(← Op.equal t (.agg zs) (.agg zs')))) | op => binOp op t (.agg zs) (.agg zs')) := by
          intro op; cases op <;> rfl
        constructor
        · simp [eqGuard, hg, hb .eql, hrun']
        · simp [eqGuard, hg, hb .neq, hrun']
      · cases h
    · cases h
  · rename_i heq1 heq2
    split at h
    · rename_i hel
      obtain ⟨e, he⟩ := Option.isSome_iff_exists.1 hel
      cases hr
      obtain ⟨a, n, c, rfl, hn⟩ := nilB_sound (w := w) hq (elS_eq he) h
      constructor
      · simp only [eqGuard, binOp]; simp [hn]
      · simp only [eqGuard, binOp]; simp [hn]
    · cases h
  · cases h

theorem op_binOp (hC : COk C) {op : BinOp} {t : Nat} {x y : AV} {q r : Value} {v : AV} (hI : Inv ρ V s.toHS w) (hq : Rel ρ V x q) (hr : Rel ρ V y r) (h : bopE C op t x y = some v) (X Y : Operand) :
    OpRun ρ V s w fr ((do pure (.value (← (do eqGuard op t X Y q r; binOp op t q r : Sem Value))) : Sem Next).run C.P w) ⟨v, .none⟩ := by
  have hint : ∀ k a, q = .int k a → ∀ k' b, r = .int k' b → ∀ res, iop op k a k' b = some res → v = .v res → OpRun ρ V s w fr ((do pure (.value (← (do eqGuard op t X Y q r; binOp op t q r : Sem Value))) : Sem Next).run C.P w) ⟨v, .none⟩ := by
    intro k a hqe k' b hre res hiop hv
    subst hqe; subst hre; subst hv
    refine OpRun.val hI (runAndThenValue (y := res) ?_) (.v _)
    have h1 := iop_sound hiop t w (P := C.P)
    have hg : (eqGuard op t X Y (.int k a) (.int k' b)).run C.P w = .ok () w := by
      unfold eqGuard
      cases op <;> rfl
    simp [hg, h1]
  have hoth : ∀ b, eqB C t x y = some b → (op = .eql ∧ v = .v (.bool b) ∨ op = .neq ∧ v = .v (.bool (!b))) → OpRun ρ V s w fr ((do pure (.value (← (do eqGuard op t X Y q r; binOp op t q r : Sem Value))) : Sem Next).run C.P w) ⟨v, .none⟩ := by
    intro b hb hv
    obtain ⟨h1, h2⟩ := eqB_sound (w := w) hC hq hr hb X Y
    rcases hv with ⟨rfl, rfl⟩ | ⟨rfl, rfl⟩
    · exact OpRun.val hI (runAndThenValue h1) (.v _)
    · exact OpRun.val hI (runAndThenValue h2) (.v _)
  unfold bopE at h
  split at h
  · rename_i k a k' b
    cases hq; cases hr
    simp only [Option.map_eq_some_iff] at h
    obtain ⟨res, h1, h2⟩ := h
    exact hint k a rfl k' b rfl res h1 h2.symm
  · split at h
    · simp only [Option.map_eq_some_iff] at h
      obtain ⟨b, h1, h2⟩ := h
      exact hoth b h1 (.inl ⟨rfl, h2.symm⟩)
    · simp only [Option.map_eq_some_iff] at h
      obtain ⟨b, h1, h2⟩ := h
      exact hoth b h1 (.inr ⟨rfl, h2.symm⟩)
    · cases h

end
end Go.AX
