/- A part of the proof: AxR. -/
import Derived.Test.YtjijidmbpfjioaaAxQ
import Derived.Deep.LoopGhost
namespace Go.AX

inductive AExit where
  | normal
  | exit (id : Nat)
  | ret
  deriving DecidableEq

/-- What is known of a state, weakened. -/
def Wk (C : Ctx) (s t : AS) : Prop := ∀ (N : Nat) (B : Base) (a : Act) (w : World), GS C N B (fun _ => False) s a w → GS C N B (fun _ => False) t a w

theorem Wk.refl (C : Ctx) (s : AS) : Wk C s s := fun _ _ _ _ h => h
theorem Wk.trans {C : Ctx} {s t u : AS} (h : Wk C s t) (h' : Wk C t u) : Wk C s u := fun N B a w hg => h' N B a w (h N B a w hg)

def awp (C : Ctx) : Code → (AExit → AS → Prop) → AS → Prop
  | .skip, Q, s => Q .normal s
  | .label _, Q, s => Q .normal s
  | .region _ ops draw, Q, s => match draw with
    | false => seqW C ops.toList s.next 0 ops.toList { s with next := s.next + ops.size } (Q .normal)
    | true => drawW C ops.toList s.next 0 ops.toList { s with next := s.next + ops.size } [] (Q .normal)
  | .seq x y, Q, s => awp C x (fun e s' => match e with
    | .normal => ∃ t, Wk C s' t ∧ awp C y Q t
    | e => Q e s') s
  | .cond c x y, Q, s => match ev C s c with
    | .v (.bool b) => (b = true → awp C x Q s) ∧ (b = false → awp C y Q s)
    | _ => False
  | .block id c, Q, s => awp C c (fun e s' => match e with
    | .exit j => if j = id then Q .normal s' else Q (.exit j) s'
    | e => Q e s') s
  | .loop c, Q, s => ∃ (I : AS → Prop) (μ : AS → Nat), (∃ s0, Wk C s s0 ∧ I s0) ∧ ∀ t, I t → awp C c (fun e s' => match e with
    | .normal => ∃ t', Wk C s' t' ∧ I t' ∧ μ t' < μ t
    | e => Q e s') t
  | .exit id, Q, s => Q (.exit id) s
  | .ret, Q, s => Q .ret s
  | _, _, _ => False

def stOk (N : Nat) : Code → Bool
  | .region _ ops draw => (ops.all fun o => match o.dst with | some d => decide (d < N) | none => true) && (!draw || (edgesOk ops.toList && tmpsOk ops.toList))
  | .seq a b => stOk N a && stOk N b
  | .cond _ a b => stOk N a && stOk N b
  | .block _ c => stOk N c
  | .loop c => stOk N c
  | _ => true

def AQ (C : Ctx) (N : Nat) (B : Base) (Q : AExit → AS → Prop) : Exit → Act → World → Prop
  | .normal, a, w => ∃ s, Q .normal s ∧ GS C N B (fun _ => False) s a w
  | .exit id, a, w => ∃ s, Q (.exit id) s ∧ GS C N B (fun _ => False) s a w
  | .ret, a, w => ∃ s, Q .ret s ∧ GS C N B (fun _ => False) s a w
  | _, _, _ => False

theorem GS.bump {C : Ctx} {N : Nat} {B : Base} {s : AS} {a : Act} {w w' : World} (n : Nat) (h : GS C N B (fun _ => False) s a w) (hw : w'.heap = w.heap) (ho1 : w'.os = w.os) (ho2 : w'.output = w.output) :
    GS C N B (fun id => s.next ≤ id ∧ id < s.next + n) { s with next := s.next + n } a w' ∧ B.s.next ≤ s.next := by
  obtain ⟨ρ, V, h1, h2, h3, h4, h5, h6, _⟩ := h
  refine ⟨⟨ρ, V, h1, ?_, h3, ?_, h5, h6, fun id hid => h2.fresh id hid.1⟩, h4.next⟩
  · exact ⟨by rw [hw]; exact h2.view, fun id hid => h2.fresh id (Nat.le_trans (Nat.le_add_right _ _) hid), by rw [hw]; exact h2.live, h2.froz, h2.inj⟩
  · exact ⟨h4.rho, h4.old, Nat.le_trans h4.next (Nat.le_add_right _ _), h4.view, by rw [hw]; exact h4.size, by rw [hw]; exact h4.keep, h4.own, h4.vnew, h4.mem.trans (Mem.of_heap ho1 ho2 hw)⟩

theorem dst_of_st {N : Nat} {ops : Array Oper} (h : (ops.all fun o => match o.dst with | some d => decide (d < N) | none => true) = true) : ∀ o ∈ ops, ∀ d, o.dst = some d → d < N := by
  intro o ho d hd
  have := Array.all_eq_true_iff_forall_mem.1 h o ho
  rw [hd] at this
  simpa using this

theorem awp_sound {C : Ctx} (hC : COk C) {N : Nat} {B : Base} : ∀ (c : Code) (Q : AExit → AS → Prop) (s : AS) (a : Act) (w : World), stOk N c = true → awp C c Q s → GS C N B (fun _ => False) s a w → c.wp C.P (AQ C N B Q) a w := by
  intro c
  induction c with
  | skip => intro Q s a w _ h hg; exact wp_skip ⟨s, h, hg⟩
  | label l => intro Q s a w _ h hg; exact wp_label ⟨s, h, hg⟩
  | exit id => intro Q s a w _ h hg; exact wp_exit ⟨s, h, hg⟩
  | ret => intro Q s a w _ h hg; exact wp_ret ⟨s, h, hg⟩
  | goto l => intro Q s a w _ h hg; exact h.elim
  | refuse why => intro Q s a w _ h hg; exact h.elim
  | scope c ih => intro Q s a w _ h hg; exact h.elim
  | rangeFunc f ps x y ih1 ih2 => intro Q s a w _ h hg; exact h.elim
  | region id ops draw =>
    intro Q s a w hst h hg
    simp only [stOk, Bool.and_eq_true] at hst
    have hd := dst_of_st hst.1
    cases draw with
    | false =>
      obtain ⟨hb, hB⟩ := hg.bump (w' := w) ops.size rfl rfl rfl
      have := seqW_sound hC (Q := AQ C N B Q) hB hd (K := Q .normal) (fun s' a' w' hk hg' => ⟨s', hk, hg'⟩) ops.toList 0 _ a w rfl (Nat.le_refl _) (by simpa using hb) h
      exact wp_region (by simpa using this)
    | true =>
      have hst2 := hst.2
      simp only [Bool.not_true, Bool.false_or, Bool.and_eq_true] at hst2
      obtain ⟨hb, hB⟩ := hg.bump (w' := { w with drawn := w.drawn + 1 }) ops.size rfl rfl rfl
      exact wp_region_any hC.mixed (drawW_sound hC (Q := AQ C N B Q) hB hd hst2.1 hst2.2 (K := Q .normal) (fun s' a' w' hk hg' => ⟨s', hk, hg'⟩) (Nat.le_refl _) hb h)
  | seq x y ih1 ih2 =>
    intro Q s a w hst h hg
    simp only [stOk, Bool.and_eq_true] at hst
    refine wp_seq (wp_mono (ih1 _ s a w hst.1 h hg) ?_)
    intro e a' w' hq
    cases e with
    | normal =>
      obtain ⟨s', ⟨t, hwk, hk⟩, hg'⟩ := hq
      exact ih2 Q t a' w' hst.2 hk (hwk _ _ _ _ hg')
    | exit id => exact hq
    | ret => exact hq
    | goto l => exact hq
    | panic ch => exact hq
    | outgrown => exact hq
  | cond c x y ih1 ih2 =>
    intro Q s a w hst h hg
    simp only [stOk, Bool.and_eq_true] at hst
    have h' : ∃ b, ev C s c = .v (.bool b) ∧ (b = true → awp C x Q s) ∧ (b = false → awp C y Q s) := by
      simp only [awp] at h
      split at h
      · rename_i b hb; exact ⟨b, hb, h⟩
      · exact h.elim
    obtain ⟨b, hb, h1, h2⟩ := h'
    obtain ⟨ρ, V, k1, k2, k3, k4, k5, k6, k7⟩ := hg
    have hev := ev_rel k1 k3 c
    rw [hb] at hev
    refine wp_cond_split (t := b) (Rel.v_inv hev) (fun hbt => ih1 Q s a w hst.1 (h1 hbt) ⟨ρ, V, k1, k2, k3, k4, k5, k6, k7⟩) (fun hbf => ih2 Q s a w hst.2 (h2 hbf) ⟨ρ, V, k1, k2, k3, k4, k5, k6, k7⟩)
  | block id c ih =>
    intro Q s a w hst h hg
    refine wp_block (wp_mono (ih _ s a w hst h hg) ?_)
    intro e a' w' hq
    cases e with
    | normal => exact hq
    | exit j =>
      obtain ⟨s', hk, hg'⟩ := hq
      simp only [Exit.inBlock]
      by_cases hj : j = id
      · simp only [hj, if_true] at hk ⊢
        exact ⟨s', hk, hg'⟩
      · simp only [hj, if_false] at hk ⊢
        exact ⟨s', hk, hg'⟩
    | ret => exact hq
    | goto l => exact hq
    | panic ch => exact hq
    | outgrown => exact hq
  | loop c ih =>
    intro Q s a w hst h hg
    obtain ⟨I, μ, ⟨s0, hwk0, h0⟩, hround⟩ := h
    refine wp_loop_ghost (fun n a w => ∃ t, μ t = n ∧ I t ∧ GS C N B (fun _ => False) t a w) (μ s0) ⟨s0, rfl, h0, hwk0 _ _ _ _ hg⟩ ?_
    rintro n a w ⟨t, rfl, hI, hg⟩
    refine wp_mono (ih _ t a w hst (hround t hI) hg) ?_
    intro e a' w' hq
    cases e with
    | normal =>
      obtain ⟨s', ⟨t', hwk, hk, hm⟩, hg'⟩ := hq
      exact ⟨μ t', hm, t', rfl, hk, hwk _ _ _ _ hg'⟩
    | exit id => exact hq
    | ret => exact hq
    | goto l => exact hq
    | panic ch => exact hq
    | outgrown => exact hq

/-! ## A function -/

def resOf (C : Ctx) (s : AS) : ResultVar → Option AV
  | .tmp t => some (s.tmps t)
  | .cell a t => match cellsAt s (s.tmps a) with
    | some (cells, off) => part? C.P t cells off
    | none => none

def resAll (C : Ctx) (s : AS) : List ResultVar → Option (List AV)
  | [] => some []
  | r :: rs => match resOf C s r, resAll C s rs with
    | some x, some xs => some (x :: xs)
    | _, _ => none

def packR : List AV → AV
  | [x] => x
  | xs => .tup xs

def resV (C : Ctx) (s : AS) (rs : List ResultVar) : Option AV := (resAll C s rs).map packR

def init (args : List AV) (s : HS) : AS := { s with tmps := fun t => args.getD t (.v undef) }

/-- What is asked where the body ends. -/
def endQ (C : Ctx) (fn : Func) (Q : AV → HS → Prop) : AExit → AS → Prop
  | .normal, s => ∃ r, resV C s fn.results.toList = some r ∧ Q r s.toHS
  | .ret, s => ∃ r, resV C s fn.results.toList = some r ∧ Q r s.toHS
  | .exit _, _ => False

theorem results_run {C : Ctx} {ρ : Rho} {V : View} {s : AS} {tmps : Array Value} {w : World} {fn : Func} {r : AV} (hT : ∀ t, Rel ρ V (s.tmps t) (tmps.getD t undef)) (hI : Inv ρ V s.toHS w) (h : resV C s fn.results.toList = some r) :
    ∃ y, (results fn tmps).run C.P w = .ok y w ∧ Rel ρ V r y := by
  have one : ∀ rv x, resOf C s rv = some x → ∃ y, ((match rv with | .tmp t => pure (tmps.getD t undef) | .cell a t => do loadVar t (← asAddr (tmps.getD a undef))) : Sem Value).run C.P w = .ok y w ∧ Rel ρ V x y := by
    intro rv x hx
    cases rv with
    | tmp t => simp only [resOf, Option.some.injEq] at hx; subst hx; exact ⟨_, rfl, hT t⟩
    | cell a t =>
      simp only [resOf] at hx
      cases hc : cellsAt s (s.tmps a) with
      | none => simp [hc] at hx
      | some p =>
        obtain ⟨cells, off⟩ := p
        simp only [hc] at hx
        obtain ⟨b, base, c, T, fz, hy, hh, hrc⟩ := cellsAt_rel hI (hT a) hc
        obtain ⟨y, h1, h2⟩ := part_load (P := C.P) hh hrc hx
        refine ⟨y, ?_, h2⟩
        simp only [Sem.run_bind]
        rw [hy]
        simp [asAddr, h1]
  have all : ∀ (rs : List ResultVar) (xs : List AV), resAll C s rs = some xs → ∃ ys : List Value, (rs.mapM (fun rv => (match rv with | .tmp t => pure (tmps.getD t undef) | .cell a t => do loadVar t (← asAddr (tmps.getD a undef)) : Sem Value))).run C.P w = .ok ys w ∧
      ys.length = xs.length ∧ ∀ (i : Nat) x y, xs[i]? = some x → ys[i]? = some y → Rel ρ V x y := by
    intro rs
    induction rs with
    | nil => intro xs h; simp only [resAll, Option.some.injEq] at h; subst h; exact ⟨[], rfl, rfl, fun i x y hx => by simp at hx⟩
    | cons rv rs ih =>
      intro xs h
      simp only [resAll] at h
      cases hx : resOf C s rv with
      | none => simp [hx] at h
      | some x =>
        cases hxs : resAll C s rs with
        | none => simp [hx, hxs] at h
        | some xs' =>
          simp only [hx, hxs, Option.some.injEq] at h
          subst h
          obtain ⟨y, h1, h2⟩ := one rv x hx
          obtain ⟨ys, h3, h4, h5⟩ := ih xs' hxs
          refine ⟨y :: ys, ?_, by simp [h4], fun i a b ha hb => ?_⟩
          · rw [List.mapM_cons, Sem.run_bind, h1]
            simp only [Result.andThen_ok, Sem.run_bind, h3, Sem.run_pure]
          · cases i with
            | zero => simp at ha hb; subst ha; subst hb; exact h2
            | succ i => simp at ha hb; exact h5 i a b ha hb
  unfold resV at h
  cases hall : resAll C s fn.results.toList with
  | none => simp [hall] at h
  | some xs =>
    obtain ⟨ys, h1, h2, h3⟩ := all _ xs hall
    have hrun : (fn.results.mapM (fun rv => (match rv with | .tmp t => pure (tmps.getD t undef) | .cell a t => do loadVar t (← asAddr (tmps.getD a undef)) : Sem Value))).run C.P w = .ok ys.toArray w := by
      rw [← Array.toArray_toList (xs := fn.results), List.mapM_toArray, Sem.run_map, h1]; rfl
    have hunf : results fn tmps = (do let vs ← fn.results.mapM (fun rv => (match rv with | .tmp t => pure (tmps.getD t undef) | .cell a t => do loadVar t (← asAddr (tmps.getD a undef)) : Sem Value)); pure (if h : vs.size = 1 then vs[0] else .tuple vs)) := by
      unfold results
      congr
    have hres : (results fn tmps).run C.P w = .ok (if h : ys.toArray.size = 1 then ys.toArray[0] else .tuple ys.toArray) w := by
      rw [hunf, Sem.run_bind, hrun]; rfl
    rw [hall] at h
    simp only [Option.map_some, Option.some.injEq] at h
    subst h
    rw [hres]
    match xs, ys, h2, h3 with
    | [x], [y], _, h3 =>
      exact ⟨y, rfl, h3 0 x y rfl rfl⟩
    | [], [], _, h3 =>
      exact ⟨_, rfl, .tup _ _ rfl fun i x y hx => by simp at hx⟩
    | x1 :: x2 :: xs, y1 :: y2 :: ys, h2, h3 =>
      refine ⟨.tuple (y1 :: y2 :: ys).toArray, ?_, .tup _ _ (by simp at h2 ⊢; omega) fun i x y hx hy => h3 i x y hx (by simpa using hy)⟩
      rw [dif_neg]
      simp

theorem snd_of_awp {C : Ctx} (hC : COk C) {f : FuncId} {fn : Func} {c : Code} {args : List AV} {s : HS} {Q : AV → HS → Prop} (hf : C.P.funcs[f]? = some fn) (hb : fn.body = some c) (hn : (fn.name == "runtime.NumGoroutine") = false)
    (hst : stOk fn.ntmps c = true) (hargs : args.length ≤ fn.ntmps) (h : awp C c (endQ C fn Q) (init args s)) : Snd C f args s Q := by
  refine ⟨trivial, fun ρ V w args' h1 h2 h3 h4 => .inl ⟨⟨fn, hf, by rw [hb]; rfl, hn⟩, ?_⟩⟩
  refine calls_of_wp hf hb ?_
  let B : Base := ⟨ρ, V, s, w⟩
  have hg : GS C fn.ntmps B (fun _ => False) (init args s) { tmps := args' ++ Array.replicate (fn.ntmps - args'.size) undef, defers := [] } w := by
    refine ⟨ρ, V, fun t => ?_, h3, h4, Grew.refl _ _ _ _, by simp; omega, rfl, fun id hid => hid.elim⟩
    simp only [init, List.getD_eq_getElem?_getD]
    rw [Array.getD_eq_getD_getElem?, Array.getElem?_append]
    by_cases ht : t < args'.size
    · rw [if_pos ht]
      have ht' : t < args.length := by omega
      have e1 : args[t]? = some args[t] := by simp [ht']
      have e2 : args'[t]? = some args'[t] := by simp [ht]
      rw [e1, e2]
      exact h2 t _ _ e1 e2
    · rw [if_neg ht, List.getElem?_eq_none (by omega)]
      simp only [Option.getD_none]
      have : (Array.replicate (fn.ntmps - args'.size) undef)[t - args'.size]?.getD undef = undef := by
        by_cases h5 : t - args'.size < fn.ntmps - args'.size <;> simp [h5]
      rw [this]; exact .v _
  refine wp_mono (awp_sound hC c _ _ _ _ hst h hg) ?_
  intro e a' w' hq
  have fin : ∀ s', (∃ r, resV C s' fn.results.toList = some r ∧ Q r s'.toHS) → GS C fn.ntmps B (fun _ => False) s' a' w' → a'.defers = [] ∧ ∃ v, (results fn a'.tmps).run C.P w' = .ok v w' ∧
      ∃ y r s' ρ' V', Ending.returned v = .returned y ∧ Q r s' ∧ Rel ρ' V' r y ∧ Inv ρ' V' s' w' ∧ Grew ρ V s w ρ' V' s' w' := by
    rintro s' ⟨r, hr, hQ⟩ ⟨ρ', V', k1, k2, k3, k4, k5, k6, k7⟩
    obtain ⟨y, hy1, hy2⟩ := results_run k1 k2 hr
    exact ⟨k6, y, hy1, y, r, s'.toHS, ρ', V', rfl, hQ, hy2, k2, k4⟩
  cases e with
  | normal =>
    obtain ⟨s', hk, hg'⟩ := hq
    exact fin s' hk hg'
  | ret =>
    obtain ⟨s', hk, hg'⟩ := hq
    exact fin s' hk hg'
  | exit id =>
    obtain ⟨s', hk, hg'⟩ := hq
    exact hk.elim
  | goto l => exact hq.elim
  | panic ch => exact hq.elim
  | outgrown => exact hq.elim

end Go.AX
