/- A part of the proof: AxY. -/
import Derived.Test.YtjijidmbpfjioaaAxX
namespace Go.AX

/-! ## Runs that are reckoned -/

/-- The objects that 'fz' looks at. -/
def reach (objs : Nat → Ob) : Nat → AV → Foot
  | 0, _ => []
  | n + 1, .ref id _ _ _ => match objs id with
    | .live cells => (id, none) :: cells.flatMap (reach objs n)
    | .froz cells => (id, none) :: cells.flatMap (reach objs n)
    | .dead => [(id, none)]
  | n + 1, .ptr id _ => match objs id with
    | .live cells => (id, none) :: cells.flatMap (reach objs n)
    | .froz cells => (id, none) :: cells.flatMap (reach objs n)
    | .dead => [(id, none)]
  | n + 1, .agg cs => cs.flatMap (reach objs n)
  | n + 1, .tup cs => cs.flatMap (reach objs n)
  | n + 1, .imm cs _ => cs.flatMap (reach objs n)
  | n + 1, .iptr cs _ => cs.flatMap (reach objs n)
  | n + 1, .clo _ a b => a.flatMap (reach objs n) ++ b.flatMap (reach objs n)
  | _ + 1, .v _ => []
  | _ + 1, .unk => []

theorem agree_none {x y : Ob} (h : agree none x y) : y = x := by
  rcases h with h | ⟨off, n, c, c', h1, _⟩
  · exact h.symm
  · cases h1

theorem agrees_sub {f g : Foot} {x y : Nat → Ob} (h : agrees f x y) (hs : ∀ p ∈ g, p ∈ f) : agrees g x y := fun p hp => h p (hs p hp)

theorem fz_agree {objs objs' : Nat → Ob} : ∀ (n : Nat) (x : AV), agrees (reach objs n x) objs objs' → fz objs' n x = fz objs n x
  | 0, x, _ => rfl
  | n + 1, x, h => by
    have ih : ∀ cs : List AV, agrees (cs.flatMap (reach objs n)) objs objs' → cs.map (fz objs' n) = cs.map (fz objs n) := by
      intro cs hc
      refine List.map_congr_left fun c hcm => fz_agree n c (agrees_sub hc fun p hp => List.mem_flatMap.2 ⟨c, hcm, hp⟩)
    have ihs : ∀ (cs : List AV) (k m : Nat), agrees (cs.flatMap (reach objs n)) objs objs' → ((cs.drop k).take m).map (fz objs' n) = ((cs.drop k).take m).map (fz objs n) := by
      intro cs k m hc
      refine List.map_congr_left fun c hcm => fz_agree n c (agrees_sub hc fun p hp => List.mem_flatMap.2 ⟨c, List.mem_of_mem_drop (List.mem_of_mem_take hcm), hp⟩)
    cases x with
    | v x => rfl
    | unk => rfl
    | agg cs => simp only [fz]; rw [ih cs h]
    | tup cs => simp only [fz]; rw [ih cs h]
    | imm cs k => simp only [fz]; rw [ih cs h]
    | iptr cs k => simp only [fz]; rw [ih cs h]
    | clo f a b =>
      simp only [fz]
      rw [ih a (agrees_sub h fun p hp => by simp only [reach]; exact List.mem_append_left _ hp), ih b (agrees_sub h fun p hp => by simp only [reach]; exact List.mem_append_right _ hp)]
    | ref id off len sz =>
      cases ho : objs id with
      | dead =>
        have := agree_none (h (id, none) (by simp [reach, ho]))
        simp only [fz, this, ho]
      | live cells =>
        have := agree_none (h (id, none) (by simp [reach, ho]))
        simp only [fz, this, ho]
        rw [ihs cells off (len * sz) (agrees_sub h fun p hp => by simp only [reach, ho]; exact List.mem_cons_of_mem _ hp)]
      | froz cells =>
        have := agree_none (h (id, none) (by simp [reach, ho]))
        simp only [fz, this, ho]
        rw [ihs cells off (len * sz) (agrees_sub h fun p hp => by simp only [reach, ho]; exact List.mem_cons_of_mem _ hp)]
    | ptr id off =>
      cases ho : objs id with
      | dead =>
        have := agree_none (h (id, none) (by simp [reach, ho]))
        simp only [fz, this, ho]
      | live cells =>
        have := agree_none (h (id, none) (by simp [reach, ho]))
        simp only [fz, this, ho]
        rw [ih cells (agrees_sub h fun p hp => by simp only [reach, ho]; exact List.mem_cons_of_mem _ hp)]
      | froz cells =>
        have := agree_none (h (id, none) (by simp [reach, ho]))
        simp only [fz, this, ho]
        rw [ih cells (agrees_sub h fun p hp => by simp only [reach, ho]; exact List.mem_cons_of_mem _ hp)]

/-- What is lent, where the order is open. -/
theorem SndP.qlend {C : Ctx} {f : FuncId} {args : List AV} {r : AV} {objs : Nat → Ob} (h : SndP C f (args.map (fz objs deep)) r) (hb : Bare r) : QCall C f args objs (args.flatMap (reach objs deep)) r := by
  intro hs hag
  refine SndP.lend hs ?_ hb
  have : args.map (fz hs.objs deep) = args.map (fz objs deep) := List.map_congr_left fun c hc => fz_agree deep c (agrees_sub hag fun p hp => List.mem_flatMap.2 ⟨c, hc, hp⟩)
  rw [this]; exact h

theorem xcall_q {C : Ctx} {d : Bool} {fr : Nat} {f : FuncId} {args : List AV} {s : HS} {k : AV → HS → Prop} {r : AV} (h : SndP C f (args.map (fz s.objs deep)) r) (hb : Bare r) (hk : k r s) : xcall C d fr (some (f, args)) s k :=
  ⟨f, args, rfl, .inl ⟨r, _, h.qlend hb, hk⟩⟩

/-- Nothing of memory in it: looked at. -/
def bareB : Nat → AV → Bool
  | 0, _ => false
  | _ + 1, .v _ => true
  | n + 1, .agg cs => cs.all (bareB n)
  | n + 1, .tup cs => cs.all (bareB n)
  | _, _ => false

/-- No reference in it: looked at. -/
def cleanB : Nat → AV → Bool
  | 0, _ => false
  | _ + 1, .v _ => true
  | n + 1, .agg cs => cs.all (cleanB n)
  | n + 1, .tup cs => cs.all (cleanB n)
  | n + 1, .imm cs _ => cs.all (cleanB n)
  | n + 1, .iptr cs _ => cs.all (cleanB n)
  | n + 1, .clo _ a b => a.all (cleanB n) && b.all (cleanB n)
  | _, _ => false

theorem bareB_ok : ∀ (n : Nat) (x : AV), bareB n x = true → Bare x
  | 0, _, h => by cases h
  | n + 1, x, h => by
    cases x <;> simp only [bareB] at h <;> try (cases h; done)
    · exact Bare.v _
    · rw [List.all_eq_true] at h; exact Bare.agg fun c hc => bareB_ok n c (h c hc)
    · rw [List.all_eq_true] at h; exact Bare.tup fun c hc => bareB_ok n c (h c hc)

theorem cleanB_ok : ∀ (n : Nat) (x : AV), cleanB n x = true → Clean x
  | 0, _, h => by cases h
  | n + 1, x, h => by
    cases x <;> simp only [cleanB] at h <;> try (cases h; done)
    · exact Clean.v _
    · rw [List.all_eq_true] at h; exact Clean.agg fun c hc => cleanB_ok n c (h c hc)
    · rw [List.all_eq_true] at h; exact Clean.tup fun c hc => cleanB_ok n c (h c hc)
    · rw [List.all_eq_true] at h; exact Clean.imm fun c hc => cleanB_ok n c (h c hc)
    · rw [List.all_eq_true] at h; exact Clean.iptr fun c hc => cleanB_ok n c (h c hc)
    · rw [Bool.and_eq_true, List.all_eq_true, List.all_eq_true] at h; exact Clean.clo (fun c hc => cleanB_ok n c (h.1 c hc)) (fun c hc => cleanB_ok n c (h.2 c hc))

def isB : Value → Bool → Bool
  | .bool b, want => b == want
  | _, _ => false

theorem isB_iff {x : Value} {want : Bool} : (isB x want = true → x = .bool want) ∧ (isB x want = false → x ≠ .bool want) := by
  constructor
  · intro h
    unfold isB at h
    split at h
    · rw [eq_of_beq h]
    · cases h
  · intro h hx
    subst hx
    simp [isB] at h

abbrev CallF := FuncId → List AV → HS → Option (AV × HS)

def wantX (all : List Oper) (s : AS) (g : Option (Nat × Bool)) : Option Bool :=
  match g with
  | none => some true
  | some (g, want) => match (all[g]?).bind (·.dst) with
    | some d => match s.tmps d with
      | .v x => some (isB x want)
      | _ => none
    | none => none

def stepX (cf : CallF) (C : Ctx) (s : AS) (fr : Nat) (o : Oper) : Option AS :=
  match callOf C s o.op with
  | some (f, args) => match cf f args s.toHS with
    | some (r, hs) => some { hs with tmps := putT s.tmps o.dst r }
    | none => none
  | none => match opEff C s fr o.op with
    | some e => some (s.apply o.dst fr e)
    | none => none

def seqX (cf : CallF) (C : Ctx) (all : List Oper) (base : Nat) : Nat → List Oper → AS → Option AS
  | _, [], s => some s
  | i, o :: rest, s => match wantX all s o.guard with
    | some true => match stepX cf C s (base + i) o with
      | some s' => seqX cf C all base (i + 1) rest s'
      | none => none
    | some false => seqX cf C all base (i + 1) rest { s with tmps := putT s.tmps o.dst (.v undef) }
    | none => none

/-- A call that keeps nothing, run for itself. -/
def quietX (cf : CallF) (f : FuncId) (args : List AV) (objs : Nat → Ob) : Option (AV × Foot) :=
  let as := args.map (fz objs deep)
  let rd := args.flatMap (reach objs deep)
  match cf f as (deadH 0) with
  | some (r0, hs) =>
    let r := fz hs.objs deep r0
    if as.all (cleanB 12) && (bif rd.isEmpty then cleanB 12 r else bareB 12 r) then some (r, rd) else none
  | none => none

def drawX (cf : CallF) (C : Ctx) (all : List Oper) (base : Nat) : Nat → List Oper → AS → List Print → Option AS
  | _, [], s, acc => if printsOk all acc then some s else none
  | i, o :: rest, s, acc => match wantX all s o.guard with
    | some true => match callOf C s o.op with
      | some (f, args) => match quietX cf f args s.objs with
        | some (r, rd) => drawX cf C all base (i + 1) rest { s with tmps := putT s.tmps o.dst r } (addP (i, rd, []) acc)
        | none => none
      | none => match opEff C s (base + i) o.op with
        | some e => drawX cf C all base (i + 1) rest (s.apply o.dst (base + i) e) (addP (i, rdOf C s o.op, wrOf (base + i) e.act) acc)
        | none => none
    | some false => drawX cf C all base (i + 1) rest { s with tmps := putT s.tmps o.dst (.v undef) } acc
    | none => none

def callX (ex : Code → AS → Option (AExit × AS)) (C : Ctx) : CallF := fun f args hs =>
  match C.P.funcs[f]? with
  | some fn => match fn.body with
    | some c => if stOk fn.ntmps c && Nat.ble args.length fn.ntmps && !(fn.name == "runtime.NumGoroutine") then match ex c (init args hs) with
        | some (.exit _, _) => none
        | some (_, s') => match resV C s' fn.results.toList with
          | some r => some (r, s'.toHS)
          | none => none
        | none => none
      else none
    | none => none
  | none => none

def codeX (C : Ctx) (ex : Code → AS → Option (AExit × AS)) (c : Code) (s : AS) : Option (AExit × AS) :=
  match c with
  | .skip => some (.normal, s)
  | .label _ => some (.normal, s)
  | .ret => some (.ret, s)
  | .exit id => some (.exit id, s)
  | .region _ ops draw => match draw with
    | false => (seqX (callX ex C) C ops.toList s.next 0 ops.toList { s with next := s.next + ops.size }).map fun s' => (.normal, s')
    | true => (drawX (callX ex C) C ops.toList s.next 0 ops.toList { s with next := s.next + ops.size } []).map fun s' => (.normal, s')
  | .seq a b => match ex a s with
    | some (.normal, s') => ex b s'
    | r => r
  | .cond c a b => match ev C s c with
    | .v (.bool true) => ex a s
    | .v (.bool false) => ex b s
    | _ => none
  | .block id c => match ex c s with
    | some (.exit j, s') => if j = id then some (.normal, s') else some (.exit j, s')
    | r => r
  | .loop c => match ex c s with
    | some (.normal, s') => ex (.loop c) s'
    | r => r
  | _ => none

noncomputable def exec (C : Ctx) (n : Nat) : Code → AS → Option (AExit × AS) := Nat.rec (fun _ _ => none) (fun _ ex => codeX C ex) n

/-! ### They are sound -/

theorem wantX_none {all : List Oper} {s : AS} : wantX all s none = some true := rfl

/-- A loop, a round at a time. -/
theorem awp_unroll {C : Ctx} {c : Code} {Q : AExit → AS → Prop} {s s1 : AS} (h1 : ∀ Q' : AExit → AS → Prop, Q' .normal s1 → awp C c Q' s) (h : awp C (.loop c) Q s1) : awp C (.loop c) Q s := by
  obtain ⟨I, μ, ⟨s0, hwk, h0⟩, hr⟩ := h
  by_cases hI : I s
  · exact ⟨I, μ, ⟨s, Wk.refl _ _, hI⟩, hr⟩
  · open Classical in
    refine ⟨fun t => I t ∨ t = s, fun t => if I t then μ t else μ s0 + 1, ⟨s, Wk.refl _ _, .inr rfl⟩, fun t ht => ?_⟩
    rcases ht with ht | rfl
    · refine awp_mono c (hr t ht) ?_
      intro e t' ht'
      cases e with
      | normal => obtain ⟨u, h1, h2, h3⟩ := ht'; exact ⟨u, h1, .inl h2, by simp only [if_pos h2, if_pos ht]; exact h3⟩
      | exit j => exact ht'
      | ret => exact ht'
    · exact h1 _ ⟨s0, hwk, .inl h0, by simp only [if_pos h0, if_neg hI]; omega⟩

/-- What a reckoned call must be. -/
def CallOk (C : Ctx) (cf : CallF) : Prop := ∀ f args hs r hs', cf f args hs = some (r, hs') → Snd C f args hs fun r' hs'' => r' = r ∧ hs'' = hs'

theorem quietX_ok {C : Ctx} {cf : CallF} (hcf : CallOk C cf) {f : FuncId} {args : List AV} {objs : Nat → Ob} {r : AV} {rd : Foot} (h : quietX cf f args objs = some (r, rd)) : QCall C f args objs rd r := by
  unfold quietX at h
  dsimp only at h
  split at h
  · rename_i r0 hs hcall
    split at h
    · rename_i hc
      simp only [Option.some.injEq, Prod.mk.injEq] at h
      obtain ⟨hr, rfl⟩ := h
      simp only [Bool.and_eq_true, List.all_eq_true] at hc
      obtain ⟨hc1, hc2⟩ := hc
      have hclean : ∀ x ∈ args.map (fz objs deep), Clean x := fun x hx => cleanB_ok 12 x (hc1 x hx)
      have hsnd : Snd C f (args.map (fz objs deep)) (deadH 0) fun r' s' => fz s'.objs deep r' = r := by
        refine (hcf _ _ _ _ _ hcall).mono ?_
        rintro r' s' ⟨rfl, rfl⟩
        exact hr
      subst hr
      by_cases he : (args.flatMap (reach objs deep)).isEmpty = true
      · rw [he] at hc2
        simp only [cond_true] at hc2
        have hP := SndP.of_zero (cleanB_ok 12 _ hc2) hclean hsnd
        intro s _
        have hnil : args.flatMap (reach objs deep) = [] := by simpa using he
        -- no reference: the arguments are the same in every heap
        have hag : ∀ o' : Nat → Ob, args.map (fz o' deep) = args.map (fz objs deep) := fun o' => List.map_congr_left fun c hc => fz_agree deep c fun p hp => by
          have : p ∈ args.flatMap (reach objs deep) := List.mem_flatMap.2 ⟨c, hc, hp⟩
          rw [hnil] at this; cases this
        have : SndP C f (args.map (fz (fun _ => .dead) deep)) (fz hs.objs deep r0) := by rw [hag]; exact hP
        exact this.norm.quiet s
      · have he' : (args.flatMap (reach objs deep)).isEmpty = false := by simpa using he
        rw [he'] at hc2
        simp only [cond_false] at hc2
        have hb := bareB_ok 12 _ hc2
        exact (SndP.of_zero hb.clean hclean hsnd).qlend hb
    · cases h
  · cases h

theorem seqX_ok {C : Ctx} {cf : CallF} (hcf : CallOk C cf) {all : List Oper} {base : Nat} {K : AS → Prop} : ∀ (l : List Oper) (i : Nat) (s s' : AS), seqX cf C all base i l s = some s' → K s' → seqW C all base i l s K
  | [], i, s, s', h, hk => by simp only [seqX, Option.some.injEq] at h; subst h; exact hk
  | o :: rest, i, s, s', h, hk => by
    have step : (match stepX cf C s (base + i) o with | some s1 => seqX cf C all base (i + 1) rest s1 | none => none) = some s' → stepW C s (base + i) o fun s' => seqW C all base (i + 1) rest s' K := by
      intro h
      unfold stepX at h
      unfold stepW
      cases hc : callOf C s o.op with
      | some p =>
        obtain ⟨f, args⟩ := p
        simp only [hc] at h ⊢
        cases hcall : cf f args s.toHS with
        | none => simp [hcall] at h
        | some q =>
          obtain ⟨r, hs⟩ := q
          simp only [hcall] at h
          refine .inl ⟨_, hcf _ _ _ _ _ hcall, ?_⟩
          rintro r' hs' ⟨rfl, rfl⟩
          exact seqX_ok hcf rest (i + 1) _ _ h hk
      | none =>
        simp only [hc] at h ⊢
        cases he : opEff C s (base + i) o.op with
        | none => simp [he] at h
        | some e =>
          simp only [he] at h ⊢
          exact seqX_ok hcf rest (i + 1) _ _ h hk
    simp only [seqX] at h
    simp only [seqW]
    cases hg : o.guard with
    | none =>
      simp only [hg, wantX] at h ⊢
      exact step h
    | some p =>
      obtain ⟨g, want⟩ := p
      simp only [hg, wantX] at h ⊢
      cases hd : (all[g]?).bind (·.dst) with
      | none => simp [hd] at h
      | some d =>
        simp only [hd] at h ⊢
        cases hx : s.tmps d with
        | v x =>
          simp only [hx] at h
          cases hb : isB x want with
          | true =>
            simp only [hb] at h
            exact ⟨x, rfl, fun _ => step h, fun hh => absurd (isB_iff.1 hb) hh⟩
          | false =>
            simp only [hb] at h
            exact ⟨x, rfl, fun hh => absurd hh (isB_iff.2 hb), fun _ => seqX_ok hcf rest (i + 1) _ _ h hk⟩
        | _ => simp [hx] at h

theorem drawX_ok {C : Ctx} {cf : CallF} (hcf : CallOk C cf) {all : List Oper} {base : Nat} {K : AS → Prop} : ∀ (l : List Oper) (i : Nat) (s s' : AS) (acc : List Print), drawX cf C all base i l s acc = some s' → K s' → drawW C all base i l s acc K
  | [], i, s, s', acc, h, hk => by
    simp only [drawX] at h
    split at h
    · rename_i hp
      simp only [Option.some.injEq] at h; subst h; exact ⟨hp, hk⟩
    · cases h
  | o :: rest, i, s, s', acc, h, hk => by
    have step : (match callOf C s o.op with
      | some (f, args) => match quietX cf f args s.objs with
        | some (r, rd) => drawX cf C all base (i + 1) rest { s with tmps := putT s.tmps o.dst r } (addP (i, rd, []) acc)
        | none => none
      | none => match opEff C s (base + i) o.op with
        | some e => drawX cf C all base (i + 1) rest (s.apply o.dst (base + i) e) (addP (i, rdOf C s o.op, wrOf (base + i) e.act) acc)
        | none => none) = some s' → (match callOf C s o.op with
            | some (f, args) => ∃ e rd, ECall C f args s.objs rd (base + i) e ∧ drawW C all base (i + 1) rest (s.apply o.dst (base + i) e) (addP (i, rd, wrOf (base + i) e.act) acc) K
            | none => match opEff C s (base + i) o.op with
              | some e => drawW C all base (i + 1) rest (s.apply o.dst (base + i) e) (addP (i, rdOf C s o.op, wrOf (base + i) e.act) acc) K
              | none => False) := by
      intro h
      cases hc : callOf C s o.op with
      | some p =>
        obtain ⟨f, args⟩ := p
        simp only [hc] at h ⊢
        cases hcall : quietX cf f args s.objs with
        | none => simp [hcall] at h
        | some q =>
          obtain ⟨r, rd⟩ := q
          simp only [hcall] at h
          exact ⟨⟨r, .none⟩, rd, (quietX_ok hcf hcall).toE _, drawX_ok hcf rest (i + 1) _ _ _ h hk⟩
      | none =>
        simp only [hc] at h ⊢
        cases he : opEff C s (base + i) o.op with
        | none => simp [he] at h
        | some e =>
          simp only [he] at h ⊢
          exact drawX_ok hcf rest (i + 1) _ _ _ h hk
    simp only [drawX] at h
    simp only [drawW]
    cases hg : o.guard with
    | none =>
      simp only [hg, wantX] at h ⊢
      exact step h
    | some p =>
      obtain ⟨g, want⟩ := p
      simp only [hg, wantX] at h ⊢
      cases hd : (all[g]?).bind (·.dst) with
      | none => simp [hd] at h
      | some d =>
        simp only [hd] at h ⊢
        cases hx : s.tmps d with
        | v x =>
          simp only [hx] at h
          cases hb : isB x want with
          | true =>
            simp only [hb] at h
            exact ⟨x, rfl, fun _ => step h, fun hh => absurd (isB_iff.1 hb) hh⟩
          | false =>
            simp only [hb] at h
            exact ⟨x, rfl, fun hh => absurd hh (isB_iff.2 hb), fun _ => drawX_ok hcf rest (i + 1) _ _ _ h hk⟩
        | _ => simp [hx] at h

theorem callX_ok {C : Ctx} (hC : COk C) {ex : Code → AS → Option (AExit × AS)} (hex : ∀ c s e s', ex c s = some (e, s') → ∀ Q : AExit → AS → Prop, Q e s' → awp C c Q s) : CallOk C (callX ex C) := by
  intro f args hs r hs' h
  unfold callX at h
  split at h
  · rename_i fn hf
    split at h
    · rename_i c hb
      split at h
      · rename_i hcond
        simp only [Bool.and_eq_true, Bool.not_eq_true'] at hcond
        have fin : ∀ e s', ex c (init args hs) = some (e, s') → (∀ j, e ≠ .exit j) → resV C s' fn.results.toList = some r → hs' = s'.toHS → Snd C f args hs fun r' hs'' => r' = r ∧ hs'' = hs' := by
          intro e s' he hne hr hhs
          refine snd_of_awp hC hf hb hcond.2 hcond.1.1 (Nat.le_of_ble_eq_true hcond.1.2) (hex c _ e s' he _ ?_)
          cases e with
          | normal => exact ⟨r, hr, rfl, hhs.symm⟩
          | ret => exact ⟨r, hr, rfl, hhs.symm⟩
          | exit j => exact absurd rfl (hne j)
        split at h
        · cases h
        · rename_i e s' hne he
          split at h
          · rename_i r' hr
            simp only [Option.some.injEq, Prod.mk.injEq] at h
            obtain ⟨rfl, rfl⟩ := h
            exact fin e s' he (fun j hj => hne j hj) hr rfl
          · cases h
        · cases h
      · cases h
    · cases h
  · cases h

theorem exec_ok {C : Ctx} (hC : COk C) : ∀ (n : Nat) (c : Code) (s : AS) (e : AExit) (s' : AS), exec C n c s = some (e, s') → ∀ Q : AExit → AS → Prop, Q e s' → awp C c Q s
  | 0, c, s, e, s', h => by cases h
  | n + 1, c, s, e, s', h => by
    intro Q hQ
    have ih := exec_ok hC n
    have hcf := callX_ok hC ih
    have h' : codeX C (exec C n) c s = some (e, s') := h
    cases c with
    | skip => cases h'; exact hQ
    | label l => cases h'; exact hQ
    | ret => cases h'; exact hQ
    | exit id => cases h'; exact hQ
    | goto l => cases h'
    | refuse why => cases h'
    | scope c => cases h'
    | rangeFunc f ps x y => cases h'
    | region id ops draw =>
      cases draw with
      | false =>
        simp only [codeX, Option.map_eq_some_iff] at h'
        obtain ⟨t, h1, h2⟩ := h'
        cases h2
        exact seqX_ok hcf _ _ _ _ h1 hQ
      | true =>
        simp only [codeX, Option.map_eq_some_iff] at h'
        obtain ⟨t, h1, h2⟩ := h'
        cases h2
        exact drawX_ok hcf _ _ _ _ _ h1 hQ
    | seq a b =>
      simp only [codeX] at h'
      cases ha : exec C n a s with
      | none => simp [ha] at h'
      | some p =>
        obtain ⟨e1, s1⟩ := p
        refine ih a s e1 s1 ha _ ?_
        cases e1 with
        | normal => simp only [ha] at h'; exact ⟨s1, Wk.refl _ _, ih b s1 e s' h' Q hQ⟩
        | exit j => simp only [ha, Option.some.injEq, Prod.mk.injEq] at h'; obtain ⟨rfl, rfl⟩ := h'; exact hQ
        | ret => simp only [ha, Option.some.injEq, Prod.mk.injEq] at h'; obtain ⟨rfl, rfl⟩ := h'; exact hQ
    | cond c a b =>
      simp only [codeX] at h'
      split at h'
      · rename_i hev; exact awp_cond1 hev (fun _ => ih a s e s' h' Q hQ) (fun hh => by cases hh)
      · rename_i hev; exact awp_cond1 hev (fun hh => by cases hh) (fun _ => ih b s e s' h' Q hQ)
      · cases h'
    | block id c =>
      simp only [codeX] at h'
      cases ha : exec C n c s with
      | none => simp [ha] at h'
      | some p =>
        obtain ⟨e1, s1⟩ := p
        refine ih c s e1 s1 ha _ ?_
        cases e1 with
        | normal => simp only [ha, Option.some.injEq, Prod.mk.injEq] at h'; obtain ⟨rfl, rfl⟩ := h'; exact hQ
        | ret => simp only [ha, Option.some.injEq, Prod.mk.injEq] at h'; obtain ⟨rfl, rfl⟩ := h'; exact hQ
        | exit j =>
          simp only [ha] at h'
          simp only
          split at h'
          · rename_i hj; cases h'; rw [if_pos hj]; exact hQ
          · rename_i hj; cases h'; rw [if_neg hj]; exact hQ
    | loop c =>
      simp only [codeX] at h'
      cases ha : exec C n c s with
      | none => simp [ha] at h'
      | some p =>
        obtain ⟨e1, s1⟩ := p
        cases e1 with
        | normal =>
          simp only [ha] at h'
          exact awp_unroll (fun Q' hQ' => ih c s .normal s1 ha Q' hQ') (ih (.loop c) s1 e s' h' Q hQ)
        | exit j =>
          simp only [ha, Option.some.injEq, Prod.mk.injEq] at h'
          obtain ⟨rfl, rfl⟩ := h'
          exact awp_once1 (ih c _ _ _ ha _ hQ)
        | ret =>
          simp only [ha, Option.some.injEq, Prod.mk.injEq] at h'
          obtain ⟨rfl, rfl⟩ := h'
          exact awp_once1 (ih c _ _ _ ha _ hQ)

/-- What a call gives that is run for itself, in an empty heap. -/
noncomputable def ranX (C : Ctx) (n : Nat) (f : FuncId) (args : List AV) : Option AV := (callX (exec C n) C f args (deadH 0)).map fun p => fz p.2.objs deep p.1

/-- A RECKONED RUN IS A SUMMARY. -/
theorem SndP.of_run {C : Ctx} (hC : COk C) {n : Nat} {f : FuncId} {args : List AV} {r : AV} (hr : cleanB 12 r = true) (ha : args.all (cleanB 12) = true) (h : ranX C n f args = some r) : SndP C f args r := by
  unfold ranX at h
  simp only [Option.map_eq_some_iff] at h
  obtain ⟨⟨r0, hs⟩, h1, h2⟩ := h
  refine SndP.of_zero (cleanB_ok 12 r hr) (fun x hx => cleanB_ok 12 x (List.all_eq_true.1 ha x hx)) ?_
  refine (callX_ok hC (exec_ok hC n) _ _ _ _ _ h1).mono ?_
  rintro r' s' ⟨rfl, rfl⟩
  exact h2

end Go.AX
