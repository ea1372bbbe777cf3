/- A part of the proof: an abstract reading of the model, proved sound. -/
import Derived.Test.YtkheccnpikfalaaCoreb
set_option linter.unusedVariables false
set_option linter.unusedSimpArgs false

/-! (AyO) -/

namespace Go.AX

def plainB : AV → Bool
  | .v _ => true
  | _ => false

def freshX (cf : CallF) (f : FuncId) (args : List AV) (objs : Nat → Ob) (fr : Nat) : Option (Eff × Foot) :=
  let as := args.map (fz objs deep)
  let rd := args.flatMap (reach objs deep)
  match cf f as (deadH 0) with
  | some (.ref id 0 len sz, hs) => match hs.objs id with
    | .live cells => if as.all (cleanB 12) && cells.all plainB then some (⟨.ref fr 0 len sz, .new cells⟩, rd) else none
    | _ => none
  | _ => none

def drawV (cf : CallF) (C : Ctx) (all : List Oper) (base : Nat) : Nat → List Oper → AS → List Print → Option AS
  | _, [], s, acc => if printsOk all acc then some s else none
  | i, o :: rest, s, acc => match wantX all s o.guard with
    | some true => match callOf C s o.op with
      | some (f, args) => match quietX cf f args s.objs with
        | some (r, rd) => drawV cf C all base (i + 1) rest { s with tmps := putT s.tmps o.dst r } (addP (i, rd, []) acc)
        | none => match freshX cf f args s.objs (base + i) with
          | some (e, rd) => drawV cf C all base (i + 1) rest (s.apply o.dst (base + i) e) (addP (i, rd, wrOf (base + i) e.act) acc)
          | none => none
      | none => match opEff C s (base + i) o.op with
        | some e => drawV cf C all base (i + 1) rest (s.apply o.dst (base + i) e) (addP (i, rdOf C s o.op, wrOf (base + i) e.act) acc)
        | none => none
    | some false => drawV cf C all base (i + 1) rest { s with tmps := putT s.tmps o.dst (.v undef) } acc
    | none => none

def codeV (C : Ctx) (ex : Code → AS → Option (AExit × AS)) (c : Code) (s : AS) : Option (AExit × AS) :=
  match c with
  | .skip => some (.normal, s)
  | .label _ => some (.normal, s)
  | .ret => some (.ret, s)
  | .exit id => some (.exit id, s)
  | .region _ ops draw => match draw with
    | false => (seqX (callX ex C) C ops.toList s.next 0 ops.toList { s with next := s.next + ops.size }).map fun s' => (.normal, s')
    | true => (drawV (callX ex C) C ops.toList s.next 0 ops.toList { s with next := s.next + ops.size } []).map fun s' => (.normal, s')
  | .seq a b => match ex a s with
    | some (.normal, s') => ex b s'
    | r => r
  | .cond c a b => match ev C s c with
    | .v (.bool true) => ex a s
    | .v (.bool false) => ex b s
    | _ => none
  | .block id c => match ex c s with
    | some (.exit j, s') => if j = id then some (.normal, s') else some (.exit j, s')
    | r => r
  | .loop c => match ex c s with
    | some (.normal, s') => ex (.loop c) s'
    | r => r
  | _ => none

noncomputable def execV (C : Ctx) (n : Nat) : Code → AS → Option (AExit × AS) := Nat.rec (fun _ _ => none) (fun _ ex => codeV C ex) n


theorem freshX_ok {C : Ctx} {cf : CallF} (hcf : CallOk C cf) {f : FuncId} {args : List AV} {objs : Nat → Ob} {fr : Nat} {e : Eff} {rd : Foot} (h : freshX cf f args objs fr = some (e, rd)) : ECall C f args objs rd fr e := by
  unfold freshX at h
  dsimp only at h
  split at h
  · rename_i id len sz hs hcall
    split at h
    · rename_i cells ho
      split at h
      · rename_i hc
        simp only [Option.some.injEq, Prod.mk.injEq] at h
        obtain ⟨rfl, rfl⟩ := h
        simp only [Bool.and_eq_true, List.all_eq_true] at hc
        obtain ⟨hc1, hc2⟩ := hc
        have pl : ∀ c ∈ cells, ∃ x, c = .v x := by
          intro c hm
          have := hc2 c hm
          unfold plainB at this
          split at this
          · exact ⟨_, rfl⟩
          · cases this
        have hclean : ∀ x ∈ args.map (fz objs deep), Clean x := fun x hx => cleanB_ok 12 x (hc1 x hx)
        have hsnd : Snd C f (args.map (fz objs deep)) (deadH 0) fun r' s' => Z.Res r' s' (fun q => .ref (q 0) 0 len sz) [cells] := by
          refine (hcf _ _ _ _ _ hcall).mono ?_
          rintro r' s' ⟨rfl, rfl⟩
          exact Z.Res.mk [] [some id] (by simp [Z.sgB]) (Z.resOU List.not_mem_nil ho (Z.TmL.clean fun c hm => by obtain ⟨x, rfl⟩ := pl c hm; exact Clean.v x) Z.resO0) (Z.Tm.refL rfl rfl)
        intro hs' hag
        refine Z.SndE.lend (fun s => ?_) (Z.NoV.ref _ _ _ _) (fun c hm => by obtain ⟨x, rfl⟩ := pl c hm; exact Z.NoV.v x)
        have : args.map (fz hs'.objs deep) = args.map (fz objs deep) := List.map_congr_left fun c hc => fz_agree deep c (agrees_sub hag fun p hp => List.mem_flatMap.2 ⟨c, hc, hp⟩)
        rw [this]
        exact Z.SndE.of_res (Z.RenM.ref 0 0 _ _) (fun c hm => by obtain ⟨x, rfl⟩ := pl c hm; exact Clean.v x) hclean (fun a b h => by simp only [h]) hsnd s fr
      · cases h
    · cases h
  · cases h

theorem drawV_ok {C : Ctx} {cf : CallF} (hcf : CallOk C cf) {all : List Oper} {base : Nat} {K : AS → Prop} : ∀ (l : List Oper) (i : Nat) (s s' : AS) (acc : List Print), drawV cf C all base i l s acc = some s' → K s' → drawW C all base i l s acc K
  | [], i, s, s', acc, h, hk => by
    simp only [drawV] at h
    split at h
    · rename_i hp
      simp only [Option.some.injEq] at h; subst h; exact ⟨hp, hk⟩
    · cases h
  | o :: rest, i, s, s', acc, h, hk => by
    have step : (match callOf C s o.op with
      | some (f, args) => match quietX cf f args s.objs with
        | some (r, rd) => drawV cf C all base (i + 1) rest { s with tmps := putT s.tmps o.dst r } (addP (i, rd, []) acc)
        | none => match freshX cf f args s.objs (base + i) with
          | some (e, rd) => drawV cf C all base (i + 1) rest (s.apply o.dst (base + i) e) (addP (i, rd, wrOf (base + i) e.act) acc)
          | none => none
      | none => match opEff C s (base + i) o.op with
        | some e => drawV cf C all base (i + 1) rest (s.apply o.dst (base + i) e) (addP (i, rdOf C s o.op, wrOf (base + i) e.act) acc)
        | none => none) = some s' → (match callOf C s o.op with
            | some (f, args) => ∃ e rd, ECall C f args s.objs rd (base + i) e ∧ drawW C all base (i + 1) rest (s.apply o.dst (base + i) e) (addP (i, rd, wrOf (base + i) e.act) acc) K
            | none => match opEff C s (base + i) o.op with
              | some e => drawW C all base (i + 1) rest (s.apply o.dst (base + i) e) (addP (i, rdOf C s o.op, wrOf (base + i) e.act) acc) K
              | none => False) := by
      intro h
      cases hc : callOf C s o.op with
      | some p =>
        obtain ⟨f, args⟩ := p
        simp only [hc] at h ⊢
        cases hcall : quietX cf f args s.objs with
        | none =>
          simp only [hcall] at h
          cases hfr : freshX cf f args s.objs (base + i) with
          | none => simp [hfr] at h
          | some q =>
            obtain ⟨e, rd⟩ := q
            simp only [hfr] at h
            exact ⟨e, rd, freshX_ok hcf hfr, drawV_ok hcf rest (i + 1) _ _ _ h hk⟩
        | some q =>
          obtain ⟨r, rd⟩ := q
          simp only [hcall] at h
          exact ⟨⟨r, .none⟩, rd, (quietX_ok hcf hcall).toE _, drawV_ok hcf rest (i + 1) _ _ _ h hk⟩
      | none =>
        simp only [hc] at h ⊢
        cases he : opEff C s (base + i) o.op with
        | none => simp [he] at h
        | some e =>
          simp only [he] at h ⊢
          exact drawV_ok hcf rest (i + 1) _ _ _ h hk
    simp only [drawV] at h
    simp only [drawW]
    cases hg : o.guard with
    | none =>
      simp only [hg, wantX] at h ⊢
      exact step h
    | some p =>
      obtain ⟨g, want⟩ := p
      simp only [hg, wantX] at h ⊢
      cases hd : (all[g]?).bind (·.dst) with
      | none => simp [hd] at h
      | some d =>
        simp only [hd] at h ⊢
        cases hx : s.tmps d with
        | v x =>
          simp only [hx] at h
          cases hb : isB x want with
          | true =>
            simp only [hb] at h
            exact ⟨x, rfl, fun _ => step h, fun hh => absurd (isB_iff.1 hb) hh⟩
          | false =>
            simp only [hb] at h
            exact ⟨x, rfl, fun hh => absurd hh (isB_iff.2 hb), fun _ => drawV_ok hcf rest (i + 1) _ _ _ h hk⟩
        | _ => simp [hx] at h

theorem execV_ok {C : Ctx} (hC : COk C) : ∀ (n : Nat) (c : Code) (s : AS) (e : AExit) (s' : AS), execV C n c s = some (e, s') → ∀ Q : AExit → AS → Prop, Q e s' → awp C c Q s
  | 0, c, s, e, s', h => by cases h
  | n + 1, c, s, e, s', h => by
    intro Q hQ
    have ih := execV_ok hC n
    have hcf := callX_ok hC ih
    have h' : codeV C (execV C n) c s = some (e, s') := h
    cases c with
    | skip => cases h'; exact hQ
    | label l => cases h'; exact hQ
    | ret => cases h'; exact hQ
    | exit id => cases h'; exact hQ
    | goto l => cases h'
    | refuse why => cases h'
    | scope c => cases h'
    | rangeFunc f ps x y => cases h'
    | region id ops draw =>
      cases draw with
      | false =>
        simp only [codeV, Option.map_eq_some_iff] at h'
        obtain ⟨t, h1, h2⟩ := h'
        cases h2
        exact seqX_ok hcf _ _ _ _ h1 hQ
      | true =>
        simp only [codeV, Option.map_eq_some_iff] at h'
        obtain ⟨t, h1, h2⟩ := h'
        cases h2
        exact drawV_ok hcf _ _ _ _ _ h1 hQ
    | seq a b =>
      simp only [codeV] at h'
      cases ha : execV C n a s with
      | none => simp [ha] at h'
      | some p =>
        obtain ⟨e1, s1⟩ := p
        refine ih a s e1 s1 ha _ ?_
        cases e1 with
        | normal => simp only [ha] at h'; exact ⟨s1, Wk.refl _ _, ih b s1 e s' h' Q hQ⟩
        | exit j => simp only [ha, Option.some.injEq, Prod.mk.injEq] at h'; obtain ⟨rfl, rfl⟩ := h'; exact hQ
        | ret => simp only [ha, Option.some.injEq, Prod.mk.injEq] at h'; obtain ⟨rfl, rfl⟩ := h'; exact hQ
    | cond c a b =>
      simp only [codeV] at h'
      split at h'
      · rename_i hev; exact awp_cond1 hev (fun _ => ih a s e s' h' Q hQ) (fun hh => by cases hh)
      · rename_i hev; exact awp_cond1 hev (fun hh => by cases hh) (fun _ => ih b s e s' h' Q hQ)
      · cases h'
    | block id c =>
      simp only [codeV] at h'
      cases ha : execV C n c s with
      | none => simp [ha] at h'
      | some p =>
        obtain ⟨e1, s1⟩ := p
        refine ih c s e1 s1 ha _ ?_
        cases e1 with
        | normal => simp only [ha, Option.some.injEq, Prod.mk.injEq] at h'; obtain ⟨rfl, rfl⟩ := h'; exact hQ
        | ret => simp only [ha, Option.some.injEq, Prod.mk.injEq] at h'; obtain ⟨rfl, rfl⟩ := h'; exact hQ
        | exit j =>
          simp only [ha] at h'
          simp only
          split at h'
          · rename_i hj; cases h'; rw [if_pos hj]; exact hQ
          · rename_i hj; cases h'; rw [if_neg hj]; exact hQ
    | loop c =>
      simp only [codeV] at h'
      cases ha : execV C n c s with
      | none => simp [ha] at h'
      | some p =>
        obtain ⟨e1, s1⟩ := p
        cases e1 with
        | normal =>
          simp only [ha] at h'
          exact awp_unroll (fun Q' hQ' => ih c s .normal s1 ha Q' hQ') (ih (.loop c) s1 e s' h' Q hQ)
        | exit j =>
          simp only [ha, Option.some.injEq, Prod.mk.injEq] at h'
          obtain ⟨rfl, rfl⟩ := h'
          exact awp_once1 (ih c _ _ _ ha _ hQ)
        | ret =>
          simp only [ha, Option.some.injEq, Prod.mk.injEq] at h'
          obtain ⟨rfl, rfl⟩ := h'
          exact awp_once1 (ih c _ _ _ ha _ hQ)

noncomputable def ranV (C : Ctx) (n : Nat) (f : FuncId) (args : List AV) : Option AV := (callX (execV C n) C f args (deadH 0)).map fun p => fz p.2.objs deep p.1

theorem SndP.of_runV {C : Ctx} (hC : COk C) {n : Nat} {f : FuncId} {args : List AV} {r : AV} (hr : cleanB 12 r = true) (ha : args.all (cleanB 12) = true) (h : ranV C n f args = some r) : SndP C f args r := by
  unfold ranV at h
  simp only [Option.map_eq_some_iff] at h
  obtain ⟨⟨r0, hs⟩, h1, h2⟩ := h
  refine SndP.of_zero (cleanB_ok 12 r hr) (fun x hx => cleanB_ok 12 x (List.all_eq_true.1 ha x hx)) ?_
  refine (callX_ok hC (execV_ok hC n) _ _ _ _ _ h1).mono ?_
  rintro r' s' ⟨rfl, rfl⟩
  exact h2


end Go.AX

/-! (AzA) -/

namespace Go.AX.Z
open Go.AX

theorem idxN {α : Type} (l : List α) (i : Nat) : idx l (i : Int) = l[i]? := by simp [idx]
theorem idx0 {α : Type} (l : List α) : idx l 0 = l[0]? := by simp [idx]
theorem drop_c {α : Type} {L l : List α} {x : α} {i : Nat} (h : L.drop i = x :: l) : L[i]? = some x ∧ L.drop (i + 1) = l ∧ i < L.length := by
  have h1 : i < L.length := by
    rcases Nat.lt_or_ge i L.length with h2 | h2
    · exact h2
    · rw [List.drop_eq_nil_of_le h2] at h; cases h
  rw [List.drop_eq_getElem_cons h1] at h
  injection h with h2 h3
  exact ⟨by simp [h1, h2], h3, h1⟩
theorem drop_n {α : Type} {L : List α} {i : Nat} (h : L.drop i = []) : L.length ≤ i := List.drop_eq_nil_iff.1 h
theorem wrapN {i : Nat} (h : i < 4611686018427387904) : IntKind.wrap .i64 ((i : Int) + 1) = ((i + 1 : Nat) : Int) := by
  rw [wrap64 (by omega) (by omega)]; omega
theorem wrapI {i : Int} (h1 : -4611686018427387904 ≤ i) (h2 : i < 4611686018427387904) : IntKind.wrap .i64 i = i := wrap64 (by omega) (by omega)
theorem chk_t {c : Bool} (h : c = true) : chk c = some () := by rw [h]; rfl
theorem chk_d {p : Prop} [Decidable p] (h : p) : chk (decide p) = some () := chk_t (by simpa using h)
theorem bindS {α β : Type} (a : α) (f : α → Option β) : (some a).bind f = f a := rfl
theorem lt_dec {L : Nat} {i : Nat} (h : i < L) : decide ((i : Int) < (L : Int)) = true := by simp; omega
theorem ge_dec {L : Nat} {i : Nat} (h : L ≤ i) : decide ((i : Int) < (L : Int)) = false := by simp; omega
theorem Ex.k_go' {R D : Type} (d : D) (f : D → Option R) : (Ex.go d).k f = f d := rfl
theorem big_lt {n : Nat} (h : n < 4611686018427387904) : n < big := h
end Go.AX.Z
