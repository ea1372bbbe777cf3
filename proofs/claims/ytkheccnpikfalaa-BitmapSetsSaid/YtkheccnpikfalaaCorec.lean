/- A part of the proof: an abstract reading of the model, proved sound. -/
import Derived.Test.YtkheccnpikfalaaCoreb
import Derived.Lib.Overlaps
set_option linter.unusedVariables false
set_option linter.unusedSimpArgs false

/-! (AyM) -/

namespace Go.AX
attribute [go_sem] capE appzE copyC slice3E
theorem ap_t {objs : Nat → Ob} {nx fr : Nat} {t : Nat → AV} {x : AV} {u id : Nat} {cs : List AV} : AS.apply { objs := objs, next := nx, tmps := t } (some u) fr ⟨x, .set id cs⟩ = { objs := doAct fr (.set id cs) objs, next := nx, tmps := upd t u x } := (rfl)
theorem ap_t0 {objs : Nat → Ob} {nx fr : Nat} {t : Nat → AV} {x : AV} {id : Nat} {cs : List AV} : AS.apply { objs := objs, next := nx, tmps := t } none fr ⟨x, .set id cs⟩ = { objs := doAct fr (.set id cs) objs, next := nx, tmps := t } := (rfl)
attribute [go_sem] ap_t ap_t0
end Go.AX
namespace Go.AX.Z
open Go.AX

theorem Snd.open {C : Ctx} {f : FuncId} {id off len sz : Nat} {xs : List AV} {s : HS} {R : AV → HS → Prop} (hl : 0 < len) (h : ∀ cap, len ≤ cap → Snd C f (.refc id off len sz cap :: xs) s R) : Snd C f (.ref id off len sz :: xs) s R := by
  refine ⟨trivial, fun ρ V w args' e1 e2 hI hG => ?_⟩
  obtain ⟨ys⟩ := args'
  match ys, e1, e2 with
  | y :: ys, e1, e2 =>
    have r := e2 0 _ y rfl rfl
    have key : ∃ cap, len ≤ cap ∧ Rel ρ V (.refc id off len sz cap) y := by
      cases r with
      | ref _ _ _ _ cap loc h1 h2 h3 => exact ⟨cap, h3, .refc id off len sz cap loc h1 h2 h3⟩
      | refE => omega
    obtain ⟨cap, hc, r'⟩ := key
    refine (h cap hc).2 ρ V w _ e1 (fun i x z hx hz => ?_) hI hG
    cases i with
    | zero => simp at hx hz; subst hx; subst hz; exact r'
    | succ i => exact e2 (i + 1) x z (by simpa using hx) hz

theorem SndIO.of_walkC {C : Ctx} (hC : COk C) {f : FuncId} {fn : Func} {c : Code} {k : Nat} {args : (Nat → Nat) → List AV} {I : List Tpl} {E : List (Option Tpl)} {mk : (Nat → Nat) → AV} {id off len sz : Nat} {xs : List AV} (hargs : RenML args) (hIr : ∀ c ∈ I, RenML c) (hEr : ∀ c, some c ∈ E → RenML c) (hmk : RenM mk) (hk : I.length = k) (hkE : k ≤ E.length)
    (hf : C.P.funcs[f]? = some fn) (hb : fn.body = some c) (hn : (fn.name == "runtime.NumGoroutine") = false) (hst : stOk fn.ntmps c = true) (hal : (args fun i => i).length ≤ fn.ntmps)
    (he : (args fun i => i) = .ref id off len sz :: xs) (hl : 0 < len)
    (h : ∀ cap, len ≤ cap → awp k C c (endW k C fn fun r' s' => ResIO k r' s' mk E) { objs := iniU (fun _ => .dead) 0 I, next := k, tmps := arg (.refc id off len sz cap :: xs) }) : SndIO C f k args I mk E := by
  intro hs L hL hLn hlive
  obtain ⟨h1, h2⟩ := liveL_get hlive
  refine Snd.of_io hargs hIr hEr hmk hk hkE ?_ hs (thl L) (fun i j hi hj => thl_inj hL i j (by omega) (by omega)) (fun i hi => thl_lt hLn i (by omega)) h2
  rw [he] at hal ⊢
  refine Snd.open hl fun cap hcap => ?_
  have hw : awp k C c (endW k C fn fun r' s' => ResIO k r' s' mk E) (init (.refc id off len sz cap :: xs) ⟨iniO I, k⟩) := by
    rw [ini_eq]; exact h cap hcap
  exact snd_of_awpW hC hf hb hn hst hal hw

theorem Wk.cap {k : Nat} {C : Ctx} {objs : Nat → Ob} {nx : Nat} {tm : Nat → AV} (j : Nat) {id off len sz cap : Nat} (h : tm j = .refc id off len sz cap) : Wk k C { objs := objs, next := nx, tmps := tm } { objs := objs, next := nx, tmps := upd tm j (.ref id off len sz) } := by
  rintro N B a w hl ⟨ρ, V, h1, h2⟩
  refine ⟨ρ, V, fun t => ?_, h2⟩
  show Rel ρ V (upd tm j (.ref id off len sz) t) _
  by_cases ht : t = j
  · subst ht
    have := h1 t
    simp only at this
    rw [h] at this
    rw [upd_eq]
    generalize a.tmps.getD t undef = y at this ⊢
    cases this with
    | refc _ _ _ _ _ loc h1 h2 h3 => exact .ref id off len sz cap loc h1 h2 h3
  · rw [upd_ne _ _ ht]; exact h1 t

theorem overlaps_apart {C : Ctx} {f : FuncId} {fn : Func} {tS tR e : Nat} (hf : C.P.funcs[f]? = some fn) (hn : (fn.name == "runtime.NumGoroutine") = false) (hb : fn.body.isNone = true) (h1 : Extern.findNext fn = none)
    (h2 : Extern.find fn = some (Extern.SlicesOverlaps.overlaps #[tS, tS] #[tR])) (ht : C.P.underlying tS = some (.slice e)) {n : Nat} (hz : szOf C.P e = some n) (hn0 : 0 < n)
    {a o m b o' n' cap : Nat} {ca cb : List AV} {hs : HS} (ha : hs.objs a = .live ca) (hb' : hs.objs b = .live cb) (hab : a ≠ b) (hm : 0 < m) (hc : 0 < cap) :
    Snd C f [.ref a o m n, .refc b o' n' n cap] hs fun r hs' => r = vb false ∧ hs' = hs := by
  refine ⟨trivial, fun ρ V w args' e1 e2 hI hG => .inr ?_⟩
  obtain ⟨ys⟩ := args'
  match ys, e1, e2 with
  | [y1, y2], e1, e2 =>
    have r1 := e2 0 _ y1 rfl rfl
    have r2 := e2 1 _ y2 rfl rfl
    cases r1 with
    | refE => omega
    | ref _ _ _ _ c1 l1 p1 p2 p3 =>
    cases r2 with
    | refc _ _ _ _ _ l2 q1 q2 q3 =>
    obtain ⟨d1, T1, u1, u2, u3, u4⟩ := hI.live a ca l1 ha p1
    obtain ⟨d2, T2, v1, v2, v3, v4⟩ := hI.live b cb l2 hb' q1
    have hne : l1.b ≠ l2.b := fun hh => hab (hI.inj a b l1 l2 ca cb ha hb' p1 q1 hh)
    have hcn : 0 < cap * n := Nat.mul_pos hc hn0
    refine ⟨.bool false, w, ?_, _, vb false, hs, ρ, V, rfl, ⟨rfl, rfl⟩, .v _, hI, Grew.refl _ _ _ _⟩
    rw [run_callFunc_extern hf hn hb h1 h2]
    have := Lib.run_overlaps_apart (P := C.P) w tS tR e ht n (szOf_run hz) ⟨l1.b, l1.base + o, none⟩ ⟨l2.b, l2.base + o', none⟩ m c1 n' cap hne T1 T2 d1.size d2.size
      (by simp [World.shape?, u1]) (by simp [World.shape?, v1]) (by omega) (by simp [World.frozen?, u1]) (by simp [World.frozen?, u1])
    simp only [this, Result.andThen_ok]
end Go.AX.Z
namespace Go.AX.Z
open Go.AX
theorem putAt_in {cells cs : List AV} {off : Nat} (h : off + cs.length ≤ cells.length) : putAt cells off cs = cells.take off ++ cs ++ cells.drop (off + cs.length) := by
  unfold putAt
  split
  · rename_i x
    simp only [List.length_cons, List.length_nil, Nat.zero_add] at h ⊢
    rw [List.set_eq_take_append_cons_drop, if_pos (by omega)]
    simp
  · rw [if_pos h]
theorem ins_grow {α : Type} (R : List α → List AV) (sz : Nat) (hL : ∀ l, (R l).length = l.length * sz) (hA : ∀ x y, R (x ++ y) = R x ++ R y)
    (a1 a2 : List α) (i : Nat) (hm : a2.length = 1) (hi : i < a1.length) (z : List AV) (hz : z.length = sz) :
    putAt (putAt (R (a1.take i) ++ rep (a1.length + 1 - i) z) (i * sz) (R a2)) ((i + 1) * sz) (R (a1.drop i)) = R (a1.take i ++ a2 ++ a1.drop i) := by
  have e1 : (R a2).length = sz := by rw [hL, hm, Nat.one_mul]
  have e2 : (R (a1.take i)).length = i * sz := by rw [hL, List.length_take]; congr 1; omega
  have e3 : (rep (a1.length + 1 - i) z).length = (a1.length + 1 - i) * sz := by rw [rep_length, hz]
  have e4 : (R (a1.drop i)).length = (a1.length - i) * sz := by rw [hL, List.length_drop]
  have e5 : (a1.length + 1 - i) * sz = sz + (a1.length - i) * sz := by
    rw [show a1.length + 1 - i = 1 + (a1.length - i) by omega, Nat.add_mul, Nat.one_mul]
  have e6 : (i + 1) * sz = i * sz + sz := by rw [Nat.add_mul, Nat.one_mul]
  rw [putAt_in (cells := R (List.take i a1) ++ rep (a1.length + 1 - i) z) (cs := R a2) (by rw [List.length_append, e1, e2, e3]; omega), List.take_append_of_le_length (by omega), List.take_of_length_le (by omega)]
  rw [putAt_in (by simp only [List.length_append, List.length_drop, e1, e2, e3, e4]; omega)]
  rw [List.take_append_of_le_length (by simp only [List.length_append, e1, e2]; omega), List.take_of_length_le (by simp only [List.length_append, e1, e2]; omega)]
  rw [show ∀ l : List AV, l.length ≤ (i + 1) * sz + (R (a1.drop i)).length → R (a1.take i) ++ R a2 ++ R (a1.drop i) ++ l.drop ((i + 1) * sz + (R (a1.drop i)).length) = R (a1.take i) ++ R a2 ++ R (a1.drop i) from fun l hl => by rw [List.drop_of_length_le hl, List.append_nil], hA, hA]
  simp only [List.length_append, List.length_drop, e1, e2, e3, e4]; omega
theorem ins_room {α : Type} (R : List α → List AV) (sz : Nat) (hL : ∀ l, (R l).length = l.length * sz) (hA : ∀ x y, R (x ++ y) = R x ++ R y) (hT : ∀ x n, (R x).take (n * sz) = R (x.take n))
    (a1 a2 : List α) (i : Nat) (hi : i < a1.length) {c1 : List AV} (h1 : c1 = List.take ((i + 1) * sz) (R a1) ++ R (a1.drop i) ++ List.drop ((i + 1) * sz + (a1.length - i) * sz) (R a1)) :
    c1.length = (a1.length + 1) * sz ∧ List.take (i * sz) c1 ++ R a2 ++ List.drop (i * sz + sz) c1 = R (a1.take i ++ a2 ++ a1.drop i) := by
  have e2 : (R (a1.take (i + 1))).length = (i + 1) * sz := by rw [hL, List.length_take]; congr 1; omega
  have e4 : (R (a1.drop i)).length = (a1.length - i) * sz := by rw [hL, List.length_drop]
  have e6 : (i + 1) * sz = i * sz + sz := by rw [Nat.add_mul, Nat.one_mul]
  have e7 : (a1.length + 1) * sz = (i + 1) * sz + (a1.length - i) * sz := by rw [← Nat.add_mul]; congr 1; omega
  have e8 : (a1.length + 1) * sz = a1.length * sz + sz := by rw [Nat.add_mul, Nat.one_mul]
  rw [show List.drop ((i + 1) * sz + (a1.length - i) * sz) (R a1) = [] from List.drop_of_length_le (by rw [hL, ← e7, e8]; omega), List.append_nil, hT] at h1
  subst h1
  refine ⟨by rw [List.length_append, e2, e4, e7], ?_⟩
  rw [List.take_append_of_le_length (by omega), hT, List.take_take, show min i (i + 1) = i by omega, hA, hA]
  congr 1
  rw [← e6, List.drop_append, e2, Nat.sub_self, List.drop_zero, List.drop_of_length_le (by omega), List.nil_append]
end Go.AX.Z
namespace Go.AX.Z
open Go.AX
theorem del_rows {α : Type} (R : List α → List AV) (sz : Nat) (hL : ∀ l, (R l).length = l.length * sz) (hA : ∀ x y, R (x ++ y) = R x ++ R y) (hT : ∀ x n, (R x).take (n * sz) = R (x.take n))
    (a : List α) (i j : Nat) (hij : i < j) (hj : j ≤ a.length) {c1 : List AV} (h1 : c1 = List.take (i * sz) (R a) ++ R (a.drop j) ++ List.drop (i * sz + (a.length - j) * sz) (R a)) :
    c1.length = a.length * sz ∧ List.take ((i + (a.length - j)) * sz) c1 = R (a.take i ++ a.drop j) := by
  have e2 : (R (a.take i)).length = i * sz := by rw [hL, List.length_take]; congr 1; omega
  have e4 : (R (a.drop j)).length = (a.length - j) * sz := by rw [hL, List.length_drop]
  have e5 : (i + (a.length - j)) * sz = i * sz + (a.length - j) * sz := Nat.add_mul _ _ _
  have e6 : (i + (a.length - j)) * sz ≤ a.length * sz := Nat.mul_le_mul_right _ (by omega)
  rw [hT] at h1
  subst h1
  refine ⟨by rw [List.length_append, List.length_append, e2, e4, List.length_drop, hL]; omega, ?_⟩
  rw [List.take_append_of_le_length (by rw [List.length_append, e2, e4]; omega), List.take_of_length_le (by rw [List.length_append, e2, e4]; omega), hA]
end Go.AX.Z

/-! (AyN) -/

namespace Go.AX.Z
open Go.AX
def band (k : IntKind) (a b : Int) : Int := k.wrap ((BitVec.ofInt k.bits a &&& BitVec.ofInt k.bits b).toNat)
def bor (k : IntKind) (a b : Int) : Int := k.wrap ((BitVec.ofInt k.bits a ||| BitVec.ofInt k.bits b).toNat)
def bxor (k : IntKind) (a b : Int) : Int := k.wrap ((BitVec.ofInt k.bits a ^^^ BitVec.ofInt k.bits b).toNat)
def bandn (k : IntKind) (a b : Int) : Int := k.wrap ((BitVec.ofInt k.bits a &&& ~~~ BitVec.ofInt k.bits b).toNat)
theorem iop_and {k : IntKind} {a b : Int} : iop .and k a k b = some (.int k (band k a b)) := by simp only [iop, if_true, band]
theorem iop_or {k : IntKind} {a b : Int} : iop .or k a k b = some (.int k (bor k a b)) := by simp only [iop, if_true, bor]
theorem iop_xor {k : IntKind} {a b : Int} : iop .xor k a k b = some (.int k (bxor k a b)) := by simp only [iop, if_true, bxor]
theorem iop_andn {k : IntKind} {a b : Int} : iop .andNot k a k b = some (.int k (bandn k a b)) := by simp only [iop, if_true, bandn]
end Go.AX.Z
namespace Go.AX.Z
open Go.AX
def nilOr (b : Bool) (x : AV) : AV := bif b then .v (.slice none 0 0) else x
section
variable {s : AS} {F : List Nat} {σ : List (Option Nat)} {x y : AV}
theorem Tm.on {b : Bool} (h : Tm s F σ x y) : Tm s F σ (nilOr b x) (nilOr b y) := by cases b <;> first | exact h | exact Tm.v _
end
end Go.AX.Z

/-! (AyO) -/

namespace Go.AX

def plainB : AV → Bool
  | .v _ => true
  | _ => false

def freshX (cf : CallF) (f : FuncId) (args : List AV) (objs : Nat → Ob) (fr : Nat) : Option (Eff × Foot) :=
  let as := args.map (fz objs deep)
  let rd := args.flatMap (reach objs deep)
  match cf f as (deadH 0) with
  | some (.ref id 0 len sz, hs) => match hs.objs id with
    | .live cells => if as.all (cleanB 12) && cells.all plainB then some (⟨.ref fr 0 len sz, .new cells⟩, rd) else none
    | _ => none
  | _ => none

def drawV (cf : CallF) (C : Ctx) (all : List Oper) (base : Nat) : Nat → List Oper → AS → List Print → Option AS
  | _, [], s, acc => if printsOk all acc then some s else none
  | i, o :: rest, s, acc => match wantX all s o.guard with
    | some true => match callOf C s o.op with
      | some (f, args) => match quietX cf f args s.objs with
        | some (r, rd) => drawV cf C all base (i + 1) rest { s with tmps := putT s.tmps o.dst r } (addP (i, rd, []) acc)
        | none => match freshX cf f args s.objs (base + i) with
          | some (e, rd) => drawV cf C all base (i + 1) rest (s.apply o.dst (base + i) e) (addP (i, rd, wrOf (base + i) e.act) acc)
          | none => none
      | none => match opEff C s (base + i) o.op with
        | some e => drawV cf C all base (i + 1) rest (s.apply o.dst (base + i) e) (addP (i, rdOf C s o.op, wrOf (base + i) e.act) acc)
        | none => none
    | some false => drawV cf C all base (i + 1) rest { s with tmps := putT s.tmps o.dst (.v undef) } acc
    | none => none

def codeV (C : Ctx) (ex : Code → AS → Option (AExit × AS)) (c : Code) (s : AS) : Option (AExit × AS) :=
  match c with
  | .skip => some (.normal, s)
  | .label _ => some (.normal, s)
  | .ret => some (.ret, s)
  | .exit id => some (.exit id, s)
  | .region _ ops draw => match draw with
    | false => (seqX (callX ex C) C ops.toList s.next 0 ops.toList { s with next := s.next + ops.size }).map fun s' => (.normal, s')
    | true => (drawV (callX ex C) C ops.toList s.next 0 ops.toList { s with next := s.next + ops.size } []).map fun s' => (.normal, s')
  | .seq a b => match ex a s with
    | some (.normal, s') => ex b s'
    | r => r
  | .cond c a b => match ev C s c with
    | .v (.bool true) => ex a s
    | .v (.bool false) => ex b s
    | _ => none
  | .block id c => match ex c s with
    | some (.exit j, s') => if j = id then some (.normal, s') else some (.exit j, s')
    | r => r
  | .loop c => match ex c s with
    | some (.normal, s') => ex (.loop c) s'
    | r => r
  | _ => none

noncomputable def execV (C : Ctx) (n : Nat) : Code → AS → Option (AExit × AS) := Nat.rec (fun _ _ => none) (fun _ ex => codeV C ex) n


theorem freshX_ok {C : Ctx} {cf : CallF} (hcf : CallOk C cf) {f : FuncId} {args : List AV} {objs : Nat → Ob} {fr : Nat} {e : Eff} {rd : Foot} (h : freshX cf f args objs fr = some (e, rd)) : ECall C f args objs rd fr e := by
  unfold freshX at h
  dsimp only at h
  split at h
  · rename_i id len sz hs hcall
    split at h
    · rename_i cells ho
      split at h
      · rename_i hc
        simp only [Option.some.injEq, Prod.mk.injEq] at h
        obtain ⟨rfl, rfl⟩ := h
        simp only [Bool.and_eq_true, List.all_eq_true] at hc
        obtain ⟨hc1, hc2⟩ := hc
        have pl : ∀ c ∈ cells, ∃ x, c = .v x := by
          intro c hm
          have := hc2 c hm
          unfold plainB at this
          split at this
          · exact ⟨_, rfl⟩
          · cases this
        have hclean : ∀ x ∈ args.map (fz objs deep), Clean x := fun x hx => cleanB_ok 12 x (hc1 x hx)
        have hsnd : Snd C f (args.map (fz objs deep)) (deadH 0) fun r' s' => Z.Res r' s' (fun q => .ref (q 0) 0 len sz) [cells] := by
          refine (hcf _ _ _ _ _ hcall).mono ?_
          rintro r' s' ⟨rfl, rfl⟩
          exact Z.Res.mk [] [some id] (by simp [Z.sgB]) (Z.resOU List.not_mem_nil ho (Z.TmL.clean fun c hm => by obtain ⟨x, rfl⟩ := pl c hm; exact Clean.v x) Z.resO0) (Z.Tm.refL rfl rfl)
        intro hs' hag
        refine Z.SndE.lend (fun s => ?_) (Z.NoV.ref _ _ _ _) (fun c hm => by obtain ⟨x, rfl⟩ := pl c hm; exact Z.NoV.v x)
        have : args.map (fz hs'.objs deep) = args.map (fz objs deep) := List.map_congr_left fun c hc => fz_agree deep c (agrees_sub hag fun p hp => List.mem_flatMap.2 ⟨c, hc, hp⟩)
        rw [this]
        exact Z.SndE.of_res (Z.RenM.ref 0 0 _ _) (fun c hm => by obtain ⟨x, rfl⟩ := pl c hm; exact Clean.v x) hclean (fun a b h => by simp only [h]) hsnd s fr
      · cases h
    · cases h
  · cases h

theorem drawV_ok {C : Ctx} {cf : CallF} (hcf : CallOk C cf) {all : List Oper} {base : Nat} {K : AS → Prop} : ∀ (l : List Oper) (i : Nat) (s s' : AS) (acc : List Print), drawV cf C all base i l s acc = some s' → K s' → drawW C all base i l s acc K
  | [], i, s, s', acc, h, hk => by
    simp only [drawV] at h
    split at h
    · rename_i hp
      simp only [Option.some.injEq] at h; subst h; exact ⟨hp, hk⟩
    · cases h
  | o :: rest, i, s, s', acc, h, hk => by
    have step : (match callOf C s o.op with
      | some (f, args) => match quietX cf f args s.objs with
        | some (r, rd) => drawV cf C all base (i + 1) rest { s with tmps := putT s.tmps o.dst r } (addP (i, rd, []) acc)
        | none => match freshX cf f args s.objs (base + i) with
          | some (e, rd) => drawV cf C all base (i + 1) rest (s.apply o.dst (base + i) e) (addP (i, rd, wrOf (base + i) e.act) acc)
          | none => none
      | none => match opEff C s (base + i) o.op with
        | some e => drawV cf C all base (i + 1) rest (s.apply o.dst (base + i) e) (addP (i, rdOf C s o.op, wrOf (base + i) e.act) acc)
        | none => none) = some s' → (match callOf C s o.op with
            | some (f, args) => ∃ e rd, ECall C f args s.objs rd (base + i) e ∧ drawW C all base (i + 1) rest (s.apply o.dst (base + i) e) (addP (i, rd, wrOf (base + i) e.act) acc) K
            | none => match opEff C s (base + i) o.op with
              | some e => drawW C all base (i + 1) rest (s.apply o.dst (base + i) e) (addP (i, rdOf C s o.op, wrOf (base + i) e.act) acc) K
              | none => False) := by
      intro h
      cases hc : callOf C s o.op with
      | some p =>
        obtain ⟨f, args⟩ := p
        simp only [hc] at h ⊢
        cases hcall : quietX cf f args s.objs with
        | none =>
          simp only [hcall] at h
          cases hfr : freshX cf f args s.objs (base + i) with
          | none => simp [hfr] at h
          | some q =>
            obtain ⟨e, rd⟩ := q
            simp only [hfr] at h
            exact ⟨e, rd, freshX_ok hcf hfr, drawV_ok hcf rest (i + 1) _ _ _ h hk⟩
        | some q =>
          obtain ⟨r, rd⟩ := q
          simp only [hcall] at h
          exact ⟨⟨r, .none⟩, rd, (quietX_ok hcf hcall).toE _, drawV_ok hcf rest (i + 1) _ _ _ h hk⟩
      | none =>
        simp only [hc] at h ⊢
        cases he : opEff C s (base + i) o.op with
        | none => simp [he] at h
        | some e =>
          simp only [he] at h ⊢
          exact drawV_ok hcf rest (i + 1) _ _ _ h hk
    simp only [drawV] at h
    simp only [drawW]
    cases hg : o.guard with
    | none =>
      simp only [hg, wantX] at h ⊢
      exact step h
    | some p =>
      obtain ⟨g, want⟩ := p
      simp only [hg, wantX] at h ⊢
      cases hd : (all[g]?).bind (·.dst) with
      | none => simp [hd] at h
      | some d =>
        simp only [hd] at h ⊢
        cases hx : s.tmps d with
        | v x =>
          simp only [hx] at h
          cases hb : isB x want with
          | true =>
            simp only [hb] at h
            exact ⟨x, rfl, fun _ => step h, fun hh => absurd (isB_iff.1 hb) hh⟩
          | false =>
            simp only [hb] at h
            exact ⟨x, rfl, fun hh => absurd hh (isB_iff.2 hb), fun _ => drawV_ok hcf rest (i + 1) _ _ _ h hk⟩
        | _ => simp [hx] at h

theorem execV_ok {C : Ctx} (hC : COk C) : ∀ (n : Nat) (c : Code) (s : AS) (e : AExit) (s' : AS), execV C n c s = some (e, s') → ∀ Q : AExit → AS → Prop, Q e s' → awp C c Q s
  | 0, c, s, e, s', h => by cases h
  | n + 1, c, s, e, s', h => by
    intro Q hQ
    have ih := execV_ok hC n
    have hcf := callX_ok hC ih
    have h' : codeV C (execV C n) c s = some (e, s') := h
    cases c with
    | skip => cases h'; exact hQ
    | label l => cases h'; exact hQ
    | ret => cases h'; exact hQ
    | exit id => cases h'; exact hQ
    | goto l => cases h'
    | refuse why => cases h'
    | scope c => cases h'
    | rangeFunc f ps x y => cases h'
    | region id ops draw =>
      cases draw with
      | false =>
        simp only [codeV, Option.map_eq_some_iff] at h'
        obtain ⟨t, h1, h2⟩ := h'
        cases h2
        exact seqX_ok hcf _ _ _ _ h1 hQ
      | true =>
        simp only [codeV, Option.map_eq_some_iff] at h'
        obtain ⟨t, h1, h2⟩ := h'
        cases h2
        exact drawV_ok hcf _ _ _ _ _ h1 hQ
    | seq a b =>
      simp only [codeV] at h'
      cases ha : execV C n a s with
      | none => simp [ha] at h'
      | some p =>
        obtain ⟨e1, s1⟩ := p
        refine ih a s e1 s1 ha _ ?_
        cases e1 with
        | normal => simp only [ha] at h'; exact ⟨s1, Wk.refl _ _, ih b s1 e s' h' Q hQ⟩
        | exit j => simp only [ha, Option.some.injEq, Prod.mk.injEq] at h'; obtain ⟨rfl, rfl⟩ := h'; exact hQ
        | ret => simp only [ha, Option.some.injEq, Prod.mk.injEq] at h'; obtain ⟨rfl, rfl⟩ := h'; exact hQ
    | cond c a b =>
      simp only [codeV] at h'
      split at h'
      · rename_i hev; exact awp_cond1 hev (fun _ => ih a s e s' h' Q hQ) (fun hh => by cases hh)
      · rename_i hev; exact awp_cond1 hev (fun hh => by cases hh) (fun _ => ih b s e s' h' Q hQ)
      · cases h'
    | block id c =>
      simp only [codeV] at h'
      cases ha : execV C n c s with
      | none => simp [ha] at h'
      | some p =>
        obtain ⟨e1, s1⟩ := p
        refine ih c s e1 s1 ha _ ?_
        cases e1 with
        | normal => simp only [ha, Option.some.injEq, Prod.mk.injEq] at h'; obtain ⟨rfl, rfl⟩ := h'; exact hQ
        | ret => simp only [ha, Option.some.injEq, Prod.mk.injEq] at h'; obtain ⟨rfl, rfl⟩ := h'; exact hQ
        | exit j =>
          simp only [ha] at h'
          simp only
          split at h'
          · rename_i hj; cases h'; rw [if_pos hj]; exact hQ
          · rename_i hj; cases h'; rw [if_neg hj]; exact hQ
    | loop c =>
      simp only [codeV] at h'
      cases ha : execV C n c s with
      | none => simp [ha] at h'
      | some p =>
        obtain ⟨e1, s1⟩ := p
        cases e1 with
        | normal =>
          simp only [ha] at h'
          exact awp_unroll (fun Q' hQ' => ih c s .normal s1 ha Q' hQ') (ih (.loop c) s1 e s' h' Q hQ)
        | exit j =>
          simp only [ha, Option.some.injEq, Prod.mk.injEq] at h'
          obtain ⟨rfl, rfl⟩ := h'
          exact awp_once1 (ih c _ _ _ ha _ hQ)
        | ret =>
          simp only [ha, Option.some.injEq, Prod.mk.injEq] at h'
          obtain ⟨rfl, rfl⟩ := h'
          exact awp_once1 (ih c _ _ _ ha _ hQ)

noncomputable def ranV (C : Ctx) (n : Nat) (f : FuncId) (args : List AV) : Option AV := (callX (execV C n) C f args (deadH 0)).map fun p => fz p.2.objs deep p.1

theorem SndP.of_runV {C : Ctx} (hC : COk C) {n : Nat} {f : FuncId} {args : List AV} {r : AV} (hr : cleanB 12 r = true) (ha : args.all (cleanB 12) = true) (h : ranV C n f args = some r) : SndP C f args r := by
  unfold ranV at h
  simp only [Option.map_eq_some_iff] at h
  obtain ⟨⟨r0, hs⟩, h1, h2⟩ := h
  refine SndP.of_zero (cleanB_ok 12 r hr) (fun x hx => cleanB_ok 12 x (List.all_eq_true.1 ha x hx)) ?_
  refine (callX_ok hC (execV_ok hC n) _ _ _ _ _ h1).mono ?_
  rintro r' s' ⟨rfl, rfl⟩
  exact h2


end Go.AX

/-! (AzA) -/

namespace Go.AX.Z
open Go.AX

theorem idxN {α : Type} (l : List α) (i : Nat) : idx l (i : Int) = l[i]? := by simp [idx]
theorem drop_c {α : Type} {L l : List α} {x : α} {i : Nat} (h : L.drop i = x :: l) : L[i]? = some x ∧ L.drop (i + 1) = l ∧ i < L.length := by
  have h1 : i < L.length := by
    rcases Nat.lt_or_ge i L.length with h2 | h2
    · exact h2
    · rw [List.drop_eq_nil_of_le h2] at h; cases h
  rw [List.drop_eq_getElem_cons h1] at h
  injection h with h2 h3
  exact ⟨by simp [h1, h2], h3, h1⟩
theorem drop_n {α : Type} {L : List α} {i : Nat} (h : L.drop i = []) : L.length ≤ i := List.drop_eq_nil_iff.1 h
theorem wrapN {i : Nat} (h : i < 4611686018427387904) : IntKind.wrap .i64 ((i : Int) + 1) = ((i + 1 : Nat) : Int) := by
  rw [wrap64 (by omega) (by omega)]; omega
theorem wrapI {i : Int} (h1 : -4611686018427387904 ≤ i) (h2 : i < 4611686018427387904) : IntKind.wrap .i64 i = i := wrap64 (by omega) (by omega)
theorem chk_t {c : Bool} (h : c = true) : chk c = some () := by rw [h]; rfl
theorem chk_d {p : Prop} [Decidable p] (h : p) : chk (decide p) = some () := chk_t (by simpa using h)
theorem bindS {α β : Type} (a : α) (f : α → Option β) : (some a).bind f = f a := rfl
theorem lt_dec {L : Nat} {i : Nat} (h : i < L) : decide ((i : Int) < (L : Int)) = true := by simp; omega
theorem ge_dec {L : Nat} {i : Nat} (h : L ≤ i) : decide ((i : Int) < (L : Int)) = false := by simp; omega
theorem big_lt {n : Nat} (h : n < 4611686018427387904) : n < big := h
end Go.AX.Z
