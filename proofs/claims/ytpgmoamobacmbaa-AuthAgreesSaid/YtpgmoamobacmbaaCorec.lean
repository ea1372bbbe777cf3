/- A part of the proof: an abstract reading of the model, proved sound. -/
import Derived.Test.YtpgmoamobacmbaaCoreb
import Derived.Laws.Externs
import GoSem.Extern.BytealgCompare
import Derived.Lib.Overlaps
set_option linter.unusedVariables false
set_option linter.unusedSimpArgs false

/-! (AyF) -/

namespace Go.AX.Z
open Go.AX

def RenM (mk : (Nat → Nat) → AV) : Prop := ∀ (a b : Nat → Nat) (ρ ρ' : Rho) (V : View) (y : Value), (∀ i, ρ' (b i) = ρ (a i)) → Rel ρ V (mk a) y → Rel ρ' V (mk b) y

theorem RenM.const {x : AV} (h : Clean x) : RenM fun _ => x := fun _ _ _ _ _ _ _ hr => h _ _ _ _ hr
theorem RenM.ref (i off len sz : Nat) : RenM fun q => .ref (q i) off len sz := by
 intro a b ρ ρ' V y he hr
 cases hr with
 | ref _ _ _ _ cap loc h hc hl => exact .ref (b i) off len sz cap loc (by rw [he]; exact h) hc hl
 | refE _ _ _ addr => exact .refE (b i) off sz addr

inductive RenML : ((Nat → Nat) → List AV) → Prop
 | nil : RenML fun _ => []
 | cons {x : (Nat → Nat) → AV} {l : (Nat → Nat) → List AV} (h : RenM x) (t : RenML l) : RenML fun q => x q :: l q

theorem RenML.const : ∀ {l : List AV}, (∀ c ∈ l, Clean c) → RenML fun _ => l
 | [], _ => .nil
 | c :: l, h => .cons (.const (h c (by simp))) (RenML.const fun d hd => h d (by simp [hd]))

theorem RenML.get {l : (Nat → Nat) → List AV} (h : RenML l) : (∀ a b, (l a).length = (l b).length) ∧ ∀ (i : Nat) a b x z, (l a)[i]? = some x → (l b)[i]? = some z → ∀ (ρ ρ' : Rho) (V : View) (y : Value), (∀ i, ρ' (b i) = ρ (a i)) → Rel ρ V x y → Rel ρ' V z y := by
 induction h with
 | nil => exact ⟨fun _ _ => rfl, fun i a b x z hx => by simp at hx⟩
 | cons h t ih =>
  refine ⟨fun a b => by simp [ih.1 a b], fun i a b x z hx hz => ?_⟩
  cases i with
  | zero => simp at hx hz; subst hx; subst hz; exact h a b
  | succ i => simp at hx hz; exact ih.2 i a b x z hx hz

theorem RenML.list {l : (Nat → Nat) → List AV} (h : RenML l) {a b : Nat → Nat} {ρ ρ' : Rho} {V : View} (he : ∀ i, ρ' (b i) = ρ (a i)) {ys : Array Value}
  (H : ∀ (i : Nat) x y, (l a)[i]? = some x → ys[i]? = some y → Rel ρ V x y) : ∀ (i : Nat) x y, (l b)[i]? = some x → ys[i]? = some y → Rel ρ' V x y := by
 intro i x y hx hy
 have hi : i < (l b).length := (List.getElem?_eq_some_iff.1 hx).1
 have hi' : i < (l a).length := by rw [h.get.1 a b]; exact hi
 have e : (l a)[i]? = some (l a)[i] := by simp [hi']
 exact h.get.2 i a b _ _ e hx ρ ρ' V y he (H i _ y e hy)

theorem RenM.agg {l : (Nat → Nat) → List AV} (h : RenML l) : RenM fun q => .agg (l q) := by
 intro a b ρ ρ' V y he hr
 cases hr with
 | agg _ ys h1 H S => exact .agg _ ys (by rw [h1, h.get.1 a b]) (h.list he H) S
theorem RenM.tup {l : (Nat → Nat) → List AV} (h : RenML l) : RenM fun q => .tup (l q) := by
 intro a b ρ ρ' V y he hr
 cases hr with
 | tup _ ys h1 H => exact .tup _ ys (by rw [h1, h.get.1 a b]) (h.list he H)

def newL (objs : Nat → Ob) (n : Nat) : List (List AV) → Nat → Ob
 | [] => objs
 | c :: l => newL (upd objs n (.live c)) (n + 1) l
theorem newL_n (objs : Nat → Ob) (n : Nat) : newL objs n [] = objs := rfl
theorem newL_c (objs : Nat → Ob) (n : Nat) (c : List AV) (l : List (List AV)) : newL objs n (c :: l) = newL (upd objs n (.live c)) (n + 1) l := rfl
theorem newL_get : ∀ (l : List (List AV)) (objs : Nat → Ob) (n id : Nat), newL objs n l id = if n ≤ id then (match l[id - n]? with | some c => .live c | none => objs id) else objs id
 | [], objs, n, id => by simp [newL]
 | c :: l, objs, n, id => by
  rw [newL_c, newL_get l]
  by_cases h1 : n + 1 ≤ id
  ·
   rw [if_pos h1, if_pos (by omega : n ≤ id), show id - n = (id - (n + 1)) + 1 by omega, List.getElem?_cons_succ, upd_ne _ _ (by omega : id ≠ n)]
  ·
   rw [if_neg h1]
   by_cases h2 : id = n
   ·
    subst h2; simp
   ·
    rw [upd_ne _ _ h2, if_neg (by omega)]

def Res (r' : AV) (s' : HS) (mk : (Nat → Nat) → AV) (l : List (List AV)) : Prop :=
 ∃ (F : List Nat) (σ : List (Option Nat)), sgB 0 σ = true ∧ σ.length = l.length ∧
  (∀ (i old : Nat) cs, σ[i]? = some (some old) → l[i]? = some cs → old ∉ F ∧ ∃ xs, s'.objs old = .live xs ∧ TmL ⟨s', fun _ => .unk⟩ F σ xs cs) ∧ Tm ⟨s', fun _ => .unk⟩ F σ r' (mk fun i => i)

theorem lt_heap {w : World} {b : Nat} {x : Obj} (h : w.heap[b]? = some x) : b < w.heap.size := (Array.getElem?_eq_some_iff.1 h).1

theorem Snd.of_newM {C : Ctx} {f : FuncId} {args : List AV} {mk : (Nat → Nat) → AV} {l : List (List AV)} (hmk : RenM mk) (hcl : ∀ cs ∈ l, ∀ c ∈ cs, Clean c) (ha : ∀ x ∈ args, Clean x)
  (h : Snd C f args (deadH 0) fun r' s' => Res r' s' mk l) (hs : HS) :
  Snd C f args hs fun r hs' => r = mk (fun i => hs.next + i) ∧ hs' = ⟨newL hs.objs hs.next l, hs.next + l.length⟩ := by
 refine ⟨trivial, fun ρ V w args' h1 h2 hI hG => ?_⟩
 have hI0 : Inv r0 V (deadH 0) w := ⟨hI.view, fun _ _ => rfl, fun id cells loc hl => by simp [deadH] at hl, fun id cells loc hl => by simp [deadH] at hl, fun i j li lj ci cj hi => by simp [deadH] at hi⟩
 have ha' : ∀ (i : Nat) x y, args[i]? = some x → args'[i]? = some y → Rel r0 V x y := fun i x y hx hy => ha x (List.mem_of_getElem? hx) _ _ _ _ (h2 i x y hx hy)
 refine (h.2 r0 V w args' h1 ha' hI0 hG).mono ?_
 rintro ed w' ⟨y, r', s', ρ', V', rfl, ⟨F, σ, hsg, hlen, hobj, htm⟩, hrel, hinv, hg⟩
 simp only [sgB, Bool.and_eq_true, decide_eq_true_eq] at hsg
 have hinj := sg_inj hsg.2
 have noOwn : ∀ b, ¬ Own r0 (deadH 0) b := by rintro b ⟨id, cs, loc, g1, _⟩; simp [deadH] at g1
 have hlow : ∀ b, Own ρ' s' b → w.heap.size ≤ b := fun b hb => (hg.own b hb).elim (fun h => (noOwn b h).elim) id
 have hvg : ∀ b c, V' b = some c → V b = some c ∨ w.heap.size ≤ b := by
  intro b c hv
  rcases hg.vnew b c hv with h5 | h5 | h5
  ·
   exact .inl h5
  ·
   exact (noOwn b h5).elim
  ·
   exact .inr h5
 have ofo : ∀ b, OwnF F ρ' s' b → Own ρ' s' b := fun b ⟨id, cells, loc, _, g1, g2, g3⟩ => ⟨id, cells, loc, g1, g2, g3⟩
 have hk : ∀ b, b < w.heap.size → w'.heap[b]? = w.heap[b]? := fun b hb => hg.keep b hb (noOwn b)
 have hfg : ∀ b c, VF F ρ' V' s' w' b = some c → V b = some c ∨ w.heap.size ≤ b := by
  intro b c hv
  rcases VF_cases hv with h5 | ⟨h5, _⟩
  ·
   exact hvg b c h5
  ·
   exact .inr (hlow b (ofo b h5))
 have hvm : ∀ b c, V b = some c → VF F ρ' V' s' w' b = some c := fun b c hv => VF_mono _ _ (hg.view b c hv)
 let ρ1 : Rho := fun i => match σ[i]? with
  | some (some old) => ρ' old
  | _ => none
 have hρ1 : ∀ i old, σ[i]? = some (some old) → ρ1 i = ρ' old := fun i old h => by simp only [ρ1, h]
 have hρ1s : ∀ i loc, ρ1 i = some loc → ∃ old, σ[i]? = some (some old) ∧ ρ' old = some loc := by
  intro i loc h
  simp only [ρ1] at h
  split at h
  ·
   rename_i old ho'; exact ⟨old, ho', h⟩
  ·
   cases h
 let ρ2 : Rho := fun id => if hs.next ≤ id then ρ1 (id - hs.next) else ρ id
 have hold : ∀ id, id < hs.next → ρ2 id = ρ id := fun id hid => by simp only [ρ2, if_neg (by omega : ¬ hs.next ≤ id)]
 have hnew : ∀ i, ρ2 (hs.next + i) = ρ1 i := fun i => by simp only [ρ2, if_pos (Nat.le_add_right _ _), Nat.add_sub_cancel_left]
 have hrho : ∀ id loc, ρ id = some loc → ρ2 id = some loc := by
  intro id loc hl
  rcases Nat.lt_or_ge id hs.next with h' | h'
  ·
   rw [hold id h']; exact hl
  ·
   rw [hI.fresh id h'] at hl; cases hl
 have hc : Cvt ⟨s', fun _ => .unk⟩ F σ ρ' ρ1 V' (VF F ρ' V' s' w') := by
  refine ⟨hρ1, VF_mono, fun id cells loc hid hl hr => ?_⟩
  obtain ⟨c, T, g1, g2, g3, g4⟩ := hinv.live id cells loc hl hr
  refine ⟨c, ?_, g3⟩
  have hof : OwnF F ρ' s' loc.b := ⟨id, cells, loc, hid, hl, hr, rfl⟩
  simp only [VF, g4, if_pos hof, g1]
 -- an object of the new heap
 have hob : ∀ id cs, newL hs.objs hs.next l id = .live cs → (id < hs.next ∨ l.length ≤ id - hs.next) ∧ hs.objs id = .live cs ∨ hs.next ≤ id ∧ l[id - hs.next]? = some cs := by
  intro id cs hl
  rw [newL_get] at hl
  split at hl
  ·
   rename_i hle
   split at hl
   ·
    rename_i c hc'
    cases hl; exact .inr ⟨hle, hc'⟩
   ·
    rename_i hn
    exact .inl ⟨.inr (List.getElem?_eq_none_iff.1 hn), hl⟩
  ·
   rename_i hle; exact .inl ⟨.inl (by omega), hl⟩
 have newO : ∀ id cs loc, hs.next ≤ id → l[id - hs.next]? = some cs → ρ2 id = some loc → ∃ old xs, σ[id - hs.next]? = some (some old) ∧ ρ' old = some loc ∧ old ∉ F ∧ s'.objs old = .live xs ∧ TmL ⟨s', fun _ => .unk⟩ F σ xs cs := by
  intro id cs loc hle hcs hρ
  have : ρ2 id = ρ1 (id - hs.next) := by rw [← hnew, Nat.add_sub_cancel' hle]
  rw [this] at hρ
  obtain ⟨old, g1, g2⟩ := hρ1s _ _ hρ
  obtain ⟨g3, xs, g4, g5⟩ := hobj _ old cs g1 hcs
  exact ⟨old, xs, g1, g2, g3, g4, g5⟩
 have oldO : ∀ id loc, (id < hs.next ∨ l.length ≤ id - hs.next) → ρ2 id = some loc → ρ id = some loc := by
  intro id loc hid hρ
  rcases Nat.lt_or_ge id hs.next with h' | h'
  ·
   rw [← hold id h']; exact hρ
  ·
   have h'' : ρ2 id = ρ1 (id - hs.next) := by rw [← hnew, Nat.add_sub_cancel' h']
   rw [h''] at hρ
   obtain ⟨old, g1, g2⟩ := hρ1s _ _ hρ
   have := (List.getElem?_eq_some_iff.1 g1).1
   omega
 refine ⟨y, mk (fun i => hs.next + i), ⟨newL hs.objs hs.next l, hs.next + l.length⟩, ρ2, VF F ρ' V' s' w', rfl, ⟨rfl, rfl⟩, ?_, ?_, ?_⟩
 ·
  exact hmk _ _ ρ1 ρ2 _ _ hnew (htm ρ' ρ1 V' _ y hc hrel)
 ·
  refine ⟨fun b c hv => ?_, fun id hid => ?_, fun id cs loc hl hρ => ?_, fun id cs loc hl hρ => ?_, fun i j li lj ci cj hi hj hρi hρj hb => ?_⟩
  ·
   rcases VF_cases hv with h5 | ⟨_, h5⟩
   ·
    exact hinv.view b c h5
   ·
    exact h5
  ·
   have h'' : ρ2 id = ρ1 (id - hs.next) := by rw [← hnew, Nat.add_sub_cancel' (by simp only at hid; omega)]
   have : σ[id - hs.next]? = none := List.getElem?_eq_none (by simp only at hid; omega)
   rw [h'']; simp only [ρ1, this]
  ·
   rcases hob id cs hl with ⟨h5, h6⟩ | ⟨h5, h6⟩
   ·
    have hρo := oldO id loc h5 hρ
    obtain ⟨c, T, g1, g2, g3, g4⟩ := hI.live id cs loc h6 hρo
    refine ⟨c, T, by rw [hk _ (lt_heap g1)]; exact g1, g2, g3.mono hrho hvm, ?_⟩
    cases hv : VF F ρ' V' s' w' loc.b with
    | none => rfl
    | some c' =>
     rcases hfg _ _ hv with h7 | h7
     ·
      rw [g4] at h7; cases h7
     ·
      have := lt_heap g1; omega
   ·
    obtain ⟨old, xs, g1, g2, g3, g4, g5⟩ := newO id cs loc h5 h6 hρ
    obtain ⟨c, T, e1, e2, e3, e4⟩ := hinv.live old xs loc g4 g2
    refine ⟨c, T, e1, e2, ((g5.relC hc e3).clean (ρ' := ρ2) (hcl cs (List.mem_of_getElem? h6))), ?_⟩
    cases hv : VF F ρ' V' s' w' loc.b with
    | none => rfl
    | some c' =>
     rcases VF_cases hv with h7 | ⟨⟨id', cs', loc', m1, m2, m3, m4⟩, _⟩
     ·
      rw [e4] at h7; cases h7
     ·
      have := hinv.inj id' old loc' loc cs' xs m2 g4 m3 g2 m4
      subst this
      exact absurd m1 g3
  ·
   have hl' : newL hs.objs hs.next l id = .froz cs := hl
   rw [newL_get] at hl'
   have hfz : (id < hs.next ∨ l.length ≤ id - hs.next) ∧ hs.objs id = .froz cs := by
    split at hl'
    ·
     split at hl'
     ·
      cases hl'
     ·
      rename_i hn; exact ⟨.inr (List.getElem?_eq_none_iff.1 hn), hl'⟩
    ·
     rename_i hle; exact ⟨.inl (by omega), hl'⟩
   obtain ⟨c, g1, g2, g3⟩ := hI.froz id cs loc hfz.2 (oldO id loc hfz.1 hρ)
   exact ⟨c, hvm _ _ g1, g2.mono hrho hvm, g3⟩
  ·
   have small : ∀ {i : Nat} {c : List AV} {lc : Loc}, hs.objs i = .live c → ρ i = some lc → lc.b < w.heap.size := fun {i c lc} ho' hl' => by
    obtain ⟨c0, T, g1, _⟩ := hI.live i c lc ho' hl'
    exact lt_heap g1
   rcases hob i ci hi with ⟨h5, h6⟩ | ⟨h5, h6⟩ <;> rcases hob j cj hj with ⟨h7, h8⟩ | ⟨h7, h8⟩
   ·
    exact hI.inj i j li lj ci cj h6 h8 (oldO _ _ h5 hρi) (oldO _ _ h7 hρj) hb
   ·
    obtain ⟨old, xs, g1, g2, g3, g4, g5⟩ := newO j cj lj h7 h8 hρj
    have a1 := hlow _ ⟨old, xs, lj, g4, g2, rfl⟩
    have a2 := small h6 (oldO _ _ h5 hρi)
    omega
   ·
    obtain ⟨old, xs, g1, g2, g3, g4, g5⟩ := newO i ci li h5 h6 hρi
    have a1 := hlow _ ⟨old, xs, li, g4, g2, rfl⟩
    have a2 := small h8 (oldO _ _ h7 hρj)
    omega
   ·
    obtain ⟨oi, xi, g1, g2, g3, g4, g5⟩ := newO i ci li h5 h6 hρi
    obtain ⟨oj, xj, k1, k2, k3, k4, k5⟩ := newO j cj lj h7 h8 hρj
    have := hinv.inj oi oj li lj xi xj g4 k4 g2 k2 hb
    subst this
    have := hinj _ _ oi g1 k1
    omega
 ·
  refine ⟨hrho, hold, Nat.le_add_right _ _, hvm, hg.size, fun b hb _ => hk b hb, ?_, ?_, hg.mem⟩
  ·
   rintro b ⟨id, cs, loc, hl, hρ, rfl⟩
   rcases hob id cs hl with ⟨h5, h6⟩ | ⟨h5, h6⟩
   ·
    exact .inl ⟨id, cs, loc, h6, oldO id loc h5 hρ, rfl⟩
   ·
    obtain ⟨old, xs, g1, g2, g3, g4, g5⟩ := newO id cs loc h5 h6 hρ
    exact .inr (hlow _ ⟨old, xs, loc, g4, g2, rfl⟩)
  ·
   intro b c hv
   rcases hfg b c hv with h5 | h5
   ·
    exact .inl h5
   ·
    exact .inr (.inr h5)

def SndM (C : Ctx) (f : FuncId) (args : List AV) (mk : (Nat → Nat) → AV) (l : List (List AV)) : Prop := ∀ hs : HS, Snd C f args hs fun r hs' => r = mk (fun i => hs.next + i) ∧ hs' = ⟨newL hs.objs hs.next l, hs.next + l.length⟩

theorem SndM.pure {C : Ctx} {f : FuncId} {args : List AV} {mk : (Nat → Nat) → AV} {l : List (List AV)} {r : AV} (h : SndM C f args mk l) (hr : Clean r) (ha : ∀ x ∈ args, Clean x) (he : fz (newL (fun _ => .dead) 0 l) deep (mk fun i => i) = r) : SndP C f args r := by
 refine SndP.of_zero hr ha (Snd.mono (h (deadH 0)) ?_)
 rintro r' s' ⟨rfl, rfl⟩
 simpa [deadH] using he

theorem xcall_M {C : Ctx} {fr : Nat} {f : FuncId} {args : List AV} {objs : Nat → Ob} {nx : Nat} {k : AV → HS → Prop} {mk : (Nat → Nat) → AV} {l : List (List AV)} (h : SndM C f args mk l) (hk : k (mk fun i => nx + i) ⟨newL objs nx l, nx + l.length⟩) : xcall C false fr (some (f, args)) ⟨objs, nx⟩ k :=
 xcall_g (h ⟨objs, nx⟩) fun r hs hr => by obtain ⟨rfl, rfl⟩ := hr; exact hk

attribute [go_sem] newL_n newL_c
end Go.AX.Z
namespace Go.AX.Z
open Go.AX

def ResO (s : HS) (F : List Nat) (σ0 : List (Option Nat)) : List (Option Nat) → List (List AV) → Prop
 | [], [] => True
 | some old :: σ, cs :: l => (old ∉ F ∧ ∃ xs, s.objs old = .live xs ∧ TmL ⟨s, fun _ => .unk⟩ F σ0 xs cs) ∧ ResO s F σ0 σ l
 | none :: σ, _ :: l => ResO s F σ0 σ l
 | _, _ => False

theorem resO_all {s : HS} {F : List Nat} {σ0 : List (Option Nat)} : ∀ {σ : List (Option Nat)} {l : List (List AV)}, ResO s F σ0 σ l →
  σ.length = l.length ∧ ∀ (i old : Nat) cs, σ[i]? = some (some old) → l[i]? = some cs → old ∉ F ∧ ∃ xs, s.objs old = .live xs ∧ TmL ⟨s, fun _ => .unk⟩ F σ0 xs cs
 | [], [], _ => ⟨rfl, fun i old cs h => by simp at h⟩
 | some old :: σ, cs :: l, h => by
  obtain ⟨h1, h2⟩ := resO_all h.2
  refine ⟨by simp [h1], fun i o c hi hc => ?_⟩
  cases i with
  | zero => simp at hi hc; subst hi; subst hc; exact h.1
  | succ i => simp at hi hc; exact h2 i o c hi hc
 | none :: σ, cs :: l, h => by
  obtain ⟨h1, h2⟩ := resO_all (σ := σ) (l := l) h
  refine ⟨by simp [h1], fun i o c hi hc => ?_⟩
  cases i with
  | zero => simp at hi
  | succ i => simp at hi hc; exact h2 i o c hi hc
 | [], _ :: _, h => h.elim
 | some _ :: _, [], h => h.elim
 | none :: _, [], h => h.elim

theorem resO0 {s : HS} {F : List Nat} {σ0 : List (Option Nat)} : ResO s F σ0 [] [] := trivial
theorem resOU {s : HS} {F : List Nat} {σ0 σ : List (Option Nat)} {l : List (List AV)} {old : Nat} {xs cs : List AV} (hF : old ∉ F) (ho : s.objs old = .live xs) (hx : TmL ⟨s, fun _ => .unk⟩ F σ0 xs cs) (t : ResO s F σ0 σ l) : ResO s F σ0 (some old :: σ) (cs :: l) := ⟨⟨hF, xs, ho, hx⟩, t⟩
theorem resON {s : HS} {F : List Nat} {σ0 σ : List (Option Nat)} {l : List (List AV)} {cs : List AV} (t : ResO s F σ0 σ l) : ResO s F σ0 (none :: σ) (cs :: l) := t

theorem Res.mk {r' : AV} {s' : HS} {mk : (Nat → Nat) → AV} {l : List (List AV)} (F : List Nat) (σ : List (Option Nat)) (hs : sgB 0 σ = true) (ho : ResO s' F σ σ l) (ht : Tm ⟨s', fun _ => .unk⟩ F σ r' (mk fun i => i)) : Res r' s' mk l :=
 ⟨F, σ, hs, (resO_all ho).1, (resO_all ho).2, ht⟩

theorem rows_all_nil : ∀ cs ∈ ([] : List (List AV)), ∀ c ∈ cs, Clean c := by intro cs h; cases h
theorem rows_all_cons {x : List AV} {l : List (List AV)} (h : ∀ c ∈ x, Clean c) (t : ∀ cs ∈ l, ∀ c ∈ cs, Clean c) : ∀ cs ∈ x :: l, ∀ c ∈ cs, Clean c := by
 intro cs hc
 rcases List.mem_cons.1 hc with rfl | hc
 ·
  exact h
 ·
  exact t cs hc

theorem Snd.norm {C : Ctx} {f : FuncId} {args : List AV} {hs : HS} {R : AV → HS → Prop} (h : Snd C f (args.map (fz (fun _ => .dead) deep)) hs R) : Snd C f args hs R := by
 refine ⟨trivial, fun ρ V w args' h1 h2 hI hG => h.2 ρ V w args' (by simpa using h1) ?_ hI hG⟩
 intro i x y hx hy
 obtain ⟨z, hz, rfl⟩ := getElem?_map_iff hx
 have := fz_rel (s := deadH hs.next) hI.dead deep z y (h2 i z y hz hy)
 rwa [VV_dead] at this
end Go.AX.Z

/-! (AyG) -/

namespace Go.AX.Z
open Go.AX

theorem RenM.ptr (i off : Nat) : RenM fun q => .ptr (q i) off := by
 intro a b ρ ρ' V y he hr
 cases hr with
 | ptr _ _ loc h => exact .ptr (b i) off loc (by rw [he]; exact h)
theorem RenM.clo {f : Nat} {l m : (Nat → Nat) → List AV} (h : RenML l) (h' : RenML m) : RenM fun q => .clo f (l q) (m q) := by
 intro a b ρ ρ' V y he hr
 cases hr with
 | clo _ _ _ xs ys h1 h2 H1 H2 => exact .clo f _ _ xs ys (by rw [h1, h.get.1 a b]) (by rw [h2, h'.get.1 a b]) (h.list he H1) (h'.list he H2)

theorem RelC.renM {l : (Nat → Nat) → List AV} (h : RenML l) {a b : Nat → Nat} {ρ ρ' : Rho} {V : View} {c : Array Value} {o : Nat} (he : ∀ i, ρ' (b i) = ρ (a i)) (hr : RelC ρ V (l a) c o) : RelC ρ' V (l b) c o := by
 refine ⟨by rw [h.get.1 b a]; exact hr.le, fun i x y hx hy => ?_, fun i y hi hy => hr.sto i y (by rw [h.get.1 a b]; exact hi) hy⟩
 have hi : i < (l b).length := (List.getElem?_eq_some_iff.1 hx).1
 have hi' : i < (l a).length := by rw [h.get.1 a b]; exact hi
 have e : (l a)[i]? = some (l a)[i] := by simp [hi']
 exact h.get.2 i a b _ _ e hx ρ ρ' V y he (hr.rel i _ y e hy)

abbrev Tpl := (Nat → Nat) → List AV

def ex (k : Nat) (θ : Nat → Nat) (n : Nat) : Nat → Nat := fun i => if i < k then θ i else n + (i - k)
theorem ex_eq (k : Nat) (θ : Nat → Nat) (n i : Nat) : ex k θ n i = if i < k then θ i else n + (i - k) := rfl

def iniO (I : List Tpl) : Nat → Ob := fun i => match I[i]? with
 | some c => .live (c fun i => i)
 | none => .dead
def obOf (θ : Nat → Nat) : Option Tpl → Ob
 | some c => .live (c θ)
 | none => .dead
theorem obOf_s (θ : Nat → Nat) (c : Tpl) : obOf θ (some c) = .live (c θ) := rfl
theorem obOf_n (θ : Nat → Nat) : obOf θ none = .dead := rfl
def finL (objs : Nat → Ob) (θ : Nat → Nat) : Nat → List (Option Tpl) → Nat → Ob
 | _, [] => objs
 | i, e :: l => finL (upd objs (θ i) (obOf θ e)) θ (i + 1) l
theorem finL_n (objs : Nat → Ob) (θ : Nat → Nat) (i : Nat) : finL objs θ i [] = objs := rfl
theorem finL_c (objs : Nat → Ob) (θ : Nat → Nat) (i : Nat) (e : Option Tpl) (l : List (Option Tpl)) : finL objs θ i (e :: l) = finL (upd objs (θ i) (obOf θ e)) θ (i + 1) l := rfl

theorem finL_get (θ : Nat → Nat) : ∀ (l : List (Option Tpl)) (i0 : Nat) (objs : Nat → Ob) (id : Nat), (∀ i j, i < i0 + l.length → j < i0 + l.length → θ i = θ j → i = j) →
  (∀ j e, l[j]? = some e → θ (i0 + j) = id → finL objs θ i0 l id = obOf θ e) ∧ ((∀ j, j < l.length → θ (i0 + j) ≠ id) → finL objs θ i0 l id = objs id)
 | [], i0, objs, id, _ => ⟨fun j e h => by simp at h, fun _ => rfl⟩
 | e :: l, i0, objs, id, hinj => by
  have ih := finL_get θ l (i0 + 1) (upd objs (θ i0) (obOf θ e)) id (fun i j hi hj => hinj i j (by simp; omega) (by simp; omega))
  refine ⟨fun j e' he hid => ?_, fun hn => ?_⟩
  ·
   rw [finL_c]
   cases j with
   | zero =>
    simp at he; subst he
    rw [ih.2, ← hid]
    ·
     exact upd_eq _ _ _
    ·
     intro j hj heq
     have := hinj (i0 + 1 + j) i0 (by simp; omega) (by simp) (by rw [heq, ← hid]; rfl)
     omega
   | succ j =>
    simp at he
    exact ih.1 j e' he (by rw [← hid]; congr 1; omega)
  ·
   rw [finL_c, ih.2]
   ·
    exact upd_ne _ _ fun h => hn 0 (by simp) (by rw [h]; rfl)
   ·
    intro j hj heq
    exact hn (j + 1) (by simp; omega) (by rw [← heq]; congr 1; omega)

def ResIO (k : Nat) (r' : AV) (s' : HS) (mk : (Nat → Nat) → AV) (E : List (Option Tpl)) : Prop :=
 ∃ (F dd : List Nat) (σ : List (Option Nat)), sgD k dd σ = true ∧ (∀ i ∈ dd, E[i]? = some none) ∧ σ.length = E.length ∧
  (∀ (i old : Nat) c, σ[i]? = some (some old) → E[i]? = some (some c) → old ∉ F ∧ ∃ xs, s'.objs old = .live xs ∧ TmL ⟨s', fun _ => .unk⟩ F σ xs (c fun i => i)) ∧ Tm ⟨s', fun _ => .unk⟩ F σ r' (mk fun i => i)

theorem Snd.of_io {C : Ctx} {f : FuncId} {k : Nat} {args : (Nat → Nat) → List AV} {I : List Tpl} {E : List (Option Tpl)} {mk : (Nat → Nat) → AV} (hargs : RenML args) (hIr : ∀ c ∈ I, RenML c) (hEr : ∀ c, some c ∈ E → RenML c) (hmk : RenM mk) (hk : I.length = k) (hkE : k ≤ E.length)
  (h : Snd C f (args fun i => i) ⟨iniO I, k⟩ fun r' s' => ResIO k r' s' mk E) (hs : HS) (θ : Nat → Nat) (hθ : ∀ i j, i < k → j < k → θ i = θ j → i = j) (hθn : ∀ i, i < k → θ i < hs.next)
  (hlive : ∀ i c, I[i]? = some c → hs.objs (θ i) = .live (c (ex k θ hs.next))) :
  Snd C f (args (ex k θ hs.next)) hs fun r hs' => r = mk (ex k θ hs.next) ∧ hs' = ⟨finL hs.objs (ex k θ hs.next) 0 E, hs.next + (E.length - k)⟩ := by
 refine ⟨trivial, fun ρ V w args' h1 h2 hI hG => ?_⟩
 let θ' := ex k θ hs.next
 have hθs : ∀ i, i < k → θ' i = θ i := fun i hi => by simp only [θ', ex, if_pos hi]
 have hθb : ∀ i, k ≤ i → θ' i = hs.next + (i - k) := fun i hi => by simp only [θ', ex, if_neg (by omega : ¬ i < k)]
 let ρ0 : Rho := fun i => if i < k then ρ (θ i) else none
 have hρ0s : ∀ i, i < k → ρ0 i = ρ (θ i) := fun i hi => by simp only [ρ0, if_pos hi]
 have hρ0 : ∀ i, ρ0 i = ρ (θ' i) := by
  intro i
  rcases Nat.lt_or_ge i k with hi | hi
  ·
   rw [hρ0s i hi, hθs i hi]
  ·
   rw [hθb i hi, hI.fresh _ (Nat.le_add_right _ _)]; simp only [ρ0, if_neg (by omega : ¬ i < k)]
 have hini : ∀ id cells, iniO I id = .live cells → id < k ∧ ∃ c, I[id]? = some c ∧ cells = c fun i => i := by
  intro id cells hl
  unfold iniO at hl
  split at hl
  ·
   rename_i c hc
   cases hl
   exact ⟨by rw [← hk]; exact (List.getElem?_eq_some_iff.1 hc).1, c, hc, rfl⟩
  ·
   cases hl
 have hI0 : Inv ρ0 V ⟨iniO I, k⟩ w := by
  refine ⟨hI.view, fun id hid => by simp only [ρ0]; exact if_neg (by simp only at hid; omega), fun id cells loc hl hr => ?_, fun id cells loc hl => ?_, fun i j li lj ci cj hi hj hri hrj hb => ?_⟩
  ·
   obtain ⟨hid, c, hc, rfl⟩ := hini id cells hl
   rw [hρ0s id hid] at hr
   obtain ⟨cc, T, g1, g2, g3, g4⟩ := hI.live (θ id) _ loc (hlive id c hc) hr
   exact ⟨cc, T, g1, g2, RelC.renM (hIr c (List.mem_of_getElem? hc)) (a := θ') (b := fun i => i) hρ0 g3, g4⟩
  ·
   simp only [iniO] at hl
   split at hl <;> cases hl
  ·
   obtain ⟨hid, c, hc, rfl⟩ := hini i ci hi
   obtain ⟨hjd, d, hd, rfl⟩ := hini j cj hj
   rw [hρ0s i hid] at hri
   rw [hρ0s j hjd] at hrj
   exact hθ i j hid hjd (hI.inj _ _ li lj _ _ (hlive i c hc) (hlive j d hd) hri hrj hb)
 have ha' : ∀ (i : Nat) x y, (args fun i => i)[i]? = some x → args'[i]? = some y → Rel ρ0 V x y := hargs.list (a := θ') (b := fun i => i) hρ0 h2
 have hown0 : ∀ b, Own ρ0 ⟨iniO I, k⟩ b → ∃ i c loc, i < k ∧ I[i]? = some c ∧ ρ (θ i) = some loc ∧ loc.b = b := by
  rintro b ⟨id, cells, loc, hl, hr, hb⟩
  obtain ⟨hid, c, hc, rfl⟩ := hini id cells hl
  rw [hρ0s id hid] at hr
  exact ⟨id, c, loc, hid, hc, hr, hb⟩
 have hown1 : ∀ b, Own ρ0 ⟨iniO I, k⟩ b → Own ρ hs b := by
  intro b hb
  obtain ⟨i, c, loc, _, hc, hr, hb'⟩ := hown0 b hb
  exact ⟨θ i, _, loc, hlive i c hc, hr, hb'⟩
 refine (h.2 ρ0 V w args' (by rw [h1]; exact hargs.get.1 _ _) ha' hI0 hG).mono ?_
 rintro ed w' ⟨y, r', s', ρ', V', rfl, ⟨F, dd, σ, hsg, hdd, hlen, hobj, htm⟩, hrel, hinv, hg⟩
 have hinj := sgD_inj hsg
 simp only [sgD, Bool.and_eq_true, decide_eq_true_eq, List.all_eq_true, List.mem_range, beq_iff_eq] at hsg
 obtain ⟨hsk, hsn⟩ := hsg
 have ofo : ∀ b, OwnF F ρ' s' b → Own ρ' s' b := fun b ⟨id, cells, loc, _, g1, g2, g3⟩ => ⟨id, cells, loc, g1, g2, g3⟩
 have hfg : ∀ b c, VF F ρ' V' s' w' b = some c → V b = some c ∨ Own ρ0 ⟨iniO I, k⟩ b ∨ w.heap.size ≤ b := by
  intro b c hv
  rcases VF_cases hv with h5 | ⟨h5, _⟩
  ·
   exact hg.vnew b c h5
  ·
   exact .inr (hg.own b (ofo b h5))
 have hvm : ∀ b c, V b = some c → VF F ρ' V' s' w' b = some c := fun b c hv => VF_mono _ _ (hg.view b c hv)
 let ρ1 : Rho := fun i => match σ[i]? with
  | some (some old) => ρ' old
  | _ => none
 have hρ1 : ∀ i old, σ[i]? = some (some old) → ρ1 i = ρ' old := fun i old h => by simp only [ρ1, h]
 have hρ1s : ∀ i loc, ρ1 i = some loc → ∃ old, σ[i]? = some (some old) ∧ ρ' old = some loc := by
  intro i loc h
  simp only [ρ1] at h
  split at h
  ·
   rename_i old ho'; exact ⟨old, ho', h⟩
  ·
   cases h
 have hρ1k : ∀ i, i < k → ρ1 i = ρ (θ i) := fun i hi => by rw [hρ1 i i (hsk i hi), hg.old i hi, hρ0s i hi]
 let ρ2 : Rho := fun id => if hs.next ≤ id then ρ1 (k + (id - hs.next)) else ρ id
 have hold : ∀ id, id < hs.next → ρ2 id = ρ id := fun id hid => by simp only [ρ2, if_neg (by omega : ¬ hs.next ≤ id)]
 have hθ2 : ∀ i, ρ2 (θ' i) = ρ1 i := by
  intro i
  rcases Nat.lt_or_ge i k with hi | hi
  ·
   rw [hθs i hi, hold _ (hθn i hi), hρ1k i hi]
  ·
   rw [hθb i hi]
   simp only [ρ2, if_pos (Nat.le_add_right _ _), Nat.add_sub_cancel_left]
   rw [Nat.add_sub_cancel' hi]
 have hrho : ∀ id loc, ρ id = some loc → ρ2 id = some loc := by
  intro id loc hl
  rcases Nat.lt_or_ge id hs.next with h' | h'
  ·
   rw [hold id h']; exact hl
  ·
   rw [hI.fresh id h'] at hl; cases hl
 have hc : Cvt ⟨s', fun _ => .unk⟩ F σ ρ' ρ1 V' (VF F ρ' V' s' w') := by
  refine ⟨hρ1, VF_mono, fun id cells loc hid hl hr => ?_⟩
  obtain ⟨c, T, g1, g2, g3, g4⟩ := hinv.live id cells loc hl hr
  refine ⟨c, ?_, g3⟩
  have hof : OwnF F ρ' s' loc.b := ⟨id, cells, loc, hid, hl, hr, rfl⟩
  simp only [VF, g4, if_pos hof, g1]
 have hθi : ∀ i j, i < 0 + E.length → j < 0 + E.length → θ' i = θ' j → i = j := by
  intro i j _ _ hij
  rcases Nat.lt_or_ge i k with hi | hi <;> rcases Nat.lt_or_ge j k with hj | hj
  ·
   rw [hθs i hi, hθs j hj] at hij; exact hθ i j hi hj hij
  ·
   rw [hθs i hi, hθb j hj] at hij; have := hθn i hi; omega
  ·
   rw [hθb i hi, hθs j hj] at hij; have := hθn j hj; omega
  ·
   rw [hθb i hi, hθb j hj] at hij; omega
 -- the objects behind
 have hob : ∀ id, (∃ i e, E[i]? = some e ∧ θ' i = id ∧ finL hs.objs θ' 0 E id = obOf θ' e) ∨ ((∀ i, i < E.length → θ' i ≠ id) ∧ finL hs.objs θ' 0 E id = hs.objs id) := by
  intro id
  obtain ⟨g1, g2⟩ := finL_get θ' E 0 hs.objs id hθi
  by_cases hh : ∃ i, i < E.length ∧ θ' i = id
  ·
   obtain ⟨i, hi, hid⟩ := hh
   have e : E[i]? = some E[i] := by simp [hi]
   exact .inl ⟨i, _, e, hid, g1 i _ e (by rw [Nat.zero_add]; exact hid)⟩
  ·
   have hn : ∀ i, i < E.length → θ' i ≠ id := fun i hi he => hh ⟨i, hi, he⟩
   exact .inr ⟨hn, g2 fun j hj => by rw [Nat.zero_add]; exact hn j hj⟩
 have hlo : ∀ id cs, finL hs.objs θ' 0 E id = .live cs → (∃ i c, E[i]? = some (some c) ∧ θ' i = id ∧ cs = c θ') ∨ ((∀ i, i < E.length → θ' i ≠ id) ∧ hs.objs id = .live cs) := by
  intro id cs hl
  rcases hob id with ⟨i, e, g1, g2, g3⟩ | ⟨g1, g2⟩
  ·
   rw [g3] at hl
   cases e with
   | none => cases hl
   | some c => cases hl; exact .inl ⟨i, c, g1, g2, rfl⟩
  ·
   rw [g2] at hl; exact .inr ⟨g1, hl⟩
 have newO : ∀ i c loc, E[i]? = some (some c) → ρ2 (θ' i) = some loc → ∃ old xs, σ[i]? = some (some old) ∧ ρ' old = some loc ∧ old ∉ F ∧ s'.objs old = .live xs ∧ TmL ⟨s', fun _ => .unk⟩ F σ xs (c fun i => i) := by
  intro i c loc hE hρ
  rw [hθ2] at hρ
  obtain ⟨old, g1, g2⟩ := hρ1s _ _ hρ
  obtain ⟨g3, xs, g4, g5⟩ := hobj _ old c g1 hE
  exact ⟨old, xs, g1, g2, g3, g4, g5⟩
 -- an object that was not handed over
 have othO : ∀ id cs loc, (∀ i, i < E.length → θ' i ≠ id) → hs.objs id = .live cs → ρ2 id = some loc → ρ id = some loc ∧ ¬ Own ρ0 ⟨iniO I, k⟩ loc.b ∧ loc.b < w.heap.size := by
  intro id cs loc hn hl hρ
  have hid : id < hs.next := by
   rcases Nat.lt_or_ge id hs.next with h' | h'
   ·
    exact h'
   ·
    exfalso
    have e1 : θ' (k + (id - hs.next)) = id := by rw [hθb _ (Nat.le_add_right _ _)]; omega
    have e2 := hθ2 (k + (id - hs.next))
    rw [e1, hρ] at e2
    obtain ⟨old, g1, _⟩ := hρ1s _ _ e2.symm
    have := (List.getElem?_eq_some_iff.1 g1).1
    exact hn _ (by omega) e1
  rw [hold id hid] at hρ
  refine ⟨hρ, fun ho => ?_, ?_⟩
  ·
   obtain ⟨i, c, loc', hi, hc', hr', hb'⟩ := hown0 _ ho
   have := hI.inj (θ i) id loc' loc _ _ (hlive i c hc') hl hr' hρ hb'
   exact hn i (by omega) (by rw [hθs i hi]; exact this)
  ·
   obtain ⟨c, T, g1, _⟩ := hI.live id cs loc hl hρ
   exact lt_heap g1
 refine ⟨y, mk θ', ⟨finL hs.objs θ' 0 E, hs.next + (E.length - k)⟩, ρ2, VF F ρ' V' s' w', rfl, ⟨rfl, rfl⟩, ?_, ?_, ?_⟩
 ·
  exact hmk _ _ ρ1 ρ2 _ _ hθ2 (htm ρ' ρ1 V' _ y hc hrel)
 ·
  refine ⟨fun b c hv => ?_, fun id hid => ?_, fun id cs loc hl hρ => ?_, fun id cs loc hl hρ => ?_, fun i j li lj ci cj hi hj hρi hρj hb => ?_⟩
  ·
   rcases VF_cases hv with h5 | ⟨_, h5⟩
   ·
    exact hinv.view b c h5
   ·
    exact h5
  ·
   have hn : hs.next ≤ id := by simp only at hid; omega
   have : σ[k + (id - hs.next)]? = none := List.getElem?_eq_none (by simp only at hid; omega)
   simp only [ρ2, if_pos hn, ρ1, this]
  ·
   rcases hlo id cs hl with ⟨i, c, hE, hid, rfl⟩ | ⟨hn, hl'⟩
   ·
    subst hid
    obtain ⟨old, xs, g1, g2, g3, g4, g5⟩ := newO i c loc hE hρ
    obtain ⟨cc, T, e1, e2, e3, e4⟩ := hinv.live old xs loc g4 g2
    refine ⟨cc, T, e1, e2, RelC.renM (hEr c (List.mem_of_getElem? hE)) (a := fun i => i) (b := θ') hθ2 (g5.relC hc e3), ?_⟩
    cases hv : VF F ρ' V' s' w' loc.b with
    | none => rfl
    | some c' =>
     rcases VF_cases hv with h7 | ⟨⟨id', cs', loc', m1, m2, m3, m4⟩, _⟩
     ·
      rw [e4] at h7; cases h7
     ·
      have := hinv.inj id' old loc' loc cs' xs m2 g4 m3 g2 m4
      subst this
      exact absurd m1 g3
   ·
    obtain ⟨hρo, hno, hlt⟩ := othO id cs loc hn hl' hρ
    obtain ⟨cc, T, g1, g2, g3, g4⟩ := hI.live id cs loc hl' hρo
    refine ⟨cc, T, by rw [hg.keep _ hlt hno]; exact g1, g2, g3.mono hrho hvm, ?_⟩
    cases hv : VF F ρ' V' s' w' loc.b with
    | none => rfl
    | some c' =>
     rcases hfg _ _ hv with h7 | h7 | h7
     ·
      rw [g4] at h7; cases h7
     ·
      exact absurd h7 hno
     ·
      omega
  ·
   simp only at hl
   rcases hob id with ⟨i, e, g1, g2, g3⟩ | ⟨g1, g2⟩
   ·
    rw [g3] at hl
    cases e <;> cases hl
   ·
    rw [g2] at hl
    have hid : id < hs.next := by
     rcases Nat.lt_or_ge id hs.next with h' | h'
     ·
      exact h'
     ·
      exfalso
      have e1 : θ' (k + (id - hs.next)) = id := by rw [hθb _ (Nat.le_add_right _ _)]; omega
      have e2 := hθ2 (k + (id - hs.next))
      rw [e1, hρ] at e2
      obtain ⟨old, m1, _⟩ := hρ1s _ _ e2.symm
      have := (List.getElem?_eq_some_iff.1 m1).1
      exact g1 _ (by omega) e1
    rw [hold id hid] at hρ
    obtain ⟨c, m1, m2, m3⟩ := hI.froz id cs loc hl hρ
    exact ⟨c, hvm _ _ m1, m2.mono hrho hvm, m3⟩
  ·
   rcases hlo i ci hi with ⟨a, c, hE, hid, rfl⟩ | ⟨hn, hl'⟩ <;> rcases hlo j cj hj with ⟨a', c', hE', hid', rfl⟩ | ⟨hn', hl''⟩
   ·
    subst hid; subst hid'
    obtain ⟨oi, xi, g1, g2, g3, g4, g5⟩ := newO a c li hE hρi
    obtain ⟨oj, xj, k1, k2, k3, k4, k5⟩ := newO a' c' lj hE' hρj
    have := hinv.inj oi oj li lj xi xj g4 k4 g2 k2 hb
    subst this
    rw [hinj _ _ oi (fun h => by rw [hdd _ h] at hE; cases hE) (fun h => by rw [hdd _ h] at hE'; cases hE') g1 k1]
   ·
    subst hid
    obtain ⟨oi, xi, g1, g2, g3, g4, g5⟩ := newO a c li hE hρi
    obtain ⟨hρo, hno, hlt⟩ := othO j cj lj hn' hl'' hρj
    rcases hg.own li.b ⟨oi, xi, li, g4, g2, rfl⟩ with h7 | h7
    ·
     rw [hb] at h7; exact absurd h7 hno
    ·
     omega
   ·
    subst hid'
    obtain ⟨oj, xj, k1, k2, k3, k4, k5⟩ := newO a' c' lj hE' hρj
    obtain ⟨hρo, hno, hlt⟩ := othO i ci li hn hl' hρi
    rcases hg.own lj.b ⟨oj, xj, lj, k4, k2, rfl⟩ with h7 | h7
    ·
     rw [← hb] at h7; exact absurd h7 hno
    ·
     omega
   ·
    exact hI.inj i j li lj ci cj hl' hl'' (othO i ci li hn hl' hρi).1 (othO j cj lj hn' hl'' hρj).1 hb
 ·
  refine ⟨hrho, hold, Nat.le_add_right _ _, hvm, hg.size, fun b hb hno => hg.keep b hb fun ho => hno (hown1 b ho), ?_, ?_, hg.mem⟩
  ·
   rintro b ⟨id, cs, loc, hl, hρ, rfl⟩
   rcases hlo id cs hl with ⟨i, c, hE, hid, rfl⟩ | ⟨hn, hl'⟩
   ·
    subst hid
    obtain ⟨old, xs, g1, g2, g3, g4, g5⟩ := newO i c loc hE hρ
    exact (hg.own loc.b ⟨old, xs, loc, g4, g2, rfl⟩).imp (hown1 _) id
   ·
    exact .inl ⟨id, cs, loc, hl', (othO id cs loc hn hl' hρ).1, rfl⟩
  ·
   intro b c hv
   rcases hfg b c hv with h5 | h5 | h5
   ·
    exact .inl h5
   ·
    exact .inr (.inl (hown1 b h5))
   ·
    exact .inr (.inr h5)

end Go.AX.Z

/-! (AyH) -/

namespace Go.AX.Z
open Go.AX

theorem SndE.of_res {C : Ctx} {f : FuncId} {args : List AV} {mk : (Nat → Nat) → AV} {CS : List AV} (hmk : RenM mk) (hcl : ∀ c ∈ CS, Clean c) (ha : ∀ x ∈ args, Clean x) (h0 : ∀ a b : Nat → Nat, a 0 = b 0 → mk a = mk b)
  (h : Snd C f args (deadH 0) fun r' s' => Res r' s' mk [CS]) (hs : HS) (fr : Nat) : SndE C f args hs fr ⟨mk fun _ => fr, .new CS⟩ := by
 intro ρ V w args' h1 h2 hI hG hfr hfn
 have hI0 : Inv r0 V (deadH 0) w := ⟨hI.view, fun _ _ => rfl, fun id cells loc hl => by simp [deadH] at hl, fun id cells loc hl => by simp [deadH] at hl, fun i j li lj ci cj hi => by simp [deadH] at hi⟩
 have ha' : ∀ (i : Nat) x y, args[i]? = some x → args'[i]? = some y → Rel r0 V x y := fun i x y hx hy => ha x (List.mem_of_getElem? hx) _ _ _ _ (h2 i x y hx hy)
 refine (h.2 r0 V w args' h1 ha' hI0 hG).mono ?_
 rintro ed w' ⟨y, r', s', ρ', V', rfl, ⟨F, σ, hsg, hlen, hobj, htm⟩, hrel, hinv, hg⟩
 simp only [sgB, Bool.and_eq_true, decide_eq_true_eq] at hsg
 have hinj := sg_inj hsg.2
 have noOwn : ∀ b, ¬ Own r0 (deadH 0) b := by rintro b ⟨id, cs, loc, g1, _⟩; simp [deadH] at g1
 have hlow : ∀ b, Own ρ' s' b → w.heap.size ≤ b := fun b hb => (hg.own b hb).elim (fun h => (noOwn b h).elim) id
 have hvg : ∀ b c, V' b = some c → V b = some c ∨ w.heap.size ≤ b := by
  intro b c hv
  rcases hg.vnew b c hv with h5 | h5 | h5
  ·
   exact .inl h5
  ·
   exact (noOwn b h5).elim
  ·
   exact .inr h5
 have ofo : ∀ b, OwnF F ρ' s' b → Own ρ' s' b := fun b ⟨id, cells, loc, _, g1, g2, g3⟩ => ⟨id, cells, loc, g1, g2, g3⟩
 have hk : ∀ b, b < w.heap.size → w'.heap[b]? = w.heap[b]? := fun b hb => hg.keep b hb (noOwn b)
 have hfg : ∀ b c, VF F ρ' V' s' w' b = some c → V b = some c ∨ w.heap.size ≤ b := by
  intro b c hv
  rcases VF_cases hv with h5 | ⟨h5, _⟩
  ·
   exact hvg b c h5
  ·
   exact .inr (hlow b (ofo b h5))
 have hvm : ∀ b c, V b = some c → VF F ρ' V' s' w' b = some c := fun b c hv => VF_mono _ _ (hg.view b c hv)
 let ρ1 : Rho := fun i => match σ[i]? with
  | some (some old) => ρ' old
  | _ => none
 have hρ1 : ∀ i old, σ[i]? = some (some old) → ρ1 i = ρ' old := fun i old h => by simp only [ρ1, h]
 have hρ1s : ∀ i loc, ρ1 i = some loc → ∃ old, σ[i]? = some (some old) ∧ ρ' old = some loc := by
  intro i loc h
  simp only [ρ1] at h
  split at h
  ·
   rename_i old ho'; exact ⟨old, ho', h⟩
  ·
   cases h
 have h10 : ∀ i, 0 < i → ρ1 i = none := by
  intro i hi
  have : σ[i]? = none := List.getElem?_eq_none (by rw [hlen]; simp; omega)
  simp only [ρ1, this]
 let b : Nat → Nat := fun i => if i = 0 then fr else hs.next + i
 have hb0 : mk b = mk fun _ => fr := h0 _ _ rfl
 let ρ2 : Rho := fun id => if id = fr then ρ1 0 else ρ id
 have hρ2 : ∀ i, ρ2 (b i) = ρ1 i := by
  intro i
  rcases Nat.eq_zero_or_pos i with rfl | hi
  ·
   simp [ρ2, b]
  ·
   have e : b i = hs.next + i := if_neg (by omega)
   rw [e, h10 i hi]
   simp only [ρ2, if_neg (by omega : ¬ hs.next + i = fr)]
   exact hI.fresh _ (Nat.le_add_right _ _)
 have hoth : ∀ id, id ≠ fr → ρ2 id = ρ id := fun id hid => by simp only [ρ2, if_neg hid]
 have hf2 : ρ2 fr = ρ1 0 := by simp [ρ2]
 have hrho : ∀ id loc, ρ id = some loc → ρ2 id = some loc := by
  intro id loc hl
  rw [hoth id (by rintro rfl; rw [hfr] at hl; cases hl)]; exact hl
 have hc : Cvt ⟨s', fun _ => .unk⟩ F σ ρ' ρ1 V' (VF F ρ' V' s' w') := by
  refine ⟨hρ1, VF_mono, fun id cells loc hid hl hr => ?_⟩
  obtain ⟨c, T, g1, g2, g3, g4⟩ := hinv.live id cells loc hl hr
  refine ⟨c, ?_, g3⟩
  have hof : OwnF F ρ' s' loc.b := ⟨id, cells, loc, hid, hl, hr, rfl⟩
  simp only [VF, g4, if_pos hof, g1]
 have newO : ∀ loc, ρ1 0 = some loc → ∃ old xs, ρ' old = some loc ∧ old ∉ F ∧ s'.objs old = .live xs ∧ TmL ⟨s', fun _ => .unk⟩ F σ xs CS := by
  intro loc hρ
  obtain ⟨old, g1, g2⟩ := hρ1s _ _ hρ
  obtain ⟨g3, xs, g4, g5⟩ := hobj 0 old CS g1 rfl
  exact ⟨old, xs, g2, g3, g4, g5⟩
 have small : ∀ {i : Nat} {c : List AV} {lc : Loc}, hs.objs i = .live c → ρ i = some lc → lc.b < w.heap.size := fun {i c lc} ho' hl' => by
  obtain ⟨c0, T, g1, _⟩ := hI.live i c lc ho' hl'
  exact lt_heap g1
 refine ⟨y, ρ2, VF F ρ' V' s' w', rfl, ?_⟩
 refine ⟨?_, ?_, hrho, hoth, hvm, hg.size, fun b hb _ => hk b hb, ?_, ?_, hg.mem⟩
 ·
  have := hmk _ b ρ1 ρ2 _ _ hρ2 (htm ρ' ρ1 V' _ y hc hrel)
  rwa [hb0] at this
 ·
  refine ⟨fun b c hv => ?_, fun id hid => ?_, fun id cs loc hl hρ => ?_, fun id cs loc hl hρ => ?_, fun i j li lj ci cj hi hj hρi hρj hb => ?_⟩
  ·
   rcases VF_cases hv with h5 | ⟨_, h5⟩
   ·
    exact hinv.view b c h5
   ·
    exact h5
  ·
   simp only at hid
   rw [hoth id (by omega)]; exact hI.fresh id hid
  ·
   simp only [doAct] at hl
   by_cases he : id = fr
   ·
    subst he
    rw [upd_eq] at hl; cases hl
    rw [hf2] at hρ
    obtain ⟨old, xs, g2, g3, g4, g5⟩ := newO loc hρ
    obtain ⟨c, T, e1, e2, e3, e4⟩ := hinv.live old xs loc g4 g2
    refine ⟨c, T, e1, e2, ((g5.relC hc e3).clean (ρ' := ρ2) hcl), ?_⟩
    cases hv : VF F ρ' V' s' w' loc.b with
    | none => rfl
    | some c' =>
     rcases VF_cases hv with h7 | ⟨⟨id', cs', loc', m1, m2, m3, m4⟩, _⟩
     ·
      rw [e4] at h7; cases h7
     ·
      have := hinv.inj id' old loc' loc cs' xs m2 g4 m3 g2 m4
      subst this
      exact absurd m1 g3
   ·
    rw [upd_ne _ _ he] at hl
    rw [hoth id he] at hρ
    obtain ⟨c, T, g1, g2, g3, g4⟩ := hI.live id cs loc hl hρ
    refine ⟨c, T, by rw [hk _ (lt_heap g1)]; exact g1, g2, g3.mono hrho hvm, ?_⟩
    cases hv : VF F ρ' V' s' w' loc.b with
    | none => rfl
    | some c' =>
     rcases hfg _ _ hv with h7 | h7
     ·
      rw [g4] at h7; cases h7
     ·
      have := lt_heap g1; omega
  ·
   simp only [doAct] at hl
   by_cases he : id = fr
   ·
    subst he; rw [upd_eq] at hl; cases hl
   ·
    rw [upd_ne _ _ he] at hl
    rw [hoth id he] at hρ
    obtain ⟨c, g1, g2, g3⟩ := hI.froz id cs loc hl hρ
    exact ⟨c, hvm _ _ g1, g2.mono hrho hvm, g3⟩
  ·
   simp only [doAct] at hi hj
   by_cases h5 : i = fr <;> by_cases h6 : j = fr
   ·
    rw [h5, h6]
   ·
    subst h5
    rw [upd_ne _ _ h6] at hj
    rw [hf2] at hρi
    rw [hoth j h6] at hρj
    obtain ⟨old, xs, g2, g3, g4, g5⟩ := newO li hρi
    have a1 := hlow _ ⟨old, xs, li, g4, g2, rfl⟩
    have a2 := small hj hρj
    omega
   ·
    subst h6
    rw [upd_ne _ _ h5] at hi
    rw [hf2] at hρj
    rw [hoth i h5] at hρi
    obtain ⟨old, xs, g2, g3, g4, g5⟩ := newO lj hρj
    have a1 := hlow _ ⟨old, xs, lj, g4, g2, rfl⟩
    have a2 := small hi hρi
    omega
   ·
    rw [upd_ne _ _ h5] at hi
    rw [upd_ne _ _ h6] at hj
    rw [hoth i h5] at hρi
    rw [hoth j h6] at hρj
    exact hI.inj i j li lj ci cj hi hj hρi hρj hb
 ·
  rintro b' ⟨id, cs, loc, hl, hρ, rfl⟩
  simp only [doAct] at hl
  by_cases he : id = fr
  ·
   subst he
   rw [hf2] at hρ
   obtain ⟨old, xs, g2, g3, g4, g5⟩ := newO loc hρ
   exact .inr (hlow _ ⟨old, xs, loc, g4, g2, rfl⟩)
  ·
   rw [upd_ne _ _ he] at hl
   rw [hoth id he] at hρ
   exact .inl ⟨id, cs, loc, hl, hρ, rfl⟩
 ·
  intro b' c hv
  rcases hfg b' c hv with h5 | h5
  ·
   exact .inl h5
  ·
   exact .inr (.inr h5)

def SndR (C : Ctx) (f : FuncId) (args : List AV) (mk : (Nat → Nat) → AV) (l : List (List AV)) : Prop := Snd C f args (deadH 0) fun r' s' => Res r' s' mk l

theorem SndE.norm {C : Ctx} {f : FuncId} {args : List AV} {hs : HS} {fr : Nat} {e : Eff} (h : SndE C f (args.map (fz (fun _ => .dead) deep)) hs fr e) : SndE C f args hs fr e := by
 intro ρ V w args' h1 h2 hI hG hfr hlt
 refine h ρ V w args' (by simpa using h1) ?_ hI hG hfr hlt
 intro i x y hx hy
 obtain ⟨z, hz, rfl⟩ := getElem?_map_iff hx
 have := fz_rel (s := deadH hs.next) hI.dead deep z y (h2 i z y hz hy)
 rwa [VV_dead] at this

theorem xcallD_E {C : Ctx} {fr : Nat} {f : FuncId} {args : List AV} {objs : Nat → Ob} {k : Eff → Foot → Prop} {kb : FuncId → List AV → Prop} {e : Eff} (h : ∀ hs : HS, SndE C f args hs fr e) (hk : k e []) : xcallD C fr (some (f, args)) objs k kb :=
 xcallD_e (fun hs _ => h hs) hk
end Go.AX.Z

/-! (AyI) -/

namespace Go.AX.Z
open Go.AX

def thl (L : List Nat) (i : Nat) : Nat := L.getD i 0
theorem thl_z (a : Nat) (L : List Nat) : thl (a :: L) 0 = a := rfl
theorem thl_s (a : Nat) (L : List Nat) (i : Nat) : thl (a :: L) (i + 1) = thl L i := rfl

def liveL (objs : Nat → Ob) (θ' : Nat → Nat) : List Nat → List Tpl → Prop
 | [], [] => True
 | id :: L, c :: I => objs id = .live (c θ') ∧ liveL objs θ' L I
 | _, _ => False

theorem liveL_get {objs : Nat → Ob} {θ' : Nat → Nat} : ∀ {L : List Nat} {I : List Tpl}, liveL objs θ' L I → L.length = I.length ∧ ∀ i c, I[i]? = some c → objs (thl L i) = .live (c θ')
 | [], [], _ => ⟨rfl, fun i c h => by simp at h⟩
 | id :: L, c :: I, h => by
  obtain ⟨h1, h2⟩ := liveL_get h.2
  refine ⟨by simp [h1], fun i d hd => ?_⟩
  cases i with
  | zero => simp at hd; subst hd; exact h.1
  | succ i => simp at hd; rw [thl_s]; exact h2 i d hd
 | [], _ :: _, h => h.elim
 | _ :: _, [], h => h.elim

theorem thl_inj : ∀ {L : List Nat}, L.Nodup → ∀ i j, i < L.length → j < L.length → thl L i = thl L j → i = j := by
 intro L hn i j hi hj h
 simp only [thl, List.getD_eq_getElem?_getD, List.getElem?_eq_getElem hi, List.getElem?_eq_getElem hj, Option.getD_some] at h
 exact (List.getElem_inj hn).1 h
theorem thl_lt {L : List Nat} {n : Nat} (h : ∀ x ∈ L, x < n) (i : Nat) (hi : i < L.length) : thl L i < n := by
 simp only [thl, List.getD_eq_getElem?_getD, List.getElem?_eq_getElem hi, Option.getD_some]
 exact h _ (List.getElem_mem hi)

def SndIO (C : Ctx) (f : FuncId) (k : Nat) (args : (Nat → Nat) → List AV) (I : List Tpl) (mk : (Nat → Nat) → AV) (E : List (Option Tpl)) : Prop :=
 ∀ (hs : HS) (L : List Nat), L.Nodup → (∀ x ∈ L, x < hs.next) → liveL hs.objs (ex k (thl L) hs.next) L I →
  Snd C f (args (ex k (thl L) hs.next)) hs fun r hs' => r = mk (ex k (thl L) hs.next) ∧ hs' = ⟨finL hs.objs (ex k (thl L) hs.next) 0 E, hs.next + (E.length - k)⟩

def iniU (objs : Nat → Ob) : Nat → List Tpl → Nat → Ob
 | _, [] => objs
 | i, c :: l => iniU (upd objs i (.live (c fun i => i))) (i + 1) l
theorem iniU_n (objs : Nat → Ob) (i : Nat) : iniU objs i [] = objs := rfl
theorem iniU_c (objs : Nat → Ob) (i : Nat) (c : Tpl) (l : List Tpl) : iniU objs i (c :: l) = iniU (upd objs i (.live (c fun i => i))) (i + 1) l := rfl
theorem iniU_get : ∀ (l : List Tpl) (i : Nat) (objs : Nat → Ob) (id : Nat), iniU objs i l id = if i ≤ id then (match l[id - i]? with | some c => .live (c fun i => i) | none => objs id) else objs id
 | [], i, objs, id => by simp [iniU]
 | c :: l, i, objs, id => by
  rw [iniU_c, iniU_get l]
  by_cases h1 : i + 1 ≤ id
  ·
   rw [if_pos h1, if_pos (by omega : i ≤ id), show id - i = (id - (i + 1)) + 1 by omega, List.getElem?_cons_succ, upd_ne _ _ (by omega : id ≠ i)]
  ·
   rw [if_neg h1]
   by_cases h2 : id = i
   ·
    subst h2; simp
   ·
    rw [upd_ne _ _ h2, if_neg (by omega)]
theorem ini_eq (I : List Tpl) : iniO I = iniU (fun _ => .dead) 0 I := by
 funext id
 rw [iniU_get]
 simp only [Nat.zero_le, if_true, Nat.sub_zero, iniO]
 first | done | (cases I[id]? <;> rfl)

def ResE (s : HS) (F : List Nat) (σ0 : List (Option Nat)) : List (Option Nat) → List (Option Tpl) → Prop
 | [], [] => True
 | some old :: σ, some c :: l => (old ∉ F ∧ ∃ xs, s.objs old = .live xs ∧ TmL ⟨s, fun _ => .unk⟩ F σ0 xs (c fun i => i)) ∧ ResE s F σ0 σ l
 | _ :: σ, none :: l => ResE s F σ0 σ l
 | none :: σ, some _ :: l => ResE s F σ0 σ l
 | _, _ => False

theorem resE_all {s : HS} {F : List Nat} {σ0 : List (Option Nat)} : ∀ {σ : List (Option Nat)} {l : List (Option Tpl)}, ResE s F σ0 σ l →
  σ.length = l.length ∧ ∀ (i old : Nat) c, σ[i]? = some (some old) → l[i]? = some (some c) → old ∉ F ∧ ∃ xs, s.objs old = .live xs ∧ TmL ⟨s, fun _ => .unk⟩ F σ0 xs (c fun i => i)
 | [], [], _ => ⟨rfl, fun i old cs h => by simp at h⟩
 | some old :: σ, some c :: l, h => by
  obtain ⟨h1, h2⟩ := resE_all h.2
  refine ⟨by simp [h1], fun i o d hi hc => ?_⟩
  cases i with
  | zero => simp at hi hc; subst hi; subst hc; exact h.1
  | succ i => simp at hi hc; exact h2 i o d hi hc
 | some old :: σ, none :: l, h => by
  obtain ⟨h1, h2⟩ := resE_all (σ := σ) (l := l) h
  refine ⟨by simp [h1], fun i o d hi hc => ?_⟩
  cases i with
  | zero => simp at hc
  | succ i => simp at hi hc; exact h2 i o d hi hc
 | none :: σ, none :: l, h => by
  obtain ⟨h1, h2⟩ := resE_all (σ := σ) (l := l) h
  refine ⟨by simp [h1], fun i o d hi hc => ?_⟩
  cases i with
  | zero => simp at hc
  | succ i => simp at hi hc; exact h2 i o d hi hc
 | none :: σ, some c :: l, h => by
  obtain ⟨h1, h2⟩ := resE_all (σ := σ) (l := l) h
  refine ⟨by simp [h1], fun i o d hi hc => ?_⟩
  cases i with
  | zero => simp at hi
  | succ i => simp at hi hc; exact h2 i o d hi hc
 | [], _ :: _, h => by simp [ResE] at h
 | some _ :: _, [], h => by simp [ResE] at h
 | none :: _, [], h => by simp [ResE] at h

theorem resE0 {s : HS} {F : List Nat} {σ0 : List (Option Nat)} : ResE s F σ0 [] [] := trivial
theorem resEU {s : HS} {F : List Nat} {σ0 σ : List (Option Nat)} {l : List (Option Tpl)} {old : Nat} {xs : List AV} {c : Tpl} (hF : old ∉ F) (ho : s.objs old = .live xs) (hx : TmL ⟨s, fun _ => .unk⟩ F σ0 xs (c fun i => i)) (t : ResE s F σ0 σ l) : ResE s F σ0 (some old :: σ) (some c :: l) := ⟨⟨hF, xs, ho, hx⟩, t⟩
theorem resED {s : HS} {F : List Nat} {σ0 σ : List (Option Nat)} {l : List (Option Tpl)} {x : Option Nat} (t : ResE s F σ0 σ l) : ResE s F σ0 (x :: σ) (none :: l) := by cases x <;> exact t

def deadE : List (Option Tpl) → Nat → List Nat
 | [], _ => []
 | none :: l, i => i :: deadE l (i + 1)
 | some _ :: l, i => deadE l (i + 1)
theorem deadE_get : ∀ (l : List (Option Tpl)) (i0 i : Nat), i ∈ deadE l i0 → i0 ≤ i ∧ l[i - i0]? = some none
 | [], _, i, h => by simp [deadE] at h
 | none :: l, i0, i, h => by
  rcases List.mem_cons.1 h with rfl | h
  ·
   simp
  ·
   obtain ⟨h1, h2⟩ := deadE_get l (i0 + 1) i h
   exact ⟨by omega, by rw [show i - i0 = (i - (i0 + 1)) + 1 by omega, List.getElem?_cons_succ]; exact h2⟩
 | some c :: l, i0, i, h => by
  obtain ⟨h1, h2⟩ := deadE_get l (i0 + 1) i h
  exact ⟨by omega, by rw [show i - i0 = (i - (i0 + 1)) + 1 by omega, List.getElem?_cons_succ]; exact h2⟩

theorem ResIO.mk {k : Nat} {r' : AV} {s' : HS} {mk : (Nat → Nat) → AV} {E : List (Option Tpl)} (F : List Nat) (σ : List (Option Nat)) (hs : sgD k (deadE E 0) σ = true) (ho : ResE s' F σ σ E) (ht : Tm ⟨s', fun _ => .unk⟩ F σ r' (mk fun i => i)) : ResIO k r' s' mk E :=
 ⟨F, deadE E 0, σ, hs, fun i hi => by have := (deadE_get E 0 i hi).2; rwa [Nat.sub_zero] at this, (resE_all ho).1, (resE_all ho).2, ht⟩

theorem tpl_nil : ∀ c ∈ ([] : List Tpl), RenML c := by intro c h; cases h
theorem tpl_cons {x : Tpl} {l : List Tpl} (h : RenML x) (t : ∀ c ∈ l, RenML c) : ∀ c ∈ x :: l, RenML c := by
 intro c hc
 rcases List.mem_cons.1 hc with rfl | hc
 ·
  exact h
 ·
  exact t c hc
theorem otpl_nil : ∀ c : Tpl, some c ∈ ([] : List (Option Tpl)) → RenML c := by intro c h; cases h
theorem otpl_some {x : Tpl} {l : List (Option Tpl)} (h : RenML x) (t : ∀ c : Tpl, some c ∈ l → RenML c) : ∀ c : Tpl, some c ∈ some x :: l → RenML c := by
 intro c hc
 rcases List.mem_cons.1 hc with hc | hc
 ·
  cases hc; exact h
 ·
  exact t c hc
theorem otpl_none {l : List (Option Tpl)} (t : ∀ c : Tpl, some c ∈ l → RenML c) : ∀ c : Tpl, some c ∈ none :: l → RenML c := by
 intro c hc
 rcases List.mem_cons.1 hc with hc | hc
 ·
  cases hc
 ·
  exact t c hc

theorem xcall_O {C : Ctx} {fr : Nat} {f : FuncId} {k : Nat} {args : List AV} {argsT : (Nat → Nat) → List AV} {I : List Tpl} {E : List (Option Tpl)} {mk : (Nat → Nat) → AV} {objs : Nat → Ob} {nx : Nat} {K : AV → HS → Prop} (L : List Nat) (h : SndIO C f k argsT I mk E)
  (hL : L.Nodup) (hLn : ∀ x ∈ L, x < nx) (hlive : liveL objs (ex k (thl L) nx) L I) (he : args = argsT (ex k (thl L) nx))
  (hk : K (mk (ex k (thl L) nx)) ⟨finL objs (ex k (thl L) nx) 0 E, nx + (E.length - k)⟩) : xcall C false fr (some (f, args)) ⟨objs, nx⟩ K := by
 subst he
 exact xcall_g (h ⟨objs, nx⟩ L hL hLn hlive) fun r hs hr => by obtain ⟨rfl, rfl⟩ := hr; exact hk

theorem Clean.unk : Clean .unk := fun _ _ _ y _ => .unk y
attribute [go_sem] Int.le_refl clearE iniU_n iniU_c finL_n finL_c obOf_s obOf_n ex_eq thl_z thl_s
end Go.AX.Z

/-! (AyJ) -/

namespace Go.AX.Z
open Go.AX

def clQ (k : Nat) (C : Ctx) (Q : AExit → AS → Prop) : Prop := ∀ t u, Wk k C t u → Q .normal u → Q .normal t

def endW (k : Nat) (C : Ctx) (fn : Func) (R : AV → HS → Prop) : AExit → AS → Prop := fun e s => ∃ t, Wk k C s t ∧ endQ C fn R e t

section
variable {k : Nat} {C : Ctx} {x y : Code} {Q : AExit → AS → Prop} {s : AS}
theorem clQ_blk {id : Nat} (h : clQ k C Q) : clQ k C (blkQ id Q) := h
theorem clQ_cut {δ : Type} {P : δ → Prop} {S : δ → AS} {Q' : AExit → AS → Prop} : clQ k C (seqQ (fun t => ∃ d, P d ∧ Wk k C t (S d)) Q') := fun _ _ h ⟨d, hp, hw⟩ => ⟨d, hp, Wk.trans h hw⟩
theorem endW_i {fn : Func} {R : AV → HS → Prop} {e : AExit} (h : endQ C fn R e s) : endW k C fn R e s := ⟨s, Wk.refl _ _ _, h⟩
theorem seqW_i {K : AS → Prop} {Q' : AExit → AS → Prop} (h : K s) : seqQ (fun t => ∃ u, Wk k C t u ∧ K u) Q' .normal s := ⟨s, Wk.refl _ _ _, h⟩

theorem awp_blockW {id : Nat} (h : awp k C x (blkQ id (seqQ (fun t => ∃ u, Wk k C t u ∧ awp k C y Q u) Q)) s) : awp k C (.seq (.block id x) y) Q s := awp_seqW (awp_block1 h)

theorem awp_cutQ {δ : Type} (P : δ → Prop) (S : δ → AS) (hQ : clQ k C Q) (h1 : awp k C x (seqQ (fun t => ∃ d, P d ∧ Wk k C t (S d)) Q) s) (h2 : ∀ d, P d → Q .normal (S d)) : awp k C x Q s := by
 refine awp_mono x h1 ?_
 intro e t ht
 cases e with
 | normal => obtain ⟨d, hp, hw⟩ := ht; exact hQ t _ hw (h2 d hp)
 | exit j => exact ht
 | ret => exact ht
end

theorem snd_of_awpW {C : Ctx} (hC : COk C) {f : FuncId} {fn : Func} {c : Code} {args : List AV} {s : HS} {Q : AV → HS → Prop} (hf : C.P.funcs[f]? = some fn) (hb : fn.body = some c) (hn : (fn.name == "runtime.NumGoroutine") = false)
  (hst : stOk fn.ntmps c = true) (hargs : args.length ≤ fn.ntmps) (h : awp s.next C c (endW s.next C fn Q) (init args s)) : Snd C f args s Q := by
 refine ⟨trivial, fun ρ V w args' h1 h2 h3 h4 => .inl ⟨⟨fn, hf, by rw [hb]; rfl, hn⟩, ?_⟩⟩
 refine callsM_of_wp hf hb ?_
 let B : Base := ⟨ρ, V, s, w, some w.heap.size⟩
 have hLo : Lo s.next B := ⟨rfl, fun id hid => h3.fresh id hid, fun m hm => by cases hm; exact Nat.le_refl _⟩
 have hg : GS C fn.ntmps B (fun _ => False) (init args s) { tmps := args' ++ Array.replicate (fn.ntmps - args'.size) undef, defers := [] } w := by
  refine ⟨ρ, V, fun t => ?_, h3, h4, Grew.refl _ _ _ _, by simp; omega, Marks.nil _ _, fun id hid => hid.elim⟩
  simp only [init, List.getD_eq_getElem?_getD]
  rw [Array.getD_eq_getD_getElem?, Array.getElem?_append]
  by_cases ht : t < args'.size
  ·
   rw [if_pos ht]
   have ht' : t < args.length := by omega
   have e1 : args[t]? = some args[t] := by simp [ht']
   have e2 : args'[t]? = some args'[t] := by simp [ht]
   rw [e1, e2]
   exact h2 t _ _ e1 e2
  ·
   rw [if_neg ht, List.getElem?_eq_none (by omega)]
   simp only [Option.getD_none]
   have : (Array.replicate (fn.ntmps - args'.size) undef)[t - args'.size]?.getD undef = undef := by
    by_cases h5 : t - args'.size < fn.ntmps - args'.size <;> simp [h5]
   rw [this]; exact .v _
 refine wp_mono (awp_sound hC hLo rfl c _ _ _ _ hst h hg) ?_
 intro e a' w' hq
 have fin : ∀ s', (∃ r, resV C s' fn.results.toList = some r ∧ Q r s'.toHS) → GS C fn.ntmps B (fun _ => False) s' a' w' → LeavesInM Fence.wide 0 C.P fn a'.tmps (fun e w' =>
   ∃ y r s' ρ' V', e = Ending.returned y ∧ Q r s' ∧ Rel ρ' V' r y ∧ Inv ρ' V' s' w' ∧ Grew ρ V s w ρ' V' s' w') a'.defers .returning w' := by
  rintro s' ⟨r, hr, hQ⟩ hgs
  refine end_marks hgs ⟨_, rfl, Nat.le_refl _⟩ ?_
  rintro tmps w'' ds ⟨ρ', V', k1, k2, k3, k4, k5, k6, k7⟩
  obtain ⟨y, hy1, hy2⟩ := results_run k1 k2 hr
  exact ⟨y, hy1, y, r, s'.toHS, ρ', V', rfl, hQ, hy2, k2, k4⟩
 cases e with
 | normal =>
  obtain ⟨s', ⟨t, hwk, hk⟩, hg'⟩ := hq
  exact fin t hk (hwk _ _ _ _ hLo hg')
 | ret =>
  obtain ⟨s', ⟨t, hwk, hk⟩, hg'⟩ := hq
  exact fin t hk (hwk _ _ _ _ hLo hg')
 | exit id =>
  obtain ⟨s', ⟨t, hwk, hk⟩, hg'⟩ := hq
  exact hk.elim
 | goto l => exact hq.elim
 | panic ch => exact hq.elim
 | outgrown => exact hq.elim

theorem SndP.of_walkW {C : Ctx} (hC : COk C) {f : FuncId} {fn : Func} {c : Code} {args : List AV} {r : AV} (hr : Clean r) (ha : ∀ x ∈ args, Clean x) (hf : C.P.funcs[f]? = some fn) (hb : fn.body = some c) (hn : (fn.name == "runtime.NumGoroutine") = false)
  (hst : stOk fn.ntmps c = true) (hargs : args.length ≤ fn.ntmps) (h : awp 0 C c (endW 0 C fn fun r' s' => fz s'.objs deep r' = r) { objs := fun _ => .dead, next := 0, tmps := arg args }) : SndP C f args r :=
 SndP.of_zero hr ha (snd_of_awpW hC hf hb hn hst hargs h)
theorem SndR.of_walkW {C : Ctx} (hC : COk C) {f : FuncId} {fn : Func} {c : Code} {args : List AV} {mk : (Nat → Nat) → AV} {l : List (List AV)} (hf : C.P.funcs[f]? = some fn) (hb : fn.body = some c) (hn : (fn.name == "runtime.NumGoroutine") = false)
  (hst : stOk fn.ntmps c = true) (hargs : args.length ≤ fn.ntmps) (h : awp 0 C c (endW 0 C fn fun r' s' => Res r' s' mk l) { objs := fun _ => .dead, next := 0, tmps := arg args }) : SndR C f args mk l :=
 snd_of_awpW hC hf hb hn hst hargs h
theorem SndIO.of_walkW {C : Ctx} (hC : COk C) {f : FuncId} {fn : Func} {c : Code} {k : Nat} {args : (Nat → Nat) → List AV} {I : List Tpl} {E : List (Option Tpl)} {mk : (Nat → Nat) → AV} (hargs : RenML args) (hIr : ∀ c ∈ I, RenML c) (hEr : ∀ c, some c ∈ E → RenML c) (hmk : RenM mk) (hk : I.length = k) (hkE : k ≤ E.length)
  (hf : C.P.funcs[f]? = some fn) (hb : fn.body = some c) (hn : (fn.name == "runtime.NumGoroutine") = false) (hst : stOk fn.ntmps c = true) (hal : (args fun i => i).length ≤ fn.ntmps)
  (h : awp k C c (endW k C fn fun r' s' => ResIO k r' s' mk E) { objs := iniU (fun _ => .dead) 0 I, next := k, tmps := arg (args fun i => i) }) : SndIO C f k args I mk E := by
 intro hs L hL hLn hlive
 obtain ⟨h1, h2⟩ := liveL_get hlive
 refine Snd.of_io hargs hIr hEr hmk hk hkE ?_ hs (thl L) (fun i j hi hj => thl_inj hL i j (by omega) (by omega)) (fun i hi => thl_lt hLn i (by omega)) h2
 have hw : awp k C c (endW k C fn fun r' s' => ResIO k r' s' mk E) (init (args fun i => i) ⟨iniO I, k⟩) := by
  rw [ini_eq]; exact h
 exact snd_of_awpW hC hf hb hn hst hal hw

end Go.AX.Z
namespace Go.AX.Z
open Go.AX
section
variable {k : Nat} {C : Ctx} {y : Code} {Q : AExit → AS → Prop} {s : AS}
theorem awp_regW {id : Nat} {ops : Array Oper} {draw : Bool} (h : ∀ K : AS → Prop, (∀ t u, Wk k C t u → awp k C y Q u → K t) → xw draw C (ops.toList.map (·.dst)) s.next 0 ops.toList { s with next := s.next + ops.size } K) : awp k C (.seq (.region id ops draw) y) Q s :=
 awp_seqW (awp_region (h _ fun _ u h1 h2 => ⟨u, h1, h2⟩))
theorem awp_regDW {objs : Nat → Ob} {nx : Nat} {tm : Nat → AV} {id : Nat} {ops : Array Oper} (h : ∀ K : AS → Prop, (∀ t u, Wk k C t u → awp k C y Q u → K t) → ∀ l, l = ops.toList → xd C l (ops.toList.map (·.dst)) nx 0 ops.toList { objs := objs, next := nx + ops.size, tmps := tm } [] K) : awp k C (.seq (.region id ops true) y) Q { objs := objs, next := nx, tmps := tm } :=
 awp_seqW (xd_draw _ _ _ _ (h _ (fun _ u h1 h2 => ⟨u, h1, h2⟩) _ rfl))
end
end Go.AX.Z
namespace Go.AX.Z
open Go.AX
theorem map_subD {α : Type} (f : α → AV) (l : List α) (n : Nat) (h : n ≤ l.length) : sub? (l.map f) n (l.length - n) = some ((l.drop n).map f) := by
 unfold sub?
 rw [if_pos (by simp; omega), List.map_drop, List.take_of_length_le (by simp)]
end Go.AX.Z
namespace Go.AX.Z
open Go.AX
def idxA {α : Type} (n : Int) (l : List α) (i : Int) : Option α := bif decide (0 ≤ i) && decide (i < n) then l[i.toNat]? else none
theorem idxA_some {α : Type} {n : Int} {l : List α} {i : Int} {e : α} (h : idxA n l i = some e) : (0 ≤ i) = True ∧ (i < n) = True ∧ l[i.toNat]? = some e ∧ i.toNat < l.length := by
 unfold idxA at h
 by_cases h0 : 0 ≤ i ∧ i < n
 ·
  rw [show (decide (0 ≤ i) && decide (i < n)) = true by simpa using h0, cond_true] at h
  exact ⟨eq_true h0.1, eq_true h0.2, h, (List.getElem?_eq_some_iff.1 h).1⟩
 ·
  rw [show (decide (0 ≤ i) && decide (i < n)) = false by simp only [Bool.and_eq_false_iff, decide_eq_false_iff_not]; omega] at h
  cases h
end Go.AX.Z
namespace Go.AX.Z
open Go.AX
end Go.AX.Z
namespace Go.AX.Z
open Go.AX
end Go.AX.Z
namespace Go.AX.Z
open Go.AX
end Go.AX.Z

/-! (AyK) -/

namespace Go.AX.Z
open Go.AX

def bys (l : List Int) : ByteArray := l.foldl (fun a x => a.push x.toNat.toUInt8) .empty
def cmpL (l m : List Int) : Int := Extern.BytealgCompare.cmp (bys l) (bys m)

theorem loadBytes_run {P : Program} {w : World} (b : Nat) : ∀ (l : List Int) (o : Nat) (acc : ByteArray), (∀ (j : Nat) x, l[j]? = some x → w.cell? ⟨b, o + j, none⟩ = some (.int .u8 x)) →
  (Extern.Bytes.loadBytes ⟨b, o, none⟩ l.length acc).run P w = .ok (l.foldl (fun a x => a.push x.toNat.toUInt8) acc) w
 | [], o, acc, _ => by simp [Extern.Bytes.loadBytes]
 | x :: l, o, acc, h => by
  have h0 : w.cell? ⟨b, o, none⟩ = some (.int .u8 x) := h 0 x rfl
  have ih := loadBytes_run (P := P) b l (o + 1) (acc.push x.toNat.toUInt8) fun j y hy => by
   have := h (j + 1) y (by simpa using hy)
   rwa [show o + 1 + j = o + (j + 1) by omega]
  simp only [List.length_cons, Extern.Bytes.loadBytes, Sem.run_bind, run_load, h0, Result.andThen, List.foldl_cons]
  exact ih

theorem bytes_run {P : Program} {ρ : Rho} {V : View} {w : World} (hv : ∀ b c, V b = some c → ∃ T fz, w.heap[b]? = some (.cells c T fz)) (l : List Int) {y : Value} (h : Rel ρ V (.imm (l.map vu) l.length) y) :
  (Extern.Bytes.bytesOf y).run P w = .ok (bys l) w := by
 obtain ⟨x, hx⟩ : ∃ x, x = AV.imm (l.map vu) l.length := ⟨_, rfl⟩
 rw [← hx] at h
 cases h with
 | imm cells len b o cap c hV hb H S hlc =>
  cases hx
  obtain ⟨T, f, hh⟩ := hv b c hV
  refine loadBytes_run b l o .empty fun j x hj => ?_
  have hj' : (l.map vu)[j]? = some (vu x) := by simp [hj]
  have hlt : j < l.length := (List.getElem?_eq_some_iff.1 hj).1
  have hc : o + j < c.size := by simp at hb; omega
  have e : c[o + j]? = some c[o + j] := by simp [hc]
  have := Rel.v_inv (H j _ _ hj' e)
  rw [cell_at hh, e, this]
 | imm0 a cap =>
  have h0 : l = [] := by
   have := congrArg (fun z => match z with | AV.imm c _ => c.length | _ => 0) hx
   simp at this
   exact List.length_eq_zero_iff.1 this.symm
  subst h0
  cases a with
  | none => rfl
  | some a => simp [Extern.Bytes.bytesOf, Extern.Bytes.loadBytes, bys]
 | _ => cases hx

theorem cmp_p {C : Ctx} {f : FuncId} {fn : Func} (hf : C.P.funcs[f]? = some fn) (hn : (fn.name == "runtime.NumGoroutine") = false) (hb : fn.body.isNone = true) (h1 : Extern.findNext fn = none)
  (h2 : Extern.find fn = some Extern.BytealgCompare.compare) (l m : List Int) : SndP C f [.imm (l.map vu) l.length, .imm (m.map vu) m.length] (vi (cmpL l m)) := by
 refine SndP.of_zero (Clean.v _) ?_ ⟨trivial, fun ρ V w args' e1 e2 hI hG => .inr ?_⟩
 ·
  intro x hx
  rcases List.mem_cons.1 hx with rfl | hx
  ·
   exact Clean.imm (vu_clean l)
  ·
   rcases List.mem_cons.1 hx with rfl | hx
   ·
    exact Clean.imm (vu_clean m)
   ·
    cases hx
 ·
  obtain ⟨ys⟩ := args'
  match ys, e1 with
  | [y1, y2], _ =>
   have r1 := e2 0 _ y1 rfl rfl
   have r2 := e2 1 _ y2 rfl rfl
   refine ⟨.int .i64 (cmpL l m), w, ?_, _, vi (cmpL l m), deadH 0, ρ, V, rfl, rfl, .v _, hI, Grew.refl _ _ _ _⟩
   rw [run_callFunc_extern hf hn hb h1 h2]
   change (Sem.run C.P (α := Value) (do pure (goInt (Extern.BytealgCompare.cmp (← Extern.Bytes.bytesOf y1) (← Extern.Bytes.bytesOf y2)))) w).andThen _ = _
   simp only [Sem.run_bind, bytes_run hI.view l r1, bytes_run hI.view m r2, Result.andThen, Sem.run_pure]
   rfl
end Go.AX.Z
namespace Go.AX.Z
open Go.AX
theorem SndR.split_nil {C : Ctx} {f : FuncId} {mk : (Nat → Nat) → AV} {l : List (List AV)} (h1 : ∀ cap, SndR C f [.v (.slice none 0 cap)] mk l) (h2 : ∀ a cap, SndR C f [.v (.slice (some a) 0 cap)] mk l) : SndR C f [.imm [] 0] mk l := by
 refine ⟨trivial, fun ρ V w args' e1 e2 hI hG => ?_⟩
 obtain ⟨ys⟩ := args'
 match ys, e1 with
 | [y], _ =>
  have r := e2 0 _ y rfl rfl
  have key : ∃ a cap, y = .slice a 0 cap := by
   obtain ⟨x, hx⟩ : ∃ x, x = AV.imm [] 0 := ⟨_, rfl⟩
   rw [← hx] at r
   cases r with
   | imm cells len b o cap c hV hb H S hlc => cases hx; exact ⟨_, _, rfl⟩
   | imm0 a cap => exact ⟨_, _, rfl⟩
   | _ => cases hx
  obtain ⟨a, cap, rfl⟩ := key
  have e3 : ∀ (i : Nat) x y, ([.v (.slice a 0 cap)] : List AV)[i]? = some x → (⟨[.slice a 0 cap]⟩ : Array Value)[i]? = some y → Rel ρ V x y := by
   intro i x y hx hy
   cases i with
   | zero => simp at hx hy; subst hx; subst hy; exact .v _
   | succ i => simp at hx
  cases a with
  | none => exact (h1 cap).2 ρ V w _ rfl e3 hI hG
  | some a => exact (h2 a cap).2 ρ V w _ rfl e3 hI hG
end Go.AX.Z

/-! (AyL) -/

namespace Go.AX.Z
open Go.AX

def NoV (x : AV) : Prop := ∀ (ρ : Rho) (V V' : View) (y : Value), Rel ρ V x y → Rel ρ V' x y
theorem NoV.v (x : Value) : NoV (.v x) := fun _ _ _ y h => by cases h; exact .v x
theorem NoV.ref (id off len sz : Nat) : NoV (.ref id off len sz) := fun _ _ _ y h => by
 cases h with
 | ref _ _ _ _ cap loc h hc hl => exact .ref id off len sz cap loc h hc hl
 | refE _ _ _ a => exact .refE id off sz a
theorem NoV.agg {cs : List AV} (h : ∀ c ∈ cs, NoV c) : NoV (.agg cs) := by
 intro ρ V V' y hr
 cases hr with
 | agg _ ys h1 H S => exact .agg cs ys h1 (fun i x y hx hy => h x (List.mem_of_getElem? hx) ρ V V' y (H i x y hx hy)) S
theorem NoV.tup {cs : List AV} (h : ∀ c ∈ cs, NoV c) : NoV (.tup cs) := by
 intro ρ V V' y hr
 cases hr with
 | tup _ ys h1 H => exact .tup cs ys h1 (fun i x y hx hy => h x (List.mem_of_getElem? hx) ρ V V' y (H i x y hx hy))
theorem NoV.nil : ∀ c ∈ ([] : List AV), NoV c := by intro c h; cases h
theorem NoV.cons {x : AV} {l : List AV} (h : NoV x) (t : ∀ c ∈ l, NoV c) : ∀ c ∈ x :: l, NoV c := by
 intro c hc
 rcases List.mem_cons.1 hc with rfl | hc
 ·
  exact h
 ·
  exact t c hc

open Classical in
theorem SndM.lend {C : Ctx} {f : FuncId} {args : List AV} {mk : (Nat → Nat) → AV} {l : List (List AV)} (s : HS) (h : SndM C f (args.map (fz s.objs deep)) mk l) (hmk : ∀ q, NoV (mk q)) (hb : ∀ cs ∈ l, ∀ c ∈ cs, NoV c) :
  Snd C f args s fun r s' => r = mk (fun i => s.next + i) ∧ s' = ⟨newL s.objs s.next l, s.next + l.length⟩ := by
 refine ⟨trivial, fun ρ V w args' h1 h2 h3 h4 => ?_⟩
 have hz : Inv ρ (VV ρ V s w) ⟨froze s.objs, s.next⟩ w := by
  refine ⟨(inv_VV h3).view, h3.fresh, fun id cells loc hl => ?_, fun id cells loc hl hρ => ?_, fun i j li lj ci cj hl => ?_⟩
  ·
   simp only [froze] at hl
   cases ho : s.objs id <;> simp [ho] at hl
  ·
   simp only [froze] at hl
   cases ho : s.objs id with
   | dead => simp [ho] at hl
   | live c =>
    simp [ho] at hl; subst hl
    obtain ⟨c', T, g1, g2, g3, g4⟩ := h3.live id c loc ho hρ
    exact ⟨c', VV_own g4 ⟨id, c, loc, ho, hρ, rfl⟩ g1, g3.mono (fun _ _ h => h) VV_mono, g2⟩
   | froz c =>
    simp [ho] at hl; subst hl
    obtain ⟨c', g1, g2, g3⟩ := h3.froz id c loc ho hρ
    exact ⟨c', VV_mono _ _ g1, g2.mono (fun _ _ h => h) VV_mono, g3⟩
  ·
   simp only [froze] at hl
   cases ho : s.objs i <;> simp [ho] at hl
 have q := (h ⟨froze s.objs, s.next⟩).2 ρ (VV ρ V s w) w args' (by simpa using h1) (fun i x y hx hy => by
  obtain ⟨z, hz, rfl⟩ := getElem?_map_iff hx
  exact fz_rel h3 deep z y (h2 i z y hz hy)) hz (h4.mono VV_mono)
 refine q.mono ?_
 rintro e w' ⟨y, r', s', ρ', V', rfl, ⟨rfl, rfl⟩, hrel, hinv, hg⟩
 simp only at hinv hg hrel
 have hown : ∀ b, ¬ Own ρ ⟨froze s.objs, s.next⟩ b := by
  rintro b ⟨id, cells, loc, hl, _⟩
  simp only [froze] at hl
  cases ho : s.objs id <;> simp [ho] at hl
 have hk : ∀ b, b < w.heap.size → w'.heap[b]? = w.heap[b]? := fun b hb' => hg.keep b hb' (hown b)
 have vown : ∀ b c, V b = some c → ¬ Own ρ s b := by
  rintro b c hv ⟨id, cells, loc, hl, hρ, rfl⟩
  obtain ⟨_, _, _, _, _, g⟩ := h3.live id cells loc hl hρ
  rw [hv] at g; cases g
 let V2 : View := fun b => if Own ρ s b then none else V' b
 have hV2 : ∀ b c, V2 b = some c → V' b = some c ∧ ¬ Own ρ s b := by
  intro b c hv
  simp only [V2] at hv
  split at hv
  ·
   cases hv
  ·
   rename_i hn; exact ⟨hv, hn⟩
 have hVm : ∀ b c, V b = some c → V2 b = some c := by
  intro b c hv
  simp only [V2, if_neg (vown b c hv)]
  exact hg.view b c (VV_mono _ _ hv)
 have hVo : ∀ b, Own ρ s b → V2 b = none := fun b hb' => by simp only [V2, if_pos hb']
 have old : ∀ id loc, id < s.next → ρ' id = some loc → ρ id = some loc := fun id loc hid hr => by rw [← hg.old id hid]; exact hr
 -- what lives now: old or new
 have split : ∀ id cells loc, newL s.objs s.next l id = .live cells → ρ' id = some loc →
   (id < s.next ∧ s.objs id = .live cells) ∨ (cells ∈ l ∧ newL (froze s.objs) s.next l id = .live cells) := by
  intro id cells loc hl hρ
  rw [newL_get] at hl
  by_cases hid : s.next ≤ id
  ·
   rw [if_pos hid] at hl
   cases hc : l[id - s.next]? with
   | some cs =>
    rw [hc] at hl; cases hl
    refine .inr ⟨List.mem_of_getElem? hc, ?_⟩
    rw [newL_get, if_pos hid, hc]
   | none =>
    exfalso
    have := List.getElem?_eq_none_iff.1 hc
    have hf := hinv.fresh id (by simp only; omega)
    rw [hf] at hρ; cases hρ
  ·
   rw [if_neg hid] at hl
   exact .inl ⟨by omega, hl⟩
 have newSize : ∀ id cells loc, newL (froze s.objs) s.next l id = .live cells → ρ' id = some loc → w.heap.size ≤ loc.b := by
  intro id cells loc hl hρ
  rcases hg.own loc.b ⟨id, cells, loc, hl, hρ, rfl⟩ with h5 | h5
  ·
   exact (hown _ h5).elim
  ·
   exact h5
 have oldSize : ∀ id cells loc, s.objs id = .live cells → ρ id = some loc → loc.b < w.heap.size := by
  intro id cells loc hl hρ
  obtain ⟨_, _, g1, _⟩ := h3.live id cells loc hl hρ
  exact lt_heap g1
 have relV : ∀ {cells : List AV} {c : Array Value} {o : Nat}, (∀ x ∈ cells, NoV x) → RelC ρ' V' cells c o → RelC ρ' V2 cells c o := fun hn hc =>
  ⟨hc.le, fun i x y hx hy => hn x (List.mem_of_getElem? hx) _ _ _ _ (hc.rel i x y hx hy), hc.sto⟩
 refine ⟨y, _, _, ρ', V2, rfl, ⟨rfl, rfl⟩, hmk _ _ _ _ _ hrel, ?_, ?_⟩
 ·
  refine ⟨fun b c hv => hinv.view b c (hV2 b c hv).1, fun id hid => hinv.fresh id hid, fun id cells loc hl hρ => ?_, fun id cells loc hl hρ => ?_, fun i j li lj ci cj hi hj hρi hρj hbb => ?_⟩
  ·
   rcases split id cells loc hl hρ with ⟨hid, ho⟩ | ⟨hm, ho⟩
   ·
    have hr := old id loc hid hρ
    obtain ⟨c, T, g1, g2, g3, g4⟩ := h3.live id cells loc ho hr
    exact ⟨c, T, by rw [hk _ (lt_heap g1)]; exact g1, g2, g3.mono hg.rho hVm, hVo _ ⟨id, cells, loc, ho, hr, rfl⟩⟩
   ·
    obtain ⟨c, T, g1, g2, g3, g4⟩ := hinv.live id cells loc ho hρ
    refine ⟨c, T, g1, g2, relV (hb cells hm) g3, ?_⟩
    cases hv : V2 loc.b with
    | none => rfl
    | some c' => rw [(hV2 _ _ hv).1] at g4; cases g4
  ·
   change newL s.objs s.next l id = _ at hl
   rw [newL_get] at hl
   have hid : id < s.next ∧ s.objs id = .froz cells := by
    by_cases hid : s.next ≤ id
    ·
     rw [if_pos hid] at hl
     cases hc : l[id - s.next]? with
     | some cs => rw [hc] at hl; cases hl
     | none =>
      exfalso
      have := List.getElem?_eq_none_iff.1 hc
      have hf := hinv.fresh id (by simp only; omega)
      rw [hf] at hρ; cases hρ
    ·
     rw [if_neg hid] at hl; exact ⟨by omega, hl⟩
   have hr := old id loc hid.1 hρ
   obtain ⟨c, g1, g2, g3⟩ := h3.froz id cells loc hid.2 hr
   exact ⟨c, hVm _ _ g1, g2.mono hg.rho hVm, g3⟩
  ·
   rcases split i ci li hi hρi with ⟨a1, a2⟩ | ⟨a1, a2⟩ <;> rcases split j cj lj hj hρj with ⟨b1, b2⟩ | ⟨b1, b2⟩
   ·
    exact h3.inj i j li lj ci cj a2 b2 (old i li a1 hρi) (old j lj b1 hρj) hbb
   ·
    have := oldSize i ci li a2 (old i li a1 hρi)
    have := newSize j cj lj b2 hρj
    omega
   ·
    have := oldSize j cj lj b2 (old j lj b1 hρj)
    have := newSize i ci li a2 hρi
    omega
   ·
    exact hinv.inj i j li lj ci cj a2 b2 hρi hρj hbb
 ·
  refine ⟨hg.rho, hg.old, Nat.le_add_right _ _, hVm, hg.size, fun b hb' _ => hk b hb', fun b hb' => ?_, fun b c hv => ?_, hg.mem⟩
  ·
   obtain ⟨id, cells, loc, hl, hρ, rfl⟩ := hb'
   rcases split id cells loc hl hρ with ⟨hid, ho⟩ | ⟨_, ho⟩
   ·
    exact .inl ⟨id, cells, loc, ho, old id loc hid hρ, rfl⟩
   ·
    exact .inr (newSize id cells loc ho hρ)
  ·
   rcases hg.vnew b c (hV2 b c hv).1 with h5 | h5 | h5
   ·
    rcases VV_cases h5 with h6 | ⟨h6, _⟩
    ·
     exact .inl h6
    ·
     exact .inr (.inl h6)
   ·
    exact (hown b h5).elim
   ·
    exact .inr (.inr h5)

theorem xcall_ML {C : Ctx} {fr : Nat} {f : FuncId} {args args' : List AV} {objs : Nat → Ob} {nx : Nat} {k : AV → HS → Prop} {mk : (Nat → Nat) → AV} {l : List (List AV)} (he : args.map (fz objs deep) = args') (h : SndM C f args' mk l) (hmk : ∀ q, NoV (mk q)) (hb : ∀ cs ∈ l, ∀ c ∈ cs, NoV c)
  (hk : k (mk fun i => nx + i) ⟨newL objs nx l, nx + l.length⟩) : xcall C false fr (some (f, args)) ⟨objs, nx⟩ k := by
 subst he
 exact xcall_g (SndM.lend ⟨objs, nx⟩ h hmk hb) fun r hs hr => by obtain ⟨rfl, rfl⟩ := hr; exact hk
theorem NoV.rows {α : Type} {e : α → List AV} (h : ∀ a, ∀ c ∈ e a, NoV c) (l : List α) : ∀ c ∈ l.flatMap e, NoV c := by
 intro c hc
 obtain ⟨a, _, ha⟩ := List.mem_flatMap.1 hc
 exact h a c ha
theorem NoV.maps {α : Type} {e : α → AV} (h : ∀ a, NoV (e a)) (l : List α) : ∀ c ∈ l.map e, NoV c := by
 intro c hc
 obtain ⟨a, _, rfl⟩ := List.mem_map.1 hc
 exact h a
theorem NoV.onil : ∀ cs ∈ ([] : List (List AV)), ∀ c ∈ cs, NoV c := by intro c h; cases h
theorem NoV.ocons {x : List AV} {l : List (List AV)} (h : ∀ c ∈ x, NoV c) (t : ∀ cs ∈ l, ∀ c ∈ cs, NoV c) : ∀ cs ∈ x :: l, ∀ c ∈ cs, NoV c := by
 intro c hc
 rcases List.mem_cons.1 hc with rfl | hc
 ·
  exact h
 ·
  exact t c hc

open Classical in
theorem SndE.lend {C : Ctx} {f : FuncId} {args : List AV} {hs : HS} {fr : Nat} {r : AV} {CS : List AV} (h : ∀ s : HS, SndE C f (args.map (fz hs.objs deep)) s fr ⟨r, .new CS⟩) (hr : NoV r) (hb : ∀ c ∈ CS, NoV c) :
  SndE C f args hs fr ⟨r, .new CS⟩ := by
 intro ρ V w args' h1 h2 h3 h4 hfr hfn
 have hz : Inv ρ (VV ρ V hs w) ⟨froze hs.objs, hs.next⟩ w := by
  refine ⟨(inv_VV h3).view, h3.fresh, fun id cells loc hl => ?_, fun id cells loc hl hρ => ?_, fun i j li lj ci cj hl => ?_⟩
  ·
   simp only [froze] at hl
   cases ho : hs.objs id <;> simp [ho] at hl
  ·
   simp only [froze] at hl
   cases ho : hs.objs id with
   | dead => simp [ho] at hl
   | live c =>
    simp [ho] at hl; subst hl
    obtain ⟨c', T, g1, g2, g3, g4⟩ := h3.live id c loc ho hρ
    exact ⟨c', VV_own g4 ⟨id, c, loc, ho, hρ, rfl⟩ g1, g3.mono (fun _ _ h => h) VV_mono, g2⟩
   | froz c =>
    simp [ho] at hl; subst hl
    obtain ⟨c', g1, g2, g3⟩ := h3.froz id c loc ho hρ
    exact ⟨c', VV_mono _ _ g1, g2.mono (fun _ _ h => h) VV_mono, g3⟩
  ·
   simp only [froze] at hl
   cases ho : hs.objs i <;> simp [ho] at hl
 have q := h ⟨froze hs.objs, hs.next⟩ ρ (VV ρ V hs w) w args' (by simpa using h1) (fun i x y hx hy => by
  obtain ⟨z, hz, rfl⟩ := getElem?_map_iff hx
  exact fz_rel h3 deep z y (h2 i z y hz hy)) hz (h4.mono VV_mono) hfr hfn
 refine q.mono ?_
 rintro e w' ⟨y, ρ', V', rfl, hd⟩
 have hown : ∀ b, ¬ Own ρ ⟨froze hs.objs, hs.next⟩ b := by
  rintro b ⟨id, cells, loc, hl, _⟩
  simp only [froze] at hl
  cases ho : hs.objs id <;> simp [ho] at hl
 have hk : ∀ b, b < w.heap.size → w'.heap[b]? = w.heap[b]? := fun b hb' => hd.keep b hb' (hown b)
 have vown : ∀ b c, V b = some c → ¬ Own ρ hs b := by
  rintro b c hv ⟨id, cells, loc, hl, hρ, rfl⟩
  obtain ⟨_, _, _, _, _, g⟩ := h3.live id cells loc hl hρ
  rw [hv] at g; cases g
 let V2 : View := fun b => if Own ρ hs b then none else V' b
 have hV2 : ∀ b c, V2 b = some c → V' b = some c ∧ ¬ Own ρ hs b := by
  intro b c hv
  simp only [V2] at hv
  split at hv
  ·
   cases hv
  ·
   rename_i hn; exact ⟨hv, hn⟩
 have hVm : ∀ b c, V b = some c → V2 b = some c := by
  intro b c hv
  simp only [V2, if_neg (vown b c hv)]
  exact hd.view b c (VV_mono _ _ hv)
 have hVo : ∀ b, Own ρ hs b → V2 b = none := fun b hb' => by simp only [V2, if_pos hb']
 have newSize : ∀ loc, ρ' fr = some loc → w.heap.size ≤ loc.b := by
  intro loc hρ
  rcases hd.own loc.b ⟨fr, CS, loc, by simp only [doAct, upd_eq], hρ, rfl⟩ with h5 | h5
  ·
   exact (hown _ h5).elim
  ·
   exact h5
 have oldSize : ∀ id cells loc, hs.objs id = .live cells → ρ id = some loc → loc.b < w.heap.size := by
  intro id cells loc hl hρ
  obtain ⟨_, _, g1, _⟩ := h3.live id cells loc hl hρ
  exact lt_heap g1
 have relV : ∀ {cells : List AV} {c : Array Value} {o : Nat}, (∀ x ∈ cells, NoV x) → RelC ρ' V' cells c o → RelC ρ' V2 cells c o := fun hn hc =>
  ⟨hc.le, fun i x y hx hy => hn x (List.mem_of_getElem? hx) _ _ _ _ (hc.rel i x y hx hy), hc.sto⟩
 refine ⟨y, ρ', V2, rfl, hr _ _ _ _ hd.rel, ?_, hd.rho, hd.oth, hVm, hd.size, fun b hb' _ => hk b hb', fun b hb' => ?_, fun b c hv => ?_, hd.mem⟩
 ·
  refine ⟨fun b c hv => hd.inv.view b c (hV2 b c hv).1, fun id hid => hd.inv.fresh id hid, fun id cells loc hl hρ => ?_, fun id cells loc hl hρ => ?_, fun i j li lj ci cj hi hj hρi hρj hbb => ?_⟩
  ·
   simp only [doAct] at hl
   by_cases he : id = fr
   ·
    subst he
    rw [upd_eq] at hl; cases hl
    obtain ⟨c, T, g1, g2, g3, g4⟩ := hd.inv.live id CS loc (by simp only [doAct, upd_eq]) hρ
    refine ⟨c, T, g1, g2, relV hb g3, ?_⟩
    cases hv : V2 loc.b with
    | none => rfl
    | some c' => rw [(hV2 _ _ hv).1] at g4; cases g4
   ·
    rw [upd_ne _ _ he] at hl
    rw [hd.oth id he] at hρ
    obtain ⟨c, T, g1, g2, g3, g4⟩ := h3.live id cells loc hl hρ
    exact ⟨c, T, by rw [hk _ (lt_heap g1)]; exact g1, g2, g3.mono hd.rho hVm, hVo _ ⟨id, cells, loc, hl, hρ, rfl⟩⟩
  ·
   simp only [doAct] at hl
   by_cases he : id = fr
   ·
    subst he; rw [upd_eq] at hl; cases hl
   ·
    rw [upd_ne _ _ he] at hl
    rw [hd.oth id he] at hρ
    obtain ⟨c, g1, g2, g3⟩ := h3.froz id cells loc hl hρ
    exact ⟨c, hVm _ _ g1, g2.mono hd.rho hVm, g3⟩
  ·
   simp only [doAct] at hi hj
   by_cases h5 : i = fr <;> by_cases h6 : j = fr
   ·
    rw [h5, h6]
   ·
    subst h5
    rw [upd_ne _ _ h6] at hj
    rw [hd.oth j h6] at hρj
    have := newSize li hρi
    have := oldSize j cj lj hj hρj
    omega
   ·
    subst h6
    rw [upd_ne _ _ h5] at hi
    rw [hd.oth i h5] at hρi
    have := newSize lj hρj
    have := oldSize i ci li hi hρi
    omega
   ·
    rw [upd_ne _ _ h5] at hi
    rw [upd_ne _ _ h6] at hj
    rw [hd.oth i h5] at hρi
    rw [hd.oth j h6] at hρj
    exact h3.inj i j li lj ci cj hi hj hρi hρj hbb
 ·
  obtain ⟨id, cells, loc, hl, hρ, rfl⟩ := hb'
  simp only [doAct] at hl
  by_cases he : id = fr
  ·
   subst he; exact .inr (newSize loc hρ)
  ·
   rw [upd_ne _ _ he] at hl
   rw [hd.oth id he] at hρ
   exact .inl ⟨id, cells, loc, hl, hρ, rfl⟩
 ·
  rcases hd.vnew b c (hV2 b c hv).1 with h5 | h5 | h5
  ·
   rcases VV_cases h5 with h6 | ⟨h6, _⟩
   ·
    exact .inl h6
   ·
    exact .inr (.inl h6)
  ·
   exact (hown b h5).elim
  ·
   exact .inr (.inr h5)

theorem xcallD_EL {C : Ctx} {fr : Nat} {f : FuncId} {args args' : List AV} {objs : Nat → Ob} {k : Eff → Foot → Prop} {kb : FuncId → List AV → Prop} {r : AV} {CS : List AV} {rd : Foot} (he : args.map (fz objs deep) = args') (hr : args.flatMap (reach objs deep) = rd) (h : ∀ hs : HS, SndE C f args' hs fr ⟨r, .new CS⟩) (hn : NoV r) (hb : ∀ c ∈ CS, NoV c)
  (hk : k ⟨r, .new CS⟩ rd) : xcallD C fr (some (f, args)) objs k kb := by
 subst hr
 refine xcallD_e (fun hs hag => SndE.lend (fun s => ?_) hn hb) hk
 have : args.map (fz hs.objs deep) = args.map (fz objs deep) := List.map_congr_left fun c hc => fz_agree deep c (agrees_sub hag fun p hp => List.mem_flatMap.2 ⟨c, hc, hp⟩)
 rw [this, he]; exact h s
theorem take_set {α : Type} (l : List α) (i : Nat) (x : α) : List.take l.length (l.set i x) = l.set i x := by
 have h := List.take_length (l := l.set i x)
 rwa [List.length_set] at h
end Go.AX.Z

/-! (AyM) -/

namespace Go.AX
attribute [go_sem] capE appzE copyC slice3E slice3L
theorem ap_t {objs : Nat → Ob} {nx fr : Nat} {t : Nat → AV} {x : AV} {u id : Nat} {cs : List AV} : AS.apply { objs := objs, next := nx, tmps := t } (some u) fr ⟨x, .set id cs⟩ = { objs := doAct fr (.set id cs) objs, next := nx, tmps := upd t u x } := (rfl)
theorem ap_t0 {objs : Nat → Ob} {nx fr : Nat} {t : Nat → AV} {x : AV} {id : Nat} {cs : List AV} : AS.apply { objs := objs, next := nx, tmps := t } none fr ⟨x, .set id cs⟩ = { objs := doAct fr (.set id cs) objs, next := nx, tmps := t } := (rfl)
attribute [go_sem] ap_t ap_t0
end Go.AX
namespace Go.AX.Z
open Go.AX

theorem Snd.open {C : Ctx} {f : FuncId} {id off len sz : Nat} {xs : List AV} {s : HS} {R : AV → HS → Prop} (hl : 0 < len) (h : ∀ cap, len ≤ cap → Snd C f (.refc id off len sz cap :: xs) s R) : Snd C f (.ref id off len sz :: xs) s R := by
 refine ⟨trivial, fun ρ V w args' e1 e2 hI hG => ?_⟩
 obtain ⟨ys⟩ := args'
 match ys, e1, e2 with
 | y :: ys, e1, e2 =>
  have r := e2 0 _ y rfl rfl
  have key : ∃ cap, len ≤ cap ∧ Rel ρ V (.refc id off len sz cap) y := by
   cases r with
   | ref _ _ _ _ cap loc h1 h2 h3 => exact ⟨cap, h3, .refc id off len sz cap loc h1 h2 h3⟩
   | refE => omega
  obtain ⟨cap, hc, r'⟩ := key
  refine (h cap hc).2 ρ V w _ e1 (fun i x z hx hz => ?_) hI hG
  cases i with
  | zero => simp at hx hz; subst hx; subst hz; exact r'
  | succ i => exact e2 (i + 1) x z (by simpa using hx) hz

theorem Wk.cap {k : Nat} {C : Ctx} {objs : Nat → Ob} {nx : Nat} {tm : Nat → AV} (j : Nat) {id off len sz cap : Nat} (h : tm j = .refc id off len sz cap) : Wk k C { objs := objs, next := nx, tmps := tm } { objs := objs, next := nx, tmps := upd tm j (.ref id off len sz) } := by
 rintro N B a w hl ⟨ρ, V, h1, h2⟩
 refine ⟨ρ, V, fun t => ?_, h2⟩
 show Rel ρ V (upd tm j (.ref id off len sz) t) _
 by_cases ht : t = j
 ·
  subst ht
  have := h1 t
  simp only at this
  rw [h] at this
  rw [upd_eq]
  generalize a.tmps.getD t undef = y at this ⊢
  cases this with
  | refc _ _ _ _ _ loc h1 h2 h3 => exact .ref id off len sz cap loc h1 h2 h3
 ·
  rw [upd_ne _ _ ht]; exact h1 t

end Go.AX.Z
namespace Go.AX.Z
open Go.AX
end Go.AX.Z
namespace Go.AX.Z
open Go.AX
end Go.AX.Z

/-! (AyN) -/

namespace Go.AX.Z
open Go.AX
def band (k : IntKind) (a b : Int) : Int := k.wrap ((BitVec.ofInt k.bits a &&& BitVec.ofInt k.bits b).toNat)
def bor (k : IntKind) (a b : Int) : Int := k.wrap ((BitVec.ofInt k.bits a ||| BitVec.ofInt k.bits b).toNat)
def bxor (k : IntKind) (a b : Int) : Int := k.wrap ((BitVec.ofInt k.bits a ^^^ BitVec.ofInt k.bits b).toNat)
def bandn (k : IntKind) (a b : Int) : Int := k.wrap ((BitVec.ofInt k.bits a &&& ~~~ BitVec.ofInt k.bits b).toNat)
theorem iop_and {k : IntKind} {a b : Int} : iop .and k a k b = some (.int k (band k a b)) := by simp only [iop, if_true, band]
theorem iop_or {k : IntKind} {a b : Int} : iop .or k a k b = some (.int k (bor k a b)) := by simp only [iop, if_true, bor]
theorem iop_xor {k : IntKind} {a b : Int} : iop .xor k a k b = some (.int k (bxor k a b)) := by simp only [iop, if_true, bxor]
theorem iop_andn {k : IntKind} {a b : Int} : iop .andNot k a k b = some (.int k (bandn k a b)) := by simp only [iop, if_true, bandn]
end Go.AX.Z
namespace Go.AX.Z
open Go.AX
def nilOr (b : Bool) (x : AV) : AV := bif b then .v (.slice none 0 0) else x
section
variable {s : AS} {F : List Nat} {σ : List (Option Nat)} {x y : AV}
theorem Tm.on {b : Bool} (h : Tm s F σ x y) : Tm s F σ (nilOr b x) (nilOr b y) := by cases b <;> first | exact h | exact Tm.v _
end
end Go.AX.Z

/-! (AyO) -/

namespace Go.AX

end Go.AX

/-! (AyS) -/

namespace Go.AX.Z
open Go.AX

end Go.AX.Z

/-! (AyT) -/

namespace Go.AX.Z
open Go.AX

inductive Fr (q nx off : Nat) : AV → AV → Prop
 | same (x : AV) : Fr q nx off x x
 | ref (o len sz : Nat) (h : o = off) : Fr q nx off (.ref q o len sz) (.ref nx 0 len sz)
 | aggs (l m : List AV) (h : l.length = m.length) (H : ∀ (i : Nat) x y, l[i]? = some x → m[i]? = some y → Fr q nx off x y) : Fr q nx off (.agg l) (.agg m)
def FrL (q nx off : Nat) (l m : List AV) : Prop := l.length = m.length ∧ ∀ (i : Nat) x y, l[i]? = some x → m[i]? = some y → Fr q nx off x y
theorem FrL.nil {q nx off : Nat} : FrL q nx off [] [] := ⟨rfl, fun i x y hx _ => by simp at hx⟩
theorem FrL.cons {q nx off : Nat} (x y : AV) (l m : List AV) (h : Fr q nx off x y) (t : FrL q nx off l m) : FrL q nx off (x :: l) (y :: m) := by
 refine ⟨by simp [t.1], fun i a b ha hb => ?_⟩
 cases i with
 | zero => simp at ha hb; subst ha; subst hb; exact h
 | succ i => exact t.2 i a b (by simpa using ha) (by simpa using hb)
theorem Fr.agg {q nx off : Nat} (l m : List AV) (h : FrL q nx off l m) : Fr q nx off (.agg l) (.agg m) := .aggs l m h.1 h.2
theorem FrL.len {q nx off : Nat} {l m : List AV} (h : FrL q nx off l m) : l.length = m.length := h.1
theorem FrL.get {q nx off : Nat} {l m : List AV} (h : FrL q nx off l m) (i : Nat) (x y : AV) : l[i]? = some x → m[i]? = some y → Fr q nx off x y := h.2 i x y

def shift (ρ : Rho) (q nx off : Nat) : Rho := fun id => if id = nx then (ρ q).map fun loc => ⟨loc.b, loc.base + off, loc.N⟩ else ρ id

def updT (t : Nat → AV) : List (Nat × AV) → Nat → AV
 | [] => t
 | (j, x) :: l => updT (upd t j x) l
theorem updT_n (t : Nat → AV) : updT t [] = t := rfl
theorem updT_c (t : Nat → AV) (j : Nat) (x : AV) (l : List (Nat × AV)) : updT t ((j, x) :: l) = updT (upd t j x) l := rfl
def updO (o : Nat → Ob) : List (Nat × List AV) → Nat → Ob
 | [] => o
 | (j, c) :: l => updO (upd o j (.live c)) l
theorem updO_n (o : Nat → Ob) : updO o [] = o := rfl
theorem updO_c (o : Nat → Ob) (j : Nat) (c : List AV) (l : List (Nat × List AV)) : updO o ((j, c) :: l) = updO (upd o j (.live c)) l := rfl

section
variable {C : Ctx} {fr : Nat} {f : FuncId} {objs : Nat → Ob} {nx : Nat} {tm : Nat → AV} {kk : Eff → Foot → Prop} {all : List Oper} {i : Nat} {dst : Option Nat} {acc : List Print} {K : AS → List Print → Prop}

end

def sEq (a b : List Int) : Bool := (strB a).toList == (strB b).toList
theorem sEq_i (a b : List Int) : ((strB a).toList == (strB b).toList) = sEq a b := rfl
theorem bytesOf_vu : ∀ l : List Int, bytesOf (List.map vu l) = some l
 | [] => rfl
 | x :: l => by rw [List.map_cons, bytesOf, bytesOf_vu l]; rfl
attribute [go_sem] updT_n updT_c updO_n updO_c bytesOf_vu sEq_i strE
end Go.AX.Z

/-! (AyU) -/

namespace Go.AX.Z
open Go.AX

abbrev vs (l : List Int) : AV := .v (.string (strB l))

def sB (l : List Int) : List Int := l.map fun n => ((UInt8.ofNat n.toNat).toNat : Int)

theorem strB_go (l : List Int) (r : ByteArray) : (l.foldl (fun r n => r.push (UInt8.ofNat n.toNat)) r).data.toList = r.data.toList ++ l.map fun n => UInt8.ofNat n.toNat := by
 induction l generalizing r with
 | nil => simp
 | cons a l ih => rw [List.foldl_cons, ih]; simp [ByteArray.push]

theorem strB_data (l : List Int) : (strB l).data.toList = l.map fun n => UInt8.ofNat n.toNat := by
 unfold strB; rw [strB_go]; rfl

theorem strB_size (l : List Int) : (strB l).size = l.length := by
 show (strB l).data.size = l.length
 rw [← Array.length_toList, strB_data, List.length_map]

theorem sB_len (l : List Int) : (sB l).length = l.length := List.length_map _

theorem sbE_vs {P : Program} {a b e : TypeId} {d : TypeDesc} (ha : P.underlying a = some d) (hb : P.underlying b = some (.slice e)) (he : P.underlying e = some (.int .u8)) (l : List Int) :
  sbE P a b (vs l) = some (.imm (List.map vu (sB l)) (sB l).length) := by
 unfold sbE
 simp only [ha, hb, he, strB_data, strB_size, sB, List.map_map, List.length_map]
 rfl

theorem str_of (s : ByteArray) : ∃ l : List Int, strB l = s ∧ l.length = s.size ∧ ∀ x ∈ l, 0 ≤ x ∧ x < 256 := by
 refine ⟨s.data.toList.map fun c => (c.toNat : Int), ?_, ?_, ?_⟩
 ·
  apply ByteArray.ext
  apply Array.toList_inj.1
  rw [strB_data, List.map_map]
  have : ((fun n : Int => UInt8.ofNat n.toNat) ∘ fun c : UInt8 => (c.toNat : Int)) = id := by
   funext c
   show UInt8.ofNat ((c.toNat : Int)).toNat = c
   rw [Int.toNat_natCast]; exact UInt8.ofNat_toNat
  rw [this, List.map_id]
 ·
  rw [List.length_map, Array.length_toList]; rfl
 ·
  intro x hx
  obtain ⟨c, _, rfl⟩ := List.mem_map.1 hx
  have := c.toNat_lt
  omega

attribute [go_sem] strB_size
end Go.AX.Z

/-! (AyV) -/

namespace Go.AX.Z
open Go.AX

def eatU (objs : Nat → Ob) (L : List Nat) : Nat → Ob := L.foldl (fun o id => upd o id .dead) objs
theorem eatU_n (objs : Nat → Ob) : eatU objs [] = objs := rfl
theorem eatU_c (objs : Nat → Ob) (i : Nat) (l : List Nat) : eatU objs (i :: l) = eatU (upd objs i .dead) l := rfl
def onlyU (objs o : Nat → Ob) (L : List Nat) : Nat → Ob := L.foldl (fun o id => upd o id (objs id)) o
theorem onlyU_n (objs o : Nat → Ob) : onlyU objs o [] = o := rfl
theorem onlyU_c (objs o : Nat → Ob) (i : Nat) (l : List Nat) : onlyU objs o (i :: l) = onlyU objs (upd o i (objs i)) l := rfl

theorem eatU_get : ∀ (L : List Nat) (objs : Nat → Ob) (id : Nat), eatU objs L id = if id ∈ L then .dead else objs id
 | [], objs, id => by simp [eatU]
 | i :: l, objs, id => by
  rw [eatU_c, eatU_get l]
  by_cases h1 : id ∈ l
  ·
   simp [h1]
  ·
   by_cases h2 : id = i
   ·
    subst h2; simp [h1]
   ·
    simp [h1, h2, upd_ne _ _ h2]

theorem onlyU_get (objs : Nat → Ob) : ∀ (L : List Nat) (o : Nat → Ob) (id : Nat), onlyU objs o L id = if id ∈ L then objs id else o id
 | [], o, id => by simp [onlyU]
 | i :: l, o, id => by
  rw [onlyU_c, onlyU_get objs l]
  by_cases h1 : id ∈ l
  ·
   simp [h1]
  ·
   by_cases h2 : id = i
   ·
    subst h2; simp [h1]
   ·
    simp [h1, h2, upd_ne _ _ h2]

theorem Snd.eat {C : Ctx} {f : FuncId} {args : List AV} {r : AV} (s : HS) (L : List Nat) (h : SndP C f (args.map (fz (onlyU s.objs (fun _ => .dead) L) deep)) r) :
  Snd C f args s fun r' s' => r' = r ∧ s' = ⟨eatU s.objs L, s.next⟩ := by
 refine ⟨trivial, fun ρ V w args' h1 h2 h3 h4 => ?_⟩
 let s0 : HS := ⟨onlyU s.objs (fun _ => .dead) L, s.next⟩
 have s0o : ∀ id, s0.objs id = if id ∈ L then s.objs id else .dead := fun id => onlyU_get s.objs L _ id
 have h3' : Inv ρ V s0 w := by
  refine ⟨h3.view, h3.fresh, fun id cells loc hl hρ => ?_, fun id cells loc hl hρ => ?_, fun i j li lj ci cj hi hj => ?_⟩
  ·
   rw [s0o] at hl; split at hl
   ·
    exact h3.live id cells loc hl hρ
   ·
    cases hl
  ·
   rw [s0o] at hl; split at hl
   ·
    exact h3.froz id cells loc hl hρ
   ·
    cases hl
  ·
   rw [s0o] at hi hj; split at hi
   ·
    split at hj
    ·
     exact h3.inj i j li lj ci cj hi hj
    ·
     cases hj
   ·
    cases hi
 have own0 : ∀ b, Own ρ s0 b → Own ρ s b := by
  rintro b ⟨id, cells, loc, hl, hρ, rfl⟩
  rw [s0o] at hl; split at hl
  ·
   exact ⟨id, cells, loc, hl, hρ, rfl⟩
  ·
   cases hl
 let sk : HS := ⟨eatU s.objs L, s.next⟩
 have sko : ∀ id, sk.objs id = if id ∈ L then .dead else s.objs id := fun id => eatU_get L s.objs id
 have ownk : ∀ b, Own ρ sk b → Own ρ s b := by
  rintro b ⟨id, cells, loc, hl, hρ, rfl⟩
  rw [sko] at hl; split at hl
  ·
   cases hl
  ·
   exact ⟨id, cells, loc, hl, hρ, rfl⟩
 have hk : Inv ρ (VV ρ V s0 w) sk w := by
  refine ⟨(inv_VV h3').view, h3.fresh, fun id cells loc hl hρ => ?_, fun id cells loc hl hρ => ?_, fun i j li lj ci cj hi hj => ?_⟩
  ·
   rw [sko] at hl
   split at hl
   ·
    cases hl
   ·
    rename_i hn
    obtain ⟨c, T, g1, g2, g3, g4⟩ := h3.live id cells loc hl hρ
    refine ⟨c, T, g1, g2, g3.mono (fun _ _ h => h) VV_mono, ?_⟩
    cases hv : VV ρ V s0 w loc.b with
    | none => rfl
    | some c' =>
     rcases VV_cases hv with h6 | ⟨⟨id', cells', loc', hl', hρ', he⟩, _⟩
     ·
      rw [g4] at h6; cases h6
     ·
      rw [s0o] at hl'
      split at hl'
      ·
       rename_i hin
       have := h3.inj id' id loc' loc cells' cells hl' hl hρ' hρ he
       subst this; exact (hn hin).elim
      ·
       cases hl'
  ·
   rw [sko] at hl
   split at hl
   ·
    cases hl
   ·
    obtain ⟨c, g1, g2, g3⟩ := h3.froz id cells loc hl hρ
    exact ⟨c, VV_mono _ _ g1, g2.mono (fun _ _ h => h) VV_mono, g3⟩
  ·
   rw [sko] at hi hj
   split at hi
   ·
    cases hi
   ·
    split at hj
    ·
     cases hj
    ·
     exact h3.inj i j li lj ci cj hi hj
 have q := (h.quiet sk).2 ρ (VV ρ V s0 w) w args' (by simpa using h1) (fun i x y hx hy => by
  obtain ⟨z, hz, rfl⟩ := getElem?_map_iff hx
  exact fz_rel h3' deep z y (h2 i z y hz hy)) hk (h4.mono VV_mono)
 refine q.mono ?_
 rintro e w' ⟨y, r', s', ρ', V', rfl, ⟨rfl, rfl⟩, hrel, hinv, hg⟩
 refine ⟨y, _, _, ρ', V', rfl, ⟨rfl, rfl⟩, hrel, hinv, ?_⟩
 refine ⟨hg.rho, hg.old, hg.next, fun b c hv => hg.view b c (VV_mono _ _ hv), hg.size, fun b hb hn => hg.keep b hb fun ho => hn (ownk b ho), fun b ho => ?_, fun b c hv => ?_, hg.mem⟩
 ·
  rcases hg.own b ho with h5 | h5
  ·
   exact .inl (ownk b h5)
  ·
   exact .inr h5
 ·
  rcases hg.vnew b c hv with h5 | h5 | h5
  ·
   rcases VV_cases h5 with h6 | ⟨h6, _⟩
   ·
    exact .inl h6
   ·
    exact .inr (.inl (own0 b h6))
  ·
   exact .inr (.inl (ownk b h5))
  ·
   exact .inr (.inr h5)

theorem xcall_F {C : Ctx} {fr : Nat} {f : FuncId} {args args' : List AV} {r : AV} {objs : Nat → Ob} {nx : Nat} {K : AV → HS → Prop} (L : List Nat) (he : args.map (fz (onlyU objs (fun _ => .dead) L) deep) = args') (h : SndP C f args' r)
  (hk : K r ⟨eatU objs L, nx⟩) : xcall C false fr (some (f, args)) ⟨objs, nx⟩ K := by
 subst he
 exact xcall_g (Snd.eat ⟨objs, nx⟩ L h) fun r hs hr => by obtain ⟨rfl, rfl⟩ := hr; exact hk

attribute [go_sem] eatU_n eatU_c onlyU_n onlyU_c
end Go.AX.Z
namespace Go.AX.Z
open Go.AX
theorem rep_map {α : Type} (f : α → AV) (a : α) : ∀ n : Nat, rep n [f a] = List.map f (List.replicate n a)
 | 0 => rfl
 | n + 1 => by rw [rep, rep_map f a n, List.replicate_succ, List.map_cons]; rfl
end Go.AX.Z
namespace Go.AX.Z
open Go.AX
theorem sbE_imm {P : Program} {a b : TypeId} (l : List AV) (n : Nat) : sbE P a b (.imm l n) = none := rfl
theorem sbE_ref {P : Program} {a b : TypeId} (i o n z : Nat) : sbE P a b (.ref i o n z) = none := rfl
attribute [go_sem] sbE_imm sbE_ref
end Go.AX.Z
namespace Go.AX.Z
open Go.AX
theorem SndE.eat {C : Ctx} {f : FuncId} {args : List AV} {hs : HS} {r : AV} {id fr : Nat} (h : Snd C f args hs fun r' s' => r' = r ∧ s' = ⟨upd hs.objs id .dead, hs.next⟩) : SndE C f args hs fr ⟨r, .app (some id) []⟩ := by
 intro ρ V w args' h1 h2 h3 h4 hfr hlt
 refine (h.2 ρ V w args' h1 h2 h3 h4).mono ?_
 rintro ed w' ⟨y, r', s', ρ', V', rfl, ⟨rfl, rfl⟩, hrel, hinv, hg⟩
 have hf' : ρ' fr = none := by rw [hg.old fr hlt]; exact hfr
 have back : ∀ j cj lj, upd (upd hs.objs id .dead) fr (.live []) j = .live cj → ρ' j = some lj → upd hs.objs id .dead j = .live cj := by
  intro j cj lj hj hρ
  by_cases he : j = fr
  ·
   subst he; rw [hf'] at hρ; cases hρ
  ·
   rwa [upd_ne _ _ he] at hj
 refine ⟨y, ρ', V', rfl, hrel, ⟨hinv.view, hinv.fresh, fun j cj lj hj hρ => hinv.live j cj lj (back j cj lj hj hρ) hρ, fun j cj lj hj hρ => ?_, fun i j li lj ci cj hi hj hρi hρj hb => hinv.inj i j li lj ci cj (back i ci li hi hρi) (back j cj lj hj hρj) hρi hρj hb⟩, hg.rho, fun j _ => ?_, hg.view, hg.size, hg.keep, fun b hb => ?_, hg.vnew, hg.mem⟩
 ·
  change upd (upd hs.objs id .dead) fr (.live []) j = .froz cj at hj
  by_cases he : j = fr
  ·
   subst he; rw [hf'] at hρ; cases hρ
  ·
   rw [upd_ne _ _ he] at hj; exact hinv.froz j cj lj hj hρ
 ·
  by_cases hj : j < hs.next
  ·
   exact hg.old j hj
  ·
   rw [hinv.fresh j (by simp only; omega), h3.fresh j (by omega)]
 ·
  obtain ⟨j, cj, lj, hj, hρ, rfl⟩ := hb
  exact hg.own _ ⟨j, cj, lj, back j cj lj hj hρ, hρ, rfl⟩

end Go.AX.Z

/-! (AyW) -/

namespace Go.AX.Z
open Go.AX

end Go.AX.Z

/-! (AyX) -/

namespace Go.AX.Z
open Go.AX

theorem ty_bools {P : Program} {B k : Nat} {e : TypeId} (hu : P.underlying e = some .bool) : ∀ (ls : List (List AV)), (∀ c ∈ ls, Ty P B k e c) → ∃ l : List Bool, ls.flatten = l.map vb ∧ l.length = ls.length
 | [], _ => ⟨[], rfl, rfl⟩
 | c :: ls, h => by
  obtain ⟨i, rfl⟩ := ty_bool hu (h c (by simp))
  obtain ⟨l, h1, h2⟩ := ty_bools hu ls fun d hd => h d (by simp [hd])
  exact ⟨i :: l, by simp [h1], by simp [h2]⟩

theorem ty_slice_bools {P : Program} {B n : Nat} {t e : TypeId} {x : AV} (hs : P.underlying t = some (.slice e)) (hu : P.underlying e = some .bool) (h : Ty P B n t [x]) : ∃ l : List Bool, x = .imm (l.map vb) l.length ∧ l.length ≤ B := by
 obtain ⟨m, ls, h1, h2, h3⟩ := ty_slice hs h
 obtain ⟨vs, g1, g2⟩ := ty_bools hu ls h3
 simp only [List.cons.injEq, and_true] at h1
 exact ⟨vs, by rw [h1, g1, g2], by rw [g2]; exact h2⟩

theorem ty_string {P : Program} {B n : Nat} {t : TypeId} {l : List AV} (hu : P.underlying t = some .string) (h : Ty P B n t l) : ∃ s : List Int, l = [vs s] ∧ s.length ≤ B ∧ ∀ x ∈ s, 0 ≤ x ∧ x < 256 := by
 cases n with
 | zero => exact h.elim
 | succ n =>
  simp only [Ty, hu] at h
  obtain ⟨b, rfl, hb⟩ := h
  obtain ⟨s, rfl, h2, h3⟩ := str_of b
  exact ⟨s, rfl, by rw [h2]; exact hb, h3⟩

end Go.AX.Z
attribute [go_sem] Nat.reduceEqDiff reduceIte Nat.reduceMul Nat.reduceSub Nat.reduceLT Nat.reduceLeDiff Int.reduceToNat Int.reduceBEq Int.reduceBNe Int.reduceLT Int.reduceLE Int.reduceAdd Int.reduceSub Int.reduceMul

/-! (AzA) -/

namespace Go.AX.Z
open Go.AX

theorem idxN {α : Type} (l : List α) (i : Nat) : idx l (i : Int) = l[i]? := by simp [idx]
theorem idx0 {α : Type} (l : List α) : idx l 0 = l[0]? := by simp [idx]
theorem drop_c {α : Type} {L l : List α} {x : α} {i : Nat} (h : L.drop i = x :: l) : L[i]? = some x ∧ L.drop (i + 1) = l ∧ i < L.length := by
 have h1 : i < L.length := by
  rcases Nat.lt_or_ge i L.length with h2 | h2
  ·
   exact h2
  ·
   rw [List.drop_eq_nil_of_le h2] at h; cases h
 rw [List.drop_eq_getElem_cons h1] at h
 injection h with h2 h3
 exact ⟨by simp [h1, h2], h3, h1⟩
theorem drop_n {α : Type} {L : List α} {i : Nat} (h : L.drop i = []) : L.length ≤ i := List.drop_eq_nil_iff.1 h
theorem wrapN {i : Nat} (h : i < 4611686018427387904) : IntKind.wrap .i64 ((i : Int) + 1) = ((i + 1 : Nat) : Int) := by
 rw [wrap64 (by omega) (by omega)]; omega
theorem wrapI {i : Int} (h1 : -4611686018427387904 ≤ i) (h2 : i < 4611686018427387904) : IntKind.wrap .i64 i = i := wrap64 (by omega) (by omega)
theorem chk_t {c : Bool} (h : c = true) : chk c = some () := by rw [h]; rfl
theorem chk_d {p : Prop} [Decidable p] (h : p) : chk (decide p) = some () := chk_t (by simpa using h)
theorem bindS {α β : Type} (a : α) (f : α → Option β) : (some a).bind f = f a := rfl
theorem lt_dec {L : Nat} {i : Nat} (h : i < L) : decide ((i : Int) < (L : Int)) = true := by simp; omega
theorem ge_dec {L : Nat} {i : Nat} (h : L ≤ i) : decide ((i : Int) < (L : Int)) = false := by simp; omega
theorem Ex.k_go' {R D : Type} (d : D) (f : D → Option R) : (Ex.go d).k f = f d := rfl
theorem big_lt {n : Nat} (h : n < 4611686018427387904) : n < big := h
end Go.AX.Z

/-! (AzB) -/

namespace Go.AX.Fermat

abbrev P : Nat := 2305843009213693951
abbrev N : Nat := 2305843009213693950

def pw (a : Nat) : Nat → Nat → Nat
 | 0, _ => 1 % P
 | f + 1, n => if n = 0 then 1 % P else let h := pw a f (n / 2); if n % 2 = 1 then h * h % P * a % P else h * h % P

theorem pw_eq (a : Nat) : ∀ (f n : Nat), n < 2 ^ f → pw a f n = a ^ n % P
 | 0, n, h => by
  have : n = 0 := by simpa using h
  subst this; rfl
 | f + 1, n, h => by
  unfold pw
  split
  ·
   rename_i h0; subst h0; rfl
  ·
   have ih := pw_eq a f (n / 2) (by rw [Nat.pow_succ] at h; omega)
   simp only [ih]
   have e2 : a ^ (n / 2) * a ^ (n / 2) = a ^ (2 * (n / 2)) := by rw [← Nat.pow_add]; congr 1; omega
   have hh : a ^ (n / 2) % P * (a ^ (n / 2) % P) % P = a ^ (2 * (n / 2)) % P := by rw [← Nat.mul_mod, e2]
   split
   ·
    rename_i h1
    rw [hh, Nat.mod_mul_mod, ← Nat.pow_succ]
    congr 2; omega
   ·
    rename_i h1
    rw [hh]; congr 2; omega

theorem pow_mod_one {g : Nat} {d : Nat} (h : g ^ d % P = 1) (t : Nat) : g ^ (d * t) % P = 1 := by
 rw [Nat.pow_mul, Nat.pow_mod, h, Nat.one_pow]; rfl

theorem least {Q : Nat → Prop} : ∀ n, 0 < n → Q n → ∃ d, 0 < d ∧ Q d ∧ ∀ k, 0 < k → k < d → ¬ Q k := by
 intro n
 induction n using Nat.strongRecOn with
 | ind n ih =>
  intro h0 hn
  by_cases h : ∃ k, 0 < k ∧ k < n ∧ Q k
  ·
   obtain ⟨k, h1, h2, h3⟩ := h; exact ih k h2 h1 h3
  ·
   exact ⟨n, h0, hn, fun k h1 h2 h3 => h ⟨k, h1, h2, h3⟩⟩

def qs : List Nat := [2, 3, 3, 5, 5, 7, 11, 13, 31, 41, 61, 151, 331, 1321]

theorem cop_all {m : Nat} : ∀ l : List Nat, (∀ q ∈ l, Nat.Coprime m q) → Nat.Coprime m l.prod
 | [], _ => by simp
 | q :: l, h => by
  rw [List.prod_cons]
  exact Nat.Coprime.mul_right (h q (by simp)) (cop_all l fun x hx => h x (by simp [hx]))

theorem small_tab : (qs.all fun q => (List.range (q + 1)).all fun c => c < 2 || q % c != 0 || c == q) = true := by decide +kernel
theorem small_prime {q c : Nat} (hq : q ∈ qs) (hle : c ≤ q) (hc : c ∣ q) (h1 : 1 < c) : c = q := by
 have h := List.all_eq_true.1 (List.all_eq_true.1 small_tab q hq) c (List.mem_range.2 (by omega))
 have hm : q % c = 0 := Nat.mod_eq_zero_of_dvd hc
 simp [hm] at h
 omega
theorem qs_pos : ∀ q ∈ qs, 0 < q := by decide

theorem dvd_one {m : Nat} (hm : m ∣ N) (h1 : 1 < m) : ∃ q ∈ qs, q ∣ m := by
 by_cases h : ∃ q ∈ qs, ¬ Nat.Coprime m q
 ·
  obtain ⟨q, hq, hn⟩ := h
  refine ⟨q, hq, ?_⟩
  have h0 : Nat.gcd m q ≠ 1 := hn
  have hq0 : 0 < q := qs_pos q hq
  have hp : 0 < Nat.gcd m q := Nat.gcd_pos_of_pos_right _ hq0
  have hle : Nat.gcd m q ≤ q := Nat.gcd_le_right _ hq0
  have := small_prime hq hle (Nat.gcd_dvd_right m q) (by omega)
  rw [← this]; exact Nat.gcd_dvd_left m q
 ·
  exfalso
  have hc : Nat.Coprime m qs.prod := cop_all qs fun q hq => Classical.byContradiction fun hn => h ⟨q, hq, hn⟩
  have hN : qs.prod = N := by decide
  rw [hN] at hc
  have h2 : Nat.gcd m N = m := Nat.gcd_eq_left hm
  have h3 : Nat.gcd m N = 1 := hc
  omega

theorem g_N : 37 ^ N % P = 1 := by
 have h := pw_eq 37 64 N (by decide)
 rw [← h]; decide +kernel
theorem g_q : ∀ q ∈ qs, ¬ 37 ^ (N / q) % P = 1 := by
 intro q hq h1
 have h := pw_eq 37 64 (N / q) (Nat.lt_of_le_of_lt (Nat.div_le_self _ _) (by decide))
 rw [h1] at h
 have t : (qs.all fun q => pw 37 64 (N / q) != 1) = true := by decide +kernel
 have := List.all_eq_true.1 t q hq
 simp [h] at this

theorem order {k : Nat} (h0 : 0 < k) (hk : k < N) : ¬ 37 ^ k % P = 1 := by
 intro hk1
 obtain ⟨d, hd0, hd1, hmin⟩ := least (Q := fun k => 37 ^ k % P = 1) k h0 hk1
 have hdk : d ≤ k := Nat.le_of_not_lt fun h => hmin k h0 h hk1
 -- d divides N
 have hr : 37 ^ (N % d) % P = 1 := by
  have h := g_N
  rw [show 37 ^ N = 37 ^ (d * (N / d)) * 37 ^ (N % d) by rw [← Nat.pow_add, Nat.div_add_mod], Nat.mul_mod, pow_mod_one hd1, Nat.one_mul, Nat.mod_mod] at h
  exact h
 have hm0 : N % d = 0 := by
  rcases Nat.eq_zero_or_pos (N % d) with h | h
  ·
   exact h
  ·
   exact absurd hr (hmin _ h (Nat.mod_lt _ hd0))
 obtain ⟨m, hm⟩ := Nat.dvd_of_mod_eq_zero hm0
 have hm1 : 1 < m := by
  rcases Nat.lt_or_ge 1 m with h | h
  ·
   exact h
  ·
   exfalso
   have : d * m ≤ d * 1 := Nat.mul_le_mul_left _ h
   omega
 obtain ⟨q, hq, t, ht⟩ := dvd_one (m := m) ⟨d, by rw [hm, Nat.mul_comm]⟩ hm1
 refine g_q q hq ?_
 have : N / q = d * t := by
  rw [hm, ht, show d * (q * t) = q * (d * t) by rw [← Nat.mul_assoc, Nat.mul_comm d q, Nat.mul_assoc]]
  exact Nat.mul_div_cancel_left _ (qs_pos q hq)
 rw [this]; exact pow_mod_one hd1 t

theorem inj {i j : Nat} (hij : i < j) (hj : j < N) : 37 ^ i % P ≠ 37 ^ j % P := by
 intro h
 have e1 : 37 ^ i % P * (37 ^ (N - i) % P) % P = 1 := by rw [← Nat.mul_mod, ← Nat.pow_add, show i + (N - i) = N by omega]; exact g_N
 have e2 : 37 ^ j % P * (37 ^ (N - i) % P) % P = 37 ^ (j - i) % P := by
  rw [← Nat.mul_mod, ← Nat.pow_add, show j + (N - i) = N + (j - i) by omega, Nat.pow_add, Nat.mul_mod, g_N, Nat.one_mul, Nat.mod_mod]
 rw [h, e2] at e1
 exact order (by omega) (by omega) e1

theorem nz (i : Nat) (hi : i < N) : 37 ^ i % P ≠ 0 := by
 intro h
 have e1 : 37 ^ i % P * (37 ^ (N - i) % P) % P = 1 := by rw [← Nat.mul_mod, ← Nat.pow_add, show i + (N - i) = N by omega]; exact g_N
 rw [h, Nat.zero_mul] at e1
 exact absurd e1 (by decide)

theorem surj : ∀ (n : Nat) (f : Nat → Nat), (∀ i, i < n → f i < n) → (∀ i j, i < n → j < n → f i = f j → i = j) → ∀ y, y < n → ∃ i, i < n ∧ f i = y
 | 0, _, _, _, y, hy => absurd hy (Nat.not_lt_zero _)
 | n + 1, f, hf, hi, y, hy => by
  have ih := surj n (fun i => if f i = n then f n else f i) (fun i hin => by
   show (if f i = n then f n else f i) < n
   split
   ·
    rename_i h
    have h1 := hf n (by omega)
    have : f n ≠ n := fun hn => by have := hi i n (by omega) (by omega) (by rw [h, hn]); omega
    omega
   ·
    have := hf i (by omega); omega) (fun i j hin hjn h => by
   have h : (if f i = n then f n else f i) = (if f j = n then f n else f j) := h
   split at h
   ·
    rename_i h1
    split at h
    ·
     rename_i h2; exact hi i j (by omega) (by omega) (by rw [h1, h2])
    ·
     have := hi n j (by omega) (by omega) h; omega
   ·
    split at h
    ·
     have := hi i n (by omega) (by omega) h; omega
    ·
     exact hi i j (by omega) (by omega) h)
  by_cases h1 : y = f n
  ·
   exact ⟨n, by omega, h1.symm⟩
  ·
   by_cases h2 : y = n
   ·
    have h3 := hf n (by omega)
    obtain ⟨i, hin, h4⟩ := ih (f n) (by omega)
    have h4 : (if f i = n then f n else f i) = f n := h4
    split at h4
    ·
     rename_i h5; exact ⟨i, by omega, by omega⟩
    ·
     have := hi i n (by omega) (by omega) h4; omega
   ·
    obtain ⟨i, hin, h4⟩ := ih y (by omega)
    have h4 : (if f i = n then f n else f i) = y := h4
    split at h4
    ·
     exact absurd h4.symm h1
    ·
     exact ⟨i, by omega, h4⟩

theorem is_pow {a : Nat} (h0 : 0 < a) (ha : a < P) : ∃ i, i < N ∧ 37 ^ i % P = a := by
 have hPN : N + 1 = P := rfl
 obtain ⟨i, h1, h2⟩ := surj N (fun i => 37 ^ i % P - 1) (fun i hi => by
  have := nz i hi
  have := Nat.mod_lt (37 ^ i) (show 0 < P by decide)
  show 37 ^ i % P - 1 < N
  omega) (fun i j hi hj h => by
  have h : 37 ^ i % P - 1 = 37 ^ j % P - 1 := h
  have := nz i hi
  have := nz j hj
  rcases Nat.lt_trichotomy i j with hl | hl | hl
  ·
   exact absurd (by omega) (inj hl hj)
  ·
   exact hl
  ·
   exact absurd (by omega) (inj hl hi)) (a - 1) (by omega)
 have := nz i h1
 have h2 : 37 ^ i % P - 1 = a - 1 := h2
 exact ⟨i, h1, by omega⟩

theorem fermat {a : Nat} (h0 : 0 < a) (ha : a < P) : a ^ N % P = 1 := by
 obtain ⟨i, _, rfl⟩ := is_pow h0 ha
 rw [← Nat.pow_mod, ← Nat.pow_mul, Nat.mul_comm, pow_mod_one g_N]

theorem pow_congr {a i j : Nat} (h0 : 0 < a) (ha : a < P) (h : i % N = j % N) : a ^ i % P = a ^ j % P := by
 have e : ∀ k, a ^ k % P = a ^ (k % N) % P := fun k => by
  have h2 : a ^ k = a ^ (N * (k / N)) * a ^ (k % N) := by rw [← Nat.pow_add, Nat.div_add_mod]
  rw [h2, Nat.mul_mod, pow_mod_one (fermat h0 ha), Nat.one_mul, Nat.mod_mod]
 rw [e i, e j, h]

theorem half : 37 ^ (N / 2) % P = P - 1 := by
 have h := pw_eq 37 64 (N / 2) (by decide)
 rw [← h]; decide +kernel

theorem sq_ge {y : Nat} (h1 : 2 ≤ y) (h2 : y + 2 ≤ P) : 2 ≤ y * y % P := by
 have hPN : N + 1 = P := rfl
 obtain ⟨i, hi, hy⟩ := is_pow (a := y) (by omega) (by omega)
 have e : y * y % P = 37 ^ (i + i) % P := by rw [← hy, ← Nat.mul_mod, ← Nat.pow_add]
 have red : 37 ^ (i + i) % P = 37 ^ ((i + i) % N) % P := by
  have h3 : 37 ^ (i + i) = 37 ^ (N * ((i + i) / N)) * 37 ^ ((i + i) % N) := by rw [← Nat.pow_add, Nat.div_add_mod]
  rw [h3, Nat.mul_mod, pow_mod_one g_N, Nat.one_mul, Nat.mod_mod]
 have hN : (0 : Nat) < N := by decide
 have hm : (i + i) % N < N := Nat.mod_lt _ hN
 have n0 := nz _ hm
 have n1 : 37 ^ ((i + i) % N) % P ≠ 1 := by
  intro h
  rcases Nat.eq_zero_or_pos ((i + i) % N) with h0 | h0
  ·
   rcases Nat.eq_zero_or_pos i with hi0 | hi0
   ·
    subst hi0
    rw [Nat.pow_zero] at hy
    have : (1 : Nat) % P = 1 := rfl
    omega
   ·
    have hd : i + i = N := by
     rcases Nat.lt_or_ge (i + i) N with h5 | h5
     ·
      rw [Nat.mod_eq_of_lt h5] at h0; omega
     ·
      rw [Nat.mod_eq_sub_mod h5, Nat.mod_eq_of_lt (by omega)] at h0; omega
    have hNv : N / 2 = 1152921504606846975 := rfl
    have hNw : N = 2305843009213693950 := rfl
    have : i = N / 2 := by omega
    rw [this, half] at hy
    omega
  ·
   exact order h0 hm h
 rw [e, red]; omega

theorem key {b r m s : Nat} (h0 : 0 < b) (hb : b < P) (hm : m ≤ N) (hs : s = (r + m) % N) (t : Nat) : (b ^ s % P * (b ^ (N - m) % P) % P) ^ t % P = b ^ (r * t) % P := by
 have e : b ^ s % P * (b ^ (N - m) % P) % P = b ^ r % P := by
  rw [← Nat.mul_mod, ← Nat.pow_add]
  refine pow_congr h0 hb ?_
  rw [hs, Nat.mod_add_mod, show r + m + (N - m) = r + N by omega, Nat.add_mod_right]
 rw [e, ← Nat.pow_mod, ← Nat.pow_mul]
end Go.AX.Fermat

/-! (AzC) -/

namespace Go.AX.Z
open Go.AX

theorem qB {c d : Bool} (e : c = d) {p : Prop} (h : c = d → p := by
 intro e; first | rfl | (rw [e]; rfl) | (simp only [e, Bool.true_and, Bool.false_and, Bool.true_or, Bool.false_or, cond_true, cond_false] <;> rfl)) : p := h e
theorem qS {p : Prop} (h : p := by (try simp only [go_sem]); rfl) : p := h
theorem qF {p : Prop} (h : p := by
 (try simp only [go_sem, Nat.reduceAdd, fz, nilS, packR, List.take_nil, List.take_length, List.length_map, List.length_append, cond_true, cond_false, Nat.ble_eq, ble_self])
 all_goals first | rfl | (simp only [go_sem, Nat.reduceAdd, fz, nilS, packR, List.take_nil, List.take_length, List.length_map, List.length_append, cond_true, cond_false, Nat.ble_eq, ble_self, List.map_append] <;> rfl)) : p := h
theorem qR {p : Prop} (h : p := by simp only [go_sem, resV, resAll, resOf, packR, Nat.reduceAdd]; rfl) : p := h
theorem qL {p : Prop} (h : p := by
 first | rfl | (simp only [List.flatMap_append, List.flatMap_cons, List.flatMap_nil, List.map_append, List.map_cons, List.map_nil, List.append_nil, List.nil_append] <;> rfl)) : p := h
theorem qP {p : Prop} (h : p := by
 first | decide +kernel | (simp [printsOk, apartP, clash, meet]; try (first | done | decide +kernel | (repeat (first | exact Or.inr (by decide +kernel) | (refine And.intro (Or.inr (by decide +kernel)) ?_)))))) : p := h

section
variable {k : Nat} {C : Ctx} {y : Code} {Q : AExit → AS → Prop} {objs : Nat → Ob} {nx : Nat} {tm : Nat → AV} {ops : Array Oper} {draw : Bool}
theorem awp_nw {id : Nat} (L : List Nat) {g : (Nat → AV) → Nat → AV} (h : ∀ (tz : Nat → AV) (K : AS → Prop), (∀ t u, Wk k C t u → awp k C y Q u → K t) → xw draw C (ops.toList.map (·.dst)) nx 0 ops.toList { objs := objs, next := nx + ops.size, tmps := g tz } K) (hg : ∀ tz, keep tz tm L = g tz := by exact fun _ => rfl) : awp k C (.seq (.region id ops draw) y) Q { objs := objs, next := nx, tmps := tm } :=
 awp_nr L hg fun tz => awp_regW (h tz)
theorem awp_nw1 {id : Nat} (L : List Nat) {g : (Nat → AV) → Nat → AV} (h : ∀ (tz : Nat → AV) (K : AS → Prop), (∀ t, Q .normal t → K t) → xw draw C (ops.toList.map (·.dst)) nx 0 ops.toList { objs := objs, next := nx + ops.size, tmps := g tz } K) (hg : ∀ tz, keep tz tm L = g tz := by exact fun _ => rfl) : awp k C (.region id ops draw) Q { objs := objs, next := nx, tmps := tm } :=
 awp_nr1 L hg fun tz => awp_reg1 (h tz)
end

theorem qU {k : Nat} {C : Ctx} {P K : AS → Prop} {t : AS} (u : ∀ t u, Wk k C t u → P u → K t) (h : P t) : K t := u _ _ (Wk.refl _ _ _) h

theorem tmOC {s : AS} {F : List Nat} {σ : List (Option Nat)} {f : Nat → Ob} (i : Nat) {old : Nat} {xs : List AV} (h : TmO s F σ f) (hc : ∀ c ∈ xs, Clean c) (hi : σ[i]? = some (some old) := by rfl) (hF : old ∉ F := by first | exact List.not_mem_nil | decide) (ho : s.objs old = .live xs := by rfl) : TmO s F σ (upd f i (.live xs)) :=
 tmOU i h hi hF ho (TmL.clean hc)
theorem tmOE {s : AS} {F : List Nat} {σ : List (Option Nat)} {f : Nat → Ob} (i : Nat) {old : Nat} {xs ys : List AV} (h : TmO s F σ f) (hc : ∀ c ∈ ys, Clean c) (hi : σ[i]? = some (some old) := by rfl) (hF : old ∉ F := by first | exact List.not_mem_nil | decide) (ho : s.objs old = .live xs := by rfl) (he : ys = xs := by first | rfl | exact qL) : TmO s F σ (upd f i (.live ys)) :=
 tmOU i h hi hF ho (TmL.of_eq he hc)
end Go.AX.Z
