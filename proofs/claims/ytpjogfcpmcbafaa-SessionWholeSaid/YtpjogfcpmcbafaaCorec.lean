/- A part of the proof: an abstract reading of the model, proved sound. -/
import Derived.Test.YtpjogfcpmcbafaaCoreb
import Derived.Laws.Externs
import GoSem.Extern.BytealgCompare
import Derived.Lib.Overlaps
import Derived.OrdersIn
import Derived.RangeFuncCalls
set_option linter.unusedVariables false
set_option linter.unusedSimpArgs false

/-! (AyG) -/

namespace Go.AX.Z
open Go.AX

theorem aK.ptr (i off : Nat) : aK fun q => .ptr (q i) off := by
 intro a b ρ ρ' V y he hr
 cases hr with
 | ptr _ _ loc h => exact .ptr (b i) off loc (by rw [he]; exact h)
theorem aK.clo {f : Nat} {l m : (Nat → Nat) → List AV} (h : RenML l) (h' : RenML m) : aK fun q => .clo f (l q) (m q) := by
 intro a b ρ ρ' V y he hr
 cases hr with
 | clo _ _ _ xs ys h1 h2 H1 H2 => exact .clo f _ _ xs ys (by rw [h1, h.get.1 a b]) (by rw [h2, h'.get.1 a b]) (h.list he H1) (h'.list he H2)

theorem RelC.renM {l : (Nat → Nat) → List AV} (h : RenML l) {a b : Nat → Nat} {ρ ρ' : Rho} {V : bG} {c : Array Value} {o : Nat} (he : ∀ i, ρ' (b i) = ρ (a i)) (hr : RelC ρ V (l a) c o) : RelC ρ' V (l b) c o := by
 refine ⟨by rw [h.get.1 b a]; exact hr.le, fun i x y hx hy => ?_, fun i y hi hy => hr.sto i y (by rw [h.get.1 a b]; exact hi) hy⟩
 have hi : i < (l b).length := (List.getElem?_eq_some_iff.1 hx).1
 have hi' : i < (l a).length := by rw [h.get.1 a b]; exact hi
 have e : (l a)[i]? = some (l a)[i] := by simp [hi']
 exact h.get.2 i a b _ _ e hx ρ ρ' V y he (hr.rel i _ y e hy)

abbrev Tpl := (Nat → Nat) → List AV

def ex (k : Nat) (θ : Nat → Nat) (n : Nat) : Nat → Nat := fun i => if i < k then θ i else n + (i - k)
theorem Kk (k : Nat) (θ : Nat → Nat) (n i : Nat) : ex k θ n i = if i < k then θ i else n + (i - k) := rfl

def sk (I : List Tpl) : Nat → Ob := fun i => match I[i]? with
 | some c => .live (c fun i => i)
 | none => .dead
def z7 (θ : Nat → Nat) : Option Tpl → Ob
 | some c => .live (c θ)
 | none => .dead
theorem JS (θ : Nat → Nat) (c : Tpl) : z7 θ (some c) = .live (c θ) := rfl
theorem HJ (θ : Nat → Nat) : z7 θ none = .dead := rfl
def qe (objs : Nat → Ob) (θ : Nat → Nat) : Nat → List (Option Tpl) → Nat → Ob
 | _, [] => objs
 | i, e :: l => qe (upd objs (θ i) (z7 θ e)) θ (i + 1) l
theorem Ej (objs : Nat → Ob) (θ : Nat → Nat) (i : Nat) : qe objs θ i [] = objs := rfl
theorem yA (objs : Nat → Ob) (θ : Nat → Nat) (i : Nat) (e : Option Tpl) (l : List (Option Tpl)) : qe objs θ i (e :: l) = qe (upd objs (θ i) (z7 θ e)) θ (i + 1) l := rfl

theorem zD (θ : Nat → Nat) : ∀ (l : List (Option Tpl)) (i0 : Nat) (objs : Nat → Ob) (id : Nat), (∀ i j, i < i0 + l.length → j < i0 + l.length → θ i = θ j → i = j) →
  (∀ j e, l[j]? = some e → θ (i0 + j) = id → qe objs θ i0 l id = z7 θ e) ∧ ((∀ j, j < l.length → θ (i0 + j) ≠ id) → qe objs θ i0 l id = objs id)
 | [], i0, objs, id, _ => ⟨fun j e h => by simp at h, fun _ => rfl⟩
 | e :: l, i0, objs, id, hinj => by
  have ih := zD θ l (i0 + 1) (upd objs (θ i0) (z7 θ e)) id (fun i j hi hj => hinj i j (by simp; omega) (by simp; omega))
  refine ⟨fun j e' he hid => ?_, fun hn => ?_⟩
  ·
   rw [yA]
   cases j with
   | zero =>
    simp at he; subst he
    rw [ih.2, ← hid]
    ·
     exact cE _ _ _
    ·
     intro j hj heq
     have := hinj (i0 + 1 + j) i0 (by simp; omega) (by simp) (by rw [heq, ← hid]; rfl)
     omega
   | succ j =>
    simp at he
    exact ih.1 j e' he (by rw [← hid]; congr 1; omega)
  ·
   rw [yA, ih.2]
   ·
    exact bl _ _ fun h => hn 0 (by simp) (by rw [h]; rfl)
   ·
    intro j hj heq
    exact hn (j + 1) (by simp; omega) (by rw [← heq]; congr 1; omega)

def dn (k : Nat) (r' : AV) (s' : HS) (mk : (Nat → Nat) → AV) (E : List (Option Tpl)) : Prop :=
 ∃ (F dd : List Nat) (σ : List (Option Nat)), sgD k dd σ = true ∧ (∀ i ∈ dd, E[i]? = some none) ∧ σ.length = E.length ∧
  (∀ (i old : Nat) c, σ[i]? = some (some old) → E[i]? = some (some c) → old ∉ F ∧ ∃ xs, s'.objs old = .live xs ∧ TmL ⟨s', fun _ => .unk⟩ F σ xs (c fun i => i)) ∧ Tm ⟨s', fun _ => .unk⟩ F σ r' (mk fun i => i)

def F3 (X : Array Value → World → (Ending → World → Prop) → Prop) (C : Ctx) (args : List AV) (s : HS) (Q : AV → HS → Prop) : Prop :=
 True ∧ ∀ (ρ : Rho) (V : bG) (w : World) (args' : Array Value), args'.size = args.length → (∀ (i : Nat) x y, args[i]? = some x → args'[i]? = some y → Rel ρ V x y) →
  Inv ρ V s w → mh C V → X args' w fun e w' => ∃ y r s' ρ' V', e = .returned y ∧ Q r s' ∧ Rel ρ' V' r y ∧ Inv ρ' V' s' w' ∧ Grew ρ V s w ρ' V' s' w'
theorem F3.of_io {C : Ctx} {X : Array Value → World → (Ending → World → Prop) → Prop} (hX : ∀ {a : Array Value} {w : World} {Q Q' : Ending → World → Prop}, X a w Q → (∀ e w', Q e w' → Q' e w') → X a w Q') {k : Nat} {args : (Nat → Nat) → List AV} {I : List Tpl} {E : List (Option Tpl)} {mk : (Nat → Nat) → AV} (hargs : RenML args) (hIr : ∀ c ∈ I, RenML c) (hEr : ∀ c, some c ∈ E → RenML c) (hmk : aK mk) (hk : I.length = k) (hkE : k ≤ E.length)
  (h : F3 X C (args fun i => i) ⟨sk I, k⟩ fun r' s' => dn k r' s' mk E) (hs : HS) (θ : Nat → Nat) (hθ : ∀ i j, i < k → j < k → θ i = θ j → i = j) (hθn : ∀ i, i < k → θ i < hs.next)
  (hlive : ∀ i c, I[i]? = some c → hs.objs (θ i) = .live (c (ex k θ hs.next))) :
  F3 X C (args (ex k θ hs.next)) hs fun r hs' => r = mk (ex k θ hs.next) ∧ hs' = ⟨qe hs.objs (ex k θ hs.next) 0 E, hs.next + (E.length - k)⟩ := by
 refine ⟨trivial, fun ρ V w args' h1 h2 hI hG => ?_⟩
 let θ' := ex k θ hs.next
 have hθs : ∀ i, i < k → θ' i = θ i := fun i hi => by simp only [θ', ex, if_pos hi]
 have hθb : ∀ i, k ≤ i → θ' i = hs.next + (i - k) := fun i hi => by simp only [θ', ex, if_neg (by omega : ¬ i < k)]
 let ρ0 : Rho := fun i => if i < k then ρ (θ i) else none
 have hρ0s : ∀ i, i < k → ρ0 i = ρ (θ i) := fun i hi => by simp only [ρ0, if_pos hi]
 have hρ0 : ∀ i, ρ0 i = ρ (θ' i) := by
  intro i
  rcases Nat.lt_or_ge i k with hi | hi
  ·
   rw [hρ0s i hi, hθs i hi]
  ·
   rw [hθb i hi, hI.fresh _ (Nat.le_add_right _ _)]; simp only [ρ0, if_neg (by omega : ¬ i < k)]
 have hini : ∀ id cells, sk I id = .live cells → id < k ∧ ∃ c, I[id]? = some c ∧ cells = c fun i => i := by
  intro id cells hl
  unfold sk at hl
  split at hl
  ·
   rename_i c hc
   cases hl
   exact ⟨by rw [← hk]; exact (List.getElem?_eq_some_iff.1 hc).1, c, hc, rfl⟩
  ·
   cases hl
 have hI0 : Inv ρ0 V ⟨sk I, k⟩ w := by
  refine ⟨hI.view, fun id hid => by simp only [ρ0]; exact if_neg (by simp only at hid; omega), fun id cells loc hl hr => ?_, fun id cells loc hl => ?_, fun i j li lj ci cj hi hj hri hrj hb => ?_⟩
  ·
   obtain ⟨hid, c, hc, rfl⟩ := hini id cells hl
   rw [hρ0s id hid] at hr
   obtain ⟨cc, T, g1, g2, g3, g4⟩ := hI.live (θ id) _ loc (hlive id c hc) hr
   exact ⟨cc, T, g1, g2, RelC.renM (hIr c (List.mem_of_getElem? hc)) (a := θ') (b := fun i => i) hρ0 g3, g4⟩
  ·
   simp only [sk] at hl
   split at hl <;> cases hl
  ·
   obtain ⟨hid, c, hc, rfl⟩ := hini i ci hi
   obtain ⟨hjd, d, hd, rfl⟩ := hini j cj hj
   rw [hρ0s i hid] at hri
   rw [hρ0s j hjd] at hrj
   exact hθ i j hid hjd (hI.inj _ _ li lj _ _ (hlive i c hc) (hlive j d hd) hri hrj hb)
 have ha' : ∀ (i : Nat) x y, (args fun i => i)[i]? = some x → args'[i]? = some y → Rel ρ0 V x y := hargs.list (a := θ') (b := fun i => i) hρ0 h2
 have hown0 : ∀ b, Own ρ0 ⟨sk I, k⟩ b → ∃ i c loc, i < k ∧ I[i]? = some c ∧ ρ (θ i) = some loc ∧ loc.b = b := by
  rintro b ⟨id, cells, loc, hl, hr, hb⟩
  obtain ⟨hid, c, hc, rfl⟩ := hini id cells hl
  rw [hρ0s id hid] at hr
  exact ⟨id, c, loc, hid, hc, hr, hb⟩
 have hown1 : ∀ b, Own ρ0 ⟨sk I, k⟩ b → Own ρ hs b := by
  intro b hb
  obtain ⟨i, c, loc, _, hc, hr, hb'⟩ := hown0 b hb
  exact ⟨θ i, _, loc, hlive i c hc, hr, hb'⟩
 refine hX (h.2 ρ0 V w args' (by rw [h1]; exact hargs.get.1 _ _) ha' hI0 hG) ?_
 rintro ed w' ⟨y, r', s', ρ', V', rfl, ⟨F, dd, σ, hsg, hdd, hlen, hobj, htm⟩, hrel, hinv, hg⟩
 have hinj := Ch hsg
 simp only [sgD, Bool.and_eq_true, decide_eq_true_eq, List.all_eq_true, List.mem_range, beq_iff_eq] at hsg
 obtain ⟨hsk, hsn⟩ := hsg
 have ofo : ∀ b, xG F ρ' s' b → Own ρ' s' b := fun b ⟨id, cells, loc, _, g1, g2, g3⟩ => ⟨id, cells, loc, g1, g2, g3⟩
 have hfg : ∀ b c, VF F ρ' V' s' w' b = some c → V b = some c ∨ Own ρ0 ⟨sk I, k⟩ b ∨ w.heap.size ≤ b := by
  intro b c hv
  rcases ga hv with h5 | ⟨h5, _⟩
  ·
   exact hg.vnew b c h5
  ·
   exact .inr (hg.own b (ofo b h5))
 have hvm : ∀ b c, V b = some c → VF F ρ' V' s' w' b = some c := fun b c hv => kP _ _ (hg.view b c hv)
 let ρ1 : Rho := fun i => match σ[i]? with
  | some (some old) => ρ' old
  | _ => none
 have hρ1 : ∀ i old, σ[i]? = some (some old) → ρ1 i = ρ' old := fun i old h => by simp only [ρ1, h]
 have hρ1s : ∀ i loc, ρ1 i = some loc → ∃ old, σ[i]? = some (some old) ∧ ρ' old = some loc := by
  intro i loc h
  simp only [ρ1] at h
  split at h
  ·
   rename_i old ho'; exact ⟨old, ho', h⟩
  ·
   cases h
 have hρ1k : ∀ i, i < k → ρ1 i = ρ (θ i) := fun i hi => by rw [hρ1 i i (hsk i hi), hg.old i hi, hρ0s i hi]
 let ρ2 : Rho := fun id => if hs.next ≤ id then ρ1 (k + (id - hs.next)) else ρ id
 have hold : ∀ id, id < hs.next → ρ2 id = ρ id := fun id hid => by simp only [ρ2, if_neg (by omega : ¬ hs.next ≤ id)]
 have hθ2 : ∀ i, ρ2 (θ' i) = ρ1 i := by
  intro i
  rcases Nat.lt_or_ge i k with hi | hi
  ·
   rw [hθs i hi, hold _ (hθn i hi), hρ1k i hi]
  ·
   rw [hθb i hi]
   simp only [ρ2, if_pos (Nat.le_add_right _ _), Nat.add_sub_cancel_left]
   rw [Nat.add_sub_cancel' hi]
 have hrho : ∀ id loc, ρ id = some loc → ρ2 id = some loc := by
  intro id loc hl
  rcases Nat.lt_or_ge id hs.next with h' | h'
  ·
   rw [hold id h']; exact hl
  ·
   rw [hI.fresh id h'] at hl; cases hl
 have hc : Cvt ⟨s', fun _ => .unk⟩ F σ ρ' ρ1 V' (VF F ρ' V' s' w') := by
  refine ⟨hρ1, kP, fun id cells loc hid hl hr => ?_⟩
  obtain ⟨c, T, g1, g2, g3, g4⟩ := hinv.live id cells loc hl hr
  refine ⟨c, ?_, g3⟩
  have hof : xG F ρ' s' loc.b := ⟨id, cells, loc, hid, hl, hr, rfl⟩
  simp only [VF, g4, if_pos hof, g1]
 have hθi : ∀ i j, i < 0 + E.length → j < 0 + E.length → θ' i = θ' j → i = j := by
  intro i j _ _ hij
  rcases Nat.lt_or_ge i k with hi | hi <;> rcases Nat.lt_or_ge j k with hj | hj
  ·
   rw [hθs i hi, hθs j hj] at hij; exact hθ i j hi hj hij
  ·
   rw [hθs i hi, hθb j hj] at hij; have := hθn i hi; omega
  ·
   rw [hθb i hi, hθs j hj] at hij; have := hθn j hj; omega
  ·
   rw [hθb i hi, hθb j hj] at hij; omega
 -- the objects behind
 have hob : ∀ id, (∃ i e, E[i]? = some e ∧ θ' i = id ∧ qe hs.objs θ' 0 E id = z7 θ' e) ∨ ((∀ i, i < E.length → θ' i ≠ id) ∧ qe hs.objs θ' 0 E id = hs.objs id) := by
  intro id
  obtain ⟨g1, g2⟩ := zD θ' E 0 hs.objs id hθi
  by_cases hh : ∃ i, i < E.length ∧ θ' i = id
  ·
   obtain ⟨i, hi, hid⟩ := hh
   have e : E[i]? = some E[i] := by simp [hi]
   exact .inl ⟨i, _, e, hid, g1 i _ e (by rw [Nat.zero_add]; exact hid)⟩
  ·
   have hn : ∀ i, i < E.length → θ' i ≠ id := fun i hi he => hh ⟨i, hi, he⟩
   exact .inr ⟨hn, g2 fun j hj => by rw [Nat.zero_add]; exact hn j hj⟩
 have hlo : ∀ id cs, qe hs.objs θ' 0 E id = .live cs → (∃ i c, E[i]? = some (some c) ∧ θ' i = id ∧ cs = c θ') ∨ ((∀ i, i < E.length → θ' i ≠ id) ∧ hs.objs id = .live cs) := by
  intro id cs hl
  rcases hob id with ⟨i, e, g1, g2, g3⟩ | ⟨g1, g2⟩
  ·
   rw [g3] at hl
   cases e with
   | none => cases hl
   | some c => cases hl; exact .inl ⟨i, c, g1, g2, rfl⟩
  ·
   rw [g2] at hl; exact .inr ⟨g1, hl⟩
 have newO : ∀ i c loc, E[i]? = some (some c) → ρ2 (θ' i) = some loc → ∃ old xs, σ[i]? = some (some old) ∧ ρ' old = some loc ∧ old ∉ F ∧ s'.objs old = .live xs ∧ TmL ⟨s', fun _ => .unk⟩ F σ xs (c fun i => i) := by
  intro i c loc hE hρ
  rw [hθ2] at hρ
  obtain ⟨old, g1, g2⟩ := hρ1s _ _ hρ
  obtain ⟨g3, xs, g4, g5⟩ := hobj _ old c g1 hE
  exact ⟨old, xs, g1, g2, g3, g4, g5⟩
 -- an object that was not handed over
 have othO : ∀ id cs loc, (∀ i, i < E.length → θ' i ≠ id) → hs.objs id = .live cs → ρ2 id = some loc → ρ id = some loc ∧ ¬ Own ρ0 ⟨sk I, k⟩ loc.b ∧ loc.b < w.heap.size := by
  intro id cs loc hn hl hρ
  have hid : id < hs.next := by
   rcases Nat.lt_or_ge id hs.next with h' | h'
   ·
    exact h'
   ·
    exfalso
    have e1 : θ' (k + (id - hs.next)) = id := by rw [hθb _ (Nat.le_add_right _ _)]; omega
    have e2 := hθ2 (k + (id - hs.next))
    rw [e1, hρ] at e2
    obtain ⟨old, g1, _⟩ := hρ1s _ _ e2.symm
    have := (List.getElem?_eq_some_iff.1 g1).1
    exact hn _ (by omega) e1
  rw [hold id hid] at hρ
  refine ⟨hρ, fun ho => ?_, ?_⟩
  ·
   obtain ⟨i, c, loc', hi, hc', hr', hb'⟩ := hown0 _ ho
   have := hI.inj (θ i) id loc' loc _ _ (hlive i c hc') hl hr' hρ hb'
   exact hn i (by omega) (by rw [hθs i hi]; exact this)
  ·
   obtain ⟨c, T, g1, _⟩ := hI.live id cs loc hl hρ
   exact gz g1
 refine ⟨y, mk θ', ⟨qe hs.objs θ' 0 E, hs.next + (E.length - k)⟩, ρ2, VF F ρ' V' s' w', rfl, ⟨rfl, rfl⟩, ?_, ?_, ?_⟩
 ·
  exact hmk _ _ ρ1 ρ2 _ _ hθ2 (htm ρ' ρ1 V' _ y hc hrel)
 ·
  refine ⟨fun b c hv => ?_, fun id hid => ?_, fun id cs loc hl hρ => ?_, fun id cs loc hl hρ => ?_, fun i j li lj ci cj hi hj hρi hρj hb => ?_⟩
  ·
   rcases ga hv with h5 | ⟨_, h5⟩
   ·
    exact hinv.view b c h5
   ·
    exact h5
  ·
   have hn : hs.next ≤ id := by simp only at hid; omega
   have : σ[k + (id - hs.next)]? = none := List.getElem?_eq_none (by simp only at hid; omega)
   simp only [ρ2, if_pos hn, ρ1, this]
  ·
   rcases hlo id cs hl with ⟨i, c, hE, hid, rfl⟩ | ⟨hn, hl'⟩
   ·
    subst hid
    obtain ⟨old, xs, g1, g2, g3, g4, g5⟩ := newO i c loc hE hρ
    obtain ⟨cc, T, e1, e2, e3, e4⟩ := hinv.live old xs loc g4 g2
    refine ⟨cc, T, e1, e2, RelC.renM (hEr c (List.mem_of_getElem? hE)) (a := fun i => i) (b := θ') hθ2 (g5.relC hc e3), ?_⟩
    cases hv : VF F ρ' V' s' w' loc.b with
    | none => rfl
    | some c' =>
     rcases ga hv with h7 | ⟨⟨id', cs', loc', m1, m2, m3, m4⟩, _⟩
     ·
      rw [e4] at h7; cases h7
     ·
      have := hinv.inj id' old loc' loc cs' xs m2 g4 m3 g2 m4
      subst this
      exact absurd m1 g3
   ·
    obtain ⟨hρo, hno, hlt⟩ := othO id cs loc hn hl' hρ
    obtain ⟨cc, T, g1, g2, g3, g4⟩ := hI.live id cs loc hl' hρo
    refine ⟨cc, T, by rw [hg.keep _ hlt hno]; exact g1, g2, g3.mono hrho hvm, ?_⟩
    cases hv : VF F ρ' V' s' w' loc.b with
    | none => rfl
    | some c' =>
     rcases hfg _ _ hv with h7 | h7 | h7
     ·
      rw [g4] at h7; cases h7
     ·
      exact absurd h7 hno
     ·
      omega
  ·
   simp only at hl
   rcases hob id with ⟨i, e, g1, g2, g3⟩ | ⟨g1, g2⟩
   ·
    rw [g3] at hl
    cases e <;> cases hl
   ·
    rw [g2] at hl
    have hid : id < hs.next := by
     rcases Nat.lt_or_ge id hs.next with h' | h'
     ·
      exact h'
     ·
      exfalso
      have e1 : θ' (k + (id - hs.next)) = id := by rw [hθb _ (Nat.le_add_right _ _)]; omega
      have e2 := hθ2 (k + (id - hs.next))
      rw [e1, hρ] at e2
      obtain ⟨old, m1, _⟩ := hρ1s _ _ e2.symm
      have := (List.getElem?_eq_some_iff.1 m1).1
      exact g1 _ (by omega) e1
    rw [hold id hid] at hρ
    obtain ⟨c, m1, m2, m3⟩ := hI.froz id cs loc hl hρ
    exact ⟨c, hvm _ _ m1, m2.mono hrho hvm, m3⟩
  ·
   rcases hlo i ci hi with ⟨a, c, hE, hid, rfl⟩ | ⟨hn, hl'⟩ <;> rcases hlo j cj hj with ⟨a', c', hE', hid', rfl⟩ | ⟨hn', hl''⟩
   ·
    subst hid; subst hid'
    obtain ⟨oi, xi, g1, g2, g3, g4, g5⟩ := newO a c li hE hρi
    obtain ⟨oj, xj, k1, k2, k3, k4, k5⟩ := newO a' c' lj hE' hρj
    have := hinv.inj oi oj li lj xi xj g4 k4 g2 k2 hb
    subst this
    rw [hinj _ _ oi (fun h => by rw [hdd _ h] at hE; cases hE) (fun h => by rw [hdd _ h] at hE'; cases hE') g1 k1]
   ·
    subst hid
    obtain ⟨oi, xi, g1, g2, g3, g4, g5⟩ := newO a c li hE hρi
    obtain ⟨hρo, hno, hlt⟩ := othO j cj lj hn' hl'' hρj
    rcases hg.own li.b ⟨oi, xi, li, g4, g2, rfl⟩ with h7 | h7
    ·
     rw [hb] at h7; exact absurd h7 hno
    ·
     omega
   ·
    subst hid'
    obtain ⟨oj, xj, k1, k2, k3, k4, k5⟩ := newO a' c' lj hE' hρj
    obtain ⟨hρo, hno, hlt⟩ := othO i ci li hn hl' hρi
    rcases hg.own lj.b ⟨oj, xj, lj, k4, k2, rfl⟩ with h7 | h7
    ·
     rw [← hb] at h7; exact absurd h7 hno
    ·
     omega
   ·
    exact hI.inj i j li lj ci cj hl' hl'' (othO i ci li hn hl' hρi).1 (othO j cj lj hn' hl'' hρj).1 hb
 ·
  refine ⟨hrho, hold, Nat.le_add_right _ _, hvm, hg.size, fun b hb hno => hg.keep b hb fun ho => hno (hown1 b ho), ?_, ?_, hg.mem⟩
  ·
   rintro b ⟨id, cs, loc, hl, hρ, rfl⟩
   rcases hlo id cs hl with ⟨i, c, hE, hid, rfl⟩ | ⟨hn, hl'⟩
   ·
    subst hid
    obtain ⟨old, xs, g1, g2, g3, g4, g5⟩ := newO i c loc hE hρ
    exact (hg.own loc.b ⟨old, xs, loc, g4, g2, rfl⟩).imp (hown1 _) id
   ·
    exact .inl ⟨id, cs, loc, hl', (othO id cs loc hn hl' hρ).1, rfl⟩
  ·
   intro b c hv
   rcases hfg b c hv with h5 | h5 | h5
   ·
    exact .inl h5
   ·
    exact .inr (.inl (hown1 b h5))
   ·
    exact .inr (.inr h5)

theorem Snd.of_io {C : Ctx} {f : FuncId} {k : Nat} {args : (Nat → Nat) → List AV} {I : List Tpl} {E : List (Option Tpl)} {mk : (Nat → Nat) → AV} (hargs : RenML args) (hIr : ∀ c ∈ I, RenML c) (hEr : ∀ c, some c ∈ E → RenML c) (hmk : aK mk) (hk : I.length = k) (hkE : k ≤ E.length)
  (h : Snd C f (args fun i => i) ⟨sk I, k⟩ fun r' s' => dn k r' s' mk E) (hs : HS) (θ : Nat → Nat) (hθ : ∀ i j, i < k → j < k → θ i = θ j → i = j) (hθn : ∀ i, i < k → θ i < hs.next)
  (hlive : ∀ i c, I[i]? = some c → hs.objs (θ i) = .live (c (ex k θ hs.next))) :
  Snd C f (args (ex k θ hs.next)) hs fun r hs' => r = mk (ex k θ hs.next) ∧ hs' = ⟨qe hs.objs (ex k θ hs.next) 0 E, hs.next + (E.length - k)⟩ :=
 F3.of_io (X := XC C.P f) (fun h hq => h.mono hq) hargs hIr hEr hmk hk hkE h hs θ hθ hθn hlive

end Go.AX.Z

/-! (AyH) -/

namespace Go.AX.Z
open Go.AX

theorem kl.of_res {C : Ctx} {f : FuncId} {args : List AV} {mk : (Nat → Nat) → AV} {CS : List AV} (hmk : aK mk) (hcl : ∀ c ∈ CS, aB c) (ha : ∀ x ∈ args, aB x) (h0 : ∀ a b : Nat → Nat, a 0 = b 0 → mk a = mk b)
  (h : Snd C f args (dh 0) fun r' s' => Res r' s' mk [CS]) (hs : HS) (fr : Nat) : kl C f args hs fr ⟨mk fun _ => fr, .new CS⟩ := by
 intro ρ V w args' h1 h2 hI hG hfr hfn
 have hI0 : Inv r0 V (dh 0) w := ⟨hI.view, fun _ _ => rfl, fun id cells loc hl => by simp [dh] at hl, fun id cells loc hl => by simp [dh] at hl, fun i j li lj ci cj hi => by simp [dh] at hi⟩
 have ha' : ∀ (i : Nat) x y, args[i]? = some x → args'[i]? = some y → Rel r0 V x y := fun i x y hx hy => ha x (List.mem_of_getElem? hx) _ _ _ _ (h2 i x y hx hy)
 refine (h.2 r0 V w args' h1 ha' hI0 hG).mono ?_
 rintro ed w' ⟨y, r', s', ρ', V', rfl, ⟨F, σ, hsg, hlen, hobj, htm⟩, hrel, hinv, hg⟩
 simp only [sgB, Bool.and_eq_true, decide_eq_true_eq] at hsg
 have hinj := yG hsg.2
 have noOwn : ∀ b, ¬ Own r0 (dh 0) b := by rintro b ⟨id, cs, loc, g1, _⟩; simp [dh] at g1
 have hlow : ∀ b, Own ρ' s' b → w.heap.size ≤ b := fun b hb => (hg.own b hb).elim (fun h => (noOwn b h).elim) id
 have hvg : ∀ b c, V' b = some c → V b = some c ∨ w.heap.size ≤ b := by
  intro b c hv
  rcases hg.vnew b c hv with h5 | h5 | h5
  ·
   exact .inl h5
  ·
   exact (noOwn b h5).elim
  ·
   exact .inr h5
 have ofo : ∀ b, xG F ρ' s' b → Own ρ' s' b := fun b ⟨id, cells, loc, _, g1, g2, g3⟩ => ⟨id, cells, loc, g1, g2, g3⟩
 have hk : ∀ b, b < w.heap.size → w'.heap[b]? = w.heap[b]? := fun b hb => hg.keep b hb (noOwn b)
 have hfg : ∀ b c, VF F ρ' V' s' w' b = some c → V b = some c ∨ w.heap.size ≤ b := by
  intro b c hv
  rcases ga hv with h5 | ⟨h5, _⟩
  ·
   exact hvg b c h5
  ·
   exact .inr (hlow b (ofo b h5))
 have hvm : ∀ b c, V b = some c → VF F ρ' V' s' w' b = some c := fun b c hv => kP _ _ (hg.view b c hv)
 let ρ1 : Rho := fun i => match σ[i]? with
  | some (some old) => ρ' old
  | _ => none
 have hρ1 : ∀ i old, σ[i]? = some (some old) → ρ1 i = ρ' old := fun i old h => by simp only [ρ1, h]
 have hρ1s : ∀ i loc, ρ1 i = some loc → ∃ old, σ[i]? = some (some old) ∧ ρ' old = some loc := by
  intro i loc h
  simp only [ρ1] at h
  split at h
  ·
   rename_i old ho'; exact ⟨old, ho', h⟩
  ·
   cases h
 have h10 : ∀ i, 0 < i → ρ1 i = none := by
  intro i hi
  have : σ[i]? = none := List.getElem?_eq_none (by rw [hlen]; simp; omega)
  simp only [ρ1, this]
 let b : Nat → Nat := fun i => if i = 0 then fr else hs.next + i
 have hb0 : mk b = mk fun _ => fr := h0 _ _ rfl
 let ρ2 : Rho := fun id => if id = fr then ρ1 0 else ρ id
 have hρ2 : ∀ i, ρ2 (b i) = ρ1 i := by
  intro i
  rcases Nat.eq_zero_or_pos i with rfl | hi
  ·
   simp [ρ2, b]
  ·
   have e : b i = hs.next + i := if_neg (by omega)
   rw [e, h10 i hi]
   simp only [ρ2, if_neg (by omega : ¬ hs.next + i = fr)]
   exact hI.fresh _ (Nat.le_add_right _ _)
 have hoth : ∀ id, id ≠ fr → ρ2 id = ρ id := fun id hid => by simp only [ρ2, if_neg hid]
 have hf2 : ρ2 fr = ρ1 0 := by simp [ρ2]
 have hrho : ∀ id loc, ρ id = some loc → ρ2 id = some loc := by
  intro id loc hl
  rw [hoth id (by rintro rfl; rw [hfr] at hl; cases hl)]; exact hl
 have hc : Cvt ⟨s', fun _ => .unk⟩ F σ ρ' ρ1 V' (VF F ρ' V' s' w') := by
  refine ⟨hρ1, kP, fun id cells loc hid hl hr => ?_⟩
  obtain ⟨c, T, g1, g2, g3, g4⟩ := hinv.live id cells loc hl hr
  refine ⟨c, ?_, g3⟩
  have hof : xG F ρ' s' loc.b := ⟨id, cells, loc, hid, hl, hr, rfl⟩
  simp only [VF, g4, if_pos hof, g1]
 have newO : ∀ loc, ρ1 0 = some loc → ∃ old xs, ρ' old = some loc ∧ old ∉ F ∧ s'.objs old = .live xs ∧ TmL ⟨s', fun _ => .unk⟩ F σ xs CS := by
  intro loc hρ
  obtain ⟨old, g1, g2⟩ := hρ1s _ _ hρ
  obtain ⟨g3, xs, g4, g5⟩ := hobj 0 old CS g1 rfl
  exact ⟨old, xs, g2, g3, g4, g5⟩
 have small : ∀ {i : Nat} {c : List AV} {lc : Loc}, hs.objs i = .live c → ρ i = some lc → lc.b < w.heap.size := fun {i c lc} ho' hl' => by
  obtain ⟨c0, T, g1, _⟩ := hI.live i c lc ho' hl'
  exact gz g1
 refine ⟨y, ρ2, VF F ρ' V' s' w', rfl, ?_⟩
 refine ⟨?_, ?_, hrho, hoth, hvm, hg.size, fun b hb _ => hk b hb, ?_, ?_, hg.mem⟩
 ·
  have := hmk _ b ρ1 ρ2 _ _ hρ2 (htm ρ' ρ1 V' _ y hc hrel)
  rwa [hb0] at this
 ·
  refine ⟨fun b c hv => ?_, fun id hid => ?_, fun id cs loc hl hρ => ?_, fun id cs loc hl hρ => ?_, fun i j li lj ci cj hi hj hρi hρj hb => ?_⟩
  ·
   rcases ga hv with h5 | ⟨_, h5⟩
   ·
    exact hinv.view b c h5
   ·
    exact h5
  ·
   simp only at hid
   rw [hoth id (by omega)]; exact hI.fresh id hid
  ·
   simp only [c9] at hl
   by_cases he : id = fr
   ·
    subst he
    rw [cE] at hl; cases hl
    rw [hf2] at hρ
    obtain ⟨old, xs, g2, g3, g4, g5⟩ := newO loc hρ
    obtain ⟨c, T, e1, e2, e3, e4⟩ := hinv.live old xs loc g4 g2
    refine ⟨c, T, e1, e2, ((g5.relC hc e3).clean (ρ' := ρ2) hcl), ?_⟩
    cases hv : VF F ρ' V' s' w' loc.b with
    | none => rfl
    | some c' =>
     rcases ga hv with h7 | ⟨⟨id', cs', loc', m1, m2, m3, m4⟩, _⟩
     ·
      rw [e4] at h7; cases h7
     ·
      have := hinv.inj id' old loc' loc cs' xs m2 g4 m3 g2 m4
      subst this
      exact absurd m1 g3
   ·
    rw [bl _ _ he] at hl
    rw [hoth id he] at hρ
    obtain ⟨c, T, g1, g2, g3, g4⟩ := hI.live id cs loc hl hρ
    refine ⟨c, T, by rw [hk _ (gz g1)]; exact g1, g2, g3.mono hrho hvm, ?_⟩
    cases hv : VF F ρ' V' s' w' loc.b with
    | none => rfl
    | some c' =>
     rcases hfg _ _ hv with h7 | h7
     ·
      rw [g4] at h7; cases h7
     ·
      have := gz g1; omega
  ·
   simp only [c9] at hl
   by_cases he : id = fr
   ·
    subst he; rw [cE] at hl; cases hl
   ·
    rw [bl _ _ he] at hl
    rw [hoth id he] at hρ
    obtain ⟨c, g1, g2, g3⟩ := hI.froz id cs loc hl hρ
    exact ⟨c, hvm _ _ g1, g2.mono hrho hvm, g3⟩
  ·
   simp only [c9] at hi hj
   by_cases h5 : i = fr <;> by_cases h6 : j = fr
   ·
    rw [h5, h6]
   ·
    subst h5
    rw [bl _ _ h6] at hj
    rw [hf2] at hρi
    rw [hoth j h6] at hρj
    obtain ⟨old, xs, g2, g3, g4, g5⟩ := newO li hρi
    have a1 := hlow _ ⟨old, xs, li, g4, g2, rfl⟩
    have a2 := small hj hρj
    omega
   ·
    subst h6
    rw [bl _ _ h5] at hi
    rw [hf2] at hρj
    rw [hoth i h5] at hρi
    obtain ⟨old, xs, g2, g3, g4, g5⟩ := newO lj hρj
    have a1 := hlow _ ⟨old, xs, lj, g4, g2, rfl⟩
    have a2 := small hi hρi
    omega
   ·
    rw [bl _ _ h5] at hi
    rw [bl _ _ h6] at hj
    rw [hoth i h5] at hρi
    rw [hoth j h6] at hρj
    exact hI.inj i j li lj ci cj hi hj hρi hρj hb
 ·
  rintro b' ⟨id, cs, loc, hl, hρ, rfl⟩
  simp only [c9] at hl
  by_cases he : id = fr
  ·
   subst he
   rw [hf2] at hρ
   obtain ⟨old, xs, g2, g3, g4, g5⟩ := newO loc hρ
   exact .inr (hlow _ ⟨old, xs, loc, g4, g2, rfl⟩)
  ·
   rw [bl _ _ he] at hl
   rw [hoth id he] at hρ
   exact .inl ⟨id, cs, loc, hl, hρ, rfl⟩
 ·
  intro b' c hv
  rcases hfg b' c hv with h5 | h5
  ·
   exact .inl h5
  ·
   exact .inr (.inr h5)

def gv (C : Ctx) (f : FuncId) (args : List AV) (mk : (Nat → Nat) → AV) (l : List (List AV)) : Prop := Snd C f args (dh 0) fun r' s' => Res r' s' mk l

theorem kl.norm {C : Ctx} {f : FuncId} {args : List AV} {hs : HS} {fr : Nat} {e : Eff} (h : kl C f (args.map (fz (fun _ => .dead) gS)) hs fr e) : kl C f args hs fr e := by
 intro ρ V w args' h1 h2 hI hG hfr hlt
 refine h ρ V w args' (by simpa using h1) ?_ hI hG hfr hlt
 intro i x y hx hy
 obtain ⟨z, hz, rfl⟩ := eR hx
 have := pm (s := dh hs.next) hI.dead gS z y (h2 i z y hz hy)
 rwa [zC] at this

theorem o6 {C : Ctx} {fr : Nat} {f : FuncId} {args : List AV} {objs : Nat → Ob} {k : Eff → gC → Prop} {kb : FuncId → List AV → Prop} {e : Eff} (h : ∀ hs : HS, kl C f args hs fr e) (hk : k e []) : jc C fr (some (f, args)) objs k kb :=
 Ah (fun hs _ => h hs) hk
end Go.AX.Z

/-! (AyI) -/

namespace Go.AX.Z
open Go.AX

def thl (L : List Nat) (i : Nat) : Nat := L.getD i 0
theorem KU (a : Nat) (L : List Nat) : thl (a :: L) 0 = a := rfl
theorem GF (a : Nat) (L : List Nat) (i : Nat) : thl (a :: L) (i + 1) = thl L i := rfl

def Az (objs : Nat → Ob) (θ' : Nat → Nat) : List Nat → List Tpl → Prop
 | [], [] => True
 | id :: L, c :: I => objs id = .live (c θ') ∧ Az objs θ' L I
 | _, _ => False

theorem th {objs : Nat → Ob} {θ' : Nat → Nat} : ∀ {L : List Nat} {I : List Tpl}, Az objs θ' L I → L.length = I.length ∧ ∀ i c, I[i]? = some c → objs (thl L i) = .live (c θ')
 | [], [], _ => ⟨rfl, fun i c h => by simp at h⟩
 | id :: L, c :: I, h => by
  obtain ⟨h1, h2⟩ := th h.2
  refine ⟨by simp [h1], fun i d hd => ?_⟩
  cases i with
  | zero => simp at hd; subst hd; exact h.1
  | succ i => simp at hd; rw [GF]; exact h2 i d hd
 | [], _ :: _, h => h.elim
 | _ :: _, [], h => h.elim

theorem B9 : ∀ {L : List Nat}, L.Nodup → ∀ i j, i < L.length → j < L.length → thl L i = thl L j → i = j := by
 intro L hn i j hi hj h
 simp only [thl, List.getD_eq_getElem?_getD, List.getElem?_eq_getElem hi, List.getElem?_eq_getElem hj, Option.getD_some] at h
 exact (List.getElem_inj hn).1 h
theorem Df {L : List Nat} {n : Nat} (h : ∀ x ∈ L, x < n) (i : Nat) (hi : i < L.length) : thl L i < n := by
 simp only [thl, List.getD_eq_getElem?_getD, List.getElem?_eq_getElem hi, Option.getD_some]
 exact h _ (List.getElem_mem hi)

def cQ (C : Ctx) (f : FuncId) (k : Nat) (args : (Nat → Nat) → List AV) (I : List Tpl) (mk : (Nat → Nat) → AV) (E : List (Option Tpl)) : Prop :=
 ∀ (hs : HS) (L : List Nat), L.Nodup → (∀ x ∈ L, x < hs.next) → Az hs.objs (ex k (thl L) hs.next) L I →
  Snd C f (args (ex k (thl L) hs.next)) hs fun r hs' => r = mk (ex k (thl L) hs.next) ∧ hs' = ⟨qe hs.objs (ex k (thl L) hs.next) 0 E, hs.next + (E.length - k)⟩

def yJ (objs : Nat → Ob) : Nat → List Tpl → Nat → Ob
 | _, [] => objs
 | i, c :: l => yJ (upd objs i (.live (c fun i => i))) (i + 1) l
theorem HA (objs : Nat → Ob) (i : Nat) : yJ objs i [] = objs := rfl
theorem DM (objs : Nat → Ob) (i : Nat) (c : Tpl) (l : List Tpl) : yJ objs i (c :: l) = yJ (upd objs i (.live (c fun i => i))) (i + 1) l := rfl
theorem zG : ∀ (l : List Tpl) (i : Nat) (objs : Nat → Ob) (id : Nat), yJ objs i l id = if i ≤ id then (match l[id - i]? with | some c => .live (c fun i => i) | none => objs id) else objs id
 | [], i, objs, id => by simp [yJ]
 | c :: l, i, objs, id => by
  rw [DM, zG l]
  by_cases h1 : i + 1 ≤ id
  ·
   rw [if_pos h1, if_pos (by omega : i ≤ id), show id - i = (id - (i + 1)) + 1 by omega, List.getElem?_cons_succ, bl _ _ (by omega : id ≠ i)]
  ·
   rw [if_neg h1]
   by_cases h2 : id = i
   ·
    subst h2; simp
   ·
    rw [bl _ _ h2, if_neg (by omega)]
theorem CZ (I : List Tpl) : sk I = yJ (fun _ => .dead) 0 I := by
 funext id
 rw [zG]
 simp only [Nat.zero_le, if_true, Nat.sub_zero, sk]
 first | done | (cases I[id]? <;> rfl)

def tJ (s : HS) (F : List Nat) (σ0 : List (Option Nat)) : List (Option Nat) → List (Option Tpl) → Prop
 | [], [] => True
 | some old :: σ, some c :: l => (old ∉ F ∧ ∃ xs, s.objs old = .live xs ∧ TmL ⟨s, fun _ => .unk⟩ F σ0 xs (c fun i => i)) ∧ tJ s F σ0 σ l
 | _ :: σ, none :: l => tJ s F σ0 σ l
 | none :: σ, some _ :: l => tJ s F σ0 σ l
 | _, _ => False

theorem mM {s : HS} {F : List Nat} {σ0 : List (Option Nat)} : ∀ {σ : List (Option Nat)} {l : List (Option Tpl)}, tJ s F σ0 σ l →
  σ.length = l.length ∧ ∀ (i old : Nat) c, σ[i]? = some (some old) → l[i]? = some (some c) → old ∉ F ∧ ∃ xs, s.objs old = .live xs ∧ TmL ⟨s, fun _ => .unk⟩ F σ0 xs (c fun i => i)
 | [], [], _ => ⟨rfl, fun i old cs h => by simp at h⟩
 | some old :: σ, some c :: l, h => by
  obtain ⟨h1, h2⟩ := mM h.2
  refine ⟨by simp [h1], fun i o d hi hc => ?_⟩
  cases i with
  | zero => simp at hi hc; subst hi; subst hc; exact h.1
  | succ i => simp at hi hc; exact h2 i o d hi hc
 | some old :: σ, none :: l, h => by
  obtain ⟨h1, h2⟩ := mM (σ := σ) (l := l) h
  refine ⟨by simp [h1], fun i o d hi hc => ?_⟩
  cases i with
  | zero => simp at hc
  | succ i => simp at hi hc; exact h2 i o d hi hc
 | none :: σ, none :: l, h => by
  obtain ⟨h1, h2⟩ := mM (σ := σ) (l := l) h
  refine ⟨by simp [h1], fun i o d hi hc => ?_⟩
  cases i with
  | zero => simp at hc
  | succ i => simp at hi hc; exact h2 i o d hi hc
 | none :: σ, some c :: l, h => by
  obtain ⟨h1, h2⟩ := mM (σ := σ) (l := l) h
  refine ⟨by simp [h1], fun i o d hi hc => ?_⟩
  cases i with
  | zero => simp at hi
  | succ i => simp at hi hc; exact h2 i o d hi hc
 | [], _ :: _, h => by simp [tJ] at h
 | some _ :: _, [], h => by simp [tJ] at h
 | none :: _, [], h => by simp [tJ] at h

theorem er {s : HS} {F : List Nat} {σ0 : List (Option Nat)} : tJ s F σ0 [] [] := trivial
theorem aX {s : HS} {F : List Nat} {σ0 σ : List (Option Nat)} {l : List (Option Tpl)} {old : Nat} {xs : List AV} {c : Tpl} (hF : old ∉ F) (ho : s.objs old = .live xs) (hx : TmL ⟨s, fun _ => .unk⟩ F σ0 xs (c fun i => i)) (t : tJ s F σ0 σ l) : tJ s F σ0 (some old :: σ) (some c :: l) := ⟨⟨hF, xs, ho, hx⟩, t⟩
theorem gV {s : HS} {F : List Nat} {σ0 σ : List (Option Nat)} {l : List (Option Tpl)} {x : Option Nat} (t : tJ s F σ0 σ l) : tJ s F σ0 (x :: σ) (none :: l) := by cases x <;> exact t

def xM : List (Option Tpl) → Nat → List Nat
 | [], _ => []
 | none :: l, i => i :: xM l (i + 1)
 | some _ :: l, i => xM l (i + 1)
theorem sP : ∀ (l : List (Option Tpl)) (i0 i : Nat), i ∈ xM l i0 → i0 ≤ i ∧ l[i - i0]? = some none
 | [], _, i, h => by simp [xM] at h
 | none :: l, i0, i, h => by
  rcases List.mem_cons.1 h with rfl | h
  ·
   simp
  ·
   obtain ⟨h1, h2⟩ := sP l (i0 + 1) i h
   exact ⟨by omega, by rw [show i - i0 = (i - (i0 + 1)) + 1 by omega, List.getElem?_cons_succ]; exact h2⟩
 | some c :: l, i0, i, h => by
  obtain ⟨h1, h2⟩ := sP l (i0 + 1) i h
  exact ⟨by omega, by rw [show i - i0 = (i - (i0 + 1)) + 1 by omega, List.getElem?_cons_succ]; exact h2⟩

theorem dn.mk {k : Nat} {r' : AV} {s' : HS} {mk : (Nat → Nat) → AV} {E : List (Option Tpl)} (F : List Nat) (σ : List (Option Nat)) (hs : sgD k (xM E 0) σ = true) (ho : tJ s' F σ σ E) (ht : Tm ⟨s', fun _ => .unk⟩ F σ r' (mk fun i => i)) : dn k r' s' mk E :=
 ⟨F, xM E 0, σ, hs, fun i hi => by have := (sP E 0 i hi).2; rwa [Nat.sub_zero] at this, (mM ho).1, (mM ho).2, ht⟩

theorem dZ : ∀ c ∈ ([] : List Tpl), RenML c := by intro c h; cases h
theorem aQ {x : Tpl} {l : List Tpl} (h : RenML x) (t : ∀ c ∈ l, RenML c) : ∀ c ∈ x :: l, RenML c := by
 intro c hc
 rcases List.mem_cons.1 hc with rfl | hc
 ·
  exact h
 ·
  exact t c hc
theorem dg : ∀ c : Tpl, some c ∈ ([] : List (Option Tpl)) → RenML c := by intro c h; cases h
theorem aJ {x : Tpl} {l : List (Option Tpl)} (h : RenML x) (t : ∀ c : Tpl, some c ∈ l → RenML c) : ∀ c : Tpl, some c ∈ some x :: l → RenML c := by
 intro c hc
 rcases List.mem_cons.1 hc with hc | hc
 ·
  cases hc; exact h
 ·
  exact t c hc
theorem eE {l : List (Option Tpl)} (t : ∀ c : Tpl, some c ∈ l → RenML c) : ∀ c : Tpl, some c ∈ none :: l → RenML c := by
 intro c hc
 rcases List.mem_cons.1 hc with hc | hc
 ·
  cases hc
 ·
  exact t c hc

theorem bQ {C : Ctx} {fr : Nat} {f : FuncId} {k : Nat} {args : List AV} {argsT : (Nat → Nat) → List AV} {I : List Tpl} {E : List (Option Tpl)} {mk : (Nat → Nat) → AV} {objs : Nat → Ob} {nx : Nat} {K : AV → HS → Prop} (L : List Nat) (h : cQ C f k argsT I mk E)
  (hL : L.Nodup) (hLn : ∀ x ∈ L, x < nx) (hlive : Az objs (ex k (thl L) nx) L I) (he : args = argsT (ex k (thl L) nx))
  (hk : K (mk (ex k (thl L) nx)) ⟨qe objs (ex k (thl L) nx) 0 E, nx + (E.length - k)⟩) : kh C false fr (some (f, args)) ⟨objs, nx⟩ K := by
 subst he
 exact uC (h ⟨objs, nx⟩ L hL hLn hlive) fun r hs hr => by obtain ⟨rfl, rfl⟩ := hr; exact hk

theorem aB.unk : aB .unk := fun _ _ _ y _ => .unk y
attribute [go_sem] Int.le_refl vc HA DM Ej yA JS HJ Kk KU GF
end Go.AX.Z

/-! (AyJ) -/

namespace Go.AX.Z
open Go.AX

def clQ (k : Nat) (C : Ctx) (Q : AExit → AS → Prop) : Prop := ∀ t u, Wk k C t u → Q .normal u → Q .normal t

def xu (k : Nat) (C : Ctx) (fn : Func) (R : AV → HS → Prop) : AExit → AS → Prop := fun e s => ∃ t, Wk k C s t ∧ wI C fn R e t

section
variable {k : Nat} {C : Ctx} {x y : Code} {Q : AExit → AS → Prop} {s : AS}
theorem Ga {id : Nat} (h : clQ k C Q) : clQ k C (ki id Q) := h
theorem C6 {δ : Type} {P : Nat → δ → Prop} {S : δ → AS} {n : Nat} {Q' : AExit → AS → Prop} : clQ k C (mQ (fun t => ∃ m d', n = m + 1 ∧ P m d' ∧ Wk k C t (S d')) Q') := fun _ _ h ⟨m, d, hn, hp, hw⟩ => ⟨m, d, hn, hp, Wk.trans h hw⟩
theorem yB {fn : Func} {R : AV → HS → Prop} : clQ k C (xu k C fn R) := fun _ _ h ⟨v, hv, hq⟩ => ⟨v, Wk.trans h hv, hq⟩

theorem aL {fn : Func} {R : AV → HS → Prop} {e : AExit} (h : wI C fn R e s) : xu k C fn R e s := ⟨s, Wk.refl _ _ _, h⟩
theorem et {K : AS → Prop} {Q' : AExit → AS → Prop} (h : K s) : kz (fun t => ∃ u, Wk k C t u ∧ K u) Q' .normal s := ⟨s, Wk.refl _ _ _, h⟩

theorem cC {id : Nat} (h : awp k C x (ki id (kz (fun t => ∃ u, Wk k C t u ∧ awp k C y Q u) Q)) s) : awp k C (.seq (.block id x) y) Q s := jg (bB h)

theorem vn {δ : Type} (P : δ → Prop) (S : δ → AS) (hQ : clQ k C Q) (h1 : awp k C x (kz (fun t => ∃ d, P d ∧ Wk k C t (S d)) Q) s) (h2 : ∀ d, P d → Q .normal (S d)) : awp k C x Q s := by
 refine dw x h1 ?_
 intro e t ht
 cases e with
 | normal => obtain ⟨d, hp, hw⟩ := ht; exact hQ t _ hw (h2 d hp)
 | exit j => exact ht
 | ret => exact ht
end

theorem lL {C : Ctx} (hC : COk C) {f : FuncId} {fn : Func} {c : Code} {args : List AV} {s : HS} {Q : AV → HS → Prop} (hf : C.P.funcs[f]? = some fn) (hb : fn.body = some c) (hn : (fn.name == "runtime.NumGoroutine") = false)
  (hst : gL fn.ntmps c = true) (hargs : args.length ≤ fn.ntmps) (h : awp s.next C c (xu s.next C fn Q) (ju args s)) : Snd C f args s Q := by
 refine ⟨trivial, fun ρ V w args' h1 h2 h3 h4 => .inl ⟨⟨fn, hf, by rw [hb]; rfl, hn⟩, ?_⟩⟩
 refine ne hf hb ?_
 let B : Base := ⟨ρ, V, s, w, some w.heap.size⟩
 have hLo : Lo s.next B := ⟨rfl, fun id hid => h3.fresh id hid, fun m hm => by cases hm; exact Nat.le_refl _⟩
 have hg : GS C fn.ntmps B (fun _ => False) (ju args s) { tmps := args' ++ Array.replicate (fn.ntmps - args'.size) undef, defers := [] } w := by
  refine ⟨ρ, V, fun t => ?_, h3, h4, Grew.refl _ _ _ _, by simp; omega, im.nil _ _, fun id hid => hid.elim⟩
  simp only [ju, List.getD_eq_getElem?_getD]
  rw [Array.getD_eq_getD_getElem?, Array.getElem?_append]
  by_cases ht : t < args'.size
  ·
   rw [if_pos ht]
   have ht' : t < args.length := by omega
   have e1 : args[t]? = some args[t] := by simp [ht']
   have e2 : args'[t]? = some args'[t] := by simp [ht]
   rw [e1, e2]
   exact h2 t _ _ e1 e2
  ·
   rw [if_neg ht, List.getElem?_eq_none (by omega)]
   simp only [Option.getD_none]
   have : (Array.replicate (fn.ntmps - args'.size) undef)[t - args'.size]?.getD undef = undef := by
    by_cases h5 : t - args'.size < fn.ntmps - args'.size <;> simp [h5]
   rw [this]; exact .v _
 refine wp_mono (pY hC hLo rfl c _ _ _ _ hst h hg) ?_
 intro e a' w' hq
 have fin : ∀ s', (∃ r, tw C s' fn.results.toList = some r ∧ Q r s'.toHS) → GS C fn.ntmps B (fun _ => False) s' a' w' → LeavesInM Fence.wide 0 C.P fn a'.tmps (fun e w' =>
   ∃ y r s' ρ' V', e = Ending.returned y ∧ Q r s' ∧ Rel ρ' V' r y ∧ Inv ρ' V' s' w' ∧ Grew ρ V s w ρ' V' s' w') a'.defers .returning w' := by
  rintro s' ⟨r, hr, hQ⟩ hgs
  refine tE hgs ⟨_, rfl, Nat.le_refl _⟩ ?_
  rintro tmps w'' ds ⟨ρ', V', k1, k2, k3, k4, k5, k6, k7⟩
  obtain ⟨y, hy1, hy2⟩ := pD k1 k2 hr
  exact ⟨y, hy1, y, r, s'.toHS, ρ', V', rfl, hQ, hy2, k2, k4⟩
 cases e with
 | normal =>
  obtain ⟨s', ⟨t, hwk, hk⟩, hg'⟩ := hq
  exact fin t hk (hwk _ _ _ _ hLo hg')
 | ret =>
  obtain ⟨s', ⟨t, hwk, hk⟩, hg'⟩ := hq
  exact fin t hk (hwk _ _ _ _ hLo hg')
 | exit id =>
  obtain ⟨s', ⟨t, hwk, hk⟩, hg'⟩ := hq
  exact hk.elim
 | goto l => exact hq.elim
 | panic ch => exact hq.elim
 | outgrown => exact hq.elim

theorem SndP.of_walkW {C : Ctx} (hC : COk C) {f : FuncId} {fn : Func} {c : Code} {args : List AV} {r : AV} (hr : aB r) (ha : ∀ x ∈ args, aB x) (hf : C.P.funcs[f]? = some fn) (hb : fn.body = some c) (hn : (fn.name == "runtime.NumGoroutine") = false)
  (hst : gL fn.ntmps c = true) (hargs : args.length ≤ fn.ntmps) (h : awp 0 C c (xu 0 C fn fun r' s' => fz s'.objs gS r' = r) { objs := fun _ => .dead, next := 0, tmps := arg args }) : SndP C f args r :=
 SndP.of_zero hr ha (lL hC hf hb hn hst hargs h)
theorem gv.of_walkW {C : Ctx} (hC : COk C) {f : FuncId} {fn : Func} {c : Code} {args : List AV} {mk : (Nat → Nat) → AV} {l : List (List AV)} (hf : C.P.funcs[f]? = some fn) (hb : fn.body = some c) (hn : (fn.name == "runtime.NumGoroutine") = false)
  (hst : gL fn.ntmps c = true) (hargs : args.length ≤ fn.ntmps) (h : awp 0 C c (xu 0 C fn fun r' s' => Res r' s' mk l) { objs := fun _ => .dead, next := 0, tmps := arg args }) : gv C f args mk l :=
 lL hC hf hb hn hst hargs h
theorem cQ.of_walkW {C : Ctx} (hC : COk C) {f : FuncId} {fn : Func} {c : Code} {k : Nat} {args : (Nat → Nat) → List AV} {I : List Tpl} {E : List (Option Tpl)} {mk : (Nat → Nat) → AV} (hargs : RenML args) (hIr : ∀ c ∈ I, RenML c) (hEr : ∀ c, some c ∈ E → RenML c) (hmk : aK mk) (hk : I.length = k) (hkE : k ≤ E.length)
  (hf : C.P.funcs[f]? = some fn) (hb : fn.body = some c) (hn : (fn.name == "runtime.NumGoroutine") = false) (hst : gL fn.ntmps c = true) (hal : (args fun i => i).length ≤ fn.ntmps)
  (h : awp k C c (xu k C fn fun r' s' => dn k r' s' mk E) { objs := yJ (fun _ => .dead) 0 I, next := k, tmps := arg (args fun i => i) }) : cQ C f k args I mk E := by
 intro hs L hL hLn hlive
 obtain ⟨h1, h2⟩ := th hlive
 refine Snd.of_io hargs hIr hEr hmk hk hkE ?_ hs (thl L) (fun i j hi hj => B9 hL i j (by omega) (by omega)) (fun i hi => Df hLn i (by omega)) h2
 have hw : awp k C c (xu k C fn fun r' s' => dn k r' s' mk E) (ju (args fun i => i) ⟨sk I, k⟩) := by
  rw [CZ]; exact h
 exact lL hC hf hb hn hst hal hw

end Go.AX.Z
namespace Go.AX.Z
open Go.AX
section
variable {k : Nat} {C : Ctx} {y : Code} {Q : AExit → AS → Prop} {s : AS}
theorem C5 {id : Nat} {ops : Array Oper} {draw : Bool} (h : ∀ K : AS → Prop, (∀ t u, Wk k C t u → awp k C y Q u → K t) → xw draw C (ops.toList.map (·.dst)) s.next 0 ops.toList { s with next := s.next + ops.size } K) : awp k C (.seq (.region id ops draw) y) Q s :=
 jg (jK (h _ fun _ u h1 h2 => ⟨u, h1, h2⟩))
theorem cx {objs : Nat → Ob} {nx : Nat} {tm : Nat → AV} {id : Nat} {ops : Array Oper} (h : ∀ K : AS → Prop, (∀ t u, Wk k C t u → awp k C y Q u → K t) → ∀ l, l = ops.toList → xd C l (ops.toList.map (·.dst)) nx 0 ops.toList { objs := objs, next := nx + ops.size, tmps := tm } [] K) : awp k C (.seq (.region id ops true) y) Q { objs := objs, next := nx, tmps := tm } :=
 jg (kS _ _ _ _ (h _ (fun _ u h1 h2 => ⟨u, h1, h2⟩) _ rfl))
end
end Go.AX.Z
namespace Go.AX.Z
open Go.AX
theorem yn {α : Type} {f : α → List AV} {sz : Nat} (hf : ∀ a, (f a).length = sz) (l : List α) (n : Nat) (h : n ≤ l.length) : cq (l.flatMap f) (n * sz) ((l.length - n) * sz) = some ((l.drop n).flatMap f) := by
 unfold cq
 rw [if_pos (by rw [fg hf, ← Nat.add_mul]; exact Nat.mul_le_mul_right _ (by omega)), jJ hf, List.take_of_length_le (by rw [fg hf, List.length_drop]; exact Nat.le_refl _)]
end Go.AX.Z
namespace Go.AX.Z
open Go.AX
end Go.AX.Z
namespace Go.AX.Z
open Go.AX
end Go.AX.Z
namespace Go.AX.Z
open Go.AX
end Go.AX.Z
namespace Go.AX.Z
open Go.AX
end Go.AX.Z

/-! (AyK) -/

namespace Go.AX.Z
open Go.AX

end Go.AX.Z
namespace Go.AX.Z
open Go.AX
end Go.AX.Z

/-! (AyL) -/

namespace Go.AX.Z
open Go.AX

def NoV (x : AV) : Prop := ∀ (ρ : Rho) (V V' : bG) (y : Value), Rel ρ V x y → Rel ρ V' x y
theorem NoV.v (x : Value) : NoV (.v x) := fun _ _ _ y h => by cases h; exact .v x
theorem NoV.ref (id off len sz : Nat) : NoV (.ref id off len sz) := fun _ _ _ y h => by
 cases h with
 | ref _ _ _ _ cap loc h hc hl => exact .ref id off len sz cap loc h hc hl
 | refE _ _ _ a => exact .refE id off sz a
theorem NoV.agg {cs : List AV} (h : ∀ c ∈ cs, NoV c) : NoV (.agg cs) := by
 intro ρ V V' y hr
 cases hr with
 | agg _ ys h1 H S => exact .agg cs ys h1 (fun i x y hx hy => h x (List.mem_of_getElem? hx) ρ V V' y (H i x y hx hy)) S
theorem NoV.tup {cs : List AV} (h : ∀ c ∈ cs, NoV c) : NoV (.tup cs) := by
 intro ρ V V' y hr
 cases hr with
 | tup _ ys h1 H => exact .tup cs ys h1 (fun i x y hx hy => h x (List.mem_of_getElem? hx) ρ V V' y (H i x y hx hy))
theorem NoV.nil : ∀ c ∈ ([] : List AV), NoV c := by intro c h; cases h
theorem NoV.cons {x : AV} {l : List AV} (h : NoV x) (t : ∀ c ∈ l, NoV c) : ∀ c ∈ x :: l, NoV c := by
 intro c hc
 rcases List.mem_cons.1 hc with rfl | hc
 ·
  exact h
 ·
  exact t c hc

open Classical in
theorem lK.lend {C : Ctx} {f : FuncId} {args : List AV} {mk : (Nat → Nat) → AV} {l : List (List AV)} (s : HS) (h : lK C f (args.map (fz s.objs gS)) mk l) (hmk : ∀ q, NoV (mk q)) (hb : ∀ cs ∈ l, ∀ c ∈ cs, NoV c) :
  Snd C f args s fun r s' => r = mk (fun i => s.next + i) ∧ s' = ⟨ov s.objs s.next l, s.next + l.length⟩ := by
 refine ⟨trivial, fun ρ V w args' h1 h2 h3 h4 => ?_⟩
 have hz : Inv ρ (VV ρ V s w) ⟨kE s.objs, s.next⟩ w := by
  refine ⟨(zd h3).view, h3.fresh, fun id cells loc hl => ?_, fun id cells loc hl hρ => ?_, fun i j li lj ci cj hl => ?_⟩
  ·
   simp only [kE] at hl
   cases ho : s.objs id <;> simp [ho] at hl
  ·
   simp only [kE] at hl
   cases ho : s.objs id with
   | dead => simp [ho] at hl
   | live c =>
    simp [ho] at hl; subst hl
    obtain ⟨c', T, g1, g2, g3, g4⟩ := h3.live id c loc ho hρ
    exact ⟨c', Bm g4 ⟨id, c, loc, ho, hρ, rfl⟩ g1, g3.mono (fun _ _ h => h) fe, g2⟩
   | froz c =>
    simp [ho] at hl; subst hl
    obtain ⟨c', g1, g2, g3⟩ := h3.froz id c loc ho hρ
    exact ⟨c', fe _ _ g1, g2.mono (fun _ _ h => h) fe, g3⟩
  ·
   simp only [kE] at hl
   cases ho : s.objs i <;> simp [ho] at hl
 have q := (h ⟨kE s.objs, s.next⟩).2 ρ (VV ρ V s w) w args' (by simpa using h1) (fun i x y hx hy => by
  obtain ⟨z, hz, rfl⟩ := eR hx
  exact pm h3 gS z y (h2 i z y hz hy)) hz (h4.mono fe)
 refine q.mono ?_
 rintro e w' ⟨y, r', s', ρ', V', rfl, ⟨rfl, rfl⟩, hrel, hinv, hg⟩
 simp only at hinv hg hrel
 have hown : ∀ b, ¬ Own ρ ⟨kE s.objs, s.next⟩ b := by
  rintro b ⟨id, cells, loc, hl, _⟩
  simp only [kE] at hl
  cases ho : s.objs id <;> simp [ho] at hl
 have hk : ∀ b, b < w.heap.size → w'.heap[b]? = w.heap[b]? := fun b hb' => hg.keep b hb' (hown b)
 have vown : ∀ b c, V b = some c → ¬ Own ρ s b := by
  rintro b c hv ⟨id, cells, loc, hl, hρ, rfl⟩
  obtain ⟨_, _, _, _, _, g⟩ := h3.live id cells loc hl hρ
  rw [hv] at g; cases g
 let V2 : bG := fun b => if Own ρ s b then none else V' b
 have hV2 : ∀ b c, V2 b = some c → V' b = some c ∧ ¬ Own ρ s b := by
  intro b c hv
  simp only [V2] at hv
  split at hv
  ·
   cases hv
  ·
   rename_i hn; exact ⟨hv, hn⟩
 have hVm : ∀ b c, V b = some c → V2 b = some c := by
  intro b c hv
  simp only [V2, if_neg (vown b c hv)]
  exact hg.view b c (fe _ _ hv)
 have hVo : ∀ b, Own ρ s b → V2 b = none := fun b hb' => by simp only [V2, if_pos hb']
 have old : ∀ id loc, id < s.next → ρ' id = some loc → ρ id = some loc := fun id loc hid hr => by rw [← hg.old id hid]; exact hr
 -- what lives now: old or new
 have split : ∀ id cells loc, ov s.objs s.next l id = .live cells → ρ' id = some loc →
   (id < s.next ∧ s.objs id = .live cells) ∨ (cells ∈ l ∧ ov (kE s.objs) s.next l id = .live cells) := by
  intro id cells loc hl hρ
  rw [mO] at hl
  by_cases hid : s.next ≤ id
  ·
   rw [if_pos hid] at hl
   cases hc : l[id - s.next]? with
   | some cs =>
    rw [hc] at hl; cases hl
    refine .inr ⟨List.mem_of_getElem? hc, ?_⟩
    rw [mO, if_pos hid, hc]
   | none =>
    exfalso
    have := List.getElem?_eq_none_iff.1 hc
    have hf := hinv.fresh id (by simp only; omega)
    rw [hf] at hρ; cases hρ
  ·
   rw [if_neg hid] at hl
   exact .inl ⟨by omega, hl⟩
 have newSize : ∀ id cells loc, ov (kE s.objs) s.next l id = .live cells → ρ' id = some loc → w.heap.size ≤ loc.b := by
  intro id cells loc hl hρ
  rcases hg.own loc.b ⟨id, cells, loc, hl, hρ, rfl⟩ with h5 | h5
  ·
   exact (hown _ h5).elim
  ·
   exact h5
 have oldSize : ∀ id cells loc, s.objs id = .live cells → ρ id = some loc → loc.b < w.heap.size := by
  intro id cells loc hl hρ
  obtain ⟨_, _, g1, _⟩ := h3.live id cells loc hl hρ
  exact gz g1
 have relV : ∀ {cells : List AV} {c : Array Value} {o : Nat}, (∀ x ∈ cells, NoV x) → RelC ρ' V' cells c o → RelC ρ' V2 cells c o := fun hn hc =>
  ⟨hc.le, fun i x y hx hy => hn x (List.mem_of_getElem? hx) _ _ _ _ (hc.rel i x y hx hy), hc.sto⟩
 refine ⟨y, _, _, ρ', V2, rfl, ⟨rfl, rfl⟩, hmk _ _ _ _ _ hrel, ?_, ?_⟩
 ·
  refine ⟨fun b c hv => hinv.view b c (hV2 b c hv).1, fun id hid => hinv.fresh id hid, fun id cells loc hl hρ => ?_, fun id cells loc hl hρ => ?_, fun i j li lj ci cj hi hj hρi hρj hbb => ?_⟩
  ·
   rcases split id cells loc hl hρ with ⟨hid, ho⟩ | ⟨hm, ho⟩
   ·
    have hr := old id loc hid hρ
    obtain ⟨c, T, g1, g2, g3, g4⟩ := h3.live id cells loc ho hr
    exact ⟨c, T, by rw [hk _ (gz g1)]; exact g1, g2, g3.mono hg.rho hVm, hVo _ ⟨id, cells, loc, ho, hr, rfl⟩⟩
   ·
    obtain ⟨c, T, g1, g2, g3, g4⟩ := hinv.live id cells loc ho hρ
    refine ⟨c, T, g1, g2, relV (hb cells hm) g3, ?_⟩
    cases hv : V2 loc.b with
    | none => rfl
    | some c' => rw [(hV2 _ _ hv).1] at g4; cases g4
  ·
   change ov s.objs s.next l id = _ at hl
   rw [mO] at hl
   have hid : id < s.next ∧ s.objs id = .froz cells := by
    by_cases hid : s.next ≤ id
    ·
     rw [if_pos hid] at hl
     cases hc : l[id - s.next]? with
     | some cs => rw [hc] at hl; cases hl
     | none =>
      exfalso
      have := List.getElem?_eq_none_iff.1 hc
      have hf := hinv.fresh id (by simp only; omega)
      rw [hf] at hρ; cases hρ
    ·
     rw [if_neg hid] at hl; exact ⟨by omega, hl⟩
   have hr := old id loc hid.1 hρ
   obtain ⟨c, g1, g2, g3⟩ := h3.froz id cells loc hid.2 hr
   exact ⟨c, hVm _ _ g1, g2.mono hg.rho hVm, g3⟩
  ·
   rcases split i ci li hi hρi with ⟨a1, a2⟩ | ⟨a1, a2⟩ <;> rcases split j cj lj hj hρj with ⟨b1, b2⟩ | ⟨b1, b2⟩
   ·
    exact h3.inj i j li lj ci cj a2 b2 (old i li a1 hρi) (old j lj b1 hρj) hbb
   ·
    have := oldSize i ci li a2 (old i li a1 hρi)
    have := newSize j cj lj b2 hρj
    omega
   ·
    have := oldSize j cj lj b2 (old j lj b1 hρj)
    have := newSize i ci li a2 hρi
    omega
   ·
    exact hinv.inj i j li lj ci cj a2 b2 hρi hρj hbb
 ·
  refine ⟨hg.rho, hg.old, Nat.le_add_right _ _, hVm, hg.size, fun b hb' _ => hk b hb', fun b hb' => ?_, fun b c hv => ?_, hg.mem⟩
  ·
   obtain ⟨id, cells, loc, hl, hρ, rfl⟩ := hb'
   rcases split id cells loc hl hρ with ⟨hid, ho⟩ | ⟨_, ho⟩
   ·
    exact .inl ⟨id, cells, loc, ho, old id loc hid hρ, rfl⟩
   ·
    exact .inr (newSize id cells loc ho hρ)
  ·
   rcases hg.vnew b c (hV2 b c hv).1 with h5 | h5 | h5
   ·
    rcases sJ h5 with h6 | ⟨h6, _⟩
    ·
     exact .inl h6
    ·
     exact .inr (.inl h6)
   ·
    exact (hown b h5).elim
   ·
    exact .inr (.inr h5)

theorem NoV.rows {α : Type} {e : α → List AV} (h : ∀ a, ∀ c ∈ e a, NoV c) (l : List α) : ∀ c ∈ l.flatMap e, NoV c := by
 intro c hc
 obtain ⟨a, _, ha⟩ := List.mem_flatMap.1 hc
 exact h a c ha
theorem NoV.maps {α : Type} {e : α → AV} (h : ∀ a, NoV (e a)) (l : List α) : ∀ c ∈ l.map e, NoV c := by
 intro c hc
 obtain ⟨a, _, rfl⟩ := List.mem_map.1 hc
 exact h a
theorem NoV.onil : ∀ cs ∈ ([] : List (List AV)), ∀ c ∈ cs, NoV c := by intro c h; cases h
theorem NoV.ocons {x : List AV} {l : List (List AV)} (h : ∀ c ∈ x, NoV c) (t : ∀ cs ∈ l, ∀ c ∈ cs, NoV c) : ∀ cs ∈ x :: l, ∀ c ∈ cs, NoV c := by
 intro c hc
 rcases List.mem_cons.1 hc with rfl | hc
 ·
  exact h
 ·
  exact t c hc

open Classical in
theorem kl.lend {C : Ctx} {f : FuncId} {args : List AV} {hs : HS} {fr : Nat} {r : AV} {CS : List AV} (h : ∀ s : HS, kl C f (args.map (fz hs.objs gS)) s fr ⟨r, .new CS⟩) (hr : NoV r) (hb : ∀ c ∈ CS, NoV c) :
  kl C f args hs fr ⟨r, .new CS⟩ := by
 intro ρ V w args' h1 h2 h3 h4 hfr hfn
 have hz : Inv ρ (VV ρ V hs w) ⟨kE hs.objs, hs.next⟩ w := by
  refine ⟨(zd h3).view, h3.fresh, fun id cells loc hl => ?_, fun id cells loc hl hρ => ?_, fun i j li lj ci cj hl => ?_⟩
  ·
   simp only [kE] at hl
   cases ho : hs.objs id <;> simp [ho] at hl
  ·
   simp only [kE] at hl
   cases ho : hs.objs id with
   | dead => simp [ho] at hl
   | live c =>
    simp [ho] at hl; subst hl
    obtain ⟨c', T, g1, g2, g3, g4⟩ := h3.live id c loc ho hρ
    exact ⟨c', Bm g4 ⟨id, c, loc, ho, hρ, rfl⟩ g1, g3.mono (fun _ _ h => h) fe, g2⟩
   | froz c =>
    simp [ho] at hl; subst hl
    obtain ⟨c', g1, g2, g3⟩ := h3.froz id c loc ho hρ
    exact ⟨c', fe _ _ g1, g2.mono (fun _ _ h => h) fe, g3⟩
  ·
   simp only [kE] at hl
   cases ho : hs.objs i <;> simp [ho] at hl
 have q := h ⟨kE hs.objs, hs.next⟩ ρ (VV ρ V hs w) w args' (by simpa using h1) (fun i x y hx hy => by
  obtain ⟨z, hz, rfl⟩ := eR hx
  exact pm h3 gS z y (h2 i z y hz hy)) hz (h4.mono fe) hfr hfn
 refine q.mono ?_
 rintro e w' ⟨y, ρ', V', rfl, hd⟩
 have hown : ∀ b, ¬ Own ρ ⟨kE hs.objs, hs.next⟩ b := by
  rintro b ⟨id, cells, loc, hl, _⟩
  simp only [kE] at hl
  cases ho : hs.objs id <;> simp [ho] at hl
 have hk : ∀ b, b < w.heap.size → w'.heap[b]? = w.heap[b]? := fun b hb' => hd.keep b hb' (hown b)
 have vown : ∀ b c, V b = some c → ¬ Own ρ hs b := by
  rintro b c hv ⟨id, cells, loc, hl, hρ, rfl⟩
  obtain ⟨_, _, _, _, _, g⟩ := h3.live id cells loc hl hρ
  rw [hv] at g; cases g
 let V2 : bG := fun b => if Own ρ hs b then none else V' b
 have hV2 : ∀ b c, V2 b = some c → V' b = some c ∧ ¬ Own ρ hs b := by
  intro b c hv
  simp only [V2] at hv
  split at hv
  ·
   cases hv
  ·
   rename_i hn; exact ⟨hv, hn⟩
 have hVm : ∀ b c, V b = some c → V2 b = some c := by
  intro b c hv
  simp only [V2, if_neg (vown b c hv)]
  exact hd.view b c (fe _ _ hv)
 have hVo : ∀ b, Own ρ hs b → V2 b = none := fun b hb' => by simp only [V2, if_pos hb']
 have newSize : ∀ loc, ρ' fr = some loc → w.heap.size ≤ loc.b := by
  intro loc hρ
  rcases hd.own loc.b ⟨fr, CS, loc, by simp only [c9, cE], hρ, rfl⟩ with h5 | h5
  ·
   exact (hown _ h5).elim
  ·
   exact h5
 have oldSize : ∀ id cells loc, hs.objs id = .live cells → ρ id = some loc → loc.b < w.heap.size := by
  intro id cells loc hl hρ
  obtain ⟨_, _, g1, _⟩ := h3.live id cells loc hl hρ
  exact gz g1
 have relV : ∀ {cells : List AV} {c : Array Value} {o : Nat}, (∀ x ∈ cells, NoV x) → RelC ρ' V' cells c o → RelC ρ' V2 cells c o := fun hn hc =>
  ⟨hc.le, fun i x y hx hy => hn x (List.mem_of_getElem? hx) _ _ _ _ (hc.rel i x y hx hy), hc.sto⟩
 refine ⟨y, ρ', V2, rfl, hr _ _ _ _ hd.rel, ?_, hd.rho, hd.oth, hVm, hd.size, fun b hb' _ => hk b hb', fun b hb' => ?_, fun b c hv => ?_, hd.mem⟩
 ·
  refine ⟨fun b c hv => hd.inv.view b c (hV2 b c hv).1, fun id hid => hd.inv.fresh id hid, fun id cells loc hl hρ => ?_, fun id cells loc hl hρ => ?_, fun i j li lj ci cj hi hj hρi hρj hbb => ?_⟩
  ·
   simp only [c9] at hl
   by_cases he : id = fr
   ·
    subst he
    rw [cE] at hl; cases hl
    obtain ⟨c, T, g1, g2, g3, g4⟩ := hd.inv.live id CS loc (by simp only [c9, cE]) hρ
    refine ⟨c, T, g1, g2, relV hb g3, ?_⟩
    cases hv : V2 loc.b with
    | none => rfl
    | some c' => rw [(hV2 _ _ hv).1] at g4; cases g4
   ·
    rw [bl _ _ he] at hl
    rw [hd.oth id he] at hρ
    obtain ⟨c, T, g1, g2, g3, g4⟩ := h3.live id cells loc hl hρ
    exact ⟨c, T, by rw [hk _ (gz g1)]; exact g1, g2, g3.mono hd.rho hVm, hVo _ ⟨id, cells, loc, hl, hρ, rfl⟩⟩
  ·
   simp only [c9] at hl
   by_cases he : id = fr
   ·
    subst he; rw [cE] at hl; cases hl
   ·
    rw [bl _ _ he] at hl
    rw [hd.oth id he] at hρ
    obtain ⟨c, g1, g2, g3⟩ := h3.froz id cells loc hl hρ
    exact ⟨c, hVm _ _ g1, g2.mono hd.rho hVm, g3⟩
  ·
   simp only [c9] at hi hj
   by_cases h5 : i = fr <;> by_cases h6 : j = fr
   ·
    rw [h5, h6]
   ·
    subst h5
    rw [bl _ _ h6] at hj
    rw [hd.oth j h6] at hρj
    have := newSize li hρi
    have := oldSize j cj lj hj hρj
    omega
   ·
    subst h6
    rw [bl _ _ h5] at hi
    rw [hd.oth i h5] at hρi
    have := newSize lj hρj
    have := oldSize i ci li hi hρi
    omega
   ·
    rw [bl _ _ h5] at hi
    rw [bl _ _ h6] at hj
    rw [hd.oth i h5] at hρi
    rw [hd.oth j h6] at hρj
    exact h3.inj i j li lj ci cj hi hj hρi hρj hbb
 ·
  obtain ⟨id, cells, loc, hl, hρ, rfl⟩ := hb'
  simp only [c9] at hl
  by_cases he : id = fr
  ·
   subst he; exact .inr (newSize loc hρ)
  ·
   rw [bl _ _ he] at hl
   rw [hd.oth id he] at hρ
   exact .inl ⟨id, cells, loc, hl, hρ, rfl⟩
 ·
  rcases hd.vnew b c (hV2 b c hv).1 with h5 | h5 | h5
  ·
   rcases sJ h5 with h6 | ⟨h6, _⟩
   ·
    exact .inl h6
   ·
    exact .inr (.inl h6)
  ·
   exact (hown b h5).elim
  ·
   exact .inr (.inr h5)

theorem sQ {C : Ctx} {fr : Nat} {f : FuncId} {args args' : List AV} {objs : Nat → Ob} {k : Eff → gC → Prop} {kb : FuncId → List AV → Prop} {r : AV} {CS : List AV} {rd : gC} (he : args.map (fz objs gS) = args') (hr : args.flatMap (bn objs gS) = rd) (h : ∀ hs : HS, kl C f args' hs fr ⟨r, .new CS⟩) (hn : NoV r) (hb : ∀ c ∈ CS, NoV c)
  (hk : k ⟨r, .new CS⟩ rd) : jc C fr (some (f, args)) objs k kb := by
 subst hr
 refine Ah (fun hs hag => kl.lend (fun s => ?_) hn hb) hk
 have : args.map (fz hs.objs gS) = args.map (fz objs gS) := List.map_congr_left fun c hc => sI gS c (fp hag fun p hp => List.mem_flatMap.2 ⟨c, hc, hp⟩)
 rw [this, he]; exact h s
theorem gF {α : Type} (l : List α) (i : Nat) (x : α) : List.take l.length (l.set i x) = l.set i x := by
 have h := List.take_length (l := l.set i x)
 rwa [List.length_set] at h
end Go.AX.Z

/-! (AyM) -/

namespace Go.AX
attribute [go_sem] Gm wg uQ uH uG
theorem Lw {objs : Nat → Ob} {nx fr : Nat} {t : Nat → AV} {x : AV} {u id : Nat} {cs : List AV} : AS.apply { objs := objs, next := nx, tmps := t } (some u) fr ⟨x, .set id cs⟩ = { objs := c9 fr (.set id cs) objs, next := nx, tmps := upd t u x } := (rfl)
theorem J5 {objs : Nat → Ob} {nx fr : Nat} {t : Nat → AV} {x : AV} {id : Nat} {cs : List AV} : AS.apply { objs := objs, next := nx, tmps := t } none fr ⟨x, .set id cs⟩ = { objs := c9 fr (.set id cs) objs, next := nx, tmps := t } := (rfl)
attribute [go_sem] Lw J5
end Go.AX
namespace Go.AX.Z
open Go.AX

theorem Snd.open {C : Ctx} {f : FuncId} {id off len sz : Nat} {xs : List AV} {s : HS} {R : AV → HS → Prop} (hl : 0 < len) (h : ∀ cap, len ≤ cap → Snd C f (.refc id off len sz cap :: xs) s R) : Snd C f (.ref id off len sz :: xs) s R := by
 refine ⟨trivial, fun ρ V w args' e1 e2 hI hG => ?_⟩
 obtain ⟨ys⟩ := args'
 match ys, e1, e2 with
 | y :: ys, e1, e2 =>
  have r := e2 0 _ y rfl rfl
  have key : ∃ cap, len ≤ cap ∧ Rel ρ V (.refc id off len sz cap) y := by
   cases r with
   | ref _ _ _ _ cap loc h1 h2 h3 => exact ⟨cap, h3, .refc id off len sz cap loc h1 h2 h3⟩
   | refE => omega
  obtain ⟨cap, hc, r'⟩ := key
  refine (h cap hc).2 ρ V w _ e1 (fun i x z hx hz => ?_) hI hG
  cases i with
  | zero => simp at hx hz; subst hx; subst hz; exact r'
  | succ i => exact e2 (i + 1) x z (by simpa using hx) hz

theorem cQ.of_walkC {C : Ctx} (hC : COk C) {f : FuncId} {fn : Func} {c : Code} {k : Nat} {args : (Nat → Nat) → List AV} {I : List Tpl} {E : List (Option Tpl)} {mk : (Nat → Nat) → AV} {id off len sz : Nat} {xs : List AV} (hargs : RenML args) (hIr : ∀ c ∈ I, RenML c) (hEr : ∀ c, some c ∈ E → RenML c) (hmk : aK mk) (hk : I.length = k) (hkE : k ≤ E.length)
  (hf : C.P.funcs[f]? = some fn) (hb : fn.body = some c) (hn : (fn.name == "runtime.NumGoroutine") = false) (hst : gL fn.ntmps c = true) (hal : (args fun i => i).length ≤ fn.ntmps)
  (he : (args fun i => i) = .ref id off len sz :: xs) (hl : 0 < len)
  (h : ∀ cap, len ≤ cap → awp k C c (xu k C fn fun r' s' => dn k r' s' mk E) { objs := yJ (fun _ => .dead) 0 I, next := k, tmps := arg (.refc id off len sz cap :: xs) }) : cQ C f k args I mk E := by
 intro hs L hL hLn hlive
 obtain ⟨h1, h2⟩ := th hlive
 refine Snd.of_io hargs hIr hEr hmk hk hkE ?_ hs (thl L) (fun i j hi hj => B9 hL i j (by omega) (by omega)) (fun i hi => Df hLn i (by omega)) h2
 rw [he] at hal ⊢
 refine Snd.open hl fun cap hcap => ?_
 have hw : awp k C c (xu k C fn fun r' s' => dn k r' s' mk E) (ju (.refc id off len sz cap :: xs) ⟨sk I, k⟩) := by
  rw [CZ]; exact h cap hcap
 exact lL hC hf hb hn hst hal hw

theorem Wk.cap {k : Nat} {C : Ctx} {objs : Nat → Ob} {nx : Nat} {tm : Nat → AV} (j : Nat) {id off len sz cap : Nat} (h : tm j = .refc id off len sz cap) : Wk k C { objs := objs, next := nx, tmps := tm } { objs := objs, next := nx, tmps := upd tm j (.ref id off len sz) } := by
 rintro N B a w hl ⟨ρ, V, h1, h2⟩
 refine ⟨ρ, V, fun t => ?_, h2⟩
 show Rel ρ V (upd tm j (.ref id off len sz) t) _
 by_cases ht : t = j
 ·
  subst ht
  have := h1 t
  simp only at this
  rw [h] at this
  rw [cE]
  generalize a.tmps.getD t undef = y at this ⊢
  cases this with
  | refc _ _ _ _ _ loc h1 h2 h3 => exact .ref id off len sz cap loc h1 h2 h3
 ·
  rw [bl _ _ ht]; exact h1 t

theorem vm {C : Ctx} {f : FuncId} {fn : Func} {tS tR e : Nat} (hf : C.P.funcs[f]? = some fn) (hn : (fn.name == "runtime.NumGoroutine") = false) (hb : fn.body.isNone = true) (h1 : Extern.findNext fn = none)
  (h2 : Extern.find fn = some (Extern.SlicesOverlaps.overlaps #[tS, tS] #[tR])) (ht : C.P.underlying tS = some (.slice e)) {n : Nat} (hz : cD C.P e = some n) (hn0 : 0 < n)
  {a o m b o' n' cap : Nat} {ca cb : List AV} {hs : HS} (ha : hs.objs a = .live ca) (hb' : hs.objs b = .live cb) (hab : a ≠ b) (hm : 0 < m) (hc : 0 < cap) :
  Snd C f [.ref a o m n, .refc b o' n' n cap] hs fun r hs' => r = vb false ∧ hs' = hs := by
 refine ⟨trivial, fun ρ V w args' e1 e2 hI hG => .inr ?_⟩
 obtain ⟨ys⟩ := args'
 match ys, e1, e2 with
 | [y1, y2], e1, e2 =>
  have r1 := e2 0 _ y1 rfl rfl
  have r2 := e2 1 _ y2 rfl rfl
  cases r1 with
  | refE => omega
  | ref _ _ _ _ c1 l1 p1 p2 p3 =>
  cases r2 with
  | refc _ _ _ _ _ l2 q1 q2 q3 =>
  obtain ⟨d1, T1, u1, u2, u3, u4⟩ := hI.live a ca l1 ha p1
  obtain ⟨d2, T2, v1, v2, v3, v4⟩ := hI.live b cb l2 hb' q1
  have hne : l1.b ≠ l2.b := fun hh => hab (hI.inj a b l1 l2 ca cb ha hb' p1 q1 hh)
  have hcn : 0 < cap * n := Nat.mul_pos hc hn0
  refine ⟨.bool false, w, ?_, _, vb false, hs, ρ, V, rfl, ⟨rfl, rfl⟩, .v _, hI, Grew.refl _ _ _ _⟩
  rw [run_callFunc_extern hf hn hb h1 h2]
  have := Lib.run_overlaps_apart (P := C.P) w tS tR e ht n (cu hz) ⟨l1.b, l1.base + o, none⟩ ⟨l2.b, l2.base + o', none⟩ m c1 n' cap hne T1 T2 d1.size d2.size
   (by simp [World.shape?, u1]) (by simp [World.shape?, v1]) (by omega) (by simp [World.frozen?, u1]) (by simp [World.frozen?, u1])
  simp only [this, Result.andThen_ok]
end Go.AX.Z
namespace Go.AX.Z
open Go.AX
theorem zS {cells cs : List AV} {off : Nat} (h : off + cs.length ≤ cells.length) : cH cells off cs = cells.take off ++ cs ++ cells.drop (off + cs.length) := by
 unfold cH
 split
 ·
  rename_i x
  simp only [List.length_cons, List.length_nil, Nat.zero_add] at h ⊢
  rw [List.set_eq_take_append_cons_drop, if_pos (by omega)]
  simp
 ·
  rw [if_pos h]
theorem DL {α : Type} (R : List α → List AV) (sz : Nat) (hL : ∀ l, (R l).length = l.length * sz) (hA : ∀ x y, R (x ++ y) = R x ++ R y)
  (a1 a2 : List α) (i : Nat) (hm : a2.length = 1) (hi : i < a1.length) (z : List AV) (hz : z.length = sz) :
  cH (cH (R (a1.take i) ++ rep (a1.length + 1 - i) z) (i * sz) (R a2)) ((i + 1) * sz) (R (a1.drop i)) = R (a1.take i ++ a2 ++ a1.drop i) := by
 have e1 : (R a2).length = sz := by rw [hL, hm, Nat.one_mul]
 have e2 : (R (a1.take i)).length = i * sz := by rw [hL, List.length_take]; congr 1; omega
 have e3 : (rep (a1.length + 1 - i) z).length = (a1.length + 1 - i) * sz := by rw [dK, hz]
 have e4 : (R (a1.drop i)).length = (a1.length - i) * sz := by rw [hL, List.length_drop]
 have e5 : (a1.length + 1 - i) * sz = sz + (a1.length - i) * sz := by
  rw [show a1.length + 1 - i = 1 + (a1.length - i) by omega, Nat.add_mul, Nat.one_mul]
 have e6 : (i + 1) * sz = i * sz + sz := by rw [Nat.add_mul, Nat.one_mul]
 rw [zS (cells := R (List.take i a1) ++ rep (a1.length + 1 - i) z) (cs := R a2) (by rw [List.length_append, e1, e2, e3]; omega), List.take_append_of_le_length (by omega), List.take_of_length_le (by omega)]
 rw [zS (by simp only [List.length_append, List.length_drop, e1, e2, e3, e4]; omega)]
 rw [List.take_append_of_le_length (by simp only [List.length_append, e1, e2]; omega), List.take_of_length_le (by simp only [List.length_append, e1, e2]; omega)]
 rw [show ∀ l : List AV, l.length ≤ (i + 1) * sz + (R (a1.drop i)).length → R (a1.take i) ++ R a2 ++ R (a1.drop i) ++ l.drop ((i + 1) * sz + (R (a1.drop i)).length) = R (a1.take i) ++ R a2 ++ R (a1.drop i) from fun l hl => by rw [List.drop_of_length_le hl, List.append_nil], hA, hA]
 simp only [List.length_append, List.length_drop, e1, e2, e3, e4]; omega
theorem DZ {α : Type} (R : List α → List AV) (sz : Nat) (hL : ∀ l, (R l).length = l.length * sz) (hA : ∀ x y, R (x ++ y) = R x ++ R y) (hT : ∀ x n, (R x).take (n * sz) = R (x.take n))
  (a1 a2 : List α) (i : Nat) (hi : i < a1.length) {c1 : List AV} (h1 : c1 = List.take ((i + 1) * sz) (R a1) ++ R (a1.drop i) ++ List.drop ((i + 1) * sz + (a1.length - i) * sz) (R a1)) :
  c1.length = (a1.length + 1) * sz ∧ List.take (i * sz) c1 ++ R a2 ++ List.drop (i * sz + sz) c1 = R (a1.take i ++ a2 ++ a1.drop i) := by
 have e2 : (R (a1.take (i + 1))).length = (i + 1) * sz := by rw [hL, List.length_take]; congr 1; omega
 have e4 : (R (a1.drop i)).length = (a1.length - i) * sz := by rw [hL, List.length_drop]
 have e6 : (i + 1) * sz = i * sz + sz := by rw [Nat.add_mul, Nat.one_mul]
 have e7 : (a1.length + 1) * sz = (i + 1) * sz + (a1.length - i) * sz := by rw [← Nat.add_mul]; congr 1; omega
 have e8 : (a1.length + 1) * sz = a1.length * sz + sz := by rw [Nat.add_mul, Nat.one_mul]
 rw [show List.drop ((i + 1) * sz + (a1.length - i) * sz) (R a1) = [] from List.drop_of_length_le (by rw [hL, ← e7, e8]; omega), List.append_nil, hT] at h1
 subst h1
 refine ⟨by rw [List.length_append, e2, e4, e7], ?_⟩
 rw [List.take_append_of_le_length (by omega), hT, List.take_take, show min i (i + 1) = i by omega, hA, hA]
 congr 1
 rw [← e6, List.drop_append, e2, Nat.sub_self, List.drop_zero, List.drop_of_length_le (by omega), List.nil_append]
end Go.AX.Z
namespace Go.AX.Z
open Go.AX
end Go.AX.Z

/-! (AyN) -/

namespace Go.AX.Z
open Go.AX
def vX (k : IntKind) (a b : Int) : Int := k.wrap ((BitVec.ofInt k.bits a &&& BitVec.ofInt k.bits b).toNat)
def bor (k : IntKind) (a b : Int) : Int := k.wrap ((BitVec.ofInt k.bits a ||| BitVec.ofInt k.bits b).toNat)
def KS (k : IntKind) (a b : Int) : Int := k.wrap ((BitVec.ofInt k.bits a ^^^ BitVec.ofInt k.bits b).toNat)
def GG (k : IntKind) (a b : Int) : Int := k.wrap ((BitVec.ofInt k.bits a &&& ~~~ BitVec.ofInt k.bits b).toNat)
theorem yR {k : IntKind} {a b : Int} : iop .and k a k b = some (.int k (vX k a b)) := by simp only [iop, if_true, vX]
theorem Ba {k : IntKind} {a b : Int} : iop .or k a k b = some (.int k (bor k a b)) := by simp only [iop, if_true, bor]
theorem yU {k : IntKind} {a b : Int} : iop .xor k a k b = some (.int k (KS k a b)) := by simp only [iop, if_true, KS]
theorem uM {k : IntKind} {a b : Int} : iop .andNot k a k b = some (.int k (GG k a b)) := by simp only [iop, if_true, GG]
end Go.AX.Z
namespace Go.AX.Z
open Go.AX
def GO (b : Bool) (x : AV) : AV := bif b then .v (.slice none 0 0) else x
section
variable {s : AS} {F : List Nat} {σ : List (Option Nat)} {x y : AV}
theorem Tm.on {b : Bool} (h : Tm s F σ x y) : Tm s F σ (GO b x) (GO b y) := by cases b <;> first | exact h | exact Tm.v _
end
end Go.AX.Z

/-! (AyO) -/

namespace Go.AX

end Go.AX

/-! (AyS) -/

namespace Go.AX.Z
open Go.AX

end Go.AX.Z

/-! (AyT) -/

namespace Go.AX.Z
open Go.AX

inductive Fr (q nx off : Nat) : AV → AV → Prop
 | same (x : AV) : Fr q nx off x x
 | ref (o len sz : Nat) (h : o = off) : Fr q nx off (.ref q o len sz) (.ref nx 0 len sz)
 | aggs (l m : List AV) (h : l.length = m.length) (H : ∀ (i : Nat) x y, l[i]? = some x → m[i]? = some y → Fr q nx off x y) : Fr q nx off (.agg l) (.agg m)
def FrL (q nx off : Nat) (l m : List AV) : Prop := l.length = m.length ∧ ∀ (i : Nat) x y, l[i]? = some x → m[i]? = some y → Fr q nx off x y
theorem FrL.nil {q nx off : Nat} : FrL q nx off [] [] := ⟨rfl, fun i x y hx _ => by simp at hx⟩
theorem FrL.cons {q nx off : Nat} (x y : AV) (l m : List AV) (h : Fr q nx off x y) (t : FrL q nx off l m) : FrL q nx off (x :: l) (y :: m) := by
 refine ⟨by simp [t.1], fun i a b ha hb => ?_⟩
 cases i with
 | zero => simp at ha hb; subst ha; subst hb; exact h
 | succ i => exact t.2 i a b (by simpa using ha) (by simpa using hb)
theorem Fr.agg {q nx off : Nat} (l m : List AV) (h : FrL q nx off l m) : Fr q nx off (.agg l) (.agg m) := .aggs l m h.1 h.2
theorem FrL.len {q nx off : Nat} {l m : List AV} (h : FrL q nx off l m) : l.length = m.length := h.1
theorem FrL.get {q nx off : Nat} {l m : List AV} (h : FrL q nx off l m) (i : Nat) (x y : AV) : l[i]? = some x → m[i]? = some y → Fr q nx off x y := h.2 i x y

def shift (ρ : Rho) (q nx off : Nat) : Rho := fun id => if id = nx then (ρ q).map fun loc => ⟨loc.b, loc.base + off, loc.N⟩ else ρ id

theorem jr {ρ : Rho} {q nx off : Nat} (h : ρ nx = none) : ∀ id loc, ρ id = some loc → shift ρ q nx off id = some loc := by
 intro id loc hr
 unfold shift
 rw [if_neg (by rintro rfl; rw [h] at hr; cases hr)]; exact hr

theorem Dq {ρ : Rho} {V : bG} {q nx off : Nat} (hn : ρ nx = none) : ∀ {y : Value} {x x' : AV}, Rel ρ V x y → Fr q nx off x x' → Rel (shift ρ q nx off) V x' y := by
 intro y x x' h
 induction h generalizing x' with
 | agg cs ys h H S ih =>
  intro hf
  cases hf with
  | same => exact (Rel.agg cs ys h H S).mono (jr hn) (fun _ _ h => h)
  | aggs _ m hl1 hl2 =>
   have hl : FrL q nx off cs m := ⟨hl1, hl2⟩
   refine .agg m ys (by rw [h, hl.len]) (fun i x y hx hy => ?_) S
   have hi : i < cs.length := by rw [hl.len]; exact (List.getElem?_eq_some_iff.1 hx).1
   have hx0 : cs[i]? = some cs[i] := List.getElem?_eq_getElem hi
   exact ih i cs[i] y hx0 hy (hl.get i _ _ hx0 hx)
 | ref id o len sz cap loc h hc hl =>
  intro hf
  cases hf with
  | same => exact (Rel.ref id o len sz cap loc h hc hl).mono (jr hn) (fun _ _ h => h)
  | ref _ _ _ ho =>
   subst ho
   have hs : shift ρ q nx o nx = some ⟨loc.b, loc.base + o, loc.N⟩ := by unfold shift; rw [if_pos rfl, h]; rfl
   have := Rel.ref (ρ := shift ρ q nx o) (V := V) nx 0 len sz cap ⟨loc.b, loc.base + o, loc.N⟩ hs (by simpa using hc) hl
   simpa using this
 | refE id o sz a =>
  intro hf
  cases hf with
  | same => exact .refE _ _ _ _
  | ref => exact .refE _ _ _ _
 | v x => intro hf; cases hf; exact .v _
 | unk y => intro hf; cases hf; exact .unk _
 | tup cs ys h H ih => intro hf; cases hf; exact (Rel.tup cs ys h H).mono (jr hn) (fun _ _ h => h)
 | imm cells len b o cap c hV hb H S hlc ih => intro hf; cases hf; exact (Rel.imm cells len b o cap c hV hb H S hlc).mono (jr hn) (fun _ _ h => h)
 | imm0 a cap => intro hf; cases hf; exact .imm0 a cap
 | iptr cells o b o' c hV hb H S ih => intro hf; cases hf; exact (Rel.iptr cells o b o' c hV hb H S).mono (jr hn) (fun _ _ h => h)
 | ptr id o loc h => intro hf; cases hf; exact (Rel.ptr id o loc h).mono (jr hn) (fun _ _ h => h)
 | refc id o len sz cap loc h hc hl => intro hf; cases hf; exact (Rel.refc id o len sz cap loc h hc hl).mono (jr hn) (fun _ _ h => h)
 | clo f first caps xs ys h1 h2 H1 H2 ih1 ih2 => intro hf; cases hf; exact (Rel.clo f first caps xs ys h1 h2 H1 H2).mono (jr hn) (fun _ _ h => h)

def CU (t : Nat → AV) : List (Nat × AV) → Nat → AV
 | [] => t
 | (j, x) :: l => CU (upd t j x) l
theorem I7 (t : Nat → AV) : CU t [] = t := rfl
theorem IB (t : Nat → AV) (j : Nat) (x : AV) (l : List (Nat × AV)) : CU t ((j, x) :: l) = CU (upd t j x) l := rfl
def xp (o : Nat → Ob) : List (Nat × List AV) → Nat → Ob
 | [] => o
 | (j, c) :: l => xp (upd o j (.live c)) l
theorem H4 (o : Nat → Ob) : xp o [] = o := rfl
theorem Id (o : Nat → Ob) (j : Nat) (c : List AV) (l : List (Nat × List AV)) : xp o ((j, c) :: l) = xp (upd o j (.live c)) l := rfl

def FrT (q nx off : Nat) (t : Nat → AV) : List (Nat × AV) → Prop
 | [] => True
 | (j, x) :: l => Fr q nx off (t j) x ∧ FrT q nx off t l
def FrO (q nx off : Nat) (o : Nat → Ob) : List (Nat × List AV) → Prop
 | [] => True
 | (j, c) :: l => (j ≠ q ∧ j < nx ∧ ∃ c0, o j = .live c0 ∧ FrL q nx off c0 c) ∧ FrO q nx off o l

theorem Ca {q nx off : Nat} {t : Nat → AV} : ∀ (l : List (Nat × AV)) (t' : Nat → AV), FrT q nx off t l → (∀ j, Fr q nx off (t j) (t' j)) → ∀ j, Fr q nx off (t j) (CU t' l j)
 | [], t', _, h, j => h j
 | (i, x) :: l, t', hl, h, j => by
  refine Ca l (upd t' i x) hl.2 (fun j => ?_) j
  by_cases hj : j = i
  ·
   subst hj; rw [cE]; exact hl.1
  ·
   rw [bl _ _ hj]; exact h j
theorem Cd {q nx off : Nat} {o o1 : Nat → Ob} : ∀ (l : List (Nat × List AV)) (o' : Nat → Ob), FrO q nx off o l → (∀ j, j ≠ q → j ≠ nx → o' j = o j ∨ ∃ c0 c, o j = .live c0 ∧ o' j = .live c ∧ FrL q nx off c0 c) → o' q = o1 q → o' nx = o1 nx →
  (∀ j, j ≠ q → j ≠ nx → xp o' l j = o j ∨ ∃ c0 c, o j = .live c0 ∧ xp o' l j = .live c ∧ FrL q nx off c0 c) ∧ xp o' l q = o1 q ∧ xp o' l nx = o1 nx
 | [], o', _, h, h1, h2 => ⟨h, h1, h2⟩
 | (i, c) :: l, o', hl, h, h1, h2 => by
  obtain ⟨⟨g1, g2, c0, g3, g4⟩, g5⟩ := hl
  refine Cd l (upd o' i (.live c)) g5 (fun j hj hj' => ?_) (by rw [bl _ _ (Ne.symm g1)]; exact h1) (by rw [bl _ _ (by omega)]; exact h2)
  by_cases hji : j = i
  ·
   subst hji; exact .inr ⟨c0, c, g3, cE _ _ _, g4⟩
  ·
   rw [bl _ _ hji]; exact h j hj hj'

theorem Wk.front {k : Nat} {C : Ctx} {objs : Nat → Ob} {nx : Nat} {tm : Nat → AV} (q off : Nat) {xs ys zs : List AV} (T : List (Nat × AV)) (O : List (Nat × List AV)) (hlt : q < nx) (h : objs q = .live xs) (e : xs = ys ++ zs) (hl : ys.length = off)
  (hT : FrT q nx off tm T) (hO : FrO q nx off objs O) :
  Wk k C { objs := objs, next := nx, tmps := tm } { objs := xp (upd (upd objs q .dead) nx (.live zs)) O, next := nx + 1, tmps := CU tm T } := by
 intro N B a w hLo hg
 obtain ⟨ρ, V, h1, h2, h3, h4, h5, h6, h7⟩ := hg
 have hn : ρ nx = none := h2.fresh nx (Nat.le_refl _)
 have hkn : k ≤ nx := by have := h4.next; have := hLo.1; simp only at *; omega
 obtain ⟨ob1, ob2, ob3⟩ := Cd (o := objs) (o1 := upd (upd objs q .dead) nx (.live zs)) O (upd (upd objs q .dead) nx (.live zs)) hO
  (fun j hj hj' => .inl (by rw [bl _ _ hj', bl _ _ hj])) rfl rfl
 rw [cE] at ob3
 rw [bl _ _ (Nat.ne_of_lt hlt), cE] at ob2
 generalize xp (upd (upd objs q .dead) nx (.live zs)) O = objs' at ob1 ob2 ob3
 have hge := jr (q := q) (off := off) hn
 have relC : ∀ {cs cs' : List AV} {c : Array Value} {o : Nat}, RelC ρ V cs c o → FrL q nx off cs cs' → RelC (shift ρ q nx off) V cs' c o := by
  intro cs cs' c o hc hf
  refine ⟨by rw [← hf.len]; exact hc.le, fun i x y hx hy => ?_, fun i y hi hy => hc.sto i y (by rw [hf.len]; exact hi) hy⟩
  have hi : i < cs.length := by rw [hf.len]; exact (List.getElem?_eq_some_iff.1 hx).1
  have hx0 : cs[i]? = some cs[i] := List.getElem?_eq_getElem hi
  exact Dq hn (hc.rel i _ y hx0 hy) (hf.get i _ _ hx0 hx)
 -- where a live object of the new state was
 have back : ∀ j cs loc, objs' j = .live cs → shift ρ q nx off j = some loc → ∃ j0 cs0 loc0, objs j0 = .live cs0 ∧ ρ j0 = some loc0 ∧ loc0.b = loc.b ∧ (j0 = j ∧ j ≠ q ∧ j ≠ nx ∨ j0 = q ∧ j = nx) ∧
   ∃ c T, w.heap[loc.b]? = some (.cells c T (0, 0)) ∧ c.size = loc.N ∧ RelC (shift ρ q nx off) V cs c loc.base ∧ V loc.b = none := by
  intro j cs loc hj hr
  by_cases hjn : j = nx
  ·
   subst hjn
   rw [ob3] at hj; cases hj
   unfold shift at hr
   rw [if_pos rfl, Option.map_eq_some_iff] at hr
   obtain ⟨loc0, hr0, rfl⟩ := hr
   obtain ⟨c, T, e1, e2, e3, e4⟩ := h2.live q xs loc0 h hr0
   refine ⟨q, xs, loc0, h, hr0, rfl, .inr ⟨rfl, rfl⟩, c, T, e1, e2, ?_, e4⟩
   subst e
   have := e3.sub off zs.length (by simp; omega)
   rw [← hl, List.drop_left, List.take_length, hl] at this
   exact this.mono hge (fun _ _ h => h)
  ·
   have hjq : j ≠ q := by rintro rfl; rw [ob2] at hj; cases hj
   have hr' : ρ j = some loc := by unfold shift at hr; rw [if_neg hjn] at hr; exact hr
   rcases ob1 j hjq hjn with h' | ⟨c0, c, g1, g2, g3⟩
   ·
    rw [h'] at hj
    obtain ⟨c, T, e1, e2, e3, e4⟩ := h2.live j cs loc hj hr'
    exact ⟨j, cs, loc, hj, hr', rfl, .inl ⟨rfl, hjq, hjn⟩, c, T, e1, e2, e3.mono hge (fun _ _ h => h), e4⟩
   ·
    rw [g2] at hj; cases hj
    obtain ⟨c, T, e1, e2, e3, e4⟩ := h2.live j c0 loc g1 hr'
    exact ⟨j, c0, loc, g1, hr', rfl, .inl ⟨rfl, hjq, hjn⟩, c, T, e1, e2, relC e3 g3, e4⟩
 refine ⟨shift ρ q nx off, V, fun j => Dq hn (h1 j) (Ca T tm hT (fun j => .same _) j), ⟨h2.view, fun id hid => ?_, fun j cs loc hj hr => ?_, fun j cs loc hj hr => ?_, fun i j li lj ci cj hi hj hri hrj hb => ?_⟩, h3,
  ⟨fun id loc hr => hge id loc (h4.rho id loc hr), fun id hid => ?_, Nat.le_succ_of_le h4.next, h4.view, h4.size, h4.keep, fun b hb => ?_, h4.vnew, h4.mem⟩, h5, h6, fun _ h => h.elim⟩
 ·
  unfold shift
  rw [if_neg (by simp only at hid; omega)]
  exact h2.fresh id (by simp only at hid ⊢; omega)
 ·
  obtain ⟨_, _, _, _, _, _, _, h'⟩ := back j cs loc hj hr
  exact h'
 ·
  -- frozen
  have hj : objs' j = .froz cs := hj
  have hjn : j ≠ nx := by intro hh; rw [hh, ob3] at hj; cases hj
  have hjq : j ≠ q := by intro hh; rw [hh, ob2] at hj; cases hj
  have hr' : ρ j = some loc := by unfold shift at hr; rw [if_neg hjn] at hr; exact hr
  rcases ob1 j hjq hjn with h' | ⟨c0, c, g1, g2, g3⟩
  ·
   rw [h'] at hj
   obtain ⟨c, e1, e2, e3⟩ := h2.froz j cs loc hj hr'
   exact ⟨c, e1, e2.mono hge (fun _ _ h => h), e3⟩
  ·
   rw [g2] at hj; cases hj
 ·
  obtain ⟨i0, ci0, li0, a1, a2, a3, a4, _⟩ := back i ci li hi hri
  obtain ⟨j0, cj0, lj0, b1, b2, b3, b4, _⟩ := back j cj lj hj hrj
  have := h2.inj i0 j0 li0 lj0 ci0 cj0 a1 b1 a2 b2 (by rw [a3, b3]; exact hb)
  rcases a4 with ⟨rfl, x1, x2⟩ | ⟨rfl, rfl⟩ <;> rcases b4 with ⟨rfl, y1, y2⟩ | ⟨rfl, rfl⟩
  ·
   exact this
  ·
   exact absurd this x1
  ·
   exact absurd this.symm y1
  ·
   rfl
 ·
  unfold shift
  rw [if_neg (by have := h4.next; simp only at this; omega)]
  exact h4.old id hid
 ·
  obtain ⟨j, cs, loc, hj, hr, rfl⟩ := hb
  obtain ⟨j0, cs0, loc0, a1, a2, a3, _⟩ := back j cs loc hj hr
  exact h4.own loc.b ⟨j0, cs0, loc0, a1, a2, a3⟩

section
variable {C : Ctx} {fr : Nat} {f : FuncId} {objs : Nat → Ob} {nx : Nat} {tm : Nat → AV} {kk : Eff → gC → Prop} {all : List Oper} {i : Nat} {dst : Option Nat} {acc : List eQ} {K : AS → List eQ → Prop}

theorem zL {k : Nat} {args : List AV} {argsT : (Nat → Nat) → List AV} {I : List Tpl} {E : List (Option Tpl)} {mk : (Nat → Nat) → AV} {objs0 : Nat → Ob} (L : List Nat) (h : cQ C f k argsT I mk E)
  (hL : L.Nodup) (hLn : ∀ x ∈ L, x < nx) (hlive : Az objs (ex k (thl L) nx) L I) (he : args = argsT (ex k (thl L) nx)) (hb : eh all i = true) (hp : bZ all acc = true)
  (hk : K { toHS := ⟨qe objs (ex k (thl L) nx) 0 E, nx + (E.length - k)⟩, tmps := i7 tm dst (mk (ex k (thl L) nx)) } []) :
  jc C fr (some (f, args)) objs0 kk (Fd C all i dst { objs := objs, next := nx, tmps := tm } acc K) := by
 subst he
 exact DU hb hp (h ⟨objs, nx⟩ L hL hLn hlive) fun r hs hr => by obtain ⟨rfl, rfl⟩ := hr; exact hk

end

def sEq (a b : List Int) : Bool := (uc a).toList == (uc b).toList
theorem KC (a b : List Int) : ((uc a).toList == (uc b).toList) = sEq a b := rfl
theorem wy : ∀ l : List Int, mU (List.map vu l) = some l
 | [] => rfl
 | x :: l => by rw [List.map_cons, mU, wy l]; rfl
attribute [go_sem] I7 IB H4 Id wy KC BH
end Go.AX.Z

/-! (AyU) -/

namespace Go.AX.Z
open Go.AX

abbrev vs (l : List Int) : AV := .v (.string (uc l))

theorem F0 (l : List Int) (r : ByteArray) : (l.foldl (fun r n => r.push (UInt8.ofNat n.toNat)) r).data.toList = r.data.toList ++ l.map fun n => UInt8.ofNat n.toNat := by
 induction l generalizing r with
 | nil => simp
 | cons a l ih => rw [List.foldl_cons, ih]; simp [ByteArray.push]

theorem CN (l : List Int) : (uc l).data.toList = l.map fun n => UInt8.ofNat n.toNat := by
 unfold uc; rw [F0]; rfl

theorem Cz (l : List Int) : (uc l).size = l.length := by
 show (uc l).data.size = l.length
 rw [← Array.length_toList, CN, List.length_map]

attribute [go_sem] Cz
end Go.AX.Z

/-! (AyV) -/

namespace Go.AX.Z
open Go.AX

def JQ (objs : Nat → Ob) (L : List Nat) : Nat → Ob := L.foldl (fun o id => upd o id .dead) objs
theorem Ju (objs : Nat → Ob) : JQ objs [] = objs := rfl
theorem Jv (objs : Nat → Ob) (i : Nat) (l : List Nat) : JQ objs (i :: l) = JQ (upd objs i .dead) l := rfl
def DX (objs o : Nat → Ob) (L : List Nat) : Nat → Ob := L.foldl (fun o id => upd o id (objs id)) o
theorem FD (objs o : Nat → Ob) : DX objs o [] = o := rfl
theorem F7s (objs o : Nat → Ob) (i : Nat) (l : List Nat) : DX objs o (i :: l) = DX objs (upd o i (objs i)) l := rfl

attribute [go_sem] Ju Jv FD F7s
end Go.AX.Z
namespace Go.AX.Z
open Go.AX
end Go.AX.Z
namespace Go.AX.Z
open Go.AX
theorem EO {P : Program} {a b : TypeId} (l : List AV) (n : Nat) : sbE P a b (.imm l n) = none := rfl
theorem Gn {P : Program} {a b : TypeId} (i o n z : Nat) : sbE P a b (.ref i o n z) = none := rfl
attribute [go_sem] EO Gn
end Go.AX.Z
namespace Go.AX.Z
open Go.AX
end Go.AX.Z

/-! (AyW) -/

namespace Go.AX.Z
open Go.AX

end Go.AX.Z

/-! (AyX) -/

namespace Go.AX.Z
open Go.AX

theorem As {P : Program} {B k : Nat} {e : TypeId} (hu : P.underlying e = some .bool) : ∀ (ls : List (List AV)), (∀ c ∈ ls, Ty P B k e c) → ∃ l : List Bool, ls.flatten = l.map vb ∧ l.length = ls.length
 | [], _ => ⟨[], rfl, rfl⟩
 | c :: ls, h => by
  obtain ⟨i, rfl⟩ := Gq hu (h c (by simp))
  obtain ⟨l, h1, h2⟩ := As hu ls fun d hd => h d (by simp [hd])
  exact ⟨i :: l, by simp [h1], by simp [h2]⟩

theorem wh {P : Program} {B n : Nat} {t e : TypeId} {x : AV} (hs : P.underlying t = some (.slice e)) (hu : P.underlying e = some .bool) (h : Ty P B n t [x]) : ∃ l : List Bool, x = .imm (l.map vb) l.length ∧ l.length ≤ B := by
 obtain ⟨m, ls, h1, h2, h3⟩ := Dm hs h
 obtain ⟨vs, g1, g2⟩ := As hu ls h3
 simp only [List.cons.injEq, and_true] at h1
 exact ⟨vs, by rw [h1, g1, g2], by rw [g2]; exact h2⟩

end Go.AX.Z
attribute [go_sem] Nat.reduceEqDiff reduceIte Nat.reduceMul Nat.reduceSub Nat.reduceLT Nat.reduceLeDiff Int.reduceToNat Int.reduceBEq Int.reduceBNe Int.reduceLT Int.reduceLE Int.reduceAdd Int.reduceSub Int.reduceMul

/-! (AzC) -/

namespace Go.AX.Z
open Go.AX
universe u

theorem qB {c d : Bool} (e : c = d) {p : Prop} (h : c = d → p := by
 intro e; first | rfl | (rw [e]; rfl) | (simp only [e, Bool.true_and, Bool.false_and, Bool.true_or, Bool.false_or, cond_true, cond_false] <;> rfl)) : p := h e
theorem qS {p : Prop} (h : p := by (try simp only [go_sem]); rfl) : p := h
theorem qF {p : Prop} (h : p := by
 (try simp only [go_sem, Nat.reduceAdd, fz, lw, vB, List.take_nil, List.take_length, List.length_map, List.length_append, cond_true, cond_false, Nat.ble_eq, eV])
 all_goals first | rfl | (simp only [go_sem, Nat.reduceAdd, fz, lw, vB, List.take_nil, List.take_length, List.length_map, List.length_append, cond_true, cond_false, Nat.ble_eq, eV, List.map_append] <;> rfl)) : p := h
theorem qR {p : Prop} (h : p := by simp only [go_sem, tw, ll, sd, vB, Nat.reduceAdd]; rfl) : p := h
theorem qL {p : Prop} (h : p := by
 first | rfl | (simp only [List.flatMap_append, List.flatMap_cons, List.flatMap_nil, List.map_append, List.map_cons, List.map_nil, List.append_nil, List.nil_append] <;> rfl)) : p := h
theorem qN {p : Prop} (h : p := by
 first | rfl | (simp only [List.length_append, List.length_take, List.length_drop, List.length_cons, List.length_nil, List.length_modify, List.length_set, Nat.zero_add] <;> omega) | omega) : p := h
theorem qG {p : Prop} (h : p := by
 first | rfl | (simp only [go_sem, Nat.reduceAdd] <;> rfl)) : p := h
theorem qV {p : Prop} (h : p := by
 simp only [go_sem, Du, BE, eI, fz, lw, cond_true, cond_false, List.drop_zero, List.take_length, List.length_map, eV, Nat.reduceAdd] <;> rfl) : p := h
theorem qM {α : Type} {a : α} : a ∉ ([] : List α) := List.not_mem_nil
theorem qB2 {n m : Nat} (h : Nat.ble n m = true) : n ≤ m := Nat.le_of_ble_eq_true h
theorem qP {p : Prop} (h : p := by
 first | decide +kernel | (simp [bZ, gu, eu, ko]; try (first | done | decide +kernel | (repeat (first | exact Or.inr (by decide +kernel) | (refine And.intro (Or.inr (by decide +kernel)) ?_)))))) : p := h

section
variable {k : Nat} {C : Ctx} {y : Code} {Q : AExit → AS → Prop} {objs : Nat → Ob} {nx : Nat} {tm : Nat → AV} {ops : Array Oper} {draw : Bool}
theorem ac {id : Nat} (L : List Nat) {g : (Nat → AV) → Nat → AV} (h : ∀ (tz : Nat → AV) (K : AS → Prop), (∀ t u, Wk k C t u → awp k C y Q u → K t) → xw draw C (ops.toList.map (·.dst)) nx 0 ops.toList { objs := objs, next := nx + ops.size, tmps := g tz } K) (hg : ∀ tz, keep tz tm L = g tz := by exact fun _ => rfl) : awp k C (.seq (.region id ops draw) y) Q { objs := objs, next := nx, tmps := tm } :=
 ef L hg fun tz => C5 (h tz)
theorem bI {id : Nat} (L : List Nat) {g : (Nat → AV) → Nat → AV} (h : ∀ (tz : Nat → AV) (K : AS → Prop), (∀ t, Q .normal t → K t) → xw draw C (ops.toList.map (·.dst)) nx 0 ops.toList { objs := objs, next := nx + ops.size, tmps := g tz } K) (hg : ∀ tz, keep tz tm L = g tz := by exact fun _ => rfl) : awp k C (.region id ops draw) Q { objs := objs, next := nx, tmps := tm } :=
 kQ L hg fun tz => vP (h tz)
end

section
variable {s : AS} {F : List Nat} {σ : List (Option Nat)}
theorem tv {x : Value} : Tm s F σ (.v x) (.v x) := Tm.v x
theorem tp {i old off : Nat} (h : σ[i]? = some (some old) := by rfl) : Tm s F σ (.ptr old off) (.ptr i off) := Tm.ptr h
theorem tr {i old off len len' sz : Nat} (h : σ[i]? = some (some old) := by rfl) (hl : len' = len := by exact qN) : Tm s F σ (.ref old off len sz) (.ref i off len' sz) := Tm.refL h hl
theorem tI {cs : List AV} {n : Nat} (h : ∀ c ∈ cs, aB c) : Tm s F σ (.imm cs n) (.imm cs n) := Tm.clean (aB.imm h)
theorem tc {x y : AV} {xs ys : List AV} (h : Tm s F σ x y) (t : TmL s F σ xs ys) : TmL s F σ (x :: xs) (y :: ys) := TmL.cons h t
theorem tn : TmL s F σ [] [] := TmL.nil
theorem tA {f : Nat → AV} (n : Nat) {x : AV} (h : ∀ j, Tm s F σ (s.tmps j) (f j)) (hx : Tm s F σ (s.tmps n) x) : ∀ j, Tm s F σ (s.tmps j) (upd f n x j) := HI n h hx
theorem tT {i off sz : Nat} : Tm s F σ (.v (.slice none 0 0)) (.ref i off 0 sz) := Tm.thaw i off sz
end
theorem cv {x : Value} : aB (.v x) := aB.v x
theorem rv {x : Value} : aK fun _ => (.v x : AV) := aK.const (aB.v x)
theorem rI {cs : List AV} {n : Nat} (h : ∀ c ∈ cs, aB c) : aK fun _ => (.imm cs n : AV) := aK.const (aB.imm h)
theorem rM {C : Ctx} {f : FuncId} {args : List AV} {mk : (Nat → Nat) → AV} {l : List (List AV)} (h : gv C f args mk l) (hmk : aK mk) (hcl : ∀ cs ∈ l, ∀ c ∈ cs, aB c) (ha : ∀ x ∈ args, aB x) : lK C f args mk l := fun hs => Snd.of_newM hmk hcl ha h hs
theorem bE (b : Bool) : b = true ∨ b = false := Bool.eq_false_or_eq_true b
theorem lc {α : Type u} {a : α} {l : List α} : (a :: l).length = l.length + 1 := List.length_cons
theorem ln {α : Type u} : ([] : List α).length = 0 := List.length_nil

theorem qU {k : Nat} {C : Ctx} {P K : AS → Prop} {t : AS} (u : ∀ t u, Wk k C t u → P u → K t) (h : P t) : K t := u _ _ (Wk.refl _ _ _) h

end Go.AX.Z

/-! (AyZ) -/

namespace Go.AX.Z
open Go.AX

theorem kl.of_io {C : Ctx} {f : FuncId} {args : (Nat → Nat) → List AV} {mk : (Nat → Nat) → AV} {cs CS : List AV} (hargs : RenML args) (hmk : aK mk) (hcl : ∀ c ∈ CS, aB c) (hcs : ∀ c ∈ cs, aB c)
  (h0 : ∀ a b : Nat → Nat, a 1 = b 1 → mk a = mk b) (h1 : ∀ a b : Nat → Nat, a 0 = b 0 → args a = args b) (h : cQ C f 1 args [fun _ => cs] mk [none, some fun _ => CS])
  (hs : HS) (fr old : Nat) (ho : hs.objs old = .live cs) (hne : old ≠ fr) : kl C f (args fun _ => old) hs fr ⟨mk fun _ => fr, .app (some old) CS⟩ := by
 intro ρ V w args' g1 g2 hI hG hfr hfn
 let ρ0 : Rho := fun i => if i = 0 then ρ old else none
 have e00 : ρ0 0 = ρ old := if_pos rfl
 obtain ⟨ob0, hob0⟩ : ∃ ob0 : Nat → Ob, ob0 = fun i => if i = 0 then .live cs else .dead := ⟨_, rfl⟩
 have hob00 : ob0 0 = .live cs := by rw [hob0]; rfl
 have hI0 : Inv ρ0 V ⟨ob0, 1⟩ w := by
  refine ⟨hI.view, fun id hid => if_neg (by simp only at hid; omega), fun id cells loc hl hr => ?_, fun id cells loc hl hr => ?_, fun i j li lj ci cj hi hj hri hrj hb => ?_⟩
  ·
   by_cases hi : id = 0
   ·
    subst hi
    simp only at hl
    rw [hob00] at hl; cases hl
    obtain ⟨c, T, a1, a2, a3, a4⟩ := hI.live old cs loc ho (e00 ▸ hr)
    exact ⟨c, T, a1, a2, a3.clean hcs, a4⟩
   ·
    simp only [ρ0, if_neg hi] at hr; cases hr
  ·
   by_cases hi : id = 0
   ·
    subst hi; simp only at hl; rw [hob00] at hl; cases hl
   ·
    simp only [ρ0, if_neg hi] at hr; cases hr
  ·
   have h1' : i = 0 := by
    by_cases hi0 : i = 0
    ·
     exact hi0
    ·
     simp only [ρ0, if_neg hi0] at hri; cases hri
   have h2' : j = 0 := by
    by_cases hi0 : j = 0
    ·
     exact hi0
    ·
     simp only [ρ0, if_neg hi0] at hrj; cases hrj
   rw [h1', h2']
 have hsn := h ⟨ob0, 1⟩ [0] (by simp) (by intro x hx; simp at hx; subst hx; exact Nat.zero_lt_one) ⟨hob00, trivial⟩
 have eA : args (ex 1 (thl [0]) 1) = args fun _ => 0 := h1 _ _ rfl
 rw [eA] at hsn
 have eM : mk (ex 1 (thl [0]) 1) = mk fun _ => 1 := h0 _ _ rfl
 have hlen : args'.size = (args fun _ => 0).length := by rw [g1]; exact hargs.get.1 _ _
 have hag : ∀ (i : Nat) x y, (args fun _ => 0)[i]? = some x → args'[i]? = some y → Rel ρ0 V x y := hargs.list (a := fun _ => old) (fun i => e00) g2
 refine (hsn.2 ρ0 V w args' hlen hag hI0 hG).mono ?_
 rintro ed w' ⟨y, r', s', ρ', V', rfl, ⟨rfl, rfl⟩, hrel, hinv, hg⟩
 rw [eM] at hrel
 have hob1 : qe ob0 (ex 1 (thl [0]) 1) 0 [none, some fun _ => CS] 1 = .live CS := by simp [yA, Ej, z7, ex, thl, upd]
 have own0 : ∀ b, Own ρ0 ⟨ob0, 1⟩ b → ∃ lo, ρ old = some lo ∧ lo.b = b := by
  rintro b ⟨id, c, loc, hl, hr, rfl⟩
  by_cases hi : id = 0
  ·
   subst hi; exact ⟨loc, e00 ▸ hr, rfl⟩
  ·
   simp only [ρ0, if_neg hi] at hr; cases hr
 have ownO : ∀ b, Own ρ0 ⟨ob0, 1⟩ b → Own ρ hs b := fun b hb => by
  obtain ⟨lo, e1, e2⟩ := own0 b hb
  exact ⟨old, cs, lo, ho, e1, e2⟩
 let ρ2 : Rho := fun id => if id = fr then ρ' 1 else ρ id
 have hoth : ∀ id, id ≠ fr → ρ2 id = ρ id := fun id hid => by simp only [ρ2, if_neg hid]
 have hf2 : ρ2 fr = ρ' 1 := by simp [ρ2]
 have hrho : ∀ id loc, ρ id = some loc → ρ2 id = some loc := by
  intro id loc hl
  rw [hoth id (by rintro rfl; rw [hfr] at hl; cases hl)]; exact hl
 have small : ∀ {i : Nat} {c : List AV} {lc : Loc}, hs.objs i = .live c → ρ i = some lc → lc.b < w.heap.size := fun {i c lc} ho' hl' => by
  obtain ⟨c0, T, a1, _⟩ := hI.live i c lc ho' hl'
  exact gz a1
 have notOld : ∀ {i : Nat} {c : List AV} {lc : Loc}, i ≠ old → hs.objs i = .live c → ρ i = some lc → ¬ Own ρ0 ⟨ob0, 1⟩ lc.b := fun {i c lc} hi ho' hl' hb => by
  obtain ⟨lo, e1, e2⟩ := own0 _ hb
  exact hi (hI.inj i old lc lo c cs ho' ho hl' e1 e2.symm)
 have newB : ∀ loc, ρ' 1 = some loc → Own ρ0 ⟨ob0, 1⟩ loc.b ∨ w.heap.size ≤ loc.b := fun loc hl => hg.own _ ⟨1, CS, loc, hob1, hl, rfl⟩
 refine ⟨y, ρ2, V', rfl, ?_⟩
 have hobs : ∀ id c, c9 fr (.app (some old) CS) hs.objs id = .live c → (id = fr ∧ c = CS) ∨ (id ≠ fr ∧ id ≠ old ∧ hs.objs id = .live c) := by
  intro id c hl
  simp only [c9] at hl
  by_cases he : id = fr
  ·
   subst he; rw [cE] at hl; cases hl; exact .inl ⟨rfl, rfl⟩
  ·
   rw [bl _ _ he] at hl
   by_cases ho2 : id = old
   ·
    subst ho2; simp [kH, upd] at hl
   ·
    refine .inr ⟨he, ho2, ?_⟩
    simpa [kH, upd, ho2] using hl
 refine ⟨?_, ?_, hrho, hoth, hg.view, hg.size, fun b hb hn => hg.keep b hb fun h => hn (ownO b h), ?_, ?_, hg.mem⟩
 ·
  exact hmk (fun _ => 1) (fun _ => fr) ρ' ρ2 V' y (fun _ => hf2) hrel
 ·
  refine ⟨hinv.view, fun id hid => ?_, fun id c loc hl hρ => ?_, fun id c loc hl hρ => ?_, fun i j li lj ci cj hi hj hρi hρj hb => ?_⟩
  ·
   simp only at hid
   rw [hoth id (by omega)]; exact hI.fresh id hid
  ·
   rcases hobs id c hl with ⟨rfl, rfl⟩ | ⟨he, ho2, hl⟩
   ·
    rw [hf2] at hρ
    obtain ⟨d, T, e1, e2, e3, e4⟩ := hinv.live 1 _ loc hob1 hρ
    exact ⟨d, T, e1, e2, e3.clean hcl, e4⟩
   ·
    rw [hoth id he] at hρ
    obtain ⟨d, T, e1, e2, e3, e4⟩ := hI.live id c loc hl hρ
    refine ⟨d, T, by rw [hg.keep _ (gz e1) (notOld ho2 hl hρ)]; exact e1, e2, e3.mono hrho hg.view, ?_⟩
    cases hv : V' loc.b with
    | none => rfl
    | some c' =>
     rcases hg.vnew _ _ hv with h7 | h7 | h7
     ·
      rw [e4] at h7; cases h7
     ·
      exact (notOld ho2 hl hρ h7).elim
     ·
      have := gz e1; omega
  ·
   simp only [c9] at hl
   by_cases he : id = fr
   ·
    subst he; rw [cE] at hl; cases hl
   ·
    rw [bl _ _ he] at hl
    rw [hoth id he] at hρ
    have hl' : hs.objs id = .froz c := by
     by_cases ho2 : id = old
     ·
      subst ho2; simp [kH, upd] at hl
     ·
      simpa [kH, upd, ho2] using hl
    obtain ⟨d, e1, e2, e3⟩ := hI.froz id c loc hl' hρ
    exact ⟨d, hg.view _ _ e1, e2.mono hrho hg.view, e3⟩
  ·
   rcases hobs i ci hi with ⟨rfl, rfl⟩ | ⟨h5, h5', hi2⟩ <;> rcases hobs j cj hj with ⟨h6, h6'⟩ | ⟨h6, h6', hj⟩
   ·
    rw [h6]
   ·
    rw [hf2] at hρi
    rw [hoth j h6] at hρj
    rcases newB li hρi with a1 | a1
    ·
     rw [hb] at a1; exact (notOld h6' hj hρj a1).elim
    ·
     have := small hj hρj; omega
   ·
    subst h6
    rw [hf2] at hρj
    rw [hoth i h5] at hρi
    rcases newB lj hρj with a1 | a1
    ·
     rw [← hb] at a1; exact (notOld h5' hi2 hρi a1).elim
    ·
     have := small hi2 hρi; omega
   ·
    rw [hoth i h5] at hρi
    rw [hoth j h6] at hρj
    exact hI.inj i j li lj ci cj hi2 hj hρi hρj hb
 ·
  rintro b' ⟨id, c, loc, hl, hρ, rfl⟩
  rcases hobs id c hl with ⟨rfl, rfl⟩ | ⟨he, ho2, hl⟩
  ·
   rw [hf2] at hρ
   rcases newB loc hρ with a1 | a1
   ·
    exact .inl (ownO _ a1)
   ·
    exact .inr a1
  ·
   rw [hoth id he] at hρ
   exact .inl ⟨id, c, loc, hl, hρ, rfl⟩
 ·
  intro b' c hv
  rcases hg.vnew b' c hv with h5 | h5 | h5
  ·
   exact .inl h5
  ·
   exact .inr (.inl (ownO _ h5))
  ·
   exact .inr (.inr h5)

end Go.AX.Z

/-! (AzA) -/

namespace Go.AX.Z
open Go.AX

theorem l5 {α : Type} (l : List α) (i : Nat) : idx l (i : Int) = l[i]? := by simp [idx]
theorem Kj {α : Type} (l : List α) : idx l 0 = l[0]? := by simp [idx]
theorem kA {α : Type} {L l : List α} {x : α} {i : Nat} (h : L.drop i = x :: l) : L[i]? = some x ∧ L.drop (i + 1) = l ∧ i < L.length := by
 have h1 : i < L.length := by
  rcases Nat.lt_or_ge i L.length with h2 | h2
  ·
   exact h2
  ·
   rw [List.drop_eq_nil_of_le h2] at h; cases h
 rw [List.drop_eq_getElem_cons h1] at h
 injection h with h2 h3
 exact ⟨by simp [h1, h2], h3, h1⟩
theorem kv {α : Type} {L : List α} {i : Nat} (h : L.drop i = []) : L.length ≤ i := List.drop_eq_nil_iff.1 h
theorem gw {i : Nat} (h : i < 4611686018427387904) : IntKind.wrap .i64 ((i : Int) + 1) = ((i + 1 : Nat) : Int) := by
 rw [zy (by omega) (by omega)]; omega
theorem jm {i : Int} (h1 : -4611686018427387904 ≤ i) (h2 : i < 4611686018427387904) : IntKind.wrap .i64 i = i := zy (by omega) (by omega)
theorem wG {c : Bool} (h : c = true) : chk c = some () := by rw [h]; rfl
theorem fI {p : Prop} [Decidable p] (h : p) : chk (decide p) = some () := wG (by simpa using h)
theorem aE {α β : Type} (a : α) (f : α → Option β) : (some a).bind f = f a := rfl
theorem iG {L : Nat} {i : Nat} (h : i < L) : decide ((i : Int) < (L : Int)) = true := by simp; omega
theorem iK {L : Nat} {i : Nat} (h : L ≤ i) : decide ((i : Int) < (L : Int)) = false := by simp; omega
theorem Ex.k_go' {R D : Type} (d : D) (f : D → Option R) : (Ex.go d).k f = f d := rfl
theorem Ex.k_ret' {R D : Type} (r : R) (f : D → Option R) : (Ex.ret r).k f = some r := rfl
theorem fo {n : Nat} (h : n < 4611686018427387904) : n < big := h
theorem qt {α : Type} {l : List α} {i : Nat} (x : α) (h : i < l.length) : (l.set i x).take (i + 1) = l.take i ++ [x] := by
 rw [List.take_succ_eq_append_getElem (by simpa using h)]
 congr 1
 ·
  rw [List.take_set_of_le (Nat.le_refl _)]
 ·
  simp
theorem tW {α : Type} {l : List α} {i j : Nat} (x : α) (h : i < j) : (l.set i x).drop j = l.drop j := List.drop_set_of_lt h
end Go.AX.Z

/-! (AyP) -/

namespace Go.AX.Z
open Go.AX

def fen (ro : Option Nat) : Fence := { Fence.wide with round := ro }

theorem tD (ro : Option Nat) (n : Nat) (h : (fen ro).depth.isSome = true) : 1 ≤ n := by simp [fen, Fence.wide] at h

theorem Et {ro : Option Nat} {n : Nat} {P : Program} {row : String} {args : Array Value} {w : World} {R : Value → World → Prop} (h : Rows P row args w R) : RowsIn (fen ro) n P row args w R :=
 fun c cs _ => let ⟨v, w', r, s⟩ := h c cs; ⟨v, w', r, stepsIn_wide.2 s⟩

theorem Cx {ro : Option Nat} {n : Nat} {P : Program} {f : FuncId} {args : Array Value} {w : World} {R : Ending → World → Prop} (h : Calls P f args w R) : CallsIn (fen ro) n P f args w R :=
 (callsIn_wide (n := n)).2 h

def mc (o : Oper) : Bool := match o.op with | .defer _ => false | _ => true

theorem Cw {o : Oper} (h : mc o = true) : ∀ c, o.op ≠ .defer c := by
 intro c hc
 simp [mc, hc] at h

theorem GU {ro : Option Nat} {n : Nat} {P : Program} {o : Oper} {a : Act} {w : World} {K K' : Act → World → Prop} {Q : Exit → Act → World → Prop} (hd : mc o = true) (hK : ∀ a w, K a w → K' a w) (h : o.wp P a w K Q) : o.wpIn (fen ro) n P a w K' Q := by
 unfold Oper.wp at h
 unfold Oper.wpIn
 refine ⟨fun _ _ => trivial, ?_⟩
 rw [Oper.semAt_eq _ _ _ (Cw hd)]
 generalize (execOp a.eval o).run P w = r at *
 cases r with
 | ok x w' =>
  cases x <;> simp only [Oper.upon, Oper.uponIn] at h ⊢ <;>
   first
    | exact hK _ _ h
    | exact ⟨tD ro n, Cx (h.mono (fun e w'' he => by cases e <;> first | exact hK _ _ he | exact he))⟩
    | exact ⟨tD ro n, Et (h.mono fun _ _ he => hK _ _ he)⟩
    | exact h.elim
 | halt x w' => cases x <;> simp only [Oper.upon, Oper.uponIn] at h ⊢ <;> exact h

theorem F4 {ro : Option Nat} {n : Nat} {P : Program} {ops : Array Oper} {Q : Exit → Act → World → Prop} {i : Nat} {K K' : Act → World → Prop} {a : Act} {w : World} (hd : ∀ o ∈ ops, mc o = true) (hL : ¬ LetsOut Q) (hK : ∀ a w, K a w → K' a w)
  (h : wpOp P ops Q i K a w) : wpOpIn (fen ro) n P ops Q i K' a w := by
 unfold wpOp at h
 unfold wpOpIn
 split
 ·
  rename_i ho; rw [ho] at h; exact hK _ _ h
 ·
  rename_i o ho
  rw [ho] at h
  simp only at h
  split
  ·
   rename_i hw
   rw [if_pos hw] at h
   rcases h with h | h
   ·
    exact GU (hd o (Array.mem_of_getElem? ho)) hK h
   ·
    exact (hL h.2).elim
  ·
   rename_i hw
   rw [if_neg hw] at h
   exact ⟨fun _ _ => trivial, hK _ _ h⟩

theorem AA {ro : Option Nat} {n : Nat} {P : Program} {md : Region.Mode} {ops : Array Oper} {Q : Exit → Act → World → Prop} (hd : ∀ o ∈ ops, mc o = true) (hL : ¬ LetsOut Q) :
  ∀ (fuel : Nat) (listed : Array Bool) (a : Act) (w : World), wpAny P md ops Q fuel listed a w → wpAnyIn (fen ro) n P md ops Q fuel listed a w
 | 0, _, _, _, h => h
 | fuel + 1, _, _, _, h => ⟨h.1, fun i hi => F4 hd hL (fun a w h' => AA hd hL fuel _ a w h') (h.2 i hi)⟩

theorem BZ {C : Ctx} (hC : COk C) {N : Nat} {B : Base} {ops : Array Oper} {Q : Exit → Act → World → Prop} {base : Nat} {ro : Option Nat} {n : Nat} (hB : B.s.next ≤ base) (hdst : ∀ o ∈ ops, ∀ d, o.dst = some d → d < N) (hnd : ∀ o ∈ ops, mc o = true) {K : AS → Prop} {m : Nat} {tl : List Nat} (hm : m ≤ ops.size)
  (hQ : ∀ s a w, K s → base + ops.size ≤ s.next → GS C N B (fun id => base + m ≤ id ∧ id < base + ops.size) s a w → wpOpsIn (fen ro) n C.P ops Q tl a w) :
  ∀ (l : List Oper) (i : Nat) (s : AS) (a : Act) (w : World), (ops.toList.take m).drop i = l → i ≤ m → base + ops.size ≤ s.next → GS C N B (fun id => base + i ≤ id ∧ id < base + ops.size) s a w → kB C ops.toList base i l s K →
   wpOpsIn (fen ro) n C.P ops Q ((List.range m).drop i ++ tl) a w := by
 intro l
 induction l with
 | nil =>
  intro i s a w hl him hn hg hk
  have hi : m ≤ i := by
   have := congrArg List.length hl
   simp at this; omega
  have e : i = m := by omega
  subst e
  rw [List.drop_eq_nil_of_le (by simp), List.nil_append]
  exact hQ s a w hk hn hg
 | cons o rest ih =>
  intro i s a w hl him hn hg hk
  have hi : i < m := by
   rcases Nat.lt_or_ge i m with h | h
   ·
    exact h
   ·
    rw [List.drop_eq_nil_of_le (by simp; omega)] at hl; cases hl
  have ho : ops[i]? = some o := by
   have h1 : (ops.toList.take m)[i]? = some o := by
    have := congrArg List.head? hl
    simpa [List.head?_drop] using this
   rw [List.getElem?_take, if_pos hi] at h1
   rw [← Array.getElem?_toList]; exact h1
  have hom : o ∈ ops := Array.mem_of_getElem? ho
  have hrest : (ops.toList.take m).drop (i + 1) = rest := by
   have : (ops.toList.take m).drop (i + 1) = ((ops.toList.take m).drop i).drop 1 := by rw [List.drop_drop]
   rw [this, hl]; rfl
  have hdr : (List.range m).drop i = i :: (List.range m).drop (i + 1) := by
   rw [List.drop_eq_getElem_cons (by simpa using hi)]; simp
  rw [hdr, List.cons_append]
  simp only [wpOpsIn, ho]
  have hund : ∀ id, base + i ≤ id ∧ id < base + ops.size → id < s.next := fun id hid => by omega
  have go : kq C s (base + i) o (fun s' => kB C ops.toList base (i + 1) rest s' K) → o.wpIn (fen ro) n C.P a w (wpOpsIn (fen ro) n C.P ops Q ((List.range m).drop (i + 1) ++ tl)) Q := by
   intro hst
   refine GU (hnd o hom) ?_ (xN hC hg ⟨Nat.le_refl _, by omega⟩ hund (by omega) (hdst o hom) Q hst)
   rintro a' w' ⟨s', hk', hn', ρ, V, h1, h2, h3, h4, h5, h6, h7⟩
   exact ih (i + 1) s' a' w' hrest (by omega) (by omega) ⟨ρ, V, h1, h2, h3, h4, h5, h6, fun id hid => h7 id ⟨⟨by omega, hid.2⟩, by omega⟩⟩ hk'
  have skip : kB C ops.toList base (i + 1) rest { s with tmps := i7 s.tmps o.dst (.v undef) } K → wpOpsIn (fen ro) n C.P ops Q ((List.range m).drop (i + 1) ++ tl) (a.put o.dst undef) w := by
   intro hst
   have hp := hg.put (dst := o.dst) (hdst o hom)
   obtain ⟨ρ, V, h1, h2, h3, h4, h5, h6, h7⟩ := hp
   exact ih (i + 1) { s with tmps := i7 s.tmps o.dst (.v undef) } _ w hrest (by omega) hn ⟨ρ, V, h1, h2, h3, h4, h5, h6, fun id hid => h7 id ⟨by omega, hid.2⟩⟩ hst
  simp only [kB] at hk
  split at hk
  ·
   rename_i hgd
   have hw : Region.wanted o (yielded ops a.tmps) = true := by simp [Region.wanted, hgd]
   rw [if_pos hw]
   exact go hk
  ·
   rename_i g want hgd
   split at hk
   ·
    rename_i d hd
    obtain ⟨x, hb, hy, hno⟩ := hk
    obtain ⟨ρ, V, h1, h2, h3, h4, h5, h6, h7⟩ := hg
    have hdN : d < N := by
     obtain ⟨og, hog, hdg⟩ := Option.bind_eq_some_iff.1 hd
     exact hdst og (by rw [← Array.mem_toList_iff]; exact List.mem_of_getElem? hog) d hdg
    have hw := mw hgd hd h1 hb h5 hdN
    by_cases hbw : x = .bool want
    ·
     rw [hw.1 hbw, if_pos rfl]
     exact go (hy hbw)
    ·
     rw [hw.2 hbw, if_neg (by simp)]
     exact ⟨fun _ _ => trivial, skip (hno hbw)⟩
   ·
    exact hk.elim

def kD : Code → Bool
 | .region _ ops _ => ops.all mc
 | .seq a b => kD a && kD b
 | .cond _ a b => kD a && kD b
 | .block _ c => kD c
 | .loop _ => false
 | .rangeFunc _ _ _ _ => false
 | _ => true

theorem EF {C : Ctx} {N : Nat} {B : Base} {Q : AExit → AS → Prop} : ¬ LetsOut (AQ C N B Q) := by
 rintro ⟨a, w, h⟩
 exact h

theorem Eu {k : Nat} {C : Ctx} (hC : COk C) {N : Nat} {B : Base} {ro : Option Nat} {n : Nat} (hLo : Lo k B) : ∀ (c : Code) (Q : AExit → AS → Prop) (s : AS) (a : Act) (w : World), gL N c = true → kD c = true → awp k C c Q s → GS C N B (fun _ => False) s a w → c.wpIn (fen ro) n C.P (AQ C N B Q) a w := by
 intro c
 induction c with
 | skip => intro Q s a w _ _ h hg; exact wpIn_skip ⟨s, h, hg⟩
 | label l => intro Q s a w _ _ h hg; exact wpIn_label ⟨s, h, hg⟩
 | exit id => intro Q s a w _ _ h hg; exact wpIn_exit ⟨s, h, hg⟩
 | ret => intro Q s a w _ _ h hg; exact wpIn_ret ⟨s, h, hg⟩
 | goto l => intro Q s a w _ _ h hg; exact h.elim
 | refuse why => intro Q s a w _ _ h hg; exact h.elim
 | scope c ih => intro Q s a w _ _ h hg; exact h.elim
 | rangeFunc f ps x y ih1 ih2 => intro Q s a w _ hd h hg; simp [kD] at hd
 | loop c ih => intro Q s a w _ hd h hg; simp [kD] at hd
 | region id ops draw =>
  intro Q s a w hst hnd h hg
  simp only [gL, Bool.and_eq_true] at hst
  have hd := mH hst.1
  have hnd' : ∀ o ∈ ops, mc o = true := Array.all_eq_true_iff_forall_mem.1 hnd
  cases draw with
  | false =>
   obtain ⟨hb, hB⟩ := hg.bump (w' := w) ops.size rfl rfl rfl
   have := BZ hC (Q := AQ C N B Q) (ro := ro) (n := n) hB hd hnd' (K := Q .normal) (m := ops.size) (tl := []) (Nat.le_refl _)
    (fun s' a' w' hk _ hg' => ⟨s', hk, by obtain ⟨ρ, V, h1, h2, h3, h4, h5, h6, h7⟩ := hg'; exact ⟨ρ, V, h1, h2, h3, h4, h5, h6, fun id hid => hid.elim⟩⟩) ops.toList 0 _ a w
    (by rw [List.take_of_length_le (by simp)]; rfl) (Nat.zero_le _) (Nat.le_refl _) (by simpa using hb) h
   exact wpIn_region (by simpa using this)
  | true =>
   have hst2 := hst.2
   simp only [Bool.not_true, Bool.false_or, Bool.and_eq_true] at hst2
   obtain ⟨hb, hB⟩ := hg.bump (w' := { w with drawn := w.drawn + 1 }) ops.size rfl rfl rfl
   exact wpIn_region_any hC.mixed (AA hnd' EF _ _ _ _ (oJ hC (Q := AQ C N B Q) hB hd hst2.1 hst2.2 (K := Q .normal) (fun s' a' w' hk hg' => ⟨s', hk, hg'⟩) (Nat.le_refl _) hb h))
 | seq x y ih1 ih2 =>
  intro Q s a w hst hnd h hg
  simp only [gL, kD, Bool.and_eq_true] at hst hnd
  refine wpIn_seq (wpIn_mono (ih1 _ s a w hst.1 hnd.1 h hg) ?_)
  intro e a' w' hq
  cases e with
  | normal =>
   obtain ⟨s', ⟨t, hwk, hk⟩, hg'⟩ := hq
   exact ih2 Q t a' w' hst.2 hnd.2 hk (hwk _ _ _ _ hLo hg')
  | exit id => exact hq
  | ret => exact hq
  | goto l => exact hq
  | panic ch => exact hq
  | outgrown => exact hq
 | cond c x y ih1 ih2 =>
  intro Q s a w hst hnd h hg
  simp only [gL, kD, Bool.and_eq_true] at hst hnd
  have h' : ∃ b, ev C s c = .v (.bool b) ∧ (b = true → awp k C x Q s) ∧ (b = false → awp k C y Q s) := by
   simp only [awp] at h
   split at h
   ·
    rename_i b hb; exact ⟨b, hb, h⟩
   ·
    exact h.elim
  obtain ⟨b, hb, h1, h2⟩ := h'
  obtain ⟨ρ, V, k1, k2, k3, k4, k5, k6, k7⟩ := hg
  have hev := jE k1 k3 c
  rw [hb] at hev
  exact wpIn_cond_split (t := b) (Rel.v_inv hev) (fun hbt => ih1 Q s a w hst.1 hnd.1 (h1 hbt) ⟨ρ, V, k1, k2, k3, k4, k5, k6, k7⟩) (fun hbf => ih2 Q s a w hst.2 hnd.2 (h2 hbf) ⟨ρ, V, k1, k2, k3, k4, k5, k6, k7⟩)
 | block id c ih =>
  intro Q s a w hst hnd h hg
  refine wpIn_block (wpIn_mono (ih _ s a w hst hnd h hg) ?_)
  intro e a' w' hq
  cases e with
  | normal => exact hq
  | exit j =>
   obtain ⟨s', hk, hg'⟩ := hq
   simp only [Exit.inBlock]
   by_cases hj : j = id
   ·
    simp only [hj, if_true] at hk ⊢
    exact ⟨s', hk, hg'⟩
   ·
    simp only [hj, if_false] at hk ⊢
    exact ⟨s', hk, hg'⟩
  | ret => exact hq
  | goto l => exact hq
  | panic ch => exact hq
  | outgrown => exact hq

end Go.AX.Z

/-! (AyQ) -/

namespace Go.AX

theorem wq {w : World} {o : Obj} (ho : o.isCells = false) (a : Addr) : (w.alloc o).frozen? a = w.frozen? a := by
 have h0 : (w.alloc o).heap[a.block]? = if a.block = w.heap.size then some o else w.heap[a.block]? := by
  show (w.heap.push o)[a.block]? = _
  rw [Array.getElem?_push]
 unfold World.frozen?
 rw [h0]
 by_cases h : a.block = w.heap.size
 ·
  rw [if_pos h, h]
  have : w.heap[w.heap.size]? = none := by simp
  rw [this]
  cases o <;> first | rfl | (simp [Obj.isCells] at ho)
 ·
  rw [if_neg h]

theorem fE {w : World} {o : Obj} {b : Nat} (h : b < w.heap.size) : (w.alloc o).heap[b]? = w.heap[b]? := by
 show (w.heap.push o)[b]? = _
 rw [Array.getElem?_push, if_neg (by omega)]

theorem Inv.allocNC {ρ : Rho} {V : bG} {s : HS} {w : World} (h : Inv ρ V s w) (o : Obj) : Inv ρ V s (w.alloc o) where
 view b c hv := by
  obtain ⟨T, fz, h1⟩ := h.view b c hv
  exact ⟨T, fz, (fE (Array.getElem?_eq_some_iff.1 h1).1).trans h1⟩
 fresh := h.fresh
 live id cells loc h1 h2 := by
  obtain ⟨c, T, h3, h4⟩ := h.live id cells loc h1 h2
  exact ⟨c, T, (fE (Array.getElem?_eq_some_iff.1 h3).1).trans h3, h4⟩
 froz := h.froz
 inj := h.inj

theorem Grew.allocNC {B : Base} {ρ : Rho} {V : bG} {s : HS} {w : World} (h : Grew B.ρ B.V B.s B.w ρ V s w) {o : Obj} (ho : o.isCells = false) : Grew B.ρ B.V B.s B.w ρ V s (w.alloc o) where
 rho := h.rho
 old := h.old
 next := h.next
 view := h.view
 size := by rw [World.size_alloc]; exact Nat.le_succ_of_le h.size
 keep b hb hn := by rw [fE (Nat.lt_of_lt_of_le hb h.size)]; exact h.keep b hb hn
 own := h.own
 vnew := h.vnew
 mem := h.mem.trans ⟨rfl, rfl, by simp, fun a _ => wq ho a⟩

theorem o0 {ρ ρ' : Rho} {V V' : bG} {s s' : HS} {w w' : World} (hI : Inv ρ V s w) (hg : Grew ρ V s w ρ' V' s' w') {r : Nat} {o : Obj} (h : w.heap[r]? = some o) (ho : o.isCells = false) : w'.heap[r]? = some o := by
 rw [hg.keep r (Array.getElem?_eq_some_iff.1 h).1 (BK hI h ho)]; exact h

theorem im.putNC {B : Base} {ds : List Deferred} {w : World} (h : im B ds w) {l : Nat} {r : Loop} (hl : w.heap[l]? = some (.loop r)) (o : Obj) : im B ds (w.putObj l o) := by
 obtain ⟨rs, h1, h2, h0, h3⟩ := h
 refine ⟨rs, h1, h2, h0, fun q hq => ⟨(h3 q hq).1, ?_⟩⟩
 rw [World.putObj_heap_other]
 ·
  exact (h3 q hq).2
 ·
  rintro rfl; rw [(h3 q hq).2] at hl; cases hl

end Go.AX

namespace Go.AX.Z
open Go.AX

def Ef (ρ : Rho) (V : bG) (xs : List AV) (ys : Array Value) : Prop := ys.size = xs.length ∧ ∀ (i : Nat) x y, xs[i]? = some x → ys[i]? = some y → Rel ρ V x y

structure Sub (ρ : Rho) (V : bG) (ρ' : Rho) (V' : bG) : Prop where
 rho : ∀ id loc, ρ id = some loc → ρ' id = some loc
 view : ∀ b c, V b = some c → V' b = some c

theorem Sub.refl (ρ : Rho) (V : bG) : Sub ρ V ρ V := ⟨fun _ _ h => h, fun _ _ h => h⟩
theorem Sub.trans {ρ ρ1 ρ2 : Rho} {V V1 V2 : bG} (h : Sub ρ V ρ1 V1) (h' : Sub ρ1 V1 ρ2 V2) : Sub ρ V ρ2 V2 := ⟨fun _ _ x => h'.rho _ _ (h.rho _ _ x), fun _ _ x => h'.view _ _ (h.view _ _ x)⟩
theorem Sub.of {ρ ρ' : Rho} {V V' : bG} {s s' : HS} {w w' : World} (h : Grew ρ V s w ρ' V' s' w') : Sub ρ V ρ' V' := ⟨h.rho, h.view⟩

def ra : List Nat → List AV → (Nat → AV) → Nat → AV
 | p :: ps, x :: xs, t => ra ps xs (upd t p x)
 | _, _, t => t

theorem vK {ρ : Rho} {V : bG} {N : Nat} : ∀ (ps : List Nat) (xs : List AV) (ys : List Value) (t : Nat → AV) (tmps : Array Value), ps.length = xs.length → ys.length = xs.length → (∀ (i : Nat) x y, xs[i]? = some x → ys[i]? = some y → Rel ρ V x y) →
  (∀ d ∈ ps, d < N) → tmps.size = N → (∀ i, Rel ρ V (t i) (tmps.getD i undef)) →
  (∀ i, Rel ρ V (ra ps xs t i) (((ps.zip ys).foldl (fun t (p, v) => t.setIfInBounds p v) tmps).getD i undef)) ∧ ((ps.zip ys).foldl (fun t (p, v) => t.setIfInBounds p v) tmps).size = N
 | [], _, _, _, _, _, _, _, _, hs, ht => ⟨ht, hs⟩
 | p :: ps, [], _, _, _, h, _, _, _, _, _ => by cases h
 | p :: ps, x :: xs, [], _, _, _, h, _, _, _, _ => by cases h
 | p :: ps, x :: xs, y :: ys, t, tmps, h1, h2, h3, h4, hs, ht => by
  simp only [List.zip_cons_cons, List.foldl_cons, ra]
  refine vK ps xs ys (upd t p x) (tmps.setIfInBounds p y) (by simpa using h1) (by simpa using h2) (fun i x y hx hy => h3 (i + 1) x y hx hy) (fun d hd => h4 d (List.mem_cons_of_mem _ hd)) (by simp [hs]) ?_
  have hd : ∀ d, some p = some d → d < N := fun d hd => by cases hd; exact h4 p (List.mem_cons_self ..)
  exact pZ (a := ⟨tmps, []⟩) (dst := some p) ht (h3 0 x y rfl rfl) hs hd

def IX (C : Ctx) (gf : FuncId) (caps : List AV) (Rd : HS → Prop) (xs : List (List AV)) : Prop :=
 ∀ (l : Nat) (lb : Array Value) (ρ0 : Rho) (V0 : bG) (J : Nat → Rho → bG → HS → World → Prop) (Jx : Rho → bG → HS → World → Prop),
  Ef ρ0 V0 caps lb →
  (∀ i ρ V hs W, J i ρ V hs W → Sub ρ0 V0 ρ V ∧ Inv ρ V hs W ∧ mh C V ∧ Rd hs) →
  (∀ ρ V hs W, Jx ρ V hs W → Inv ρ V hs W ∧ mh C V) →
  (∀ i ρ V hs W ρ' V' n' W', J i ρ V hs W → Grew ρ V hs W ρ' V' ⟨hs.objs, n'⟩ W' → Inv ρ' V' ⟨hs.objs, n'⟩ W' → mh C V' → J i ρ' V' ⟨hs.objs, n'⟩ W') →
  (∀ ρ V hs W ρ' V' n' W', Jx ρ V hs W → Grew ρ V hs W ρ' V' ⟨hs.objs, n'⟩ W' → Inv ρ' V' ⟨hs.objs, n'⟩ W' → mh C V' → Jx ρ' V' ⟨hs.objs, n'⟩ W') →
  (∀ i x ρ V hs W args', J i ρ V hs W → xs[i]? = some x → Ef ρ V x args' → YieldAt Fence.wide 0 C.P l args' W fun e W' => ∃ ρ' V' hs', Sub ρ V ρ' V' ∧ ((e = .returned (.bool true) ∧ J (i + 1) ρ' V' hs' W') ∨ (e = .returned (.bool false) ∧ Jx ρ' V' hs' W'))) →
  ∀ ρ V hs W, J 0 ρ V hs W → CallsIn Fence.wide 0 C.P gf (#[.func (.yield l) #[] #[]] ++ lb) W fun e W' => (∃ v, e = .returned v) ∧ ∃ ρ' V' hs', J xs.length ρ' V' hs' W' ∨ Jx ρ' V' hs' W'

def zv (C : Ctx) (bd : Code) (Q : AExit → AS → Prop) (t : AS) : Prop := ∀ (N : Nat) (B : Base) (ro : Option Nat) (a : Act) (w : World), gL N bd = true → Lo t.next B → B.mks = none → GS C N B (fun _ => False) t a w → bd.wpIn (fen ro) 0 C.P (AQ C N B Q) a w
theorem zv.of_awp {C : Ctx} (hC : COk C) {bd : Code} {Q : AExit → AS → Prop} {t : AS} (hnd : kD bd = true) (h : awp t.next C bd Q t) : zv C bd Q t :=
 fun N B ro a w hst hLo _ hg => Eu hC hLo bd Q t a w hst hnd h hg
theorem uS {k : Nat} {C : Ctx} (hC : COk C) {g : Operand} {ps : Array Tmp} {as bd : Code} {Q : AExit → AS → Prop} {s : AS} {gf : FuncId} {caps : List AV} {xs : List (List AV)} {Rd : HS → Prop}
  (hg : ev C s g = .clo gf [] caps) (hit : IX C gf caps Rd xs) (hgf : mt C.P gf) (hps : ∀ x ∈ xs, x.length = ps.size) (hnd : kD as = true)
  (I : Nat → HS → Prop) (Ix : AExit → HS → Prop) (hI : ∀ i hs n, I i hs → hs.next ≤ n → I i ⟨hs.objs, n⟩) (hIx : ∀ e hs n, Ix e hs → hs.next ≤ n → Ix e ⟨hs.objs, n⟩)
  (hRd : ∀ i hs, I i hs → Rd hs) (h0 : I 0 s.toHS)
  (hround : ∀ i x hs, xs[i]? = some x → I i hs → awp hs.next C as (kz (fun t => zv C bd (fun e t' => match e with | .normal => I (i + 1) t'.toHS | e => Ix e t'.toHS) t) (fun _ _ => False)) { toHS := hs, tmps := ra ps.toList x s.tmps })
  (hdone : ∀ hs, I xs.length hs → Q .normal { toHS := hs, tmps := s.tmps }) (hex : ∀ e hs, e ≠ .normal → Ix e hs → Q e { toHS := hs, tmps := s.tmps }) : awp k C (.rangeFunc g ps as bd) Q s := by
 intro N B a w hst hLo hms hgs
 obtain ⟨ρ, V, h1, h2, h3, h4, h5, h6, h7⟩ := hgs
 simp only [gL, Bool.and_eq_true] at hst
 have hpsN : ∀ d ∈ ps.toList, d < N := fun d hd => by
  have := Array.all_eq_true_iff_forall_mem.1 hst.1.1 d (by simpa using hd)
  simpa using this
 obtain ⟨lb, hge, hlb⟩ : ∃ lb, a.eval g = .func (.func gf) #[] lb ∧ Ef ρ V caps lb := by
  have hgv := jE h1 h3 g
  rw [hg] at hgv
  generalize a.eval g = y at hgv
  cases hgv with
  | clo _ _ _ xs' ys e1 e2 H1 H2 =>
   have : xs' = #[] := Array.eq_empty_of_size_eq_zero e1
   subst this
   exact ⟨ys, rfl, e2, H2⟩
 refine (wpIn_wide (n := 0)).1 (wpIn_rangeFunc ?_)
 intro fn hfn
 obtain ⟨rec, hrec⟩ : ∃ rec : LoopState → Option Code → Loop, rec = fun st pe => { state := st, pending := pe, fn, tmps := a.tmps, params := ps, assign := as, body := bd, defers := w.heap.size } := ⟨_, rfl⟩
 obtain ⟨W1, hW1⟩ : ∃ W1, (w.alloc (.deferred (some []))).alloc (.loop (rec .ready none)) = W1 := ⟨_, rfl⟩
 obtain ⟨D, hD⟩ : ∃ D, w.heap.size = D := ⟨_, rfl⟩
 have hBw : B.w.heap.size ≤ D := hD ▸ h4.size
 have hL1 : W1.heap[D + 1]? = some (.loop (rec .ready none)) := by
  rw [← hW1, ← hD]; have := World.alloc_heap_new (w.alloc (.deferred (some []))) (.loop (rec .ready none)); rwa [World.size_alloc] at this
 have hK1 : W1.heap[D]? = some (.deferred (some [])) := by
  rw [← hW1, ← hD, fE (by simp)]; exact World.alloc_heap_new w _
 let J : Nat → Rho → bG → HS → World → Prop := fun i ρ' V' hs W => I i hs ∧ Sub ρ V ρ' V' ∧ Inv ρ' V' hs W ∧ mh C V' ∧ Grew B.ρ B.V B.s B.w ρ' V' hs W ∧
  W.heap[D + 1]? = some (.loop (rec .ready none)) ∧ W.heap[D]? = some (.deferred (some [])) ∧ im B a.defers W
 let Jx : Rho → bG → HS → World → Prop := fun ρ' V' hs W => ∃ c e, ((c = Code.ret ∧ e = AExit.ret) ∨ ∃ id, c = Code.exit id ∧ e = AExit.exit id) ∧ Ix e hs ∧ Sub ρ V ρ' V' ∧ Inv ρ' V' hs W ∧ mh C V' ∧ Grew B.ρ B.V B.s B.w ρ' V' hs W ∧
  W.heap[D + 1]? = some (.loop (rec .done (some c))) ∧ W.heap[D]? = some (.deferred (some [])) ∧ im B a.defers W
 refine ⟨D + 1, [BA D], W1, { target := .fn (.func gf) lb, args := #[.func (.yield (D + 1)) #[] #[]] }, W1, gf, #[.func (.yield (D + 1)) #[] #[]] ++ lb, W1, ?_, ?_, fun _ _ => trivial, ?_, fun h => by simp [Fence.wide] at h, ?_⟩
 ·
  rw [← hW1, hrec, ← hD]; exact run_enterLoop_outer _ _ _ _ _
 ·
  simp only [resolve, hge]
  simp [go_sem]
 ·
  have := lh hgf (#[.func (.yield (D + 1)) #[] #[]] ++ lb) W1
  simpa [invoke, go_sem] using this
 ·
  refine (hit (D + 1) lb ρ V J Jx hlb ?_ ?_ ?_ ?_ ?_ ρ V s.toHS W1 ?_).mono ?_
  ·
   rintro i ρ' V' hs W ⟨j1, j2, j3, j4, _⟩
   exact ⟨j2, j3, j4, hRd i hs j1⟩
  ·
   rintro ρ' V' hs W ⟨c, e, _, _, _, j3, j4, _⟩
   exact ⟨j3, j4⟩
  ·
   rintro i ρ' V' hs W ρ'' V'' n' W' ⟨j1, j2, j3, j4, j5, j6, j7, j8⟩ hgr hinv hgt
   exact ⟨hI i hs n' j1 hgr.next, j2.trans (Sub.of hgr), hinv, hgt, j5.trans hgr, o0 j3 hgr j6 rfl, o0 j3 hgr j7 rfl, j8.keep j3 hgr.keep⟩
  ·
   rintro ρ' V' hs W ρ'' V'' n' W' ⟨c, e, hce, j1, j2, j3, j4, j5, j6, j7, j8⟩ hgr hinv hgt
   exact ⟨c, e, hce, hIx e hs n' j1 hgr.next, j2.trans (Sub.of hgr), hinv, hgt, j5.trans hgr, o0 j3 hgr j6 rfl, o0 j3 hgr j7 rfl, j8.keep j3 hgr.keep⟩
  ·
   -- one round
   rintro i x ρ' V' hs W args' ⟨j1, j2, j3, j4, j5, j6, j7, j8⟩ hx hargs
   have hxl : x.length = ps.size := hps x (List.mem_of_getElem? hx)
   have hy := run_yield (P := C.P) (args := args') j6 (by rw [hrec]; simp only; rw [hargs.1, hxl])
   rw [hrec] at hy
   refine ⟨fn, _, as, bd, hy, roundIn_of_wpIn hfn ?_⟩
   let B1 : Base := ⟨ρ', V', hs, W, none⟩
   have hLo1 : Lo hs.next B1 := ⟨rfl, fun id hid => j3.fresh id hid, fun m hm => by cases hm⟩
   have hfold : (ps.zip args').foldl (fun t (p, v) => t.setIfInBounds p v) a.tmps = (ps.toList.zip args'.toList).foldl (fun t (p, v) => t.setIfInBounds p v) a.tmps := by
    rw [← Array.foldl_toList, Array.toList_zip]
   have hrel := vK (ρ := ρ') (V := V') (N := N) ps.toList x args'.toList s.tmps a.tmps (by simp [hxl]) (by simpa using hargs.1) (fun i x y hx hy => hargs.2 i x y hx (by simpa using hy)) hpsN h5 (fun i => (h1 i).mono j2.rho j2.view)
   have hg1 : GS C N B1 (fun _ => False) { toHS := hs, tmps := ra ps.toList x s.tmps } { tmps := (ps.zip args').foldl (fun t (p, v) => t.setIfInBounds p v) a.tmps, defers := [] } W :=
    ⟨ρ', V', by rw [hfold]; exact hrel.1, j3, j4, Grew.refl _ _ _ _, by rw [hfold]; exact hrel.2, im.nil _ _, fun _ h => h.elim⟩
   refine wpIn_mono (Eu hC (ro := some (D + 1)) hLo1 as _ _ _ W hst.1.2 hnd (hround i x hs hx j1) hg1) ?_
   intro e a1 w1 hq
   cases e with
   | normal =>
    obtain ⟨t, ht, ρ1, V1, g1, g2, g3, g4, g5, g6, g7⟩ := hq
    have hl1 := o0 j3 g4 j6 rfl
    have hd1 := o0 j3 g4 j7 rfl
    refine ⟨_, run_beginRound hl1 (by rw [hrec]), ?_⟩
    have hlt1 := (Array.getElem?_eq_some_iff.1 hl1).1
    obtain ⟨w2, hw2⟩ : ∃ w2, w1.putObj (D + 1) (.loop { rec .ready none with state := .busy }) = w2 := ⟨_, rfl⟩
    rw [hw2]
    have hi2 : Inv ρ1 V1 t.toHS w2 := by rw [← hw2]; exact g2.putNC hl1 rfl _
    have hl2 : w2.heap[D + 1]? = some (.loop { rec .ready none with state := .busy }) := by rw [← hw2]; exact World.putObj_heap_same hlt1
    have hd2 : w2.heap[D]? = some (.deferred (some [])) := by rw [← hw2, World.putObj_heap_other (by omega)]; exact hd1
    have hG2 : Grew B.ρ B.V B.s B.w ρ1 V1 t.toHS w2 := by rw [← hw2]; exact (j5.trans g4).putNC (by omega) hl1 rfl rfl
    have hM2 : im B a.defers w2 := by rw [← hw2]; exact (j8.keep j3 g4.keep).putNC hl1 _
    let B2 : Base := ⟨ρ1, V1, t.toHS, w2, none⟩
    have hLo2 : Lo t.next B2 := ⟨rfl, fun id hid => g2.fresh id hid, fun m hm => by cases hm⟩
    have hg2 : GS C N B2 (fun _ => False) t a1 w2 := by
     refine ⟨ρ1, V1, g1, hi2, g3, Grew.refl _ _ _ _, g5, ?_, fun _ h => h.elim⟩
     have := g6.putNC hl1 (.loop { rec .ready none with state := .busy })
     rw [hw2] at this
     exact this
    refine wpIn_mono (ht N B2 (some (D + 1)) _ w2 hst.2 hLo2 rfl hg2) ?_
    intro e a3 w3 hq3
    have fin : ∀ (jump : Option Code) (t' : AS) (ρ3 : Rho) (V3 : bG), Inv ρ3 V3 t'.toHS w3 → Grew ρ1 V1 t.toHS w2 ρ3 V3 t'.toHS w3 → ∃ w4, (Instr.endRound (D + 1) jump).run C.P w3 = .ok (.bool jump.isNone) w4 ∧
      w4.heap[D + 1]? = some (.loop (rec (if jump.isNone then .ready else .done) jump)) ∧ w4.heap[D]? = some (.deferred (some [])) ∧ Inv ρ3 V3 t'.toHS w4 ∧ Grew B.ρ B.V B.s B.w ρ3 V3 t'.toHS w4 ∧ im B a.defers w4 := by
     intro jump t' ρ3 V3 hi3 hg3
     have hl3 := o0 hi2 hg3 hl2 rfl
     have hd3 := o0 hi2 hg3 hd2 rfl
     refine ⟨_, run_endRound jump hl3, ?_, ?_, hi3.putNC hl3 rfl _, (hG2.trans hg3).putNC (by omega) hl3 rfl rfl, (hM2.keep hi2 hg3.keep).putNC hl3 _⟩
     ·
      rw [World.putObj_heap_same (Array.getElem?_eq_some_iff.1 hl3).1, hrec]
     ·
      rw [World.putObj_heap_other (by omega)]; exact hd3
    cases e with
    | normal =>
     obtain ⟨t', ht', ρ3, V3, m1, m2, m3, m4, m5, m6, m7⟩ := hq3
     obtain ⟨w4, hr, hl4, hd4, hi4, hG4, hM4⟩ := fin none t' ρ3 V3 m2 m4
     exact ⟨_, w4, hr, ρ3, V3, t'.toHS, (Sub.of g4).trans (Sub.of m4), .inl ⟨rfl, ht', (j2.trans (Sub.of g4)).trans (Sub.of m4), hi4, m3, hG4, hl4, hd4, hM4⟩⟩
    | ret =>
     obtain ⟨t', ht', ρ3, V3, m1, m2, m3, m4, m5, m6, m7⟩ := hq3
     obtain ⟨w4, hr, hl4, hd4, hi4, hG4, hM4⟩ := fin (some .ret) t' ρ3 V3 m2 m4
     exact ⟨_, w4, hr, ρ3, V3, t'.toHS, (Sub.of g4).trans (Sub.of m4), .inr ⟨rfl, .ret, .ret, .inl ⟨rfl, rfl⟩, ht', (j2.trans (Sub.of g4)).trans (Sub.of m4), hi4, m3, hG4, hl4, hd4, hM4⟩⟩
    | exit id =>
     obtain ⟨t', ht', ρ3, V3, m1, m2, m3, m4, m5, m6, m7⟩ := hq3
     obtain ⟨w4, hr, hl4, hd4, hi4, hG4, hM4⟩ := fin (some (.exit id)) t' ρ3 V3 m2 m4
     exact ⟨_, w4, hr, ρ3, V3, t'.toHS, (Sub.of g4).trans (Sub.of m4), .inr ⟨rfl, .exit id, .exit id, .inr ⟨id, rfl, rfl⟩, ht', (j2.trans (Sub.of g4)).trans (Sub.of m4), hi4, m3, hG4, hl4, hd4, hM4⟩⟩
    | goto l => exact hq3.elim
    | panic ch => exact hq3.elim
    | outgrown => exact hq3.elim
   | ret => obtain ⟨t, ht, _⟩ := hq; exact ht.elim
   | exit id => obtain ⟨t, ht, _⟩ := hq; exact ht.elim
   | goto l => exact hq.elim
   | panic ch => exact hq.elim
   | outgrown => exact hq.elim
  ·
   -- ahead of the first round
   refine ⟨h0, Sub.refl _ _, ?_, h3, ?_, hL1, hK1, ?_⟩
   ·
    rw [← hW1]; exact (h2.allocNC _).allocNC _
   ·
    rw [← hW1]; exact (h4.allocNC rfl).allocNC rfl
   ·
    obtain ⟨rs, q1, q2, q0, q3⟩ := h6
    refine ⟨rs, q1, q2, q0, fun r hr => ⟨(q3 r hr).1, ?_⟩⟩
    have hlt := (Array.getElem?_eq_some_iff.1 (q3 r hr).2).1
    rw [← hW1, fE (by simp; omega), fE hlt]
    exact (q3 r hr).2
  ·
   -- behind the last one
   have fin : ∀ (W2 : World) (ρ' : Rho) (V' : bG) (hs : HS) (r : Loop), Sub ρ V ρ' V' → Inv ρ' V' hs W2 → mh C V' → Grew B.ρ B.V B.s B.w ρ' V' hs W2 → W2.heap[D + 1]? = some (.loop r) → W2.heap[D]? = some (.deferred (some [])) → im B a.defers W2 → ∀ o : Obj, o.isCells = false →
     GS C N B (fun _ => False) { toHS := hs, tmps := s.tmps } { a with defers := [BA D] ++ a.defers } (W2.putObj (D + 1) o) := by
    intro W2 ρ' V' hs r j2 j3 j4 j5 j6 j7 j8 o ho
    refine ⟨ρ', V', fun t => (h1 t).mono j2.rho j2.view, j3.putNC j6 rfl _, j4, j5.putNC (by omega) j6 rfl ho, h5, ?_, fun _ h => h.elim⟩
    have hm := j8.putNC j6 o
    obtain ⟨rs, q1, q2, _, q3⟩ := h6
    obtain ⟨rs', q1', q2', _, q3'⟩ := hm
    have hinj : ∀ (l1 l2 : List Nat), l1.map BA = l2.map BA → l1 = l2 := by
     intro l1
     induction l1 with
     | nil => intro l2 h; cases l2 with | nil => rfl | cons b l2 => cases h
     | cons b l1 ih =>
      intro l2 h
      cases l2 with
      | nil => cases h
      | cons c l2 =>
       simp only [List.map_cons, List.cons.injEq] at h
       obtain ⟨h1, h2⟩ := h
       rw [ih l2 h2]
       simp only [BA, Deferred.mk.injEq, Target.collected.injEq] at h1
       rw [h1.1]
    have hrr : rs = rs' := hinj _ _ (q2.symm.trans q2')
    subst hrr
    refine ⟨D :: rs, List.nodup_cons.2 ⟨fun hm => ?_, q1⟩, by simp [q2], (fun hn => by rw [hn] at hms; cases hms), fun r' hr' => ?_⟩
    ·
     have := (Array.getElem?_eq_some_iff.1 (q3 D hm).2).1
     omega
    ·
     rcases List.mem_cons.1 hr' with rfl | hr'
     ·
      exact ⟨fun m hm => Nat.le_trans (hLo.2.2 m hm) hBw, by rw [World.putObj_heap_other (by omega)]; exact j7⟩
     ·
      exact q3' r' hr'
   rintro e W2 ⟨⟨v, rfl⟩, ρ', V', hs, (⟨j1, j2, j3, j4, j5, j6, j7, j8⟩ | ⟨c, e, hce, j1, j2, j3, j4, j5, j6, j7, j8⟩)⟩
   ·
    refine ⟨none, _, ?_, { toHS := hs, tmps := s.tmps }, hdone hs j1, fin W2 ρ' V' hs _ j2 j3 j4 j5 j6 j7 j8 (.loop { rec .ready none with state := .exhausted }) rfl⟩
    have := run_endLoop (P := C.P) j6 (by rw [hrec]; simp)
    rw [hrec] at this ⊢
    exact this
   ·
    have hend : (Instr.endLoop (D + 1)).run C.P W2 = .ok (some c) (W2.putObj (D + 1) (.loop { rec .done (some c) with state := .exhausted })) := by
     have := run_endLoop (P := C.P) j6 (by rw [hrec]; simp)
     rw [hrec] at this ⊢
     exact this
    refine ⟨some c, _, hend, ?_⟩
    have hgs := fin W2 ρ' V' hs _ j2 j3 j4 j5 j6 j7 j8 (.loop { rec .done (some c) with state := .exhausted }) rfl
    rcases hce with ⟨rfl, rfl⟩ | ⟨id, rfl, rfl⟩
    ·
     exact wpIn_ret ⟨_, hex _ _ (by simp) j1, hgs⟩
    ·
     exact wpIn_exit ⟨_, hex _ _ (by simp) j1, hgs⟩

theorem w8 {k : Nat} {C : Ctx} (hC : COk C) {g : Operand} {ps : Array Tmp} {as bd : Code} {Q : AExit → AS → Prop} {s : AS} {gf : FuncId} {caps : List AV} {xs : List (List AV)} {Rd : HS → Prop}
  (hg : ev C s g = .clo gf [] caps) (hit : IX C gf caps Rd xs) (hgf : mt C.P gf) (hps : ∀ x ∈ xs, x.length = ps.size) (hnd : kD as = true) (hnd' : kD bd = true)
  (I : Nat → HS → Prop) (Ix : AExit → HS → Prop) (hI : ∀ i hs n, I i hs → hs.next ≤ n → I i ⟨hs.objs, n⟩) (hIx : ∀ e hs n, Ix e hs → hs.next ≤ n → Ix e ⟨hs.objs, n⟩)
  (hRd : ∀ i hs, I i hs → Rd hs) (h0 : I 0 s.toHS)
  (hround : ∀ i x hs, xs[i]? = some x → I i hs → awp hs.next C as (kz (fun t => awp t.next C bd (fun e t' => match e with | .normal => I (i + 1) t'.toHS | e => Ix e t'.toHS) t) (fun _ _ => False)) { toHS := hs, tmps := ra ps.toList x s.tmps })
  (hdone : ∀ hs, I xs.length hs → Q .normal { toHS := hs, tmps := s.tmps }) (hex : ∀ e hs, e ≠ .normal → Ix e hs → Q e { toHS := hs, tmps := s.tmps }) : awp k C (.rangeFunc g ps as bd) Q s :=
 uS hC hg hit hgf hps hnd I Ix hI hIx hRd h0 (fun i x hs hx hi => dw _ (hround i x hs hx hi) (by
  rintro e t h
  cases e with
  | normal => exact zv.of_awp hC hnd' h
  | ret => exact h
  | exit id => exact h)) hdone hex

end Go.AX.Z

/-! (AyR) -/

namespace Go.AX.Z
open Go.AX

structure StJ (N : Nat) (t : Nat → AV) (J : Rho → bG → HS → World → Prop) (ρ : Rho) (V : bG) (hs : HS) (a : Act) (W : World) : Prop where
 tm : ∀ j, Rel ρ V (t j) (a.tmps.getD j undef)
 j : J ρ V hs W
 sz : a.tmps.size = N
 df : a.defers = []

structure Abides (C : Ctx) (J : Rho → bG → HS → World → Prop) : Prop where
 inv : ∀ ρ V hs W, J ρ V hs W → Inv ρ V hs W ∧ mh C V
 cl : ∀ ρ V hs W ρ' V' n' W', J ρ V hs W → Grew ρ V hs W ρ' V' ⟨hs.objs, n'⟩ W' → Inv ρ' V' ⟨hs.objs, n'⟩ W' → mh C V' → J ρ' V' ⟨hs.objs, n'⟩ W'

section
variable {C : Ctx} {N : Nat} {t : Nat → AV} {J : Rho → bG → HS → World → Prop} {ρ : Rho} {V : bG} {hs : HS} {a : Act} {W : World}

theorem StJ.gs (hJ : Abides C J) (h : StJ N t J ρ V hs a W) (n : Nat) : GS C N ⟨ρ, V, hs, W, none⟩ (fun id => hs.next ≤ id ∧ id < hs.next + n) { objs := hs.objs, next := hs.next + n, tmps := t } a W := by
 obtain ⟨h1, h2⟩ := hJ.inv _ _ _ _ h.j
 refine ⟨ρ, V, h.tm, ⟨h1.view, fun id hid => h1.fresh id (Nat.le_trans (Nat.le_add_right _ _) hid), h1.live, h1.froz, h1.inj⟩, h2, ?_, h.sz, by rw [h.df]; exact im.nil _ _, fun id hid => h1.fresh id hid.1⟩
 have := Grew.refl ρ V hs W
 exact ⟨this.rho, this.old, Nat.le_add_right _ _, this.view, this.size, this.keep, this.own, this.vnew, this.mem⟩

theorem StJ.of_gs (hJ : Abides C J) (hj : J ρ V hs W) {und : Nat → Prop} {s' : AS} {a' : Act} {W' : World} (hg : GS C N ⟨ρ, V, hs, W, none⟩ und s' a' W') (ho : s'.objs = hs.objs) : ∃ ρ' V', StJ N s'.tmps J ρ' V' s'.toHS a' W' ∧ Sub ρ V ρ' V' := by
 obtain ⟨ρ', V', g1, g2, g3, g4, g5, ⟨rs, q1, q2, q0, q3⟩, g7⟩ := hg
 have hst : s'.toHS = ⟨hs.objs, s'.next⟩ := by rw [← ho]
 rw [hst] at g2 g4
 refine ⟨ρ', V', ⟨g1, ?_, g5, ?_⟩, Sub.of g4⟩
 ·
  rw [hst]; exact hJ.cl _ _ _ _ _ _ _ _ hj g4 g2 g3
 ·
  have := q0 rfl
  subst this
  exact q2
end

theorem StJ.start {N : Nat} {t : Nat → AV} {J : Rho → bG → HS → World → Prop} {ρ : Rho} {V : bG} {hs : HS} {W : World} {args : Array Value} (hN : args.size ≤ N) (h0 : J ρ V hs W) (ht : ∀ i y, args[i]? = some y → Rel ρ V (t i) y) (hu : ∀ i, args.size ≤ i → t i = .unk) :
  StJ N t J ρ V hs { tmps := args ++ Array.replicate (N - args.size) undef, defers := [] } W := by
 refine ⟨fun j => ?_, h0, by simp; omega, rfl⟩
 by_cases hj : j < args.size
 ·
  have e1 : args[j]? = some args[j] := by simp [hj]
  have e2 : (args ++ Array.replicate (N - args.size) undef).getD j undef = args[j] := by
   rw [Array.getD_eq_getD_getElem?, Array.getElem?_append, if_pos hj, e1]; rfl
  rw [e2]
  exact ht j _ e1
 ·
  rw [hu j (by omega)]; exact .unk _

theorem oH {C : Ctx} (hC : COk C) {N : Nat} {id : Nat} {ops : Array Oper} {Q : Exit → Act → World → Prop} {t : Nat → AV} {J : Rho → bG → HS → World → Prop} (hJ : Abides C J) (hst : gL N (.region id ops false) = true) (hnd : kD (.region id ops false) = true)
  {K : (Nat → AV) → Prop} {ρ : Rho} {V : bG} {hs : HS} {a : Act} {W : World} (h : StJ N t J ρ V hs a W)
  (hw : xw false C (ops.toList.map (·.dst)) hs.next 0 ops.toList { objs := hs.objs, next := hs.next + ops.size, tmps := t } (fun s' => s'.objs = hs.objs ∧ K s'.tmps))
  (hQ : ∀ ρ' V' hs' a' W' t', K t' → Sub ρ V ρ' V' → StJ N t' J ρ' V' hs' a' W' → Q .normal a' W') : (Code.region id ops false).wpIn Fence.wide 0 C.P Q a W := by
 simp only [gL, Bool.and_eq_true] at hst
 have hd := mH hst.1
 have hnd' : ∀ o ∈ ops, mc o = true := Array.all_eq_true_iff_forall_mem.1 hnd
 have := BZ hC (Q := Q) (ro := none) (n := 0) (B := ⟨ρ, V, hs, W, none⟩) (base := hs.next) (Nat.le_refl _) hd hnd' (m := ops.size) (tl := []) (Nat.le_refl _)
  (fun s' a' w' hk _ hg' => by
   obtain ⟨ρ', V', h1, h2⟩ := StJ.of_gs hJ h.j hg' hk.1
   exact hQ ρ' V' _ _ _ _ hk.2 h2 h1) ops.toList 0 _ a W
  (by rw [List.take_of_length_le (by simp)]; rfl) (Nat.zero_le _) (Nat.le_refl _) (by simpa using h.gs hJ ops.size) (pM _ _ _ hw)
 have this' : wpOpsIn (fen none) 0 C.P ops Q (List.range ops.size) a W := by simpa using this
 exact wpIn_region (F := Fence.wide) this'

theorem AU {C : Ctx} (hC : COk C) {N : Nat} {id : Nat} {ops : Array Oper} {Q : Exit → Act → World → Prop} {t : Nat → AV} {J J' Jx : Rho → bG → HS → World → Prop} (hJ : Abides C J) (hJ' : Abides C J') (hJx : Abides C Jx) (hst : gL N (.region id ops false) = true) (hnd : kD (.region id ops false) = true)
  (m : Nat) (o : Oper) (ho : ops[m]? = some o) {l : Nat} {c : Call} {f : Operand} (hop : o.op = .call c) (hc : c.callee = .value f) {dd : Nat} (hdd : o.dst = some dd) {x : List AV} {b : Bool}
  {K1 : (Nat → AV) → Prop} {K2 : Option Bool → (Nat → AV) → Prop} {ρ : Rho} {V : bG} {hs : HS} {a : Act} {W : World} (h : StJ N t J ρ V hs a W)
  (hw : xw false C (ops.toList.map (·.dst)) hs.next 0 (ops.toList.take m) { objs := hs.objs, next := hs.next + ops.size, tmps := t } (fun s' => s'.objs = hs.objs ∧ K1 s'.tmps))
  (hguard : ∀ t1, K1 t1 → (o.guard = none ∧ b = true) ∨ ∃ g d, o.guard = some (g, true) ∧ (ops.toList[g]?).bind (·.dst) = some d ∧ t1 d = .v (.bool b))
  (hcall : b = true → ∀ (t1 : Nat → AV) (hs' : HS), K1 t1 → ev C { toHS := hs', tmps := t1 } f = .v (.func (.yield l) #[] #[]) ∧ c.args.toList.map (ev C { toHS := hs', tmps := t1 }) = x)
  (hy : b = true → ∀ ρ' V' hs' W' args', Sub ρ V ρ' V' → J ρ' V' hs' W' → Ef ρ' V' x args' → YieldAt Fence.wide 0 C.P l args' W' fun e W'' => ∃ ρ'' V'' hs'', Sub ρ' V' ρ'' V'' ∧ ((e = .returned (.bool true) ∧ J' ρ'' V'' hs'' W'') ∨ (e = .returned (.bool false) ∧ Jx ρ'' V'' hs'' W'')))
  (hw2 : ∀ (r : Option Bool) (t1 : Nat → AV) (hs' : HS), K1 t1 → (r.isSome = b) → xw false C (ops.toList.map (·.dst)) hs'.next (m + 1) (ops.toList.drop (m + 1)) { objs := hs'.objs, next := hs'.next + ops.size, tmps := upd t1 dd (.v (match r with | some r => .bool r | none => undef)) } (fun s' => s'.objs = hs'.objs ∧ K2 r s'.tmps))
  (hQ0 : b = false → ∀ ρ' V' hs' a' W' t', K2 none t' → Sub ρ V ρ' V' → StJ N t' J ρ' V' hs' a' W' → Q .normal a' W')
  (hQ1 : b = true → ∀ ρ' V' hs' a' W' t', K2 (some true) t' → Sub ρ V ρ' V' → StJ N t' J' ρ' V' hs' a' W' → Q .normal a' W')
  (hQ2 : b = true → ∀ ρ' V' hs' a' W' t', K2 (some false) t' → Sub ρ V ρ' V' → StJ N t' Jx ρ' V' hs' a' W' → Q .normal a' W') : (Code.region id ops false).wpIn Fence.wide 0 C.P Q a W := by
 simp only [gL, Bool.and_eq_true] at hst
 have hd := mH hst.1
 have hnd' : ∀ o ∈ ops, mc o = true := Array.all_eq_true_iff_forall_mem.1 hnd
 have hm : m < ops.size := (Array.getElem?_eq_some_iff.1 ho).1
 have hddN : dd < N := hd o (Array.mem_of_getElem? ho) dd hdd
 -- what follows the hand-out
 have rest : ∀ (r : Option Bool) (t1 : Nat → AV) (G : Rho → bG → HS → World → Prop), Abides C G → K1 t1 → r.isSome = b → (∀ ρ' V' hs' a' W' t', K2 r t' → Sub ρ V ρ' V' → StJ N t' G ρ' V' hs' a' W' → Q .normal a' W') →
   ∀ ρ' V' hs' a' W', Sub ρ V ρ' V' → StJ N (upd t1 dd (.v (match r with | some r => .bool r | none => undef))) G ρ' V' hs' a' W' → wpOpsIn (fen none) 0 C.P ops Q ((List.range ops.size).drop (m + 1)) a' W' := by
  intro r t1 G hG hk1 hr hq ρ' V' hs' a' W' hsub hst'
  have hg := hst'.gs hG ops.size
  have := BZ hC (Q := Q) (ro := none) (n := 0) (B := ⟨ρ', V', hs', W', none⟩) (base := hs'.next) (Nat.le_refl _) hd hnd' (m := ops.size) (tl := []) (Nat.le_refl _)
   (fun s' a' w' hk _ hg' => by
    obtain ⟨ρ2, V2, h1, h2⟩ := StJ.of_gs hG hst'.j hg' hk.1
    exact hq ρ2 V2 _ _ _ _ hk.2 (hsub.trans h2) h1) (ops.toList.drop (m + 1)) (m + 1) _ a' W'
   (by rw [List.take_of_length_le (by simp)]) hm (Nat.le_refl _) (by
    obtain ⟨ρ2, V2, q1, q2, q3, q4, q5, q6, q7⟩ := hg
    exact ⟨ρ2, V2, q1, q2, q3, q4, q5, q6, fun id hid => q7 id ⟨by omega, hid.2⟩⟩) (pM _ _ _ (hw2 r t1 hs' hk1 hr))
  simpa using this
 have key : wpOpsIn (fen none) 0 C.P ops Q ((List.range m).drop 0 ++ (m :: (List.range ops.size).drop (m + 1))) a W := by
  refine BZ hC (Q := Q) (ro := none) (n := 0) (B := ⟨ρ, V, hs, W, none⟩) (base := hs.next) (Nat.le_refl _) hd hnd' (m := m) (Nat.le_of_lt hm) ?_ (ops.toList.take m) 0 _ a W rfl (Nat.zero_le _) (Nat.le_refl _) (by simpa using h.gs hJ ops.size) (pM _ _ _ hw)
  intro s1 a1 w1 hk1 _ hg1
  obtain ⟨ρ1, V1, hs1, hsub1⟩ := StJ.of_gs hJ h.j hg1 hk1.1
  simp only [wpOpsIn, ho]
  have put : ∀ (y : Value) (G : Rho → bG → HS → World → Prop) ρ' V' hs' W', Sub ρ1 V1 ρ' V' → G ρ' V' hs' W' → StJ N (upd s1.tmps dd (.v y)) G ρ' V' hs' (a1.put o.dst y) W' := by
   intro y G ρ' V' hs' W' hsub hG
   refine ⟨?_, hG, by rw [pi]; exact hs1.sz, by rw [r7]; exact hs1.df⟩
   have := pZ (a := a1) (dst := o.dst) (fun i => (hs1.tm i).mono hsub.rho hsub.view) (Rel.v y) hs1.sz (fun d hd' => by rw [hdd] at hd'; cases hd'; exact hddN)
   rw [hdd] at this ⊢
   exact this
  have yes : b = true → o.wpIn (fen none) 0 C.P a1 w1 (wpOpsIn (fen none) 0 C.P ops Q ((List.range ops.size).drop (m + 1))) Q := by
   intro hb
   obtain ⟨hf, hx⟩ := hcall hb s1.tmps s1.toHS hk1.2
   have hgt := (hJ.inv _ _ _ _ hs1.j).2
   have hfe := Rel.v_inv (hf ▸ jE (s := s1) hs1.tm hgt f)
   have hargs : Ef ρ1 V1 x (c.args.map a1.eval) := by
    rw [← hx]
    refine ⟨by simp, fun i x y hx hy => ?_⟩
    simp only [List.getElem?_map, Option.map_eq_some_iff, Array.getElem?_map, Array.getElem?_toList] at hx hy
    obtain ⟨z, hz, rfl⟩ := hx
    obtain ⟨z', hz', rfl⟩ := hy
    rw [hz] at hz'; cases hz'
    exact jE (s := s1) hs1.tm hgt z
   obtain ⟨fn, tmps, assign, body, hrun, hround⟩ := hy hb ρ1 V1 s1.toHS w1 _ hsub1 hs1.j hargs
   have hex : (o.semAt none a1.eval).run C.P w1 = .ok (.round l fn tmps assign body) w1 := by
    rw [Oper.semAt_none]
    obtain ⟨dst, op, type, pos, after, guard⟩ := o
    obtain ⟨callee, as, ts⟩ := c
    simp only at hop hc
    subst hop; subst hc
    simp only [execOp, resolve, hfe]
    simpa [Deferred.ofValue, invoke, go_sem] using hrun
   unfold Oper.wpIn
   refine ⟨fun _ _ => trivial, ?_⟩
   show o.uponIn _ _ _ _ _ _ ((o.semAt none a1.eval).run C.P w1)
   rw [hex]
   simp only [Oper.uponIn]
   refine ⟨tD none 0, ?_⟩
   refine RoundIn.mono (F := fen none) hround ?_
   rintro e w2 ⟨ρ2, V2, hs2, hsub2, (⟨rfl, hj2⟩ | ⟨rfl, hj2⟩)⟩
   ·
    exact rest (some true) s1.tmps J' hJ' hk1.2 (by simp [hb]) (hQ1 hb) ρ2 V2 hs2 _ _ (hsub1.trans hsub2) (put _ J' ρ2 V2 hs2 w2 hsub2 hj2)
   ·
    exact rest (some false) s1.tmps Jx hJx hk1.2 (by simp [hb]) (hQ2 hb) ρ2 V2 hs2 _ _ (hsub1.trans hsub2) (put _ Jx ρ2 V2 hs2 w2 hsub2 hj2)
  rcases hguard s1.tmps hk1.2 with ⟨hg, hb⟩ | ⟨g, d, hg, hgd, hgv⟩
  ·
   have hw' : Region.wanted o (yielded ops a1.tmps) = true := by simp [Region.wanted, hg]
   rw [if_pos hw']
   exact yes hb
  ·
   have hdN : d < N := by
    obtain ⟨og, hog, hdg⟩ := Option.bind_eq_some_iff.1 hgd
    exact hd og (by rw [← Array.mem_toList_iff]; exact List.mem_of_getElem? hog) d hdg
   have hw' := mw hg hgd (s := s1) hs1.tm hgv hs1.sz hdN
   cases hb : b with
   | true =>
    rw [hw'.1 (by rw [hb]), if_pos rfl]
    exact yes hb
   | false =>
    rw [hw'.2 (by rw [hb]; simp), if_neg (by simp)]
    refine ⟨fun _ _ => trivial, ?_⟩
    exact rest none s1.tmps J hJ hk1.2 (by simp [hb]) (hQ0 hb) ρ1 V1 s1.toHS _ _ hsub1 (put _ J ρ1 V1 s1.toHS w1 (Sub.refl _ _) hs1.j)
 refine wpIn_region ?_
 have hrange : List.range ops.size = (List.range m).drop 0 ++ (m :: (List.range ops.size).drop (m + 1)) := by
  have h1 : (List.range ops.size).drop m = m :: (List.range ops.size).drop (m + 1) := by
   rw [List.drop_eq_getElem_cons (by simpa using hm)]; simp
  have h2 : (List.range ops.size).take m = List.range m := by
   rw [List.take_range, Nat.min_eq_left (Nat.le_of_lt hm)]
  rw [List.drop_zero, ← h1, ← h2, List.take_append_drop]
 rw [hrange]
 exact key

theorem zJ {C : Ctx} {N : Nat} {t : Nat → AV} {J : Rho → bG → HS → World → Prop} {ρ : Rho} {V : bG} {hs : HS} {a : Act} {W : World} {fn : Func} {R : Ending → World → Prop} (h : StJ N t J ρ V hs a W) (hr : fn.results = #[]) (hR : ∀ v, J ρ V hs W → R (.returned v) W) :
  a.defers = [] ∧ ∃ v, (results fn a.tmps).run C.P W = .ok v W ∧ R (.returned v) W :=
 ⟨h.df, _, results_none hr _ _ _, hR _ h.j⟩

end Go.AX.Z
