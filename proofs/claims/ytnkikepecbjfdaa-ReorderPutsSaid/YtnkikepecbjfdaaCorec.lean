/- A part of the proof: an abstract reading of the model, proved sound. -/
import Derived.Test.YtnkikepecbjfdaaCoreb
import Derived.Laws.Externs
import GoSem.Extern.BytealgCompare
import Derived.Lib.Overlaps
import Derived.OrdersIn
import Derived.RangeFuncCalls
set_option linter.unusedVariables false
set_option linter.unusedSimpArgs false

/-! (AyG) -/

namespace Go.AX.Z
open Go.AX

theorem RenM.ptr (i off : Nat) : RenM fun q => .ptr (q i) off := by
 intro a b ρ ρ' V y he hr
 cases hr with
 | ptr _ _ loc h => exact .ptr (b i) off loc (by rw [he]; exact h)
theorem RenM.clo {f : Nat} {l m : (Nat → Nat) → List AV} (h : RenML l) (h' : RenML m) : RenM fun q => .clo f (l q) (m q) := by
 intro a b ρ ρ' V y he hr
 cases hr with
 | clo _ _ _ xs ys h1 h2 H1 H2 => exact .clo f _ _ xs ys (by rw [h1, h.get.1 a b]) (by rw [h2, h'.get.1 a b]) (h.list he H1) (h'.list he H2)

theorem RelC.renM {l : (Nat → Nat) → List AV} (h : RenML l) {a b : Nat → Nat} {ρ ρ' : Rho} {V : View} {c : Array Value} {o : Nat} (he : ∀ i, ρ' (b i) = ρ (a i)) (hr : RelC ρ V (l a) c o) : RelC ρ' V (l b) c o := by
 refine ⟨by rw [h.get.1 b a]; exact hr.le, fun i x y hx hy => ?_, fun i y hi hy => hr.sto i y (by rw [h.get.1 a b]; exact hi) hy⟩
 have hi : i < (l b).length := (List.getElem?_eq_some_iff.1 hx).1
 have hi' : i < (l a).length := by rw [h.get.1 a b]; exact hi
 have e : (l a)[i]? = some (l a)[i] := by simp [hi']
 exact h.get.2 i a b _ _ e hx ρ ρ' V y he (hr.rel i _ y e hy)

abbrev Tpl := (Nat → Nat) → List AV

def ex (k : Nat) (θ : Nat → Nat) (n : Nat) : Nat → Nat := fun i => if i < k then θ i else n + (i - k)
theorem ex_eq (k : Nat) (θ : Nat → Nat) (n i : Nat) : ex k θ n i = if i < k then θ i else n + (i - k) := rfl

def iniO (I : List Tpl) : Nat → Ob := fun i => match I[i]? with
 | some c => .live (c fun i => i)
 | none => .dead
def obOf (θ : Nat → Nat) : Option Tpl → Ob
 | some c => .live (c θ)
 | none => .dead
theorem obOf_s (θ : Nat → Nat) (c : Tpl) : obOf θ (some c) = .live (c θ) := rfl
theorem obOf_n (θ : Nat → Nat) : obOf θ none = .dead := rfl
def finL (objs : Nat → Ob) (θ : Nat → Nat) : Nat → List (Option Tpl) → Nat → Ob
 | _, [] => objs
 | i, e :: l => finL (upd objs (θ i) (obOf θ e)) θ (i + 1) l
theorem finL_n (objs : Nat → Ob) (θ : Nat → Nat) (i : Nat) : finL objs θ i [] = objs := rfl
theorem finL_c (objs : Nat → Ob) (θ : Nat → Nat) (i : Nat) (e : Option Tpl) (l : List (Option Tpl)) : finL objs θ i (e :: l) = finL (upd objs (θ i) (obOf θ e)) θ (i + 1) l := rfl

theorem finL_get (θ : Nat → Nat) : ∀ (l : List (Option Tpl)) (i0 : Nat) (objs : Nat → Ob) (id : Nat), (∀ i j, i < i0 + l.length → j < i0 + l.length → θ i = θ j → i = j) →
  (∀ j e, l[j]? = some e → θ (i0 + j) = id → finL objs θ i0 l id = obOf θ e) ∧ ((∀ j, j < l.length → θ (i0 + j) ≠ id) → finL objs θ i0 l id = objs id)
 | [], i0, objs, id, _ => ⟨fun j e h => by simp at h, fun _ => rfl⟩
 | e :: l, i0, objs, id, hinj => by
  have ih := finL_get θ l (i0 + 1) (upd objs (θ i0) (obOf θ e)) id (fun i j hi hj => hinj i j (by simp; omega) (by simp; omega))
  refine ⟨fun j e' he hid => ?_, fun hn => ?_⟩
  ·
   rw [finL_c]
   cases j with
   | zero =>
    simp at he; subst he
    rw [ih.2, ← hid]
    ·
     exact upd_eq _ _ _
    ·
     intro j hj heq
     have := hinj (i0 + 1 + j) i0 (by simp; omega) (by simp) (by rw [heq, ← hid]; rfl)
     omega
   | succ j =>
    simp at he
    exact ih.1 j e' he (by rw [← hid]; congr 1; omega)
  ·
   rw [finL_c, ih.2]
   ·
    exact upd_ne _ _ fun h => hn 0 (by simp) (by rw [h]; rfl)
   ·
    intro j hj heq
    exact hn (j + 1) (by simp; omega) (by rw [← heq]; congr 1; omega)

def ResIO (k : Nat) (r' : AV) (s' : HS) (mk : (Nat → Nat) → AV) (E : List (Option Tpl)) : Prop :=
 ∃ (F dd : List Nat) (σ : List (Option Nat)), sgD k dd σ = true ∧ (∀ i ∈ dd, E[i]? = some none) ∧ σ.length = E.length ∧
  (∀ (i old : Nat) c, σ[i]? = some (some old) → E[i]? = some (some c) → old ∉ F ∧ ∃ xs, s'.objs old = .live xs ∧ TmL ⟨s', fun _ => .unk⟩ F σ xs (c fun i => i)) ∧ Tm ⟨s', fun _ => .unk⟩ F σ r' (mk fun i => i)

def SndG (X : Array Value → World → (Ending → World → Prop) → Prop) (C : Ctx) (args : List AV) (s : HS) (Q : AV → HS → Prop) : Prop :=
 True ∧ ∀ (ρ : Rho) (V : View) (w : World) (args' : Array Value), args'.size = args.length → (∀ (i : Nat) x y, args[i]? = some x → args'[i]? = some y → Rel ρ V x y) →
  Inv ρ V s w → GtOk C V → X args' w fun e w' => ∃ y r s' ρ' V', e = .returned y ∧ Q r s' ∧ Rel ρ' V' r y ∧ Inv ρ' V' s' w' ∧ Grew ρ V s w ρ' V' s' w'
theorem SndG.of_io {C : Ctx} {X : Array Value → World → (Ending → World → Prop) → Prop} (hX : ∀ {a : Array Value} {w : World} {Q Q' : Ending → World → Prop}, X a w Q → (∀ e w', Q e w' → Q' e w') → X a w Q') {k : Nat} {args : (Nat → Nat) → List AV} {I : List Tpl} {E : List (Option Tpl)} {mk : (Nat → Nat) → AV} (hargs : RenML args) (hIr : ∀ c ∈ I, RenML c) (hEr : ∀ c, some c ∈ E → RenML c) (hmk : RenM mk) (hk : I.length = k) (hkE : k ≤ E.length)
  (h : SndG X C (args fun i => i) ⟨iniO I, k⟩ fun r' s' => ResIO k r' s' mk E) (hs : HS) (θ : Nat → Nat) (hθ : ∀ i j, i < k → j < k → θ i = θ j → i = j) (hθn : ∀ i, i < k → θ i < hs.next)
  (hlive : ∀ i c, I[i]? = some c → hs.objs (θ i) = .live (c (ex k θ hs.next))) :
  SndG X C (args (ex k θ hs.next)) hs fun r hs' => r = mk (ex k θ hs.next) ∧ hs' = ⟨finL hs.objs (ex k θ hs.next) 0 E, hs.next + (E.length - k)⟩ := by
 refine ⟨trivial, fun ρ V w args' h1 h2 hI hG => ?_⟩
 let θ' := ex k θ hs.next
 have hθs : ∀ i, i < k → θ' i = θ i := fun i hi => by simp only [θ', ex, if_pos hi]
 have hθb : ∀ i, k ≤ i → θ' i = hs.next + (i - k) := fun i hi => by simp only [θ', ex, if_neg (by omega : ¬ i < k)]
 let ρ0 : Rho := fun i => if i < k then ρ (θ i) else none
 have hρ0s : ∀ i, i < k → ρ0 i = ρ (θ i) := fun i hi => by simp only [ρ0, if_pos hi]
 have hρ0 : ∀ i, ρ0 i = ρ (θ' i) := by
  intro i
  rcases Nat.lt_or_ge i k with hi | hi
  ·
   rw [hρ0s i hi, hθs i hi]
  ·
   rw [hθb i hi, hI.fresh _ (Nat.le_add_right _ _)]; simp only [ρ0, if_neg (by omega : ¬ i < k)]
 have hini : ∀ id cells, iniO I id = .live cells → id < k ∧ ∃ c, I[id]? = some c ∧ cells = c fun i => i := by
  intro id cells hl
  unfold iniO at hl
  split at hl
  ·
   rename_i c hc
   cases hl
   exact ⟨by rw [← hk]; exact (List.getElem?_eq_some_iff.1 hc).1, c, hc, rfl⟩
  ·
   cases hl
 have hI0 : Inv ρ0 V ⟨iniO I, k⟩ w := by
  refine ⟨hI.view, fun id hid => by simp only [ρ0]; exact if_neg (by simp only at hid; omega), fun id cells loc hl hr => ?_, fun id cells loc hl => ?_, fun i j li lj ci cj hi hj hri hrj hb => ?_⟩
  ·
   obtain ⟨hid, c, hc, rfl⟩ := hini id cells hl
   rw [hρ0s id hid] at hr
   obtain ⟨cc, T, g1, g2, g3, g4⟩ := hI.live (θ id) _ loc (hlive id c hc) hr
   exact ⟨cc, T, g1, g2, RelC.renM (hIr c (List.mem_of_getElem? hc)) (a := θ') (b := fun i => i) hρ0 g3, g4⟩
  ·
   simp only [iniO] at hl
   split at hl <;> cases hl
  ·
   obtain ⟨hid, c, hc, rfl⟩ := hini i ci hi
   obtain ⟨hjd, d, hd, rfl⟩ := hini j cj hj
   rw [hρ0s i hid] at hri
   rw [hρ0s j hjd] at hrj
   exact hθ i j hid hjd (hI.inj _ _ li lj _ _ (hlive i c hc) (hlive j d hd) hri hrj hb)
 have ha' : ∀ (i : Nat) x y, (args fun i => i)[i]? = some x → args'[i]? = some y → Rel ρ0 V x y := hargs.list (a := θ') (b := fun i => i) hρ0 h2
 have hown0 : ∀ b, Own ρ0 ⟨iniO I, k⟩ b → ∃ i c loc, i < k ∧ I[i]? = some c ∧ ρ (θ i) = some loc ∧ loc.b = b := by
  rintro b ⟨id, cells, loc, hl, hr, hb⟩
  obtain ⟨hid, c, hc, rfl⟩ := hini id cells hl
  rw [hρ0s id hid] at hr
  exact ⟨id, c, loc, hid, hc, hr, hb⟩
 have hown1 : ∀ b, Own ρ0 ⟨iniO I, k⟩ b → Own ρ hs b := by
  intro b hb
  obtain ⟨i, c, loc, _, hc, hr, hb'⟩ := hown0 b hb
  exact ⟨θ i, _, loc, hlive i c hc, hr, hb'⟩
 refine hX (h.2 ρ0 V w args' (by rw [h1]; exact hargs.get.1 _ _) ha' hI0 hG) ?_
 rintro ed w' ⟨y, r', s', ρ', V', rfl, ⟨F, dd, σ, hsg, hdd, hlen, hobj, htm⟩, hrel, hinv, hg⟩
 have hinj := sgD_inj hsg
 simp only [sgD, Bool.and_eq_true, decide_eq_true_eq, List.all_eq_true, List.mem_range, beq_iff_eq] at hsg
 obtain ⟨hsk, hsn⟩ := hsg
 have ofo : ∀ b, OwnF F ρ' s' b → Own ρ' s' b := fun b ⟨id, cells, loc, _, g1, g2, g3⟩ => ⟨id, cells, loc, g1, g2, g3⟩
 have hfg : ∀ b c, VF F ρ' V' s' w' b = some c → V b = some c ∨ Own ρ0 ⟨iniO I, k⟩ b ∨ w.heap.size ≤ b := by
  intro b c hv
  rcases VF_cases hv with h5 | ⟨h5, _⟩
  ·
   exact hg.vnew b c h5
  ·
   exact .inr (hg.own b (ofo b h5))
 have hvm : ∀ b c, V b = some c → VF F ρ' V' s' w' b = some c := fun b c hv => VF_mono _ _ (hg.view b c hv)
 let ρ1 : Rho := fun i => match σ[i]? with
  | some (some old) => ρ' old
  | _ => none
 have hρ1 : ∀ i old, σ[i]? = some (some old) → ρ1 i = ρ' old := fun i old h => by simp only [ρ1, h]
 have hρ1s : ∀ i loc, ρ1 i = some loc → ∃ old, σ[i]? = some (some old) ∧ ρ' old = some loc := by
  intro i loc h
  simp only [ρ1] at h
  split at h
  ·
   rename_i old ho'; exact ⟨old, ho', h⟩
  ·
   cases h
 have hρ1k : ∀ i, i < k → ρ1 i = ρ (θ i) := fun i hi => by rw [hρ1 i i (hsk i hi), hg.old i hi, hρ0s i hi]
 let ρ2 : Rho := fun id => if hs.next ≤ id then ρ1 (k + (id - hs.next)) else ρ id
 have hold : ∀ id, id < hs.next → ρ2 id = ρ id := fun id hid => by simp only [ρ2, if_neg (by omega : ¬ hs.next ≤ id)]
 have hθ2 : ∀ i, ρ2 (θ' i) = ρ1 i := by
  intro i
  rcases Nat.lt_or_ge i k with hi | hi
  ·
   rw [hθs i hi, hold _ (hθn i hi), hρ1k i hi]
  ·
   rw [hθb i hi]
   simp only [ρ2, if_pos (Nat.le_add_right _ _), Nat.add_sub_cancel_left]
   rw [Nat.add_sub_cancel' hi]
 have hrho : ∀ id loc, ρ id = some loc → ρ2 id = some loc := by
  intro id loc hl
  rcases Nat.lt_or_ge id hs.next with h' | h'
  ·
   rw [hold id h']; exact hl
  ·
   rw [hI.fresh id h'] at hl; cases hl
 have hc : Cvt ⟨s', fun _ => .unk⟩ F σ ρ' ρ1 V' (VF F ρ' V' s' w') := by
  refine ⟨hρ1, VF_mono, fun id cells loc hid hl hr => ?_⟩
  obtain ⟨c, T, g1, g2, g3, g4⟩ := hinv.live id cells loc hl hr
  refine ⟨c, ?_, g3⟩
  have hof : OwnF F ρ' s' loc.b := ⟨id, cells, loc, hid, hl, hr, rfl⟩
  simp only [VF, g4, if_pos hof, g1]
 have hθi : ∀ i j, i < 0 + E.length → j < 0 + E.length → θ' i = θ' j → i = j := by
  intro i j _ _ hij
  rcases Nat.lt_or_ge i k with hi | hi <;> rcases Nat.lt_or_ge j k with hj | hj
  ·
   rw [hθs i hi, hθs j hj] at hij; exact hθ i j hi hj hij
  ·
   rw [hθs i hi, hθb j hj] at hij; have := hθn i hi; omega
  ·
   rw [hθb i hi, hθs j hj] at hij; have := hθn j hj; omega
  ·
   rw [hθb i hi, hθb j hj] at hij; omega
 -- the objects behind
 have hob : ∀ id, (∃ i e, E[i]? = some e ∧ θ' i = id ∧ finL hs.objs θ' 0 E id = obOf θ' e) ∨ ((∀ i, i < E.length → θ' i ≠ id) ∧ finL hs.objs θ' 0 E id = hs.objs id) := by
  intro id
  obtain ⟨g1, g2⟩ := finL_get θ' E 0 hs.objs id hθi
  by_cases hh : ∃ i, i < E.length ∧ θ' i = id
  ·
   obtain ⟨i, hi, hid⟩ := hh
   have e : E[i]? = some E[i] := by simp [hi]
   exact .inl ⟨i, _, e, hid, g1 i _ e (by rw [Nat.zero_add]; exact hid)⟩
  ·
   have hn : ∀ i, i < E.length → θ' i ≠ id := fun i hi he => hh ⟨i, hi, he⟩
   exact .inr ⟨hn, g2 fun j hj => by rw [Nat.zero_add]; exact hn j hj⟩
 have hlo : ∀ id cs, finL hs.objs θ' 0 E id = .live cs → (∃ i c, E[i]? = some (some c) ∧ θ' i = id ∧ cs = c θ') ∨ ((∀ i, i < E.length → θ' i ≠ id) ∧ hs.objs id = .live cs) := by
  intro id cs hl
  rcases hob id with ⟨i, e, g1, g2, g3⟩ | ⟨g1, g2⟩
  ·
   rw [g3] at hl
   cases e with
   | none => cases hl
   | some c => cases hl; exact .inl ⟨i, c, g1, g2, rfl⟩
  ·
   rw [g2] at hl; exact .inr ⟨g1, hl⟩
 have newO : ∀ i c loc, E[i]? = some (some c) → ρ2 (θ' i) = some loc → ∃ old xs, σ[i]? = some (some old) ∧ ρ' old = some loc ∧ old ∉ F ∧ s'.objs old = .live xs ∧ TmL ⟨s', fun _ => .unk⟩ F σ xs (c fun i => i) := by
  intro i c loc hE hρ
  rw [hθ2] at hρ
  obtain ⟨old, g1, g2⟩ := hρ1s _ _ hρ
  obtain ⟨g3, xs, g4, g5⟩ := hobj _ old c g1 hE
  exact ⟨old, xs, g1, g2, g3, g4, g5⟩
 -- an object that was not handed over
 have othO : ∀ id cs loc, (∀ i, i < E.length → θ' i ≠ id) → hs.objs id = .live cs → ρ2 id = some loc → ρ id = some loc ∧ ¬ Own ρ0 ⟨iniO I, k⟩ loc.b ∧ loc.b < w.heap.size := by
  intro id cs loc hn hl hρ
  have hid : id < hs.next := by
   rcases Nat.lt_or_ge id hs.next with h' | h'
   ·
    exact h'
   ·
    exfalso
    have e1 : θ' (k + (id - hs.next)) = id := by rw [hθb _ (Nat.le_add_right _ _)]; omega
    have e2 := hθ2 (k + (id - hs.next))
    rw [e1, hρ] at e2
    obtain ⟨old, g1, _⟩ := hρ1s _ _ e2.symm
    have := (List.getElem?_eq_some_iff.1 g1).1
    exact hn _ (by omega) e1
  rw [hold id hid] at hρ
  refine ⟨hρ, fun ho => ?_, ?_⟩
  ·
   obtain ⟨i, c, loc', hi, hc', hr', hb'⟩ := hown0 _ ho
   have := hI.inj (θ i) id loc' loc _ _ (hlive i c hc') hl hr' hρ hb'
   exact hn i (by omega) (by rw [hθs i hi]; exact this)
  ·
   obtain ⟨c, T, g1, _⟩ := hI.live id cs loc hl hρ
   exact lt_heap g1
 refine ⟨y, mk θ', ⟨finL hs.objs θ' 0 E, hs.next + (E.length - k)⟩, ρ2, VF F ρ' V' s' w', rfl, ⟨rfl, rfl⟩, ?_, ?_, ?_⟩
 ·
  exact hmk _ _ ρ1 ρ2 _ _ hθ2 (htm ρ' ρ1 V' _ y hc hrel)
 ·
  refine ⟨fun b c hv => ?_, fun id hid => ?_, fun id cs loc hl hρ => ?_, fun id cs loc hl hρ => ?_, fun i j li lj ci cj hi hj hρi hρj hb => ?_⟩
  ·
   rcases VF_cases hv with h5 | ⟨_, h5⟩
   ·
    exact hinv.view b c h5
   ·
    exact h5
  ·
   have hn : hs.next ≤ id := by simp only at hid; omega
   have : σ[k + (id - hs.next)]? = none := List.getElem?_eq_none (by simp only at hid; omega)
   simp only [ρ2, if_pos hn, ρ1, this]
  ·
   rcases hlo id cs hl with ⟨i, c, hE, hid, rfl⟩ | ⟨hn, hl'⟩
   ·
    subst hid
    obtain ⟨old, xs, g1, g2, g3, g4, g5⟩ := newO i c loc hE hρ
    obtain ⟨cc, T, e1, e2, e3, e4⟩ := hinv.live old xs loc g4 g2
    refine ⟨cc, T, e1, e2, RelC.renM (hEr c (List.mem_of_getElem? hE)) (a := fun i => i) (b := θ') hθ2 (g5.relC hc e3), ?_⟩
    cases hv : VF F ρ' V' s' w' loc.b with
    | none => rfl
    | some c' =>
     rcases VF_cases hv with h7 | ⟨⟨id', cs', loc', m1, m2, m3, m4⟩, _⟩
     ·
      rw [e4] at h7; cases h7
     ·
      have := hinv.inj id' old loc' loc cs' xs m2 g4 m3 g2 m4
      subst this
      exact absurd m1 g3
   ·
    obtain ⟨hρo, hno, hlt⟩ := othO id cs loc hn hl' hρ
    obtain ⟨cc, T, g1, g2, g3, g4⟩ := hI.live id cs loc hl' hρo
    refine ⟨cc, T, by rw [hg.keep _ hlt hno]; exact g1, g2, g3.mono hrho hvm, ?_⟩
    cases hv : VF F ρ' V' s' w' loc.b with
    | none => rfl
    | some c' =>
     rcases hfg _ _ hv with h7 | h7 | h7
     ·
      rw [g4] at h7; cases h7
     ·
      exact absurd h7 hno
     ·
      omega
  ·
   simp only at hl
   rcases hob id with ⟨i, e, g1, g2, g3⟩ | ⟨g1, g2⟩
   ·
    rw [g3] at hl
    cases e <;> cases hl
   ·
    rw [g2] at hl
    have hid : id < hs.next := by
     rcases Nat.lt_or_ge id hs.next with h' | h'
     ·
      exact h'
     ·
      exfalso
      have e1 : θ' (k + (id - hs.next)) = id := by rw [hθb _ (Nat.le_add_right _ _)]; omega
      have e2 := hθ2 (k + (id - hs.next))
      rw [e1, hρ] at e2
      obtain ⟨old, m1, _⟩ := hρ1s _ _ e2.symm
      have := (List.getElem?_eq_some_iff.1 m1).1
      exact g1 _ (by omega) e1
    rw [hold id hid] at hρ
    obtain ⟨c, m1, m2, m3⟩ := hI.froz id cs loc hl hρ
    exact ⟨c, hvm _ _ m1, m2.mono hrho hvm, m3⟩
  ·
   rcases hlo i ci hi with ⟨a, c, hE, hid, rfl⟩ | ⟨hn, hl'⟩ <;> rcases hlo j cj hj with ⟨a', c', hE', hid', rfl⟩ | ⟨hn', hl''⟩
   ·
    subst hid; subst hid'
    obtain ⟨oi, xi, g1, g2, g3, g4, g5⟩ := newO a c li hE hρi
    obtain ⟨oj, xj, k1, k2, k3, k4, k5⟩ := newO a' c' lj hE' hρj
    have := hinv.inj oi oj li lj xi xj g4 k4 g2 k2 hb
    subst this
    rw [hinj _ _ oi (fun h => by rw [hdd _ h] at hE; cases hE) (fun h => by rw [hdd _ h] at hE'; cases hE') g1 k1]
   ·
    subst hid
    obtain ⟨oi, xi, g1, g2, g3, g4, g5⟩ := newO a c li hE hρi
    obtain ⟨hρo, hno, hlt⟩ := othO j cj lj hn' hl'' hρj
    rcases hg.own li.b ⟨oi, xi, li, g4, g2, rfl⟩ with h7 | h7
    ·
     rw [hb] at h7; exact absurd h7 hno
    ·
     omega
   ·
    subst hid'
    obtain ⟨oj, xj, k1, k2, k3, k4, k5⟩ := newO a' c' lj hE' hρj
    obtain ⟨hρo, hno, hlt⟩ := othO i ci li hn hl' hρi
    rcases hg.own lj.b ⟨oj, xj, lj, k4, k2, rfl⟩ with h7 | h7
    ·
     rw [← hb] at h7; exact absurd h7 hno
    ·
     omega
   ·
    exact hI.inj i j li lj ci cj hl' hl'' (othO i ci li hn hl' hρi).1 (othO j cj lj hn' hl'' hρj).1 hb
 ·
  refine ⟨hrho, hold, Nat.le_add_right _ _, hvm, hg.size, fun b hb hno => hg.keep b hb fun ho => hno (hown1 b ho), ?_, ?_, hg.mem⟩
  ·
   rintro b ⟨id, cs, loc, hl, hρ, rfl⟩
   rcases hlo id cs hl with ⟨i, c, hE, hid, rfl⟩ | ⟨hn, hl'⟩
   ·
    subst hid
    obtain ⟨old, xs, g1, g2, g3, g4, g5⟩ := newO i c loc hE hρ
    exact (hg.own loc.b ⟨old, xs, loc, g4, g2, rfl⟩).imp (hown1 _) id
   ·
    exact .inl ⟨id, cs, loc, hl', (othO id cs loc hn hl' hρ).1, rfl⟩
  ·
   intro b c hv
   rcases hfg b c hv with h5 | h5 | h5
   ·
    exact .inl h5
   ·
    exact .inr (.inl (hown1 b h5))
   ·
    exact .inr (.inr h5)

theorem Snd.of_io {C : Ctx} {f : FuncId} {k : Nat} {args : (Nat → Nat) → List AV} {I : List Tpl} {E : List (Option Tpl)} {mk : (Nat → Nat) → AV} (hargs : RenML args) (hIr : ∀ c ∈ I, RenML c) (hEr : ∀ c, some c ∈ E → RenML c) (hmk : RenM mk) (hk : I.length = k) (hkE : k ≤ E.length)
  (h : Snd C f (args fun i => i) ⟨iniO I, k⟩ fun r' s' => ResIO k r' s' mk E) (hs : HS) (θ : Nat → Nat) (hθ : ∀ i j, i < k → j < k → θ i = θ j → i = j) (hθn : ∀ i, i < k → θ i < hs.next)
  (hlive : ∀ i c, I[i]? = some c → hs.objs (θ i) = .live (c (ex k θ hs.next))) :
  Snd C f (args (ex k θ hs.next)) hs fun r hs' => r = mk (ex k θ hs.next) ∧ hs' = ⟨finL hs.objs (ex k θ hs.next) 0 E, hs.next + (E.length - k)⟩ :=
 SndG.of_io (X := XC C.P f) (fun h hq => h.mono hq) hargs hIr hEr hmk hk hkE h hs θ hθ hθn hlive

end Go.AX.Z

/-! (AyH) -/

namespace Go.AX.Z
open Go.AX

theorem SndE.of_res {C : Ctx} {f : FuncId} {args : List AV} {mk : (Nat → Nat) → AV} {CS : List AV} (hmk : RenM mk) (hcl : ∀ c ∈ CS, Clean c) (ha : ∀ x ∈ args, Clean x) (h0 : ∀ a b : Nat → Nat, a 0 = b 0 → mk a = mk b)
  (h : Snd C f args (deadH 0) fun r' s' => Res r' s' mk [CS]) (hs : HS) (fr : Nat) : SndE C f args hs fr ⟨mk fun _ => fr, .new CS⟩ := by
 intro ρ V w args' h1 h2 hI hG hfr hfn
 have hI0 : Inv r0 V (deadH 0) w := ⟨hI.view, fun _ _ => rfl, fun id cells loc hl => by simp [deadH] at hl, fun id cells loc hl => by simp [deadH] at hl, fun i j li lj ci cj hi => by simp [deadH] at hi⟩
 have ha' : ∀ (i : Nat) x y, args[i]? = some x → args'[i]? = some y → Rel r0 V x y := fun i x y hx hy => ha x (List.mem_of_getElem? hx) _ _ _ _ (h2 i x y hx hy)
 refine (h.2 r0 V w args' h1 ha' hI0 hG).mono ?_
 rintro ed w' ⟨y, r', s', ρ', V', rfl, ⟨F, σ, hsg, hlen, hobj, htm⟩, hrel, hinv, hg⟩
 simp only [sgB, Bool.and_eq_true, decide_eq_true_eq] at hsg
 have hinj := sg_inj hsg.2
 have noOwn : ∀ b, ¬ Own r0 (deadH 0) b := by rintro b ⟨id, cs, loc, g1, _⟩; simp [deadH] at g1
 have hlow : ∀ b, Own ρ' s' b → w.heap.size ≤ b := fun b hb => (hg.own b hb).elim (fun h => (noOwn b h).elim) id
 have hvg : ∀ b c, V' b = some c → V b = some c ∨ w.heap.size ≤ b := by
  intro b c hv
  rcases hg.vnew b c hv with h5 | h5 | h5
  ·
   exact .inl h5
  ·
   exact (noOwn b h5).elim
  ·
   exact .inr h5
 have ofo : ∀ b, OwnF F ρ' s' b → Own ρ' s' b := fun b ⟨id, cells, loc, _, g1, g2, g3⟩ => ⟨id, cells, loc, g1, g2, g3⟩
 have hk : ∀ b, b < w.heap.size → w'.heap[b]? = w.heap[b]? := fun b hb => hg.keep b hb (noOwn b)
 have hfg : ∀ b c, VF F ρ' V' s' w' b = some c → V b = some c ∨ w.heap.size ≤ b := by
  intro b c hv
  rcases VF_cases hv with h5 | ⟨h5, _⟩
  ·
   exact hvg b c h5
  ·
   exact .inr (hlow b (ofo b h5))
 have hvm : ∀ b c, V b = some c → VF F ρ' V' s' w' b = some c := fun b c hv => VF_mono _ _ (hg.view b c hv)
 let ρ1 : Rho := fun i => match σ[i]? with
  | some (some old) => ρ' old
  | _ => none
 have hρ1 : ∀ i old, σ[i]? = some (some old) → ρ1 i = ρ' old := fun i old h => by simp only [ρ1, h]
 have hρ1s : ∀ i loc, ρ1 i = some loc → ∃ old, σ[i]? = some (some old) ∧ ρ' old = some loc := by
  intro i loc h
  simp only [ρ1] at h
  split at h
  ·
   rename_i old ho'; exact ⟨old, ho', h⟩
  ·
   cases h
 have h10 : ∀ i, 0 < i → ρ1 i = none := by
  intro i hi
  have : σ[i]? = none := List.getElem?_eq_none (by rw [hlen]; simp; omega)
  simp only [ρ1, this]
 let b : Nat → Nat := fun i => if i = 0 then fr else hs.next + i
 have hb0 : mk b = mk fun _ => fr := h0 _ _ rfl
 let ρ2 : Rho := fun id => if id = fr then ρ1 0 else ρ id
 have hρ2 : ∀ i, ρ2 (b i) = ρ1 i := by
  intro i
  rcases Nat.eq_zero_or_pos i with rfl | hi
  ·
   simp [ρ2, b]
  ·
   have e : b i = hs.next + i := if_neg (by omega)
   rw [e, h10 i hi]
   simp only [ρ2, if_neg (by omega : ¬ hs.next + i = fr)]
   exact hI.fresh _ (Nat.le_add_right _ _)
 have hoth : ∀ id, id ≠ fr → ρ2 id = ρ id := fun id hid => by simp only [ρ2, if_neg hid]
 have hf2 : ρ2 fr = ρ1 0 := by simp [ρ2]
 have hrho : ∀ id loc, ρ id = some loc → ρ2 id = some loc := by
  intro id loc hl
  rw [hoth id (by rintro rfl; rw [hfr] at hl; cases hl)]; exact hl
 have hc : Cvt ⟨s', fun _ => .unk⟩ F σ ρ' ρ1 V' (VF F ρ' V' s' w') := by
  refine ⟨hρ1, VF_mono, fun id cells loc hid hl hr => ?_⟩
  obtain ⟨c, T, g1, g2, g3, g4⟩ := hinv.live id cells loc hl hr
  refine ⟨c, ?_, g3⟩
  have hof : OwnF F ρ' s' loc.b := ⟨id, cells, loc, hid, hl, hr, rfl⟩
  simp only [VF, g4, if_pos hof, g1]
 have newO : ∀ loc, ρ1 0 = some loc → ∃ old xs, ρ' old = some loc ∧ old ∉ F ∧ s'.objs old = .live xs ∧ TmL ⟨s', fun _ => .unk⟩ F σ xs CS := by
  intro loc hρ
  obtain ⟨old, g1, g2⟩ := hρ1s _ _ hρ
  obtain ⟨g3, xs, g4, g5⟩ := hobj 0 old CS g1 rfl
  exact ⟨old, xs, g2, g3, g4, g5⟩
 have small : ∀ {i : Nat} {c : List AV} {lc : Loc}, hs.objs i = .live c → ρ i = some lc → lc.b < w.heap.size := fun {i c lc} ho' hl' => by
  obtain ⟨c0, T, g1, _⟩ := hI.live i c lc ho' hl'
  exact lt_heap g1
 refine ⟨y, ρ2, VF F ρ' V' s' w', rfl, ?_⟩
 refine ⟨?_, ?_, hrho, hoth, hvm, hg.size, fun b hb _ => hk b hb, ?_, ?_, hg.mem⟩
 ·
  have := hmk _ b ρ1 ρ2 _ _ hρ2 (htm ρ' ρ1 V' _ y hc hrel)
  rwa [hb0] at this
 ·
  refine ⟨fun b c hv => ?_, fun id hid => ?_, fun id cs loc hl hρ => ?_, fun id cs loc hl hρ => ?_, fun i j li lj ci cj hi hj hρi hρj hb => ?_⟩
  ·
   rcases VF_cases hv with h5 | ⟨_, h5⟩
   ·
    exact hinv.view b c h5
   ·
    exact h5
  ·
   simp only at hid
   rw [hoth id (by omega)]; exact hI.fresh id hid
  ·
   simp only [doAct] at hl
   by_cases he : id = fr
   ·
    subst he
    rw [upd_eq] at hl; cases hl
    rw [hf2] at hρ
    obtain ⟨old, xs, g2, g3, g4, g5⟩ := newO loc hρ
    obtain ⟨c, T, e1, e2, e3, e4⟩ := hinv.live old xs loc g4 g2
    refine ⟨c, T, e1, e2, ((g5.relC hc e3).clean (ρ' := ρ2) hcl), ?_⟩
    cases hv : VF F ρ' V' s' w' loc.b with
    | none => rfl
    | some c' =>
     rcases VF_cases hv with h7 | ⟨⟨id', cs', loc', m1, m2, m3, m4⟩, _⟩
     ·
      rw [e4] at h7; cases h7
     ·
      have := hinv.inj id' old loc' loc cs' xs m2 g4 m3 g2 m4
      subst this
      exact absurd m1 g3
   ·
    rw [upd_ne _ _ he] at hl
    rw [hoth id he] at hρ
    obtain ⟨c, T, g1, g2, g3, g4⟩ := hI.live id cs loc hl hρ
    refine ⟨c, T, by rw [hk _ (lt_heap g1)]; exact g1, g2, g3.mono hrho hvm, ?_⟩
    cases hv : VF F ρ' V' s' w' loc.b with
    | none => rfl
    | some c' =>
     rcases hfg _ _ hv with h7 | h7
     ·
      rw [g4] at h7; cases h7
     ·
      have := lt_heap g1; omega
  ·
   simp only [doAct] at hl
   by_cases he : id = fr
   ·
    subst he; rw [upd_eq] at hl; cases hl
   ·
    rw [upd_ne _ _ he] at hl
    rw [hoth id he] at hρ
    obtain ⟨c, g1, g2, g3⟩ := hI.froz id cs loc hl hρ
    exact ⟨c, hvm _ _ g1, g2.mono hrho hvm, g3⟩
  ·
   simp only [doAct] at hi hj
   by_cases h5 : i = fr <;> by_cases h6 : j = fr
   ·
    rw [h5, h6]
   ·
    subst h5
    rw [upd_ne _ _ h6] at hj
    rw [hf2] at hρi
    rw [hoth j h6] at hρj
    obtain ⟨old, xs, g2, g3, g4, g5⟩ := newO li hρi
    have a1 := hlow _ ⟨old, xs, li, g4, g2, rfl⟩
    have a2 := small hj hρj
    omega
   ·
    subst h6
    rw [upd_ne _ _ h5] at hi
    rw [hf2] at hρj
    rw [hoth i h5] at hρi
    obtain ⟨old, xs, g2, g3, g4, g5⟩ := newO lj hρj
    have a1 := hlow _ ⟨old, xs, lj, g4, g2, rfl⟩
    have a2 := small hi hρi
    omega
   ·
    rw [upd_ne _ _ h5] at hi
    rw [upd_ne _ _ h6] at hj
    rw [hoth i h5] at hρi
    rw [hoth j h6] at hρj
    exact hI.inj i j li lj ci cj hi hj hρi hρj hb
 ·
  rintro b' ⟨id, cs, loc, hl, hρ, rfl⟩
  simp only [doAct] at hl
  by_cases he : id = fr
  ·
   subst he
   rw [hf2] at hρ
   obtain ⟨old, xs, g2, g3, g4, g5⟩ := newO loc hρ
   exact .inr (hlow _ ⟨old, xs, loc, g4, g2, rfl⟩)
  ·
   rw [upd_ne _ _ he] at hl
   rw [hoth id he] at hρ
   exact .inl ⟨id, cs, loc, hl, hρ, rfl⟩
 ·
  intro b' c hv
  rcases hfg b' c hv with h5 | h5
  ·
   exact .inl h5
  ·
   exact .inr (.inr h5)

def SndR (C : Ctx) (f : FuncId) (args : List AV) (mk : (Nat → Nat) → AV) (l : List (List AV)) : Prop := Snd C f args (deadH 0) fun r' s' => Res r' s' mk l

theorem SndE.norm {C : Ctx} {f : FuncId} {args : List AV} {hs : HS} {fr : Nat} {e : Eff} (h : SndE C f (args.map (fz (fun _ => .dead) deep)) hs fr e) : SndE C f args hs fr e := by
 intro ρ V w args' h1 h2 hI hG hfr hlt
 refine h ρ V w args' (by simpa using h1) ?_ hI hG hfr hlt
 intro i x y hx hy
 obtain ⟨z, hz, rfl⟩ := getElem?_map_iff hx
 have := fz_rel (s := deadH hs.next) hI.dead deep z y (h2 i z y hz hy)
 rwa [VV_dead] at this

theorem xcallD_E {C : Ctx} {fr : Nat} {f : FuncId} {args : List AV} {objs : Nat → Ob} {k : Eff → Foot → Prop} {kb : FuncId → List AV → Prop} {e : Eff} (h : ∀ hs : HS, SndE C f args hs fr e) (hk : k e []) : xcallD C fr (some (f, args)) objs k kb :=
 xcallD_e (fun hs _ => h hs) hk
end Go.AX.Z

/-! (AyI) -/

namespace Go.AX.Z
open Go.AX

def thl (L : List Nat) (i : Nat) : Nat := L.getD i 0
theorem thl_z (a : Nat) (L : List Nat) : thl (a :: L) 0 = a := rfl
theorem thl_s (a : Nat) (L : List Nat) (i : Nat) : thl (a :: L) (i + 1) = thl L i := rfl

def liveL (objs : Nat → Ob) (θ' : Nat → Nat) : List Nat → List Tpl → Prop
 | [], [] => True
 | id :: L, c :: I => objs id = .live (c θ') ∧ liveL objs θ' L I
 | _, _ => False

theorem liveL_get {objs : Nat → Ob} {θ' : Nat → Nat} : ∀ {L : List Nat} {I : List Tpl}, liveL objs θ' L I → L.length = I.length ∧ ∀ i c, I[i]? = some c → objs (thl L i) = .live (c θ')
 | [], [], _ => ⟨rfl, fun i c h => by simp at h⟩
 | id :: L, c :: I, h => by
  obtain ⟨h1, h2⟩ := liveL_get h.2
  refine ⟨by simp [h1], fun i d hd => ?_⟩
  cases i with
  | zero => simp at hd; subst hd; exact h.1
  | succ i => simp at hd; rw [thl_s]; exact h2 i d hd
 | [], _ :: _, h => h.elim
 | _ :: _, [], h => h.elim

theorem thl_inj : ∀ {L : List Nat}, L.Nodup → ∀ i j, i < L.length → j < L.length → thl L i = thl L j → i = j := by
 intro L hn i j hi hj h
 simp only [thl, List.getD_eq_getElem?_getD, List.getElem?_eq_getElem hi, List.getElem?_eq_getElem hj, Option.getD_some] at h
 exact (List.getElem_inj hn).1 h
theorem thl_lt {L : List Nat} {n : Nat} (h : ∀ x ∈ L, x < n) (i : Nat) (hi : i < L.length) : thl L i < n := by
 simp only [thl, List.getD_eq_getElem?_getD, List.getElem?_eq_getElem hi, Option.getD_some]
 exact h _ (List.getElem_mem hi)

def SndIO (C : Ctx) (f : FuncId) (k : Nat) (args : (Nat → Nat) → List AV) (I : List Tpl) (mk : (Nat → Nat) → AV) (E : List (Option Tpl)) : Prop :=
 ∀ (hs : HS) (L : List Nat), L.Nodup → (∀ x ∈ L, x < hs.next) → liveL hs.objs (ex k (thl L) hs.next) L I →
  Snd C f (args (ex k (thl L) hs.next)) hs fun r hs' => r = mk (ex k (thl L) hs.next) ∧ hs' = ⟨finL hs.objs (ex k (thl L) hs.next) 0 E, hs.next + (E.length - k)⟩

def iniU (objs : Nat → Ob) : Nat → List Tpl → Nat → Ob
 | _, [] => objs
 | i, c :: l => iniU (upd objs i (.live (c fun i => i))) (i + 1) l
theorem iniU_n (objs : Nat → Ob) (i : Nat) : iniU objs i [] = objs := rfl
theorem iniU_c (objs : Nat → Ob) (i : Nat) (c : Tpl) (l : List Tpl) : iniU objs i (c :: l) = iniU (upd objs i (.live (c fun i => i))) (i + 1) l := rfl
theorem iniU_get : ∀ (l : List Tpl) (i : Nat) (objs : Nat → Ob) (id : Nat), iniU objs i l id = if i ≤ id then (match l[id - i]? with | some c => .live (c fun i => i) | none => objs id) else objs id
 | [], i, objs, id => by simp [iniU]
 | c :: l, i, objs, id => by
  rw [iniU_c, iniU_get l]
  by_cases h1 : i + 1 ≤ id
  ·
   rw [if_pos h1, if_pos (by omega : i ≤ id), show id - i = (id - (i + 1)) + 1 by omega, List.getElem?_cons_succ, upd_ne _ _ (by omega : id ≠ i)]
  ·
   rw [if_neg h1]
   by_cases h2 : id = i
   ·
    subst h2; simp
   ·
    rw [upd_ne _ _ h2, if_neg (by omega)]
theorem ini_eq (I : List Tpl) : iniO I = iniU (fun _ => .dead) 0 I := by
 funext id
 rw [iniU_get]
 simp only [Nat.zero_le, if_true, Nat.sub_zero, iniO]
 first | done | (cases I[id]? <;> rfl)

def ResE (s : HS) (F : List Nat) (σ0 : List (Option Nat)) : List (Option Nat) → List (Option Tpl) → Prop
 | [], [] => True
 | some old :: σ, some c :: l => (old ∉ F ∧ ∃ xs, s.objs old = .live xs ∧ TmL ⟨s, fun _ => .unk⟩ F σ0 xs (c fun i => i)) ∧ ResE s F σ0 σ l
 | _ :: σ, none :: l => ResE s F σ0 σ l
 | none :: σ, some _ :: l => ResE s F σ0 σ l
 | _, _ => False

theorem resE_all {s : HS} {F : List Nat} {σ0 : List (Option Nat)} : ∀ {σ : List (Option Nat)} {l : List (Option Tpl)}, ResE s F σ0 σ l →
  σ.length = l.length ∧ ∀ (i old : Nat) c, σ[i]? = some (some old) → l[i]? = some (some c) → old ∉ F ∧ ∃ xs, s.objs old = .live xs ∧ TmL ⟨s, fun _ => .unk⟩ F σ0 xs (c fun i => i)
 | [], [], _ => ⟨rfl, fun i old cs h => by simp at h⟩
 | some old :: σ, some c :: l, h => by
  obtain ⟨h1, h2⟩ := resE_all h.2
  refine ⟨by simp [h1], fun i o d hi hc => ?_⟩
  cases i with
  | zero => simp at hi hc; subst hi; subst hc; exact h.1
  | succ i => simp at hi hc; exact h2 i o d hi hc
 | some old :: σ, none :: l, h => by
  obtain ⟨h1, h2⟩ := resE_all (σ := σ) (l := l) h
  refine ⟨by simp [h1], fun i o d hi hc => ?_⟩
  cases i with
  | zero => simp at hc
  | succ i => simp at hi hc; exact h2 i o d hi hc
 | none :: σ, none :: l, h => by
  obtain ⟨h1, h2⟩ := resE_all (σ := σ) (l := l) h
  refine ⟨by simp [h1], fun i o d hi hc => ?_⟩
  cases i with
  | zero => simp at hc
  | succ i => simp at hi hc; exact h2 i o d hi hc
 | none :: σ, some c :: l, h => by
  obtain ⟨h1, h2⟩ := resE_all (σ := σ) (l := l) h
  refine ⟨by simp [h1], fun i o d hi hc => ?_⟩
  cases i with
  | zero => simp at hi
  | succ i => simp at hi hc; exact h2 i o d hi hc
 | [], _ :: _, h => by simp [ResE] at h
 | some _ :: _, [], h => by simp [ResE] at h
 | none :: _, [], h => by simp [ResE] at h

theorem resE0 {s : HS} {F : List Nat} {σ0 : List (Option Nat)} : ResE s F σ0 [] [] := trivial
theorem resEU {s : HS} {F : List Nat} {σ0 σ : List (Option Nat)} {l : List (Option Tpl)} {old : Nat} {xs : List AV} {c : Tpl} (hF : old ∉ F) (ho : s.objs old = .live xs) (hx : TmL ⟨s, fun _ => .unk⟩ F σ0 xs (c fun i => i)) (t : ResE s F σ0 σ l) : ResE s F σ0 (some old :: σ) (some c :: l) := ⟨⟨hF, xs, ho, hx⟩, t⟩
theorem resED {s : HS} {F : List Nat} {σ0 σ : List (Option Nat)} {l : List (Option Tpl)} {x : Option Nat} (t : ResE s F σ0 σ l) : ResE s F σ0 (x :: σ) (none :: l) := by cases x <;> exact t

def deadE : List (Option Tpl) → Nat → List Nat
 | [], _ => []
 | none :: l, i => i :: deadE l (i + 1)
 | some _ :: l, i => deadE l (i + 1)
theorem deadE_get : ∀ (l : List (Option Tpl)) (i0 i : Nat), i ∈ deadE l i0 → i0 ≤ i ∧ l[i - i0]? = some none
 | [], _, i, h => by simp [deadE] at h
 | none :: l, i0, i, h => by
  rcases List.mem_cons.1 h with rfl | h
  ·
   simp
  ·
   obtain ⟨h1, h2⟩ := deadE_get l (i0 + 1) i h
   exact ⟨by omega, by rw [show i - i0 = (i - (i0 + 1)) + 1 by omega, List.getElem?_cons_succ]; exact h2⟩
 | some c :: l, i0, i, h => by
  obtain ⟨h1, h2⟩ := deadE_get l (i0 + 1) i h
  exact ⟨by omega, by rw [show i - i0 = (i - (i0 + 1)) + 1 by omega, List.getElem?_cons_succ]; exact h2⟩

theorem ResIO.mk {k : Nat} {r' : AV} {s' : HS} {mk : (Nat → Nat) → AV} {E : List (Option Tpl)} (F : List Nat) (σ : List (Option Nat)) (hs : sgD k (deadE E 0) σ = true) (ho : ResE s' F σ σ E) (ht : Tm ⟨s', fun _ => .unk⟩ F σ r' (mk fun i => i)) : ResIO k r' s' mk E :=
 ⟨F, deadE E 0, σ, hs, fun i hi => by have := (deadE_get E 0 i hi).2; rwa [Nat.sub_zero] at this, (resE_all ho).1, (resE_all ho).2, ht⟩

theorem tpl_nil : ∀ c ∈ ([] : List Tpl), RenML c := by intro c h; cases h
theorem tpl_cons {x : Tpl} {l : List Tpl} (h : RenML x) (t : ∀ c ∈ l, RenML c) : ∀ c ∈ x :: l, RenML c := by
 intro c hc
 rcases List.mem_cons.1 hc with rfl | hc
 ·
  exact h
 ·
  exact t c hc
theorem otpl_nil : ∀ c : Tpl, some c ∈ ([] : List (Option Tpl)) → RenML c := by intro c h; cases h
theorem otpl_some {x : Tpl} {l : List (Option Tpl)} (h : RenML x) (t : ∀ c : Tpl, some c ∈ l → RenML c) : ∀ c : Tpl, some c ∈ some x :: l → RenML c := by
 intro c hc
 rcases List.mem_cons.1 hc with hc | hc
 ·
  cases hc; exact h
 ·
  exact t c hc
theorem otpl_none {l : List (Option Tpl)} (t : ∀ c : Tpl, some c ∈ l → RenML c) : ∀ c : Tpl, some c ∈ none :: l → RenML c := by
 intro c hc
 rcases List.mem_cons.1 hc with hc | hc
 ·
  cases hc
 ·
  exact t c hc

theorem xcall_O {C : Ctx} {fr : Nat} {f : FuncId} {k : Nat} {args : List AV} {argsT : (Nat → Nat) → List AV} {I : List Tpl} {E : List (Option Tpl)} {mk : (Nat → Nat) → AV} {objs : Nat → Ob} {nx : Nat} {K : AV → HS → Prop} (L : List Nat) (h : SndIO C f k argsT I mk E)
  (hL : L.Nodup) (hLn : ∀ x ∈ L, x < nx) (hlive : liveL objs (ex k (thl L) nx) L I) (he : args = argsT (ex k (thl L) nx))
  (hk : K (mk (ex k (thl L) nx)) ⟨finL objs (ex k (thl L) nx) 0 E, nx + (E.length - k)⟩) : xcall C false fr (some (f, args)) ⟨objs, nx⟩ K := by
 subst he
 exact xcall_g (h ⟨objs, nx⟩ L hL hLn hlive) fun r hs hr => by obtain ⟨rfl, rfl⟩ := hr; exact hk

theorem Clean.unk : Clean .unk := fun _ _ _ y _ => .unk y
attribute [go_sem] Int.le_refl clearE iniU_n iniU_c finL_n finL_c obOf_s obOf_n ex_eq thl_z thl_s
end Go.AX.Z

/-! (AyJ) -/

namespace Go.AX.Z
open Go.AX

def clQ (k : Nat) (C : Ctx) (Q : AExit → AS → Prop) : Prop := ∀ t u, Wk k C t u → Q .normal u → Q .normal t

def endW (k : Nat) (C : Ctx) (fn : Func) (R : AV → HS → Prop) : AExit → AS → Prop := fun e s => ∃ t, Wk k C s t ∧ endQ C fn R e t

section
variable {k : Nat} {C : Ctx} {x y : Code} {Q : AExit → AS → Prop} {s : AS}
theorem clQ_blk {id : Nat} (h : clQ k C Q) : clQ k C (blkQ id Q) := h
theorem clQ_cut {δ : Type} {P : δ → Prop} {S : δ → AS} {Q' : AExit → AS → Prop} : clQ k C (seqQ (fun t => ∃ d, P d ∧ Wk k C t (S d)) Q') := fun _ _ h ⟨d, hp, hw⟩ => ⟨d, hp, Wk.trans h hw⟩
theorem clQ_loop {δ : Type} {P : Nat → δ → Prop} {S : δ → AS} {n : Nat} {Q' : AExit → AS → Prop} : clQ k C (loopQ (fun t => ∃ m d', n = m + 1 ∧ P m d' ∧ Wk k C t (S d')) Q') := fun _ _ h ⟨m, d, hn, hp, hw⟩ => ⟨m, d, hn, hp, Wk.trans h hw⟩
theorem endW_i {fn : Func} {R : AV → HS → Prop} {e : AExit} (h : endQ C fn R e s) : endW k C fn R e s := ⟨s, Wk.refl _ _ _, h⟩
theorem seqW_i {K : AS → Prop} {Q' : AExit → AS → Prop} (h : K s) : seqQ (fun t => ∃ u, Wk k C t u ∧ K u) Q' .normal s := ⟨s, Wk.refl _ _ _, h⟩

theorem awp_blockW {id : Nat} (h : awp k C x (blkQ id (seqQ (fun t => ∃ u, Wk k C t u ∧ awp k C y Q u) Q)) s) : awp k C (.seq (.block id x) y) Q s := awp_seqW (awp_block1 h)

theorem awp_cutQ {δ : Type} (P : δ → Prop) (S : δ → AS) (hQ : clQ k C Q) (h1 : awp k C x (seqQ (fun t => ∃ d, P d ∧ Wk k C t (S d)) Q) s) (h2 : ∀ d, P d → Q .normal (S d)) : awp k C x Q s := by
 refine awp_mono x h1 ?_
 intro e t ht
 cases e with
 | normal => obtain ⟨d, hp, hw⟩ := ht; exact hQ t _ hw (h2 d hp)
 | exit j => exact ht
 | ret => exact ht
end

theorem snd_of_awpW {C : Ctx} (hC : COk C) {f : FuncId} {fn : Func} {c : Code} {args : List AV} {s : HS} {Q : AV → HS → Prop} (hf : C.P.funcs[f]? = some fn) (hb : fn.body = some c) (hn : (fn.name == "runtime.NumGoroutine") = false)
  (hst : stOk fn.ntmps c = true) (hargs : args.length ≤ fn.ntmps) (h : awp s.next C c (endW s.next C fn Q) (init args s)) : Snd C f args s Q := by
 refine ⟨trivial, fun ρ V w args' h1 h2 h3 h4 => .inl ⟨⟨fn, hf, by rw [hb]; rfl, hn⟩, ?_⟩⟩
 refine callsM_of_wp hf hb ?_
 let B : Base := ⟨ρ, V, s, w, some w.heap.size⟩
 have hLo : Lo s.next B := ⟨rfl, fun id hid => h3.fresh id hid, fun m hm => by cases hm; exact Nat.le_refl _⟩
 have hg : GS C fn.ntmps B (fun _ => False) (init args s) { tmps := args' ++ Array.replicate (fn.ntmps - args'.size) undef, defers := [] } w := by
  refine ⟨ρ, V, fun t => ?_, h3, h4, Grew.refl _ _ _ _, by simp; omega, Marks.nil _ _, fun id hid => hid.elim⟩
  simp only [init, List.getD_eq_getElem?_getD]
  rw [Array.getD_eq_getD_getElem?, Array.getElem?_append]
  by_cases ht : t < args'.size
  ·
   rw [if_pos ht]
   have ht' : t < args.length := by omega
   have e1 : args[t]? = some args[t] := by simp [ht']
   have e2 : args'[t]? = some args'[t] := by simp [ht]
   rw [e1, e2]
   exact h2 t _ _ e1 e2
  ·
   rw [if_neg ht, List.getElem?_eq_none (by omega)]
   simp only [Option.getD_none]
   have : (Array.replicate (fn.ntmps - args'.size) undef)[t - args'.size]?.getD undef = undef := by
    by_cases h5 : t - args'.size < fn.ntmps - args'.size <;> simp [h5]
   rw [this]; exact .v _
 refine wp_mono (awp_sound hC hLo rfl c _ _ _ _ hst h hg) ?_
 intro e a' w' hq
 have fin : ∀ s', (∃ r, resV C s' fn.results.toList = some r ∧ Q r s'.toHS) → GS C fn.ntmps B (fun _ => False) s' a' w' → LeavesInM Fence.wide 0 C.P fn a'.tmps (fun e w' =>
   ∃ y r s' ρ' V', e = Ending.returned y ∧ Q r s' ∧ Rel ρ' V' r y ∧ Inv ρ' V' s' w' ∧ Grew ρ V s w ρ' V' s' w') a'.defers .returning w' := by
  rintro s' ⟨r, hr, hQ⟩ hgs
  refine end_marks hgs ⟨_, rfl, Nat.le_refl _⟩ ?_
  rintro tmps w'' ds ⟨ρ', V', k1, k2, k3, k4, k5, k6, k7⟩
  obtain ⟨y, hy1, hy2⟩ := results_run k1 k2 hr
  exact ⟨y, hy1, y, r, s'.toHS, ρ', V', rfl, hQ, hy2, k2, k4⟩
 cases e with
 | normal =>
  obtain ⟨s', ⟨t, hwk, hk⟩, hg'⟩ := hq
  exact fin t hk (hwk _ _ _ _ hLo hg')
 | ret =>
  obtain ⟨s', ⟨t, hwk, hk⟩, hg'⟩ := hq
  exact fin t hk (hwk _ _ _ _ hLo hg')
 | exit id =>
  obtain ⟨s', ⟨t, hwk, hk⟩, hg'⟩ := hq
  exact hk.elim
 | goto l => exact hq.elim
 | panic ch => exact hq.elim
 | outgrown => exact hq.elim

theorem SndP.of_walkW {C : Ctx} (hC : COk C) {f : FuncId} {fn : Func} {c : Code} {args : List AV} {r : AV} (hr : Clean r) (ha : ∀ x ∈ args, Clean x) (hf : C.P.funcs[f]? = some fn) (hb : fn.body = some c) (hn : (fn.name == "runtime.NumGoroutine") = false)
  (hst : stOk fn.ntmps c = true) (hargs : args.length ≤ fn.ntmps) (h : awp 0 C c (endW 0 C fn fun r' s' => fz s'.objs deep r' = r) { objs := fun _ => .dead, next := 0, tmps := arg args }) : SndP C f args r :=
 SndP.of_zero hr ha (snd_of_awpW hC hf hb hn hst hargs h)
theorem SndR.of_walkW {C : Ctx} (hC : COk C) {f : FuncId} {fn : Func} {c : Code} {args : List AV} {mk : (Nat → Nat) → AV} {l : List (List AV)} (hf : C.P.funcs[f]? = some fn) (hb : fn.body = some c) (hn : (fn.name == "runtime.NumGoroutine") = false)
  (hst : stOk fn.ntmps c = true) (hargs : args.length ≤ fn.ntmps) (h : awp 0 C c (endW 0 C fn fun r' s' => Res r' s' mk l) { objs := fun _ => .dead, next := 0, tmps := arg args }) : SndR C f args mk l :=
 snd_of_awpW hC hf hb hn hst hargs h
theorem SndIO.of_walkW {C : Ctx} (hC : COk C) {f : FuncId} {fn : Func} {c : Code} {k : Nat} {args : (Nat → Nat) → List AV} {I : List Tpl} {E : List (Option Tpl)} {mk : (Nat → Nat) → AV} (hargs : RenML args) (hIr : ∀ c ∈ I, RenML c) (hEr : ∀ c, some c ∈ E → RenML c) (hmk : RenM mk) (hk : I.length = k) (hkE : k ≤ E.length)
  (hf : C.P.funcs[f]? = some fn) (hb : fn.body = some c) (hn : (fn.name == "runtime.NumGoroutine") = false) (hst : stOk fn.ntmps c = true) (hal : (args fun i => i).length ≤ fn.ntmps)
  (h : awp k C c (endW k C fn fun r' s' => ResIO k r' s' mk E) { objs := iniU (fun _ => .dead) 0 I, next := k, tmps := arg (args fun i => i) }) : SndIO C f k args I mk E := by
 intro hs L hL hLn hlive
 obtain ⟨h1, h2⟩ := liveL_get hlive
 refine Snd.of_io hargs hIr hEr hmk hk hkE ?_ hs (thl L) (fun i j hi hj => thl_inj hL i j (by omega) (by omega)) (fun i hi => thl_lt hLn i (by omega)) h2
 have hw : awp k C c (endW k C fn fun r' s' => ResIO k r' s' mk E) (init (args fun i => i) ⟨iniO I, k⟩) := by
  rw [ini_eq]; exact h
 exact snd_of_awpW hC hf hb hn hst hal hw

end Go.AX.Z
namespace Go.AX.Z
open Go.AX
section
variable {k : Nat} {C : Ctx} {y : Code} {Q : AExit → AS → Prop} {s : AS}
theorem awp_regW {id : Nat} {ops : Array Oper} {draw : Bool} (h : ∀ K : AS → Prop, (∀ t u, Wk k C t u → awp k C y Q u → K t) → xw draw C (ops.toList.map (·.dst)) s.next 0 ops.toList { s with next := s.next + ops.size } K) : awp k C (.seq (.region id ops draw) y) Q s :=
 awp_seqW (awp_region (h _ fun _ u h1 h2 => ⟨u, h1, h2⟩))
theorem awp_regDW {objs : Nat → Ob} {nx : Nat} {tm : Nat → AV} {id : Nat} {ops : Array Oper} (h : ∀ K : AS → Prop, (∀ t u, Wk k C t u → awp k C y Q u → K t) → ∀ l, l = ops.toList → xd C l (ops.toList.map (·.dst)) nx 0 ops.toList { objs := objs, next := nx + ops.size, tmps := tm } [] K) : awp k C (.seq (.region id ops true) y) Q { objs := objs, next := nx, tmps := tm } :=
 awp_seqW (xd_draw _ _ _ _ (h _ (fun _ u h1 h2 => ⟨u, h1, h2⟩) _ rfl))
end
end Go.AX.Z
namespace Go.AX.Z
open Go.AX
theorem rows_subD {α : Type} {f : α → List AV} {sz : Nat} (hf : ∀ a, (f a).length = sz) (l : List α) (n : Nat) (h : n ≤ l.length) : sub? (l.flatMap f) (n * sz) ((l.length - n) * sz) = some ((l.drop n).flatMap f) := by
 unfold sub?
 rw [if_pos (by rw [flat_len hf, ← Nat.add_mul]; exact Nat.mul_le_mul_right _ (by omega)), rows_drop hf, List.take_of_length_le (by rw [flat_len hf, List.length_drop]; exact Nat.le_refl _)]
end Go.AX.Z
namespace Go.AX.Z
open Go.AX
end Go.AX.Z
namespace Go.AX.Z
open Go.AX
end Go.AX.Z
namespace Go.AX.Z
open Go.AX
end Go.AX.Z
namespace Go.AX.Z
open Go.AX
end Go.AX.Z

/-! (AyK) -/

namespace Go.AX.Z
open Go.AX

end Go.AX.Z
namespace Go.AX.Z
open Go.AX
end Go.AX.Z

/-! (AyL) -/

namespace Go.AX.Z
open Go.AX

def NoV (x : AV) : Prop := ∀ (ρ : Rho) (V V' : View) (y : Value), Rel ρ V x y → Rel ρ V' x y
theorem NoV.v (x : Value) : NoV (.v x) := fun _ _ _ y h => by cases h; exact .v x
theorem NoV.ref (id off len sz : Nat) : NoV (.ref id off len sz) := fun _ _ _ y h => by
 cases h with
 | ref _ _ _ _ cap loc h hc hl => exact .ref id off len sz cap loc h hc hl
 | refE _ _ _ a => exact .refE id off sz a
theorem NoV.agg {cs : List AV} (h : ∀ c ∈ cs, NoV c) : NoV (.agg cs) := by
 intro ρ V V' y hr
 cases hr with
 | agg _ ys h1 H S => exact .agg cs ys h1 (fun i x y hx hy => h x (List.mem_of_getElem? hx) ρ V V' y (H i x y hx hy)) S
theorem NoV.tup {cs : List AV} (h : ∀ c ∈ cs, NoV c) : NoV (.tup cs) := by
 intro ρ V V' y hr
 cases hr with
 | tup _ ys h1 H => exact .tup cs ys h1 (fun i x y hx hy => h x (List.mem_of_getElem? hx) ρ V V' y (H i x y hx hy))
theorem NoV.nil : ∀ c ∈ ([] : List AV), NoV c := by intro c h; cases h
theorem NoV.cons {x : AV} {l : List AV} (h : NoV x) (t : ∀ c ∈ l, NoV c) : ∀ c ∈ x :: l, NoV c := by
 intro c hc
 rcases List.mem_cons.1 hc with rfl | hc
 ·
  exact h
 ·
  exact t c hc

open Classical in
theorem SndM.lend {C : Ctx} {f : FuncId} {args : List AV} {mk : (Nat → Nat) → AV} {l : List (List AV)} (s : HS) (h : SndM C f (args.map (fz s.objs deep)) mk l) (hmk : ∀ q, NoV (mk q)) (hb : ∀ cs ∈ l, ∀ c ∈ cs, NoV c) :
  Snd C f args s fun r s' => r = mk (fun i => s.next + i) ∧ s' = ⟨newL s.objs s.next l, s.next + l.length⟩ := by
 refine ⟨trivial, fun ρ V w args' h1 h2 h3 h4 => ?_⟩
 have hz : Inv ρ (VV ρ V s w) ⟨froze s.objs, s.next⟩ w := by
  refine ⟨(inv_VV h3).view, h3.fresh, fun id cells loc hl => ?_, fun id cells loc hl hρ => ?_, fun i j li lj ci cj hl => ?_⟩
  ·
   simp only [froze] at hl
   cases ho : s.objs id <;> simp [ho] at hl
  ·
   simp only [froze] at hl
   cases ho : s.objs id with
   | dead => simp [ho] at hl
   | live c =>
    simp [ho] at hl; subst hl
    obtain ⟨c', T, g1, g2, g3, g4⟩ := h3.live id c loc ho hρ
    exact ⟨c', VV_own g4 ⟨id, c, loc, ho, hρ, rfl⟩ g1, g3.mono (fun _ _ h => h) VV_mono, g2⟩
   | froz c =>
    simp [ho] at hl; subst hl
    obtain ⟨c', g1, g2, g3⟩ := h3.froz id c loc ho hρ
    exact ⟨c', VV_mono _ _ g1, g2.mono (fun _ _ h => h) VV_mono, g3⟩
  ·
   simp only [froze] at hl
   cases ho : s.objs i <;> simp [ho] at hl
 have q := (h ⟨froze s.objs, s.next⟩).2 ρ (VV ρ V s w) w args' (by simpa using h1) (fun i x y hx hy => by
  obtain ⟨z, hz, rfl⟩ := getElem?_map_iff hx
  exact fz_rel h3 deep z y (h2 i z y hz hy)) hz (h4.mono VV_mono)
 refine q.mono ?_
 rintro e w' ⟨y, r', s', ρ', V', rfl, ⟨rfl, rfl⟩, hrel, hinv, hg⟩
 simp only at hinv hg hrel
 have hown : ∀ b, ¬ Own ρ ⟨froze s.objs, s.next⟩ b := by
  rintro b ⟨id, cells, loc, hl, _⟩
  simp only [froze] at hl
  cases ho : s.objs id <;> simp [ho] at hl
 have hk : ∀ b, b < w.heap.size → w'.heap[b]? = w.heap[b]? := fun b hb' => hg.keep b hb' (hown b)
 have vown : ∀ b c, V b = some c → ¬ Own ρ s b := by
  rintro b c hv ⟨id, cells, loc, hl, hρ, rfl⟩
  obtain ⟨_, _, _, _, _, g⟩ := h3.live id cells loc hl hρ
  rw [hv] at g; cases g
 let V2 : View := fun b => if Own ρ s b then none else V' b
 have hV2 : ∀ b c, V2 b = some c → V' b = some c ∧ ¬ Own ρ s b := by
  intro b c hv
  simp only [V2] at hv
  split at hv
  ·
   cases hv
  ·
   rename_i hn; exact ⟨hv, hn⟩
 have hVm : ∀ b c, V b = some c → V2 b = some c := by
  intro b c hv
  simp only [V2, if_neg (vown b c hv)]
  exact hg.view b c (VV_mono _ _ hv)
 have hVo : ∀ b, Own ρ s b → V2 b = none := fun b hb' => by simp only [V2, if_pos hb']
 have old : ∀ id loc, id < s.next → ρ' id = some loc → ρ id = some loc := fun id loc hid hr => by rw [← hg.old id hid]; exact hr
 -- what lives now: old or new
 have split : ∀ id cells loc, newL s.objs s.next l id = .live cells → ρ' id = some loc →
   (id < s.next ∧ s.objs id = .live cells) ∨ (cells ∈ l ∧ newL (froze s.objs) s.next l id = .live cells) := by
  intro id cells loc hl hρ
  rw [newL_get] at hl
  by_cases hid : s.next ≤ id
  ·
   rw [if_pos hid] at hl
   cases hc : l[id - s.next]? with
   | some cs =>
    rw [hc] at hl; cases hl
    refine .inr ⟨List.mem_of_getElem? hc, ?_⟩
    rw [newL_get, if_pos hid, hc]
   | none =>
    exfalso
    have := List.getElem?_eq_none_iff.1 hc
    have hf := hinv.fresh id (by simp only; omega)
    rw [hf] at hρ; cases hρ
  ·
   rw [if_neg hid] at hl
   exact .inl ⟨by omega, hl⟩
 have newSize : ∀ id cells loc, newL (froze s.objs) s.next l id = .live cells → ρ' id = some loc → w.heap.size ≤ loc.b := by
  intro id cells loc hl hρ
  rcases hg.own loc.b ⟨id, cells, loc, hl, hρ, rfl⟩ with h5 | h5
  ·
   exact (hown _ h5).elim
  ·
   exact h5
 have oldSize : ∀ id cells loc, s.objs id = .live cells → ρ id = some loc → loc.b < w.heap.size := by
  intro id cells loc hl hρ
  obtain ⟨_, _, g1, _⟩ := h3.live id cells loc hl hρ
  exact lt_heap g1
 have relV : ∀ {cells : List AV} {c : Array Value} {o : Nat}, (∀ x ∈ cells, NoV x) → RelC ρ' V' cells c o → RelC ρ' V2 cells c o := fun hn hc =>
  ⟨hc.le, fun i x y hx hy => hn x (List.mem_of_getElem? hx) _ _ _ _ (hc.rel i x y hx hy), hc.sto⟩
 refine ⟨y, _, _, ρ', V2, rfl, ⟨rfl, rfl⟩, hmk _ _ _ _ _ hrel, ?_, ?_⟩
 ·
  refine ⟨fun b c hv => hinv.view b c (hV2 b c hv).1, fun id hid => hinv.fresh id hid, fun id cells loc hl hρ => ?_, fun id cells loc hl hρ => ?_, fun i j li lj ci cj hi hj hρi hρj hbb => ?_⟩
  ·
   rcases split id cells loc hl hρ with ⟨hid, ho⟩ | ⟨hm, ho⟩
   ·
    have hr := old id loc hid hρ
    obtain ⟨c, T, g1, g2, g3, g4⟩ := h3.live id cells loc ho hr
    exact ⟨c, T, by rw [hk _ (lt_heap g1)]; exact g1, g2, g3.mono hg.rho hVm, hVo _ ⟨id, cells, loc, ho, hr, rfl⟩⟩
   ·
    obtain ⟨c, T, g1, g2, g3, g4⟩ := hinv.live id cells loc ho hρ
    refine ⟨c, T, g1, g2, relV (hb cells hm) g3, ?_⟩
    cases hv : V2 loc.b with
    | none => rfl
    | some c' => rw [(hV2 _ _ hv).1] at g4; cases g4
  ·
   change newL s.objs s.next l id = _ at hl
   rw [newL_get] at hl
   have hid : id < s.next ∧ s.objs id = .froz cells := by
    by_cases hid : s.next ≤ id
    ·
     rw [if_pos hid] at hl
     cases hc : l[id - s.next]? with
     | some cs => rw [hc] at hl; cases hl
     | none =>
      exfalso
      have := List.getElem?_eq_none_iff.1 hc
      have hf := hinv.fresh id (by simp only; omega)
      rw [hf] at hρ; cases hρ
    ·
     rw [if_neg hid] at hl; exact ⟨by omega, hl⟩
   have hr := old id loc hid.1 hρ
   obtain ⟨c, g1, g2, g3⟩ := h3.froz id cells loc hid.2 hr
   exact ⟨c, hVm _ _ g1, g2.mono hg.rho hVm, g3⟩
  ·
   rcases split i ci li hi hρi with ⟨a1, a2⟩ | ⟨a1, a2⟩ <;> rcases split j cj lj hj hρj with ⟨b1, b2⟩ | ⟨b1, b2⟩
   ·
    exact h3.inj i j li lj ci cj a2 b2 (old i li a1 hρi) (old j lj b1 hρj) hbb
   ·
    have := oldSize i ci li a2 (old i li a1 hρi)
    have := newSize j cj lj b2 hρj
    omega
   ·
    have := oldSize j cj lj b2 (old j lj b1 hρj)
    have := newSize i ci li a2 hρi
    omega
   ·
    exact hinv.inj i j li lj ci cj a2 b2 hρi hρj hbb
 ·
  refine ⟨hg.rho, hg.old, Nat.le_add_right _ _, hVm, hg.size, fun b hb' _ => hk b hb', fun b hb' => ?_, fun b c hv => ?_, hg.mem⟩
  ·
   obtain ⟨id, cells, loc, hl, hρ, rfl⟩ := hb'
   rcases split id cells loc hl hρ with ⟨hid, ho⟩ | ⟨_, ho⟩
   ·
    exact .inl ⟨id, cells, loc, ho, old id loc hid hρ, rfl⟩
   ·
    exact .inr (newSize id cells loc ho hρ)
  ·
   rcases hg.vnew b c (hV2 b c hv).1 with h5 | h5 | h5
   ·
    rcases VV_cases h5 with h6 | ⟨h6, _⟩
    ·
     exact .inl h6
    ·
     exact .inr (.inl h6)
   ·
    exact (hown b h5).elim
   ·
    exact .inr (.inr h5)

open Classical in
theorem SndE.lend {C : Ctx} {f : FuncId} {args : List AV} {hs : HS} {fr : Nat} {r : AV} {CS : List AV} (h : ∀ s : HS, SndE C f (args.map (fz hs.objs deep)) s fr ⟨r, .new CS⟩) (hr : NoV r) (hb : ∀ c ∈ CS, NoV c) :
  SndE C f args hs fr ⟨r, .new CS⟩ := by
 intro ρ V w args' h1 h2 h3 h4 hfr hfn
 have hz : Inv ρ (VV ρ V hs w) ⟨froze hs.objs, hs.next⟩ w := by
  refine ⟨(inv_VV h3).view, h3.fresh, fun id cells loc hl => ?_, fun id cells loc hl hρ => ?_, fun i j li lj ci cj hl => ?_⟩
  ·
   simp only [froze] at hl
   cases ho : hs.objs id <;> simp [ho] at hl
  ·
   simp only [froze] at hl
   cases ho : hs.objs id with
   | dead => simp [ho] at hl
   | live c =>
    simp [ho] at hl; subst hl
    obtain ⟨c', T, g1, g2, g3, g4⟩ := h3.live id c loc ho hρ
    exact ⟨c', VV_own g4 ⟨id, c, loc, ho, hρ, rfl⟩ g1, g3.mono (fun _ _ h => h) VV_mono, g2⟩
   | froz c =>
    simp [ho] at hl; subst hl
    obtain ⟨c', g1, g2, g3⟩ := h3.froz id c loc ho hρ
    exact ⟨c', VV_mono _ _ g1, g2.mono (fun _ _ h => h) VV_mono, g3⟩
  ·
   simp only [froze] at hl
   cases ho : hs.objs i <;> simp [ho] at hl
 have q := h ⟨froze hs.objs, hs.next⟩ ρ (VV ρ V hs w) w args' (by simpa using h1) (fun i x y hx hy => by
  obtain ⟨z, hz, rfl⟩ := getElem?_map_iff hx
  exact fz_rel h3 deep z y (h2 i z y hz hy)) hz (h4.mono VV_mono) hfr hfn
 refine q.mono ?_
 rintro e w' ⟨y, ρ', V', rfl, hd⟩
 have hown : ∀ b, ¬ Own ρ ⟨froze hs.objs, hs.next⟩ b := by
  rintro b ⟨id, cells, loc, hl, _⟩
  simp only [froze] at hl
  cases ho : hs.objs id <;> simp [ho] at hl
 have hk : ∀ b, b < w.heap.size → w'.heap[b]? = w.heap[b]? := fun b hb' => hd.keep b hb' (hown b)
 have vown : ∀ b c, V b = some c → ¬ Own ρ hs b := by
  rintro b c hv ⟨id, cells, loc, hl, hρ, rfl⟩
  obtain ⟨_, _, _, _, _, g⟩ := h3.live id cells loc hl hρ
  rw [hv] at g; cases g
 let V2 : View := fun b => if Own ρ hs b then none else V' b
 have hV2 : ∀ b c, V2 b = some c → V' b = some c ∧ ¬ Own ρ hs b := by
  intro b c hv
  simp only [V2] at hv
  split at hv
  ·
   cases hv
  ·
   rename_i hn; exact ⟨hv, hn⟩
 have hVm : ∀ b c, V b = some c → V2 b = some c := by
  intro b c hv
  simp only [V2, if_neg (vown b c hv)]
  exact hd.view b c (VV_mono _ _ hv)
 have hVo : ∀ b, Own ρ hs b → V2 b = none := fun b hb' => by simp only [V2, if_pos hb']
 have newSize : ∀ loc, ρ' fr = some loc → w.heap.size ≤ loc.b := by
  intro loc hρ
  rcases hd.own loc.b ⟨fr, CS, loc, by simp only [doAct, upd_eq], hρ, rfl⟩ with h5 | h5
  ·
   exact (hown _ h5).elim
  ·
   exact h5
 have oldSize : ∀ id cells loc, hs.objs id = .live cells → ρ id = some loc → loc.b < w.heap.size := by
  intro id cells loc hl hρ
  obtain ⟨_, _, g1, _⟩ := h3.live id cells loc hl hρ
  exact lt_heap g1
 have relV : ∀ {cells : List AV} {c : Array Value} {o : Nat}, (∀ x ∈ cells, NoV x) → RelC ρ' V' cells c o → RelC ρ' V2 cells c o := fun hn hc =>
  ⟨hc.le, fun i x y hx hy => hn x (List.mem_of_getElem? hx) _ _ _ _ (hc.rel i x y hx hy), hc.sto⟩
 refine ⟨y, ρ', V2, rfl, hr _ _ _ _ hd.rel, ?_, hd.rho, hd.oth, hVm, hd.size, fun b hb' _ => hk b hb', fun b hb' => ?_, fun b c hv => ?_, hd.mem⟩
 ·
  refine ⟨fun b c hv => hd.inv.view b c (hV2 b c hv).1, fun id hid => hd.inv.fresh id hid, fun id cells loc hl hρ => ?_, fun id cells loc hl hρ => ?_, fun i j li lj ci cj hi hj hρi hρj hbb => ?_⟩
  ·
   simp only [doAct] at hl
   by_cases he : id = fr
   ·
    subst he
    rw [upd_eq] at hl; cases hl
    obtain ⟨c, T, g1, g2, g3, g4⟩ := hd.inv.live id CS loc (by simp only [doAct, upd_eq]) hρ
    refine ⟨c, T, g1, g2, relV hb g3, ?_⟩
    cases hv : V2 loc.b with
    | none => rfl
    | some c' => rw [(hV2 _ _ hv).1] at g4; cases g4
   ·
    rw [upd_ne _ _ he] at hl
    rw [hd.oth id he] at hρ
    obtain ⟨c, T, g1, g2, g3, g4⟩ := h3.live id cells loc hl hρ
    exact ⟨c, T, by rw [hk _ (lt_heap g1)]; exact g1, g2, g3.mono hd.rho hVm, hVo _ ⟨id, cells, loc, hl, hρ, rfl⟩⟩
  ·
   simp only [doAct] at hl
   by_cases he : id = fr
   ·
    subst he; rw [upd_eq] at hl; cases hl
   ·
    rw [upd_ne _ _ he] at hl
    rw [hd.oth id he] at hρ
    obtain ⟨c, g1, g2, g3⟩ := h3.froz id cells loc hl hρ
    exact ⟨c, hVm _ _ g1, g2.mono hd.rho hVm, g3⟩
  ·
   simp only [doAct] at hi hj
   by_cases h5 : i = fr <;> by_cases h6 : j = fr
   ·
    rw [h5, h6]
   ·
    subst h5
    rw [upd_ne _ _ h6] at hj
    rw [hd.oth j h6] at hρj
    have := newSize li hρi
    have := oldSize j cj lj hj hρj
    omega
   ·
    subst h6
    rw [upd_ne _ _ h5] at hi
    rw [hd.oth i h5] at hρi
    have := newSize lj hρj
    have := oldSize i ci li hi hρi
    omega
   ·
    rw [upd_ne _ _ h5] at hi
    rw [upd_ne _ _ h6] at hj
    rw [hd.oth i h5] at hρi
    rw [hd.oth j h6] at hρj
    exact h3.inj i j li lj ci cj hi hj hρi hρj hbb
 ·
  obtain ⟨id, cells, loc, hl, hρ, rfl⟩ := hb'
  simp only [doAct] at hl
  by_cases he : id = fr
  ·
   subst he; exact .inr (newSize loc hρ)
  ·
   rw [upd_ne _ _ he] at hl
   rw [hd.oth id he] at hρ
   exact .inl ⟨id, cells, loc, hl, hρ, rfl⟩
 ·
  rcases hd.vnew b c (hV2 b c hv).1 with h5 | h5 | h5
  ·
   rcases VV_cases h5 with h6 | ⟨h6, _⟩
   ·
    exact .inl h6
   ·
    exact .inr (.inl h6)
  ·
   exact (hown b h5).elim
  ·
   exact .inr (.inr h5)

theorem take_set {α : Type} (l : List α) (i : Nat) (x : α) : List.take l.length (l.set i x) = l.set i x := by
 have h := List.take_length (l := l.set i x)
 rwa [List.length_set] at h
end Go.AX.Z

/-! (AyM) -/

namespace Go.AX
attribute [go_sem] capE appzE copyC slice3E slice3L
theorem ap_t {objs : Nat → Ob} {nx fr : Nat} {t : Nat → AV} {x : AV} {u id : Nat} {cs : List AV} : AS.apply { objs := objs, next := nx, tmps := t } (some u) fr ⟨x, .set id cs⟩ = { objs := doAct fr (.set id cs) objs, next := nx, tmps := upd t u x } := (rfl)
theorem ap_t0 {objs : Nat → Ob} {nx fr : Nat} {t : Nat → AV} {x : AV} {id : Nat} {cs : List AV} : AS.apply { objs := objs, next := nx, tmps := t } none fr ⟨x, .set id cs⟩ = { objs := doAct fr (.set id cs) objs, next := nx, tmps := t } := (rfl)
attribute [go_sem] ap_t ap_t0
end Go.AX
namespace Go.AX.Z
open Go.AX

theorem Snd.open {C : Ctx} {f : FuncId} {id off len sz : Nat} {xs : List AV} {s : HS} {R : AV → HS → Prop} (hl : 0 < len) (h : ∀ cap, len ≤ cap → Snd C f (.refc id off len sz cap :: xs) s R) : Snd C f (.ref id off len sz :: xs) s R := by
 refine ⟨trivial, fun ρ V w args' e1 e2 hI hG => ?_⟩
 obtain ⟨ys⟩ := args'
 match ys, e1, e2 with
 | y :: ys, e1, e2 =>
  have r := e2 0 _ y rfl rfl
  have key : ∃ cap, len ≤ cap ∧ Rel ρ V (.refc id off len sz cap) y := by
   cases r with
   | ref _ _ _ _ cap loc h1 h2 h3 => exact ⟨cap, h3, .refc id off len sz cap loc h1 h2 h3⟩
   | refE => omega
  obtain ⟨cap, hc, r'⟩ := key
  refine (h cap hc).2 ρ V w _ e1 (fun i x z hx hz => ?_) hI hG
  cases i with
  | zero => simp at hx hz; subst hx; subst hz; exact r'
  | succ i => exact e2 (i + 1) x z (by simpa using hx) hz

theorem SndIO.of_walkC {C : Ctx} (hC : COk C) {f : FuncId} {fn : Func} {c : Code} {k : Nat} {args : (Nat → Nat) → List AV} {I : List Tpl} {E : List (Option Tpl)} {mk : (Nat → Nat) → AV} {id off len sz : Nat} {xs : List AV} (hargs : RenML args) (hIr : ∀ c ∈ I, RenML c) (hEr : ∀ c, some c ∈ E → RenML c) (hmk : RenM mk) (hk : I.length = k) (hkE : k ≤ E.length)
  (hf : C.P.funcs[f]? = some fn) (hb : fn.body = some c) (hn : (fn.name == "runtime.NumGoroutine") = false) (hst : stOk fn.ntmps c = true) (hal : (args fun i => i).length ≤ fn.ntmps)
  (he : (args fun i => i) = .ref id off len sz :: xs) (hl : 0 < len)
  (h : ∀ cap, len ≤ cap → awp k C c (endW k C fn fun r' s' => ResIO k r' s' mk E) { objs := iniU (fun _ => .dead) 0 I, next := k, tmps := arg (.refc id off len sz cap :: xs) }) : SndIO C f k args I mk E := by
 intro hs L hL hLn hlive
 obtain ⟨h1, h2⟩ := liveL_get hlive
 refine Snd.of_io hargs hIr hEr hmk hk hkE ?_ hs (thl L) (fun i j hi hj => thl_inj hL i j (by omega) (by omega)) (fun i hi => thl_lt hLn i (by omega)) h2
 rw [he] at hal ⊢
 refine Snd.open hl fun cap hcap => ?_
 have hw : awp k C c (endW k C fn fun r' s' => ResIO k r' s' mk E) (init (.refc id off len sz cap :: xs) ⟨iniO I, k⟩) := by
  rw [ini_eq]; exact h cap hcap
 exact snd_of_awpW hC hf hb hn hst hal hw

theorem Wk.cap {k : Nat} {C : Ctx} {objs : Nat → Ob} {nx : Nat} {tm : Nat → AV} (j : Nat) {id off len sz cap : Nat} (h : tm j = .refc id off len sz cap) : Wk k C { objs := objs, next := nx, tmps := tm } { objs := objs, next := nx, tmps := upd tm j (.ref id off len sz) } := by
 rintro N B a w hl ⟨ρ, V, h1, h2⟩
 refine ⟨ρ, V, fun t => ?_, h2⟩
 show Rel ρ V (upd tm j (.ref id off len sz) t) _
 by_cases ht : t = j
 ·
  subst ht
  have := h1 t
  simp only at this
  rw [h] at this
  rw [upd_eq]
  generalize a.tmps.getD t undef = y at this ⊢
  cases this with
  | refc _ _ _ _ _ loc h1 h2 h3 => exact .ref id off len sz cap loc h1 h2 h3
 ·
  rw [upd_ne _ _ ht]; exact h1 t

theorem overlaps_apart {C : Ctx} {f : FuncId} {fn : Func} {tS tR e : Nat} (hf : C.P.funcs[f]? = some fn) (hn : (fn.name == "runtime.NumGoroutine") = false) (hb : fn.body.isNone = true) (h1 : Extern.findNext fn = none)
  (h2 : Extern.find fn = some (Extern.SlicesOverlaps.overlaps #[tS, tS] #[tR])) (ht : C.P.underlying tS = some (.slice e)) {n : Nat} (hz : szOf C.P e = some n) (hn0 : 0 < n)
  {a o m b o' n' cap : Nat} {ca cb : List AV} {hs : HS} (ha : hs.objs a = .live ca) (hb' : hs.objs b = .live cb) (hab : a ≠ b) (hm : 0 < m) (hc : 0 < cap) :
  Snd C f [.ref a o m n, .refc b o' n' n cap] hs fun r hs' => r = vb false ∧ hs' = hs := by
 refine ⟨trivial, fun ρ V w args' e1 e2 hI hG => .inr ?_⟩
 obtain ⟨ys⟩ := args'
 match ys, e1, e2 with
 | [y1, y2], e1, e2 =>
  have r1 := e2 0 _ y1 rfl rfl
  have r2 := e2 1 _ y2 rfl rfl
  cases r1 with
  | refE => omega
  | ref _ _ _ _ c1 l1 p1 p2 p3 =>
  cases r2 with
  | refc _ _ _ _ _ l2 q1 q2 q3 =>
  obtain ⟨d1, T1, u1, u2, u3, u4⟩ := hI.live a ca l1 ha p1
  obtain ⟨d2, T2, v1, v2, v3, v4⟩ := hI.live b cb l2 hb' q1
  have hne : l1.b ≠ l2.b := fun hh => hab (hI.inj a b l1 l2 ca cb ha hb' p1 q1 hh)
  have hcn : 0 < cap * n := Nat.mul_pos hc hn0
  refine ⟨.bool false, w, ?_, _, vb false, hs, ρ, V, rfl, ⟨rfl, rfl⟩, .v _, hI, Grew.refl _ _ _ _⟩
  rw [run_callFunc_extern hf hn hb h1 h2]
  have := Lib.run_overlaps_apart (P := C.P) w tS tR e ht n (szOf_run hz) ⟨l1.b, l1.base + o, none⟩ ⟨l2.b, l2.base + o', none⟩ m c1 n' cap hne T1 T2 d1.size d2.size
   (by simp [World.shape?, u1]) (by simp [World.shape?, v1]) (by omega) (by simp [World.frozen?, u1]) (by simp [World.frozen?, u1])
  simp only [this, Result.andThen_ok]
end Go.AX.Z
namespace Go.AX.Z
open Go.AX
theorem putAt_in {cells cs : List AV} {off : Nat} (h : off + cs.length ≤ cells.length) : putAt cells off cs = cells.take off ++ cs ++ cells.drop (off + cs.length) := by
 unfold putAt
 split
 ·
  rename_i x
  simp only [List.length_cons, List.length_nil, Nat.zero_add] at h ⊢
  rw [List.set_eq_take_append_cons_drop, if_pos (by omega)]
  simp
 ·
  rw [if_pos h]
theorem ins_grow {α : Type} (R : List α → List AV) (sz : Nat) (hL : ∀ l, (R l).length = l.length * sz) (hA : ∀ x y, R (x ++ y) = R x ++ R y)
  (a1 a2 : List α) (i : Nat) (hm : a2.length = 1) (hi : i < a1.length) (z : List AV) (hz : z.length = sz) :
  putAt (putAt (R (a1.take i) ++ rep (a1.length + 1 - i) z) (i * sz) (R a2)) ((i + 1) * sz) (R (a1.drop i)) = R (a1.take i ++ a2 ++ a1.drop i) := by
 have e1 : (R a2).length = sz := by rw [hL, hm, Nat.one_mul]
 have e2 : (R (a1.take i)).length = i * sz := by rw [hL, List.length_take]; congr 1; omega
 have e3 : (rep (a1.length + 1 - i) z).length = (a1.length + 1 - i) * sz := by rw [rep_length, hz]
 have e4 : (R (a1.drop i)).length = (a1.length - i) * sz := by rw [hL, List.length_drop]
 have e5 : (a1.length + 1 - i) * sz = sz + (a1.length - i) * sz := by
  rw [show a1.length + 1 - i = 1 + (a1.length - i) by omega, Nat.add_mul, Nat.one_mul]
 have e6 : (i + 1) * sz = i * sz + sz := by rw [Nat.add_mul, Nat.one_mul]
 rw [putAt_in (cells := R (List.take i a1) ++ rep (a1.length + 1 - i) z) (cs := R a2) (by rw [List.length_append, e1, e2, e3]; omega), List.take_append_of_le_length (by omega), List.take_of_length_le (by omega)]
 rw [putAt_in (by simp only [List.length_append, List.length_drop, e1, e2, e3, e4]; omega)]
 rw [List.take_append_of_le_length (by simp only [List.length_append, e1, e2]; omega), List.take_of_length_le (by simp only [List.length_append, e1, e2]; omega)]
 rw [show ∀ l : List AV, l.length ≤ (i + 1) * sz + (R (a1.drop i)).length → R (a1.take i) ++ R a2 ++ R (a1.drop i) ++ l.drop ((i + 1) * sz + (R (a1.drop i)).length) = R (a1.take i) ++ R a2 ++ R (a1.drop i) from fun l hl => by rw [List.drop_of_length_le hl, List.append_nil], hA, hA]
 simp only [List.length_append, List.length_drop, e1, e2, e3, e4]; omega
theorem ins_room {α : Type} (R : List α → List AV) (sz : Nat) (hL : ∀ l, (R l).length = l.length * sz) (hA : ∀ x y, R (x ++ y) = R x ++ R y) (hT : ∀ x n, (R x).take (n * sz) = R (x.take n))
  (a1 a2 : List α) (i : Nat) (hi : i < a1.length) {c1 : List AV} (h1 : c1 = List.take ((i + 1) * sz) (R a1) ++ R (a1.drop i) ++ List.drop ((i + 1) * sz + (a1.length - i) * sz) (R a1)) :
  c1.length = (a1.length + 1) * sz ∧ List.take (i * sz) c1 ++ R a2 ++ List.drop (i * sz + sz) c1 = R (a1.take i ++ a2 ++ a1.drop i) := by
 have e2 : (R (a1.take (i + 1))).length = (i + 1) * sz := by rw [hL, List.length_take]; congr 1; omega
 have e4 : (R (a1.drop i)).length = (a1.length - i) * sz := by rw [hL, List.length_drop]
 have e6 : (i + 1) * sz = i * sz + sz := by rw [Nat.add_mul, Nat.one_mul]
 have e7 : (a1.length + 1) * sz = (i + 1) * sz + (a1.length - i) * sz := by rw [← Nat.add_mul]; congr 1; omega
 have e8 : (a1.length + 1) * sz = a1.length * sz + sz := by rw [Nat.add_mul, Nat.one_mul]
 rw [show List.drop ((i + 1) * sz + (a1.length - i) * sz) (R a1) = [] from List.drop_of_length_le (by rw [hL, ← e7, e8]; omega), List.append_nil, hT] at h1
 subst h1
 refine ⟨by rw [List.length_append, e2, e4, e7], ?_⟩
 rw [List.take_append_of_le_length (by omega), hT, List.take_take, show min i (i + 1) = i by omega, hA, hA]
 congr 1
 rw [← e6, List.drop_append, e2, Nat.sub_self, List.drop_zero, List.drop_of_length_le (by omega), List.nil_append]
end Go.AX.Z
namespace Go.AX.Z
open Go.AX
end Go.AX.Z

/-! (AyN) -/

namespace Go.AX.Z
open Go.AX
def band (k : IntKind) (a b : Int) : Int := k.wrap ((BitVec.ofInt k.bits a &&& BitVec.ofInt k.bits b).toNat)
def bor (k : IntKind) (a b : Int) : Int := k.wrap ((BitVec.ofInt k.bits a ||| BitVec.ofInt k.bits b).toNat)
def bxor (k : IntKind) (a b : Int) : Int := k.wrap ((BitVec.ofInt k.bits a ^^^ BitVec.ofInt k.bits b).toNat)
def bandn (k : IntKind) (a b : Int) : Int := k.wrap ((BitVec.ofInt k.bits a &&& ~~~ BitVec.ofInt k.bits b).toNat)
theorem iop_and {k : IntKind} {a b : Int} : iop .and k a k b = some (.int k (band k a b)) := by simp only [iop, if_true, band]
theorem iop_or {k : IntKind} {a b : Int} : iop .or k a k b = some (.int k (bor k a b)) := by simp only [iop, if_true, bor]
theorem iop_xor {k : IntKind} {a b : Int} : iop .xor k a k b = some (.int k (bxor k a b)) := by simp only [iop, if_true, bxor]
theorem iop_andn {k : IntKind} {a b : Int} : iop .andNot k a k b = some (.int k (bandn k a b)) := by simp only [iop, if_true, bandn]
end Go.AX.Z
namespace Go.AX.Z
open Go.AX
def nilOr (b : Bool) (x : AV) : AV := bif b then .v (.slice none 0 0) else x
section
variable {s : AS} {F : List Nat} {σ : List (Option Nat)} {x y : AV}
theorem Tm.on {b : Bool} (h : Tm s F σ x y) : Tm s F σ (nilOr b x) (nilOr b y) := by cases b <;> first | exact h | exact Tm.v _
end
end Go.AX.Z

/-! (AyO) -/

namespace Go.AX

end Go.AX

/-! (AyS) -/

namespace Go.AX.Z
open Go.AX

end Go.AX.Z

/-! (AyT) -/

namespace Go.AX.Z
open Go.AX

inductive Fr (q nx off : Nat) : AV → AV → Prop
 | same (x : AV) : Fr q nx off x x
 | ref (o len sz : Nat) (h : o = off) : Fr q nx off (.ref q o len sz) (.ref nx 0 len sz)
 | aggs (l m : List AV) (h : l.length = m.length) (H : ∀ (i : Nat) x y, l[i]? = some x → m[i]? = some y → Fr q nx off x y) : Fr q nx off (.agg l) (.agg m)
def FrL (q nx off : Nat) (l m : List AV) : Prop := l.length = m.length ∧ ∀ (i : Nat) x y, l[i]? = some x → m[i]? = some y → Fr q nx off x y
theorem FrL.nil {q nx off : Nat} : FrL q nx off [] [] := ⟨rfl, fun i x y hx _ => by simp at hx⟩
theorem FrL.cons {q nx off : Nat} (x y : AV) (l m : List AV) (h : Fr q nx off x y) (t : FrL q nx off l m) : FrL q nx off (x :: l) (y :: m) := by
 refine ⟨by simp [t.1], fun i a b ha hb => ?_⟩
 cases i with
 | zero => simp at ha hb; subst ha; subst hb; exact h
 | succ i => exact t.2 i a b (by simpa using ha) (by simpa using hb)
theorem Fr.agg {q nx off : Nat} (l m : List AV) (h : FrL q nx off l m) : Fr q nx off (.agg l) (.agg m) := .aggs l m h.1 h.2
theorem FrL.len {q nx off : Nat} {l m : List AV} (h : FrL q nx off l m) : l.length = m.length := h.1
theorem FrL.get {q nx off : Nat} {l m : List AV} (h : FrL q nx off l m) (i : Nat) (x y : AV) : l[i]? = some x → m[i]? = some y → Fr q nx off x y := h.2 i x y

def shift (ρ : Rho) (q nx off : Nat) : Rho := fun id => if id = nx then (ρ q).map fun loc => ⟨loc.b, loc.base + off, loc.N⟩ else ρ id

theorem shift_ge {ρ : Rho} {q nx off : Nat} (h : ρ nx = none) : ∀ id loc, ρ id = some loc → shift ρ q nx off id = some loc := by
 intro id loc hr
 unfold shift
 rw [if_neg (by rintro rfl; rw [h] at hr; cases hr)]; exact hr

theorem fr_rel {ρ : Rho} {V : View} {q nx off : Nat} (hn : ρ nx = none) : ∀ {y : Value} {x x' : AV}, Rel ρ V x y → Fr q nx off x x' → Rel (shift ρ q nx off) V x' y := by
 intro y x x' h
 induction h generalizing x' with
 | agg cs ys h H S ih =>
  intro hf
  cases hf with
  | same => exact (Rel.agg cs ys h H S).mono (shift_ge hn) (fun _ _ h => h)
  | aggs _ m hl1 hl2 =>
   have hl : FrL q nx off cs m := ⟨hl1, hl2⟩
   refine .agg m ys (by rw [h, hl.len]) (fun i x y hx hy => ?_) S
   have hi : i < cs.length := by rw [hl.len]; exact (List.getElem?_eq_some_iff.1 hx).1
   have hx0 : cs[i]? = some cs[i] := List.getElem?_eq_getElem hi
   exact ih i cs[i] y hx0 hy (hl.get i _ _ hx0 hx)
 | ref id o len sz cap loc h hc hl =>
  intro hf
  cases hf with
  | same => exact (Rel.ref id o len sz cap loc h hc hl).mono (shift_ge hn) (fun _ _ h => h)
  | ref _ _ _ ho =>
   subst ho
   have hs : shift ρ q nx o nx = some ⟨loc.b, loc.base + o, loc.N⟩ := by unfold shift; rw [if_pos rfl, h]; rfl
   have := Rel.ref (ρ := shift ρ q nx o) (V := V) nx 0 len sz cap ⟨loc.b, loc.base + o, loc.N⟩ hs (by simpa using hc) hl
   simpa using this
 | refE id o sz a =>
  intro hf
  cases hf with
  | same => exact .refE _ _ _ _
  | ref => exact .refE _ _ _ _
 | v x => intro hf; cases hf; exact .v _
 | unk y => intro hf; cases hf; exact .unk _
 | tup cs ys h H ih => intro hf; cases hf; exact (Rel.tup cs ys h H).mono (shift_ge hn) (fun _ _ h => h)
 | imm cells len b o cap c hV hb H S hlc ih => intro hf; cases hf; exact (Rel.imm cells len b o cap c hV hb H S hlc).mono (shift_ge hn) (fun _ _ h => h)
 | imm0 a cap => intro hf; cases hf; exact .imm0 a cap
 | fim N cells len b o cap c hV hb H S hlc hN ih => intro hf; cases hf; exact (Rel.fim N cells len b o cap c hV hb H S hlc hN).mono (shift_ge hn) (fun _ _ h => h)
 | fim0 N a cap => intro hf; cases hf; exact .fim0 N a cap
 | iptr cells o b o' c hV hb H S ih => intro hf; cases hf; exact (Rel.iptr cells o b o' c hV hb H S).mono (shift_ge hn) (fun _ _ h => h)
 | ptr id o loc h => intro hf; cases hf; exact (Rel.ptr id o loc h).mono (shift_ge hn) (fun _ _ h => h)
 | refc id o len sz cap loc h hc hl => intro hf; cases hf; exact (Rel.refc id o len sz cap loc h hc hl).mono (shift_ge hn) (fun _ _ h => h)
 | clo f first caps xs ys h1 h2 H1 H2 ih1 ih2 => intro hf; cases hf; exact (Rel.clo f first caps xs ys h1 h2 H1 H2).mono (shift_ge hn) (fun _ _ h => h)

def updT (t : Nat → AV) : List (Nat × AV) → Nat → AV
 | [] => t
 | (j, x) :: l => updT (upd t j x) l
theorem updT_n (t : Nat → AV) : updT t [] = t := rfl
theorem updT_c (t : Nat → AV) (j : Nat) (x : AV) (l : List (Nat × AV)) : updT t ((j, x) :: l) = updT (upd t j x) l := rfl
def updO (o : Nat → Ob) : List (Nat × List AV) → Nat → Ob
 | [] => o
 | (j, c) :: l => updO (upd o j (.live c)) l
theorem updO_n (o : Nat → Ob) : updO o [] = o := rfl
theorem updO_c (o : Nat → Ob) (j : Nat) (c : List AV) (l : List (Nat × List AV)) : updO o ((j, c) :: l) = updO (upd o j (.live c)) l := rfl

def FrT (q nx off : Nat) (t : Nat → AV) : List (Nat × AV) → Prop
 | [] => True
 | (j, x) :: l => Fr q nx off (t j) x ∧ FrT q nx off t l
def FrO (q nx off : Nat) (o : Nat → Ob) : List (Nat × List AV) → Prop
 | [] => True
 | (j, c) :: l => (j ≠ q ∧ j < nx ∧ ∃ c0, o j = .live c0 ∧ FrL q nx off c0 c) ∧ FrO q nx off o l

theorem updT_at {q nx off : Nat} {t : Nat → AV} : ∀ (l : List (Nat × AV)) (t' : Nat → AV), FrT q nx off t l → (∀ j, Fr q nx off (t j) (t' j)) → ∀ j, Fr q nx off (t j) (updT t' l j)
 | [], t', _, h, j => h j
 | (i, x) :: l, t', hl, h, j => by
  refine updT_at l (upd t' i x) hl.2 (fun j => ?_) j
  by_cases hj : j = i
  ·
   subst hj; rw [upd_eq]; exact hl.1
  ·
   rw [upd_ne _ _ hj]; exact h j
theorem updO_at {q nx off : Nat} {o o1 : Nat → Ob} : ∀ (l : List (Nat × List AV)) (o' : Nat → Ob), FrO q nx off o l → (∀ j, j ≠ q → j ≠ nx → o' j = o j ∨ ∃ c0 c, o j = .live c0 ∧ o' j = .live c ∧ FrL q nx off c0 c) → o' q = o1 q → o' nx = o1 nx →
  (∀ j, j ≠ q → j ≠ nx → updO o' l j = o j ∨ ∃ c0 c, o j = .live c0 ∧ updO o' l j = .live c ∧ FrL q nx off c0 c) ∧ updO o' l q = o1 q ∧ updO o' l nx = o1 nx
 | [], o', _, h, h1, h2 => ⟨h, h1, h2⟩
 | (i, c) :: l, o', hl, h, h1, h2 => by
  obtain ⟨⟨g1, g2, c0, g3, g4⟩, g5⟩ := hl
  refine updO_at l (upd o' i (.live c)) g5 (fun j hj hj' => ?_) (by rw [upd_ne _ _ (Ne.symm g1)]; exact h1) (by rw [upd_ne _ _ (by omega)]; exact h2)
  by_cases hji : j = i
  ·
   subst hji; exact .inr ⟨c0, c, g3, upd_eq _ _ _, g4⟩
  ·
   rw [upd_ne _ _ hji]; exact h j hj hj'

theorem Wk.front {k : Nat} {C : Ctx} {objs : Nat → Ob} {nx : Nat} {tm : Nat → AV} (q off : Nat) {xs ys zs : List AV} (T : List (Nat × AV)) (O : List (Nat × List AV)) (hlt : q < nx) (h : objs q = .live xs) (e : xs = ys ++ zs) (hl : ys.length = off)
  (hT : FrT q nx off tm T) (hO : FrO q nx off objs O) :
  Wk k C { objs := objs, next := nx, tmps := tm } { objs := updO (upd (upd objs q .dead) nx (.live zs)) O, next := nx + 1, tmps := updT tm T } := by
 intro N B a w hLo hg
 obtain ⟨ρ, V, h1, h2, h3, h4, h5, h6, h7⟩ := hg
 have hn : ρ nx = none := h2.fresh nx (Nat.le_refl _)
 have hkn : k ≤ nx := by have := h4.next; have := hLo.1; simp only at *; omega
 obtain ⟨ob1, ob2, ob3⟩ := updO_at (o := objs) (o1 := upd (upd objs q .dead) nx (.live zs)) O (upd (upd objs q .dead) nx (.live zs)) hO
  (fun j hj hj' => .inl (by rw [upd_ne _ _ hj', upd_ne _ _ hj])) rfl rfl
 rw [upd_eq] at ob3
 rw [upd_ne _ _ (Nat.ne_of_lt hlt), upd_eq] at ob2
 generalize updO (upd (upd objs q .dead) nx (.live zs)) O = objs' at ob1 ob2 ob3
 have hge := shift_ge (q := q) (off := off) hn
 have relC : ∀ {cs cs' : List AV} {c : Array Value} {o : Nat}, RelC ρ V cs c o → FrL q nx off cs cs' → RelC (shift ρ q nx off) V cs' c o := by
  intro cs cs' c o hc hf
  refine ⟨by rw [← hf.len]; exact hc.le, fun i x y hx hy => ?_, fun i y hi hy => hc.sto i y (by rw [hf.len]; exact hi) hy⟩
  have hi : i < cs.length := by rw [hf.len]; exact (List.getElem?_eq_some_iff.1 hx).1
  have hx0 : cs[i]? = some cs[i] := List.getElem?_eq_getElem hi
  exact fr_rel hn (hc.rel i _ y hx0 hy) (hf.get i _ _ hx0 hx)
 -- where a live object of the new state was
 have back : ∀ j cs loc, objs' j = .live cs → shift ρ q nx off j = some loc → ∃ j0 cs0 loc0, objs j0 = .live cs0 ∧ ρ j0 = some loc0 ∧ loc0.b = loc.b ∧ (j0 = j ∧ j ≠ q ∧ j ≠ nx ∨ j0 = q ∧ j = nx) ∧
   ∃ c T, w.heap[loc.b]? = some (.cells c T (0, 0)) ∧ c.size = loc.N ∧ RelC (shift ρ q nx off) V cs c loc.base ∧ V loc.b = none := by
  intro j cs loc hj hr
  by_cases hjn : j = nx
  ·
   subst hjn
   rw [ob3] at hj; cases hj
   unfold shift at hr
   rw [if_pos rfl, Option.map_eq_some_iff] at hr
   obtain ⟨loc0, hr0, rfl⟩ := hr
   obtain ⟨c, T, e1, e2, e3, e4⟩ := h2.live q xs loc0 h hr0
   refine ⟨q, xs, loc0, h, hr0, rfl, .inr ⟨rfl, rfl⟩, c, T, e1, e2, ?_, e4⟩
   subst e
   have := e3.sub off zs.length (by simp; omega)
   rw [← hl, List.drop_left, List.take_length, hl] at this
   exact this.mono hge (fun _ _ h => h)
  ·
   have hjq : j ≠ q := by rintro rfl; rw [ob2] at hj; cases hj
   have hr' : ρ j = some loc := by unfold shift at hr; rw [if_neg hjn] at hr; exact hr
   rcases ob1 j hjq hjn with h' | ⟨c0, c, g1, g2, g3⟩
   ·
    rw [h'] at hj
    obtain ⟨c, T, e1, e2, e3, e4⟩ := h2.live j cs loc hj hr'
    exact ⟨j, cs, loc, hj, hr', rfl, .inl ⟨rfl, hjq, hjn⟩, c, T, e1, e2, e3.mono hge (fun _ _ h => h), e4⟩
   ·
    rw [g2] at hj; cases hj
    obtain ⟨c, T, e1, e2, e3, e4⟩ := h2.live j c0 loc g1 hr'
    exact ⟨j, c0, loc, g1, hr', rfl, .inl ⟨rfl, hjq, hjn⟩, c, T, e1, e2, relC e3 g3, e4⟩
 refine ⟨shift ρ q nx off, V, fun j => fr_rel hn (h1 j) (updT_at T tm hT (fun j => .same _) j), ⟨h2.view, fun id hid => ?_, fun j cs loc hj hr => ?_, fun j cs loc hj hr => ?_, fun i j li lj ci cj hi hj hri hrj hb => ?_⟩, h3,
  ⟨fun id loc hr => hge id loc (h4.rho id loc hr), fun id hid => ?_, Nat.le_succ_of_le h4.next, h4.view, h4.size, h4.keep, fun b hb => ?_, h4.vnew, h4.mem⟩, h5, h6, fun _ h => h.elim⟩
 ·
  unfold shift
  rw [if_neg (by simp only at hid; omega)]
  exact h2.fresh id (by simp only at hid ⊢; omega)
 ·
  obtain ⟨_, _, _, _, _, _, _, h'⟩ := back j cs loc hj hr
  exact h'
 ·
  -- frozen
  have hj : objs' j = .froz cs := hj
  have hjn : j ≠ nx := by intro hh; rw [hh, ob3] at hj; cases hj
  have hjq : j ≠ q := by intro hh; rw [hh, ob2] at hj; cases hj
  have hr' : ρ j = some loc := by unfold shift at hr; rw [if_neg hjn] at hr; exact hr
  rcases ob1 j hjq hjn with h' | ⟨c0, c, g1, g2, g3⟩
  ·
   rw [h'] at hj
   obtain ⟨c, e1, e2, e3⟩ := h2.froz j cs loc hj hr'
   exact ⟨c, e1, e2.mono hge (fun _ _ h => h), e3⟩
  ·
   rw [g2] at hj; cases hj
 ·
  obtain ⟨i0, ci0, li0, a1, a2, a3, a4, _⟩ := back i ci li hi hri
  obtain ⟨j0, cj0, lj0, b1, b2, b3, b4, _⟩ := back j cj lj hj hrj
  have := h2.inj i0 j0 li0 lj0 ci0 cj0 a1 b1 a2 b2 (by rw [a3, b3]; exact hb)
  rcases a4 with ⟨rfl, x1, x2⟩ | ⟨rfl, rfl⟩ <;> rcases b4 with ⟨rfl, y1, y2⟩ | ⟨rfl, rfl⟩
  ·
   exact this
  ·
   exact absurd this x1
  ·
   exact absurd this.symm y1
  ·
   rfl
 ·
  unfold shift
  rw [if_neg (by have := h4.next; simp only at this; omega)]
  exact h4.old id hid
 ·
  obtain ⟨j, cs, loc, hj, hr, rfl⟩ := hb
  obtain ⟨j0, cs0, loc0, a1, a2, a3, _⟩ := back j cs loc hj hr
  exact h4.own loc.b ⟨j0, cs0, loc0, a1, a2, a3⟩

theorem Tm.frzK {s : AS} {F : List Nat} {σ : List (Option Nat)} {id len k sz : Nat} {cells ys : List AV} (hk : len = k) (hF : id ∈ F) (ho : s.objs id = .live cells) (hl : cells.length = len * sz) (h : TmL s F σ cells ys) : Tm s F σ (.ref id 0 len sz) (.imm ys k) := by
 subst hk; exact Tm.frz0 hF ho hl h

section
variable {C : Ctx} {fr : Nat} {f : FuncId} {objs : Nat → Ob} {nx : Nat} {tm : Nat → AV} {kk : Eff → Foot → Prop} {all : List Oper} {i : Nat} {dst : Option Nat} {acc : List Print} {K : AS → List Print → Prop}

theorem xcallD_O {k : Nat} {args : List AV} {argsT : (Nat → Nat) → List AV} {I : List Tpl} {E : List (Option Tpl)} {mk : (Nat → Nat) → AV} {objs0 : Nat → Ob} (L : List Nat) (h : SndIO C f k argsT I mk E)
  (hL : L.Nodup) (hLn : ∀ x ∈ L, x < nx) (hlive : liveL objs (ex k (thl L) nx) L I) (he : args = argsT (ex k (thl L) nx)) (hb : barrierOk all i = true) (hp : printsOk all acc = true)
  (hk : K { toHS := ⟨finL objs (ex k (thl L) nx) 0 E, nx + (E.length - k)⟩, tmps := putT tm dst (mk (ex k (thl L) nx)) } []) :
  xcallD C fr (some (f, args)) objs0 kk (barB C all i dst { objs := objs, next := nx, tmps := tm } acc K) := by
 subst he
 exact xcallD_B hb hp (h ⟨objs, nx⟩ L hL hLn hlive) fun r hs hr => by obtain ⟨rfl, rfl⟩ := hr; exact hk

end

def sEq (a b : List Int) : Bool := (strB a).toList == (strB b).toList
theorem sEq_i (a b : List Int) : ((strB a).toList == (strB b).toList) = sEq a b := rfl
theorem sEq_refl (a : List Int) : sEq a a = true := by simp [sEq]
theorem bytesOf_vu : ∀ l : List Int, bytesOf (List.map vu l) = some l
 | [] => rfl
 | x :: l => by rw [List.map_cons, bytesOf, bytesOf_vu l]; rfl
attribute [go_sem] updT_n updT_c updO_n updO_c bytesOf_vu sEq_i strE
end Go.AX.Z

/-! (AyU) -/

namespace Go.AX.Z
open Go.AX

abbrev vs (l : List Int) : AV := .v (.string (strB l))

theorem strB_go (l : List Int) (r : ByteArray) : (l.foldl (fun r n => r.push (UInt8.ofNat n.toNat)) r).data.toList = r.data.toList ++ l.map fun n => UInt8.ofNat n.toNat := by
 induction l generalizing r with
 | nil => simp
 | cons a l ih => rw [List.foldl_cons, ih]; simp [ByteArray.push]

theorem strB_data (l : List Int) : (strB l).data.toList = l.map fun n => UInt8.ofNat n.toNat := by
 unfold strB; rw [strB_go]; rfl

theorem strB_size (l : List Int) : (strB l).size = l.length := by
 show (strB l).data.size = l.length
 rw [← Array.length_toList, strB_data, List.length_map]

attribute [go_sem] strB_size
end Go.AX.Z

/-! (AyV) -/

namespace Go.AX.Z
open Go.AX

def eatU (objs : Nat → Ob) (L : List Nat) : Nat → Ob := L.foldl (fun o id => upd o id .dead) objs
theorem eatU_n (objs : Nat → Ob) : eatU objs [] = objs := rfl
theorem eatU_c (objs : Nat → Ob) (i : Nat) (l : List Nat) : eatU objs (i :: l) = eatU (upd objs i .dead) l := rfl
def onlyU (objs o : Nat → Ob) (L : List Nat) : Nat → Ob := L.foldl (fun o id => upd o id (objs id)) o
theorem onlyU_n (objs o : Nat → Ob) : onlyU objs o [] = o := rfl
theorem onlyU_c (objs o : Nat → Ob) (i : Nat) (l : List Nat) : onlyU objs o (i :: l) = onlyU objs (upd o i (objs i)) l := rfl

attribute [go_sem] eatU_n eatU_c onlyU_n onlyU_c
end Go.AX.Z
namespace Go.AX.Z
open Go.AX
end Go.AX.Z
namespace Go.AX.Z
open Go.AX
theorem sbE_imm {P : Program} {a b : TypeId} (l : List AV) (n : Nat) : sbE P a b (.imm l n) = none := rfl
theorem sbE_ref {P : Program} {a b : TypeId} (i o n z : Nat) : sbE P a b (.ref i o n z) = none := rfl
attribute [go_sem] sbE_imm sbE_ref
end Go.AX.Z
namespace Go.AX.Z
open Go.AX
end Go.AX.Z

/-! (AyW) -/

namespace Go.AX.Z
open Go.AX

end Go.AX.Z

/-! (AyX) -/

namespace Go.AX.Z
open Go.AX

end Go.AX.Z
attribute [go_sem] Nat.reduceEqDiff reduceIte Nat.reduceMul Nat.reduceSub Nat.reduceLT Nat.reduceLeDiff Int.reduceToNat Int.reduceBEq Int.reduceBNe Int.reduceLT Int.reduceLE Int.reduceAdd Int.reduceSub Int.reduceMul

/-! (AzC) -/

namespace Go.AX.Z
open Go.AX
universe u

theorem qB {c d : Bool} (e : c = d) {p : Prop} (h : c = d → p := by
 intro e; first | rfl | (rw [e]; rfl) | (simp only [e, Bool.true_and, Bool.false_and, Bool.true_or, Bool.false_or, cond_true, cond_false] <;> rfl)) : p := h e
theorem qS {p : Prop} (h : p := by (try simp only [go_sem]); rfl) : p := h
theorem qF {p : Prop} (h : p := by
 (try simp only [go_sem, Nat.reduceAdd, fz, nilS, packR, List.take_nil, List.take_length, List.length_map, List.length_append, cond_true, cond_false, Nat.ble_eq, ble_self])
 all_goals first | rfl | (simp only [go_sem, Nat.reduceAdd, fz, nilS, packR, List.take_nil, List.take_length, List.length_map, List.length_append, cond_true, cond_false, Nat.ble_eq, ble_self, List.map_append] <;> rfl)) : p := h
theorem qR {p : Prop} (h : p := by simp only [go_sem, resV, resAll, resOf, packR, Nat.reduceAdd]; rfl) : p := h
theorem qL {p : Prop} (h : p := by
 first | rfl | (simp only [List.flatMap_append, List.flatMap_cons, List.flatMap_nil, List.map_append, List.map_cons, List.map_nil, List.append_nil, List.nil_append] <;> rfl)) : p := h
theorem qN {p : Prop} (h : p := by
 first | rfl | (simp only [List.length_append, List.length_take, List.length_drop, List.length_cons, List.length_nil, List.length_modify, List.length_set, Nat.zero_add] <;> omega) | omega) : p := h
theorem qG {p : Prop} (h : p := by
 first | rfl | (simp only [go_sem, Nat.reduceAdd] <;> rfl)) : p := h
theorem qM {α : Type} {a : α} : a ∉ ([] : List α) := List.not_mem_nil
theorem qB2 {n m : Nat} (h : Nat.ble n m = true) : n ≤ m := Nat.le_of_ble_eq_true h
theorem qP {p : Prop} (h : p := by
 first | decide +kernel | (simp [printsOk, apartP, clash, meet]; try (first | done | decide +kernel | (repeat (first | exact Or.inr (by decide +kernel) | (refine And.intro (Or.inr (by decide +kernel)) ?_)))))) : p := h

section
variable {k : Nat} {C : Ctx} {y : Code} {Q : AExit → AS → Prop} {objs : Nat → Ob} {nx : Nat} {tm : Nat → AV} {ops : Array Oper} {draw : Bool}
theorem awp_nw {id : Nat} (L : List Nat) {g : (Nat → AV) → Nat → AV} (h : ∀ (tz : Nat → AV) (K : AS → Prop), (∀ t u, Wk k C t u → awp k C y Q u → K t) → xw draw C (ops.toList.map (·.dst)) nx 0 ops.toList { objs := objs, next := nx + ops.size, tmps := g tz } K) (hg : ∀ tz, keep tz tm L = g tz := by exact fun _ => rfl) : awp k C (.seq (.region id ops draw) y) Q { objs := objs, next := nx, tmps := tm } :=
 awp_nr L hg fun tz => awp_regW (h tz)
theorem awp_nw1 {id : Nat} (L : List Nat) {g : (Nat → AV) → Nat → AV} (h : ∀ (tz : Nat → AV) (K : AS → Prop), (∀ t, Q .normal t → K t) → xw draw C (ops.toList.map (·.dst)) nx 0 ops.toList { objs := objs, next := nx + ops.size, tmps := g tz } K) (hg : ∀ tz, keep tz tm L = g tz := by exact fun _ => rfl) : awp k C (.region id ops draw) Q { objs := objs, next := nx, tmps := tm } :=
 awp_nr1 L hg fun tz => awp_reg1 (h tz)
end

section
variable {s : AS} {F : List Nat} {σ : List (Option Nat)}
theorem tv {x : Value} : Tm s F σ (.v x) (.v x) := Tm.v x
theorem tp {i old off : Nat} (h : σ[i]? = some (some old) := by rfl) : Tm s F σ (.ptr old off) (.ptr i off) := Tm.ptr h
theorem tr {i old off len len' sz : Nat} (h : σ[i]? = some (some old) := by rfl) (hl : len' = len := by exact qN) : Tm s F σ (.ref old off len sz) (.ref i off len' sz) := Tm.refL h hl
theorem tI {cs : List AV} {n : Nat} (h : ∀ c ∈ cs, Clean c) : Tm s F σ (.imm cs n) (.imm cs n) := Tm.clean (Clean.imm h)
theorem tc {x y : AV} {xs ys : List AV} (h : Tm s F σ x y) (t : TmL s F σ xs ys) : TmL s F σ (x :: xs) (y :: ys) := TmL.cons h t
theorem tn : TmL s F σ [] [] := TmL.nil
theorem tA {f : Nat → AV} (n : Nat) {x : AV} (h : ∀ j, Tm s F σ (s.tmps j) (f j)) (hx : Tm s F σ (s.tmps n) x) : ∀ j, Tm s F σ (s.tmps j) (upd f n x j) := tmAllU n h hx
theorem tT {i off sz : Nat} : Tm s F σ (.v (.slice none 0 0)) (.ref i off 0 sz) := Tm.thaw i off sz
end
theorem cv {x : Value} : Clean (.v x) := Clean.v x
theorem rv {x : Value} : RenM fun _ => (.v x : AV) := RenM.const (Clean.v x)
theorem bE (b : Bool) : b = true ∨ b = false := Bool.eq_false_or_eq_true b
theorem lc {α : Type u} {a : α} {l : List α} : (a :: l).length = l.length + 1 := List.length_cons
theorem ln {α : Type u} : ([] : List α).length = 0 := List.length_nil

theorem qU {k : Nat} {C : Ctx} {P K : AS → Prop} {t : AS} (u : ∀ t u, Wk k C t u → P u → K t) (h : P t) : K t := u _ _ (Wk.refl _ _ _) h

theorem tmOE {s : AS} {F : List Nat} {σ : List (Option Nat)} {f : Nat → Ob} (i : Nat) {old : Nat} {xs ys : List AV} (h : TmO s F σ f) (hc : ∀ c ∈ ys, Clean c) (hi : σ[i]? = some (some old) := by rfl) (hF : old ∉ F := by first | exact List.not_mem_nil | decide) (ho : s.objs old = .live xs := by rfl) (he : ys = xs := by first | rfl | exact qL) : TmO s F σ (upd f i (.live ys)) :=
 tmOU i h hi hF ho (TmL.of_eq he hc)

end Go.AX.Z

/-! (AyZ) -/

namespace Go.AX.Z
open Go.AX

theorem SndE.of_io {C : Ctx} {f : FuncId} {args : (Nat → Nat) → List AV} {mk : (Nat → Nat) → AV} {cs CS : List AV} (hargs : RenML args) (hmk : RenM mk) (hcl : ∀ c ∈ CS, Clean c) (hcs : ∀ c ∈ cs, Clean c)
  (h0 : ∀ a b : Nat → Nat, a 1 = b 1 → mk a = mk b) (h1 : ∀ a b : Nat → Nat, a 0 = b 0 → args a = args b) (h : SndIO C f 1 args [fun _ => cs] mk [none, some fun _ => CS])
  (hs : HS) (fr old : Nat) (ho : hs.objs old = .live cs) (hne : old ≠ fr) : SndE C f (args fun _ => old) hs fr ⟨mk fun _ => fr, .app (some old) CS⟩ := by
 intro ρ V w args' g1 g2 hI hG hfr hfn
 let ρ0 : Rho := fun i => if i = 0 then ρ old else none
 have e00 : ρ0 0 = ρ old := if_pos rfl
 obtain ⟨ob0, hob0⟩ : ∃ ob0 : Nat → Ob, ob0 = fun i => if i = 0 then .live cs else .dead := ⟨_, rfl⟩
 have hob00 : ob0 0 = .live cs := by rw [hob0]; rfl
 have hI0 : Inv ρ0 V ⟨ob0, 1⟩ w := by
  refine ⟨hI.view, fun id hid => if_neg (by simp only at hid; omega), fun id cells loc hl hr => ?_, fun id cells loc hl hr => ?_, fun i j li lj ci cj hi hj hri hrj hb => ?_⟩
  ·
   by_cases hi : id = 0
   ·
    subst hi
    simp only at hl
    rw [hob00] at hl; cases hl
    obtain ⟨c, T, a1, a2, a3, a4⟩ := hI.live old cs loc ho (e00 ▸ hr)
    exact ⟨c, T, a1, a2, a3.clean hcs, a4⟩
   ·
    simp only [ρ0, if_neg hi] at hr; cases hr
  ·
   by_cases hi : id = 0
   ·
    subst hi; simp only at hl; rw [hob00] at hl; cases hl
   ·
    simp only [ρ0, if_neg hi] at hr; cases hr
  ·
   have h1' : i = 0 := by
    by_cases hi0 : i = 0
    ·
     exact hi0
    ·
     simp only [ρ0, if_neg hi0] at hri; cases hri
   have h2' : j = 0 := by
    by_cases hi0 : j = 0
    ·
     exact hi0
    ·
     simp only [ρ0, if_neg hi0] at hrj; cases hrj
   rw [h1', h2']
 have hsn := h ⟨ob0, 1⟩ [0] (by simp) (by intro x hx; simp at hx; subst hx; exact Nat.zero_lt_one) ⟨hob00, trivial⟩
 have eA : args (ex 1 (thl [0]) 1) = args fun _ => 0 := h1 _ _ rfl
 rw [eA] at hsn
 have eM : mk (ex 1 (thl [0]) 1) = mk fun _ => 1 := h0 _ _ rfl
 have hlen : args'.size = (args fun _ => 0).length := by rw [g1]; exact hargs.get.1 _ _
 have hag : ∀ (i : Nat) x y, (args fun _ => 0)[i]? = some x → args'[i]? = some y → Rel ρ0 V x y := hargs.list (a := fun _ => old) (fun i => e00) g2
 refine (hsn.2 ρ0 V w args' hlen hag hI0 hG).mono ?_
 rintro ed w' ⟨y, r', s', ρ', V', rfl, ⟨rfl, rfl⟩, hrel, hinv, hg⟩
 rw [eM] at hrel
 have hob1 : finL ob0 (ex 1 (thl [0]) 1) 0 [none, some fun _ => CS] 1 = .live CS := by simp [finL_c, finL_n, obOf, ex, thl, upd]
 have own0 : ∀ b, Own ρ0 ⟨ob0, 1⟩ b → ∃ lo, ρ old = some lo ∧ lo.b = b := by
  rintro b ⟨id, c, loc, hl, hr, rfl⟩
  by_cases hi : id = 0
  ·
   subst hi; exact ⟨loc, e00 ▸ hr, rfl⟩
  ·
   simp only [ρ0, if_neg hi] at hr; cases hr
 have ownO : ∀ b, Own ρ0 ⟨ob0, 1⟩ b → Own ρ hs b := fun b hb => by
  obtain ⟨lo, e1, e2⟩ := own0 b hb
  exact ⟨old, cs, lo, ho, e1, e2⟩
 let ρ2 : Rho := fun id => if id = fr then ρ' 1 else ρ id
 have hoth : ∀ id, id ≠ fr → ρ2 id = ρ id := fun id hid => by simp only [ρ2, if_neg hid]
 have hf2 : ρ2 fr = ρ' 1 := by simp [ρ2]
 have hrho : ∀ id loc, ρ id = some loc → ρ2 id = some loc := by
  intro id loc hl
  rw [hoth id (by rintro rfl; rw [hfr] at hl; cases hl)]; exact hl
 have small : ∀ {i : Nat} {c : List AV} {lc : Loc}, hs.objs i = .live c → ρ i = some lc → lc.b < w.heap.size := fun {i c lc} ho' hl' => by
  obtain ⟨c0, T, a1, _⟩ := hI.live i c lc ho' hl'
  exact lt_heap a1
 have notOld : ∀ {i : Nat} {c : List AV} {lc : Loc}, i ≠ old → hs.objs i = .live c → ρ i = some lc → ¬ Own ρ0 ⟨ob0, 1⟩ lc.b := fun {i c lc} hi ho' hl' hb => by
  obtain ⟨lo, e1, e2⟩ := own0 _ hb
  exact hi (hI.inj i old lc lo c cs ho' ho hl' e1 e2.symm)
 have newB : ∀ loc, ρ' 1 = some loc → Own ρ0 ⟨ob0, 1⟩ loc.b ∨ w.heap.size ≤ loc.b := fun loc hl => hg.own _ ⟨1, CS, loc, hob1, hl, rfl⟩
 refine ⟨y, ρ2, V', rfl, ?_⟩
 have hobs : ∀ id c, doAct fr (.app (some old) CS) hs.objs id = .live c → (id = fr ∧ c = CS) ∨ (id ≠ fr ∧ id ≠ old ∧ hs.objs id = .live c) := by
  intro id c hl
  simp only [doAct] at hl
  by_cases he : id = fr
  ·
   subst he; rw [upd_eq] at hl; cases hl; exact .inl ⟨rfl, rfl⟩
  ·
   rw [upd_ne _ _ he] at hl
   by_cases ho2 : id = old
   ·
    subst ho2; simp [killO, upd] at hl
   ·
    refine .inr ⟨he, ho2, ?_⟩
    simpa [killO, upd, ho2] using hl
 refine ⟨?_, ?_, hrho, hoth, hg.view, hg.size, fun b hb hn => hg.keep b hb fun h => hn (ownO b h), ?_, ?_, hg.mem⟩
 ·
  exact hmk (fun _ => 1) (fun _ => fr) ρ' ρ2 V' y (fun _ => hf2) hrel
 ·
  refine ⟨hinv.view, fun id hid => ?_, fun id c loc hl hρ => ?_, fun id c loc hl hρ => ?_, fun i j li lj ci cj hi hj hρi hρj hb => ?_⟩
  ·
   simp only at hid
   rw [hoth id (by omega)]; exact hI.fresh id hid
  ·
   rcases hobs id c hl with ⟨rfl, rfl⟩ | ⟨he, ho2, hl⟩
   ·
    rw [hf2] at hρ
    obtain ⟨d, T, e1, e2, e3, e4⟩ := hinv.live 1 _ loc hob1 hρ
    exact ⟨d, T, e1, e2, e3.clean hcl, e4⟩
   ·
    rw [hoth id he] at hρ
    obtain ⟨d, T, e1, e2, e3, e4⟩ := hI.live id c loc hl hρ
    refine ⟨d, T, by rw [hg.keep _ (lt_heap e1) (notOld ho2 hl hρ)]; exact e1, e2, e3.mono hrho hg.view, ?_⟩
    cases hv : V' loc.b with
    | none => rfl
    | some c' =>
     rcases hg.vnew _ _ hv with h7 | h7 | h7
     ·
      rw [e4] at h7; cases h7
     ·
      exact (notOld ho2 hl hρ h7).elim
     ·
      have := lt_heap e1; omega
  ·
   simp only [doAct] at hl
   by_cases he : id = fr
   ·
    subst he; rw [upd_eq] at hl; cases hl
   ·
    rw [upd_ne _ _ he] at hl
    rw [hoth id he] at hρ
    have hl' : hs.objs id = .froz c := by
     by_cases ho2 : id = old
     ·
      subst ho2; simp [killO, upd] at hl
     ·
      simpa [killO, upd, ho2] using hl
    obtain ⟨d, e1, e2, e3⟩ := hI.froz id c loc hl' hρ
    exact ⟨d, hg.view _ _ e1, e2.mono hrho hg.view, e3⟩
  ·
   rcases hobs i ci hi with ⟨rfl, rfl⟩ | ⟨h5, h5', hi2⟩ <;> rcases hobs j cj hj with ⟨h6, h6'⟩ | ⟨h6, h6', hj⟩
   ·
    rw [h6]
   ·
    rw [hf2] at hρi
    rw [hoth j h6] at hρj
    rcases newB li hρi with a1 | a1
    ·
     rw [hb] at a1; exact (notOld h6' hj hρj a1).elim
    ·
     have := small hj hρj; omega
   ·
    subst h6
    rw [hf2] at hρj
    rw [hoth i h5] at hρi
    rcases newB lj hρj with a1 | a1
    ·
     rw [← hb] at a1; exact (notOld h5' hi2 hρi a1).elim
    ·
     have := small hi2 hρi; omega
   ·
    rw [hoth i h5] at hρi
    rw [hoth j h6] at hρj
    exact hI.inj i j li lj ci cj hi2 hj hρi hρj hb
 ·
  rintro b' ⟨id, c, loc, hl, hρ, rfl⟩
  rcases hobs id c hl with ⟨rfl, rfl⟩ | ⟨he, ho2, hl⟩
  ·
   rw [hf2] at hρ
   rcases newB loc hρ with a1 | a1
   ·
    exact .inl (ownO _ a1)
   ·
    exact .inr a1
  ·
   rw [hoth id he] at hρ
   exact .inl ⟨id, c, loc, hl, hρ, rfl⟩
 ·
  intro b' c hv
  rcases hg.vnew b' c hv with h5 | h5 | h5
  ·
   exact .inl h5
  ·
   exact .inr (.inl (ownO _ h5))
  ·
   exact .inr (.inr h5)

end Go.AX.Z

/-! (AzA) -/

namespace Go.AX.Z
open Go.AX

theorem idxN {α : Type} (l : List α) (i : Nat) : idx l (i : Int) = l[i]? := by simp [idx]
theorem idx0 {α : Type} (l : List α) : idx l 0 = l[0]? := by simp [idx]
theorem drop_c {α : Type} {L l : List α} {x : α} {i : Nat} (h : L.drop i = x :: l) : L[i]? = some x ∧ L.drop (i + 1) = l ∧ i < L.length := by
 have h1 : i < L.length := by
  rcases Nat.lt_or_ge i L.length with h2 | h2
  ·
   exact h2
  ·
   rw [List.drop_eq_nil_of_le h2] at h; cases h
 rw [List.drop_eq_getElem_cons h1] at h
 injection h with h2 h3
 exact ⟨by simp [h1, h2], h3, h1⟩
theorem drop_n {α : Type} {L : List α} {i : Nat} (h : L.drop i = []) : L.length ≤ i := List.drop_eq_nil_iff.1 h
theorem wrapN {i : Nat} (h : i < 4611686018427387904) : IntKind.wrap .i64 ((i : Int) + 1) = ((i + 1 : Nat) : Int) := by
 rw [wrap64 (by omega) (by omega)]; omega
theorem wrapI {i : Int} (h1 : -4611686018427387904 ≤ i) (h2 : i < 4611686018427387904) : IntKind.wrap .i64 i = i := wrap64 (by omega) (by omega)
theorem chk_t {c : Bool} (h : c = true) : chk c = some () := by rw [h]; rfl
theorem chk_d {p : Prop} [Decidable p] (h : p) : chk (decide p) = some () := chk_t (by simpa using h)
theorem bindS {α β : Type} (a : α) (f : α → Option β) : (some a).bind f = f a := rfl
theorem lt_dec {L : Nat} {i : Nat} (h : i < L) : decide ((i : Int) < (L : Int)) = true := by simp; omega
theorem ge_dec {L : Nat} {i : Nat} (h : L ≤ i) : decide ((i : Int) < (L : Int)) = false := by simp; omega
theorem big_lt {n : Nat} (h : n < 4611686018427387904) : n < big := h
end Go.AX.Z

/-! (AyP) -/

namespace Go.AX.Z
open Go.AX

end Go.AX.Z

/-! (AyQ) -/

namespace Go.AX

theorem Marks.putNC {B : Base} {ds : List Deferred} {w : World} (h : Marks B ds w) {l : Nat} {r : Loop} (hl : w.heap[l]? = some (.loop r)) (o : Obj) : Marks B ds (w.putObj l o) := by
 obtain ⟨rs, h1, h2, h0, h3⟩ := h
 refine ⟨rs, h1, h2, h0, fun q hq => ⟨(h3 q hq).1, ?_⟩⟩
 rw [World.putObj_heap_other]
 ·
  exact (h3 q hq).2
 ·
  rintro rfl; rw [(h3 q hq).2] at hl; cases hl

end Go.AX

namespace Go.AX.Z
open Go.AX

structure Sub (ρ : Rho) (V : View) (ρ' : Rho) (V' : View) : Prop where
 rho : ∀ id loc, ρ id = some loc → ρ' id = some loc
 view : ∀ b c, V b = some c → V' b = some c

theorem Sub.refl (ρ : Rho) (V : View) : Sub ρ V ρ V := ⟨fun _ _ h => h, fun _ _ h => h⟩
theorem Sub.trans {ρ ρ1 ρ2 : Rho} {V V1 V2 : View} (h : Sub ρ V ρ1 V1) (h' : Sub ρ1 V1 ρ2 V2) : Sub ρ V ρ2 V2 := ⟨fun _ _ x => h'.rho _ _ (h.rho _ _ x), fun _ _ x => h'.view _ _ (h.view _ _ x)⟩
theorem Sub.of {ρ ρ' : Rho} {V V' : View} {s s' : HS} {w w' : World} (h : Grew ρ V s w ρ' V' s' w') : Sub ρ V ρ' V' := ⟨h.rho, h.view⟩

end Go.AX.Z

/-! (AyR) -/

namespace Go.AX.Z
open Go.AX

section
variable {C : Ctx} {N : Nat} {t : Nat → AV} {J : Rho → View → HS → World → Prop} {ρ : Rho} {V : View} {hs : HS} {a : Act} {W : World}

end

end Go.AX.Z

/-! (AzD) -/

set_option linter.unusedVariables false
namespace Go.AX.Z
open Go.AX

end Go.AX.Z

/-! (AzE) -/

set_option linter.unusedVariables false
namespace Go.AX.Z
open Go.AX

end Go.AX.Z

/-! (AzF) -/

set_option linter.unusedVariables false
namespace Go.AX.Z
open Go.AX

end Go.AX.Z

/-! (AzG) -/

set_option linter.unusedVariables false
namespace Go.AX
open Go.ChangeShapes Go.WideShapes Go.RowKit

end Go.AX

/-! (AzH) -/

set_option linter.unusedVariables false
set_option linter.unusedSimpArgs false
namespace Go.AX

section
variable {P : Program}

theorem c_index {t e sz b o len cap : Nat} {n : Int} (he : elS P t = some e) (hs : szOf P e = some sz) (h0 : 0 ≤ n) (h1 : n < (len : Int)) (w : World) :
  (Instr.indexAt t (.slice (some ⟨b, o, none⟩) len cap) (.int .i64 n)).run P w = .ok (.pointer (some ⟨b, o + n.toNat * sz, none⟩)) w := by
 have hu := elS_eq he
 simp [Instr.indexAt, asIntOf, run_underlying hu, h0, h1, szOf_run hs, addr_add]

theorem c_field {t f o ft k b a : Nat} (hf : flE P t f = some (o, ft)) (hs : szOf P ft = some (k + 1)) (w : World) :
  (Instr.fieldAt t (.pointer (some ⟨b, a, none⟩)) f).run P w = .ok (.pointer (some ⟨b, a + o, none⟩)) w := by
 obtain ⟨fs, fd, hu, hfd, rfl, rfl⟩ : ∃ fs fd, P.underlying t = some (.struct fs) ∧ fs[f]? = some fd ∧ fd.offset = o ∧ fd.type = ft := by
  unfold flE at hf
  cases hu : P.underlying t with
  | none => simp [hu] at hf
  | some d =>
   cases d <;> simp [hu] at hf
   rename_i fs
   obtain ⟨fd, h1, h2, h3⟩ := hf
   exact ⟨fs, fd, rfl, h1, h2, h3⟩
 simp [Instr.fieldAt, run_underlying hu, hfd, Instr.sureAddr, fieldPlace, szOf_run hs, addr_add]

theorem c_load {t b o : Nat} {c : Array Value} {T : TypeId} {fz : Nat × Nat} {y : Value} {w : World} (ha : agB P t = some false) (hh : w.heap[b]? = some (.cells c T fz)) (hy : c[o]? = some y) :
  (Instr.loadAt t (.pointer (some ⟨b, o, none⟩))).run P w = .ok y w := by
 simp [Instr.loadAt, Instr.sureAddr, loadVar, agB_run ha, cell_at hh, hy]

theorem c_len {t e len cap : Nat} {ty : TypeId} {a : Option Addr} (he : elS P t = some e) (w : World) : (Builtin.len_ #[t] ty #[.slice a len cap]).run P w = .ok (.int .i64 len) w := by
 have hu := elS_eq he
 simp [Builtin.len_, run_underlying hu, goInt]

theorem c_store {t b o : Nat} {c : Array Value} {T : TypeId} {fz : Nat × Nat} {x y : Value} {w : World} (hs : szOf P t = some 1) (hh : w.heap[b]? = some (.cells c T fz)) (hy : c[o]? = some y) (hf : w.frozen? ⟨b, o, none⟩ = false) (hx : sto x = true) :
  (Instr.storeAt t (.pointer (some ⟨b, o, none⟩)) x).run P w = .ok () (w.setCell ⟨b, o, none⟩ x) := by
 have hc := Value.cells_of_sto hx
 have hcell : w.cell? ⟨b, o, none⟩ = some y := by simp [World.cell?, hh, hy]
 simp [Instr.storeAt, Instr.sureAddr, storeVar, szOf_run hs, hc, storeCells, store, addr_add]
 cases x <;> first | (simp [sto] at hx; done) | simp [Sem.run, hcell, hf]


theorem c_bin {op : BinOp} {t : TypeId} {k : IntKind} {m n : Int} {res : Value} (X Y : Operand) (h : iop op k m k n = some res) (w : World) :
  ((do eqGuard op t X Y (.int k m) (.int k n); binOp op t (.int k m) (.int k n) : Sem Value)).run P w = .ok res w := by
 have h1 := iop_sound h t w (P := P)
 have hg : (eqGuard op t X Y (.int k m) (.int k n)).run P w = .ok () w := by
  unfold eqGuard
  cases op <;> rfl
 simp [hg, h1]

def tmv (a : Act) (t : Nat) : Value := a.tmps.getD t undef
theorem ev_t (a : Act) (t : Nat) : a.eval (.tmp t) = tmv a t := rfl
theorem ev_c (a : Act) (v : Value) : a.eval (.const v) = v := rfl
theorem tmv_put {a : Act} {d t : Nat} {y : Value} (h : d < a.tmps.size) : tmv (a.put (some d) y) t = if t = d then y else tmv a t := by
 unfold tmv Act.put
 simp only [Array.getD_eq_getD_getElem?]
 by_cases ht : t = d
 ·
  subst ht; simp [h]
 ·
  rw [if_neg ht, Array.getElem?_setIfInBounds_ne (Ne.symm ht)]
theorem Act.put_none (a : Act) (y : Value) : a.put none y = a := rfl
theorem sz_put (a : Act) (d : Option Nat) (y : Value) : (a.put d y).tmps.size = a.tmps.size := put_size
theorem df_put (a : Act) (d : Option Nat) (y : Value) : (a.put d y).defers = a.defers := put_def

variable {ops : Array Oper} {Q : Exit → Act → World → Prop} {i : Nat} {rest : List Nat} {a : Act} {w : World}

theorem s_val {o : Oper} {y : Value} {w' : World} (ho : ops[i]? = some o) (hg : o.guard = none) (hr : (execOp a.eval o).run P w = .ok (.value y) w') (hk : wpOps P ops Q rest (a.put o.dst y) w') : wpOps P ops Q (i :: rest) a w := by
 have hw : Region.wanted o (yielded ops a.tmps) = true := by unfold Region.wanted; rw [hg]
 unfold wpOps
 simp only [ho, hw, if_true]
 left
 unfold Oper.wp
 rw [hr]
 exact hk
theorem s_skip {o : Oper} {w' : World} (ho : ops[i]? = some o) (hg : o.guard = none) (hr : (execOp a.eval o).run P w = .ok .skip w') (hk : wpOps P ops Q rest (a.put o.dst undef) w') : wpOps P ops Q (i :: rest) a w := by
 have hw : Region.wanted o (yielded ops a.tmps) = true := by unfold Region.wanted; rw [hg]
 unfold wpOps
 simp only [ho, hw, if_true]
 left
 unfold Oper.wp
 rw [hr]
 exact hk
variable {dst : Option Nat} {ty : TypeId} {pos : String} {af : Array Edge}
theorem s_move {x : Operand} (ho : ops[i]? = some ⟨dst, .move x, ty, pos, af, none⟩) (hk : wpOps P ops Q rest (a.put dst (a.eval x)) w) : wpOps P ops Q (i :: rest) a w :=
 s_val ho rfl rfl hk
theorem s_assign {x : Operand} (ho : ops[i]? = some ⟨dst, .assign x, ty, pos, af, none⟩) (hk : wpOps P ops Q rest (a.put dst (a.eval x)) w) : wpOps P ops Q (i :: rest) a w :=
 s_val ho rfl rfl hk
theorem s_index {x ix : Operand} {t e sz b o len cap : Nat} {n : Int} (ho : ops[i]? = some ⟨dst, .indexAddr t x ix, ty, pos, af, none⟩) (he : elS P t = some e) (hs : szOf P e = some sz) (hx : a.eval x = .slice (some ⟨b, o, none⟩) len cap) (hi : a.eval ix = .int .i64 n) (h0 : 0 ≤ n) (h1 : n < (len : Int))
  (hk : wpOps P ops Q rest (a.put dst (.pointer (some ⟨b, o + n.toNat * sz, none⟩))) w) : wpOps P ops Q (i :: rest) a w :=
 s_val ho rfl (by simp only [execOp, hx, hi]; exact runAndThenValue (c_index he hs h0 h1 w)) hk
theorem s_field {x : Operand} {t f o ft k b p : Nat} (ho : ops[i]? = some ⟨dst, .fieldAddr t x f, ty, pos, af, none⟩) (hf : flE P t f = some (o, ft)) (hs : szOf P ft = some (k + 1)) (hx : a.eval x = .pointer (some ⟨b, p, none⟩))
  (hk : wpOps P ops Q rest (a.put dst (.pointer (some ⟨b, p + o, none⟩))) w) : wpOps P ops Q (i :: rest) a w :=
 s_val ho rfl (by simp only [execOp, hx]; exact runAndThenValue (c_field hf hs w)) hk
theorem s_load {x : Operand} {t b o : Nat} {c : Array Value} {T : TypeId} {fz : Nat × Nat} {y : Value} (ho : ops[i]? = some ⟨dst, .load t x, ty, pos, af, none⟩) (ha : agB P t = some false) (hx : a.eval x = .pointer (some ⟨b, o, none⟩)) (hh : w.heap[b]? = some (.cells c T fz)) (hy : c[o]? = some y)
  (hk : wpOps P ops Q rest (a.put dst y) w) : wpOps P ops Q (i :: rest) a w :=
 s_val ho rfl (by simp only [execOp, hx]; exact runAndThenValue (c_load ha hh hy)) hk
theorem s_bin {op : BinOp} {t u : TypeId} {x z : Operand} {k : IntKind} {m n : Int} {res : Value} (ho : ops[i]? = some ⟨dst, .binOp op t x z u, ty, pos, af, none⟩) (hx : a.eval x = .int k m) (hz : a.eval z = .int k n) (h : iop op k m k n = some res)
  (hk : wpOps P ops Q rest (a.put dst res) w) : wpOps P ops Q (i :: rest) a w :=
 s_val ho rfl (by simp only [execOp, hx, hz]; exact runAndThenValue (c_bin x z h w)) hk
theorem s_store {x z : Operand} {t b o : Nat} {c : Array Value} {T : TypeId} {fz : Nat × Nat} {y v : Value} (ho : ops[i]? = some ⟨dst, .store t x z, ty, pos, af, none⟩) (hs : szOf P t = some 1) (hx : a.eval x = .pointer (some ⟨b, o, none⟩)) (hz : a.eval z = v) (hh : w.heap[b]? = some (.cells c T fz)) (hy : c[o]? = some y) (hf : w.frozen? ⟨b, o, none⟩ = false) (hv : sto v = true)
  (hk : wpOps P ops Q rest (a.put dst undef) (w.setCell ⟨b, o, none⟩ v)) : wpOps P ops Q (i :: rest) a w :=
 s_skip ho rfl (by simp only [execOp, hx, hz]; simp [c_store hs hh hy hf hv]) hk
theorem s_end (h : Q .normal a w) : wpOps P ops Q [] a w := h
theorem s_lss {t u : TypeId} {x z : Operand} {m n : Int} (ho : ops[i]? = some ⟨dst, .binOp .lss t x z u, ty, pos, af, none⟩) (hx : a.eval x = .int .i64 m) (hz : a.eval z = .int .i64 n)
  (hk : wpOps P ops Q rest (a.put dst (.bool (decide (m < n)))) w) : wpOps P ops Q (i :: rest) a w :=
 s_bin ho hx hz (by simp [iop]) hk
theorem s_addI {t u : TypeId} {x z : Operand} {m n : Int} (ho : ops[i]? = some ⟨dst, .binOp .add t x z u, ty, pos, af, none⟩) (hx : a.eval x = .int .i64 m) (hz : a.eval z = .int .i64 n)
  (hk : wpOps P ops Q rest (a.put dst (.int .i64 (IntKind.wrap .i64 (m + n)))) w) : wpOps P ops Q (i :: rest) a w :=
 s_bin ho hx hz (by simp [iop]) hk
theorem s_addU {t u : TypeId} {x z : Operand} {m n : Int} (ho : ops[i]? = some ⟨dst, .binOp .add t x z u, ty, pos, af, none⟩) (hx : a.eval x = .int .u8 m) (hz : a.eval z = .int .u8 n)
  (hk : wpOps P ops Q rest (a.put dst (.int .u8 (IntKind.wrap .u8 (m + n)))) w) : wpOps P ops Q (i :: rest) a w :=
 s_bin ho hx hz (by simp [iop]) hk
theorem s_len1 {t e len cap : Nat} {x : Operand} {ad : Option Addr} (ho : ops[i]? = some ⟨dst, .call ⟨.builtin .len, #[x], #[t]⟩, ty, pos, af, none⟩) (he : elS P t = some e) (hx : a.eval x = .slice ad len cap)
  (hk : wpOps P ops Q rest (a.put dst (.int .i64 len)) w) : wpOps P ops Q (i :: rest) a w :=
 s_val ho rfl (by
  have h : execOp a.eval { dst := dst, op := Op.call ⟨.builtin .len, #[x], #[t]⟩, type := ty, pos := pos, after := af, guard := none } = builtin .len #[t] ty ((#[x] : Array Operand).map fun | .const _ => true | _ => false) ((#[x] : Array Operand).map a.eval)  := rfl
  have hA : (#[x] : Array Operand).map a.eval = #[a.eval x] := by simp
  rw [h, hA, hx]
  exact runAndThenValue (c_len he w)) hk
end
end Go.AX

/-! (AzI) -/

set_option linter.unusedVariables false
set_option linter.unusedSimpArgs false
namespace Go.AX.Z
open Go.AX

def chain : List Code → Code → Code
 | [], z => z
 | x :: l, z => .seq x (chain l z)

theorem chain_sound {k : Nat} {C : Ctx} (hC : COk C) {N : Nat} {B : Base} (hLo : Lo k B) (hms : B.mks.isSome = true) {z : Code} {Q' : Exit → Act → World → Prop} {Q : AExit → AS → Prop}
  (hn : ∀ s a w, Q .normal s → GS C N B (fun _ => False) s a w → z.wp C.P Q' a w) (hr : ∀ s a w, Q .ret s → GS C N B (fun _ => False) s a w → Q' .ret a w) (hx : ∀ id s a w, Q (.exit id) s → GS C N B (fun _ => False) s a w → Q' (.exit id) a w) :
  ∀ (l : List Code) (s : AS) (a : Act) (w : World), (∀ c ∈ l, stOk N c = true) → awp k C (chain l .skip) Q s → GS C N B (fun _ => False) s a w → (chain l z).wp C.P Q' a w := by
 intro l
 induction l with
 | nil => intro s a w _ h hg; exact hn s a w h hg
 | cons x l ih =>
  intro s a w hst h hg
  refine wp_seq (wp_mono (awp_sound hC hLo hms x _ s a w (hst x (by simp)) h hg) ?_)
  intro e a' w' hq
  cases e with
  | normal =>
   obtain ⟨s', ⟨t, hwk, hk⟩, hg'⟩ := hq
   exact ih t a' w' (fun c hc => hst c (by simp [hc])) hk (hwk _ _ _ _ hLo hg')
  | exit id => obtain ⟨s', hq, hg'⟩ := hq; exact hx id s' a' w' hq hg'
  | ret => obtain ⟨s', hq, hg'⟩ := hq; exact hr s' a' w' hq hg'
  | goto l => exact hq.elim
  | panic ch => exact hq.elim
  | outgrown => exact hq.elim

theorem greatest (p : Nat → Prop) : ∀ n, (∃ b, b < n ∧ p b) → ∃ m, m < n ∧ p m ∧ ∀ b, b < n → p b → b ≤ m
 | 0, ⟨b, h, _⟩ => by omega
 | n + 1, ⟨b, h, hp⟩ => by
  by_cases hn : p n
  ·
   exact ⟨n, by omega, hn, fun c hc _ => by omega⟩
  ·
   have hb : b < n := by
    rcases Nat.lt_or_ge b n with h1 | h1
    ·
     exact h1
    ·
     have : b = n := by omega
     subst this; exact absurd hp hn
   obtain ⟨m, h1, h2, h3⟩ := greatest p n ⟨b, hb, hp⟩
   refine ⟨m, by omega, h2, fun c hc hpc => ?_⟩
   rcases Nat.lt_or_ge c n with h4 | h4
   ·
    exact h3 c h4 hpc
   ·
    have : c = n := by omega
    subst this; exact absurd hpc hn

theorem gs_froze {C : Ctx} {N : Nat} {B : Base} {s : AS} {a : Act} {w : World} {ρ : Rho} {V : View} (h1 : ∀ t, Rel ρ V (s.tmps t) (a.tmps.getD t undef)) (h3 : Inv ρ V s.toHS w) :
  (∀ t, Rel ρ (VV ρ V s.toHS w) (s.tmps t) (a.tmps.getD t undef)) ∧ Inv ρ (VV ρ V s.toHS w) ⟨froze s.objs, s.next⟩ w ∧ ∀ b, ¬ Own ρ ⟨froze s.objs, s.next⟩ b := by
 refine ⟨fun t => (h1 t).mono (fun _ _ h => h) VV_mono, ?_, ?_⟩
 ·
  refine ⟨(inv_VV h3).view, h3.fresh, fun id cells loc hl => ?_, fun id cells loc hl hρ => ?_, fun i j li lj ci cj hl => ?_⟩
  ·
   simp only [froze] at hl
   cases ho : s.objs id <;> simp [ho] at hl
  ·
   simp only [froze] at hl
   cases ho : s.objs id with
   | dead => simp [ho] at hl
   | live c =>
    simp [ho] at hl; subst hl
    obtain ⟨c', T, g1, g2, g3, g4⟩ := h3.live id c loc ho hρ
    exact ⟨c', VV_own g4 ⟨id, c, loc, ho, hρ, rfl⟩ g1, g3.mono (fun _ _ h => h) VV_mono, g2⟩
   | froz c =>
    simp [ho] at hl; subst hl
    obtain ⟨c', g1, g2, g3⟩ := h3.froz id c loc ho hρ
    exact ⟨c', VV_mono _ _ g1, g2.mono (fun _ _ h => h) VV_mono, g3⟩
  ·
   simp only [froze] at hl
   cases ho : s.objs i <;> simp [ho] at hl
 ·
  rintro b ⟨id, cells, loc, hl, _⟩
  simp only [froze] at hl
  cases ho : s.objs id <;> simp [ho] at hl
end Go.AX.Z

/-! (AzJ) -/

set_option linter.unusedVariables false
set_option linter.unusedSimpArgs false
namespace Go.AX

theorem setCell_heap (w : World) (b o d : Nat) (v : Value) : (w.setCell ⟨b, o, none⟩ v).heap[d]? = if d = b then (match w.heap[b]? with | some (.cells c T q) => some (.cells (c.setIfInBounds o v) T q) | x => x) else w.heap[d]? := by
 unfold World.setCell
 simp only [Array.getElem?_modify]
 by_cases h : d = b
 ·
  subst h
  simp only [if_true]
  cases hb : w.heap[d]? with
  | none => rfl
  | some x => cases x <;> rfl
 ·
  rw [if_neg h, if_neg (Ne.symm h)]
theorem setCell_other (w : World) {b o d : Nat} (v : Value) (h : d ≠ b) : (w.setCell ⟨b, o, none⟩ v).heap[d]? = w.heap[d]? := by rw [setCell_heap, if_neg h]
theorem setCell_same {w : World} {b o : Nat} {v : Value} {c : Array Value} {T : TypeId} {q : Nat × Nat} (h : w.heap[b]? = some (.cells c T q)) : (w.setCell ⟨b, o, none⟩ v).heap[b]? = some (.cells (c.setIfInBounds o v) T q) := by
 rw [setCell_heap, if_pos rfl, h]
theorem setCell_size (w : World) (b o : Nat) (v : Value) : (w.setCell ⟨b, o, none⟩ v).heap.size = w.heap.size := by simp [World.setCell]
theorem mem_setCell {w : World} {b o : Nat} {v : Value} {c : Array Value} {T : TypeId} {q : Nat × Nat} (h : w.heap[b]? = some (.cells c T q)) : Mem w (w.setCell ⟨b, o, none⟩ v) := by
 have hz : ∀ d, csz (w.setCell ⟨b, o, none⟩ v) d = csz w d := by
  intro d
  by_cases hd : d = b
  ·
   subst hd; rw [csz_of h, csz_of (setCell_same h)]; simp
  ·
   unfold csz; rw [setCell_other _ _ hd]
 refine ⟨rfl, rfl, by rw [setCell_size]; exact Nat.le_refl _, fun a _ => ?_, fun a h1 h2 => ?_, fun d _ => by rw [hz]; exact Nat.le_refl _⟩
 ·
  simp only [World.frozen?]
  by_cases hd : a.block = b
  ·
   rw [hd, setCell_same h, h]
  ·
   rw [setCell_other _ _ hd]
 ·
  rw [hz, csz_out (by simpa using h1)] at h2; omega
end Go.AX

/-! (AzK) -/

set_option linter.unusedVariables false
set_option linter.unusedSimpArgs false
namespace Go.AX.Z
open Go.AX

def Ends (C : Ctx) (N : Nat) (B : Base) (fn : Func) (Q : AV → HS → Prop) : Exit → Act → World → Prop := fun e a w => (e = .normal ∨ e = .ret) ∧ ∃ t, GS C N B (fun _ => False) t a w ∧ endQ C fn Q .ret t

theorem snd_of_code {C : Ctx} {f : FuncId} {fn : Func} {c : Code} {args : List AV} {s : HS} {Q : AV → HS → Prop} (hf : C.P.funcs[f]? = some fn) (hb : fn.body = some c) (hn : (fn.name == "runtime.NumGoroutine") = false) (hargs : args.length ≤ fn.ntmps)
  (h : ∀ (B : Base) (a : Act) (w : World), Lo s.next B → B.mks.isSome = true → B.s = s → GS C fn.ntmps B (fun _ => False) (init args s) a w → c.wp C.P (Ends C fn.ntmps B fn Q) a w) : Snd C f args s Q := by
 refine ⟨trivial, fun ρ V w args' h1 h2 h3 h4 => .inl ⟨⟨fn, hf, by rw [hb]; rfl, hn⟩, ?_⟩⟩
 refine callsM_of_wp hf hb ?_
 let B : Base := ⟨ρ, V, s, w, some w.heap.size⟩
 have hLo : Lo s.next B := ⟨rfl, fun id hid => h3.fresh id hid, fun m hm => by cases hm; exact Nat.le_refl _⟩
 have hg : GS C fn.ntmps B (fun _ => False) (init args s) { tmps := args' ++ Array.replicate (fn.ntmps - args'.size) undef, defers := [] } w := by
  refine ⟨ρ, V, fun t => ?_, h3, h4, Grew.refl _ _ _ _, by simp; omega, Marks.nil _ _, fun id hid => hid.elim⟩
  simp only [init, List.getD_eq_getElem?_getD]
  rw [Array.getD_eq_getD_getElem?, Array.getElem?_append]
  by_cases ht : t < args'.size
  ·
   rw [if_pos ht]
   have ht' : t < args.length := by omega
   have e1 : args[t]? = some args[t] := by simp [ht']
   have e2 : args'[t]? = some args'[t] := by simp [ht]
   rw [e1, e2]
   exact h2 t _ _ e1 e2
  ·
   rw [if_neg ht, List.getElem?_eq_none (by omega)]
   simp only [Option.getD_none]
   have : (Array.replicate (fn.ntmps - args'.size) undef)[t - args'.size]?.getD undef = undef := by
    by_cases h5 : t - args'.size < fn.ntmps - args'.size <;> simp [h5]
   rw [this]; exact .v _
 refine wp_mono (h B _ w hLo rfl rfl hg) ?_
 intro e a' w' hq
 have fin : ∀ s', (∃ r, resV C s' fn.results.toList = some r ∧ Q r s'.toHS) → GS C fn.ntmps B (fun _ => False) s' a' w' → LeavesInM Fence.wide 0 C.P fn a'.tmps (fun e w' =>
   ∃ y r s' ρ' V', e = Ending.returned y ∧ Q r s' ∧ Rel ρ' V' r y ∧ Inv ρ' V' s' w' ∧ Grew ρ V s w ρ' V' s' w') a'.defers .returning w' := by
  rintro s' ⟨r, hr, hQ⟩ hgs
  refine end_marks hgs ⟨_, rfl, Nat.le_refl _⟩ ?_
  rintro tmps w'' ds ⟨ρ', V', k1, k2, k3, k4, k5, k6, k7⟩
  obtain ⟨y, hy1, hy2⟩ := results_run k1 k2 hr
  exact ⟨y, hy1, y, r, s'.toHS, ρ', V', rfl, hQ, hy2, k2, k4⟩
 obtain ⟨he, t, hg', hk⟩ := hq
 rcases he with rfl | rfl
 ·
  exact fin t hk hg'
 ·
  exact fin t hk hg'

theorem ends_of {C : Ctx} {N k : Nat} {B : Base} {fn : Func} {Q : AV → HS → Prop} (hLo : Lo k B) {e : Exit} {a : Act} {w : World} (h : AQ C N B (endW k C fn Q) e a w) : Ends C N B fn Q e a w := by
 cases e with
 | normal => obtain ⟨s', ⟨t, hwk, hk⟩, hg'⟩ := h; exact ⟨.inl rfl, t, hwk _ _ _ _ hLo hg', hk⟩
 | ret => obtain ⟨s', ⟨t, hwk, hk⟩, hg'⟩ := h; exact ⟨.inr rfl, t, hwk _ _ _ _ hLo hg', hk⟩
 | exit id => obtain ⟨s', ⟨t, hwk, hk⟩, hg'⟩ := h; exact hk.elim
 | goto l => exact h.elim
 | panic ch => exact h.elim
 | outgrown => exact h.elim

theorem gs_after {C : Ctx} {N : Nat} {B : Base} {s s' : AS} {a' : Act} {w w' : World} {ρ : Rho} {V : View} (h3 : Inv ρ V s.toHS w) (h4 : GtOk C V) (h5 : Grew B.ρ B.V B.s B.w ρ V s.toHS w) (hold : ∀ b, b < w.heap.size → w'.heap[b]? = w.heap[b]?) (hm : Mem w w')
  (ho : s'.objs = froze s.objs) (hx : s'.next = s.next) (ht : ∀ t, Rel ρ (VV ρ V s.toHS w) (s'.tmps t) (a'.tmps.getD t undef)) (hN : a'.tmps.size = N) (hM : Marks B a'.defers w') : GS C N B (fun _ => False) s' a' w' := by
 have e : s'.toHS = ⟨froze s.objs, s.next⟩ := by
  cases s' with
  | mk hs tm => cases hs; simp at ho hx; subst ho; subst hx; rfl
 have hn : ∀ b, ¬ Own ρ ⟨froze s.objs, s.next⟩ b := by
  rintro b ⟨id, cells, loc, hl, _⟩
  simp only [froze] at hl
  cases ho : s.objs id <;> simp [ho] at hl
 have hI : Inv ρ (VV ρ V s.toHS w) ⟨froze s.objs, s.next⟩ w := by
  refine ⟨(inv_VV h3).view, h3.fresh, fun id cells loc hl => ?_, fun id cells loc hl hρ => ?_, fun i j li lj ci cj hl => ?_⟩
  ·
   simp only [froze] at hl
   cases ho : s.objs id <;> simp [ho] at hl
  ·
   simp only [froze] at hl
   cases ho : s.objs id with
   | dead => simp [ho] at hl
   | live c =>
    simp [ho] at hl; subst hl
    obtain ⟨c', T, g1, g2, g3, g4⟩ := h3.live id c loc ho hρ
    exact ⟨c', VV_own g4 ⟨id, c, loc, ho, hρ, rfl⟩ g1, g3.mono (fun _ _ h => h) VV_mono, g2⟩
   | froz c =>
    simp [ho] at hl; subst hl
    obtain ⟨c', g1, g2, g3⟩ := h3.froz id c loc ho hρ
    exact ⟨c', VV_mono _ _ g1, g2.mono (fun _ _ h => h) VV_mono, g3⟩
  ·
   simp only [froze] at hl
   cases ho : s.objs i <;> simp [ho] at hl
 refine ⟨ρ, VV ρ V s.toHS w, ht, ?_, h4.mono VV_mono, ?_, hN, hM, fun id h => h.elim⟩
 ·
  rw [e]
  refine hI.keep hold (fun _ _ h => h) (fun b c h => .inl h) fun b c hv => ?_
  obtain ⟨T, fz, hb⟩ := hI.view b c hv
  exact ⟨T, fz, by rw [hold b (lt_of_heap hb)]; exact hb⟩
 ·
  rw [e]
  refine ⟨h5.rho, h5.old, h5.next, fun b c hv => VV_mono _ _ (h5.view b c hv), Nat.le_trans h5.size hm.size, fun b hb hnb => ?_, fun b hb => (hn b hb).elim, fun b c hv => ?_, h5.mem.trans hm⟩
  ·
   rw [hold b (Nat.lt_of_lt_of_le hb h5.size)]; exact h5.keep b hb hnb
  ·
   rcases VV_cases hv with h | ⟨h, _⟩
   ·
    exact h5.vnew b c h
   ·
    rcases h5.own b h with h6 | h6
    ·
     exact .inr (.inl h6)
    ·
     exact .inr (.inr h6)
end Go.AX.Z
