/- A part of the proof: AxQ. -/
import Derived.Test.YtjijidmbpfjioaaAxP
namespace Go.AX

theorem AS.ext3 {s t : AS} (h1 : s.tmps = t.tmps) (h2 : s.objs = t.objs) (h3 : s.next = t.next) : s = t := by
  obtain ⟨⟨o, n⟩, t1⟩ := s
  obtain ⟨⟨o', n'⟩, t2⟩ := t
  simp only at h1 h2 h3
  subst h1; subst h2; subst h3
  rfl

theorem apply_comm {s : AS} {d1 d2 : Option Nat} {f1 f2 : Nat} {e1 e2 : Eff} (hd : ∀ d, d1 = some d → d2 ≠ some d) (hw : clash (wrOf f1 e1.act) (wrOf f2 e2.act) = false) :
    (s.apply d1 f1 e1).apply d2 f2 e2 = (s.apply d2 f2 e2).apply d1 f1 e1 := by
  refine AS.ext3 ?_ ?_ rfl
  · simp only [AS.apply]
    cases d1 with
    | none => rfl
    | some a =>
      cases d2 with
      | none => rfl
      | some b =>
        have : b ≠ a := fun h => hd a rfl (by rw [h])
        exact upd_comm _ _ _ this
  · funext j
    simp only [AS.apply]
    rw [doAct_at, doAct_at, doAct_at, doAct_at]
    exact actAt_comm hw j _

theorem drawW_sound {C : Ctx} (hC : COk C) {N : Nat} {B : Base} {ops : Array Oper} {Q : Exit → Act → World → Prop} {base : Nat} (hB : B.s.next ≤ base) (hdst : ∀ o ∈ ops, ∀ d, o.dst = some d → d < N)
    (hedges : edgesOk ops.toList = true) (htmps : tmpsOk ops.toList = true) {K : AS → Prop} (hQ : ∀ s a w, K s → GS C N B (fun _ => False) s a w → Q .normal a w)
    {s : AS} {a : Act} {w : World} (hn : base + ops.size ≤ s.next) (hg : GS C N B (fun id => base ≤ id ∧ id < base + ops.size) s a w) (h : drawW C ops.toList base 0 ops.toList s [] K) :
    wpAny C.P .any ops Q ops.size (Array.replicate ops.size false) a w := by
  obtain ⟨es, acc, ss, sn, hel, hsl, hpr, hK, _, hs0, hch⟩ := draw_chain _ _ _ _ h
  simp only [Nat.zero_add] at hch
  have hlen : ops.toList.length = ops.size := by simp
  rw [hlen] at hel hsl
  let effs : Nat → Eff := fun k => (es.getD k (⟨.unk, .none⟩, [])).1
  let rds : Nat → Foot := fun k => (es.getD k (⟨.unk, .none⟩, [])).2
  let dst : Nat → Option Nat := fun k => (ops[k]?).bind (·.dst)
  let stp : Nat → AS → AS := fun k t => t.apply (dst k) (base + k) (effs k)
  let Does : Nat → AS → Prop := fun i t => ∀ o, ops[i]? = some o → DoesG C ops.toList (base + i) o (effs i) (rds i) t
  let ord : Nat → Nat → Bool := ordered ops.toList
  have hes : ∀ k, k < ops.size → es[k]? = some (effs k, rds k) := by
    intro k hk
    have hk' : k < es.length := by omega
    simp [effs, rds, hk']
  -- the states of the text's order
  have hss : ∀ k, k ≤ ops.size → (ss ++ [sn])[k]? = some (foldD stp (fun _ => true) (List.range k) s) := by
    intro k
    induction k with
    | zero => intro _; simpa [foldD] using hs0
    | succ k ih =>
      intro hk
      have hk' : k < ops.size := by omega
      have h1 := ih (by omega)
      have hss1 : ss[k]? = some (foldD stp (fun _ => true) (List.range k) s) := by
        rw [List.getElem?_append_left (by omega)] at h1; exact h1
      have ho : ops.toList[k]? = some ops[k] := by simp [hk']
      obtain ⟨_, h3, _⟩ := hch k ops[k] _ _ _ ho (hes k hk') hss1
      rw [h3]
      rw [List.range_succ, foldD_append]
      have hd : dst k = ops[k].dst := by simp [dst, hk']
      simp [foldD, stp, hd]
  have hcan : ∀ i, i < ops.size → Does i (foldD stp (fun _ => true) (List.range i) s) := by
    intro i hi o ho
    have h1 := hss i (by omega)
    rw [List.getElem?_append_left (by omega)] at h1
    exact (hch i o _ _ _ (by rw [Array.getElem?_toList]; exact ho) (hes i hi) h1).1
  have hprint : ∀ i, i < ops.size → (rds i = [] ∧ wrOf (base + i) (effs i).act = []) ∨ (i, rds i, wrOf (base + i) (effs i).act) ∈ acc := by
    intro i hi
    have h1 := hss i (by omega)
    rw [List.getElem?_append_left (by omega)] at h1
    exact (hch i ops[i] _ _ _ (by simp [hi]) (hes i hi) h1).2.2
  -- two operations of which neither waits for the other
  have hfar : ∀ i, ops.size ≤ i → ∀ t, stp i t = t := by
    intro i hi t
    have h1 : ops[i]? = none := by simp [hi]
    have h2 : es.getD i (⟨.unk, .none⟩, []) = (⟨.unk, .none⟩, []) := by
      rw [List.getD_eq_getElem?_getD, List.getElem?_eq_none (by omega)]; rfl
    simp only [stp, dst, effs, h1, h2]
    rfl
  have hind : ∀ i j, i < j → j < ops.size → ord i j = false → (∀ oi oj, ops[i]? = some oi → ops[j]? = some oj → oi.apart ops oj = true) ∧ clash (wrOf (base + i) (effs i).act) (rds j) = false ∧
      clash (wrOf (base + i) (effs i).act) (wrOf (base + j) (effs j).act) = false ∧ clash (rds i) (wrOf (base + j) (effs j).act) = false := by
    intro i j hij hj ho
    refine ⟨fun oi oj hoi hoj => ?_, ?_⟩
    · have := tmpsOk_spec htmps (by rw [Array.getElem?_toList]; exact hoi) (by rw [Array.getElem?_toList]; exact hoj) hij ho
      simpa using this
    · have cnil : ∀ f, clash f [] = false := by intro f; rw [clash_symm]; rfl
      have cnil' : ∀ f, clash [] f = false := by intro f; rfl
      rcases hprint i (by omega) with ⟨h1, h2⟩ | h1
      · rw [h1, h2]; exact ⟨cnil' _, cnil' _, cnil' _⟩
      · rcases hprint j hj with ⟨g1, g2⟩ | g1
        · rw [g1, g2]; exact ⟨cnil _, cnil _, cnil _⟩
        · unfold printsOk at hpr
          rw [List.all_eq_true] at hpr
          have := hpr _ h1
          rw [List.all_eq_true] at this
          have := this _ g1
          simp only [Bool.or_eq_true, decide_eq_true_eq] at this
          rcases this with (h3 | h3) | h3
          · omega
          · unfold apartP at h3
            simp only [Bool.and_eq_true, Bool.not_eq_true'] at h3
            exact ⟨h3.1.1, h3.1.2, h3.2⟩
          · simp only [ord] at ho; rw [ho] at h3; cases h3
  have hcomm : ∀ i j t, i ≠ j → unord ord i j → stp i (stp j t) = stp j (stp i t) := by
    intro i j t hij hu
    by_cases hi : ops.size ≤ i
    · rw [hfar i hi, hfar i hi]
    · by_cases hj : ops.size ≤ j
      · rw [hfar j hj, hfar j hj]
      · have hi' : i < ops.size := by omega
        have hj' : j < ops.size := by omega
        have hoi : ops[i]? = some ops[i] := Array.getElem?_eq_getElem hi'
        have hoj : ops[j]? = some ops[j] := Array.getElem?_eq_getElem hj'
        have hdi : dst i = ops[i].dst := by simp [dst, hoi]
        have hdj : dst j = ops[j].dst := by simp [dst, hoj]
        rcases Nat.lt_or_gt_of_ne hij with hlt | hlt
        · obtain ⟨h1, _, h3, _⟩ := hind i j hlt (by omega) hu.1
          obtain ⟨_, g2, _⟩ := Oper.apart_spec (h1 _ _ hoi hoj)
          refine (apply_comm (s := t) (d1 := dst i) (d2 := dst j) ?_ h3).symm
          rw [hdi, hdj]; exact g2
        · obtain ⟨h1, _, h3, _⟩ := hind j i hlt (by omega) hu.2
          obtain ⟨_, g2, _⟩ := Oper.apart_spec (h1 _ _ hoj hoi)
          refine apply_comm (s := t) (d1 := dst j) (d2 := dst i) ?_ h3
          rw [hdi, hdj]; exact g2
  have hlooks : ∀ i j t oi, i ≠ j → unord ord i j → ops[i]? = some oi → i < ops.size → (∀ u ∈ oi.looksAt ops, (stp j t).tmps u = t.tmps u) ∧ agrees (rds i) t.objs (stp j t).objs := by
    intro i j t oi hij hu hoi hi
    by_cases hj : ops.size ≤ j
    · rw [hfar j hj]; exact ⟨fun _ _ => rfl, fun _ _ => .inl rfl⟩
    · have hj' : j < ops.size := by omega
      have hoj : ops[j]? = some ops[j] := Array.getElem?_eq_getElem hj'
      have hdj : dst j = ops[j].dst := by simp [dst, hoj]
      have htm : (∀ d, ops[j].dst = some d → d ∉ oi.looksAt ops) → ∀ u ∈ oi.looksAt ops, (stp j t).tmps u = t.tmps u := by
        intro hh u hu'
        simp only [stp, AS.apply, hdj]
        cases hd : ops[j].dst with
        | none => rfl
        | some d =>
          have : u ≠ d := fun hud => hh d hd (hud ▸ hu')
          exact upd_ne _ _ this
      rcases Nat.lt_or_gt_of_ne hij with hlt | hlt
      · obtain ⟨h1, h2, h3, h4⟩ := hind i j hlt (by omega) hu.1
        obtain ⟨_, _, g3⟩ := Oper.apart_spec (h1 _ _ hoi hoj)
        exact ⟨htm g3, actAt_agree (by rw [clash_symm]; exact h4) _⟩
      · obtain ⟨h1, h2, h3, h4⟩ := hind j i hlt (by omega) hu.2
        obtain ⟨g1, _, _⟩ := Oper.apart_spec (h1 _ _ hoj hoi)
        exact ⟨htm g1, actAt_agree h2 _⟩
  have hframe : ∀ i j t, i ≠ j → unord ord i j → (Does i t ↔ Does i (stp j t)) := by
    intro i j t hij hu
    constructor
    · intro hd o ho
      have hi : i < ops.size := (Array.getElem?_eq_some_iff.1 ho).1
      obtain ⟨h1, h2⟩ := hlooks i j t o hij hu ho hi
      exact does_same h1 h2 (hd o ho)
    · intro hd o ho
      have hi : i < ops.size := (Array.getElem?_eq_some_iff.1 ho).1
      obtain ⟨h1, h2⟩ := hlooks i j t o hij hu ho hi
      exact does_same (fun u hu' => (h1 u hu').symm) h2.symm (hd o ho)
  have hnext : ∀ (D : Nat → Bool) (l : List Nat) (t : AS), (foldD stp D l t).next = t.next := by
    intro D l
    induction l with
    | nil => intro t; rfl
    | cons i l ih => intro t; rw [foldD_cons, ih]; split <;> rfl
  -- any order
  have main : ∀ (fuel : Nat) (listed : Array Bool) (a : Act) (w : World), listed.size = ops.size → (∀ j o, ops.toList[j]? = some o → listed.getD j false = true → ∀ e ∈ o.after, Region.binds .any e = true → listed.getD e.on false = true) →
      listed.toList.count false ≤ fuel → GS C N B (fun id => ∃ i, i < ops.size ∧ listed.getD i false = false ∧ id = base + i) (foldD stp (fun i => listed.getD i false) (List.range ops.size) s) a w →
      wpAny C.P .any ops Q fuel listed a w := by
    intro fuel
    have hdone : ∀ (listed : Array Bool) (a : Act) (w : World), listed.size = ops.size → GS C N B (fun id => ∃ i, i < ops.size ∧ listed.getD i false = false ∧ id = base + i) (foldD stp (fun i => listed.getD i false) (List.range ops.size) s) a w →
        (∀ i, i < ops.size → listed.getD i false = true) → Q .normal a w := by
      intro listed a w hsz hgs hall
      have e1 : foldD stp (fun i => listed.getD i false) (List.range ops.size) s = foldD stp (fun _ => true) (List.range ops.size) s := by
        have : ∀ (l : List Nat) (t : AS), (∀ i ∈ l, i < ops.size) → foldD stp (fun i => listed.getD i false) l t = foldD stp (fun _ => true) l t := by
          intro l
          induction l with
          | nil => intro t _; rfl
          | cons i l ih =>
            intro t hl
            rw [foldD_cons, foldD_cons, ih _ fun k hk => hl k (List.mem_cons_of_mem _ hk)]
            simp only [hall i (hl i (List.mem_cons_self ..))]
        exact this _ _ fun i hi => by rwa [List.mem_range] at hi
      rw [e1] at hgs
      have e2 : foldD stp (fun _ => true) (List.range ops.size) s = sn := by
        have := hss ops.size (Nat.le_refl _)
        rw [List.getElem?_append_right (by omega)] at this
        simp [hsl] at this
        exact this.symm
      rw [e2] at hgs
      obtain ⟨ρ, V, h1, h2, h3, h4, h5, h6, h7⟩ := hgs
      exact hQ sn a w hK ⟨ρ, V, h1, h2, h3, h4, h5, h6, fun id hid => hid.elim⟩
    have hready : ∀ (listed : Array Bool), listed.size = ops.size → Region.ready .any ops listed = [] → ∀ i, i < ops.size → listed.getD i false = true := by
      intro listed hsz hr i
      induction i using Nat.strongRecOn with
      | _ i ih =>
        intro hi
        cases hli : listed.getD i false with
        | true => rfl
        | false =>
          have : i ∈ Region.ready .any ops listed := by
            rw [mem_ready]
            have hlt : i < listed.size := by omega
            refine ⟨by simp [hlt] at hli ⊢; exact hli, ops[i], by simp [hi], fun e he hb => ?_⟩
            have hlte := edgesOk_spec hedges (j := i) (o := ops[i]) (by simp [hi]) he hb
            exact ih e.on hlte (by omega)
          rw [hr] at this; cases this
    induction fuel with
    | zero =>
      intro listed a w hsz hcl hc hgs
      have hall : ∀ i, i < ops.size → listed.getD i false = true := by
        intro i hi
        have hlt : i < listed.size := by omega
        cases hli : listed[i] with
        | true => simp [hlt, hli]
        | false =>
          have : false ∈ listed.toList := by rw [← hli]; simp
          have := List.count_pos_iff.2 this
          omega
      refine ⟨?_, hdone listed a w hsz hgs hall⟩
      cases hr : Region.ready .any ops listed with
      | nil => rfl
      | cons i l =>
        have : i ∈ Region.ready .any ops listed := by rw [hr]; simp
        obtain ⟨h1, o, h2, _⟩ := mem_ready.1 this
        have hi : i < ops.size := (Array.getElem?_eq_some_iff.1 h2).1
        have hlt : i < listed.size := by omega
        have h3 := hall i hi
        simp [hlt] at h1 h3
        rw [h1] at h3; cases h3
    | succ fuel ih =>
      intro listed a w hsz hcl hc hgs
      refine ⟨fun hr => hdone listed a w hsz hgs (hready listed hsz hr), fun i hi => ?_⟩
      obtain ⟨hi0, o, ho, hedge⟩ := mem_ready.1 hi
      have hin : i < ops.size := (Array.getElem?_eq_some_iff.1 ho).1
      have hlt : i < listed.size := by omega
      have hom : o ∈ ops := Array.mem_of_getElem? ho
      have hDi : listed.getD i false = false := by simp [hlt] at hi0 ⊢; exact hi0
      let D : Nat → Bool := fun j => listed.getD j false
      have hdown : ∀ k j, j < ops.size → ord k j = true → D j = true → D k = true := fun k j hj ho' hDj => ordered_spec hedges (D := D) hcl j k ho' hDj (by simpa using hj)
      have hpre : ∀ k, ord k i = true → D k = true := by
        intro k hk
        have hki := ordered_lt hedges i k hk
        have := ordered_spec hedges (D := fun j => D j || j == i) ?_ i k hk (by simp) (by simpa using hin)
        · have hne : (k == i) = false := by simp; omega
          simpa [hne] using this
        · intro j o' ho' hj e he hb
          simp only [Bool.or_eq_true, beq_iff_eq] at hj
          rcases hj with hj | hj
          · have h5 : D e.on = true := hcl j o' ho' hj e he hb
            rw [h5]; rfl
          · subst hj
            rw [Array.getElem?_toList, ho] at ho'
            cases ho'
            have h5 : D e.on = true := hedge e he hb
            rw [h5]; rfl
      obtain ⟨hdoes, hstep⟩ := any_order stp Does ord hcomm hframe ops.size s (fun i j h => ordered_lt hedges j i h) hcan D i hin hDi hdown hpre
      have hnx : (foldD stp D (List.range ops.size) s).next = s.next := hnext _ _ _
      -- behind the operation
      have hafter : ∀ a' w', GS C N B (fun id => (∃ i, i < ops.size ∧ listed.getD i false = false ∧ id = base + i) ∧ id ≠ base + i) (stp i (foldD stp D (List.range ops.size) s)) a' w' →
          wpAny C.P .any ops Q fuel (listed.setIfInBounds i true) a' w' := by
        intro a' w' hg'
        have hgetD : ∀ j, (listed.setIfInBounds i true).getD j false = (D j || j == i) := by
          intro j
          by_cases hji : j = i
          · subst hji; simp [hlt, D]
          · have h1 : (j == i) = false := by simpa using hji
            rw [getD_set_ne false (Ne.symm hji), h1, Bool.or_false]
        refine ih (listed.setIfInBounds i true) a' w' (by simp [hsz]) (fun j o' ho' hj e he hb => ?_) ?_ ?_
        · rw [hgetD] at hj ⊢
          simp only [Bool.or_eq_true, beq_iff_eq] at hj ⊢
          rcases hj with hj | hj
          · exact .inl (hcl j o' ho' hj e he hb)
          · subst hj
            rw [Array.getElem?_toList, ho] at ho'
            cases ho'
            exact .inl (hedge e he hb)
        · have h1 : listed.toList[i]? = some false := by
            rw [Array.getElem?_toList]
            simp [hlt] at hi0 ⊢; exact hi0
          have := cnt_set listed.toList i h1
          rw [Array.toList_setIfInBounds]
          omega
        · rw [hstep] at hg'
          have e1 : (fun j => D j || j == i) = (fun j => (listed.setIfInBounds i true).getD j false) := by funext j; rw [hgetD]
          rw [e1] at hg'
          obtain ⟨ρ, V, h1, h2, h3, h4, h5, h6, h7⟩ := hg'
          refine ⟨ρ, V, h1, h2, h3, h4, h5, h6, fun id hid => ?_⟩
          obtain ⟨k, hk1, hk2, rfl⟩ := hid
          rw [hgetD] at hk2
          simp only [Bool.or_eq_false_iff] at hk2
          have : k ≠ i := by simpa using hk2.2
          exact h7 _ ⟨⟨k, hk1, hk2.1, rfl⟩, by omega⟩
      have hdi : dst i = o.dst := by simp [dst, ho]
      have hundlt : ∀ id, (∃ i, i < ops.size ∧ listed.getD i false = false ∧ id = base + i) → id < (foldD stp D (List.range ops.size) s).next := by
        rintro id ⟨k, hk, _, rfl⟩
        rw [hnx]; omega
      have go : DoesOp C (base + i) o (effs i) (rds i) (foldD stp D (List.range ops.size) s) → o.wp C.P a w (wpAny C.P .any ops Q fuel (listed.setIfInBounds i true)) Q := by
        rintro (⟨_, g2, _⟩ | ⟨f, args, g1, g3⟩)
        · refine Oper.wp_mono ?_ (step_eff hC hgs ⟨i, hin, hDi, rfl⟩ (hundlt _ ⟨i, hin, hDi, rfl⟩) (by omega) g2 (hdst o hom) Q)
          intro a' w' hg'
          refine hafter a' w' ?_
          simp only [stp, hdi]
          exact hg'
        · have hq := g3 (foldD stp D (List.range ops.size) s).toHS fun _ _ => .inl rfl
          refine Oper.wp_mono ?_ (step_callE hgs g1 hq ⟨i, hin, hDi, rfl⟩ (hundlt _ ⟨i, hin, hDi, rfl⟩) (by omega) (hdst o hom) Q)
          intro a' w' hg'
          refine hafter a' w' ?_
          simp only [stp, hdi]
          exact hg'
      have hd := hdoes o ho
      unfold wpOp
      simp only [ho]
      unfold DoesG at hd
      split at hd
      · rename_i hgd
        have hw : Region.wanted o (yielded ops a.tmps) = true := by simp [Region.wanted, hgd]
        rw [if_pos hw]
        exact .inl (go hd)
      · rename_i g want hgd
        obtain ⟨d, b, h1, h2, h3, h4⟩ := hd
        have hgs' := hgs
        obtain ⟨ρ, V, k1, k2, k3, k4, k5, k6, k7⟩ := hgs'
        have hdN : d < N := by
          obtain ⟨og, hog, hdg⟩ := Option.bind_eq_some_iff.1 h1
          exact hdst og (by rw [← Array.mem_toList_iff]; exact List.mem_of_getElem? hog) d hdg
        have hw := wanted_of hgd h1 k1 h2 k5 hdN
        by_cases hbw : b = .bool want
        · rw [hw.1 hbw, if_pos rfl]
          exact .inl (go (h3 hbw))
        · rw [hw.2 hbw, if_neg (by simp)]
          refine hafter _ _ ?_
          have he := h4 hbw
          have hp := hgs.put (dst := o.dst) (hdst o hom)
          obtain ⟨ρ, V, k1, k2, k3, k4, k5, k6, k7⟩ := hp
          simp only [stp, hdi, he]
          exact ⟨ρ, V, k1, k2, k3, k4, k5, k6, fun id hid => k7 id hid.1⟩
  refine main ops.size _ a w (by simp) (fun j o ho hj e he hb => ?_) ?_ ?_
  · have : (Array.replicate ops.size false).getD j false = false := by
      by_cases hj' : j < ops.size <;> simp [hj']
    rw [this] at hj; cases hj
  · simp
  · have e1 : foldD stp (fun i => (Array.replicate ops.size false).getD i false) (List.range ops.size) s = s := by
      have : ∀ (l : List Nat) (t : AS), foldD stp (fun i => (Array.replicate ops.size false).getD i false) l t = t := by
        intro l
        induction l with
        | nil => intro t; rfl
        | cons i l ih =>
          intro t
          have : (Array.replicate ops.size false).getD i false = false := by
            by_cases hj' : i < ops.size <;> simp [hj']
          rw [foldD_cons, ih]
          simp only [this]
          rfl
      exact this _ _
    rw [e1]
    obtain ⟨ρ, V, k1, k2, k3, k4, k5, k6, k7⟩ := hg
    exact ⟨ρ, V, k1, k2, k3, k4, k5, k6, fun id ⟨i, hi, _, he⟩ => k7 id ⟨by omega, by omega⟩⟩

end Go.AX
