/- A part of the proof: an abstract reading of the model, proved sound. -/
import Derived.Test.YtpjogfcpmcbafaaCorea
import Derived.Deep.LoopGhost
import Derived.ChangeBears
import Derived.ChangeBook
import Derived.ChangeSame
import Derived.WideKeyArgs
import Derived.RowKit
import Derived.OpenShut
import Derived.ChangeKeysEq
set_option linter.unusedVariables false
set_option linter.unusedSimpArgs false

/-! (AxQ) -/

namespace Go.AX

theorem AS.ext3 {s t : AS} (h1 : s.tmps = t.tmps) (h2 : s.objs = t.objs) (h3 : s.next = t.next) : s = t := by
 obtain ⟨⟨o, n⟩, t1⟩ := s
 obtain ⟨⟨o', n'⟩, t2⟩ := t
 simp only at h1 h2 h3
 subst h1; subst h2; subst h3
 rfl

theorem v7 {s : AS} {d1 d2 : Option Nat} {f1 f2 : Nat} {e1 e2 : Eff} (hd : ∀ d, d1 = some d → d2 ≠ some d) (hw : ek (cG f1 e1.act) (cG f2 e2.act) = false) :
  (s.apply d1 f1 e1).apply d2 f2 e2 = (s.apply d2 f2 e2).apply d1 f1 e1 := by
 refine AS.ext3 ?_ ?_ rfl
 ·
  simp only [AS.apply]
  cases d1 with
  | none => rfl
  | some a =>
   cases d2 with
   | none => rfl
   | some b =>
    have : b ≠ a := fun h => hd a rfl (by rw [h])
    exact C0 _ _ _ this
 ·
  funext j
  simp only [AS.apply]
  rw [pO, pO, pO, pO]
  exact Bp hw j _

theorem BI {acc : List Nat} {o : Oper} {i : Nat} {e : Edge} (he : e ∈ o.after) (hb : Region.binds .any e = true) (h : e.on = i ∨ (acc.getD e.on 0).testBit i = true) : (nm acc o).testBit i = true := by
 have mono : ∀ (l : List Edge) (m : Nat), m.testBit i = true → (l.foldl (fun m e => if Region.binds .any e then m ||| (2 ^ e.on ||| acc.getD e.on 0) else m) m).testBit i = true := by
  intro l
  induction l with
  | nil => intro m h; exact h
  | cons e l ih =>
   intro m h
   rw [List.foldl_cons]
   refine ih _ ?_
   split
   ·
    rw [Nat.testBit_or, h]; rfl
   ·
    exact h
 have key : ∀ (l : List Edge) (m : Nat), e ∈ l → (l.foldl (fun m e => if Region.binds .any e then m ||| (2 ^ e.on ||| acc.getD e.on 0) else m) m).testBit i = true := by
  intro l
  induction l with
  | nil => intro m h; cases h
  | cons e' l ih =>
   intro m hm
   rw [List.foldl_cons]
   rcases List.mem_cons.1 hm with rfl | hm
   ·
    refine mono l _ ?_
    rw [if_pos hb, Nat.testBit_or, Nat.testBit_or, Nat.testBit_two_pow]
    rcases h with h | h
    ·
     rw [decide_eq_true h]; simp
    ·
     rw [h]; simp
   ·
    exact ih _ hm
 exact key o.after.toList 0 (Array.mem_toList_iff.2 he)

theorem qw {ops : List Oper} (hok : kL ops = true) {i j k : Nat} (h1 : eh ops i j = true) (h2 : eh ops j k = true) (hk : k < ops.length) : eh ops i k = true := by
 have hjk := nd hok k j h2
 revert h2 hk hjk
 induction k using Nat.strongRecOn with
 | _ k ih =>
  intro h2 hk hjk
  have ho : ops[k]? = some ops[k] := by simp [hk]
  have hg := sx ops [] k ops[k] ho
  simp only [List.length_nil, Nat.zero_add] at hg
  have key : ∀ q, eh ops q k = true ↔ (nm ((um ops []).take k) ops[k]).testBit q = true := by
   intro q
   unfold eh
   rw [List.getD_eq_getElem?_getD, hg, Option.getD_some]
  rw [key] at h2 ⊢
  obtain ⟨e, he, hb, h3⟩ := u0 h2
  have hek := fK hok ho he hb
  have hget : ∀ q, ((um ops []).take k).getD q 0 = if q < k then (um ops []).getD q 0 else 0 := by
   intro q
   rw [List.getD_eq_getElem?_getD, List.getElem?_take]
   split
   ·
    rw [← List.getD_eq_getElem?_getD]
   ·
    rfl
  rcases h3 with h3 | h3
  ·
   subst h3
   refine BI he hb (.inr ?_)
   rw [hget, if_pos hek]
   exact h1
  ·
   rw [hget, if_pos hek] at h3
   refine BI he hb (.inr ?_)
   rw [hget, if_pos hek]
   have hlt2 := nd hok e.on j h3
   exact ih e.on hek h3 (by omega) hlt2

def Jd (n k : Nat) (listed : Array Bool) : Prop := listed.size = n ∧ ∀ j, listed.getD j false = decide (j < k)

theorem xN {C : Ctx} (hC : COk C) {N : Nat} {B : Base} {ops : Array Oper} {Q : Exit → Act → World → Prop} {base : Nat} (hB : B.s.next ≤ base) (hdst : ∀ o ∈ ops, ∀ d, o.dst = some d → d < N)
  (hedges : kL ops.toList = true) (htmps : tu ops.toList = true) {lo m : Nat} (hlm : lo + m ≤ ops.size) (hseg : ∀ i j, lo ≤ i → i < lo + m → lo + m ≤ j → j < ops.size → eh ops.toList i j = true)
  {s sn : AS} {es : List (Eff × gz)} {acc : List eK} {ss : List AS} (hel : es.length = m) (hsl : ss.length = m) (hpr : bS ops.toList acc = true) (hs0 : (ss ++ [sn])[0]? = some s)
  (hch : ∀ (j : Nat) o e rd t, (ops.toList.drop lo)[j]? = some o → es[j]? = some (e, rd) → ss[j]? = some t → lQ C ops.toList (base + (lo + j)) o e rd t ∧ (ss ++ [sn])[j + 1]? = some (t.apply o.dst (base + (lo + j)) e) ∧
    ((rd = [] ∧ cG (base + (lo + j)) e.act = []) ∨ (lo + j, rd, cG (base + (lo + j)) e.act) ∈ acc))
  (hn : base + ops.size ≤ s.next)
  (hQ : ∀ fuel listed a w, ops.size - (lo + m) ≤ fuel → Jd ops.size (lo + m) listed → base + ops.size ≤ sn.next → GS C N B (fun id => base + (lo + m) ≤ id ∧ id < base + ops.size) sn a w → wpAny C.P .any ops Q fuel listed a w) :
  ∀ (fuel : Nat) (listed : Array Bool) (a : Act) (w : World), ops.size - lo ≤ fuel → Jd ops.size lo listed → GS C N B (fun id => base + lo ≤ id ∧ id < base + ops.size) s a w → wpAny C.P .any ops Q fuel listed a w := by
 obtain ⟨hi, hhi⟩ : ∃ hi, lo + m = hi := ⟨_, rfl⟩
 rw [hhi] at hlm hseg hQ
 let seg : Nat → Bool := fun k => decide (lo ≤ k) && decide (k < hi)
 have segI : ∀ k, seg k = true ↔ lo ≤ k ∧ k < hi := fun k => by simp [seg]
 let effs : Nat → Eff := fun k => if seg k = true then (es.getD (k - lo) (⟨.unk, .none⟩, [])).1 else ⟨.unk, .none⟩
 let rds : Nat → gz := fun k => if seg k = true then (es.getD (k - lo) (⟨.unk, .none⟩, [])).2 else []
 let dst : Nat → Option Nat := fun k => if seg k = true then (ops[k]?).bind (·.dst) else none
 let stp : Nat → AS → AS := fun k t => t.apply (dst k) (base + k) (effs k)
 let Does : Nat → AS → Prop := fun i t => seg i = true → ∀ o, ops[i]? = some o → lQ C ops.toList (base + i) o (effs i) (rds i) t
 let ord : Nat → Nat → Bool := eh ops.toList
 have hes : ∀ k, k < m → es[k]? = some (effs (lo + k), rds (lo + k)) := by
  intro k hk
  have hk' : k < es.length := by omega
  have h1 : seg (lo + k) = true := (segI _).2 (by omega)
  have h2 : lo + k - lo = k := by omega
  simp [effs, rds, hk', h1]
 have hfar : ∀ i, seg i ≠ true → ∀ t, stp i t = t := by
  intro i hi t
  simp only [stp, dst, effs, if_neg hi]
  rfl
 have hfold0 : ∀ (D : Nat → Bool) (l : List Nat) (t : AS), (∀ i ∈ l, seg i = true → D i = false) → dx stp D l t = t := by
  intro D l
  induction l with
  | nil => intro t _; rfl
  | cons i l ih =>
   intro t hl
   rw [c8, ih _ fun k hk => hl k (List.mem_cons_of_mem _ hk)]
   by_cases h1 : seg i = true
   ·
    rw [hl i (List.mem_cons_self ..) h1]; rfl
   ·
    split
    ·
     exact hfar i h1 t
    ·
     rfl
 have hfoldE : ∀ (D D' : Nat → Bool) (l : List Nat) (t : AS), (∀ i ∈ l, seg i = true → D i = D' i) → dx stp D l t = dx stp D' l t := by
  intro D D' l
  induction l with
  | nil => intro t _; rfl
  | cons i l ih =>
   intro t hl
   rw [c8, c8, ih _ fun k hk => hl k (List.mem_cons_of_mem _ hk)]
   congr 1
   by_cases h1 : seg i = true
   ·
    rw [hl i (List.mem_cons_self ..) h1]
   ·
    rw [hfar i h1 t]; split <;> split <;> rfl
 -- the states of the text's order
 have hss : ∀ k, k ≤ m → (ss ++ [sn])[k]? = some (dx stp (fun _ => true) (List.range (lo + k)) s) := by
  intro k
  induction k with
  | zero =>
   intro _
   rw [hfold0 _ _ _ (fun i hi h1 => by have := (segI i).1 h1; rw [List.mem_range] at hi; omega)]
   exact hs0
  | succ k ih =>
   intro hk
   have hk' : k < m := by omega
   have hk2 : lo + k < ops.size := by omega
   have h1 := ih (by omega)
   have hss1 : ss[k]? = some (dx stp (fun _ => true) (List.range (lo + k)) s) := by
    rw [List.getElem?_append_left (by omega)] at h1; exact h1
   have ho : (ops.toList.drop lo)[k]? = some ops[lo + k] := by rw [List.getElem?_drop]; simp [hk2]
   obtain ⟨_, h3, _⟩ := hch k ops[lo + k] _ _ _ ho (hes k hk') hss1
   rw [h3]
   rw [show lo + (k + 1) = lo + k + 1 by omega, List.range_succ, kO]
   have hsg : seg (lo + k) = true := (segI _).2 (by omega)
   have hd : dst (lo + k) = ops[lo + k].dst := by simp [dst, hk2, hsg]
   simp [dx, stp, hd]
 have hseg_get : ∀ i, seg i = true → ∃ j, j < m ∧ i = lo + j := fun i hi => ⟨i - lo, by have := (segI i).1 hi; omega, by have := (segI i).1 hi; omega⟩
 have hcan : ∀ i, i < ops.size → Does i (dx stp (fun _ => true) (List.range i) s) := by
  intro i hi hsg o ho
  obtain ⟨j, hj, rfl⟩ := hseg_get i hsg
  have h1 := hss j (by omega)
  rw [List.getElem?_append_left (by omega)] at h1
  exact (hch j o _ _ _ (by rw [List.getElem?_drop, Array.getElem?_toList]; exact ho) (hes j hj) h1).1
 have hprint : ∀ i, seg i = true → (rds i = [] ∧ cG (base + i) (effs i).act = []) ∨ (i, rds i, cG (base + i) (effs i).act) ∈ acc := by
  intro i hsg
  obtain ⟨j, hj, rfl⟩ := hseg_get i hsg
  have h1 := hss j (by omega)
  rw [List.getElem?_append_left (by omega)] at h1
  have hk2 : lo + j < ops.size := by omega
  exact (hch j ops[lo + j] _ _ _ (by rw [List.getElem?_drop]; simp [hk2]) (hes j hj) h1).2.2
 -- two operations of which neither waits for the other
 have hind : ∀ i j, i < j → seg i = true → seg j = true → ord i j = false → (∀ oi oj, ops[i]? = some oi → ops[j]? = some oj → oi.apart ops oj = true) ∧ ek (cG (base + i) (effs i).act) (rds j) = false ∧
   ek (cG (base + i) (effs i).act) (cG (base + j) (effs j).act) = false ∧ ek (rds i) (cG (base + j) (effs j).act) = false := by
  intro i j hij hsi hsj ho
  refine ⟨fun oi oj hoi hoj => ?_, ?_⟩
  ·
   have := zP htmps (by rw [Array.getElem?_toList]; exact hoi) (by rw [Array.getElem?_toList]; exact hoj) hij ho
   simpa using this
  ·
   have cnil : ∀ f, ek f [] = false := by intro f; rw [qy]; rfl
   have cnil' : ∀ f, ek [] f = false := by intro f; rfl
   rcases hprint i hsi with ⟨h1, h2⟩ | h1
   ·
    rw [h1, h2]; exact ⟨cnil' _, cnil' _, cnil' _⟩
   ·
    rcases hprint j hsj with ⟨g1, g2⟩ | g1
    ·
     rw [g1, g2]; exact ⟨cnil _, cnil _, cnil _⟩
    ·
     unfold bS at hpr
     rw [List.all_eq_true] at hpr
     have := hpr _ h1
     rw [List.all_eq_true] at this
     have := this _ g1
     simp only [Bool.or_eq_true, decide_eq_true_eq] at this
     rcases this with (h3 | h3) | h3
     ·
      omega
     ·
      unfold gh at h3
      simp only [Bool.and_eq_true, Bool.not_eq_true'] at h3
      exact ⟨h3.1.1, h3.1.2, h3.2⟩
     ·
      simp only [ord] at ho; rw [ho] at h3; cases h3
 have hcomm : ∀ i j t, i ≠ j → sb ord i j → stp i (stp j t) = stp j (stp i t) := by
  intro i j t hij hu
  by_cases hi : seg i = true
  ·
   by_cases hj : seg j = true
   ·
    have bi := (segI i).1 hi
    have bj := (segI j).1 hj
    have hoi : ops[i]? = some ops[i] := Array.getElem?_eq_getElem (by omega)
    have hoj : ops[j]? = some ops[j] := Array.getElem?_eq_getElem (by omega)
    have hdi : dst i = ops[i].dst := by simp [dst, hoi, hi]
    have hdj : dst j = ops[j].dst := by simp [dst, hoj, hj]
    rcases Nat.lt_or_gt_of_ne hij with hlt | hlt
    ·
     obtain ⟨h1, _, h3, _⟩ := hind i j hlt hi hj hu.1
     obtain ⟨_, g2, _⟩ := Oper.apart_spec (h1 _ _ hoi hoj)
     refine (v7 (s := t) (d1 := dst i) (d2 := dst j) ?_ h3).symm
     rw [hdi, hdj]; exact g2
    ·
     obtain ⟨h1, _, h3, _⟩ := hind j i hlt hj hi hu.2
     obtain ⟨_, g2, _⟩ := Oper.apart_spec (h1 _ _ hoj hoi)
     refine v7 (s := t) (d1 := dst j) (d2 := dst i) ?_ h3
     rw [hdi, hdj]; exact g2
   ·
    rw [hfar j hj, hfar j hj]
  ·
   rw [hfar i hi, hfar i hi]
 have hlooks : ∀ i j t oi, i ≠ j → sb ord i j → ops[i]? = some oi → seg i = true → (∀ u ∈ oi.looksAt ops, (stp j t).tmps u = t.tmps u) ∧ fH (rds i) t.objs (stp j t).objs := by
  intro i j t oi hij hu hoi hi
  by_cases hj : seg j = true
  ·
   have bi := (segI i).1 hi
   have bj := (segI j).1 hj
   have hoj : ops[j]? = some ops[j] := Array.getElem?_eq_getElem (by omega)
   have hdj : dst j = ops[j].dst := by simp [dst, hoj, hj]
   have htm : (∀ d, ops[j].dst = some d → d ∉ oi.looksAt ops) → ∀ u ∈ oi.looksAt ops, (stp j t).tmps u = t.tmps u := by
    intro hh u hu'
    simp only [stp, AS.apply, hdj]
    cases hd : ops[j].dst with
    | none => rfl
    | some d =>
     have : u ≠ d := fun hud => hh d hd (hud ▸ hu')
     exact ba _ _ this
   rcases Nat.lt_or_gt_of_ne hij with hlt | hlt
   ·
    obtain ⟨h1, h2, h3, h4⟩ := hind i j hlt hi hj hu.1
    obtain ⟨_, _, g3⟩ := Oper.apart_spec (h1 _ _ hoi hoj)
    exact ⟨htm g3, tJ (by rw [qy]; exact h4) _⟩
   ·
    obtain ⟨h1, h2, h3, h4⟩ := hind j i hlt hj hi hu.2
    obtain ⟨g1, _, _⟩ := Oper.apart_spec (h1 _ _ hoj hoi)
    exact ⟨htm g1, tJ h2 _⟩
  ·
   rw [hfar j hj]; exact ⟨fun _ _ => rfl, fun _ _ => .inl rfl⟩
 have hframe : ∀ i j t, i ≠ j → sb ord i j → (Does i t ↔ Does i (stp j t)) := by
  intro i j t hij hu
  constructor
  ·
   intro hd hsg o ho
   obtain ⟨h1, h2⟩ := hlooks i j t o hij hu ho hsg
   exact yb h1 h2 (hd hsg o ho)
  ·
   intro hd hsg o ho
   obtain ⟨h1, h2⟩ := hlooks i j t o hij hu ho hsg
   exact yb (fun u hu' => (h1 u hu').symm) h2.symm (hd hsg o ho)
 have hnext : ∀ (D : Nat → Bool) (l : List Nat) (t : AS), (dx stp D l t).next = t.next := by
  intro D l
  induction l with
  | nil => intro t; rfl
  | cons i l ih => intro t; rw [c8, ih]; split <;> rfl
 have hsn : dx stp (fun _ => true) (List.range hi) s = sn := by
  have := hss m (Nat.le_refl _)
  rw [List.getElem?_append_right (by omega)] at this
  simp [hsl] at this
  rw [hhi] at this
  exact this.symm
 have hsnn : sn.next = s.next := by rw [← hsn, hnext]
 have hall' : ∀ D : Nat → Bool, (∀ i, seg i = true → D i = true) → dx stp D (List.range ops.size) s = sn := by
  intro D hD
  rw [hfoldE D (fun _ => true) _ _ fun i _ h1 => by rw [hD i h1]]
  rw [show ops.size = hi + (ops.size - hi) by omega, List.range_add, kO, hsn]
  clear hD
  generalize List.range (ops.size - hi) = l
  have : ∀ (l : List Nat) (t : AS), dx stp (fun _ => true) (List.map (fun x => hi + x) l) t = t := by
   intro l
   induction l with
   | nil => intro t; rfl
   | cons i l ih =>
    intro t
    rw [List.map_cons, c8, ih]
    exact hfar (hi + i) (fun h1 => by have := (segI _).1 h1; omega) t
  exact this l sn
 -- any order
 have main : ∀ (fuel : Nat) (listed : Array Bool) (a : Act) (w : World), listed.size = ops.size → (∀ j o, ops.toList[j]? = some o → listed.getD j false = true → ∀ e ∈ o.after, Region.binds .any e = true → listed.getD e.on false = true) →
   (∀ j, j < lo → listed.getD j false = true) → (∀ j, hi ≤ j → listed.getD j false = false) →
   listed.toList.count false ≤ fuel → GS C N B (fun id => ∃ i, i < ops.size ∧ listed.getD i false = false ∧ id = base + i) (dx stp (fun i => listed.getD i false) (List.range ops.size) s) a w →
   wpAny C.P .any ops Q fuel listed a w := by
  intro fuel
  have hdone : ∀ (fuel : Nat) (listed : Array Bool) (a : Act) (w : World), listed.size = ops.size → (∀ j, j < lo → listed.getD j false = true) → (∀ j, hi ≤ j → listed.getD j false = false) → listed.toList.count false ≤ fuel →
    GS C N B (fun id => ∃ i, i < ops.size ∧ listed.getD i false = false ∧ id = base + i) (dx stp (fun i => listed.getD i false) (List.range ops.size) s) a w →
    (∀ i, seg i = true → listed.getD i false = true) → wpAny C.P .any ops Q fuel listed a w := by
   intro fuel listed a w hsz hlo' hhi' hc hgs hall
   rw [hall' _ hall] at hgs
   have hup : ∀ j, listed.getD j false = decide (j < hi) := by
    intro j
    rcases Nat.lt_or_ge j lo with h1 | h1
    ·
     rw [hlo' j h1, decide_eq_true (by omega)]
    ·
     rcases Nat.lt_or_ge j hi with h2 | h2
     ·
      rw [hall j ((segI j).2 ⟨h1, h2⟩), decide_eq_true h2]
     ·
      rw [hhi' j h2, decide_eq_false (by omega)]
   refine hQ fuel listed a w ?_ ⟨hsz, hup⟩ (by omega) ?_
   ·
    have hle : ops.size - hi ≤ listed.toList.count false := by
     have h1 : listed.toList = listed.toList.take hi ++ listed.toList.drop hi := (List.take_append_drop _ _).symm
     rw [h1, List.count_append]
     have h2 : listed.toList.drop hi = List.replicate (ops.size - hi) false := by
      apply List.ext_getElem
      ·
       simp [hsz]
      ·
       intro i h3 h4
       rw [List.getElem_drop, List.getElem_replicate]
       have := hhi' (hi + i) (by omega)
       simp at h3
       have h5 : hi + i < listed.size := by omega
       simp [h5] at this
       simpa using this
     rw [h2, List.count_replicate_self]
     omega
    omega
   ·
    obtain ⟨ρ, V, h1, h2, h3, h4, h5, h6, h7⟩ := hgs
    refine ⟨ρ, V, h1, h2, h3, h4, h5, h6, fun id hid => h7 id ⟨id - base, by omega, ?_, by omega⟩⟩
    rw [hup, decide_eq_false (by omega)]
  have hcount : ∀ listed : Array Bool, listed.size = ops.size → listed.toList.count false ≤ 0 → ∀ i, i < ops.size → listed.getD i false = true := by
   intro listed hsz hc i hi
   have hlt : i < listed.size := by omega
   cases hli : listed[i] with
   | true => simp [hlt, hli]
   | false =>
    have : false ∈ listed.toList := by rw [← hli]; simp
    have := List.count_pos_iff.2 this
    omega
  induction fuel with
  | zero =>
   intro listed a w hsz hcl hlo' hhi' hc hgs
   exact hdone 0 listed a w hsz hlo' hhi' hc hgs fun i h1 => hcount listed hsz hc i (by have := (segI i).1 h1; omega)
  | succ fuel ih =>
   intro listed a w hsz hcl hlo' hhi' hc hgs
   by_cases hall : ∀ i, seg i = true → listed.getD i false = true
   ·
    exact hdone _ listed a w hsz hlo' hhi' hc hgs hall
   obtain ⟨z, hz, hzl⟩ : ∃ z, seg z = true ∧ listed.getD z false = false := by
    rcases Classical.em (∃ z, seg z = true ∧ listed.getD z false = false) with h | h
    ·
     exact h
    ·
     refine absurd (fun i h1 => ?_) hall
     cases hli : listed.getD i false with
     | true => rfl
     | false => exact absurd ⟨i, h1, hli⟩ h
   have hin_seg : ∀ i, i ∈ Region.ready .any ops listed → seg i = true := by
    intro i hir
    obtain ⟨hi0, o, ho, hedge⟩ := mem_ready.1 hir
    have hin : i < ops.size := (Array.getElem?_eq_some_iff.1 ho).1
    have hlt : i < listed.size := by omega
    have hDi : listed.getD i false = false := by simp [hlt] at hi0 ⊢; exact hi0
    refine (segI i).2 ⟨?_, ?_⟩
    ·
     rcases Nat.lt_or_ge i lo with h | h
     ·
      rw [hlo' i h] at hDi; cases hDi
     ·
      exact h
    ·
     rcases Nat.lt_or_ge i hi with h | h
     ·
      exact h
     ·
      exfalso
      have bz := (segI z).1 hz
      have hzo := hseg z i bz.1 bz.2 h hin
      have hzi : z ≠ i := by omega
      have := kI hedges (D := fun j => listed.getD j false || j == i) ?_ i z hzo (by simp) (by simpa using hin)
      ·
       simp only [Bool.or_eq_true, beq_iff_eq] at this
       rcases this with h5 | h5
       ·
        rw [hzl] at h5; cases h5
       ·
        exact hzi h5
      ·
       intro j o' ho' hj e he hb
       simp only [Bool.or_eq_true, beq_iff_eq] at hj ⊢
       rcases hj with hj | hj
       ·
        exact .inl (hcl j o' ho' hj e he hb)
       ·
        subst hj
        rw [Array.getElem?_toList, ho] at ho'
        cases ho'
        exact .inl (hedge e he hb)
   have hready : Region.ready .any ops listed ≠ [] := by
    intro hr
    have bz := (segI z).1 hz
    have : ∀ i, i < hi → listed.getD i false = true := by
     intro i
     induction i using Nat.strongRecOn with
     | _ i ih =>
      intro hi2
      cases hli : listed.getD i false with
      | true => rfl
      | false =>
       have : i ∈ Region.ready .any ops listed := by
        rw [mem_ready]
        have hlt : i < listed.size := by omega
        have hlt2 : i < ops.size := by omega
        refine ⟨by simp [hlt] at hli ⊢; exact hli, ops[i], by simp [hlt2], fun e he hb => ?_⟩
        have hlte := fK hedges (j := i) (o := ops[i]) (by simp [hlt2]) he hb
        exact ih e.on hlte (by omega)
       rw [hr] at this; cases this
    rw [this z bz.2] at hzl; cases hzl
   refine ⟨fun hr => absurd hr hready, fun i hi => ?_⟩
   have hsg := hin_seg i hi
   have bsg := (segI i).1 hsg
   obtain ⟨hi0, o, ho, hedge⟩ := mem_ready.1 hi
   have hin : i < ops.size := (Array.getElem?_eq_some_iff.1 ho).1
   have hlt : i < listed.size := by omega
   have hom : o ∈ ops := Array.mem_of_getElem? ho
   have hDi : listed.getD i false = false := by simp [hlt] at hi0 ⊢; exact hi0
   let D : Nat → Bool := fun j => listed.getD j false
   have hdown : ∀ k j, j < ops.size → ord k j = true → D j = true → D k = true := fun k j hj ho' hDj => kI hedges (D := D) hcl j k ho' hDj (by simpa using hj)
   have hpre : ∀ k, ord k i = true → D k = true := by
    intro k hk
    have hki := nd hedges i k hk
    have := kI hedges (D := fun j => D j || j == i) ?_ i k hk (by simp) (by simpa using hin)
    ·
     have hne : (k == i) = false := by simp; omega
     simpa [hne] using this
    ·
     intro j o' ho' hj e he hb
     simp only [Bool.or_eq_true, beq_iff_eq] at hj
     rcases hj with hj | hj
     ·
      have h5 : D e.on = true := hcl j o' ho' hj e he hb
      rw [h5]; rfl
     ·
      subst hj
      rw [Array.getElem?_toList, ho] at ho'
      cases ho'
      have h5 : D e.on = true := hedge e he hb
      rw [h5]; rfl
   obtain ⟨hdoes, hstep⟩ := Cs stp Does ord hcomm hframe ops.size s (fun i j h => nd hedges j i h) hcan D i hin hDi hdown hpre
   have hnx : (dx stp D (List.range ops.size) s).next = s.next := hnext _ _ _
   -- behind the operation
   have hafter : ∀ a' w', GS C N B (fun id => (∃ i, i < ops.size ∧ listed.getD i false = false ∧ id = base + i) ∧ id ≠ base + i) (stp i (dx stp D (List.range ops.size) s)) a' w' →
     wpAny C.P .any ops Q fuel (listed.setIfInBounds i true) a' w' := by
    intro a' w' hg'
    have hgetD : ∀ j, (listed.setIfInBounds i true).getD j false = (D j || j == i) := by
     intro j
     by_cases hji : j = i
     ·
      subst hji; simp [hlt, D]
     ·
      have h1 : (j == i) = false := by simpa using hji
      rw [getD_set_ne false (Ne.symm hji), h1, Bool.or_false]
    refine ih (listed.setIfInBounds i true) a' w' (by simp [hsz]) (fun j o' ho' hj e he hb => ?_) (fun j hj => ?_) (fun j hj => ?_) ?_ ?_
    ·
     rw [hgetD] at hj ⊢
     simp only [Bool.or_eq_true, beq_iff_eq] at hj ⊢
     rcases hj with hj | hj
     ·
      exact .inl (hcl j o' ho' hj e he hb)
     ·
      subst hj
      rw [Array.getElem?_toList, ho] at ho'
      cases ho'
      exact .inl (hedge e he hb)
    ·
     rw [hgetD]; simp only [D]; rw [hlo' j hj]; rfl
    ·
     rw [hgetD]; simp only [D]; rw [hhi' j hj]; simp only [Bool.false_or, beq_eq_false_iff_ne]; omega
    ·
     have h1 : listed.toList[i]? = some false := by
      rw [Array.getElem?_toList]
      simp [hlt] at hi0 ⊢; exact hi0
     have := BM listed.toList i h1
     rw [Array.toList_setIfInBounds]
     omega
    ·
     rw [hstep] at hg'
     have e1 : (fun j => D j || j == i) = (fun j => (listed.setIfInBounds i true).getD j false) := by funext j; rw [hgetD]
     rw [e1] at hg'
     obtain ⟨ρ, V, h1, h2, h3, h4, h5, h6, h7⟩ := hg'
     refine ⟨ρ, V, h1, h2, h3, h4, h5, h6, fun id hid => ?_⟩
     obtain ⟨k, hk1, hk2, rfl⟩ := hid
     rw [hgetD] at hk2
     simp only [Bool.or_eq_false_iff] at hk2
     have : k ≠ i := by simpa using hk2.2
     exact h7 _ ⟨⟨k, hk1, hk2.1, rfl⟩, by omega⟩
   have hdi : dst i = o.dst := by simp [dst, ho, hsg]
   have hundlt : ∀ id, (∃ i, i < ops.size ∧ listed.getD i false = false ∧ id = base + i) → id < (dx stp D (List.range ops.size) s).next := by
    rintro id ⟨k, hk, _, rfl⟩
    rw [hnx]; omega
   have go : wA C (base + i) o (effs i) (rds i) (dx stp D (List.range ops.size) s) → o.wp C.P a w (wpAny C.P .any ops Q fuel (listed.setIfInBounds i true)) Q := by
    rintro (⟨_, g2, _⟩ | ⟨f, args, g1, g3⟩)
    ·
     refine Oper.wp_mono ?_ (AH hC hgs ⟨i, hin, hDi, rfl⟩ (hundlt _ ⟨i, hin, hDi, rfl⟩) (by omega) g2 (hdst o hom) Q)
     intro a' w' hg'
     refine hafter a' w' ?_
     simp only [stp, hdi]
     exact hg'
    ·
     have hq := g3 (dx stp D (List.range ops.size) s).toHS fun _ _ => .inl rfl
     refine Oper.wp_mono ?_ (wx hgs g1 hq ⟨i, hin, hDi, rfl⟩ (hundlt _ ⟨i, hin, hDi, rfl⟩) (by omega) (hdst o hom) Q)
     intro a' w' hg'
     refine hafter a' w' ?_
     simp only [stp, hdi]
     exact hg'
   have hd := hdoes hsg o ho
   unfold wpOp
   simp only [ho]
   unfold lQ at hd
   split at hd
   ·
    rename_i hgd
    have hw : Region.wanted o (yielded ops a.tmps) = true := by simp [Region.wanted, hgd]
    rw [if_pos hw]
    exact .inl (go hd)
   ·
    rename_i g want hgd
    obtain ⟨d, b, h1, h2, h3, h4⟩ := hd
    have hgs' := hgs
    obtain ⟨ρ, V, k1, k2, k3, k4, k5, k6, k7⟩ := hgs'
    have hdN : d < N := by
     obtain ⟨og, hog, hdg⟩ := Option.bind_eq_some_iff.1 h1
     exact hdst og (by rw [← Array.mem_toList_iff]; exact List.mem_of_getElem? hog) d hdg
    have hw := mC hgd h1 k1 h2 k5 hdN
    by_cases hbw : b = .bool want
    ·
     rw [hw.1 hbw, if_pos rfl]
     exact .inl (go (h3 hbw))
    ·
     rw [hw.2 hbw, if_neg (by simp)]
     refine hafter _ _ ?_
     have he := h4 hbw
     have hp := hgs.put (dst := o.dst) (hdst o hom)
     obtain ⟨ρ, V, k1, k2, k3, k4, k5, k6, k7⟩ := hp
     simp only [stp, hdi, he]
     exact ⟨ρ, V, k1, k2, k3, k4, k5, k6, fun id hid => k7 id hid.1⟩
 intro fuel listed a w hf hup hgs
 refine main fuel listed a w hup.1 (fun j o ho hj e he hb => ?_) (fun j hj => by rw [hup.2, decide_eq_true hj]) (fun j hj => by rw [hup.2, decide_eq_false (by omega)]) ?_ ?_
 ·
  rw [hup.2] at hj ⊢
  have := fK hedges ho he hb
  have := of_decide_eq_true hj
  exact decide_eq_true (by omega)
 ·
  have h1 : listed.toList = listed.toList.take lo ++ listed.toList.drop lo := (List.take_append_drop _ _).symm
  rw [h1, List.count_append]
  have h2 : (listed.toList.take lo).count false = 0 := by
   rw [List.count_eq_zero]
   intro hm
   obtain ⟨i, hi, he⟩ := List.mem_iff_getElem.1 hm
   have := hup.2 i
   have hi' := hi
   rw [List.length_take, Array.length_toList] at hi'
   have hi1 : i < lo := by omega
   have hi2 : i < listed.size := by omega
   rw [decide_eq_true hi1] at this
   rw [List.getElem_take] at he
   simp [hi2] at this
   simp at he
   rw [this] at he; cases he
  have h3 := List.count_le_length (a := false) (l := listed.toList.drop lo)
  have h4 := hup.1
  simp at h3
  omega
 ·
  have e1 : dx stp (fun i => listed.getD i false) (List.range ops.size) s = s := hfold0 _ _ _ fun i _ h1 => by rw [hup.2, decide_eq_false (by have := (segI i).1 h1; omega)]
  rw [e1]
  obtain ⟨ρ, V, k1, k2, k3, k4, k5, k6, k7⟩ := hgs
  refine ⟨ρ, V, k1, k2, k3, k4, k5, k6, fun id ⟨i, hi, hl, he⟩ => k7 id ⟨?_, by omega⟩⟩
  rw [hup.2] at hl
  have := of_decide_eq_false hl
  omega

theorem ru {ops : List Oper} {m i : Nat} (h : dZ ops m = true) (hi : i < m) (hm : m < ops.length) : eh ops i m = true := by
 unfold dZ at h
 rw [List.all_eq_true] at h
 have := h i (by rw [List.mem_range]; omega)
 simp only [Bool.or_eq_true, decide_eq_true_eq, if_pos hi] at this
 rcases this with h1 | h1
 ·
  omega
 ·
  exact h1
theorem nh {ops : List Oper} {m i : Nat} (h : dZ ops m = true) (hi : m < i) (hm : i < ops.length) : eh ops m i = true := by
 unfold dZ at h
 rw [List.all_eq_true] at h
 have := h i (by rw [List.mem_range]; omega)
 simp only [Bool.or_eq_true, decide_eq_true_eq, if_neg (show ¬ i < m by omega)] at this
 rcases this with h1 | h1
 ·
  omega
 ·
  exact h1

theorem Bz {C : Ctx} {N : Nat} {B : Base} {und : Nat → Prop} {s : AS} {a : Act} {w : World} {o : Oper} {f : FuncId} {args : List AV} {R : AV → HS → Prop} (h : GS C N B und s a w) (hc : dV C s o.op = some (f, args)) (hs : Snd C f args s.toHS R) (hund : ∀ id, und id → id < s.next)
  (hd : ∀ d, o.dst = some d → d < N) (Q : Exit → Act → World → Prop) :
  o.wp C.P a w (fun a' w' => ∃ r hs, R r hs ∧ s.next ≤ hs.next ∧ GS C N B und { hs with tmps := jc s.tmps o.dst r } a' w') Q := by
 refine Oper.wp_mono ?_ (xK h hc (R := fun r hs => R r hs ∧ s.next ≤ hs.next) ?_ hund hd Q)
 ·
  rintro a' w' ⟨r, hs', ⟨hr, hn⟩, hg⟩
  exact ⟨r, hs', hr, hn, hg⟩
 ·
  refine ⟨hs.1, fun ρ V w args' a1 a2 a3 a4 => (hs.2 ρ V w args' a1 a2 a3 a4).mono ?_⟩
  rintro e w' ⟨y, r, s', ρ', V', b1, b2, b3, b4, b5⟩
  exact ⟨y, r, s', ρ', V', b1, ⟨b2, b5.next⟩, b3, b4, b5⟩

theorem CD {C : Ctx} (hC : COk C) {N : Nat} {B : Base} {ops : Array Oper} {Q : Exit → Act → World → Prop} {base : Nat} (hB : B.s.next ≤ base) (hdst : ∀ o ∈ ops, ∀ d, o.dst = some d → d < N)
  (hedges : kL ops.toList = true) (htmps : tu ops.toList = true) {K : AS → Prop} (hQ : ∀ s a w, K s → GS C N B (fun _ => False) s a w → Q .normal a w) :
  ∀ (n lo : Nat), lo ≤ ops.size → ops.size - lo ≤ n → (∀ i j, i < lo → lo ≤ j → j < ops.size → eh ops.toList i j = true) → ∀ (s : AS), base + ops.size ≤ s.next → dr C ops.toList base lo (ops.toList.drop lo) s [] K →
   ∀ (fuel : Nat) (listed : Array Bool) (a : Act) (w : World), ops.size - lo ≤ fuel → Jd ops.size lo listed → GS C N B (fun id => base + lo ≤ id ∧ id < base + ops.size) s a w → wpAny C.P .any ops Q fuel listed a w := by
 intro n
 induction n with
 | zero =>
  intro lo hle hn0 hlow s hnx h fuel listed a w hf hup hgs
  have e : lo = ops.size := by omega
  have hd : ops.toList.drop lo = [] := List.drop_of_length_le (by simp; omega)
  rw [hd] at h
  have hfin : Q .normal a w := hQ s a w h.2 (by
   obtain ⟨ρ, V, k1, k2, k3, k4, k5, k6, k7⟩ := hgs
   exact ⟨ρ, V, k1, k2, k3, k4, k5, k6, fun id hid => hid.elim⟩)
  have hnone : ∀ i, i ∉ Region.ready .any ops listed := by
   intro i hi
   obtain ⟨hi0, o, ho, _⟩ := mem_ready.1 hi
   have hin : i < ops.size := (Array.getElem?_eq_some_iff.1 ho).1
   have hlt : i < listed.size := by rw [hup.1]; exact hin
   have := hup.2 i
   rw [decide_eq_true (by omega)] at this
   simp [hlt] at hi0 this
   rw [hi0] at this; cases this
  have hnil : Region.ready .any ops listed = [] := List.eq_nil_iff_forall_not_mem.2 hnone
  cases fuel with
  | zero => exact ⟨hnil, hfin⟩
  | succ fuel => exact ⟨fun _ => hfin, fun i hi => absurd hi (hnone i)⟩
 | succ n ih =>
  intro lo hle hn0 hlow s hnx h fuel listed a w hf hup hgs
  rcases (Nat.lt_or_ge lo ops.size).symm with hge | hlt
  ·
   exact ih lo hle (by omega) hlow s hnx h fuel listed a w hf hup hgs
  obtain ⟨m, es, acc, ss, sn, hm, hel, hsl, hpr, hend, _, hs0, hch⟩ := vH _ _ _ _ h
  have hm' : lo + m ≤ ops.size := by simp at hm; omega
  rcases hend with ⟨he, hK⟩ | ⟨o, f, args, R, ho, hgd, hc, hbar, hsnd, hrest⟩
  ·
   have hm2 : lo + m = ops.size := by simp at he; omega
   refine xN hC hB hdst hedges htmps hm' (fun i j _ _ h1 h2 => by omega) hel hsl hpr hs0 hch hnx ?_ fuel listed a w hf hup hgs
   intro fuel' listed' a' w' _ hup' _ hgs'
   have hfin : Q .normal a' w' := hQ sn a' w' hK (by
    obtain ⟨ρ, V, k1, k2, k3, k4, k5, k6, k7⟩ := hgs'
    exact ⟨ρ, V, k1, k2, k3, k4, k5, k6, fun id hid => hid.elim⟩)
   have hnone : ∀ i, i ∉ Region.ready .any ops listed' := by
    intro i hi
    obtain ⟨hi0, o, ho, _⟩ := mem_ready.1 hi
    have hin : i < ops.size := (Array.getElem?_eq_some_iff.1 ho).1
    have hlt : i < listed'.size := by rw [hup'.1]; exact hin
    have := hup'.2 i
    rw [decide_eq_true (by omega)] at this
    simp [hlt] at hi0 this
    rw [hi0] at this; cases this
   have hnil : Region.ready .any ops listed' = [] := List.eq_nil_iff_forall_not_mem.2 hnone
   cases fuel' with
   | zero => exact ⟨hnil, hfin⟩
   | succ fuel' => exact ⟨fun _ => hfin, fun i hi => absurd hi (hnone i)⟩
  ·
   rw [List.getElem?_drop] at ho
   have hom : ops[lo + m]? = some o := by rw [← Array.getElem?_toList]; exact ho
   have hml : lo + m < ops.size := (Array.getElem?_eq_some_iff.1 hom).1
   have hoM : o ∈ ops := Array.mem_of_getElem? hom
   refine xN hC hB hdst hedges htmps hm' (fun i j h1 h2 h3 h4 => ?_) hel hsl hpr hs0 hch hnx ?_ fuel listed a w hf hup hgs
   ·
    rcases Nat.eq_or_lt_of_le h3 with h5 | h5
    ·
     rw [← h5]; exact ru hbar h2 (by simpa using hml)
    ·
     -- through the barrier
     have g1 := ru hbar h2 (by simpa using hml)
     have g2 := nh hbar h5 (by simpa using h4)
     exact qw hedges g1 g2 (by simpa using h4)
   intro fuel' listed' a' w' hf' hup' hnx' hgs'
   obtain ⟨fuel', rfl⟩ : ∃ q, fuel' = q + 1 := ⟨fuel' - 1, by omega⟩
   have hlisted : ∀ i, i ∈ Region.ready .any ops listed' → i = lo + m := by
    intro i hi
    obtain ⟨hi0, o', ho', hedge⟩ := mem_ready.1 hi
    have hin : i < ops.size := (Array.getElem?_eq_some_iff.1 ho').1
    have hlt : i < listed'.size := by rw [hup'.1]; exact hin
    have hDi : listed'.getD i false = false := by simp [hlt] at hi0 ⊢; exact hi0
    rw [hup'.2] at hDi
    have h1 := of_decide_eq_false hDi
    rcases Nat.lt_or_ge (lo + m) i with h2 | h2
    ·
     exfalso
     have hbb := nh hbar h2 (by simpa using hin)
     have := kI hedges (D := fun j => listed'.getD j false || j == i) ?_ i (lo + m) hbb (by simp) (by simpa using hin)
     ·
      simp only [Bool.or_eq_true, beq_iff_eq] at this
      rcases this with h5 | h5
      ·
       rw [hup'.2] at h5; have := of_decide_eq_true h5; omega
      ·
       omega
     ·
      intro j o2 ho2 hj e he hb
      simp only [Bool.or_eq_true, beq_iff_eq] at hj ⊢
      rcases hj with hj | hj
      ·
       rw [hup'.2] at hj ⊢
       have := fK hedges ho2 he hb
       have := of_decide_eq_true hj
       exact .inl (decide_eq_true (by omega))
      ·
       subst hj
       rw [Array.getElem?_toList, ho'] at ho2
       cases ho2
       exact .inl (hedge e he hb)
    ·
     omega
   have hmr : lo + m ∈ Region.ready .any ops listed' := by
    rw [mem_ready]
    have hlt : lo + m < listed'.size := by rw [hup'.1]; exact hml
    refine ⟨?_, o, hom, fun e he hb => ?_⟩
    ·
     have := hup'.2 (lo + m)
     rw [decide_eq_false (by omega)] at this
     simp [hlt] at this ⊢; exact this
    ·
     have := fK hedges ho he hb
     rw [hup'.2, decide_eq_true (by omega)]
   refine ⟨fun hr => by (rw [hr] at hmr; cases hmr), fun i hi => ?_⟩
   have e := hlisted i hi
   subst e
   unfold wpOp
   simp only [hom]
   have hw : Region.wanted o (yielded ops a'.tmps) = true := by
    rcases hgd with hgd | ⟨g, want, d, hgd, hd, hv⟩
    ·
     simp [Region.wanted, hgd]
    ·
     obtain ⟨ρ, V, k1, k2, k3, k4, k5, k6, k7⟩ := hgs'
     have hdN : d < N := by
      obtain ⟨og, hog, hdg⟩ := Option.bind_eq_some_iff.1 hd
      exact hdst og (by rw [← Array.mem_toList_iff]; exact List.mem_of_getElem? hog) d hdg
     exact (mC hgd hd k1 hv k5 hdN).1 rfl
   rw [if_pos hw]
   refine .inl (Oper.wp_mono ?_ (Bz hgs' hc hsnd (fun id hid => by omega) (hdst o hoM) Q))
   rintro a2 w2 ⟨r, hs, hr, hge, hg2⟩
   have hnx2 : base + ops.size ≤ hs.next := Nat.le_trans hnx' hge
   have hdr := hrest r hs hr
   rw [List.drop_drop] at hdr
   refine ih (lo + m + 1) (by omega) (by omega) ?_ _ hnx2 (by rw [show lo + m + 1 = lo + (m + 1) by omega]; rw [show lo + m + 1 = lo + (m + 1) by omega] at hdr; exact hdr) fuel' _ a2 w2 (by omega) ?_ ?_
   ·
    intro i j h1 h2 h3
    rcases Nat.lt_or_ge i (lo + m) with h4 | h4
    ·
     exact qw hedges (ru hbar h4 (by simpa using hml)) (nh hbar (by omega) (by simpa using h3)) (by simpa using h3)
    ·
     have : i = lo + m := by omega
     subst this
     exact nh hbar (by omega) (by simpa using h3)
   ·
    refine ⟨by simp [hup'.1], fun j => ?_⟩
    by_cases hj : j = lo + m
    ·
     subst hj
     have hlt : lo + m < listed'.size := by rw [hup'.1]; exact hml
     rw [decide_eq_true (by omega)]
     simp [hlt]
    ·
     rw [getD_set_ne false (Ne.symm hj), hup'.2]
     exact decide_eq_decide.2 (by omega)
   ·
    obtain ⟨ρ, V, k1, k2, k3, k4, k5, k6, k7⟩ := hg2
    exact ⟨ρ, V, k1, k2, k3, k4, k5, k6, fun id hid => k7 id ⟨by omega, by omega⟩⟩

theorem pr {C : Ctx} (hC : COk C) {N : Nat} {B : Base} {ops : Array Oper} {Q : Exit → Act → World → Prop} {base : Nat} (hB : B.s.next ≤ base) (hdst : ∀ o ∈ ops, ∀ d, o.dst = some d → d < N)
  (hedges : kL ops.toList = true) (htmps : tu ops.toList = true) {K : AS → Prop} (hQ : ∀ s a w, K s → GS C N B (fun _ => False) s a w → Q .normal a w)
  {s : AS} {a : Act} {w : World} (hn : base + ops.size ≤ s.next) (hg : GS C N B (fun id => base ≤ id ∧ id < base + ops.size) s a w) (h : dr C ops.toList base 0 ops.toList s [] K) :
  wpAny C.P .any ops Q ops.size (Array.replicate ops.size false) a w := by
 refine CD hC hB hdst hedges htmps hQ ops.size 0 (Nat.zero_le _) (by omega) (fun i j h => by omega) s hn (by rw [List.drop_zero]; exact h) ops.size _ a w (by omega) ⟨by simp, fun j => ?_⟩ (by simpa using hg)
 rw [decide_eq_false (by omega)]
 by_cases hj' : j < ops.size <;> simp [hj']

end Go.AX

/-! (AxR) -/

namespace Go.AX

inductive AExit where
 | normal
 | exit (id : Nat)
 | ret
 deriving DecidableEq

def Wk (C : Ctx) (s t : AS) : Prop := ∀ (N : Nat) (B : Base) (a : Act) (w : World), GS C N B (fun _ => False) s a w → GS C N B (fun _ => False) t a w

theorem Wk.refl (C : Ctx) (s : AS) : Wk C s s := fun _ _ _ _ h => h
theorem Wk.trans {C : Ctx} {s t u : AS} (h : Wk C s t) (h' : Wk C t u) : Wk C s u := fun N B a w hg => h' N B a w (h N B a w hg)

def awp (C : Ctx) : Code → (AExit → AS → Prop) → AS → Prop
 | .skip, Q, s => Q .normal s
 | .label _, Q, s => Q .normal s
 | .region _ ops draw, Q, s => match draw with
  | false => kr C ops.toList s.next 0 ops.toList { s with next := s.next + ops.size } (Q .normal)
  | true => dr C ops.toList s.next 0 ops.toList { s with next := s.next + ops.size } [] (Q .normal)
 | .seq x y, Q, s => awp C x (fun e s' => match e with
  | .normal => ∃ t, Wk C s' t ∧ awp C y Q t
  | e => Q e s') s
 | .cond c x y, Q, s => match ev C s c with
  | .v (.bool b) => (b = true → awp C x Q s) ∧ (b = false → awp C y Q s)
  | _ => False
 | .block id c, Q, s => awp C c (fun e s' => match e with
  | .exit j => if j = id then Q .normal s' else Q (.exit j) s'
  | e => Q e s') s
 | .loop c, Q, s => ∃ (I : AS → Prop) (μ : AS → Nat), (∃ s0, Wk C s s0 ∧ I s0) ∧ ∀ t, I t → awp C c (fun e s' => match e with
  | .normal => ∃ t', Wk C s' t' ∧ I t' ∧ μ t' < μ t
  | e => Q e s') t
 | .exit id, Q, s => Q (.exit id) s
 | .ret, Q, s => Q .ret s
 | _, _, _ => False

def gX (N : Nat) : Code → Bool
 | .region _ ops draw => (ops.all fun o => match o.dst with | some d => decide (d < N) | none => true) && (!draw || (kL ops.toList && tu ops.toList))
 | .seq a b => gX N a && gX N b
 | .cond _ a b => gX N a && gX N b
 | .block _ c => gX N c
 | .loop c => gX N c
 | .rangeFunc _ ps a b => (ps.all fun d => decide (d < N)) && gX N a && gX N b
 | _ => true

def AQ (C : Ctx) (N : Nat) (B : Base) (Q : AExit → AS → Prop) : Exit → Act → World → Prop
 | .normal, a, w => ∃ s, Q .normal s ∧ GS C N B (fun _ => False) s a w
 | .exit id, a, w => ∃ s, Q (.exit id) s ∧ GS C N B (fun _ => False) s a w
 | .ret, a, w => ∃ s, Q .ret s ∧ GS C N B (fun _ => False) s a w
 | _, _, _ => False

theorem GS.bump {C : Ctx} {N : Nat} {B : Base} {s : AS} {a : Act} {w w' : World} (n : Nat) (h : GS C N B (fun _ => False) s a w) (hw : w'.heap = w.heap) (ho1 : w'.os = w.os) (ho2 : w'.output = w.output) :
  GS C N B (fun id => s.next ≤ id ∧ id < s.next + n) { s with next := s.next + n } a w' ∧ B.s.next ≤ s.next := by
 obtain ⟨ρ, V, h1, h2, h3, h4, h5, h6, _⟩ := h
 refine ⟨⟨ρ, V, h1, ?_, h3, ?_, h5, h6.keep h2 (fun b _ _ => by rw [hw]), fun id hid => h2.fresh id hid.1⟩, h4.next⟩
 ·
  exact ⟨by rw [hw]; exact h2.view, fun id hid => h2.fresh id (Nat.le_trans (Nat.le_add_right _ _) hid), by rw [hw]; exact h2.live, h2.froz, h2.inj⟩
 ·
  exact ⟨h4.rho, h4.old, Nat.le_trans h4.next (Nat.le_add_right _ _), h4.view, by rw [hw]; exact h4.size, by rw [hw]; exact h4.keep, h4.own, h4.vnew, h4.mem.trans (Mem.of_heap ho1 ho2 hw)⟩

theorem mA {N : Nat} {ops : Array Oper} (h : (ops.all fun o => match o.dst with | some d => decide (d < N) | none => true) = true) : ∀ o ∈ ops, ∀ d, o.dst = some d → d < N := by
 intro o ho d hd
 have := Array.all_eq_true_iff_forall_mem.1 h o ho
 rw [hd] at this
 simpa using this

theorem pV {C : Ctx} (hC : COk C) {N : Nat} {B : Base} : ∀ (c : Code) (Q : AExit → AS → Prop) (s : AS) (a : Act) (w : World), gX N c = true → awp C c Q s → GS C N B (fun _ => False) s a w → c.wp C.P (AQ C N B Q) a w := by
 intro c
 induction c with
 | skip => intro Q s a w _ h hg; exact wp_skip ⟨s, h, hg⟩
 | label l => intro Q s a w _ h hg; exact wp_label ⟨s, h, hg⟩
 | exit id => intro Q s a w _ h hg; exact wp_exit ⟨s, h, hg⟩
 | ret => intro Q s a w _ h hg; exact wp_ret ⟨s, h, hg⟩
 | goto l => intro Q s a w _ h hg; exact h.elim
 | refuse why => intro Q s a w _ h hg; exact h.elim
 | scope c ih => intro Q s a w _ h hg; exact h.elim
 | rangeFunc f ps x y ih1 ih2 => intro Q s a w _ h hg; exact h.elim
 | region id ops draw =>
  intro Q s a w hst h hg
  simp only [gX, Bool.and_eq_true] at hst
  have hd := mA hst.1
  cases draw with
  | false =>
   obtain ⟨hb, hB⟩ := hg.bump (w' := w) ops.size rfl rfl rfl
   have := vQ hC (Q := AQ C N B Q) hB hd (K := Q .normal) (fun s' a' w' hk hg' => ⟨s', hk, hg'⟩) ops.toList 0 _ a w rfl (Nat.le_refl _) (by simpa using hb) h
   exact wp_region (by simpa using this)
  | true =>
   have hst2 := hst.2
   simp only [Bool.not_true, Bool.false_or, Bool.and_eq_true] at hst2
   obtain ⟨hb, hB⟩ := hg.bump (w' := { w with drawn := w.drawn + 1 }) ops.size rfl rfl rfl
   exact wp_region_any hC.mixed (pr hC (Q := AQ C N B Q) hB hd hst2.1 hst2.2 (K := Q .normal) (fun s' a' w' hk hg' => ⟨s', hk, hg'⟩) (Nat.le_refl _) hb h)
 | seq x y ih1 ih2 =>
  intro Q s a w hst h hg
  simp only [gX, Bool.and_eq_true] at hst
  refine wp_seq (wp_mono (ih1 _ s a w hst.1 h hg) ?_)
  intro e a' w' hq
  cases e with
  | normal =>
   obtain ⟨s', ⟨t, hwk, hk⟩, hg'⟩ := hq
   exact ih2 Q t a' w' hst.2 hk (hwk _ _ _ _ hg')
  | exit id => exact hq
  | ret => exact hq
  | goto l => exact hq
  | panic ch => exact hq
  | outgrown => exact hq
 | cond c x y ih1 ih2 =>
  intro Q s a w hst h hg
  simp only [gX, Bool.and_eq_true] at hst
  have h' : ∃ b, ev C s c = .v (.bool b) ∧ (b = true → awp C x Q s) ∧ (b = false → awp C y Q s) := by
   simp only [awp] at h
   split at h
   ·
    rename_i b hb; exact ⟨b, hb, h⟩
   ·
    exact h.elim
  obtain ⟨b, hb, h1, h2⟩ := h'
  obtain ⟨ρ, V, k1, k2, k3, k4, k5, k6, k7⟩ := hg
  have hev := jD k1 k3 c
  rw [hb] at hev
  refine wp_cond_split (t := b) (Rel.v_inv hev) (fun hbt => ih1 Q s a w hst.1 (h1 hbt) ⟨ρ, V, k1, k2, k3, k4, k5, k6, k7⟩) (fun hbf => ih2 Q s a w hst.2 (h2 hbf) ⟨ρ, V, k1, k2, k3, k4, k5, k6, k7⟩)
 | block id c ih =>
  intro Q s a w hst h hg
  refine wp_block (wp_mono (ih _ s a w hst h hg) ?_)
  intro e a' w' hq
  cases e with
  | normal => exact hq
  | exit j =>
   obtain ⟨s', hk, hg'⟩ := hq
   simp only [Exit.inBlock]
   by_cases hj : j = id
   ·
    simp only [hj, if_true] at hk ⊢
    exact ⟨s', hk, hg'⟩
   ·
    simp only [hj, if_false] at hk ⊢
    exact ⟨s', hk, hg'⟩
  | ret => exact hq
  | goto l => exact hq
  | panic ch => exact hq
  | outgrown => exact hq
 | loop c ih =>
  intro Q s a w hst h hg
  obtain ⟨I, μ, ⟨s0, hwk0, h0⟩, hround⟩ := h
  refine wp_loop_ghost (fun n a w => ∃ t, μ t = n ∧ I t ∧ GS C N B (fun _ => False) t a w) (μ s0) ⟨s0, rfl, h0, hwk0 _ _ _ _ hg⟩ ?_
  rintro n a w ⟨t, rfl, hI, hg⟩
  refine wp_mono (ih _ t a w hst (hround t hI) hg) ?_
  intro e a' w' hq
  cases e with
  | normal =>
   obtain ⟨s', ⟨t', hwk, hk, hm⟩, hg'⟩ := hq
   exact ⟨μ t', hm, t', rfl, hk, hwk _ _ _ _ hg'⟩
  | exit id => exact hq
  | ret => exact hq
  | goto l => exact hq
  | panic ch => exact hq
  | outgrown => exact hq

def se (C : Ctx) (s : AS) : ResultVar → Option AV
 | .tmp t => some (s.tmps t)
 | .cell a t => match lR s (s.tmps a) with
  | some (cells, off) => lq C.P t cells off
  | none => none

def lr (C : Ctx) (s : AS) : List ResultVar → Option (List AV)
 | [] => some []
 | r :: rs => match se C s r, lr C s rs with
  | some x, some xs => some (x :: xs)
  | _, _ => none

def vY : List AV → AV
 | [x] => x
 | xs => .tup xs

def sL (C : Ctx) (s : AS) (rs : List ResultVar) : Option AV := (lr C s rs).map vY

def gc (args : List AV) (s : HS) : AS := { s with tmps := fun t => args.getD t (.v undef) }

def xo (C : Ctx) (fn : Func) (Q : AV → HS → Prop) : AExit → AS → Prop
 | .normal, s => ∃ r, sL C s fn.results.toList = some r ∧ Q r s.toHS
 | .ret, s => ∃ r, sL C s fn.results.toList = some r ∧ Q r s.toHS
 | .exit _, _ => False

theorem pc {C : Ctx} {ρ : Rho} {V : bw} {s : AS} {tmps : Array Value} {w : World} {fn : Func} {r : AV} (hT : ∀ t, Rel ρ V (s.tmps t) (tmps.getD t undef)) (hI : Inv ρ V s.toHS w) (h : sL C s fn.results.toList = some r) :
  ∃ y, (results fn tmps).run C.P w = .ok y w ∧ Rel ρ V r y := by
 have one : ∀ rv x, se C s rv = some x → ∃ y, ((match rv with | .tmp t => pure (tmps.getD t undef) | .cell a t => do loadVar t (← asAddr (tmps.getD a undef))) : Sem Value).run C.P w = .ok y w ∧ Rel ρ V x y := by
  intro rv x hx
  cases rv with
  | tmp t => simp only [se, Option.some.injEq] at hx; subst hx; exact ⟨_, rfl, hT t⟩
  | cell a t =>
   simp only [se] at hx
   cases hc : lR s (s.tmps a) with
   | none => simp [hc] at hx
   | some p =>
    obtain ⟨cells, off⟩ := p
    simp only [hc] at hx
    obtain ⟨b, base, c, T, fz, hy, hh, hrc⟩ := tP hI (hT a) hc
    obtain ⟨y, h1, h2⟩ := xM (P := C.P) hh hrc hx
    refine ⟨y, ?_, h2⟩
    simp only [Sem.run_bind]
    rw [hy]
    simp [asAddr, h1]
 have all : ∀ (rs : List ResultVar) (xs : List AV), lr C s rs = some xs → ∃ ys : List Value, (rs.mapM (fun rv => (match rv with | .tmp t => pure (tmps.getD t undef) | .cell a t => do loadVar t (← asAddr (tmps.getD a undef)) : Sem Value))).run C.P w = .ok ys w ∧
   ys.length = xs.length ∧ ∀ (i : Nat) x y, xs[i]? = some x → ys[i]? = some y → Rel ρ V x y := by
  intro rs
  induction rs with
  | nil => intro xs h; simp only [lr, Option.some.injEq] at h; subst h; exact ⟨[], rfl, rfl, fun i x y hx => by simp at hx⟩
  | cons rv rs ih =>
   intro xs h
   simp only [lr] at h
   cases hx : se C s rv with
   | none => simp [hx] at h
   | some x =>
    cases hxs : lr C s rs with
    | none => simp [hx, hxs] at h
    | some xs' =>
     simp only [hx, hxs, Option.some.injEq] at h
     subst h
     obtain ⟨y, h1, h2⟩ := one rv x hx
     obtain ⟨ys, h3, h4, h5⟩ := ih xs' hxs
     refine ⟨y :: ys, ?_, by simp [h4], fun i a b ha hb => ?_⟩
     ·
      rw [List.mapM_cons, Sem.run_bind, h1]
      simp only [Result.andThen_ok, Sem.run_bind, h3, Sem.run_pure]
     ·
      cases i with
      | zero => simp at ha hb; subst ha; subst hb; exact h2
      | succ i => simp at ha hb; exact h5 i a b ha hb
 unfold sL at h
 cases hall : lr C s fn.results.toList with
 | none => simp [hall] at h
 | some xs =>
  obtain ⟨ys, h1, h2, h3⟩ := all _ xs hall
  have hrun : (fn.results.mapM (fun rv => (match rv with | .tmp t => pure (tmps.getD t undef) | .cell a t => do loadVar t (← asAddr (tmps.getD a undef)) : Sem Value))).run C.P w = .ok ys.toArray w := by
   rw [← Array.toArray_toList (xs := fn.results), List.mapM_toArray, Sem.run_map, h1]; rfl
  have hunf : results fn tmps = (do let vs ← fn.results.mapM (fun rv => (match rv with | .tmp t => pure (tmps.getD t undef) | .cell a t => do loadVar t (← asAddr (tmps.getD a undef)) : Sem Value)); pure (if h : vs.size = 1 then vs[0] else .tuple vs)) := by
   unfold results
   congr
  have hres : (results fn tmps).run C.P w = .ok (if h : ys.toArray.size = 1 then ys.toArray[0] else .tuple ys.toArray) w := by
   rw [hunf, Sem.run_bind, hrun]; rfl
  rw [hall] at h
  simp only [Option.map_some, Option.some.injEq] at h
  subst h
  rw [hres]
  match xs, ys, h2, h3 with
  | [x], [y], _, h3 =>
   exact ⟨y, rfl, h3 0 x y rfl rfl⟩
  | [], [], _, h3 =>
   exact ⟨_, rfl, .tup _ _ rfl fun i x y hx => by simp at hx⟩
  | x1 :: x2 :: xs, y1 :: y2 :: ys, h2, h3 =>
   refine ⟨.tuple (y1 :: y2 :: ys).toArray, ?_, .tup _ _ (by simp at h2 ⊢; omega) fun i x y hx hy => h3 i x y hx (by simpa using hy)⟩
   rw [dif_neg]
   simp

theorem yE {w : World} {r : Nat} {o o' : Obj} (h : w.heap[r]? = some o) (ho : o.isCells = false) (ho' : o'.isCells = false) (a : Addr) : (w.putObj r o').frozen? a = w.frozen? a := by
 have hlt := (Array.getElem?_eq_some_iff.1 h).1
 unfold World.frozen?
 by_cases hr : a.block = r
 ·
  rw [hr, World.putObj_heap_same hlt, h]
  cases o <;> cases o' <;> first | rfl | (simp [Obj.isCells] at ho ho')
 ·
  rw [World.putObj_heap_other hr]

theorem Inv.putNC {ρ : Rho} {V : bw} {s : HS} {w : World} (h : Inv ρ V s w) {r : Nat} {o : Obj} (hr : w.heap[r]? = some o) (ho : o.isCells = false) (o' : Obj) : Inv ρ V s (w.putObj r o') where
 view b c hv := by
  obtain ⟨T, fz, h1⟩ := h.view b c hv
  refine ⟨T, fz, ?_⟩
  rw [World.putObj_heap_other]
  ·
   exact h1
  ·
   rintro rfl; rw [h1] at hr; cases hr; simp [Obj.isCells] at ho
 fresh := h.fresh
 live id cells loc h1 h2 := by
  obtain ⟨c, T, h3, h4⟩ := h.live id cells loc h1 h2
  refine ⟨c, T, ?_, h4⟩
  rw [World.putObj_heap_other]
  ·
   exact h3
  ·
   rintro rfl; rw [h3] at hr; cases hr; simp [Obj.isCells] at ho
 froz := h.froz
 inj := h.inj

theorem Grew.putNC {B : Base} {ρ : Rho} {V : bw} {s : HS} {w : World} (h : Grew B.ρ B.V B.s B.w ρ V s w) {r : Nat} {o o' : Obj} (hB : B.w.heap.size ≤ r) (hr : w.heap[r]? = some o) (ho : o.isCells = false) (ho' : o'.isCells = false) :
  Grew B.ρ B.V B.s B.w ρ V s (w.putObj r o') where
 rho := h.rho
 old := h.old
 next := h.next
 view := h.view
 size := by rw [World.putObj_size]; exact h.size
 keep b hb hn := by rw [World.putObj_heap_other (by omega)]; exact h.keep b hb hn
 own := h.own
 vnew := h.vnew
 mem := h.mem.trans ⟨rfl, rfl, by simp [World.putObj], fun a _ => yE hr ho ho' a⟩

theorem xW {C : Ctx} {N : Nat} {B : Base} {s : AS} {fn : Func} {R : Ending → World → Prop} (hmk : ∃ m, B.mks = some m ∧ B.w.heap.size ≤ m) (hfin : ∀ (tmps : Array Value) (w : World) ds, GS C N B (fun _ => False) s ⟨tmps, ds⟩ w → ∃ v, (results fn tmps).run C.P w = .ok v w ∧ R (.returned v) w) :
  ∀ (rs : List Nat) (tmps : Array Value) (w : World), GS C N B (fun _ => False) s ⟨tmps, []⟩ w → rs.Nodup → (∀ r ∈ rs, (∀ m, B.mks = some m → m ≤ r) ∧ w.heap[r]? = some (.deferred (some []))) →
   LeavesInM Fence.wide 0 C.P fn tmps R (rs.map A9) .returning w
 | [], tmps, w, hg, _, _ => hfin tmps w [] hg
 | r :: rs, tmps, w, hg, hnd, hrs => by
  obtain ⟨hB', hr⟩ := hrs r (List.mem_cons_self ..)
  have hB : B.w.heap.size ≤ r := by obtain ⟨m, h1, h2⟩ := hmk; exact Nat.le_trans h2 (hB' m h1)
  refine ⟨by simp, .inl ⟨r, _, rfl, run_takeDeferred hr, xW hmk hfin rs tmps _ ?_ (List.nodup_cons.1 hnd).2 fun r' hr' => ⟨(hrs r' (List.mem_cons_of_mem _ hr')).1, ?_⟩⟩⟩
  ·
   obtain ⟨ρ, V, h1, h2, h3, h4, h5, h6, h7⟩ := hg
   exact ⟨ρ, V, h1, h2.putNC hr rfl _, h3, h4.putNC hB hr rfl rfl, h5, iy.nil _ _, h7⟩
  ·
   have hne : r' ≠ r := fun h => (List.nodup_cons.1 hnd).1 (h ▸ hr')
   rw [World.putObj_heap_other hne]
   exact (hrs r' (List.mem_cons_of_mem _ hr')).2

theorem mT {P : Program} {f : FuncId} {fn : Func} {c : Code} {args : Array Value} {w : World} {R : Ending → World → Prop} (hf : P.funcs[f]? = some fn) (hb : fn.body = some c)
  (h : c.wp P (bodyPostM Fence.wide 0 P fn R) { tmps := args ++ Array.replicate (fn.ntmps - args.size) undef, defers := [] } w) : Calls P f args w R :=
 callsIn_wide.1 (callsIn_of_wp_marks hf hb trivial (wpIn_wide.2 h) rfl)

theorem tw {C : Ctx} {N : Nat} {B : Base} {s : AS} {a : Act} {w : World} {fn : Func} {R : Ending → World → Prop} (hg : GS C N B (fun _ => False) s a w) (hmk : ∃ m, B.mks = some m ∧ B.w.heap.size ≤ m)
  (hfin : ∀ (tmps : Array Value) (w : World) ds, GS C N B (fun _ => False) s ⟨tmps, ds⟩ w → ∃ v, (results fn tmps).run C.P w = .ok v w ∧ R (.returned v) w) : LeavesInM Fence.wide 0 C.P fn a.tmps R a.defers .returning w := by
 obtain ⟨ρ, V, h1, h2, h3, h4, h5, ⟨rs, g1, g2, _, g3⟩, h7⟩ := hg
 rw [g2]
 exact xW hmk hfin rs a.tmps w ⟨ρ, V, h1, h2, h3, h4, h5, iy.nil _ _, h7⟩ g1 g3

theorem vK {C : Ctx} (hC : COk C) {f : FuncId} {fn : Func} {c : Code} {args : List AV} {s : HS} {Q : AV → HS → Prop} (hf : C.P.funcs[f]? = some fn) (hb : fn.body = some c) (hn : (fn.name == "runtime.NumGoroutine") = false)
  (hst : gX fn.ntmps c = true) (hargs : args.length ≤ fn.ntmps) (h : awp C c (xo C fn Q) (gc args s)) : Snd C f args s Q := by
 refine ⟨trivial, fun ρ V w args' h1 h2 h3 h4 => .inl ⟨⟨fn, hf, by rw [hb]; rfl, hn⟩, ?_⟩⟩
 refine mT hf hb ?_
 let B : Base := ⟨ρ, V, s, w, some w.heap.size⟩
 have hg : GS C fn.ntmps B (fun _ => False) (gc args s) { tmps := args' ++ Array.replicate (fn.ntmps - args'.size) undef, defers := [] } w := by
  refine ⟨ρ, V, fun t => ?_, h3, h4, Grew.refl _ _ _ _, by simp; omega, iy.nil _ _, fun id hid => hid.elim⟩
  simp only [gc, List.getD_eq_getElem?_getD]
  rw [Array.getD_eq_getD_getElem?, Array.getElem?_append]
  by_cases ht : t < args'.size
  ·
   rw [if_pos ht]
   have ht' : t < args.length := by omega
   have e1 : args[t]? = some args[t] := by simp [ht']
   have e2 : args'[t]? = some args'[t] := by simp [ht]
   rw [e1, e2]
   exact h2 t _ _ e1 e2
  ·
   rw [if_neg ht, List.getElem?_eq_none (by omega)]
   simp only [Option.getD_none]
   have : (Array.replicate (fn.ntmps - args'.size) undef)[t - args'.size]?.getD undef = undef := by
    by_cases h5 : t - args'.size < fn.ntmps - args'.size <;> simp [h5]
   rw [this]; exact .v _
 refine wp_mono (pV hC c _ _ _ _ hst h hg) ?_
 intro e a' w' hq
 have fin : ∀ s', (∃ r, sL C s' fn.results.toList = some r ∧ Q r s'.toHS) → GS C fn.ntmps B (fun _ => False) s' a' w' → LeavesInM Fence.wide 0 C.P fn a'.tmps (fun e w' =>
   ∃ y r s' ρ' V', e = Ending.returned y ∧ Q r s' ∧ Rel ρ' V' r y ∧ Inv ρ' V' s' w' ∧ Grew ρ V s w ρ' V' s' w') a'.defers .returning w' := by
  rintro s' ⟨r, hr, hQ⟩ hgs
  refine tw hgs ⟨_, rfl, Nat.le_refl _⟩ ?_
  rintro tmps w'' ds ⟨ρ', V', k1, k2, k3, k4, k5, k6, k7⟩
  obtain ⟨y, hy1, hy2⟩ := pc k1 k2 hr
  exact ⟨y, hy1, y, r, s'.toHS, ρ', V', rfl, hQ, hy2, k2, k4⟩
 cases e with
 | normal =>
  obtain ⟨s', hk, hg'⟩ := hq
  exact fin s' hk hg'
 | ret =>
  obtain ⟨s', hk, hg'⟩ := hq
  exact fin s' hk hg'
 | exit id =>
  obtain ⟨s', hk, hg'⟩ := hq
  exact hk.elim
 | goto l => exact hq.elim
 | panic ch => exact hq.elim
 | outgrown => exact hq.elim

end Go.AX

/-! (AxS) -/

namespace Go.AX

def fz (objs : Nat → Ob) : Nat → AV → AV
 | 0, x => x
 | n + 1, .ref id off len sz => match objs id with
  | .live cells => bif (Nat.ble (off + len * sz) cells.length) then .imm (((cells.drop off).take (len * sz)).map (fz objs n)) len else .ref id off len sz
  | .froz cells => bif (Nat.ble (off + len * sz) cells.length) then .imm (((cells.drop off).take (len * sz)).map (fz objs n)) len else .ref id off len sz
  | .dead => .ref id off len sz
 | n + 1, .ptr id off => match objs id with
  | .live cells => .iptr (cells.map (fz objs n)) off
  | .froz cells => .iptr (cells.map (fz objs n)) off
  | .dead => .ptr id off
 | n + 1, .agg cs => .agg (cs.map (fz objs n))
 | n + 1, .tup cs => .tup (cs.map (fz objs n))
 | n + 1, .imm cs len => .imm (cs.map (fz objs n)) len
 | n + 1, .iptr cs off => .iptr (cs.map (fz objs n)) off
 | n + 1, .clo f a b => .clo f (a.map (fz objs n)) (b.map (fz objs n))
 | _ + 1, .v x => bif kS x then .imm [] 0 else .v x
 | _ + 1, .unk => .unk
 | _ + 1, .refc id off len sz cap => .refc id off len sz cap

open Classical in
noncomputable def VV (ρ : Rho) (V : bw) (s : HS) (w : World) : bw := fun b =>
 match V b with
 | some c => some c
 | none => if Own ρ s b then match w.heap[b]? with
   | some (.cells c _ _) => some c
   | _ => none
  else none

theorem eW {ρ : Rho} {V : bw} {s : HS} {w : World} : ∀ b c, V b = some c → VV ρ V s w b = some c := by
 intro b c h; simp [VV, h]

theorem rU {ρ : Rho} {V : bw} {s : HS} {w : World} {b : Nat} {c : Array Value} (h : VV ρ V s w b = some c) :
  V b = some c ∨ (Own ρ s b ∧ ∃ T fz, w.heap[b]? = some (.cells c T fz)) := by
 unfold VV at h
 split at h
 ·
  rename_i c' hc; cases h; exact .inl hc
 ·
  split at h
  ·
   rename_i ho
   split at h
   ·
    rename_i c' T fz hb; cases h; exact .inr ⟨ho, T, fz, hb⟩
   ·
    cases h
  ·
   cases h

theorem A7 {ρ : Rho} {V : bw} {s : HS} {w : World} {b : Nat} {c : Array Value} {T : TypeId} {q : Nat × Nat} (h : V b = none) (ho : Own ρ s b) (hb : w.heap[b]? = some (.cells c T q)) : VV ρ V s w b = some c := by
 simp [VV, h, ho, hb]

theorem G8 {ρ : Rho} {V : bw} {s : HS} {w : World} (hI : Inv ρ V s w) {id : Nat} {cells : List AV} {loc : Loc} (ho : s.objs id = .live cells ∨ s.objs id = .froz cells) (hρ : ρ id = some loc) :
  ∃ c, VV ρ V s w loc.b = some c ∧ RelC ρ V cells c loc.base := by
 rcases ho with h | h
 ·
  obtain ⟨c, T, h1, h2, h3, h4⟩ := hI.live id cells loc h hρ
  exact ⟨c, A7 h4 ⟨id, cells, loc, h, hρ, rfl⟩ h1, h3⟩
 ·
  obtain ⟨c, h1, h2, h3⟩ := hI.froz id cells loc h hρ
  exact ⟨c, eW _ _ h1, h2⟩

theorem r6 {f : AV → AV} {cs : List AV} {R : AV → Value → Prop} {g : Nat → Option Value} (H : ∀ (i : Nat) x y, cs[i]? = some x → g i = some y → R (f x) y) :
  ∀ (i : Nat) x y, (cs.map f)[i]? = some x → g i = some y → R x y := by
 intro i x y hx hy
 rw [List.getElem?_map] at hx
 cases hc : cs[i]? with
 | none => simp [hc] at hx
 | some z => simp [hc] at hx; subst hx; exact H i z y hc hy

theorem na {ρ : Rho} {V : bw} {s : HS} {w : World} (hI : Inv ρ V s w) : ∀ (n : Nat) (x : AV) (y : Value), Rel ρ V x y → Rel ρ (VV ρ V s w) (fz s.objs n x) y
 | 0, x, y, h => h.mono (fun _ _ h => h) eW
 | n + 1, x, y, h => by
  have ih := na hI n
  have hm : ∀ {x y}, Rel ρ V x y → Rel ρ (VV ρ V s w) x y := fun h => h.mono (fun _ _ h => h) eW
  have mp : ∀ {cells : List AV} {c : Array Value} {o : Nat}, RelC ρ V cells c o → RelC ρ (VV ρ V s w) (cells.map (fz s.objs n)) c o := by
   intro cells c o hc
   refine ⟨by simpa using hc.le, r6 (g := fun i => c[o + i]?) fun i x y hx hy => ih x y (hc.rel i x y hx hy), fun i y hi hy => hc.sto i y (by simpa using hi) hy⟩
  have live : ∀ (id off len sz cap : Nat) (loc : Loc) (cells : List AV), ρ id = some loc → len ≤ cap → (s.objs id = .live cells ∨ s.objs id = .froz cells) → Nat.ble (off + len * sz) cells.length = true →
    Rel ρ (VV ρ V s w) (.imm (((cells.drop off).take (len * sz)).map (fz s.objs n)) len) (.slice (some ⟨loc.b, loc.base + off, none⟩) len cap) := by
   intro id off len sz cap loc cells hρ hl ho hb
   obtain ⟨c, h1, h2⟩ := G8 hI ho hρ
   exact Rel.imm_of len cap hl h1 (mp (h2.sub off (len * sz) (by simpa using hb)))
  have livep : ∀ (id off : Nat) (loc : Loc) (cells : List AV), ρ id = some loc → (s.objs id = .live cells ∨ s.objs id = .froz cells) →
    Rel ρ (VV ρ V s w) (.iptr (cells.map (fz s.objs n)) off) (.pointer (some ⟨loc.b, loc.base + off, none⟩)) := by
   intro id off loc cells hρ ho
   obtain ⟨c, h1, h2⟩ := G8 hI ho hρ
   exact Rel.iptr_of off h1 (mp h2)
  cases h with
  | v =>
   simp only [fz]
   cases hn : kS y with
   | true =>
    unfold kS at hn
    split at hn
    ·
     exact .imm0 none 0
    ·
     cases hn
   | false => exact .v y
  | unk y => exact .unk y
  | refc id off len sz cap loc hρ hc hl => exact .refc id off len sz cap loc hρ hc hl
  | agg cs ys h H S => exact .agg _ ys (by simpa using h) (r6 (g := fun i => ys[i]?) fun i x y hx hy => ih x y (H i x y hx hy)) S
  | tup cs ys h H => exact .tup _ ys (by simpa using h) (r6 (g := fun i => ys[i]?) fun i x y hx hy => ih x y (H i x y hx hy))
  | imm cells len b o cap c hV hb H S hlc => exact Rel.imm_of len cap hlc (eW _ _ hV) (mp ⟨hb, H, S⟩)
  | imm0 a cap => exact .imm0 a cap
  | iptr cells off b o c hV hb H S => exact Rel.iptr_of off (eW _ _ hV) (mp ⟨hb, H, S⟩)
  | ref id off len sz cap loc hρ hc hl =>
   have keep : Rel ρ (VV ρ V s w) (.ref id off len sz) (.slice (some ⟨loc.b, loc.base + off, none⟩) len cap) := .ref id off len sz cap loc hρ hc hl
   cases ho : s.objs id with
   | dead => simp only [fz, ho]; exact keep
   | live cells =>
    simp only [fz, ho]
    cases hb : Nat.ble (off + len * sz) cells.length with
    | true => exact live id off len sz cap loc cells hρ hl (.inl ho) hb
    | false => exact keep
   | froz cells =>
    simp only [fz, ho]
    cases hb : Nat.ble (off + len * sz) cells.length with
    | true => exact live id off len sz cap loc cells hρ hl (.inr ho) hb
    | false => exact keep
  | refE id off sz a =>
   have keep : Rel ρ (VV ρ V s w) (.ref id off 0 sz) (.slice a 0 0) := .refE id off sz a
   cases ho : s.objs id with
   | dead => simp only [fz, ho]; exact keep
   | live cells =>
    simp only [fz, ho]
    cases hb : Nat.ble (off + 0 * sz) cells.length with
    | true => simp; exact .imm0 a 0
    | false => exact keep
   | froz cells =>
    simp only [fz, ho]
    cases hb : Nat.ble (off + 0 * sz) cells.length with
    | true => simp; exact .imm0 a 0
    | false => exact keep
  | ptr id off loc hρ =>
   cases ho : s.objs id with
   | dead => simp only [fz, ho]; exact .ptr id off loc hρ
   | live cells => simp only [fz, ho]; exact livep id off loc cells hρ (.inl ho)
   | froz cells => simp only [fz, ho]; exact livep id off loc cells hρ (.inr ho)
  | clo f first caps xs ys h1 h2 H1 H2 =>
   exact .clo f _ _ xs ys (by simpa using h1) (by simpa using h2) (r6 (g := fun i => xs[i]?) fun i x y hx hy => ih x y (H1 i x y hx hy)) (r6 (g := fun i => ys[i]?) fun i x y hx hy => ih x y (H2 i x y hx hy))

def aw (x : AV) : Prop := ∀ (ρ ρ' : Rho) (V : bw) (y : Value), Rel ρ V x y → Rel ρ' V x y
def kP (x : AV) : Prop := ∀ (ρ ρ' : Rho) (V V' : bw) (y : Value), Rel ρ V x y → Rel ρ' V' x y

theorem kP.clean {x : AV} (h : kP x) : aw x := fun ρ ρ' V y => h ρ ρ' V V y

theorem aw.v (x : Value) : aw (.v x) := fun _ _ _ y h => by cases h; exact .v x
theorem aw.agg {cs : List AV} (h : ∀ c ∈ cs, aw c) : aw (.agg cs) := by
 intro ρ ρ' V y hr
 cases hr with
 | agg _ ys h1 H S => exact .agg cs ys h1 (fun i x y hx hy => h x (List.mem_of_getElem? hx) ρ ρ' V y (H i x y hx hy)) S
theorem aw.tup {cs : List AV} (h : ∀ c ∈ cs, aw c) : aw (.tup cs) := by
 intro ρ ρ' V y hr
 cases hr with
 | tup _ ys h1 H => exact .tup cs ys h1 (fun i x y hx hy => h x (List.mem_of_getElem? hx) ρ ρ' V y (H i x y hx hy))
theorem aw.imm {cs : List AV} {n : Nat} (h : ∀ c ∈ cs, aw c) : aw (.imm cs n) := by
 intro ρ ρ' V y hr
 cases hr with
 | imm _ _ b o cap c hV hb H S hlc => exact .imm cs n b o cap c hV hb (fun i x y hx hy => h x (List.mem_of_getElem? hx) ρ ρ' V y (H i x y hx hy)) S hlc
 | imm0 a cap => exact .imm0 a cap
theorem aw.iptr {cs : List AV} {n : Nat} (h : ∀ c ∈ cs, aw c) : aw (.iptr cs n) := by
 intro ρ ρ' V y hr
 cases hr with
 | iptr _ _ b o c hV hb H S => exact .iptr cs n b o c hV hb (fun i x y hx hy => h x (List.mem_of_getElem? hx) ρ ρ' V y (H i x y hx hy)) S

theorem aw.clo {f : Nat} {a b : List AV} (ha : ∀ c ∈ a, aw c) (hb : ∀ c ∈ b, aw c) : aw (.clo f a b) := by
 intro ρ ρ' V y hr
 cases hr with
 | clo _ _ _ xs ys h1 h2 H1 H2 => exact .clo f a b xs ys h1 h2 (fun i x y hx hy => ha x (List.mem_of_getElem? hx) ρ ρ' V y (H1 i x y hx hy)) (fun i x y hx hy => hb x (List.mem_of_getElem? hx) ρ ρ' V y (H2 i x y hx hy))

theorem kP.v (x : Value) : kP (.v x) := fun _ _ _ _ y h => by cases h; exact .v x
theorem kP.agg {cs : List AV} (h : ∀ c ∈ cs, kP c) : kP (.agg cs) := by
 intro ρ ρ' V V' y hr
 cases hr with
 | agg _ ys h1 H S => exact .agg cs ys h1 (fun i x y hx hy => h x (List.mem_of_getElem? hx) ρ ρ' V V' y (H i x y hx hy)) S
theorem kP.tup {cs : List AV} (h : ∀ c ∈ cs, kP c) : kP (.tup cs) := by
 intro ρ ρ' V V' y hr
 cases hr with
 | tup _ ys h1 H => exact .tup cs ys h1 (fun i x y hx hy => h x (List.mem_of_getElem? hx) ρ ρ' V V' y (H i x y hx hy))
theorem kP.imm0 : kP (.imm [] 0) := by
 intro ρ ρ' V V' y hr
 cases hr with
 | imm _ _ b o cap c hV hb H S hlc => exact .imm0 _ cap
 | imm0 a cap => exact .imm0 a cap

abbrev gM : Nat := 6

def dk (n : Nat) : HS := ⟨fun _ => .dead, n⟩

structure SndP (C : Ctx) (f : FuncId) (args : List AV) (r : AV) : Prop where
 clean : aw r
 quiet : ∀ s : HS, Snd C f args s fun r' s' => r' = r ∧ s' = s

theorem Inv.dead {ρ : Rho} {V : bw} {s : HS} {w : World} (h : Inv ρ V s w) : Inv ρ V (dk s.next) w :=
 ⟨h.view, h.fresh, fun id cells loc hl => by simp [dk] at hl, fun id cells loc hl => by simp [dk] at hl, fun i j li lj ci cj hl => by simp [dk] at hl⟩

theorem mI {ρ : Rho} {n b : Nat} (h : Own ρ (dk n) b) : False := by
 obtain ⟨id, cells, loc, h1, _⟩ := h
 simp [dk] at h1

theorem yv {ρ : Rho} {V : bw} {s : HS} {w : World} (h : Inv ρ V s w) : Inv ρ (VV ρ V s w) (dk s.next) w := by
 refine ⟨fun b c hv => ?_, h.fresh, fun id cells loc hl => by simp [dk] at hl, fun id cells loc hl => by simp [dk] at hl, fun i j li lj ci cj hl => by simp [dk] at hl⟩
 rcases rU hv with h1 | ⟨_, T, q, h1⟩
 ·
  exact h.view b c h1
 ·
  exact ⟨T, q, h1⟩

theorem Inv.keep {ρ : Rho} {V V' : bw} {s : HS} {w w' : World} (h : Inv ρ V s w) (hk : ∀ b, b < w.heap.size → w'.heap[b]? = w.heap[b]?) (hv : ∀ b c, V b = some c → V' b = some c) (hn : ∀ b c, V' b = some c → V b = some c ∨ w.heap.size ≤ b)
  (hview : ∀ b c, V' b = some c → ∃ T fz, w'.heap[b]? = some (.cells c T fz)) : Inv ρ V' s w' := by
 refine ⟨hview, h.fresh, fun id cells loc hl hρ => ?_, fun id cells loc hl hρ => ?_, h.inj⟩
 ·
  obtain ⟨c, T, h1, h2, h3, h4⟩ := h.live id cells loc hl hρ
  refine ⟨c, T, by rw [hk _ (fJ h1)]; exact h1, h2, h3.mono (fun _ _ h => h) hv, ?_⟩
  cases hv' : V' loc.b with
  | none => rfl
  | some c' =>
   rcases hn _ _ hv' with h5 | h5
   ·
    rw [h4] at h5; cases h5
   ·
    have := fJ h1; omega
 ·
  obtain ⟨c, h1, h2, h3⟩ := h.froz id cells loc hl hρ
  exact ⟨c, hv _ _ h1, h2.mono (fun _ _ h => h) hv, h3⟩

theorem CR {ρ ρ₀ ρ' : Rho} {V V' : bw} {n : Nat} {s s' : HS} {w w' : World} {r r' : AV} {y : Value} (hr : aw r) (h3 : Inv ρ V s w) (he : fz s'.objs gM r' = r) (hrel : Rel ρ' V' r' y) (hinv : Inv ρ' V' s' w') (hg : Grew ρ₀ V (dk n) w ρ' V' s' w') :
  ∃ ρ' V', Rel ρ' V' r y ∧ Inv ρ' V' s w' ∧ Grew ρ V s w ρ' V' s w' := by
 have hgn : ∀ b c, VV ρ' V' s' w' b = some c → V b = some c ∨ w.heap.size ≤ b := by
  intro b c hv
  rcases rU hv with h5 | ⟨h5, _⟩
  ·
   rcases hg.vnew b c h5 with h6 | h6 | h6
   ·
    exact .inl h6
   ·
    exact (mI h6).elim
   ·
    exact .inr h6
  ·
   rcases hg.own b h5 with h6 | h6
   ·
    exact (mI h6).elim
   ·
    exact .inr h6
 have hk : ∀ b, b < w.heap.size → w'.heap[b]? = w.heap[b]? := fun b hb => hg.keep b hb mI
 have hvm : ∀ b c, V b = some c → VV ρ' V' s' w' b = some c := fun b c hv => eW _ _ (hg.view b c hv)
 have hview := (yv hinv).view
 refine ⟨ρ, VV ρ' V' s' w', ?_, h3.keep hk hvm hgn hview, ?_⟩
 ·
  rw [← he]
  have := na hinv gM r' y hrel
  rw [he] at this ⊢
  exact hr _ _ _ _ this
 ·
  exact ⟨fun _ _ h => h, fun _ _ => rfl, Nat.le_refl _, hvm, hg.size, fun b hb _ => hk b hb, fun b hb => .inl hb, fun b c hv => (hgn b c hv).elim .inl fun h => .inr (.inr h), hg.mem⟩

theorem SndP.of_zero {C : Ctx} {f : FuncId} {args : List AV} {r : AV} (hr : aw r) (ha : ∀ x ∈ args, aw x) (h : Snd C f args (dk 0) fun r' s' => fz s'.objs gM r' = r) : SndP C f args r := by
 refine ⟨hr, fun s => ⟨h.1, fun ρ V w args' h1 h2 h3 h4 => ?_⟩⟩
 have h0 : Inv (fun _ => none) V (dk 0) w := ⟨h3.view, fun _ _ => rfl, fun id cells loc hl => by simp [dk] at hl, fun id cells loc hl => by simp [dk] at hl, fun i j li lj ci cj hl => by simp [dk] at hl⟩
 refine (h.2 (fun _ => none) V w args' h1 (fun i x y hx hy => ha x (List.mem_of_getElem? hx) _ _ _ _ (h2 i x y hx hy)) h0 h4).mono ?_
 rintro e w' ⟨y, r', s', ρ', V', rfl, he, hrel, hinv, hg⟩
 obtain ⟨ρ2, V2, g1, g2, g3⟩ := CR hr h3 he hrel hinv hg
 exact ⟨y, r, s, ρ2, V2, rfl, ⟨rfl, rfl⟩, g1, g2, g3⟩

theorem d4 {f : AV → AV} {l : List AV} {i : Nat} {x : AV} (h : (l.map f)[i]? = some x) : ∃ z, l[i]? = some z ∧ x = f z := by
 rw [List.getElem?_map] at h
 cases hc : l[i]? with
 | none => simp [hc] at h
 | some z => simp [hc] at h; exact ⟨z, rfl, h.symm⟩

theorem SndP.lend {C : Ctx} {f : FuncId} {args : List AV} {r : AV} (s : HS) (h : SndP C f (args.map (fz s.objs gM)) r) (hb : kP r) : Snd C f args s fun r' s' => r' = r ∧ s' = s := by
 refine ⟨(h.quiet s).1, fun ρ V w args' h1 h2 h3 h4 => ?_⟩
 refine ((h.quiet (dk s.next)).2 ρ (VV ρ V s w) w args' (by simpa using h1) ?_ (yv h3) (h4.mono eW)).mono ?_
 ·
  intro i x y hx hy
  obtain ⟨z, hz, rfl⟩ := d4 hx
  exact na h3 gM z y (h2 i z y hz hy)
 ·
  rintro e w' ⟨y, r', s', ρ', V', rfl, ⟨rfl, rfl⟩, hrel, hinv, hg⟩
  have hk : ∀ b, b < w.heap.size → w'.heap[b]? = w.heap[b]? := fun b hb => hg.keep b hb mI
  refine ⟨y, r', s, ρ, V, rfl, ⟨rfl, rfl⟩, hb _ _ _ _ _ hrel, h3.keep hk (fun _ _ h => h) (fun b c hv => .inl hv) ?_, ?_⟩
  ·
   intro b c hv
   obtain ⟨T, q, h5⟩ := h3.view b c hv
   exact ⟨T, q, by rw [hk b (fJ h5)]; exact h5⟩
  ·
   exact ⟨fun _ _ h => h, fun _ _ => rfl, Nat.le_refl _, fun _ _ h => h, hg.size, fun b hb _ => hk b hb, fun b hb => .inl hb, fun b c hv => .inl hv, hg.mem⟩

def kv (objs : Nat → Ob) : Nat → Ob := fun id => match objs id with
 | .live c => .froz c
 | o => o

theorem uA {ρ : Rho} {V : bw} {n : Nat} {w : World} : VV ρ V (dk n) w = V := by
 funext b
 unfold VV
 cases hv : V b with
 | some c => rfl
 | none => simp only; rw [if_neg fun h => mI h]

theorem SndP.norm {C : Ctx} {f : FuncId} {args : List AV} {r : AV} (h : SndP C f (args.map (fz (fun _ => .dead) gM)) r) : SndP C f args r := by
 refine ⟨h.clean, fun s => ⟨(h.quiet s).1, fun ρ V w args' h1 h2 h3 h4 => ?_⟩⟩
 refine (h.quiet s).2 ρ V w args' (by simpa using h1) ?_ h3 h4
 intro i x y hx hy
 obtain ⟨z, hz, rfl⟩ := d4 hx
 have := na h3.dead gM z y (h2 i z y hz hy)
 rw [uA] at this
 exact this

theorem SndP.qcall {C : Ctx} {f : FuncId} {args : List AV} {r : AV} (h : SndP C f args r) (objs : Nat → Ob) : z8 C f args objs [] r :=
 fun hs _ => h.quiet hs

end Go.AX

/-! (AxT) -/

namespace Go.AX

def AJ (R : TypeId → List AV → Prop) : List TypeId → List AV → Prop
 | [], l => l = []
 | t :: ts, l => ∃ a b, l = a ++ b ∧ R t a ∧ AJ R ts b

def Ty (P : Program) (B : Nat) : Nat → TypeId → List AV → Prop
 | 0, _, _ => False
 | n + 1, t, l => match P.underlying t with
  | some .bool => ∃ b, l = [.v (.bool b)]
  | some (.int k) => ∃ i, l = [.v (.int k i)] ∧ (Lit.int k i).wf = true
  | some .string => ∃ s : ByteArray, l = [.v (.string s)] ∧ s.size ≤ B
  | some (.pointer e) => l = [.v (.pointer none)] ∨ ∃ c, l = [.iptr c 0] ∧ Ty P B n e c
  | some (.slice e) => ∃ ls : List (List AV), l = [.imm ls.flatten ls.length] ∧ ls.length ≤ B ∧ ∀ c ∈ ls, Ty P B n e c
  | some (.struct fs) => AJ (Ty P B n) (fs.toList.map (·.type)) l
  | some (.array m e) => ∃ ls : List (List AV), l = ls.flatten ∧ ls.length = m ∧ ∀ c ∈ ls, Ty P B n e c
  | _ => ∃ x, l = [.v x]

structure Bulk {H : Type} (bk : DataW H → Nat) : Prop where
 ptr : ∀ d, bk d ≤ bk (.ptr d)
 elems : ∀ es sp d, d ∈ es → bk d ≤ bk (.slice es sp)
 len : ∀ es sp, es.length ≤ bk (.slice es sp)
 agg : ∀ ds d, d ∈ ds → bk d ≤ bk (.agg ds)
 str : ∀ bs : List UInt8, bs.length ≤ bk (.lit (.string bs))

def Dr (P : Program) (t : TypeId) : Bool := (P.book t).all fun t => match P.underlying t with
 | some (.slice e) => Nat.blt 0 (P.cellsOf e)
 | some (.pointer e) => Nat.blt 0 (P.cellsOf e)
 | _ => true

def Pos (P : Program) (T : TypeId → Prop) : Prop := ∀ t e, T t → (P.underlying t = some (.slice e) → 0 < P.cellsOf e) ∧ (P.underlying t = some (.pointer e) → 0 < P.cellsOf e)

theorem ID {P : Program} {t : TypeId} (h : Dr P t = true) : Pos P (InBook P t) := by
 intro u e hu
 have := List.all_eq_true.1 h u hu.2
 constructor
 ·
  intro hh; simpa [hh] using this
 ·
  intro hh; simpa [hh] using this

def hv (w : World) : bw := fun b => match w.heap[b]? with
 | some (.cells c _ _) => some c
 | _ => none

abbrev r0 : Rho := fun _ => none

structure RelL (V : bw) (l : List AV) (cs : List Value) : Prop where
 len : l.length = cs.length
 rel : ∀ (i : Nat) x y, l[i]? = some x → cs[i]? = some y → Rel r0 V x y
 sto : ∀ y ∈ cs, AX.sto y = true

theorem RelL.one {V : bw} {x : AV} {y : Value} (h : Rel r0 V x y) (hs : AX.sto y = true) : RelL V [x] [y] := by
 refine ⟨rfl, fun i a b ha hb => ?_, fun z hz => ?_⟩
 ·
  cases i with
  | zero => simp at ha hb; subst ha; subst hb; exact h
  | succ i => simp at ha
 ·
  simp at hz; subst hz; exact hs

theorem RelL.append {V : bw} {l l' : List AV} {cs cs' : List Value} (h : RelL V l cs) (h' : RelL V l' cs') : RelL V (l ++ l') (cs ++ cs') := by
 refine ⟨by simp [h.len, h'.len], fun i x y hx hy => ?_, fun y hy => ?_⟩
 ·
  rw [List.getElem?_append] at hx hy
  rw [h.len] at hx
  split at hx
  ·
   rename_i hlt; rw [if_pos hlt] at hy; exact h.rel i x y hx hy
  ·
   rename_i hlt; rw [if_neg hlt] at hy; exact h'.rel _ x y hx hy
 ·
  rcases List.mem_append.1 hy with h1 | h1
  ·
   exact h.sto y h1
  ·
   exact h'.sto y h1

theorem sT {V : bw} {n : Nat} : ∀ {ls : List (List AV)} {css : List (List Value)}, ls.length = css.length → (∀ (i : Nat) a b, ls[i]? = some a → css[i]? = some b → RelL V a b) → (∀ b ∈ css, b.length = n) → RelL V ls.flatten css.flatten
 | [], [], _, _, _ => ⟨rfl, fun i x y hx => by simp at hx, fun y hy => by simp at hy⟩
 | a :: ls, b :: css, hl, h, hn => by
  simp only [List.flatten_cons]
  exact (h 0 a b rfl rfl).append (sT (by simpa using hl) (fun i x y hx hy => h (i + 1) x y (by simpa using hx) (by simpa using hy)) (fun c hc => hn c (by simp [hc])))

theorem Bo {n m : Nat} {cs : List Value} (h : cs.length = m * n) : ((List.range m).map fun i => (cs.drop (i * n)).take n).flatten = cs := by
 induction m generalizing cs with
 | zero => simp at h; subst h; rfl
 | succ m ih =>
  rw [List.range_succ_eq_map, List.map_cons, List.flatten_cons, List.map_map]
  have hd : (cs.drop n).length = m * n := by simp [h, Nat.add_mul]
  have := ih hd
  rw [show (fun i => (cs.drop (i * n)).take n) ∘ Nat.succ = fun i => ((cs.drop n).drop (i * n)).take n by
   funext i; simp [List.drop_drop, Nat.succ_mul, Nat.add_comm]]
  rw [this]
  simp

theorem lK {α β : Type} {R : α → β → Prop} : ∀ {l : List α}, (∀ a ∈ l, ∃ b, R a b) → ∃ r : List β, r.length = l.length ∧ ∀ (i : Nat) a b, l[i]? = some a → r[i]? = some b → R a b
 | [], _ => ⟨[], rfl, fun i a b h => by simp at h⟩
 | a :: l, h => by
  obtain ⟨b, hb⟩ := h a (by simp)
  obtain ⟨r, h1, h2⟩ := lK (l := l) fun x hx => h x (by simp [hx])
  refine ⟨b :: r, by simp [h1], fun i x y hx hy => ?_⟩
  cases i with
  | zero => simp at hx hy; subst hx; subst hy; exact hb
  | succ i => simp at hx hy; exact h2 i x y hx hy

theorem Cx (a : Addr) (i : Nat) : (a.add i).block = a.block := by unfold Addr.add; split <;> rfl
theorem Gc (a : Addr) (i : Nat) : (a.add i).off = a.off + i := by unfold Addr.add; split <;> simp_all
theorem FF (a : Addr) (i j : Nat) : (a.add i).add j = a.add (i + j) := by
 unfold Addr.add
 by_cases hi : i = 0
 ·
  subst hi; simp
 ·
  by_cases hj : j = 0
  ·
   subst hj; simp
  ·
   simp [hi, hj, Nat.add_assoc]

theorem FW {w : World} {a : Addr} {y : Value} (h : w.cell? a = some y) : a.spot = none ∧ ∃ c, hv w a.block = some c ∧ c[a.off]? = some y := by
 unfold World.cell? at h
 unfold hv
 split at h
 ·
  rename_i c T q hb
  split at h
  ·
   cases h
  ·
   rename_i hs
   refine ⟨?_, c, by rw [hb], h⟩
   cases hsp : a.spot with
   | none => rfl
   | some k => simp [hsp] at hs
 ·
  cases h

theorem qs {w : World} {a : Addr} {l : List AV} {cs : List Value} (hlen : 0 < cs.length) (hr : RelL (hv w) l cs) (hc : ∀ i, i < cs.length → w.cell? (a.add i) = cs[i]?) :
  a.spot = none ∧ ∃ c, hv w a.block = some c ∧ RelC r0 (hv w) l c a.off := by
 have get : ∀ i, i < cs.length → (a.add i).spot = none ∧ ∃ c, hv w a.block = some c ∧ c[a.off + i]? = cs[i]? := by
  intro i hi
  have h1 := hc i hi
  have e : cs[i]? = some cs[i] := by simp [hi]
  rw [e] at h1
  obtain ⟨h2, c, h3, h4⟩ := FW h1
  exact ⟨h2, c, by rw [← Cx a i]; exact h3, by rw [e, ← Gc]; exact h4⟩
 obtain ⟨h1, c, h2, h3⟩ := get 0 hlen
 have all : ∀ i, i < cs.length → c[a.off + i]? = cs[i]? := by
  intro i hi
  obtain ⟨_, c', h4, h5⟩ := get i hi
  rw [h2] at h4; cases h4; exact h5
 refine ⟨by simpa [Addr.add] using h1, c, h2, ?_, fun i x y hx hy => ?_, fun i y hi hy => ?_⟩
 ·
  have := all (cs.length - 1) (by omega)
  have e : cs[cs.length - 1]? = some (cs[cs.length - 1]'(by omega)) := by simp
  rw [e] at this
  have := (Array.getElem?_eq_some_iff.1 this).1
  have := hr.len
  omega
 ·
  have hi : i < l.length := (List.getElem?_eq_some_iff.1 hx).1
  rw [all i (by rw [← hr.len]; exact hi)] at hy
  exact hr.rel i x y hx hy
 ·
  rw [all i (by rw [← hr.len]; exact hi)] at hy
  exact hr.sto y (List.mem_of_getElem? hy)

theorem tX {P : Program} : ∀ (fs : List Field) (cs : List Value) (k : Nat), (∀ (j : Nat) f, fs[j]? = some f → f.offset = k + ((fs.take j).map fun f => P.cellsOf f.type).sum) → cs.length = k + (fs.map fun f => P.cellsOf f.type).sum →
  (fs.map fun f => (cs.drop f.offset).take (P.cellsOf f.type)).flatten = cs.drop k
 | [], cs, k, _, hl => by simp at hl; simp; omega
 | f :: fs, cs, k, h, hl => by
  have h0 := h 0 f rfl
  simp at h0
  simp only [List.map_cons, List.flatten_cons]
  have ih := tX (P := P) fs cs (k + P.cellsOf f.type) (fun j g hg => by
   have := h (j + 1) g (by simpa using hg)
   rw [List.take_succ_cons, List.map_cons, List.sum_cons] at this
   omega) (by simp at hl; omega)
  rw [ih, h0]
  rw [← List.drop_drop]
  exact List.take_append_drop _ _

theorem Al {R : TypeId → List AV → Prop} : ∀ {ts : List TypeId} {ls : List (List AV)}, ls.length = ts.length → (∀ (i : Nat) t a, ts[i]? = some t → ls[i]? = some a → R t a) → AJ R ts ls.flatten
 | [], [], _, _ => rfl
 | t :: ts, a :: ls, hl, h => ⟨a, ls.flatten, rfl, h 0 t a rfl rfl, Al (by simpa using hl) fun i t' a' h1 h2 => h (i + 1) t' a' (by simpa using h1) (by simpa using h2)⟩

theorem Ef {H : Type} {enc : TypeId × Value → H} {P : Program} {W : World} {sp : Nat → Bool} {held : Bool} {bk : DataW H → Nat} {B : Nat} (hbk : Bulk bk) {T : TypeId → Prop} (hK : Kids P T) (hp : Pos P T) :
  ∀ (fuel : Nat) (t : TypeId) (cs : List Value) (x : DataW H × List MemPlace), T t → DataW.trod enc P W 0 sp held fuel t cs = some x → bk x.1 ≤ B → ∃ l, RelL (hv W) l cs ∧ Ty P B fuel t l := by
 intro fuel
 induction fuel with
 | zero => intro t cs x _ h; simp [DataW.trod] at h
 | succ n ih =>
  intro t cs x ht h hB
  cases hu : P.underlying t with
  | none => simp [DataW.trod, hu] at h
  | some d =>
   cases d with
   | bool =>
    obtain ⟨b, rfl, rfl⟩ := DataW.trod_bool hu h
    refine ⟨[.v (.bool b)], .one (.v _) rfl, ?_⟩
    unfold Ty; rw [hu]; exact ⟨b, rfl⟩
   | int k =>
    obtain ⟨i, rfl, rfl, hw⟩ := DataW.trod_int hu h
    refine ⟨[.v (.int k i)], .one (.v _) rfl, ?_⟩
    unfold Ty; rw [hu]; exact ⟨i, rfl, hw⟩
   | string =>
    obtain ⟨s, rfl, rfl, hw⟩ := DataW.trod_string hu h
    refine ⟨[.v (.string s)], .one (.v _) rfl, ?_⟩
    have := hbk.str s.data.toList
    have h2 : s.data.toList.length = s.size := Array.length_toList
    simp only [Ty, hu]
    exact ⟨s, rfl, by simp only at hB; omega⟩
   | pointer e =>
    have hpos := (hp t e ht).2 hu
    rcases DataW.trod_pointer hu h with ⟨rfl, rfl⟩ | ⟨a, cs', y, m, hm, rfl, rfl, hc, hy⟩
    ·
     refine ⟨[.v (.pointer none)], .one (.v _) rfl, ?_⟩
     unfold Ty; rw [hu]; exact .inl rfl
    ·
     cases hm
     have hb := hbk.ptr y.1
     obtain ⟨l, hr, hty⟩ := ih e cs' y (hK.pointer ht hu) hy (by simp only at hB; omega)
     obtain ⟨_, hcl, hcc⟩ := World.cells?_some hc
     obtain ⟨hs, c, h1, h2⟩ := qs (by omega) hr (fun i hi => hcc i (by omega))
     obtain ⟨ab, ao, as⟩ := a
     simp only at hs h1 h2
     subst hs
     refine ⟨[.iptr l 0], .one ?_ rfl, ?_⟩
     ·
      have := Rel.iptr_of (ρ := r0) (b := ab) 0 h1 h2
      simpa using this
     ·
      simp only [Ty, hu]; exact .inr ⟨l, rfl, hty⟩
   | slice e =>
    have hpos := (hp t e ht).1 hu
    rcases DataW.trod_slice hu h with ⟨rfl, rfl⟩ | ⟨a, len, cap, elems, rest, m, hm, rfl, rfl, hb0, hlc, hmax, hel, hat, _⟩
    ·
     refine ⟨[.imm [] 0], .one (.imm0 none 0) rfl, ?_⟩
     simp only [Ty, hu]
     exact ⟨[], rfl, Nat.zero_le _, fun c hc => by simp at hc⟩
    ·
     cases hm
     have hlen := hbk.len (elems.map (·.1)) (rest.map (·.1))
     simp only at hB
     simp only [List.length_map] at hlen
     have each : ∀ i ∈ List.range len, ∃ r : List AV × List Value, RelL (hv W) r.1 r.2 ∧ Ty P B n e r.1 ∧ W.cells? 0 (a.add (i * P.cellsOf e)) (P.cellsOf e) = some r.2 := by
      intro i hi
      have hi' : i < len := by simpa using hi
      have h1 := hat i hi'
      have h2 : elems[i]? = some (elems[i]'(by omega)) := by simp
      rw [h2] at h1
      obtain ⟨cs', h3, h4⟩ := Option.bind_eq_some_iff.1 h1
      have h5 := hbk.elems (elems.map (·.1)) (rest.map (·.1)) (elems[i]'(by omega)).1 (List.mem_map.2 ⟨_, List.getElem_mem _, rfl⟩)
      obtain ⟨l, h6, h7⟩ := ih e cs' _ (hK.slice ht hu) h4 (by omega)
      exact ⟨(l, cs'), h6, h7, h3⟩
     obtain ⟨rs, hrl, hrs⟩ := lK each
     simp at hrl
     have hrs' : ∀ (i : Nat) r, rs[i]? = some r → RelL (hv W) r.1 r.2 ∧ Ty P B n e r.1 ∧ W.cells? 0 (a.add (i * P.cellsOf e)) (P.cellsOf e) = some r.2 := by
      intro i r hr
      have : i < len := by have := (List.getElem?_eq_some_iff.1 hr).1; omega
      exact hrs i i r (by simp [this]) hr
     have hmem : ∀ r ∈ rs, ∃ i : Nat, rs[i]? = some r := fun r hr => List.getElem?_of_mem hr
     have hw : ∀ r ∈ rs, r.2.length = P.cellsOf e := by
      intro r hr
      obtain ⟨i, hi⟩ := hmem r hr
      exact (World.cells?_some (hrs' i r hi).2.2).2.1
     have hflat : RelL (hv W) (rs.map (·.1)).flatten (rs.map (·.2)).flatten := by
      refine sT (n := P.cellsOf e) (by simp) ?_ ?_
      ·
       intro i a b ha hb
       simp only [List.getElem?_map, Option.map_eq_some_iff] at ha hb
       obtain ⟨r, hr, rfl⟩ := ha
       obtain ⟨r', hr', rfl⟩ := hb
       rw [hr] at hr'; cases hr'
       exact (hrs' i r hr).1
      ·
       intro b hb
       obtain ⟨r, hr, rfl⟩ := List.mem_map.1 hb
       exact hw r hr
     have hty : ∀ c ∈ rs.map (·.1), Ty P B n e c := by
      intro c hc
      obtain ⟨r, hr, rfl⟩ := List.mem_map.1 hc
      obtain ⟨i, hi⟩ := hmem r hr
      exact (hrs' i r hi).2.1
     refine ⟨[.imm (rs.map (·.1)).flatten (rs.map (·.1)).length], .one ?_ rfl, ?_⟩
     ·
      rw [List.length_map, hrl]
      by_cases h0 : len = 0
      ·
       subst h0
       have : rs = [] := by simpa using hrl
       subst this
       exact .imm0 _ _
      ·
       have hfl : (rs.map (·.2)).flatten.length = len * P.cellsOf e := by
        have : ∀ l : List (List AV × List Value), (∀ r ∈ l, r.2.length = P.cellsOf e) → (l.map (·.2)).flatten.length = l.length * P.cellsOf e := by
         intro l
         induction l with
         | nil => intro _; simp
         | cons r l ih => intro h; simp only [List.map_cons, List.flatten_cons, List.length_append, h r (by simp), ih fun x hx => h x (by simp [hx]), List.length_cons]; rw [Nat.add_mul]; omega
        rw [this rs hw, hrl]
       have hpl : 0 < len * P.cellsOf e := Nat.mul_pos (by omega) hpos
       have hcell : ∀ i, i < (rs.map (·.2)).flatten.length → W.cell? (a.add i) = (rs.map (·.2)).flatten[i]? := by
        -- by the row that the place lies in
        have gen : ∀ (l : List (List AV × List Value)) (k : Nat), (∀ (i : Nat) r, l[i]? = some r → W.cells? 0 (a.add ((k + i) * P.cellsOf e)) (P.cellsOf e) = some r.2) → ∀ i, i < (l.map (·.2)).flatten.length → W.cell? (a.add (k * P.cellsOf e + i)) = (l.map (·.2)).flatten[i]? := by
         intro l
         induction l with
         | nil => intro k _ i hi; simp at hi
         | cons r l ihl =>
          intro k hk i hi
          obtain ⟨_, e1, e2⟩ := World.cells?_some (hk 0 r rfl)
          simp only [List.map_cons, List.flatten_cons] at hi ⊢
          rw [List.getElem?_append]
          by_cases hlt : i < r.2.length
          ·
           rw [if_pos hlt]
           have := e2 i (by omega)
           rw [← this]
           rw [FF, Nat.add_zero]
          ·
           rw [if_neg hlt]
           have := ihl (k + 1) (fun j r' hr' => by
            have := hk (j + 1) r' (by simpa using hr')
            rw [show k + 1 + j = k + (j + 1) by omega]; exact this) (i - r.2.length) (by simp only [List.length_append] at hi; omega)
           rw [← this]
           congr 2
           rw [Nat.add_mul]; omega
        intro i hi
        have := gen rs 0 (fun i r hr => by simpa using (hrs' i r hr).2.2) i hi
        simpa using this
       obtain ⟨hs, c, h1, h2⟩ := qs (by omega) hflat hcell
       obtain ⟨ab, ao, as⟩ := a
       simp only at hs h1 h2
       subst hs
       exact Rel.imm_of len cap hlc h1 h2
     ·
      simp only [Ty, hu]
      exact ⟨rs.map (·.1), rfl, by simp; omega, hty⟩
   | struct fs =>
    obtain ⟨xs, m, hm, rfl, hcl, hxl, hf⟩ := DataW.trod_struct hu h
    cases hm
    obtain ⟨k1, k2, k3⟩ := hK.struct ht hu
    have each : ∀ i ∈ List.range fs.size, ∃ l : List AV, ∀ f, fs[i]? = some f → RelL (hv W) l ((cs.drop f.offset).take (P.cellsOf f.type)) ∧ Ty P B n f.type l := by
     intro i hi
     have hi' : i < fs.size := by simpa using hi
     have e1 : fs[i]? = some fs[i] := by simp [hi']
     have e2 : xs[i]? = some (xs[i]'(by omega)) := by simp
     have h1 := hf i _ e1
     rw [e2] at h1
     have h5 := hbk.agg (xs.map (·.1)) (xs[i]'(by omega)).1 (List.mem_map.2 ⟨_, List.getElem_mem _, rfl⟩)
     simp only at hB
     obtain ⟨l, h6, h7⟩ := ih _ _ _ (k1 fs[i] (by simp)) h1 (by omega)
     exact ⟨l, fun f hff => by rw [e1] at hff; cases hff; exact ⟨h6, h7⟩⟩
    obtain ⟨ls, hll, hls⟩ := lK each
    simp at hll
    have hls' : ∀ (i : Nat) l f, ls[i]? = some l → fs[i]? = some f → RelL (hv W) l ((cs.drop f.offset).take (P.cellsOf f.type)) ∧ Ty P B n f.type l := by
     intro i l f h1 h2
     have : i < fs.size := (Array.getElem?_eq_some_iff.1 h2).1
     exact hls i i l (by simp [this]) h1 f h2
    refine ⟨ls.flatten, ?_, ?_⟩
    ·
     have hj := tX (P := P) fs.toList cs 0 (fun j f hj => by rw [k3 j f hj]; omega) (by rw [hcl, k2]; omega)
     rw [List.drop_zero] at hj
     rw [← hj]
     have : ∀ (ls : List (List AV)) (css : List (List Value)), ls.length = css.length → (∀ (i : Nat) a b, ls[i]? = some a → css[i]? = some b → RelL (hv W) a b) → RelL (hv W) ls.flatten css.flatten := by
      intro ls
      induction ls with
      | nil => intro css h _; cases css with
       | nil => exact ⟨rfl, fun i x y hx => by simp at hx, fun y hy => by simp at hy⟩
       | cons b css => simp at h
      | cons a ls ihh =>
       intro css h1 h2
       cases css with
       | nil => simp at h1
       | cons b css =>
        simp only [List.flatten_cons]
        exact (h2 0 a b rfl rfl).append (ihh css (by simpa using h1) fun i x y hx hy => h2 (i + 1) x y (by simpa using hx) (by simpa using hy))
     refine this _ _ (by simp [hll]) ?_
     intro i a b ha hb
     simp only [List.getElem?_map, Option.map_eq_some_iff, Array.getElem?_toList] at hb
     obtain ⟨f, hf1, rfl⟩ := hb
     exact (hls' i a f ha hf1).1
    ·
     simp only [Ty, hu]
     refine Al (by simp [hll]) ?_
     intro i t' a h1 h2
     simp only [List.getElem?_map, Option.map_eq_some_iff, Array.getElem?_toList] at h1
     obtain ⟨f, hf1, rfl⟩ := h1
     exact (hls' i a f h2 hf1).2
   | array m e =>
    simp only [DataW.trod, hu] at h
    split at h
    ·
     rename_i hcl
     obtain ⟨xs, hxs, rfl⟩ := Option.map_eq_some_iff.1 h
     obtain ⟨ke, kc⟩ := hK.array ht hu
     have hxl : xs.length = m := by simpa using mapM_some_length hxs
     simp only at hB
     have each : ∀ i ∈ List.range m, ∃ l : List AV, RelL (hv W) l ((cs.drop (i * P.cellsOf e)).take (P.cellsOf e)) ∧ Ty P B n e l := by
      intro i hi
      have hi' : i < m := by simpa using hi
      have h1 := mapM_some_get hxs i i (by simp [hi'])
      have e2 : xs[i]? = some (xs[i]'(by omega)) := by simp
      rw [e2] at h1
      have h5 := hbk.agg (xs.map (·.1)) (xs[i]'(by omega)).1 (List.mem_map.2 ⟨_, List.getElem_mem _, rfl⟩)
      exact ih _ _ _ ke h1 (by omega)
     obtain ⟨ls, hll, hls⟩ := lK each
     simp at hll
     refine ⟨ls.flatten, ?_, ?_⟩
     ·
      have hj := Bo (n := P.cellsOf e) (m := m) (cs := cs) (by rw [hcl, kc])
      rw [← hj]
      refine sT (n := P.cellsOf e) (by simp [hll]) ?_ ?_
      ·
       intro i a b ha hb
       simp only [List.getElem?_map, Option.map_eq_some_iff] at hb
       obtain ⟨j, hj1, rfl⟩ := hb
       exact (hls i j a hj1 ha).1
      ·
       intro b hb
       obtain ⟨i, hi, rfl⟩ := List.mem_map.1 hb
       have hi' : i < m := by simpa using hi
       have : (i + 1) * P.cellsOf e ≤ m * P.cellsOf e := Nat.mul_le_mul_right _ hi'
       rw [Nat.add_mul] at this
       simp; omega
     ·
      simp only [Ty, hu]
      refine ⟨ls, rfl, hll, fun c hc => ?_⟩
      obtain ⟨i, hi⟩ := List.getElem?_of_mem hc
      have : i < m := by have := (List.getElem?_eq_some_iff.1 hi).1; omega
      exact (hls i i c (by simp [this]) hi).2
    ·
     cases h
   | _ =>
    simp only [DataW.trod, hu] at h
    have one : ∀ y, cs = [y] → AX.sto y = true → ∃ l, RelL (hv W) l cs ∧ Ty P B (n + 1) t l := by
     rintro y rfl hy
     refine ⟨[.v y], .one (.v _) hy, ?_⟩
     unfold Ty; rw [hu]; exact ⟨y, rfl⟩
    first
     | (cases h; done)
     | (split at h <;> first | (cases h; done) | (rename_i h1; cases h1; done) | exact one _ rfl rfl | (simp_all; done))

end Go.AX

/-! (AxU) -/

namespace Go.AX
open Go.ChangeShapes Go.WideShapes Go.RowKit

def TyV (P : Program) (B : Nat) (t : TypeId) (x : AV) : Prop :=
 ∃ n l, Ty P B n t l ∧ (match P.underlying t with | some (.struct _) => x = .agg l | some (.array _ _) => x = .agg l | _ => l = [x])

def wm (P : Program) (B : Nat) : List TypeId → List AV → Prop
 | [], xs => xs = []
 | t :: ts, xs => ∃ x r, xs = x :: r ∧ TyV P B t x ∧ wm P B ts r

theorem u5 {P : Program} {W : World} {base : Nat} {t : TypeId} {cs : Array Value} (h : Cell.okWide P W .any base t (.agg cs)) : False := by
 unfold Cell.okWide at h
 split at h <;> first | (simp_all; done) | (unfold Cell.ok at h; split at h <;> simp_all)

theorem RelL.single {V : bw} {x : AV} {y : Value} (h : RelL V [x] [y]) : Rel r0 V x y := h.rel 0 x y rfl rfl

theorem RelL.agg {V : bw} {l : List AV} {cs : Array Value} (h : RelL V l cs.toList) : Rel r0 V (.agg l) (.agg cs) :=
 .agg l cs (by have := h.len; simp at this; omega) (fun i x y hx hy => h.rel i x y hx (by simpa using hy)) fun i y hy => h.sto y (List.mem_of_getElem? (by rw [Array.getElem?_toList]; exact hy))

theorem Cj {P : Program} {B n : Nat} {t : TypeId} {l : List AV} (h : Ty P B n t l) (hs : ∀ fs, P.underlying t ≠ some (.struct fs)) (ha : ∀ m e, P.underlying t ≠ some (.array m e)) : ∃ x, l = [x] := by
 cases n with
 | zero => exact h.elim
 | succ n =>
  unfold Ty at h
  split at h
  ·
   obtain ⟨b, rfl⟩ := h; exact ⟨_, rfl⟩
  ·
   obtain ⟨b, rfl, _⟩ := h; exact ⟨_, rfl⟩
  ·
   obtain ⟨b, rfl, _⟩ := h; exact ⟨_, rfl⟩
  ·
   rcases h with rfl | ⟨c, rfl, _⟩ <;> exact ⟨_, rfl⟩
  ·
   obtain ⟨b, rfl, _⟩ := h; exact ⟨_, rfl⟩
  ·
   rename_i fs hu; exact absurd hu (hs fs)
  ·
   rename_i m e hu; exact absurd hu (ha m e)
  ·
   obtain ⟨b, rfl⟩ := h; exact ⟨_, rfl⟩

section
variable {H : Type} {enc : TypeId × Value → H} {P : Program} {W : World} {sp : Nat → Bool} {held : Bool} {bk : DataW H → Nat} {B : Nat}

theorem FL (hbk : Bulk bk) (hl : laidOutB P = true) {base : Nat} {t : TypeId} {v : Value} {d : DataW H} {ps : List MemPlace} (ht : t < P.types.size) (hrd : P.readableRec t = true) (hp : Dr P t = true) (hv' : Value.okWide P W .any base t v)
  (h : DataW.Trod enc P W 0 sp held t v d ps) (hB : bk d ≤ B) : ∃ x, Rel r0 (hv W) x v ∧ TyV P B t x := by
 obtain ⟨n, hn⟩ := h
 obtain ⟨l, hr, hty⟩ := Ef hbk (kids_book hl hrd) (ID hp) n t _ _ ⟨ht, book_self t⟩ hn hB
 have single : (∀ fs, P.underlying t ≠ some (.struct fs)) → (∀ m e, P.underlying t ≠ some (.array m e)) → ∃ x, Rel r0 (hv W) x v ∧ TyV P B t x := by
  intro hs ha
  have hc : Cell.okWide P W .any base t v := by
   unfold Value.okWide at hv'
   split at hv'
   ·
    rename_i fs hu; exact absurd hu (hs fs)
   ·
    rename_i m e hu; exact absurd hu (ha m e)
   ·
    exact hv'
  obtain ⟨x, rfl⟩ := Cj hty hs ha
  have hvc : v.cells.toList = [v] := by
   cases v <;> first | rfl | exact (u5 hc).elim
  rw [hvc] at hr
  refine ⟨x, hr.single, n, [x], hty, ?_⟩
  split
  ·
   rename_i fs hu; exact absurd hu (hs fs)
  ·
   rename_i m e hu; exact absurd hu (ha m e)
  ·
   rfl
 cases hu : P.underlying t with
 | none => exact single (by simp [hu]) (by simp [hu])
 | some dd =>
  cases dd with
  | struct fs =>
   unfold Value.okWide at hv'
   simp only [hu] at hv'
   obtain ⟨cs, rfl, _⟩ := hv'
   exact ⟨.agg l, RelL.agg hr, n, l, hty, by simp only [hu]⟩
  | array m e =>
   unfold Value.okWide at hv'
   simp only [hu] at hv'
   obtain ⟨cs, rfl, _⟩ := hv'
   exact ⟨.agg l, RelL.agg hr, n, l, hty, by simp only [hu]⟩
  | _ => exact single (by simp [hu]) (by simp [hu])

theorem AG (hbk : Bulk bk) (hl : laidOutB P = true) {base : Nat} : ∀ {ts : List TypeId} {vs : List Value} {ds : List (DataW H)} {ps : List MemPlace}, (∀ t ∈ ts, t < P.types.size ∧ P.readableRec t = true ∧ Dr P t = true) →
  (∀ (j : Nat) t v, ts[j]? = some t → vs[j]? = some v → Value.okWide P W .any base t v) → DataW.TrodAll enc P W 0 sp held ts vs ds ps → (∀ d ∈ ds, bk d ≤ B) →
  ∃ xs : List AV, xs.length = vs.length ∧ (∀ (i : Nat) x y, xs[i]? = some x → vs[i]? = some y → Rel r0 (hv W) x y) ∧ wm P B ts xs ∧ ds.length = ts.length
 | [], vs, ds, ps, _, _, h, _ => by
  obtain ⟨rfl, rfl, rfl⟩ := trodAll_nil h
  exact ⟨[], rfl, fun i x y hx => by simp at hx, rfl, rfl⟩
 | t :: ts, vs, ds, ps, ht, hv', h, hB => by
  obtain ⟨v, vs', d, ds', p, q, rfl, rfl, rfl, h1, h2⟩ := trodAll_cons h
  obtain ⟨x, hx1, hx2⟩ := FL hbk hl (ht t (by simp)).1 (ht t (by simp)).2.1 (ht t (by simp)).2.2 (hv' 0 t v rfl rfl) h1 (hB d (by simp))
  obtain ⟨xs, g1, g2, g3, g4⟩ := AG hbk hl (fun u hu => ht u (by simp [hu])) (fun j u w hu hw => hv' (j + 1) u w (by simpa using hu) (by simpa using hw)) h2 (fun e he => hB e (by simp [he]))
  refine ⟨x :: xs, by simp [g1], fun i a b ha hb => ?_, ⟨x, xs, rfl, hx2, g3⟩, by simp [g4]⟩
  cases i with
  | zero => simp at ha hb; subst ha; subst hb; exact hx1
  | succ i => simp at ha hb; exact g2 i a b ha hb

theorem yh (hl : laidOutB P = true) {W' : World} {sp' : Nat → Bool} : ∀ {ts : List TypeId} {vs : List Value} {ds : List (DataW H)} {ps : List MemPlace}, (∀ t ∈ ts, t < P.types.size ∧ P.readableRec t = true) →
  DataW.TrodAll enc P W 0 (fun _ => true) true ts vs ds ps → (∀ p ∈ ps, W.sameAt W' p) → (∀ p ∈ ps, sp' p.block = true) → DataW.TrodAll enc P W' 0 sp' true ts vs ds ps
 | [], vs, ds, ps, _, h, _, _ => by
  obtain ⟨rfl, rfl, rfl⟩ := trodAll_nil h
  exact trodAll_mk0
 | t :: ts, vs, ds, ps, ht, h, hs, hp => by
  obtain ⟨v, vs', d, ds', p, q, rfl, rfl, rfl, h1, h2⟩ := trodAll_cons h
  exact trodAll_cons_mk (WideElems.Trod_stays hl (ht t (by simp)).2 (ht t (by simp)).1 h1 (fun x hx => hs x (by simp [hx])) (fun x hx => hp x (by simp [hx])))
   (yh hl (fun u hu => ht u (by simp [hu])) h2 (fun x hx => hs x (by simp [hx])) (fun x hx => hp x (by simp [hx])))

end

def La (P : Program) (ts : List TypeId) : Bool := ts.all fun t => Nat.blt t P.types.size && (P.readableRec t && Dr P t)

theorem DR {H : Type} {enc : TypeId × Value → H} {P : Program} {f : Func} {s : ChangeSpec} {apart fresh handsOn again : Bool} {W W' : World} {args : Array Value} {v : Value} {ds gs : List (DataW H)} {before : List MemPlace}
  (hW : DataW.Whole enc P f.params.toList s.vars apart W args.toList ds gs before)
  (hr : ∀ (b : Nat) (sp : Nat → Bool) (hd : Bool), DataW.TrodAll enc P W' b sp hd f.resultTypes.toList (v.resultList f.resultTypes.size) (s.fn H (ds ++ gs)).results [])
  (ha : ∀ sp : Nat → Bool, (∀ p ∈ before, sp p.block = true) → DataW.TrodAll enc P W' 0 sp true f.params.toList args.toList (s.fn H (ds ++ gs)).args before)
  (hv : ∀ sp : Nat → Bool, (∀ p ∈ before, sp p.block = true) → DataW.TrodVars enc P W' sp s.vars (s.fn H (ds ++ gs)).vars [])
  (hk : W.keptBut W' (· ∈ before)) (hz : ∀ a, a.block < W.heap.size → W'.frozen? a = W.frozen? a)
  (hok : ∀ (j : Nat) (t : TypeId) (r : Value), f.resultTypes[j]? = some t → (v.resultList f.resultTypes.size)[j]? = some r → Value.okWide P W' .any 0 t r) :
  s.post enc P f apart fresh handsOn again W args v W' := by
 have lt := hW.lt
 have H0 : ∀ p ∈ before, (fun b => decide (b < W.heap.size)) p.block = true := fun p hp => decide_eq_true (lt p hp)
 have H1 : ∀ p ∈ before, (fun _ : Nat => true) p.block = true := fun _ _ => rfl
 refine ⟨ds, gs, before, [], before, [], hW, hr _ _ _, ha _ H0, hv _ H0, World.keptBut_mono (fun p hp => ⟨hp, .inr (by simpa using hp)⟩) hk, fun _ => ?_⟩
 obtain ⟨_, _, _, _, _, z, n⟩ := hW
 refine ⟨hok, _, _, ([] ++ before) ++ [], ⟨[] ++ before, [], trodAll_append (ha _ H1) (hr _ _ _), hv _ H1, rfl, fun b off hp => ?_, fun h => by simpa using n h⟩, fun p hp _ => by simpa using hp⟩
 have hp' : MemPlace.cell b off ∈ before := by simpa using hp
 rw [hz _ (lt _ hp')]
 exact z b off hp'

theorem y0 {C : Ctx} {f : FuncId} (hcal : oC C.P f) (hgt : C.gt = fun _ => none) (hl : laidOutB C.P = true) {fn : Func} (hpar : La C.P fn.params.toList = true)
  {tb : TypeId} (hres : fn.resultTypes = #[tb]) (htb : C.P.underlying tb = some .bool) {B : Nat}
  (hlaw : ∀ xs, wm C.P B fn.params.toList xs → SndP C f xs (.v (.bool true)))
  {s : ChangeSpec} (hvars : s.vars = []) {H : Type} {enc : TypeId × Value → H} (hs : ∀ ds : List (DataW H), ds.length = fn.params.toList.length → s.fn H ds = { results := [.lit (.bool true)], args := ds })
  {bk : DataW H → Nat} (hbk : Bulk bk) {W : World} {base : Nat} {args : Array Value} {ds gs : List (DataW H)} {before : List MemPlace} {apart fresh handsOn again : Bool}
  (hval : ∀ (j : Nat) t v, fn.params[j]? = some t → args[j]? = some v → Value.okWide C.P W .any base t v)
  (hW : DataW.Whole enc C.P fn.params.toList s.vars apart W args.toList ds gs before) (hB : ∀ d ∈ ds, bk d ≤ B) :
  Calls C.P f args W fun e W' => ∃ v, e = .returned v ∧ s.post enc C.P fn apart fresh handsOn again W args v W' := by
 have hW' := hW
 obtain ⟨p, q, hA, hV, rfl, hfz, hnd⟩ := hW
 rw [hvars] at hV
 obtain ⟨rfl, rfl⟩ := trodVars_none hV
 have hpar' : ∀ t ∈ fn.params.toList, t < C.P.types.size ∧ C.P.readableRec t = true ∧ Dr C.P t = true := by
  intro t ht
  have := List.all_eq_true.1 hpar t ht
  simpa using this
 obtain ⟨xs, g1, g2, g3, g4⟩ := AG hbk hl hpar' (fun j t v hj hv' => hval j t v (by simpa using hj) (by simpa using hv')) hA hB
 have hI : Inv r0 (hv W) (dk 0) W := by
  refine ⟨fun b c hb => ?_, fun _ _ => rfl, fun id cells loc h => by simp [dk] at h, fun id cells loc h => by simp [dk] at h, fun i j li lj ci cj h => by simp [dk] at h⟩
  unfold hv at hb
  split at hb
  ·
   rename_i c' T fz hh; cases hb; exact ⟨T, fz, hh⟩
  ·
   cases hb
 have hG : mB C (hv W) := by intro g cs h; rw [hgt] at h; cases h
 refine ((((hlaw xs g3).quiet (dk 0)).2 r0 (hv W) W args (by simpa using g1.symm) (fun i x y hx hy => g2 i x y hx (by simpa using hy)) hI hG).calls hcal).mono ?_
 rintro e W' ⟨y, r, s', ρ', V', rfl, ⟨rfl, rfl⟩, hrel, hinv, hg⟩
 have hy := Rel.v_inv hrel
 subst hy
 have hk : ∀ b, b < W.heap.size → W'.heap[b]? = W.heap[b]? := fun b hb => hg.keep b hb mI
 have hkept : W.keptBut W' (fun _ => False) := by
  refine ⟨hg.mem.os, hg.mem.out, fun i hi => ?_⟩
  rw [hk i hi]
  split <;> simp_all
 have hsame : ∀ x ∈ p, W.sameAt W' x := by
  intro x hx
  have hlt := hW'.lt x (by simpa using hx)
  cases x with
  | cell b o => exact World.cell?_of_block (w := W) (hk b hlt)
  | map b => exact hk b hlt
 have hfn : s.fn H (ds ++ []) = { results := [.lit (.bool true)], args := ds } := by rw [List.append_nil]; exact hs ds g4
 refine ⟨_, rfl, DR (before := p) (by simpa using hW') ?_ ?_ ?_ (World.keptBut_mono (fun x hx => hx.elim) hkept) hg.mem.frz (ok_one hres rfl (okWide_bool_mk htb _))⟩
 ·
  intro b sp hd
  rw [hres, hfn]
  exact trodAll_cons_mk (shut_bool htb _) trodAll_mk0
 ·
  intro sp hsp
  rw [hfn]
  exact yh hl (fun t ht => ⟨(hpar' t ht).1, (hpar' t ht).2.1⟩) hA hsame fun x hx => hsp x (by simpa using hx)
 ·
  intro sp _
  rw [hvars, hfn]
  exact rfl

section
variable {P : Program} {B : Nat} {t : TypeId} {x : AV}

theorem GI {k : IntKind} (hu : P.underlying t = some (.int k)) (h : TyV P B t x) : ∃ i, x = .v (.int k i) ∧ (Lit.int k i).wf = true := by
 obtain ⟨n, l, h1, h2⟩ := h
 simp only [hu] at h2
 subst h2
 cases n with
 | zero => exact h1.elim
 | succ n => simp only [Ty, hu] at h1; obtain ⟨i, hi, hw⟩ := h1; exact ⟨i, by simpa using hi, hw⟩

theorem ri {n : Nat} {l : List AV} {k : IntKind} (hu : P.underlying t = some (.int k)) (h : Ty P B n t l) : ∃ i, l = [.v (.int k i)] ∧ (Lit.int k i).wf = true := by
 cases n with
 | zero => exact h.elim
 | succ n => simp only [Ty, hu] at h; exact h
theorem GB {n : Nat} {l : List AV} (hu : P.underlying t = some .bool) (h : Ty P B n t l) : ∃ b, l = [.v (.bool b)] := by
 cases n with
 | zero => exact h.elim
 | succ n => simp only [Ty, hu] at h; exact h
theorem Cg {n : Nat} {l : List AV} {fs : Array Field} (hu : P.underlying t = some (.struct fs)) (h : Ty P B n t l) : ∃ m, AJ (Ty P B m) (fs.toList.map (·.type)) l := by
 cases n with
 | zero => exact h.elim
 | succ n => simp only [Ty, hu] at h; exact ⟨n, h⟩
theorem EE {n : Nat} {l : List AV} {e : TypeId} (hu : P.underlying t = some (.slice e)) (h : Ty P B n t l) : ∃ m, ∃ ls : List (List AV), l = [.imm ls.flatten ls.length] ∧ ls.length ≤ B ∧ ∀ c ∈ ls, Ty P B m e c := by
 cases n with
 | zero => exact h.elim
 | succ n => simp only [Ty, hu] at h; obtain ⟨ls, h1, h2⟩ := h; exact ⟨n, ls, h1, h2⟩
end

end Go.AX

/-! (AxV) -/

namespace Go.AX

def ob {α : Type} (x : Option α) (k : α → Prop) : Prop := match x with | some a => k a | none => False
theorem FE {α : Type} (a : α) (k : α → Prop) : ob (some a) k = k a := (rfl)
@[congr] theorem K3 {α : Type} {x y : Option α} {k : α → Prop} (h : x = y) : ob x k = ob y k := by rw [h]

def gsp (v : AV) (want : Bool) (A B : AS → Prop) (s : AS) : Prop := ∃ x, v = .v x ∧ (x = .bool want → A s) ∧ (x ≠ .bool want → B s)
@[congr] theorem J5 {v w : AV} {want : Bool} {A B : AS → Prop} {s : AS} (h : v = w) : gsp v want A B s = gsp w want A B s := by rw [h]
section
variable (A B : AS → Prop) (s : AS)
theorem Jj : gsp (.v (.bool true)) true A B s = A s := by
 apply propext; constructor
 ·
  rintro ⟨x, hx, h1, h2⟩; cases hx; exact h1 rfl
 ·
  intro h; exact ⟨_, rfl, fun _ => h, fun hh => absurd rfl hh⟩
theorem JI : gsp (.v (.bool false)) false A B s = A s := by
 apply propext; constructor
 ·
  rintro ⟨x, hx, h1, h2⟩; cases hx; exact h1 rfl
 ·
  intro h; exact ⟨_, rfl, fun _ => h, fun hh => absurd rfl hh⟩
theorem HM : gsp (.v (.bool true)) false A B s = B s := by
 apply propext; constructor
 ·
  rintro ⟨x, hx, h1, h2⟩; cases hx; exact h2 (by intro h; cases h)
 ·
  intro h; refine ⟨_, rfl, fun hh => ?_, fun _ => h⟩; cases hh
theorem I0 : gsp (.v (.bool false)) true A B s = B s := by
 apply propext; constructor
 ·
  rintro ⟨x, hx, h1, h2⟩; cases hx; exact h2 (by intro h; cases h)
 ·
  intro h; refine ⟨_, rfl, fun hh => ?_, fun _ => h⟩; cases hh
theorem IE (want : Bool) : gsp (.v undef) want A B s = B s := by
 apply propext; constructor
 ·
  rintro ⟨x, hx, h1, h2⟩; cases hx; exact h2 (by intro h; cases h)
 ·
  intro h; refine ⟨_, rfl, fun hh => ?_, fun _ => h⟩; cases hh
end

def isC : Op → Bool
 | .call c => match c.callee with
  | .value _ => true
  | _ => false
 | _ => false

def nw (d : Bool) (act : HAct) : Prop := d = true → act = .none
theorem Ev (act : HAct) : nw false act = True := by simp [nw]
theorem EW (d : Bool) : nw d .none = True := by simp [nw]

def kf (C : Ctx) (d : Bool) (fr : Nat) (c : Option (FuncId × List AV)) (s : HS) (k : AV → HS → Prop) : Prop :=
 ∃ f args, c = some (f, args) ∧ ((∃ r rd, z8 C f args s.objs rd r ∧ k r s) ∨ (d = false ∧ ((∃ R, Snd C f args s R ∧ ∀ r hs, R r hs → k r hs) ∨ (∃ e, jM C f args s fr e ∧ k e.val ⟨dc fr e.act s.objs, s.next⟩))))
@[congr] theorem GO {C : Ctx} {d : Bool} {fr : Nat} {c c' : Option (FuncId × List AV)} {s : HS} {k : AV → HS → Prop} (h : c = c') : kf C d fr c s k = kf C d fr c' s k := by rw [h]

theorem aQ {C : Ctx} {d : Bool} {fr : Nat} {f : FuncId} {args : List AV} {s : HS} {k : AV → HS → Prop} {r : AV} (h : SndP C f args r) (hk : k r s) : kf C d fr (some (f, args)) s k :=
 ⟨f, args, rfl, .inl ⟨r, [], h.qcall _, hk⟩⟩
theorem uF {C : Ctx} {fr : Nat} {f : FuncId} {args : List AV} {s : HS} {k : AV → HS → Prop} {R : AV → HS → Prop} (h : Snd C f args s R) (hk : ∀ r hs, R r hs → k r hs) : kf C false fr (some (f, args)) s k :=
 ⟨f, args, rfl, .inr ⟨rfl, .inl ⟨R, h, hk⟩⟩⟩
def xop (d : Bool) (C : Ctx) (fr : Nat) (dst : Option Nat) (op : Op) (s : AS) (k : AS → Prop) : Prop :=
 bif isC op then kf C d fr (dV C s op) s.toHS fun r hs => k { hs with tmps := jc s.tmps dst r }
 else ob (ce C s fr op) fun e => nw d e.act ∧ k (s.apply dst fr e)

def xw (d : Bool) (C : Ctx) (ds : List (Option Nat)) (base : Nat) : Nat → List Oper → AS → (AS → Prop) → Prop
 | _, [], s, K => K s
 | i, o :: rest, s, K => match o.guard with
  | none => xop d C (base + i) o.dst o.op s fun s' => xw d C ds base (i + 1) rest s' K
  | some (g, want) => ob ((ds[g]?).bind id) fun t => gsp (s.tmps t) want (fun s => xop d C (base + i) o.dst o.op s fun s' => xw d C ds base (i + 1) rest s' K)
    (fun s => xw d C ds base (i + 1) rest { s with tmps := jc s.tmps o.dst (.v undef) } K) s

section
variable {d : Bool} {C : Ctx} {ds : List (Option Nat)} {b i : Nat} {rest : List Oper} {K : AS → Prop} {k : AS → Prop} {dst : Option Nat} {op : Op} {ty : TypeId} {pos : String} {after : Array Edge} {objs : Nat → Ob} {nx : Nat} {t : Nat → AV} {fr : Nat} {x : AV}

theorem ap {l : List Oper} {s : AS} (h : xw d C ds b i l s K) : xw d C ds b i l s K := h
theorem Mq {s : AS} : xw d C ds b i [] s K = K s := (rfl)
theorem Ll : xw d C ds b i ({ dst := dst, op := op, type := ty, pos := pos, after := after, guard := none } :: rest) { objs := objs, next := nx, tmps := t } K =
  xop d C (b + i) dst op { objs := objs, next := nx, tmps := t } (fun s' => xw d C ds b (i + 1) rest s' K) := (rfl)
theorem M8 {g : Nat} {want : Bool} : xw d C ds b i ({ dst := dst, op := op, type := ty, pos := pos, after := after, guard := some (g, want) } :: rest) { objs := objs, next := nx, tmps := t } K =
  ob ((ds[g]?).bind id) (fun u => gsp (t u) want (fun s => xop d C (b + i) dst op s fun s' => xw d C ds b (i + 1) rest s' K)
    (fun s => xw d C ds b (i + 1) rest { s with tmps := jc s.tmps dst (.v undef) } K) { objs := objs, next := nx, tmps := t }) := (rfl)
theorem EU (a : Operand) : xop d C fr dst (.move a) { objs := objs, next := nx, tmps := t } k =
  ob (ce C { objs := objs, next := nx, tmps := t } fr (.move a)) (fun e => nw d e.act ∧ k (AS.apply { objs := objs, next := nx, tmps := t } dst fr e)) := (rfl)
theorem CO (a : Operand) : xop d C fr dst (.assign a) { objs := objs, next := nx, tmps := t } k =
  ob (ce C { objs := objs, next := nx, tmps := t } fr (.assign a)) (fun e => nw d e.act ∧ k (AS.apply { objs := objs, next := nx, tmps := t } dst fr e)) := (rfl)
theorem F6 (c a b : Operand) : xop d C fr dst (.pick c a b) { objs := objs, next := nx, tmps := t } k =
  ob (ce C { objs := objs, next := nx, tmps := t } fr (.pick c a b)) (fun e => nw d e.act ∧ k (AS.apply { objs := objs, next := nx, tmps := t } dst fr e)) := (rfl)
theorem Dp (a : TypeId) : xop d C fr dst (.alloc a) { objs := objs, next := nx, tmps := t } k =
  ob (ce C { objs := objs, next := nx, tmps := t } fr (.alloc a)) (fun e => nw d e.act ∧ k (AS.apply { objs := objs, next := nx, tmps := t } dst fr e)) := (rfl)
theorem Hg (a : TypeId) (v : Operand) : xop d C fr dst (.box a v) { objs := objs, next := nx, tmps := t } k =
  ob (ce C { objs := objs, next := nx, tmps := t } fr (.box a v)) (fun e => nw d e.act ∧ k (AS.apply { objs := objs, next := nx, tmps := t } dst fr e)) := (rfl)
theorem Dq (a : TypeId) (ps : Array (Nat × Operand)) : xop d C fr dst (.build a ps) { objs := objs, next := nx, tmps := t } k =
  ob (ce C { objs := objs, next := nx, tmps := t } fr (.build a ps)) (fun e => nw d e.act ∧ k (AS.apply { objs := objs, next := nx, tmps := t } dst fr e)) := (rfl)
theorem wY (a : TypeId) (m : Nat) (ps : Array (Nat × Operand)) : xop d C fr dst (.buildSlice a m ps) { objs := objs, next := nx, tmps := t } k =
  ob (ce C { objs := objs, next := nx, tmps := t } fr (.buildSlice a m ps)) (fun e => nw d e.act ∧ k (AS.apply { objs := objs, next := nx, tmps := t } dst fr e)) := (rfl)
theorem F5 (a : TypeId) (v : Operand) : xop d C fr dst (.load a v) { objs := objs, next := nx, tmps := t } k =
  ob (ce C { objs := objs, next := nx, tmps := t } fr (.load a v)) (fun e => nw d e.act ∧ k (AS.apply { objs := objs, next := nx, tmps := t } dst fr e)) := (rfl)
theorem C8 (a : TypeId) (u v : Operand) : xop d C fr dst (.store a u v) { objs := objs, next := nx, tmps := t } k =
  ob (ce C { objs := objs, next := nx, tmps := t } fr (.store a u v)) (fun e => nw d e.act ∧ k (AS.apply { objs := objs, next := nx, tmps := t } dst fr e)) := (rfl)
theorem Az (v : Operand) : xop d C fr dst (.nilCheck v) { objs := objs, next := nx, tmps := t } k =
  ob (ce C { objs := objs, next := nx, tmps := t } fr (.nilCheck v)) (fun e => nw d e.act ∧ k (AS.apply { objs := objs, next := nx, tmps := t } dst fr e)) := (rfl)
theorem DU (o : BinOp) (a : TypeId) (u v : Operand) (c : TypeId) : xop d C fr dst (.binOp o a u v c) { objs := objs, next := nx, tmps := t } k =
  ob (ce C { objs := objs, next := nx, tmps := t } fr (.binOp o a u v c)) (fun e => nw d e.act ∧ k (AS.apply { objs := objs, next := nx, tmps := t } dst fr e)) := (rfl)
theorem Fo (o : UnOp) (a : TypeId) (u : Operand) : xop d C fr dst (.unOp o a u) { objs := objs, next := nx, tmps := t } k =
  ob (ce C { objs := objs, next := nx, tmps := t } fr (.unOp o a u)) (fun e => nw d e.act ∧ k (AS.apply { objs := objs, next := nx, tmps := t } dst fr e)) := (rfl)
theorem AP (a c : TypeId) (u : Operand) : xop d C fr dst (.convert a c u) { objs := objs, next := nx, tmps := t } k =
  ob (ce C { objs := objs, next := nx, tmps := t } fr (.convert a c u)) (fun e => nw d e.act ∧ k (AS.apply { objs := objs, next := nx, tmps := t } dst fr e)) := (rfl)
theorem zS (f : Fn) (u v : Array Operand) : xop d C fr dst (.makeFunc f u v) { objs := objs, next := nx, tmps := t } k =
  ob (ce C { objs := objs, next := nx, tmps := t } fr (.makeFunc f u v)) (fun e => nw d e.act ∧ k (AS.apply { objs := objs, next := nx, tmps := t } dst fr e)) := (rfl)
theorem zr (a : TypeId) (u v : Operand) : xop d C fr dst (.makeSlice a u v) { objs := objs, next := nx, tmps := t } k =
  ob (ce C { objs := objs, next := nx, tmps := t } fr (.makeSlice a u v)) (fun e => nw d e.act ∧ k (AS.apply { objs := objs, next := nx, tmps := t } dst fr e)) := (rfl)
theorem Ea (a : TypeId) (u : Operand) (l h m : Option Operand) : xop d C fr dst (.slice a u l h m) { objs := objs, next := nx, tmps := t } k =
  ob (ce C { objs := objs, next := nx, tmps := t } fr (.slice a u l h m)) (fun e => nw d e.act ∧ k (AS.apply { objs := objs, next := nx, tmps := t } dst fr e)) := (rfl)
theorem y5 (a : TypeId) (u : Operand) (f : Nat) : xop d C fr dst (.fieldAddr a u f) { objs := objs, next := nx, tmps := t } k =
  ob (ce C { objs := objs, next := nx, tmps := t } fr (.fieldAddr a u f)) (fun e => nw d e.act ∧ k (AS.apply { objs := objs, next := nx, tmps := t } dst fr e)) := (rfl)
theorem Eo (a : TypeId) (u : Operand) (f : Nat) : xop d C fr dst (.field a u f) { objs := objs, next := nx, tmps := t } k =
  ob (ce C { objs := objs, next := nx, tmps := t } fr (.field a u f)) (fun e => nw d e.act ∧ k (AS.apply { objs := objs, next := nx, tmps := t } dst fr e)) := (rfl)
theorem yF (a : TypeId) (u v : Operand) : xop d C fr dst (.indexAddr a u v) { objs := objs, next := nx, tmps := t } k =
  ob (ce C { objs := objs, next := nx, tmps := t } fr (.indexAddr a u v)) (fun e => nw d e.act ∧ k (AS.apply { objs := objs, next := nx, tmps := t } dst fr e)) := (rfl)
theorem EI (a : TypeId) (u v : Operand) : xop d C fr dst (.index a u v) { objs := objs, next := nx, tmps := t } k =
  ob (ce C { objs := objs, next := nx, tmps := t } fr (.index a u v)) (fun e => nw d e.act ∧ k (AS.apply { objs := objs, next := nx, tmps := t } dst fr e)) := (rfl)
theorem Bq (u : Operand) (f : Nat) : xop d C fr dst (.extract u f) { objs := objs, next := nx, tmps := t } k =
  ob (ce C { objs := objs, next := nx, tmps := t } fr (.extract u f)) (fun e => nw d e.act ∧ k (AS.apply { objs := objs, next := nx, tmps := t } dst fr e)) := (rfl)
theorem Bl (f : Builtin) (us : Array Operand) (ts : Array TypeId) : xop d C fr dst (.call { callee := .builtin f, args := us, argTypes := ts }) { objs := objs, next := nx, tmps := t } k =
  ob (mF C.P { objs := objs, next := nx, tmps := t } fr f ts (us.toList.map (ev C { objs := objs, next := nx, tmps := t }))) (fun e => nw d e.act ∧ k (AS.apply { objs := objs, next := nx, tmps := t } dst fr e)) := (rfl)
theorem KI {f : Operand} {args : Array Operand} {ts : Array TypeId} : xop d C fr dst (.call { callee := .value f, args := args, argTypes := ts }) { objs := objs, next := nx, tmps := t } k =
  kf C d fr (dV C { objs := objs, next := nx, tmps := t } (.call { callee := .value f, args := args, argTypes := ts })) { objs := objs, next := nx } (fun r hs => k { hs with tmps := jc t dst r }) := (rfl)
theorem L6 {u : Nat} : AS.apply { objs := objs, next := nx, tmps := t } (some u) fr ⟨x, .none⟩ = { objs := objs, next := nx, tmps := upd t u x } := (rfl)
theorem Kt : AS.apply { objs := objs, next := nx, tmps := t } none fr ⟨x, .none⟩ = { objs := objs, next := nx, tmps := t } := (rfl)
theorem MA {u : Nat} {cs : List AV} : AS.apply { objs := objs, next := nx, tmps := t } (some u) fr ⟨x, .new cs⟩ = { objs := upd objs fr (.live cs), next := nx, tmps := upd t u x } := (rfl)
theorem KC {cs : List AV} : AS.apply { objs := objs, next := nx, tmps := t } none fr ⟨x, .new cs⟩ = { objs := upd objs fr (.live cs), next := nx, tmps := t } := (rfl)
theorem LP {u id off : Nat} {cs : List AV} : AS.apply { objs := objs, next := nx, tmps := t } (some u) fr ⟨x, .wr id off cs⟩ = { objs := dc fr (.wr id off cs) objs, next := nx, tmps := upd t u x } := (rfl)
theorem KQ {id off : Nat} {cs : List AV} : AS.apply { objs := objs, next := nx, tmps := t } none fr ⟨x, .wr id off cs⟩ = { objs := dc fr (.wr id off cs) objs, next := nx, tmps := t } := (rfl)
theorem Mz {u : Nat} {old : Option Nat} {cs : List AV} : AS.apply { objs := objs, next := nx, tmps := t } (some u) fr ⟨x, .app old cs⟩ = { objs := upd (kx objs old) fr (.live cs), next := nx, tmps := upd t u x } := (rfl)
end

theorem Bi {all : List Oper} {g t : Nat} (h : ((all.map (·.dst))[g]?).bind id = some t) : (all[g]?).bind (·.dst) = some t := by
 rw [List.getElem?_map] at h
 cases hg : all[g]? with
 | none => simp [hg] at h
 | some o => simp [hg] at h ⊢; exact h

theorem uI {C : Ctx} {s : AS} {op : Op} (h : isC op = false) : dV C s op = none := by
 cases op <;> try rfl
 rename_i c
 obtain ⟨callee, args, ts⟩ := c
 cases callee <;> first | rfl | cases h

theorem BJ {C : Ctx} {fr : Nat} {o : Oper} {s : AS} {k : AS → Prop} (h : xop false C fr o.dst o.op s k) : kh C s fr o k := by
 unfold xop at h
 unfold kh
 cases hc : isC o.op with
 | true =>
  rw [hc] at h
  obtain ⟨f, args, h1, h2⟩ := h
  rw [h1]
  rcases h2 with ⟨r, rd, h3, h4⟩ | ⟨_, ⟨R, h3, h4⟩ | ⟨e, h3, h4⟩⟩
  ·
   refine .inl ⟨_, h3 s.toHS (fun _ _ => .inl rfl), ?_⟩
   rintro r' hs' ⟨rfl, rfl⟩
   exact h4
  ·
   exact .inl ⟨R, h3, h4⟩
  ·
   exact .inr ⟨e, h3, h4⟩
 | false =>
  rw [hc] at h
  rw [uI hc]
  simp only [cond_false] at h
  unfold ob at h
  split at h
  ·
   rename_i e he
   rw [he]; exact h.2
  ·
   exact h.elim

theorem oQ {C : Ctx} {all : List Oper} {base : Nat} {K : AS → Prop} : ∀ (l : List Oper) (i : Nat) (s : AS), xw false C (all.map (·.dst)) base i l s K → kr C all base i l s K
 | [], _, _, h => h
 | o :: rest, i, s, h => by
  simp only [xw] at h
  simp only [kr]
  have hmono : ∀ {s : AS} {k k' : AS → Prop}, (∀ t, k t → k' t) → kh C s (base + i) o k → kh C s (base + i) o k' := by
   intro s k k' hk hs
   unfold kh at hs ⊢
   split at hs
   ·
    rcases hs with ⟨R, h1, h2⟩ | ⟨e, h1, h2⟩
    ·
     exact .inl ⟨R, h1, fun r hs' hr => hk _ (h2 r hs' hr)⟩
    ·
     exact .inr ⟨e, h1, hk _ h2⟩
   ·
    split at hs
    ·
     exact hk _ hs
    ·
     exact hs.elim
  split at h
  ·
   rename_i hg
   rw [hg]
   exact hmono (fun t ht => oQ rest (i + 1) t ht) (BJ h)
  ·
   rename_i g want hg
   rw [hg]
   simp only
   unfold ob at h
   split at h
   ·
    rename_i t ht
    rw [Bi ht]
    obtain ⟨x, hx, h1, h2⟩ := h
    exact ⟨x, hx, fun hh => hmono (fun t ht => oQ rest (i + 1) t ht) (BJ (h1 hh)), fun hh => oQ rest (i + 1) _ (h2 hh)⟩
   ·
    exact h.elim

def Cm (acc : List eK) : Prop := ∀ p ∈ acc, p.2.2 = []

theorem Cm.add {acc : List eK} (h : Cm acc) (i : Nat) (rd : gz) : Cm (eP (i, rd, []) acc) := by
 unfold eP
 split
 ·
  exact h
 ·
  intro p hp
  rcases List.mem_cons.1 hp with rfl | hp
  ·
   rfl
  ·
   exact h p hp

theorem Cm.ok {acc : List eK} (h : Cm acc) (all : List Oper) : bS all acc = true := by
 unfold bS
 rw [List.all_eq_true]
 intro x hx
 rw [List.all_eq_true]
 intro y hy
 have h1 := h x hx
 have h2 := h y hy
 have c1 : ∀ f, ek [] f = false := fun f => rfl
 have c2 : ∀ f, ek f [] = false := by intro f; rw [qy]; rfl
 simp [gh, h1, h2, c1, c2]

theorem rK {C : Ctx} {all : List Oper} {base : Nat} {K : AS → Prop} : ∀ (l : List Oper) (i : Nat) (s : AS) (acc : List eK), Cm acc → xw true C (all.map (·.dst)) base i l s K → dr C all base i l s acc K
 | [], _, _, acc, hn, h => ⟨hn.ok all, h⟩
 | o :: rest, i, s, acc, hn, h => by
  simp only [xw] at h
  have op : ∀ {s : AS}, (xop true C (base + i) o.dst o.op s fun s' => xw true C (all.map (·.dst)) base (i + 1) rest s' K) →
    (match dV C s o.op with
      | some (f, args) => ∃ e rd, ny C f args s.objs rd (base + i) e ∧ dr C all base (i + 1) rest (s.apply o.dst (base + i) e) (eP (i, rd, cG (base + i) e.act) acc) K
      | none => match ce C s (base + i) o.op with
       | some e => dr C all base (i + 1) rest (s.apply o.dst (base + i) e) (eP (i, fO C s o.op, cG (base + i) e.act) acc) K
       | none => False) := by
   intro s h
   unfold xop at h
   cases hc : isC o.op with
   | true =>
    rw [hc] at h
    obtain ⟨f, args, h1, h2⟩ := h
    rw [h1]
    rcases h2 with ⟨r, rd, h3, h4⟩ | ⟨h3, _⟩
    ·
     exact ⟨⟨r, .none⟩, rd, h3.toE _, rK rest (i + 1) _ _ (hn.add i rd) h4⟩
    ·
     cases h3
   | false =>
    rw [hc] at h
    rw [uI hc]
    simp only [cond_false] at h
    unfold ob at h
    split at h
    ·
     rename_i e he
     rw [he]
     have ha := h.1 rfl
     simp only [ha, cG]
     exact rK rest (i + 1) _ _ (hn.add i _) h.2
    ·
     exact h.elim
  simp only [dr]
  split at h
  ·
   rename_i hg
   rw [hg]
   have h2 := op h
   cases hc : dV C s o.op with
   | some p => obtain ⟨f, args⟩ := p; simp only [hc] at h2 ⊢; exact .inl h2
   | none => simp only [hc] at h2 ⊢; exact h2
  ·
   rename_i g want hg
   rw [hg]
   simp only
   unfold ob at h
   split at h
   ·
    rename_i t ht
    rw [Bi ht]
    obtain ⟨x, hx, h1, h2⟩ := h
    refine ⟨x, hx, fun hh => ?_, fun hh => rK rest (i + 1) _ acc hn (h2 hh)⟩
    have h3 := op (h1 hh)
    cases hc : dV C s o.op with
    | some p => obtain ⟨f, args⟩ := p; simp only [hc] at h3 ⊢; exact .inl h3
    | none => simp only [hc] at h3 ⊢; exact h3
   ·
    exact h.elim

theorem jJ {C : Ctx} {id : Nat} {ops : Array Oper} {draw : Bool} {Q : AExit → AS → Prop} {s : AS} (h : xw draw C (ops.toList.map (·.dst)) s.next 0 ops.toList { s with next := s.next + ops.size } (Q .normal)) : awp C (.region id ops draw) Q s := by
 cases draw with
 | false => exact oQ _ _ _ h
 | true => exact rK _ _ _ _ (fun p hp => by cases hp) h

theorem Ae {α : Type} (f : Nat → α) (k : Nat) : upd f k (f k) = f := by
 funext j; unfold upd; split
 ·
  rename_i h; rw [h]
 ·
  rfl

theorem eC {α : Type} (f : Nat → α) (k : Nat) (x : α) (j : Nat) : upd f k x j = if j = k then x else f j := rfl

end Go.AX

/-! (AxW) -/

namespace Go.AX

def kJ (K : AS → Prop) (Q : AExit → AS → Prop) : AExit → AS → Prop
 | .normal, s => K s
 | .exit j, s => Q (.exit j) s
 | .ret, s => Q .ret s

def jX (id : Nat) (Q : AExit → AS → Prop) : AExit → AS → Prop
 | .exit j, s => bif Nat.beq j id then Q .normal s else Q (.exit j) s
 | .normal, s => Q .normal s
 | .ret, s => Q .ret s

def mj (K : AS → Prop) (Q : AExit → AS → Prop) : AExit → AS → Prop
 | .normal, s => K s
 | .exit j, s => Q (.exit j) s
 | .ret, s => Q .ret s

section
variable {C : Ctx} {x y z : Code} {Q : AExit → AS → Prop} {s : AS}

theorem dB {C : Ctx} : ∀ (c : Code) {Q Q' : AExit → AS → Prop} {s : AS}, awp C c Q s → (∀ e t, Q e t → Q' e t) → awp C c Q' s := by
 intro c
 induction c with
 | skip => intro Q Q' s h hq; exact hq _ _ h
 | label l => intro Q Q' s h hq; exact hq _ _ h
 | exit id => intro Q Q' s h hq; exact hq _ _ h
 | ret => intro Q Q' s h hq; exact hq _ _ h
 | goto l => intro Q Q' s h hq; exact h.elim
 | refuse why => intro Q Q' s h hq; exact h.elim
 | scope c ih => intro Q Q' s h hq; exact h.elim
 | rangeFunc f ps x y ih1 ih2 => intro Q Q' s h hq; exact h.elim
 | region id ops draw =>
  intro Q Q' s h hq
  have hst : ∀ {all : List Oper} {base : Nat} (l : List Oper) (i : Nat) (s : AS), kr C all base i l s (Q .normal) → kr C all base i l s (Q' .normal) := by
   intro all base l
   induction l with
   | nil => intro i s h; exact hq _ _ h
   | cons o rest ih =>
    intro i s h
    have step : ∀ {s : AS}, (kh C s (base + i) o fun s' => kr C all base (i + 1) rest s' (Q .normal)) → kh C s (base + i) o fun s' => kr C all base (i + 1) rest s' (Q' .normal) := by
     intro s h
     unfold kh at h ⊢
     split at h
     ·
      rcases h with ⟨R, h1, h2⟩ | ⟨e, h1, h2⟩
      ·
       exact .inl ⟨R, h1, fun r hs hr => ih _ _ (h2 r hs hr)⟩
      ·
       exact .inr ⟨e, h1, ih _ _ h2⟩
     ·
      split at h
      ·
       exact ih _ _ h
      ·
       exact h.elim
    simp only [kr] at h ⊢
    split at h
    ·
     rename_i hg
     exact step h
    ·
     rename_i g want hg
     split at h
     ·
      rename_i d hd
      first | rw [hd] | skip
      obtain ⟨x, h1, h2, h3⟩ := h
      exact ⟨x, h1, fun hh => step (h2 hh), fun hh => ih _ _ (h3 hh)⟩
     ·
      exact h.elim
  have hdr : ∀ {all : List Oper} {base : Nat} (l : List Oper) (i : Nat) (s : AS) (acc : List eK), dr C all base i l s acc (Q .normal) → dr C all base i l s acc (Q' .normal) := by
   intro all base l
   induction l with
   | nil => intro i s acc h; exact ⟨h.1, hq _ _ h.2⟩
   | cons o rest ih =>
    intro i s acc h
    have step : ∀ {s : AS}, (match dV C s o.op with
      | some (f, args) => (∃ e rd, ny C f args s.objs rd (base + i) e ∧ dr C all base (i + 1) rest (s.apply o.dst (base + i) e) (eP (i, rd, cG (base + i) e.act) acc) (Q .normal)) ∨
        (dZ all i = true ∧ bS all acc = true ∧ ∃ R, Snd C f args s.toHS R ∧ ∀ r hs, R r hs → dr C all base (i + 1) rest { hs with tmps := jc s.tmps o.dst r } [] (Q .normal))
      | none => match ce C s (base + i) o.op with
       | some e => dr C all base (i + 1) rest (s.apply o.dst (base + i) e) (eP (i, fO C s o.op, cG (base + i) e.act) acc) (Q .normal)
       | none => False) → (match dV C s o.op with
      | some (f, args) => (∃ e rd, ny C f args s.objs rd (base + i) e ∧ dr C all base (i + 1) rest (s.apply o.dst (base + i) e) (eP (i, rd, cG (base + i) e.act) acc) (Q' .normal)) ∨
        (dZ all i = true ∧ bS all acc = true ∧ ∃ R, Snd C f args s.toHS R ∧ ∀ r hs, R r hs → dr C all base (i + 1) rest { hs with tmps := jc s.tmps o.dst r } [] (Q' .normal))
      | none => match ce C s (base + i) o.op with
       | some e => dr C all base (i + 1) rest (s.apply o.dst (base + i) e) (eP (i, fO C s o.op, cG (base + i) e.act) acc) (Q' .normal)
       | none => False) := by
     intro s h
     split at h
     ·
      rename_i f args hc
      rcases h with ⟨r, rd, h1, h2⟩ | ⟨hb, hp, R, h1, h2⟩
      ·
       exact .inl ⟨r, rd, h1, ih _ _ _ h2⟩
      ·
       exact .inr ⟨hb, hp, R, h1, fun r hs hr => ih _ _ _ (h2 r hs hr)⟩
     ·
      split at h
      ·
       exact ih _ _ _ h
      ·
       exact h.elim
    simp only [dr] at h ⊢
    split at h
    ·
     rename_i hg
     exact step h
    ·
     rename_i g want hg
     split at h
     ·
      rename_i d hd
      first | rw [hd] | skip
      obtain ⟨x, h1, h2, h3⟩ := h
      exact ⟨x, h1, fun hh => step (h2 hh), fun hh => ih _ _ _ (h3 hh)⟩
     ·
      exact h.elim
  cases draw with
  | false => exact hst _ _ _ h
  | true => exact hdr _ _ _ _ h
 | seq a b iha ihb =>
  intro Q Q' s h hq
  refine iha h ?_
  intro e t ht
  cases e with
  | normal => obtain ⟨u, h1, h2⟩ := ht; exact ⟨u, h1, ihb h2 hq⟩
  | exit j => exact hq _ _ ht
  | ret => exact hq _ _ ht
 | cond c a b iha ihb =>
  intro Q Q' s h hq
  simp only [awp] at h ⊢
  split at h
  ·
   exact ⟨fun hb => iha (h.1 hb) hq, fun hb => ihb (h.2 hb) hq⟩
  ·
   exact h.elim
 | block id c ih =>
  intro Q Q' s h hq
  refine ih h ?_
  intro e t ht
  cases e with
  | normal => exact hq _ _ ht
  | ret => exact hq _ _ ht
  | exit j =>
   simp only at ht ⊢
   split at ht
   ·
    rename_i hj; rw [if_pos hj]; exact hq _ _ ht
   ·
    rename_i hj; rw [if_neg hj]; exact hq _ _ ht
 | loop c ih =>
  intro Q Q' s h hq
  obtain ⟨I, μ, h0, h1⟩ := h
  refine ⟨I, μ, h0, fun t ht => ih (h1 t ht) ?_⟩
  intro e t' ht'
  cases e with
  | normal => exact ht'
  | exit j => exact hq _ _ ht'
  | ret => exact hq _ _ ht'

theorem jj (h : awp C x (kJ (fun t => ∃ u, Wk C t u ∧ awp C y Q u) Q) s) : awp C (.seq x y) Q s := by
 refine dB x h ?_
 intro e t ht
 cases e <;> exact ht

theorem jo (h : awp C x (kJ (awp C y Q) Q) s) : awp C (.seq x y) Q s := by
 refine dB x h ?_
 intro e t ht
 cases e
 ·
  exact ⟨t, Wk.refl _ _, ht⟩
 ·
  exact ht
 ·
  exact ht

theorem kC (h : awp C (.seq x y) Q s) : awp C x (kJ (fun t => ∃ u, Wk C t u ∧ awp C y Q u) Q) s := by
 refine dB x h ?_
 intro e t ht
 cases e <;> exact ht

theorem aj (h : awp C (.seq x (.seq y z)) Q s) : awp C (.seq (.seq x y) z) Q s := by
 refine dB (.seq x y) (Q := kJ (fun t => ∃ u, Wk C t u ∧ awp C z Q u) Q) (jj (dB x (kC h) ?_)) ?_
 ·
  intro e t ht
  cases e with
  | normal => obtain ⟨u, h1, h2⟩ := ht; exact ⟨u, h1, kC h2⟩
  | exit j => exact ht
  | ret => exact ht
 ·
  intro e t ht
  cases e <;> exact ht

theorem rD {id : Nat} {ops : Array Oper} {draw : Bool} (h : ∀ K : AS → Prop, (∀ t, awp C y Q t → K t) → xw draw C (ops.toList.map (·.dst)) s.next 0 ops.toList { s with next := s.next + ops.size } K) : awp C (.seq (.region id ops draw) y) Q s :=
 jo (jJ (h _ fun _ ht => ht))

theorem vN {id : Nat} {ops : Array Oper} {draw : Bool} (h : ∀ K : AS → Prop, (∀ t, Q .normal t → K t) → xw draw C (ops.toList.map (·.dst)) s.next 0 ops.toList { s with next := s.next + ops.size } K) : awp C (.region id ops draw) Q s :=
 jJ (h _ fun _ ht => ht)

theorem aO (h : awp C y Q s) : awp C (.seq .skip y) Q s := ⟨s, Wk.refl _ _, h⟩
theorem cS (h : Q .normal s) : awp C .skip Q s := h
theorem bB (h : Q .ret s) : awp C (.seq .ret y) Q s := jo h
theorem aL (h : Q .ret s) : awp C .ret Q s := h
theorem cx {id : Nat} (h : Q (.exit id) s) : awp C (.seq (.exit id) y) Q s := jo h
theorem bC {c : Operand} {b : Bool} (hc : ev C s c = .v (.bool b)) (h1 : b = true → awp C x Q s) (h2 : b = false → awp C y Q s) : awp C (.cond c x y) Q s := by
 simp only [awp, hc]
 exact ⟨h1, h2⟩

theorem aN {c : Operand} {b : Bool} (hc : ev C s c = .v (.bool b)) (h1 : b = true → awp C (.seq x z) Q s) (h2 : b = false → awp C (.seq y z) Q s) : awp C (.seq (.cond c x y) z) Q s :=
 jj (bC hc (fun hb => kC (h1 hb)) fun hb => kC (h2 hb))

theorem bp {id : Nat} (h : awp C x (jX id Q) s) : awp C (.block id x) Q s := by
 refine dB x h ?_
 intro e t ht
 cases e with
 | normal => exact ht
 | ret => exact ht
 | exit j =>
  simp only [jX] at ht
  by_cases hj : j = id
  ·
   subst hj
   simp only [if_true]
   simpa using ht
  ·
   simp only [if_neg hj]
   have : Nat.beq j id = false := Bool.eq_false_iff.2 fun hh => hj (Nat.eq_of_beq_eq_true hh)
   simpa [this] using ht

theorem xE {id : Nat} (h : awp C x (jX id (kJ (awp C y Q) Q)) s) : awp C (.seq (.block id x) y) Q s := jo (bp h)

theorem rr (I : AS → Prop) (μ : AS → Nat) (h0 : ∃ s0, Wk C s s0 ∧ I s0) (h : ∀ t, I t → awp C x (mj (fun t' => ∃ t'', Wk C t' t'' ∧ I t'' ∧ μ t'' < μ t) Q) t) : awp C (.loop x) Q s := by
 refine ⟨I, μ, h0, fun t ht => ?_⟩
 refine dB x (h t ht) ?_
 intro e t' ht'
 cases e <;> exact ht'

theorem Bg {K : AS → Prop} : kJ K Q .normal s = K s := rfl
theorem BE {id : Nat} : jX id Q .normal s = Q .normal s := rfl
theorem EC {id : Nat} : jX id Q (.exit id) s = Q .normal s := by simp [jX]
theorem DS {id j : Nat} (h : Nat.beq j id = false) : jX id Q (.exit j) s = Q (.exit j) s := by simp [jX, h]

end

end Go.AX

/-! (AxX) -/

namespace Go.AX

section
variable {C : Ctx} {x y : Code} {Q : AExit → AS → Prop} {s : AS}

open Classical in
theorem vf (J : Nat → AS → Prop) (n : Nat) (h0 : ∃ s0, Wk C s s0 ∧ J n s0) (h : ∀ n t, J n t → awp C x (mj (fun t' => ∃ t'', Wk C t' t'' ∧ ∃ m, m < n ∧ J m t'') Q) t) : awp C (.loop x) Q s := by
 let ex : AS → Prop := fun t => ∃ n, J n t
 have least : ∀ t, ex t → ∃ n, J n t ∧ ∀ m, J m t → n ≤ m := by
  intro t ht
  have key : ∀ k, J k t → ∃ n, J n t ∧ ∀ m, J m t → n ≤ m := by
   intro k
   induction k using Nat.strongRecOn with
   | _ k ih =>
    intro hk
    by_cases hh : ∃ j, j < k ∧ J j t
    ·
     obtain ⟨j, hj, hjj⟩ := hh; exact ih j hj hjj
    ·
     refine ⟨k, hk, fun m hm => ?_⟩
     rcases Nat.lt_or_ge m k with h1 | h1
     ·
      exact absurd ⟨m, h1, hm⟩ hh
     ·
      exact h1
  obtain ⟨k, hk⟩ := ht
  exact key k hk
 let μ : AS → Nat := fun t => if ht : ex t then Classical.choose (least t ht) else 0
 have hμ : ∀ t, ex t → J (μ t) t ∧ ∀ m, J m t → μ t ≤ m := by
  intro t ht
  have := Classical.choose_spec (least t ht)
  simp only [μ, dif_pos ht]
  exact this
 obtain ⟨s0, hwk0, h0⟩ := h0
 refine rr ex μ ⟨s0, hwk0, n, h0⟩ fun t ht => ?_
 obtain ⟨h1, _⟩ := hμ t ht
 refine dB x (h _ t h1) ?_
 intro e t' ht'
 cases e with
 | normal =>
  obtain ⟨t'', hwk, m, hm, hj⟩ := ht'
  have := (hμ t'' ⟨m, hj⟩).2 m hj
  exact ⟨t'', hwk, ⟨m, hj⟩, by omega⟩
 | exit j => exact ht'
 | ret => exact ht'

theorem xO {c : Operand} {z : Code} (hc : ev C s c = .v (.bool false)) (h : awp C (.seq y z) Q s) : awp C (.seq (.cond c x y) z) Q s := aN hc (fun h => by cases h) (fun _ => h)
end

def arg (l : List AV) (t : Nat) : AV := l.getD t (.v undef)
theorem Ds (l : List AV) (s : HS) : gc l s = { s with tmps := arg l } := rfl
theorem Kn (a : AV) (l : List AV) : arg (a :: l) 0 = a := rfl
theorem Ki (a : AV) (l : List AV) (t : Nat) : arg (a :: l) (t + 1) = arg l t := rfl

theorem yt {x : Int} (h1 : -9223372036854775808 ≤ x) (h2 : x ≤ 9223372036854775807) : IntKind.wrap .i64 x = x := by
 have e1 : ((2 : Int) ^ 64) = 18446744073709551616 := by decide
 have e2 : ((2 : Int) ^ 63) = 9223372036854775808 := by decide
 simp only [IntKind.wrap, IntKind.signed, IntKind.bits, Bool.true_and, e1, e2, show 64 - 1 = 63 from rfl]
 split
 ·
  rename_i h; simp at h; omega
 ·
  rename_i h; simp at h; omega

theorem Ac {α : Type} {f : α → List AV} {sz : Nat} (hf : ∀ a, (f a).length = sz) : ∀ (l : List α) (i : Nat) (a : α) (o : Nat), l[i]? = some a → o < sz → (l.flatMap f)[i * sz + o]? = (f a)[o]?
 | [], i, a, o, h, _ => by simp at h
 | b :: l, 0, a, o, h, ho => by
  simp at h; subst h
  rw [List.flatMap_cons, List.getElem?_append_left (by rw [hf]; omega)]; simp
 | b :: l, i + 1, a, o, h, ho => by
  simp at h
  rw [List.flatMap_cons, List.getElem?_append_right (by rw [hf]; rw [Nat.add_mul]; omega)]
  have := Ac hf l i a o h ho
  rw [← this, hf]
  congr 1
  rw [Nat.add_mul]; omega

theorem fc {α : Type} {f : α → List AV} {sz : Nat} (hf : ∀ a, (f a).length = sz) : ∀ (l : List α), (l.flatMap f).length = l.length * sz
 | [] => by simp
 | b :: l => by rw [List.flatMap_cons, List.length_append, hf, fc hf l, List.length_cons, Nat.add_mul]; omega

theorem zH {α : Type} {f : α → List AV} {sz : Nat} (hf : ∀ a, (f a).length = sz) : ∀ (l : List α) (i : Nat) (a : α), l[i]? = some a → ((l.flatMap f).drop (i * sz)).take sz = f a
 | [], i, a, h => by simp at h
 | b :: l, 0, a, h => by
  simp at h; subst h
  rw [List.flatMap_cons, Nat.zero_mul, List.drop_zero, List.take_append_of_le_length (by rw [hf]; omega), List.take_of_length_le (by rw [hf]; omega)]
 | b :: l, i + 1, a, h => by
  simp at h
  rw [List.flatMap_cons, List.drop_append, hf]
  rw [List.drop_of_length_le (by rw [hf, Nat.add_mul]; omega), List.nil_append]
  rw [show (i + 1) * sz - sz = i * sz by rw [Nat.add_mul]; omega]
  exact zH hf l i a h

theorem FI {C : Ctx} {d : Bool} {fr : Nat} {f : FuncId} {args : List AV} {s : HS} {k : AV → HS → Prop} {r : AV} (h : SndP C f (args.map (fz (fun _ => .dead) gM)) r) (hk : k r s) : kf C d fr (some (f, args)) s k := aQ h.norm hk

theorem rp {k : IntKind} {x : AV} (h : oy (some k) x = true) : ∃ a, x = .v (.int k a) := by
 unfold oy at h
 split at h
 ·
  rename_i k1 k2 n h1
  cases h1
  exact ⟨n, by rw [eq_of_beq h]⟩
 ·
  rename_i h1; cases h1
 ·
  cases h
theorem pg {x : AV} (h : oy none x = true) : ∃ a, x = .v (.bool a) := by
 unfold oy at h
 split at h
 ·
  rename_i h1; cases h1
 ·
  exact ⟨_, rfl⟩
 ·
  cases h
theorem Gk (cells : List AV) (off : Nat) (x : AV) : cC cells off [x] = cells.set off x := rfl
theorem CX (cells : List AV) (off : Nat) (x y : AV) (r : List AV) : cC cells off (x :: y :: r) = if off + (x :: y :: r).length ≤ cells.length then cells.take off ++ (x :: y :: r) ++ cells.drop (off + (x :: y :: r).length) else cells := rfl
end Go.AX

/-! (AxY) -/

namespace Go.AX

def bc (objs : Nat → Ob) : Nat → AV → gz
 | 0, _ => []
 | n + 1, .ref id _ _ _ => match objs id with
  | .live cells => (id, none) :: cells.flatMap (bc objs n)
  | .froz cells => (id, none) :: cells.flatMap (bc objs n)
  | .dead => [(id, none)]
 | n + 1, .ptr id _ => match objs id with
  | .live cells => (id, none) :: cells.flatMap (bc objs n)
  | .froz cells => (id, none) :: cells.flatMap (bc objs n)
  | .dead => [(id, none)]
 | n + 1, .agg cs => cs.flatMap (bc objs n)
 | n + 1, .tup cs => cs.flatMap (bc objs n)
 | n + 1, .imm cs _ => cs.flatMap (bc objs n)
 | n + 1, .iptr cs _ => cs.flatMap (bc objs n)
 | n + 1, .clo _ a b => a.flatMap (bc objs n) ++ b.flatMap (bc objs n)
 | _ + 1, .v _ => []
 | _ + 1, .unk => []
 | _ + 1, .refc _ _ _ _ _ => []

theorem jG {x y : Ob} (h : sk none x y) : y = x := by
 rcases h with h | ⟨off, n, c, c', h1, _⟩
 ·
  exact h.symm
 ·
  cases h1

theorem fj {f g : gz} {x y : Nat → Ob} (h : fH f x y) (hs : ∀ p ∈ g, p ∈ f) : fH g x y := fun p hp => h p (hs p hp)

theorem so {objs objs' : Nat → Ob} : ∀ (n : Nat) (x : AV), fH (bc objs n x) objs objs' → fz objs' n x = fz objs n x
 | 0, x, _ => rfl
 | n + 1, x, h => by
  have ih : ∀ cs : List AV, fH (cs.flatMap (bc objs n)) objs objs' → cs.map (fz objs' n) = cs.map (fz objs n) := by
   intro cs hc
   refine List.map_congr_left fun c hcm => so n c (fj hc fun p hp => List.mem_flatMap.2 ⟨c, hcm, hp⟩)
  have ihs : ∀ (cs : List AV) (k m : Nat), fH (cs.flatMap (bc objs n)) objs objs' → ((cs.drop k).take m).map (fz objs' n) = ((cs.drop k).take m).map (fz objs n) := by
   intro cs k m hc
   refine List.map_congr_left fun c hcm => so n c (fj hc fun p hp => List.mem_flatMap.2 ⟨c, List.mem_of_mem_drop (List.mem_of_mem_take hcm), hp⟩)
  cases x with
  | v x => rfl
  | unk => rfl
  | refc _ _ _ _ _ => rfl
  | agg cs => simp only [fz]; rw [ih cs h]
  | tup cs => simp only [fz]; rw [ih cs h]
  | imm cs k => simp only [fz]; rw [ih cs h]
  | iptr cs k => simp only [fz]; rw [ih cs h]
  | clo f a b =>
   simp only [fz]
   rw [ih a (fj h fun p hp => by simp only [bc]; exact List.mem_append_left _ hp), ih b (fj h fun p hp => by simp only [bc]; exact List.mem_append_right _ hp)]
  | ref id off len sz =>
   cases ho : objs id with
   | dead =>
    have := jG (h (id, none) (by simp [bc, ho]))
    simp only [fz, this, ho]
   | live cells =>
    have := jG (h (id, none) (by simp [bc, ho]))
    simp only [fz, this, ho]
    rw [ihs cells off (len * sz) (fj h fun p hp => by simp only [bc, ho]; exact List.mem_cons_of_mem _ hp)]
   | froz cells =>
    have := jG (h (id, none) (by simp [bc, ho]))
    simp only [fz, this, ho]
    rw [ihs cells off (len * sz) (fj h fun p hp => by simp only [bc, ho]; exact List.mem_cons_of_mem _ hp)]
  | ptr id off =>
   cases ho : objs id with
   | dead =>
    have := jG (h (id, none) (by simp [bc, ho]))
    simp only [fz, this, ho]
   | live cells =>
    have := jG (h (id, none) (by simp [bc, ho]))
    simp only [fz, this, ho]
    rw [ih cells (fj h fun p hp => by simp only [bc, ho]; exact List.mem_cons_of_mem _ hp)]
   | froz cells =>
    have := jG (h (id, none) (by simp [bc, ho]))
    simp only [fz, this, ho]
    rw [ih cells (fj h fun p hp => by simp only [bc, ho]; exact List.mem_cons_of_mem _ hp)]

theorem SndP.qlend {C : Ctx} {f : FuncId} {args : List AV} {r : AV} {objs : Nat → Ob} (h : SndP C f (args.map (fz objs gM)) r) (hb : kP r) : z8 C f args objs (args.flatMap (bc objs gM)) r := by
 intro hs hag
 refine SndP.lend hs ?_ hb
 have : args.map (fz hs.objs gM) = args.map (fz objs gM) := List.map_congr_left fun c hc => so gM c (fj hag fun p hp => List.mem_flatMap.2 ⟨c, hc, hp⟩)
 rw [this]; exact h

theorem E7 {C : Ctx} {d : Bool} {fr : Nat} {f : FuncId} {args : List AV} {s : HS} {k : AV → HS → Prop} {r : AV} (h : SndP C f (args.map (fz s.objs gM)) r) (hb : kP r) (hk : k r s) : kf C d fr (some (f, args)) s k :=
 ⟨f, args, rfl, .inl ⟨r, _, h.qlend hb, hk⟩⟩

def zW : Nat → AV → Bool
 | 0, _ => false
 | _ + 1, .v _ => true
 | n + 1, .agg cs => cs.all (zW n)
 | n + 1, .tup cs => cs.all (zW n)
 | _, _ => false

theorem ve : ∀ (n : Nat) (x : AV), zW n x = true → kP x
 | 0, _, h => by cases h
 | n + 1, x, h => by
  cases x <;> simp only [zW] at h <;> try (cases h; done)
  ·
   exact kP.v _
  ·
   rw [List.all_eq_true] at h; exact kP.agg fun c hc => ve n c (h c hc)
  ·
   rw [List.all_eq_true] at h; exact kP.tup fun c hc => ve n c (h c hc)

end Go.AX

/-! (AxZ) -/

namespace Go.AX

def jp (C : Ctx) (fr : Nat) (c : Option (FuncId × List AV)) (objs : Nat → Ob) (k : Eff → gz → Prop) (kb : FuncId → List AV → Prop) : Prop :=
 ∃ f args, c = some (f, args) ∧ ((∃ e rd, ny C f args objs rd fr e ∧ k e rd) ∨ kb f args)
@[congr] theorem Fx {C : Ctx} {fr : Nat} {c c' : Option (FuncId × List AV)} {objs : Nat → Ob} {k : Eff → gz → Prop} {kb : FuncId → List AV → Prop} (h : c = c') : jp C fr c objs k kb = jp C fr c' objs k kb := by rw [h]

theorem An {C : Ctx} {fr : Nat} {f : FuncId} {args : List AV} {objs : Nat → Ob} {k : Eff → gz → Prop} {kb : FuncId → List AV → Prop} {e : Eff} {rd : gz} (h : ny C f args objs rd fr e) (hk : k e rd) : jp C fr (some (f, args)) objs k kb :=
 ⟨f, args, rfl, .inl ⟨e, rd, h, hk⟩⟩
theorem fe {C : Ctx} {fr : Nat} {f : FuncId} {args : List AV} {objs : Nat → Ob} {k : Eff → gz → Prop} {kb : FuncId → List AV → Prop} {r : AV} (h : SndP C f args r) (hk : k ⟨r, .none⟩ []) : jp C fr (some (f, args)) objs k kb :=
 ⟨f, args, rfl, .inl ⟨_, [], (h.qcall _).toE fr, hk⟩⟩
def FJ (C : Ctx) (all : List Oper) (i : Nat) (dst : Option Nat) (s : AS) (acc : List eK) (k : AS → List eK → Prop) (f : FuncId) (args : List AV) : Prop :=
 dZ all i = true ∧ bS all acc = true ∧ ∃ R, Snd C f args s.toHS R ∧ ∀ r hs, R r hs → k { hs with tmps := jc s.tmps dst r } []

theorem D3 {C : Ctx} {fr : Nat} {f : FuncId} {args : List AV} {objs objs' : Nat → Ob} {nx : Nat} {tm : Nat → AV} {k : Eff → gz → Prop} {all : List Oper} {i : Nat} {dst : Option Nat} {acc : List eK} {k' : AS → List eK → Prop} {R : AV → HS → Prop}
  (hb : dZ all i = true) (hp : bS all acc = true) (h : Snd C f args ⟨objs', nx⟩ R) (hk : ∀ r hs, R r hs → k' { hs with tmps := jc tm dst r } []) :
  jp C fr (some (f, args)) objs k (FJ C all i dst { objs := objs', next := nx, tmps := tm } acc k') :=
 ⟨f, args, rfl, .inr ⟨hb, hp, R, h, hk⟩⟩

def gI (C : Ctx) (all : List Oper) (base i : Nat) (dst : Option Nat) (op : Op) (s : AS) (acc : List eK) (k : AS → List eK → Prop) : Prop :=
 bif isC op then jp C (base + i) (dV C s op) s.objs (fun e rd => k (s.apply dst (base + i) e) (eP (i, rd, cG (base + i) e.act) acc)) (FJ C all i dst s acc k)
 else ob (ce C s (base + i) op) fun e => k (s.apply dst (base + i) e) (eP (i, fO C s op, cG (base + i) e.act) acc)

def xd (C : Ctx) (all : List Oper) (ds : List (Option Nat)) (base : Nat) : Nat → List Oper → AS → List eK → (AS → Prop) → Prop
 | _, [], s, acc, K => bS all acc = true ∧ K s
 | i, o :: rest, s, acc, K => match o.guard with
  | none => gI C all base i o.dst o.op s acc fun s' acc' => xd C all ds base (i + 1) rest s' acc' K
  | some (g, want) => ob ((ds[g]?).bind id) fun t => gsp (s.tmps t) want (fun s => gI C all base i o.dst o.op s acc fun s' acc' => xd C all ds base (i + 1) rest s' acc' K)
    (fun s => xd C all ds base (i + 1) rest { s with tmps := jc s.tmps o.dst (.v undef) } acc K) s

theorem kE {C : Ctx} {all : List Oper} {base : Nat} {K : AS → Prop} : ∀ (l : List Oper) (i : Nat) (s : AS) (acc : List eK), xd C all (all.map (·.dst)) base i l s acc K → dr C all base i l s acc K
 | [], _, _, _, h => h
 | o :: rest, i, s, acc, h => by
  simp only [xd] at h
  have opB : ∀ {s : AS}, (gI C all base i o.dst o.op s acc fun s' acc' => xd C all (all.map (·.dst)) base (i + 1) rest s' acc' K) →
    (match dV C s o.op with
      | some (f, args) => (∃ e rd, ny C f args s.objs rd (base + i) e ∧ dr C all base (i + 1) rest (s.apply o.dst (base + i) e) (eP (i, rd, cG (base + i) e.act) acc) K) ∨
        (dZ all i = true ∧ bS all acc = true ∧ ∃ R, Snd C f args s.toHS R ∧ ∀ r hs, R r hs → dr C all base (i + 1) rest { hs with tmps := jc s.tmps o.dst r } [] K)
      | none => match ce C s (base + i) o.op with
       | some e => dr C all base (i + 1) rest (s.apply o.dst (base + i) e) (eP (i, fO C s o.op, cG (base + i) e.act) acc) K
       | none => False) := by
   intro s h
   unfold gI at h
   cases hc : isC o.op with
   | true =>
    rw [hc] at h
    obtain ⟨f, args, h1, h2⟩ := h
    rw [h1]
    rcases h2 with ⟨e, rd, h2, h3⟩ | ⟨hb, hp, R, h2, h3⟩
    ·
     exact .inl ⟨e, rd, h2, kE rest (i + 1) _ _ h3⟩
    ·
     exact .inr ⟨hb, hp, R, h2, fun r hs hr => kE rest (i + 1) _ _ (h3 r hs hr)⟩
   | false =>
    rw [hc] at h
    rw [uI hc]
    simp only [cond_false] at h
    unfold ob at h
    split at h
    ·
     rename_i e he
     rw [he]
     exact kE rest (i + 1) _ _ h
    ·
     exact h.elim
  simp only [dr]
  split at h
  ·
   rename_i hg
   rw [hg]
   exact opB h
  ·
   rename_i g want hg
   rw [hg]
   simp only
   unfold ob at h
   split at h
   ·
    rename_i t ht
    rw [Bi ht]
    obtain ⟨x, hx, h1, h2⟩ := h
    exact ⟨x, hx, fun hh => opB (h1 hh), fun hh => kE rest (i + 1) _ acc (h2 hh)⟩
   ·
    exact h.elim

section
variable {C : Ctx} {all : List Oper} {ds : List (Option Nat)} {b i : Nat} {rest : List Oper} {K : AS → Prop} {k : AS → List eK → Prop} {dst : Option Nat} {op : Op} {ty : TypeId} {pos : String} {after : Array Edge} {objs : Nat → Ob} {nx : Nat} {t : Nat → AV} {acc : List eK} {y : Code} {Q : AExit → AS → Prop}

theorem cu {l : List Oper} {s : AS} (h : xd C all ds b i l s acc K) : xd C all ds b i l s acc K := h
theorem MG {s : AS} : xd C all ds b i [] s acc K = (bS all acc = true ∧ K s) := (rfl)
theorem Mh : xd C all ds b i ({ dst := dst, op := op, type := ty, pos := pos, after := after, guard := none } :: rest) { objs := objs, next := nx, tmps := t } acc K =
  gI C all b i dst op { objs := objs, next := nx, tmps := t } acc (fun s' acc' => xd C all ds b (i + 1) rest s' acc' K) := (rfl)
theorem Mi {g : Nat} {want : Bool} : xd C all ds b i ({ dst := dst, op := op, type := ty, pos := pos, after := after, guard := some (g, want) } :: rest) { objs := objs, next := nx, tmps := t } acc K =
  ob ((ds[g]?).bind id) (fun u => gsp (t u) want (fun s => gI C all b i dst op s acc fun s' acc' => xd C all ds b (i + 1) rest s' acc' K)
    (fun s => xd C all ds b (i + 1) rest { s with tmps := jc s.tmps dst (.v undef) } acc K) { objs := objs, next := nx, tmps := t }) := (rfl)
theorem HI {f : Operand} {args : Array Operand} {ts : Array TypeId} : gI C all b i dst (.call { callee := .value f, args := args, argTypes := ts }) { objs := objs, next := nx, tmps := t } acc k =
  jp C (b + i) (dV C { objs := objs, next := nx, tmps := t } (.call { callee := .value f, args := args, argTypes := ts })) objs (fun e rd => k (AS.apply { objs := objs, next := nx, tmps := t } dst (b + i) e) (eP (i, rd, cG (b + i) e.act) acc)) (FJ C all i dst { objs := objs, next := nx, tmps := t } acc k) := (rfl)
theorem JR {f : Builtin} {us : Array Operand} {ts : Array TypeId} : gI C all b i dst (.call { callee := .builtin f, args := us, argTypes := ts }) { objs := objs, next := nx, tmps := t } acc k =
  ob (mF C.P { objs := objs, next := nx, tmps := t } (b + i) f ts (us.toList.map (ev C { objs := objs, next := nx, tmps := t }))) (fun e => k (AS.apply { objs := objs, next := nx, tmps := t } dst (b + i) e)
   (eP (i, fO C { objs := objs, next := nx, tmps := t } (.call { callee := .builtin f, args := us, argTypes := ts }), cG (b + i) e.act) acc)) := (rfl)
theorem ES (a : Operand) : gI C all b i dst (.move a) { objs := objs, next := nx, tmps := t } acc k =
  ob (ce C { objs := objs, next := nx, tmps := t } (b + i) (.move a)) (fun e => k (AS.apply { objs := objs, next := nx, tmps := t } dst (b + i) e) (eP (i, fO C { objs := objs, next := nx, tmps := t } (.move a), cG (b + i) e.act) acc)) := (rfl)
theorem Cu (a : Operand) : gI C all b i dst (.assign a) { objs := objs, next := nx, tmps := t } acc k =
  ob (ce C { objs := objs, next := nx, tmps := t } (b + i) (.assign a)) (fun e => k (AS.apply { objs := objs, next := nx, tmps := t } dst (b + i) e) (eP (i, fO C { objs := objs, next := nx, tmps := t } (.assign a), cG (b + i) e.act) acc)) := (rfl)
theorem EM (c a a2 : Operand) : gI C all b i dst (.pick c a a2) { objs := objs, next := nx, tmps := t } acc k =
  ob (ce C { objs := objs, next := nx, tmps := t } (b + i) (.pick c a a2)) (fun e => k (AS.apply { objs := objs, next := nx, tmps := t } dst (b + i) e) (eP (i, fO C { objs := objs, next := nx, tmps := t } (.pick c a a2), cG (b + i) e.act) acc)) := (rfl)
theorem Dl (a : TypeId) : gI C all b i dst (.alloc a) { objs := objs, next := nx, tmps := t } acc k =
  ob (ce C { objs := objs, next := nx, tmps := t } (b + i) (.alloc a)) (fun e => k (AS.apply { objs := objs, next := nx, tmps := t } dst (b + i) e) (eP (i, fO C { objs := objs, next := nx, tmps := t } (.alloc a), cG (b + i) e.act) acc)) := (rfl)
theorem Hl (a : TypeId) (v : Operand) : gI C all b i dst (.box a v) { objs := objs, next := nx, tmps := t } acc k =
  ob (ce C { objs := objs, next := nx, tmps := t } (b + i) (.box a v)) (fun e => k (AS.apply { objs := objs, next := nx, tmps := t } dst (b + i) e) (eP (i, fO C { objs := objs, next := nx, tmps := t } (.box a v), cG (b + i) e.act) acc)) := (rfl)
theorem D4 (a : TypeId) (ps : Array (Nat × Operand)) : gI C all b i dst (.build a ps) { objs := objs, next := nx, tmps := t } acc k =
  ob (ce C { objs := objs, next := nx, tmps := t } (b + i) (.build a ps)) (fun e => k (AS.apply { objs := objs, next := nx, tmps := t } dst (b + i) e) (eP (i, fO C { objs := objs, next := nx, tmps := t } (.build a ps), cG (b + i) e.act) acc)) := (rfl)
theorem wV (a : TypeId) (m : Nat) (ps : Array (Nat × Operand)) : gI C all b i dst (.buildSlice a m ps) { objs := objs, next := nx, tmps := t } acc k =
  ob (ce C { objs := objs, next := nx, tmps := t } (b + i) (.buildSlice a m ps)) (fun e => k (AS.apply { objs := objs, next := nx, tmps := t } dst (b + i) e) (eP (i, fO C { objs := objs, next := nx, tmps := t } (.buildSlice a m ps), cG (b + i) e.act) acc)) := (rfl)
theorem Gi (a : TypeId) (v : Operand) : gI C all b i dst (.load a v) { objs := objs, next := nx, tmps := t } acc k =
  ob (ce C { objs := objs, next := nx, tmps := t } (b + i) (.load a v)) (fun e => k (AS.apply { objs := objs, next := nx, tmps := t } dst (b + i) e) (eP (i, fO C { objs := objs, next := nx, tmps := t } (.load a v), cG (b + i) e.act) acc)) := (rfl)
theorem D2 (a : TypeId) (u v : Operand) : gI C all b i dst (.store a u v) { objs := objs, next := nx, tmps := t } acc k =
  ob (ce C { objs := objs, next := nx, tmps := t } (b + i) (.store a u v)) (fun e => k (AS.apply { objs := objs, next := nx, tmps := t } dst (b + i) e) (eP (i, fO C { objs := objs, next := nx, tmps := t } (.store a u v), cG (b + i) e.act) acc)) := (rfl)
theorem AD (v : Operand) : gI C all b i dst (.nilCheck v) { objs := objs, next := nx, tmps := t } acc k =
  ob (ce C { objs := objs, next := nx, tmps := t } (b + i) (.nilCheck v)) (fun e => k (AS.apply { objs := objs, next := nx, tmps := t } dst (b + i) e) (eP (i, fO C { objs := objs, next := nx, tmps := t } (.nilCheck v), cG (b + i) e.act) acc)) := (rfl)
theorem Da (o : BinOp) (a : TypeId) (u v : Operand) (c : TypeId) : gI C all b i dst (.binOp o a u v c) { objs := objs, next := nx, tmps := t } acc k =
  ob (ce C { objs := objs, next := nx, tmps := t } (b + i) (.binOp o a u v c)) (fun e => k (AS.apply { objs := objs, next := nx, tmps := t } dst (b + i) e) (eP (i, fO C { objs := objs, next := nx, tmps := t } (.binOp o a u v c), cG (b + i) e.act) acc)) := (rfl)
theorem F9 (o : UnOp) (a : TypeId) (u : Operand) : gI C all b i dst (.unOp o a u) { objs := objs, next := nx, tmps := t } acc k =
  ob (ce C { objs := objs, next := nx, tmps := t } (b + i) (.unOp o a u)) (fun e => k (AS.apply { objs := objs, next := nx, tmps := t } dst (b + i) e) (eP (i, fO C { objs := objs, next := nx, tmps := t } (.unOp o a u), cG (b + i) e.act) acc)) := (rfl)
theorem AU (a c : TypeId) (u : Operand) : gI C all b i dst (.convert a c u) { objs := objs, next := nx, tmps := t } acc k =
  ob (ce C { objs := objs, next := nx, tmps := t } (b + i) (.convert a c u)) (fun e => k (AS.apply { objs := objs, next := nx, tmps := t } dst (b + i) e) (eP (i, fO C { objs := objs, next := nx, tmps := t } (.convert a c u), cG (b + i) e.act) acc)) := (rfl)
theorem zZ (f : Fn) (u v : Array Operand) : gI C all b i dst (.makeFunc f u v) { objs := objs, next := nx, tmps := t } acc k =
  ob (ce C { objs := objs, next := nx, tmps := t } (b + i) (.makeFunc f u v)) (fun e => k (AS.apply { objs := objs, next := nx, tmps := t } dst (b + i) e) (eP (i, fO C { objs := objs, next := nx, tmps := t } (.makeFunc f u v), cG (b + i) e.act) acc)) := (rfl)
theorem y8 (a : TypeId) (u v : Operand) : gI C all b i dst (.makeSlice a u v) { objs := objs, next := nx, tmps := t } acc k =
  ob (ce C { objs := objs, next := nx, tmps := t } (b + i) (.makeSlice a u v)) (fun e => k (AS.apply { objs := objs, next := nx, tmps := t } dst (b + i) e) (eP (i, fO C { objs := objs, next := nx, tmps := t } (.makeSlice a u v), cG (b + i) e.act) acc)) := (rfl)
theorem DV (a : TypeId) (u : Operand) (l h m : Option Operand) : gI C all b i dst (.slice a u l h m) { objs := objs, next := nx, tmps := t } acc k =
  ob (ce C { objs := objs, next := nx, tmps := t } (b + i) (.slice a u l h m)) (fun e => k (AS.apply { objs := objs, next := nx, tmps := t } dst (b + i) e) (eP (i, fO C { objs := objs, next := nx, tmps := t } (.slice a u l h m), cG (b + i) e.act) acc)) := (rfl)
theorem yX (a : TypeId) (u : Operand) (f : Nat) : gI C all b i dst (.fieldAddr a u f) { objs := objs, next := nx, tmps := t } acc k =
  ob (ce C { objs := objs, next := nx, tmps := t } (b + i) (.fieldAddr a u f)) (fun e => k (AS.apply { objs := objs, next := nx, tmps := t } dst (b + i) e) (eP (i, fO C { objs := objs, next := nx, tmps := t } (.fieldAddr a u f), cG (b + i) e.act) acc)) := (rfl)
theorem CW (a : TypeId) (u : Operand) (f : Nat) : gI C all b i dst (.field a u f) { objs := objs, next := nx, tmps := t } acc k =
  ob (ce C { objs := objs, next := nx, tmps := t } (b + i) (.field a u f)) (fun e => k (AS.apply { objs := objs, next := nx, tmps := t } dst (b + i) e) (eP (i, fO C { objs := objs, next := nx, tmps := t } (.field a u f), cG (b + i) e.act) acc)) := (rfl)
theorem yy (a : TypeId) (u v : Operand) : gI C all b i dst (.indexAddr a u v) { objs := objs, next := nx, tmps := t } acc k =
  ob (ce C { objs := objs, next := nx, tmps := t } (b + i) (.indexAddr a u v)) (fun e => k (AS.apply { objs := objs, next := nx, tmps := t } dst (b + i) e) (eP (i, fO C { objs := objs, next := nx, tmps := t } (.indexAddr a u v), cG (b + i) e.act) acc)) := (rfl)
theorem Dn (a : TypeId) (u v : Operand) : gI C all b i dst (.index a u v) { objs := objs, next := nx, tmps := t } acc k =
  ob (ce C { objs := objs, next := nx, tmps := t } (b + i) (.index a u v)) (fun e => k (AS.apply { objs := objs, next := nx, tmps := t } dst (b + i) e) (eP (i, fO C { objs := objs, next := nx, tmps := t } (.index a u v), cG (b + i) e.act) acc)) := (rfl)
theorem BF (u : Operand) (f : Nat) : gI C all b i dst (.extract u f) { objs := objs, next := nx, tmps := t } acc k =
  ob (ce C { objs := objs, next := nx, tmps := t } (b + i) (.extract u f)) (fun e => k (AS.apply { objs := objs, next := nx, tmps := t } dst (b + i) e) (eP (i, fO C { objs := objs, next := nx, tmps := t } (.extract u f), cG (b + i) e.act) acc)) := (rfl)
theorem rE {id : Nat} {ops : Array Oper} (h : ∀ K : AS → Prop, (∀ t, awp C y Q t → K t) → ∀ s, s = ops.toList → xd C s (ops.toList.map (·.dst)) nx 0 ops.toList { objs := objs, next := nx + ops.size, tmps := t } [] K) : awp C (.seq (.region id ops true) y) Q { objs := objs, next := nx, tmps := t } :=
 jo (show awp C (.region id ops true) _ _ from kE _ _ _ _ (h _ (fun _ ht => ht) _ rfl))
theorem iU {id : Nat} {ops : Array Oper} (h : ∀ K : AS → Prop, (∀ t, Q .normal t → K t) → ∀ s, s = ops.toList → xd C s (ops.toList.map (·.dst)) nx 0 ops.toList { objs := objs, next := nx + ops.size, tmps := t } [] K) : awp C (.region id ops true) Q { objs := objs, next := nx, tmps := t } :=
 show awp C (.region id ops true) _ _ from kE _ _ _ _ (h _ (fun _ ht => ht) _ rfl)
end

end Go.AX

/-! (AxSa) -/

namespace Go.AX

def Ren (mk : Nat → AV) : Prop := ∀ (a b : Nat) (ρ ρ' : Rho) (V : bw) (y : Value), ρ' b = ρ a → Rel ρ V (mk a) y → Rel ρ' V (mk b) y

theorem Ren.const {x : AV} (h : aw x) : Ren fun _ => x := fun _ _ _ _ _ _ _ hr => h _ _ _ _ hr
theorem Ren.ref (off len sz : Nat) : Ren fun q => .ref q off len sz := by
 intro a b ρ ρ' V y he hr
 cases hr with
 | ref _ _ _ _ cap loc h hc hl => exact .ref b off len sz cap loc (by rw [he]; exact h) hc hl
 | refE _ _ _ addr => exact .refE b off sz addr
theorem Ren.ptr (off : Nat) : Ren fun q => .ptr q off := by
 intro a b ρ ρ' V y he hr
 cases hr with
 | ptr _ _ loc h => exact .ptr b off loc (by rw [he]; exact h)

inductive RenL : (Nat → List AV) → Prop
 | nil : RenL fun _ => []
 | cons {x : Nat → AV} {l : Nat → List AV} (h : Ren x) (t : RenL l) : RenL fun q => x q :: l q

theorem RenL.const : ∀ {l : List AV}, (∀ c ∈ l, aw c) → RenL fun _ => l
 | [], _ => .nil
 | c :: l, h => .cons (.const (h c (by simp))) (RenL.const fun d hd => h d (by simp [hd]))

theorem RenL.get {l : Nat → List AV} (h : RenL l) : (∀ a b, (l a).length = (l b).length) ∧ ∀ (i a b : Nat) x z, (l a)[i]? = some x → (l b)[i]? = some z → ∀ (ρ ρ' : Rho) (V : bw) (y : Value), ρ' b = ρ a → Rel ρ V x y → Rel ρ' V z y := by
 induction h with
 | nil => exact ⟨fun _ _ => rfl, fun i a b x z hx => by simp at hx⟩
 | cons h t ih =>
  refine ⟨fun a b => by simp [ih.1 a b], fun i a b x z hx hz => ?_⟩
  cases i with
  | zero => simp at hx hz; subst hx; subst hz; exact h a b
  | succ i => simp at hx hz; exact ih.2 i a b x z hx hz

theorem RenL.list {l : Nat → List AV} (h : RenL l) {a b : Nat} {ρ ρ' : Rho} {V : bw} (he : ρ' b = ρ a) {ys : Array Value}
  (H : ∀ (i : Nat) x y, (l a)[i]? = some x → ys[i]? = some y → Rel ρ V x y) : ∀ (i : Nat) x y, (l b)[i]? = some x → ys[i]? = some y → Rel ρ' V x y := by
 intro i x y hx hy
 have hi : i < (l b).length := (List.getElem?_eq_some_iff.1 hx).1
 have hi' : i < (l a).length := by rw [h.get.1 a b]; exact hi
 have e : (l a)[i]? = some (l a)[i] := by simp [hi']
 exact h.get.2 i a b _ _ e hx ρ ρ' V y he (H i _ y e hy)

theorem Ren.agg {l : Nat → List AV} (h : RenL l) : Ren fun q => .agg (l q) := by
 intro a b ρ ρ' V y he hr
 cases hr with
 | agg _ ys h1 H S => exact .agg _ ys (by rw [h1, h.get.1 a b]) (h.list he H) S
theorem Ren.tup {l : Nat → List AV} (h : RenL l) : Ren fun q => .tup (l q) := by
 intro a b ρ ρ' V y he hr
 cases hr with
 | tup _ ys h1 H => exact .tup _ ys (by rw [h1, h.get.1 a b]) (h.list he H)

theorem RelC.clean {ρ ρ' : Rho} {V : bw} {cells : List AV} {c : Array Value} {o : Nat} (h : RelC ρ V cells c o) (hc : ∀ x ∈ cells, aw x) : RelC ρ' V cells c o :=
 ⟨h.le, fun i x y hx hy => hc x (List.mem_of_getElem? hx) _ _ _ _ (h.rel i x y hx hy), h.sto⟩

def IX (C : Ctx) (f : FuncId) (args : List AV) (mk : Nat → AV) (CS : List AV) : Prop := ∀ (hs : HS) (fr : Nat), jM C f args hs fr ⟨mk fr, .new CS⟩

theorem IX.norm {C : Ctx} {f : FuncId} {args : List AV} {mk : Nat → AV} {CS : List AV} (h : IX C f (args.map (fz (fun _ => .dead) gM)) mk CS) : IX C f args mk CS := by
 intro hs fr ρ V w args' h1 h2 h3 h4
 refine h hs fr ρ V w args' (by simpa using h1) ?_ h3 h4
 intro i x y hx hy
 obtain ⟨z, hz, rfl⟩ := d4 hx
 have := na h3.dead gM z y (h2 i z y hz hy)
 rw [uA] at this
 exact this

theorem Wk.thaw (C : Ctx) (s : AS) (j sz : Nat) (h : s.tmps j = .v (.slice none 0 0)) : Wk C s { objs := upd s.objs s.next (.live []), next := s.next + 1, tmps := upd s.tmps j (.ref s.next 0 0 sz) } := by
 rintro N B a w ⟨ρ, V, h1, h2, h3, h4, h5, h6, _⟩
 have hn : ρ s.next = none := h2.fresh _ (Nat.le_refl _)
 have hne : ∀ {id : Nat} {loc : Loc}, ρ id = some loc → id ≠ s.next := by rintro id loc hl rfl; rw [hn] at hl; cases hl
 refine ⟨ρ, V, fun t => ?_, ⟨h2.view, fun id hid => h2.fresh id (by simp only at hid ⊢; omega), fun id cells loc hl hρ => ?_, fun id cells loc hl hρ => ?_, fun i j li lj ci cj hi hj hρi hρj => ?_⟩, h3,
  ⟨h4.rho, h4.old, by have := h4.next; simp only at this ⊢; omega, h4.view, h4.size, h4.keep, fun b hb => h4.own b ?_, h4.vnew, h4.mem⟩, h5, h6, fun id hid => hid.elim⟩
 ·
  show Rel ρ V (upd s.tmps j (.ref s.next 0 0 sz) t) _
  by_cases ht : t = j
  ·
   subst ht
   have := h1 t
   rw [h] at this
   rw [Rel.v_inv this, cB]
   exact .refE _ _ _ _
  ·
   rw [ba _ _ ht]; exact h1 t
 ·
  simp only [ba _ _ (hne hρ)] at hl; exact h2.live id cells loc hl hρ
 ·
  simp only [ba _ _ (hne hρ)] at hl; exact h2.froz id cells loc hl hρ
 ·
  simp only [ba _ _ (hne hρi)] at hi
  simp only [ba _ _ (hne hρj)] at hj
  exact h2.inj i j li lj ci cj hi hj hρi hρj
 ·
  obtain ⟨id, cells, loc, hl, hρ, hb⟩ := hb
  simp only [ba _ _ (hne hρ)] at hl
  exact ⟨id, cells, loc, hl, hρ, hb⟩

theorem Wk.tmps (C : Ctx) (s : AS) (x : Nat → AV) (h : ∀ t, x t = s.tmps t ∨ x t = .unk) : Wk C s { s with tmps := x } := by
 rintro N B a w ⟨ρ, V, h1, h2⟩
 refine ⟨ρ, V, fun t => ?_, h2⟩
 show Rel ρ V (x t) _
 rcases h t with ht | ht
 ·
  rw [ht]; exact h1 t
 ·
  rw [ht]; exact .unk _

theorem Wk.nil (C : Ctx) (s : AS) (j : Nat) (h : s.tmps j = .v (.slice none 0 0)) : Wk C s { s with tmps := upd s.tmps j (.imm [] 0) } := by
 rintro N B a w ⟨ρ, V, h1, h2⟩
 refine ⟨ρ, V, fun t => ?_, h2⟩
 show Rel ρ V (upd s.tmps j (.imm [] 0) t) _
 by_cases ht : t = j
 ·
  subst ht
  have := h1 t
  rw [h] at this
  rw [Rel.v_inv this, cB]
  exact .imm0 _ _
 ·
  rw [ba _ _ ht]; exact h1 t

end Go.AX

/-! (AxZa) -/

namespace Go.AX

attribute [go_sem] gt_iff_lt ge_iff_le Int.cast_ofNat_Int Mq Ll M8 KI EU CO F6 Dp Hg Dq wY F5 C8 Az DU Fo AP zS zr Ea y5 Eo yF EI Bq Bl ce FE ev Ev EW cond_true cond_false true_and and_true L6 Kt MA KC LP KQ Mz dc kx cst jc eC Ds Kn Ki dk Nat.add_zero Nat.zero_add Nat.left_eq_add Nat.add_eq_left Nat.add_left_cancel_iff List.size_toArray Nat.add_assoc decide_true decide_false yG lR lq mF Fm ne uM Fp iop F7s eqB pY eqv eT oy fG zm vV GE Gr FM emS Option.isNone_none Option.isNone_some LL kS dV cellsOf FD sto mD Gk CX me DW zL rep Jj JI HM I0 IE Option.map_some Option.map_none Option.bind_some Option.bind_none List.map_cons List.map_nil List.getElem?_cons_zero List.getElem?_cons_succ List.drop_zero List.drop_succ_cons List.take_succ_cons List.take_zero List.length_cons List.length_nil List.nil_append List.cons_append List.append_nil List.set_cons_zero List.set_cons_succ id Nat.mul_one Nat.one_mul Nat.zero_mul Nat.mul_zero ite_true ite_false if_true if_false Nat.le_refl Bool.not_true Bool.not_false Bool.true_and Bool.and_true Bool.false_and Bool.and_false Bool.true_or Bool.or_true Bool.false_or Bool.or_false beq_self_eq_true MG Mh Mi HI JR ES Cu EM Dl Hl D4 wV Gi D2 AD Da F9 AU zZ y8 DV yX CW yy Dn BF fO cG eP eX List.isEmpty_nil List.isEmpty_cons List.flatMap_cons List.flatMap_nil Bool.false_eq_true Option.getD_some

end Go.AX

/-! (AxZb) -/

namespace Go.AX

@[congr] theorem Kz {d : Bool} {C : Ctx} {ds : List (Option Nat)} {b i : Nat} {l : List Oper} {s t : AS} {K : AS → Prop} (h : s = t) : xw d C ds b i l s K = xw d C ds b i l t K := by rw [h]
@[congr] theorem J4 {d : Bool} {C : Ctx} {fr : Nat} {dst : Option Nat} {op : Op} {s t : AS} {k : AS → Prop} (h : s = t) : xop d C fr dst op s k = xop d C fr dst op t k := by rw [h]
@[congr] theorem KV {C : Ctx} {all : List Oper} {ds : List (Option Nat)} {b i : Nat} {l : List Oper} {s t : AS} {acc acc' : List eK} {K : AS → Prop} (h : s = t) (h' : acc = acc') : xd C all ds b i l s acc K = xd C all ds b i l t acc' K := by rw [h, h']
@[congr] theorem Iq {C : Ctx} {all : List Oper} {b i : Nat} {dst : Option Nat} {op : Op} {s t : AS} {acc acc' : List eK} {k : AS → List eK → Prop} (h : s = t) (h' : acc = acc') : gI C all b i dst op s acc k = gI C all b i dst op t acc' k := by rw [h, h']

def Frm : List Nat → (Nat → AV) → (Nat → AV) → Prop
 | [], _, _ => True
 | j :: L, f, g => f j = g j ∧ Frm L f g

theorem Frm.refl : ∀ (m : List Nat) (f : Nat → AV), Frm m f f
 | [], _ => trivial
 | _ :: L, f => ⟨rfl, Frm.refl L f⟩

def Di (N : Nat) (f g : Nat → Ob) : Prop := ∀ j, j < N → f j = g j

theorem Di.refl (N : Nat) (f : Nat → Ob) : Di N f f := fun _ _ => rfl
theorem Di.upd {N : Nat} {f g : Nat → Ob} {k : Nat} {x : Ob} (h : N ≤ k) (hf : Di N f g) : Di N (upd f k x) g := by
 intro j hj
 rw [ba _ _ (by omega)]
 exact hf j hj

section
variable {C : Ctx} {x y : Code} {Q : AExit → AS → Prop} {s : AS}

end

section
variable {C : Ctx} {y : Code} {Q : AExit → AS → Prop} {objs : Nat → Ob} {nx : Nat} {tm : Nat → AV} {ops : Array Oper} {draw : Bool}

def keep (tz tm : Nat → AV) : List Nat → Nat → AV
 | [] => tz
 | j :: L => upd (keep tz tm L) j (tm j)
theorem I1 (tz tm : Nat → AV) : keep tz tm [] = tz := rfl
theorem Dy (tz tm : Nat → AV) (j : Nat) (L : List Nat) : keep tz tm (j :: L) = upd (keep tz tm L) j (tm j) := rfl
theorem mK (tm : Nat → AV) : ∀ L, keep tm tm L = tm
 | [] => rfl
 | j :: L => by rw [Dy, mK tm L, Ae]

def nth : List (List Nat) → Nat → List Nat
 | [], _ => []
 | x :: _, 0 => x
 | _ :: l, n + 1 => nth l n
theorem d8 {id : Nat} (L : List (List Nat)) {g : (Nat → AV) → Nat → AV} (hg : ∀ tz, keep tz tm (nth L id) = g tz) (h : ∀ tz, awp C (.seq (.region id ops draw) y) Q { objs := objs, next := nx, tmps := g tz }) : awp C (.seq (.region id ops draw) y) Q { objs := objs, next := nx, tmps := tm } := by
 have := h tm
 rwa [← hg, mK] at this
theorem kD {id : Nat} (L : List (List Nat)) {g : (Nat → AV) → Nat → AV} (hg : ∀ tz, keep tz tm (nth L id) = g tz) (h : ∀ tz, awp C (.region id ops draw) Q { objs := objs, next := nx, tmps := g tz }) : awp C (.region id ops draw) Q { objs := objs, next := nx, tmps := tm } := by
 have := h tm
 rwa [← hg, mK] at this

end

section
variable {C : Ctx} {K : AS → Prop} {Q : AExit → AS → Prop} {s : AS}
theorem fC (h : K s) : kJ K Q .normal s := h
theorem MJ {j : Nat} (h : Q (.exit j) s) : kJ K Q (.exit j) s := h
theorem jk (h : Q .ret s) : kJ K Q .ret s := h
theorem iL (h : K s) : mj K Q .normal s := h
theorem j9 {j : Nat} (h : Q (.exit j) s) : mj K Q (.exit j) s := h
theorem z7 (h : Q .ret s) : mj K Q .ret s := h
theorem gO {id : Nat} (h : Q .normal s) : jX id Q .normal s := h
theorem iN {id : Nat} (h : Q .ret s) : jX id Q .ret s := h
theorem js {id : Nat} (h : Q .normal s) : jX id Q (.exit id) s := by rw [EC]; exact h
theorem KS {id j : Nat} (hj : Nat.beq j id = false) (h : Q (.exit j) s) : jX id Q (.exit j) s := by rw [DS hj]; exact h
end

end Go.AX

/-! (AxZc) -/

namespace Go.AX

def Ax (P : Program) (g : TypeId → Option (List (Option IntKind))) : Nat → List Field → Option (List (Option IntKind))
 | _, [] => some []
 | off, f :: fs => if f.offset = off ∧ f.name ≠ "_" then match g f.type with
   | some ks => match Ax P g (off + ks.length) fs with
    | some r => some (ks ++ r)
    | none => none
   | none => none
  else none

def xV (P : Program) : Nat → TypeId → Option (List (Option IntKind))
 | 0, _ => none
 | n + 1, t => match P.underlying t with
  | some .bool => if cA P t = some 1 then some [none] else none
  | some (.int k) => if cA P t = some 1 then some [some k] else none
  | some (.array m e) => match xV P n e with
   | some ks => if cA P t = some (m * ks.length) then some (List.replicate m ks).flatten else none
   | none => none
  | some (.struct fs) => if P.stoodInHeld t then none else match Ax P (xV P n) 0 fs.toList with
   | some ks => if cA P t = some ks.length then some ks else none
   | none => none
  | _ => none

def tY : Option IntKind → Value → Bool
 | some k, .int k' _ => k == k'
 | none, .bool _ => true
 | _, _ => false
def d7 : List (Option IntKind) → List Value → Bool
 | k :: ks, x :: xs => tY k x && d7 ks xs
 | [], [] => true
 | _, _ => false
def eq1 : Value → Value → Bool
 | .int _ a, .int _ b => a == b
 | .bool a, .bool b => a == b
 | _, _ => false
def eqL : List Value → List Value → Bool
 | x :: xs, y :: ys => eq1 x y && eqL xs ys
 | [], [] => true
 | _, _ => false

theorem lw : ∀ {ks : List (Option IntKind)} {xs : List Value}, d7 ks xs = true → xs.length = ks.length
 | [], [], _ => rfl
 | k :: ks, x :: xs, h => by simp only [d7, Bool.and_eq_true] at h; simp [lw h.2]
 | [], x :: xs, h => by simp [d7] at h
 | k :: ks, [], h => by simp [d7] at h

theorem jh : ∀ {ks r : List (Option IntKind)} {xs : List Value}, d7 (ks ++ r) xs = true → d7 ks (xs.take ks.length) = true ∧ d7 r (xs.drop ks.length) = true
 | [], r, xs, h => by simpa [d7] using h
 | k :: ks, r, [], h => by simp [d7] at h
 | k :: ks, r, x :: xs, h => by
  simp only [List.cons_append, d7, Bool.and_eq_true] at h
  obtain ⟨h1, h2⟩ := jh h.2
  simp only [List.length_cons, List.take_succ_cons, List.drop_succ_cons, d7, Bool.and_eq_true]
  exact ⟨⟨h.1, h1⟩, h2⟩

theorem sR : ∀ (n : Nat) (xs ys : List Value), xs.length = ys.length → eqL xs ys = (eqL (xs.take n) (ys.take n) && eqL (xs.drop n) (ys.drop n))
 | 0, xs, ys, _ => by simp [eqL]
 | n + 1, [], [], _ => by simp [eqL]
 | n + 1, x :: xs, y :: ys, h => by
  simp only [List.take_succ_cons, List.drop_succ_cons, eqL]
  rw [sR n xs ys (by simpa using h), Bool.and_assoc]
 | n + 1, [], y :: ys, h => by simp at h
 | n + 1, x :: xs, [], h => by simp at h

def mkV (P : Program) (t : TypeId) (xs : List Value) : Value := match agB P t with
 | some true => .agg xs.toArray
 | _ => xs.headD undef

theorem sU {P : Program} {t : TypeId} {n off : Nat} {cs : List Value} {b : Bool} (hb : agB P t = some b) (hn : cA P t = some n) (h1 : b = false → n = 1) (hl : off + n ≤ cs.length) (w : World) :
  (part t cs.toArray off).run P w = .ok (mkV P t ((cs.drop off).take n)) w := by
 cases b with
 | true =>
  simp only [part, Sem.run_bind, kK hb, Result.andThen_ok, if_true, cp hn, Sem.run_pure, mkV, hb]
  congr 2
  apply Array.ext'
  simp
 | false =>
  have := h1 rfl
  subst this
  have e : cs[off]? = some (cs[off]'(by omega)) := by simp
  have e2 : ((cs.drop off).take 1).headD undef = cs[off]'(by omega) := by
   rw [List.drop_eq_getElem_cons (by omega)]; rfl
  simp only [part, Sem.run_bind, kK hb, Result.andThen_ok, mkV, hb, e2]
  simp [e]

theorem vt {x : Value} (h : tY none x = true) : ∃ b, x = .bool b := by
 unfold tY at h
 split at h
 ·
  rename_i h1; cases h1
 ·
  exact ⟨_, rfl⟩
 ·
  cases h
theorem xY {k : IntKind} {x : Value} (h : tY (some k) x = true) : ∃ n, x = .int k n := by
 unfold tY at h
 split at h
 ·
  rename_i h1; cases h1; exact ⟨_, by rw [eq_of_beq h]⟩
 ·
  rename_i h1; cases h1
 ·
  cases h

theorem ng {k : Option IntKind} {xs : List Value} (h : d7 [k] xs = true) : ∃ x, xs = [x] ∧ tY k x = true := by
 match xs, h with
 | [x], h => simp only [d7, Bool.and_true] at h; exact ⟨x, rfl, h⟩
 | x :: y :: xs, h => simp [d7] at h

def EqT (P : Program) (n : Nat) (t : TypeId) (ks : List (Option IntKind)) : Prop :=
 cA P t = some ks.length ∧ (∃ b, agB P t = some b ∧ (b = false → ks.length = 1)) ∧ ∀ d, n ≤ d → ∀ xs ys : List Value, d7 ks xs = true → d7 ks ys = true → ∀ w, (Op.equalIn d t (mkV P t xs) (mkV P t ys)).run P w = .ok (eqL xs ys) w

theorem xQ {P : Program} {n : Nat} {g : TypeId → Option (List (Option IntKind))} (hg : ∀ t ks, g t = some ks → EqT P n t ks) {d : Nat} (hd : n ≤ d) (xs ys : List Value) :
  ∀ (fs : List Field) (off : Nat) (ks : List (Option IntKind)), Ax P g off fs = some ks → d7 ks (xs.drop off) = true → d7 ks (ys.drop off) = true → ∀ w,
   (Op.eqFields d xs.toArray ys.toArray fs).run P w = .ok (eqL (xs.drop off) (ys.drop off)) w
 | [], off, ks, h, hx, hy, w => by
  simp only [Ax, Option.some.injEq] at h
  subst h
  have e1 : xs.drop off = [] := by cases h : xs.drop off with | nil => rfl | cons a l => rw [h] at hx; simp [d7] at hx
  have e2 : ys.drop off = [] := by cases h : ys.drop off with | nil => rfl | cons a l => rw [h] at hy; simp [d7] at hy
  rw [e1, e2]
  simp [Op.eqFields, eqL]
 | f :: fs, off, ks, h, hx, hy, w => by
  simp only [Ax] at h
  split at h
  ·
   rename_i hc
   split at h
   ·
    rename_i k1 h1
    split at h
    ·
     rename_i k2 h2
     cases h
     obtain ⟨g1, ⟨b, g2, g2'⟩, g3⟩ := hg _ _ h1
     have lx := lw hx
     have ly := lw hy
     simp only [List.length_append, List.length_drop] at lx ly
     obtain ⟨a1, a2⟩ := jh hx
     obtain ⟨b1, b2⟩ := jh hy
     rw [List.drop_drop] at a2 b2
     have ih := xQ hg hd xs ys fs (off + k1.length) k2 h2 a2 b2 w
     have hlx : f.offset + k1.length ≤ xs.length ∨ k1.length = 0 := by omega
     have px : (part f.type xs.toArray f.offset).run P w = .ok (mkV P f.type ((xs.drop off).take k1.length)) w := by
      by_cases hle : off + k1.length ≤ xs.length
      ·
       rw [hc.1]; exact sU g2 g1 g2' hle w
      ·
       have hz : k1.length = 0 := by omega
       have hbt : b = true := by cases b with | true => rfl | false => have := g2' rfl; omega
       subst hbt
       simp only [part, Sem.run_bind, kK g2, Result.andThen_ok, if_true, cp g1, Sem.run_pure, mkV, g2, hz]
       congr 2
       apply Array.ext'
       simp
     have py : (part f.type ys.toArray f.offset).run P w = .ok (mkV P f.type ((ys.drop off).take k1.length)) w := by
      by_cases hle : off + k1.length ≤ ys.length
      ·
       rw [hc.1]; exact sU g2 g1 g2' hle w
      ·
       have hz : k1.length = 0 := by omega
       have hbt : b = true := by cases b with | true => rfl | false => have := g2' rfl; omega
       subst hbt
       simp only [part, Sem.run_bind, kK g2, Result.andThen_ok, if_true, cp g1, Sem.run_pure, mkV, g2, hz]
       congr 2
       apply Array.ext'
       simp
     have he := g3 d hd _ _ a1 b1 w
     rw [sR k1.length (xs.drop off) (ys.drop off) (by simp; omega), List.drop_drop, List.drop_drop]
     simp only [Op.eqFields, hc.2, ne_eq, not_false_eq_true, if_true, Sem.run_bind, px, py, he, Result.andThen_ok]
     cases eqL ((xs.drop off).take k1.length) ((ys.drop off).take k1.length) with
     | true => simpa using ih
     | false => simp
    ·
     cases h
   ·
    cases h
  ·
   cases h

theorem Ag {P : Program} {n : Nat} {e : TypeId} {ks : List (Option IntKind)} (hg : EqT P n e ks) {d : Nat} (hd : n ≤ d) (xs ys : List Value) :
  ∀ (m k : Nat), d7 (List.replicate m ks).flatten (xs.drop (k * ks.length)) = true → d7 (List.replicate m ks).flatten (ys.drop (k * ks.length)) = true → ∀ w,
   (Op.eqItems d e ks.length xs.toArray ys.toArray (List.range' k m)).run P w = .ok (eqL (xs.drop (k * ks.length)) (ys.drop (k * ks.length))) w
 | 0, k, hx, hy, w => by
  have e1 : xs.drop (k * ks.length) = [] := by cases h : xs.drop (k * ks.length) with | nil => rfl | cons a l => rw [h] at hx; simp [d7] at hx
  have e2 : ys.drop (k * ks.length) = [] := by cases h : ys.drop (k * ks.length) with | nil => rfl | cons a l => rw [h] at hy; simp [d7] at hy
  rw [e1, e2]
  simp [Op.eqItems, eqL]
 | m + 1, k, hx, hy, w => by
  obtain ⟨g1, ⟨b, g2, g2'⟩, g3⟩ := hg
  rw [List.replicate_succ, List.flatten_cons] at hx hy
  have lx := lw hx
  have ly := lw hy
  simp only [List.length_append, List.length_drop] at lx ly
  obtain ⟨a1, a2⟩ := jh hx
  obtain ⟨b1, b2⟩ := jh hy
  rw [List.drop_drop, show k * ks.length + ks.length = (k + 1) * ks.length by rw [Nat.add_mul]; omega] at a2 b2
  have ih := Ag ⟨g1, ⟨b, g2, g2'⟩, g3⟩ hd xs ys m (k + 1) a2 b2 w
  have pt : ∀ zs : List Value, zs.length - k * ks.length = ks.length + ((List.replicate m ks).flatten).length → (part e zs.toArray (k * ks.length)).run P w = .ok (mkV P e ((zs.drop (k * ks.length)).take ks.length)) w := by
   intro zs hl
   by_cases hle : k * ks.length + ks.length ≤ zs.length
   ·
    exact sU g2 g1 g2' hle w
   ·
    have hz : ks.length = 0 := by omega
    have hbt : b = true := by cases b with | true => rfl | false => have := g2' rfl; omega
    subst hbt
    simp only [part, Sem.run_bind, kK g2, Result.andThen_ok, if_true, cp g1, Sem.run_pure, mkV, g2, hz]
    congr 2
    apply Array.ext'
    simp
  have he := g3 d hd _ _ a1 b1 w
  rw [sR ks.length (xs.drop (k * ks.length)) (ys.drop (k * ks.length)) (by simp; omega), List.drop_drop, List.drop_drop, show k * ks.length + ks.length = (k + 1) * ks.length by rw [Nat.add_mul]; omega]
  simp only [List.range'_succ, Op.eqItems, Sem.run_bind, pt xs lx, pt ys ly, he, Result.andThen_ok]
  cases eqL ((xs.drop (k * ks.length)).take ks.length) ((ys.drop (k * ks.length)).take ks.length) with
  | true => simpa using ih
  | false => simp

theorem uE {P : Program} {t : TypeId} {x : Value} (h : agB P t = some false) : mkV P t [x] = x := by
 simp [mkV, h]

theorem tQ (P : Program) : ∀ (n : Nat) (t : TypeId) (ks : List (Option IntKind)), xV P n t = some ks → EqT P n t ks
 | 0, t, ks, h => by simp [xV] at h
 | n + 1, t, ks, h => by
  have ih := tQ P n
  simp only [xV] at h
  split at h
  ·
   rename_i hu
   split at h
   ·
    rename_i hs
    cases h
    refine ⟨hs, ⟨false, by simp [agB, hu], fun _ => rfl⟩, fun d hd xs ys hx hy w => ?_⟩
    obtain ⟨d, rfl⟩ : ∃ d', d = d' + 1 := ⟨d - 1, by omega⟩
    obtain ⟨x, rfl, hx1⟩ := ng hx
    obtain ⟨y, rfl, hy1⟩ := ng hy
    rw [uE (by simp [agB, hu]), uE (by simp [agB, hu])]
    obtain ⟨a, rfl⟩ := vt hx1
    obtain ⟨b, rfl⟩ := vt hy1
    simpa [eqL, eq1] using run_equalIn_bool w d t a b hu
   ·
    cases h
  ·
   rename_i k hu
   split at h
   ·
    rename_i hs
    cases h
    refine ⟨hs, ⟨false, by simp [agB, hu], fun _ => rfl⟩, fun d hd xs ys hx hy w => ?_⟩
    obtain ⟨d, rfl⟩ : ∃ d', d = d' + 1 := ⟨d - 1, by omega⟩
    obtain ⟨x, rfl, hx1⟩ := ng hx
    obtain ⟨y, rfl, hy1⟩ := ng hy
    rw [uE (by simp [agB, hu]), uE (by simp [agB, hu])]
    obtain ⟨a, rfl⟩ := xY hx1
    obtain ⟨b, rfl⟩ := xY hy1
    simpa [eqL, eq1] using run_equalIn_int w d t _ _ a b hu
   ·
    cases h
  ·
   rename_i m e hu
   split at h
   ·
    rename_i k1 h1
    split at h
    ·
     rename_i hs
     cases h
     have hE := ih _ _ h1
     obtain ⟨i, hi⟩ : ∃ i, P.info? e = some i := by
      have := hE.1
      unfold cA at this
      cases hh : P.info? e with
      | none => simp [hh] at this
      | some i => exact ⟨i, rfl⟩
     have hc : P.cellsOf e = k1.length := by
      have := hE.1
      simp only [cA, hi, Option.map_some, Option.some.injEq] at this
      simp [Program.cellsOf, hi, this]
     have hl : ((List.replicate m k1).flatten).length = m * k1.length := by simp
     refine ⟨by rw [hs, hl], ⟨true, by simp [agB, hu], fun h => by cases h⟩, fun d hd xs ys hx hy w => ?_⟩
     obtain ⟨d, rfl⟩ : ∃ d', d = d' + 1 := ⟨d - 1, by omega⟩
     have ha : agB P t = some true := by simp [agB, hu]
     simp only [mkV, ha]
     rw [run_equalIn_array w d _ _ hu hi, hc, List.range_eq_range']
     have := Ag hE (show n ≤ d by omega) xs ys m 0 (by simpa using hx) (by simpa using hy) w
     simpa using this
    ·
     cases h
   ·
    cases h
  ·
   rename_i fs hu
   split at h
   ·
    cases h
   ·
    rename_i hst
    split at h
    ·
     rename_i k1 h1
     split at h
     ·
      rename_i hs
      cases h
      refine ⟨hs, ⟨true, by simp [agB, hu], fun h => by cases h⟩, fun d hd xs ys hx hy w => ?_⟩
      obtain ⟨d, rfl⟩ : ∃ d', d = d' + 1 := ⟨d - 1, by omega⟩
      have ha : agB P t = some true := by simp [agB, hu]
      have hf : P.fieldsOf t = fs := by simp [Program.fieldsOf, hu]
      simp only [mkV, ha]
      rw [run_equalIn_struct w d t _ _ (by rw [hf]; exact hu) (by simpa using hst), hf]
      have := xQ (fun t ks h => ih t ks h) (show n ≤ d by omega) xs ys fs.toList 0 _ h1 (by simpa using hx) (by simpa using hy) w
      simpa using this
     ·
      cases h
    ·
     cases h
  ·
   cases h

theorem qZ : ∀ {ks : List (Option IntKind)} {xs : List AV}, eT ks xs = true → d7 ks (xs.map oB) = true ∧ ∀ {ys : List AV}, eT ks ys = true → eqL (xs.map oB) (ys.map oB) = pY xs ys
 | [], [], _ => ⟨rfl, fun {ys} h => by cases ys with | nil => rfl | cons y ys => simp [eT] at h⟩
 | k :: ks, x :: xs, h => by
  simp only [eT, Bool.and_eq_true] at h
  obtain ⟨h1, h2⟩ := qZ h.2
  have one : ∀ {x : AV}, oy k x = true → tY k (oB x) = true := by
   intro x hx
   cases k with
   | none => obtain ⟨a, rfl⟩ := pg hx; rfl
   | some k => obtain ⟨a, rfl⟩ := rp hx; simp [oB, tY]
  refine ⟨by simp [d7, one h.1, h1], fun {ys} hy => ?_⟩
  cases ys with
  | nil => simp [eT] at hy
  | cons y ys =>
   simp only [eT, Bool.and_eq_true] at hy
   have e1 : eq1 (oB x) (oB y) = eqv x y := by
    cases k with
    | none => obtain ⟨a, rfl⟩ := pg h.1; obtain ⟨b, rfl⟩ := pg hy.1; rfl
    | some k => obtain ⟨a, rfl⟩ := rp h.1; obtain ⟨b, rfl⟩ := rp hy.1; rfl
   simp only [List.map_cons, eqL, pY, e1, h2 hy.2]
 | [], x :: xs, h => by simp [eT] at h
 | k :: ks, [], h => by simp [eT] at h

def Nb (P : Program) (tab : List (TypeId × List (Option IntKind))) : Bool := tab.all fun p => (xV P 20 p.1 == some p.2) && (agB P p.1 == some true) && !P.eqGuardType P.depth p.1

def I5 (tab : List (TypeId × List (Option IntKind))) (t : TypeId) : Option (List (Option IntKind)) := (tab.find? fun p => Nat.beq p.1 t).map (·.2)

theorem FZ.of_tab {C : Ctx} {tab : List (TypeId × List (Option IntKind))} (hk : C.eqk = I5 tab) (h : Nb C.P tab = true) : FZ C := by
 intro t ks ht
 rw [hk] at ht
 unfold I5 at ht
 obtain ⟨p, hp, rfl⟩ := Option.map_eq_some_iff.1 ht
 have hm := List.mem_of_find?_eq_some hp
 have he : p.1 = t := Nat.eq_of_beq_eq_true (by have := List.find?_some hp; exact this)
 subst he
 have := List.all_eq_true.1 h p hm
 simp only [Bool.and_eq_true, beq_iff_eq, Bool.not_eq_true'] at this
 obtain ⟨⟨h1, h2⟩, h3⟩ := this
 refine ⟨h3, fun xs ys hx hy w => ?_⟩
 obtain ⟨_, _, g3⟩ := tQ C.P 20 _ _ h1
 obtain ⟨k1, k2⟩ := qZ hx
 have := g3 10000 (by omega) _ _ k1 (qZ hy).1 w
 rw [k2 hy] at this
 simpa [mkV, h2, Op.equal, Op.maxDepth] using this

end Go.AX

/-! (AxZd) -/

namespace Go.AX

theorem K5 (b : Bool) : ((bif b then (0 : Int) else 8) != 0) = !b := by cases b <;> rfl
theorem Ko (b : Bool) : ((bif b then (0 : Int) else 8) == 0) = b := by cases b <;> rfl
attribute [go_sem] K5 Ko


theorem nq {x : Int} : IntKind.wrap .u64 x = x % 18446744073709551616 := by
 simp [IntKind.wrap, IntKind.signed, IntKind.bits]
theorem BP (x : Int) (h0 : 0 ≤ x) (h1 : x < 18446744073709551616) : ((BitVec.ofInt 64 x &&& BitVec.ofInt 64 4095).toNat : Int) = x % 4096 := by
 have e : (BitVec.ofInt 64 4095).toNat = 2 ^ 12 - 1 := by decide
 rw [BitVec.toNat_and, e, Nat.and_two_pow_sub_one_eq_mod, BitVec.toNat_ofInt]
 have : (x % ((2 ^ 64 : Nat) : Int)).toNat = x.toNat := by
  rw [Int.emod_eq_of_lt h0 (by simpa using h1)]
 rw [this]
 omega

def aE (a b : Int) : Int := (b - a) % 4096

theorem CB (a b : Int) : IntKind.wrap .i64 (IntKind.wrap .u64 ((BitVec.ofInt 64 (IntKind.wrap .u64 (IntKind.wrap .u64 b - IntKind.wrap .u64 a)) &&& BitVec.ofInt 64 4095).toNat : Int)) = aE a b := by
 rw [nq (x := b), nq (x := a), nq (x := _ - _), BP _ (by omega) (by omega), nq, yt (by omega) (by omega)]
 unfold aE
 omega

theorem Ed (a b : Int) : IntKind.wrap .i64 (IntKind.wrap .u64 ((BitVec.ofInt 64 (IntKind.wrap .u64 (IntKind.wrap .u64 a + IntKind.wrap .u64 b)) &&& BitVec.ofInt 64 4095).toNat : Int)) = (a + b) % 4096 := by
 rw [nq (x := b), nq (x := a), nq (x := _ + _), BP _ (by omega) (by omega), nq, yt (by omega) (by omega)]
 omega

end Go.AX
namespace Go.AX

theorem CN {α : Type} {f : α → List AV} {sz : Nat} (hf : ∀ a, (f a).length = sz) : ∀ (l : List α) (i : Nat) (a : α) (o n : Nat), l[i]? = some a → o + n ≤ sz → ((l.flatMap f).drop (i * sz + o)).take n = ((f a).drop o).take n := by
 intro l i a o n h ho
 have h1 := zH hf l i a h
 rw [← List.drop_drop, ← h1, List.drop_take, List.take_take]
 congr 1
 omega

theorem zC {α : Type} {f : α → List AV} {sz : Nat} (hf : ∀ a, (f a).length = sz) : ∀ (l : List α) (i : Nat) (a b : α) (o : Nat) (x : AV), l[i]? = some a → o < sz → (f a).set o x = f b → (l.flatMap f).set (i * sz + o) x = (l.set i b).flatMap f
 | [], i, a, b, o, x, h, _, _ => by simp at h
 | c :: l, 0, a, b, o, x, h, ho, hs => by
  simp at h; subst h
  simp only [Nat.zero_mul, Nat.zero_add, List.flatMap_cons, List.set_cons_zero]
  rw [List.set_append_left _ _ (by rw [hf]; exact ho), hs]
 | c :: l, i + 1, a, b, o, x, h, ho, hs => by
  simp at h
  have ih := zC hf l i a b o x h ho hs
  simp only [List.flatMap_cons, List.set_cons_succ]
  rw [List.set_append_right _ _ (by rw [hf, Nat.add_mul]; omega), hf, show (i + 1) * sz + o - sz = i * sz + o by rw [Nat.add_mul]; omega, ih]

end Go.AX
namespace Go.AX
end Go.AX
namespace Go.AX
theorem JF {P : Program} {B : Nat} {t : TypeId} {x : AV} {fs : Array Field} (hu : P.underlying t = some (.struct fs)) (h : TyV P B t x) : ∃ n l, x = .agg l ∧ Ty P B n t l := by
 obtain ⟨n, l, h1, h2⟩ := h
 simp only [hu] at h2
 exact ⟨n, l, h2, h1⟩
theorem F0 {P : Program} {B : Nat} {t e : TypeId} {x : AV} (hu : P.underlying t = some (.slice e)) (h : TyV P B t x) : ∃ n, Ty P B n t [x] := by
 obtain ⟨n, l, h1, h2⟩ := h
 simp only [hu] at h2
 subst h2
 exact ⟨n, h1⟩
end Go.AX

/-! (AxZe) -/

namespace Go.AX

theorem lN {C : Ctx} {d : Bool} {fr : Nat} {f : FuncId} {args args' : List AV} {s : HS} {k : AV → HS → Prop} {r : AV} (he : args.map (fz s.objs gM) = args') (h : SndP C f args' r) (hb : kP r) (hk : k r s) : kf C d fr (some (f, args)) s k :=
 E7 (by rw [he]; exact h) hb hk

theorem lI {C : Ctx} {d : Bool} {fr : Nat} {f : FuncId} {args args' : List AV} {s : HS} {k : AV → HS → Prop} {r : AV} (he : args.map (fz (fun _ => .dead) gM) = args') (h : SndP C f args' r) (hk : k r s) : kf C d fr (some (f, args)) s k :=
 aQ (SndP.norm (by rw [he]; exact h)) hk
theorem fm (o : Nat → Ob) (n : Nat) (x : Value) : bc o (n + 1) (.v x) = [] := rfl
end Go.AX

/-! (AyA) -/

namespace Go.AX.Z
open Go.AX

def Lo (k : Nat) (B : Base) : Prop := B.s.next = k ∧ (∀ id, k ≤ id → B.ρ id = none) ∧ ∀ m, B.mks = some m → m ≤ B.w.heap.size

def Wk (k : Nat) (C : Ctx) (s t : AS) : Prop := ∀ (N : Nat) (B : Base) (a : Act) (w : World), Lo k B → GS C N B (fun _ => False) s a w → GS C N B (fun _ => False) t a w

theorem Wk.refl (k : Nat) (C : Ctx) (s : AS) : Wk k C s s := fun _ _ _ _ _ h => h
theorem Wk.trans {k : Nat} {C : Ctx} {s t u : AS} (h : Wk k C s t) (h' : Wk k C t u) : Wk k C s u := fun N B a w hl hg => h' N B a w hl (h N B a w hl hg)

def awp (k : Nat) (C : Ctx) : Code → (AExit → AS → Prop) → AS → Prop
 | .skip, Q, s => Q .normal s
 | .label _, Q, s => Q .normal s
 | .region _ ops draw, Q, s => match draw with
  | false => kr C ops.toList s.next 0 ops.toList { s with next := s.next + ops.size } (Q .normal)
  | true => dr C ops.toList s.next 0 ops.toList { s with next := s.next + ops.size } [] (Q .normal)
 | .seq x y, Q, s => awp k C x (fun e s' => match e with
  | .normal => ∃ t, Wk k C s' t ∧ awp k C y Q t
  | e => Q e s') s
 | .cond c x y, Q, s => match ev C s c with
  | .v (.bool b) => (b = true → awp k C x Q s) ∧ (b = false → awp k C y Q s)
  | _ => False
 | .block id c, Q, s => awp k C c (fun e s' => match e with
  | .exit j => if j = id then Q .normal s' else Q (.exit j) s'
  | e => Q e s') s
 | .loop c, Q, s => ∃ (I : AS → Prop) (μ : AS → Nat), (∃ s0, Wk k C s s0 ∧ I s0) ∧ ∀ t, I t → awp k C c (fun e s' => match e with
  | .normal => ∃ t', Wk k C s' t' ∧ I t' ∧ μ t' < μ t
  | e => Q e s') t
 | .exit id, Q, s => Q (.exit id) s
 | .ret, Q, s => Q .ret s
 | .rangeFunc g ps x y, Q, s => ∀ (N : Nat) (B : Base) (a : Act) (w : World), gX N (.rangeFunc g ps x y) = true → Lo k B → B.mks.isSome = true → GS C N B (fun _ => False) s a w → (Code.rangeFunc g ps x y).wp C.P (AQ C N B Q) a w
 | _, _, _ => False


theorem pV {k : Nat} {C : Ctx} (hC : COk C) {N : Nat} {B : Base} (hLo : Lo k B) (hms : B.mks.isSome = true) : ∀ (c : Code) (Q : AExit → AS → Prop) (s : AS) (a : Act) (w : World), gX N c = true → awp k C c Q s → GS C N B (fun _ => False) s a w → c.wp C.P (AQ C N B Q) a w := by
 intro c
 induction c with
 | skip => intro Q s a w _ h hg; exact wp_skip ⟨s, h, hg⟩
 | label l => intro Q s a w _ h hg; exact wp_label ⟨s, h, hg⟩
 | exit id => intro Q s a w _ h hg; exact wp_exit ⟨s, h, hg⟩
 | ret => intro Q s a w _ h hg; exact wp_ret ⟨s, h, hg⟩
 | goto l => intro Q s a w _ h hg; exact h.elim
 | refuse why => intro Q s a w _ h hg; exact h.elim
 | scope c ih => intro Q s a w _ h hg; exact h.elim
 | rangeFunc f ps x y ih1 ih2 => intro Q s a w hst h hg; exact h N B a w hst hLo hms hg
 | region id ops draw =>
  intro Q s a w hst h hg
  simp only [gX, Bool.and_eq_true] at hst
  have hd := mA hst.1
  cases draw with
  | false =>
   obtain ⟨hb, hB⟩ := hg.bump (w' := w) ops.size rfl rfl rfl
   have := vQ hC (Q := AQ C N B Q) hB hd (K := Q .normal) (fun s' a' w' hk hg' => ⟨s', hk, hg'⟩) ops.toList 0 _ a w rfl (Nat.le_refl _) (by simpa using hb) h
   exact wp_region (by simpa using this)
  | true =>
   have hst2 := hst.2
   simp only [Bool.not_true, Bool.false_or, Bool.and_eq_true] at hst2
   obtain ⟨hb, hB⟩ := hg.bump (w' := { w with drawn := w.drawn + 1 }) ops.size rfl rfl rfl
   exact wp_region_any hC.mixed (pr hC (Q := AQ C N B Q) hB hd hst2.1 hst2.2 (K := Q .normal) (fun s' a' w' hk hg' => ⟨s', hk, hg'⟩) (Nat.le_refl _) hb h)
 | seq x y ih1 ih2 =>
  intro Q s a w hst h hg
  simp only [gX, Bool.and_eq_true] at hst
  refine wp_seq (wp_mono (ih1 _ s a w hst.1 h hg) ?_)
  intro e a' w' hq
  cases e with
  | normal =>
   obtain ⟨s', ⟨t, hwk, hk⟩, hg'⟩ := hq
   exact ih2 Q t a' w' hst.2 hk (hwk _ _ _ _ hLo hg')
  | exit id => exact hq
  | ret => exact hq
  | goto l => exact hq
  | panic ch => exact hq
  | outgrown => exact hq
 | cond c x y ih1 ih2 =>
  intro Q s a w hst h hg
  simp only [gX, Bool.and_eq_true] at hst
  have h' : ∃ b, ev C s c = .v (.bool b) ∧ (b = true → awp k C x Q s) ∧ (b = false → awp k C y Q s) := by
   simp only [awp] at h
   split at h
   ·
    rename_i b hb; exact ⟨b, hb, h⟩
   ·
    exact h.elim
  obtain ⟨b, hb, h1, h2⟩ := h'
  obtain ⟨ρ, V, k1, k2, k3, k4, k5, k6, k7⟩ := hg
  have hev := jD k1 k3 c
  rw [hb] at hev
  refine wp_cond_split (t := b) (Rel.v_inv hev) (fun hbt => ih1 Q s a w hst.1 (h1 hbt) ⟨ρ, V, k1, k2, k3, k4, k5, k6, k7⟩) (fun hbf => ih2 Q s a w hst.2 (h2 hbf) ⟨ρ, V, k1, k2, k3, k4, k5, k6, k7⟩)
 | block id c ih =>
  intro Q s a w hst h hg
  refine wp_block (wp_mono (ih _ s a w hst h hg) ?_)
  intro e a' w' hq
  cases e with
  | normal => exact hq
  | exit j =>
   obtain ⟨s', hk, hg'⟩ := hq
   simp only [Exit.inBlock]
   by_cases hj : j = id
   ·
    simp only [hj, if_true] at hk ⊢
    exact ⟨s', hk, hg'⟩
   ·
    simp only [hj, if_false] at hk ⊢
    exact ⟨s', hk, hg'⟩
  | ret => exact hq
  | goto l => exact hq
  | panic ch => exact hq
  | outgrown => exact hq
 | loop c ih =>
  intro Q s a w hst h hg
  obtain ⟨I, μ, ⟨s0, hwk0, h0⟩, hround⟩ := h
  refine wp_loop_ghost (fun n a w => ∃ t, μ t = n ∧ I t ∧ GS C N B (fun _ => False) t a w) (μ s0) ⟨s0, rfl, h0, hwk0 _ _ _ _ hLo hg⟩ ?_
  rintro n a w ⟨t, rfl, hI, hg⟩
  refine wp_mono (ih _ t a w hst (hround t hI) hg) ?_
  intro e a' w' hq
  cases e with
  | normal =>
   obtain ⟨s', ⟨t', hwk, hk, hm⟩, hg'⟩ := hq
   exact ⟨μ t', hm, t', rfl, hk, hwk _ _ _ _ hLo hg'⟩
  | exit id => exact hq
  | ret => exact hq
  | goto l => exact hq
  | panic ch => exact hq
  | outgrown => exact hq


theorem vK {C : Ctx} (hC : COk C) {f : FuncId} {fn : Func} {c : Code} {args : List AV} {s : HS} {Q : AV → HS → Prop} (hf : C.P.funcs[f]? = some fn) (hb : fn.body = some c) (hn : (fn.name == "runtime.NumGoroutine") = false)
  (hst : gX fn.ntmps c = true) (hargs : args.length ≤ fn.ntmps) (h : awp s.next C c (xo C fn Q) (gc args s)) : Snd C f args s Q := by
 refine ⟨trivial, fun ρ V w args' h1 h2 h3 h4 => .inl ⟨⟨fn, hf, by rw [hb]; rfl, hn⟩, ?_⟩⟩
 refine mT hf hb ?_
 let B : Base := ⟨ρ, V, s, w, some w.heap.size⟩
 have hg : GS C fn.ntmps B (fun _ => False) (gc args s) { tmps := args' ++ Array.replicate (fn.ntmps - args'.size) undef, defers := [] } w := by
  refine ⟨ρ, V, fun t => ?_, h3, h4, Grew.refl _ _ _ _, by simp; omega, iy.nil _ _, fun id hid => hid.elim⟩
  simp only [gc, List.getD_eq_getElem?_getD]
  rw [Array.getD_eq_getD_getElem?, Array.getElem?_append]
  by_cases ht : t < args'.size
  ·
   rw [if_pos ht]
   have ht' : t < args.length := by omega
   have e1 : args[t]? = some args[t] := by simp [ht']
   have e2 : args'[t]? = some args'[t] := by simp [ht]
   rw [e1, e2]
   exact h2 t _ _ e1 e2
  ·
   rw [if_neg ht, List.getElem?_eq_none (by omega)]
   simp only [Option.getD_none]
   have : (Array.replicate (fn.ntmps - args'.size) undef)[t - args'.size]?.getD undef = undef := by
    by_cases h5 : t - args'.size < fn.ntmps - args'.size <;> simp [h5]
   rw [this]; exact .v _
 refine wp_mono (pV hC ⟨rfl, fun id hid => h3.fresh id hid, fun m hm => by cases hm; exact Nat.le_refl _⟩ rfl c _ _ _ _ hst h hg) ?_
 intro e a' w' hq
 have fin : ∀ s', (∃ r, sL C s' fn.results.toList = some r ∧ Q r s'.toHS) → GS C fn.ntmps B (fun _ => False) s' a' w' → LeavesInM Fence.wide 0 C.P fn a'.tmps (fun e w' =>
   ∃ y r s' ρ' V', e = Ending.returned y ∧ Q r s' ∧ Rel ρ' V' r y ∧ Inv ρ' V' s' w' ∧ Grew ρ V s w ρ' V' s' w') a'.defers .returning w' := by
  rintro s' ⟨r, hr, hQ⟩ hgs
  refine tw hgs ⟨_, rfl, Nat.le_refl _⟩ ?_
  rintro tmps w'' ds ⟨ρ', V', k1, k2, k3, k4, k5, k6, k7⟩
  obtain ⟨y, hy1, hy2⟩ := pc k1 k2 hr
  exact ⟨y, hy1, y, r, s'.toHS, ρ', V', rfl, hQ, hy2, k2, k4⟩
 cases e with
 | normal =>
  obtain ⟨s', hk, hg'⟩ := hq
  exact fin s' hk hg'
 | ret =>
  obtain ⟨s', hk, hg'⟩ := hq
  exact fin s' hk hg'
 | exit id =>
  obtain ⟨s', hk, hg'⟩ := hq
  exact hk.elim
 | goto l => exact hq.elim
 | panic ch => exact hq.elim
 | outgrown => exact hq.elim


section
variable {k : Nat} {C : Ctx} {x y z : Code} {Q : AExit → AS → Prop} {s : AS}

theorem dB {k : Nat} {C : Ctx} : ∀ (c : Code) {Q Q' : AExit → AS → Prop} {s : AS}, awp k C c Q s → (∀ e t, Q e t → Q' e t) → awp k C c Q' s := by
 intro c
 induction c with
 | skip => intro Q Q' s h hq; exact hq _ _ h
 | label l => intro Q Q' s h hq; exact hq _ _ h
 | exit id => intro Q Q' s h hq; exact hq _ _ h
 | ret => intro Q Q' s h hq; exact hq _ _ h
 | goto l => intro Q Q' s h hq; exact h.elim
 | refuse why => intro Q Q' s h hq; exact h.elim
 | scope c ih => intro Q Q' s h hq; exact h.elim
 | rangeFunc f ps x y ih1 ih2 =>
  intro Q Q' s h hq N B a w h1 h2 h2' h3
  refine wp_mono (h N B a w h1 h2 h2' h3) ?_
  intro e a' w' hh
  cases e with
  | normal => obtain ⟨t, h4, h5⟩ := hh; exact ⟨t, hq _ _ h4, h5⟩
  | exit id => obtain ⟨t, h4, h5⟩ := hh; exact ⟨t, hq _ _ h4, h5⟩
  | ret => obtain ⟨t, h4, h5⟩ := hh; exact ⟨t, hq _ _ h4, h5⟩
  | goto l => exact hh.elim
  | panic ch => exact hh.elim
  | outgrown => exact hh.elim
 | region id ops draw =>
  intro Q Q' s h hq
  have hst : ∀ {all : List Oper} {base : Nat} (l : List Oper) (i : Nat) (s : AS), kr C all base i l s (Q .normal) → kr C all base i l s (Q' .normal) := by
   intro all base l
   induction l with
   | nil => intro i s h; exact hq _ _ h
   | cons o rest ih =>
    intro i s h
    have step : ∀ {s : AS}, (kh C s (base + i) o fun s' => kr C all base (i + 1) rest s' (Q .normal)) → kh C s (base + i) o fun s' => kr C all base (i + 1) rest s' (Q' .normal) := by
     intro s h
     unfold kh at h ⊢
     split at h
     ·
      rcases h with ⟨R, h1, h2⟩ | ⟨e, h1, h2⟩
      ·
       exact .inl ⟨R, h1, fun r hs hr => ih _ _ (h2 r hs hr)⟩
      ·
       exact .inr ⟨e, h1, ih _ _ h2⟩
     ·
      split at h
      ·
       exact ih _ _ h
      ·
       exact h.elim
    simp only [kr] at h ⊢
    split at h
    ·
     rename_i hg
     exact step h
    ·
     rename_i g want hg
     split at h
     ·
      rename_i d hd
      first | rw [hd] | skip
      obtain ⟨x, h1, h2, h3⟩ := h
      exact ⟨x, h1, fun hh => step (h2 hh), fun hh => ih _ _ (h3 hh)⟩
     ·
      exact h.elim
  have hdr : ∀ {all : List Oper} {base : Nat} (l : List Oper) (i : Nat) (s : AS) (acc : List eK), dr C all base i l s acc (Q .normal) → dr C all base i l s acc (Q' .normal) := by
   intro all base l
   induction l with
   | nil => intro i s acc h; exact ⟨h.1, hq _ _ h.2⟩
   | cons o rest ih =>
    intro i s acc h
    have step : ∀ {s : AS}, (match dV C s o.op with
      | some (f, args) => (∃ e rd, ny C f args s.objs rd (base + i) e ∧ dr C all base (i + 1) rest (s.apply o.dst (base + i) e) (eP (i, rd, cG (base + i) e.act) acc) (Q .normal)) ∨
        (dZ all i = true ∧ bS all acc = true ∧ ∃ R, Snd C f args s.toHS R ∧ ∀ r hs, R r hs → dr C all base (i + 1) rest { hs with tmps := jc s.tmps o.dst r } [] (Q .normal))
      | none => match ce C s (base + i) o.op with
       | some e => dr C all base (i + 1) rest (s.apply o.dst (base + i) e) (eP (i, fO C s o.op, cG (base + i) e.act) acc) (Q .normal)
       | none => False) → (match dV C s o.op with
      | some (f, args) => (∃ e rd, ny C f args s.objs rd (base + i) e ∧ dr C all base (i + 1) rest (s.apply o.dst (base + i) e) (eP (i, rd, cG (base + i) e.act) acc) (Q' .normal)) ∨
        (dZ all i = true ∧ bS all acc = true ∧ ∃ R, Snd C f args s.toHS R ∧ ∀ r hs, R r hs → dr C all base (i + 1) rest { hs with tmps := jc s.tmps o.dst r } [] (Q' .normal))
      | none => match ce C s (base + i) o.op with
       | some e => dr C all base (i + 1) rest (s.apply o.dst (base + i) e) (eP (i, fO C s o.op, cG (base + i) e.act) acc) (Q' .normal)
       | none => False) := by
     intro s h
     split at h
     ·
      rename_i f args hc
      rcases h with ⟨r, rd, h1, h2⟩ | ⟨hb, hp, R, h1, h2⟩
      ·
       exact .inl ⟨r, rd, h1, ih _ _ _ h2⟩
      ·
       exact .inr ⟨hb, hp, R, h1, fun r hs hr => ih _ _ _ (h2 r hs hr)⟩
     ·
      split at h
      ·
       exact ih _ _ _ h
      ·
       exact h.elim
    simp only [dr] at h ⊢
    split at h
    ·
     rename_i hg
     exact step h
    ·
     rename_i g want hg
     split at h
     ·
      rename_i d hd
      first | rw [hd] | skip
      obtain ⟨x, h1, h2, h3⟩ := h
      exact ⟨x, h1, fun hh => step (h2 hh), fun hh => ih _ _ _ (h3 hh)⟩
     ·
      exact h.elim
  cases draw with
  | false => exact hst _ _ _ h
  | true => exact hdr _ _ _ _ h
 | seq a b iha ihb =>
  intro Q Q' s h hq
  refine iha h ?_
  intro e t ht
  cases e with
  | normal => obtain ⟨u, h1, h2⟩ := ht; exact ⟨u, h1, ihb h2 hq⟩
  | exit j => exact hq _ _ ht
  | ret => exact hq _ _ ht
 | cond c a b iha ihb =>
  intro Q Q' s h hq
  simp only [awp] at h ⊢
  split at h
  ·
   exact ⟨fun hb => iha (h.1 hb) hq, fun hb => ihb (h.2 hb) hq⟩
  ·
   exact h.elim
 | block id c ih =>
  intro Q Q' s h hq
  refine ih h ?_
  intro e t ht
  cases e with
  | normal => exact hq _ _ ht
  | ret => exact hq _ _ ht
  | exit j =>
   simp only at ht ⊢
   split at ht
   ·
    rename_i hj; rw [if_pos hj]; exact hq _ _ ht
   ·
    rename_i hj; rw [if_neg hj]; exact hq _ _ ht
 | loop c ih =>
  intro Q Q' s h hq
  obtain ⟨I, μ, h0, h1⟩ := h
  refine ⟨I, μ, h0, fun t ht => ih (h1 t ht) ?_⟩
  intro e t' ht'
  cases e with
  | normal => exact ht'
  | exit j => exact hq _ _ ht'
  | ret => exact hq _ _ ht'

theorem jj (h : awp k C x (kJ (fun t => ∃ u, Wk k C t u ∧ awp k C y Q u) Q) s) : awp k C (.seq x y) Q s := by
 refine dB x h ?_
 intro e t ht
 cases e <;> exact ht

theorem jo (h : awp k C x (kJ (awp k C y Q) Q) s) : awp k C (.seq x y) Q s := by
 refine dB x h ?_
 intro e t ht
 cases e
 ·
  exact ⟨t, Wk.refl _ _ _, ht⟩
 ·
  exact ht
 ·
  exact ht

theorem kC (h : awp k C (.seq x y) Q s) : awp k C x (kJ (fun t => ∃ u, Wk k C t u ∧ awp k C y Q u) Q) s := by
 refine dB x h ?_
 intro e t ht
 cases e <;> exact ht

theorem aj (h : awp k C (.seq x (.seq y z)) Q s) : awp k C (.seq (.seq x y) z) Q s := by
 refine dB (.seq x y) (Q := kJ (fun t => ∃ u, Wk k C t u ∧ awp k C z Q u) Q) (jj (dB x (kC h) ?_)) ?_
 ·
  intro e t ht
  cases e with
  | normal => obtain ⟨u, h1, h2⟩ := ht; exact ⟨u, h1, kC h2⟩
  | exit j => exact ht
  | ret => exact ht
 ·
  intro e t ht
  cases e <;> exact ht

theorem jJ {k : Nat} {C : Ctx} {id : Nat} {ops : Array Oper} {draw : Bool} {Q : AExit → AS → Prop} {s : AS} (h : xw draw C (ops.toList.map (·.dst)) s.next 0 ops.toList { s with next := s.next + ops.size } (Q .normal)) : awp k C (.region id ops draw) Q s := by
 cases draw with
 | false => exact oQ _ _ _ h
 | true => exact rK _ _ _ _ (fun p hp => by cases hp) h

theorem rD {id : Nat} {ops : Array Oper} {draw : Bool} (h : ∀ K : AS → Prop, (∀ t, awp k C y Q t → K t) → xw draw C (ops.toList.map (·.dst)) s.next 0 ops.toList { s with next := s.next + ops.size } K) : awp k C (.seq (.region id ops draw) y) Q s :=
 jo (jJ (h _ fun _ ht => ht))

theorem vN {id : Nat} {ops : Array Oper} {draw : Bool} (h : ∀ K : AS → Prop, (∀ t, Q .normal t → K t) → xw draw C (ops.toList.map (·.dst)) s.next 0 ops.toList { s with next := s.next + ops.size } K) : awp k C (.region id ops draw) Q s :=
 jJ (h _ fun _ ht => ht)

theorem aO (h : awp k C y Q s) : awp k C (.seq .skip y) Q s := ⟨s, Wk.refl _ _ _, h⟩
theorem cS (h : Q .normal s) : awp k C .skip Q s := h
theorem bB (h : Q .ret s) : awp k C (.seq .ret y) Q s := jo h
theorem aL (h : Q .ret s) : awp k C .ret Q s := h
theorem cx {id : Nat} (h : Q (.exit id) s) : awp k C (.seq (.exit id) y) Q s := jo h
theorem bC {c : Operand} {b : Bool} (hc : ev C s c = .v (.bool b)) (h1 : b = true → awp k C x Q s) (h2 : b = false → awp k C y Q s) : awp k C (.cond c x y) Q s := by
 simp only [awp, hc]
 exact ⟨h1, h2⟩

theorem aN {c : Operand} {b : Bool} (hc : ev C s c = .v (.bool b)) (h1 : b = true → awp k C (.seq x z) Q s) (h2 : b = false → awp k C (.seq y z) Q s) : awp k C (.seq (.cond c x y) z) Q s :=
 jj (bC hc (fun hb => kC (h1 hb)) fun hb => kC (h2 hb))

theorem bp {id : Nat} (h : awp k C x (jX id Q) s) : awp k C (.block id x) Q s := by
 refine dB x h ?_
 intro e t ht
 cases e with
 | normal => exact ht
 | ret => exact ht
 | exit j =>
  simp only [jX] at ht
  by_cases hj : j = id
  ·
   subst hj
   simp only [if_true]
   simpa using ht
  ·
   simp only [if_neg hj]
   have : Nat.beq j id = false := Bool.eq_false_iff.2 fun hh => hj (Nat.eq_of_beq_eq_true hh)
   simpa [this] using ht

theorem xE {id : Nat} (h : awp k C x (jX id (kJ (awp k C y Q) Q)) s) : awp k C (.seq (.block id x) y) Q s := jo (bp h)

theorem rr (I : AS → Prop) (μ : AS → Nat) (h0 : ∃ s0, Wk k C s s0 ∧ I s0) (h : ∀ t, I t → awp k C x (mj (fun t' => ∃ t'', Wk k C t' t'' ∧ I t'' ∧ μ t'' < μ t) Q) t) : awp k C (.loop x) Q s := by
 refine ⟨I, μ, h0, fun t ht => ?_⟩
 refine dB x (h t ht) ?_
 intro e t' ht'
 cases e <;> exact ht'

theorem ax {fn : Func} {R : AV → HS → Prop} {rs : Array ResultVar} {r : AV} (hrs : fn.results = rs) (h : sL C s rs.toList = some r) (hr : R r s.toHS) : xo C fn R .ret s := ⟨r, by rw [hrs]; exact h, hr⟩
theorem ei {fn : Func} {R : AV → HS → Prop} {rs : Array ResultVar} {r : AV} (hrs : fn.results = rs) (h : sL C s rs.toList = some r) (hr : R r s.toHS) : xo C fn R .normal s := ⟨r, by rw [hrs]; exact h, hr⟩

theorem Bg {K : AS → Prop} : kJ K Q .normal s = K s := rfl
theorem BE {id : Nat} : jX id Q .normal s = Q .normal s := rfl
theorem EC {id : Nat} : jX id Q (.exit id) s = Q .normal s := by simp [jX]
theorem DS {id j : Nat} (h : Nat.beq j id = false) : jX id Q (.exit j) s = Q (.exit j) s := by simp [jX, h]

end

section
variable {k : Nat} {C : Ctx} {x y : Code} {Q : AExit → AS → Prop} {s : AS}

open Classical in
theorem vf (J : Nat → AS → Prop) (n : Nat) (h0 : ∃ s0, Wk k C s s0 ∧ J n s0) (h : ∀ n t, J n t → awp k C x (mj (fun t' => ∃ t'', Wk k C t' t'' ∧ ∃ m, m < n ∧ J m t'') Q) t) : awp k C (.loop x) Q s := by
 let ex : AS → Prop := fun t => ∃ n, J n t
 have least : ∀ t, ex t → ∃ n, J n t ∧ ∀ m, J m t → n ≤ m := by
  intro t ht
  have key : ∀ j0, J j0 t → ∃ n, J n t ∧ ∀ m, J m t → n ≤ m := by
   intro j0
   induction j0 using Nat.strongRecOn with
   | _ j0 ih =>
    intro hk
    by_cases hh : ∃ j, j < j0 ∧ J j t
    ·
     obtain ⟨j, hj, hjj⟩ := hh; exact ih j hj hjj
    ·
     refine ⟨j0, hk, fun m hm => ?_⟩
     rcases Nat.lt_or_ge m j0 with h1 | h1
     ·
      exact absurd ⟨m, h1, hm⟩ hh
     ·
      exact h1
  obtain ⟨j0, hk⟩ := ht
  exact key j0 hk
 let μ : AS → Nat := fun t => if ht : ex t then Classical.choose (least t ht) else 0
 have hμ : ∀ t, ex t → J (μ t) t ∧ ∀ m, J m t → μ t ≤ m := by
  intro t ht
  have := Classical.choose_spec (least t ht)
  simp only [μ, dif_pos ht]
  exact this
 obtain ⟨s0, hwk0, h0⟩ := h0
 refine rr ex μ ⟨s0, hwk0, n, h0⟩ fun t ht => ?_
 obtain ⟨h1, _⟩ := hμ t ht
 refine dB x (h _ t h1) ?_
 intro e t' ht'
 cases e with
 | normal =>
  obtain ⟨t'', hwk, m, hm, hj⟩ := ht'
  have := (hμ t'' ⟨m, hj⟩).2 m hj
  exact ⟨t'', hwk, ⟨m, hj⟩, by omega⟩
 | exit j => exact ht'
 | ret => exact ht'

theorem xO {c : Operand} {z : Code} (hc : ev C s c = .v (.bool false)) (h : awp k C (.seq y z) Q s) : awp k C (.seq (.cond c x y) z) Q s := aN hc (fun h => by cases h) (fun _ => h)
end

end Go.AX.Z

/-! (AyB) -/

namespace Go.AX.Z
open Go.AX

structure Cvt (s : AS) (F : List Nat) (σ : List (Option Nat)) (ρ ρ' : Rho) (V V' : bw) : Prop where
 ren : ∀ i old, σ[i]? = some (some old) → ρ' i = ρ old
 mono : ∀ b c, V b = some c → V' b = some c
 froz : ∀ id cells loc, id ∈ F → s.objs id = .live cells → ρ id = some loc → ∃ c, V' loc.b = some c ∧ RelC ρ V cells c loc.base

def Tm (s : AS) (F : List Nat) (σ : List (Option Nat)) (x y : AV) : Prop := ∀ ρ ρ' V V' v, Cvt s F σ ρ ρ' V V' → Rel ρ V x v → Rel ρ' V' y v
def TmL (s : AS) (F : List Nat) (σ : List (Option Nat)) (xs ys : List AV) : Prop := ys.length = xs.length ∧ ∀ (i : Nat) x y, xs[i]? = some x → ys[i]? = some y → Tm s F σ x y

section
variable {s : AS} {F : List Nat} {σ : List (Option Nat)}

theorem Tm.clean {x : AV} (h : aw x) : Tm s F σ x x := fun ρ ρ' V V' v hc hr => (h ρ ρ' V v hr).mono (fun _ _ h => h) hc.mono
theorem Tm.v (x : Value) : Tm s F σ (.v x) (.v x) := Tm.clean (aw.v x)
theorem Tm.unk (x : AV) : Tm s F σ x .unk := fun ρ ρ' V V' v hc hr => .unk v
theorem Tm.ref {i old off len sz : Nat} (h : σ[i]? = some (some old)) : Tm s F σ (.ref old off len sz) (.ref i off len sz) := by
 intro ρ ρ' V V' v hc hr
 cases hr with
 | ref _ _ _ _ cap loc h1 h2 h3 => exact .ref i off len sz cap loc (by rw [hc.ren i old h]; exact h1) h2 h3
 | refE _ _ _ addr => exact .refE i off sz addr
theorem Tm.ptr {i old off : Nat} (h : σ[i]? = some (some old)) : Tm s F σ (.ptr old off) (.ptr i off) := by
 intro ρ ρ' V V' v hc hr
 cases hr with
 | ptr _ _ loc h1 => exact .ptr i off loc (by rw [hc.ren i old h]; exact h1)
theorem Tm.thaw (i off sz : Nat) : Tm s F σ (.v (.slice none 0 0)) (.ref i off 0 sz) := by
 intro ρ ρ' V V' v hc hr
 cases hr
 exact .refE i off sz none
theorem Tm.nil : Tm s F σ (.v (.slice none 0 0)) (.imm [] 0) := by
 intro ρ ρ' V V' v hc hr
 cases hr
 exact .imm0 none 0

theorem TmL.nil : TmL s F σ [] [] := ⟨rfl, fun i x y h => by simp at h⟩
theorem TmL.cons {x y : AV} {xs ys : List AV} (h : Tm s F σ x y) (t : TmL s F σ xs ys) : TmL s F σ (x :: xs) (y :: ys) := by
 refine ⟨by simp [t.1], fun i a b ha hb => ?_⟩
 cases i with
 | zero => simp at ha hb; subst ha; subst hb; exact h
 | succ i => simp at ha hb; exact t.2 i a b ha hb
theorem TmL.append {xs ys xs' ys' : List AV} (h : TmL s F σ xs ys) (h' : TmL s F σ xs' ys') : TmL s F σ (xs ++ xs') (ys ++ ys') := by
 refine ⟨by simp [h.1, h'.1], fun i a b ha hb => ?_⟩
 rcases Nat.lt_or_ge i xs.length with hi | hi
 ·
  rw [List.getElem?_append_left hi] at ha
  rw [List.getElem?_append_left (by rw [h.1]; exact hi)] at hb
  exact h.2 i a b ha hb
 ·
  rw [List.getElem?_append_right hi] at ha
  rw [List.getElem?_append_right (by rw [h.1]; exact hi), h.1] at hb
  exact h'.2 _ a b ha hb
theorem TmL.clean {xs : List AV} (h : ∀ c ∈ xs, aw c) : TmL s F σ xs xs := by
 refine ⟨rfl, fun i a b ha hb => ?_⟩
 rw [ha] at hb; cases hb
 exact Tm.clean (h a (List.mem_of_getElem? ha))

theorem TmL.relC {ρ ρ' : Rho} {V V' : bw} {xs ys : List AV} {c : Array Value} {o : Nat} (h : TmL s F σ xs ys) (hc : Cvt s F σ ρ ρ' V V') (hr : RelC ρ V xs c o) : RelC ρ' V' ys c o := by
 refine ⟨by rw [h.1]; exact hr.le, fun i x y hx hy => ?_, fun i y hi hy => hr.sto i y (by rw [← h.1]; exact hi) hy⟩
 have hi : i < xs.length := by rw [← h.1]; exact (List.getElem?_eq_some_iff.1 hx).1
 have e : xs[i]? = some xs[i] := by simp [hi]
 exact h.2 i _ x e hx ρ ρ' V V' y hc (hr.rel i _ y e hy)

theorem Tm.agg {xs ys : List AV} (h : TmL s F σ xs ys) : Tm s F σ (.agg xs) (.agg ys) := by
 intro ρ ρ' V V' v hc hr
 obtain ⟨zs, rfl, h1, h2⟩ := Rel.agg_iff.1 hr
 exact Rel.agg_iff.2 ⟨zs, rfl, by rw [h1, h.1], h.relC hc h2⟩
theorem Tm.tup {xs ys : List AV} (h : TmL s F σ xs ys) : Tm s F σ (.tup xs) (.tup ys) := by
 intro ρ ρ' V V' v hc hr
 cases hr with
 | tup _ zs h1 H =>
  refine .tup _ zs (by rw [h1, h.1]) fun i x y hx hy => ?_
  have hi : i < xs.length := by rw [← h.1]; exact (List.getElem?_eq_some_iff.1 hx).1
  have e : xs[i]? = some xs[i] := by simp [hi]
  exact h.2 i _ x e hx ρ ρ' V V' y hc (H i _ y e hy)
theorem Tm.clo {f : Nat} {xs ys xs' ys' : List AV} (h : TmL s F σ xs ys) (h' : TmL s F σ xs' ys') : Tm s F σ (.clo f xs xs') (.clo f ys ys') := by
 intro ρ ρ' V V' v hc hr
 cases hr with
 | clo _ _ _ zs zs' h1 h2 H1 H2 =>
  refine .clo f _ _ zs zs' (by rw [h1, h.1]) (by rw [h2, h'.1]) (fun i x y hx hy => ?_) (fun i x y hx hy => ?_)
  ·
   have hi : i < xs.length := by rw [← h.1]; exact (List.getElem?_eq_some_iff.1 hx).1
   have e : xs[i]? = some xs[i] := by simp [hi]
   exact h.2 i _ x e hx ρ ρ' V V' y hc (H1 i _ y e hy)
  ·
   have hi : i < xs'.length := by rw [← h'.1]; exact (List.getElem?_eq_some_iff.1 hx).1
   have e : xs'[i]? = some xs'[i] := by simp [hi]
   exact h'.2 i _ x e hx ρ ρ' V V' y hc (H2 i _ y e hy)
theorem Tm.frz {id off len sz : Nat} {cells ys : List AV} (hF : id ∈ F) (ho : s.objs id = .live cells) (hl : off + len * sz ≤ cells.length) (h : TmL s F σ ((cells.drop off).take (len * sz)) ys) : Tm s F σ (.ref id off len sz) (.imm ys len) := by
 intro ρ ρ' V V' v hc hr
 cases hr with
 | ref _ _ _ _ cap loc h1 h2 h3 =>
  obtain ⟨c, hv, hr⟩ := hc.froz id cells loc hF ho h1
  have h4 := h.relC hc (hr.sub off (len * sz) hl)
  exact Rel.imm_of len cap h3 hv h4
 | refE _ _ _ addr =>
  have : ys = [] := by
   have := h.1
   simp only [Nat.zero_mul, List.take_zero, List.length_nil] at this
   exact List.eq_nil_of_length_eq_zero this
  subst this
  exact .imm0 addr 0
theorem aG : ∀ j, Tm s F σ (s.tmps j) ((fun _ => AV.unk) j) := fun j => Tm.unk _
theorem IG {f : Nat → AV} (n : Nat) {x : AV} (h : ∀ j, Tm s F σ (s.tmps j) (f j)) (hx : Tm s F σ (s.tmps n) x) : ∀ j, Tm s F σ (s.tmps j) (upd f n x j) := by
 intro j
 by_cases hj : j = n
 ·
  subst hj; rw [cB]; exact hx
 ·
  rw [ba _ _ hj]; exact h j
end

def TmO (s : AS) (F : List Nat) (σ : List (Option Nat)) (objs : Nat → Ob) : Prop := ∀ i, objs i = .dead ∨ ∃ ys, objs i = .live ys ∧ ∀ old, σ[i]? = some (some old) → old ∉ F ∧ ∃ xs, s.objs old = .live xs ∧ TmL s F σ xs ys

section
variable {s : AS} {F : List Nat} {σ : List (Option Nat)}
theorem bo : TmO s F σ (fun _ => .dead) := fun _ => .inl rfl
theorem ar {f : Nat → Ob} (i : Nat) {old : Nat} {xs ys : List AV} (h : TmO s F σ f) (hi : σ[i]? = some (some old)) (hF : old ∉ F) (ho : s.objs old = .live xs) (hx : TmL s F σ xs ys) : TmO s F σ (upd f i (.live ys)) := by
 intro j
 by_cases hj : j = i
 ·
  subst hj
  rw [cB]
  refine .inr ⟨ys, rfl, fun o hs => ?_⟩
  rw [hi] at hs; cases hs
  exact ⟨hF, xs, ho, hx⟩
 ·
  rw [ba _ _ hj]; exact h j
theorem vI {f : Nat → Ob} (i : Nat) {ys : List AV} (h : TmO s F σ f) (hi : σ[i]? = some none) : TmO s F σ (upd f i (.live ys)) := by
 intro j
 by_cases hj : j = i
 ·
  subst hj
  rw [cB]
  refine .inr ⟨ys, rfl, fun o hs => ?_⟩
  rw [hi] at hs; cases hs
 ·
  rw [ba _ _ hj]; exact h j
end

def sgB (k : Nat) (σ : List (Option Nat)) : Bool := (List.range k).all (fun i => σ[i]? == some (some i)) && decide ((σ.filterMap id).Nodup)

theorem yq : ∀ {σ : List (Option Nat)}, (σ.filterMap id).Nodup → ∀ (i j old : Nat), σ[i]? = some (some old) → σ[j]? = some (some old) → i = j
 | [], _, i, j, old, h, _ => by simp at h
 | x :: σ, hn, i, j, old, hi, hj => by
  have mem : ∀ n, σ[n]? = some (some old) → old ∈ σ.filterMap id := fun n hn => List.mem_filterMap.2 ⟨some old, List.mem_of_getElem? hn, rfl⟩
  have hn' : (σ.filterMap id).Nodup := by
   cases x with
   | none => simpa using hn
   | some y => simp at hn; simpa using hn.2
  cases i with
  | zero =>
   cases j with
   | zero => rfl
   | succ j =>
    simp at hi hj
    subst hi
    have := mem j hj
    simp only [List.filterMap_cons, id, List.nodup_cons] at hn
    exact absurd this hn.1
  | succ i =>
   cases j with
   | zero =>
    simp at hi hj
    subst hj
    have := mem i hi
    simp only [List.filterMap_cons, id, List.nodup_cons] at hn
    exact absurd this hn.1
   | succ j =>
    simp at hi hj
    rw [yq hn' i j old hi hj]

def wR (F : List Nat) (ρ : Rho) (s : HS) (b : Nat) : Prop := ∃ id cells loc, id ∈ F ∧ s.objs id = .live cells ∧ ρ id = some loc ∧ loc.b = b

open Classical in
noncomputable def VF (F : List Nat) (ρ : Rho) (V : bw) (s : HS) (w : World) : bw := fun b =>
 match V b with
 | some c => some c
 | none => if wR F ρ s b then match w.heap[b]? with
   | some (.cells c _ _) => some c
   | _ => none
  else none

theorem kH {F : List Nat} {ρ : Rho} {V : bw} {s : HS} {w : World} : ∀ b c, V b = some c → VF F ρ V s w b = some c := by
 intro b c h; simp [VF, h]
theorem fT {F : List Nat} {ρ : Rho} {V : bw} {s : HS} {w : World} {b : Nat} {c : Array Value} (h : VF F ρ V s w b = some c) :
  V b = some c ∨ (wR F ρ s b ∧ ∃ T fz, w.heap[b]? = some (.cells c T fz)) := by
 unfold VF at h
 split at h
 ·
  rename_i hv; cases h; exact .inl hv
 ·
  split at h
  ·
   rename_i ho
   split at h
   ·
    rename_i c' T fz hb; cases h; exact .inr ⟨ho, T, fz, hb⟩
   ·
    cases h
  ·
   cases h

def DF (objs : Nat → Ob) : List Nat → Prop
 | [] => True
 | i :: l => objs i = .dead ∧ DF objs l
theorem xX {objs : Nat → Ob} : ∀ {l : List Nat}, DF objs l → ∀ i ∈ l, objs i = .dead
 | [], _, i, h => by cases h
 | j :: l, hd, i, h => by
  rcases List.mem_cons.1 h with rfl | h
  ·
   exact hd.1
  ·
   exact xX hd.2 i h
def wd (dd : List Nat) : Nat → List (Option Nat) → List (Option Nat)
 | _, [] => []
 | i, x :: σ => bif dd.contains i then none :: wd dd (i + 1) σ else x :: wd dd (i + 1) σ
theorem ti (dd : List Nat) : ∀ (σ : List (Option Nat)) (i0 i : Nat), i0 + i ∉ dd → (wd dd i0 σ)[i]? = σ[i]?
 | [], i0, i, _ => rfl
 | x :: σ, i0, 0, h => by
  have : dd.contains i0 = false := by simpa using h
  rw [wd, this]; rfl
 | x :: σ, i0, i + 1, h => by
  have := ti dd σ (i0 + 1) i (by rw [show i0 + 1 + i = i0 + (i + 1) by omega]; exact h)
  cases hc : dd.contains i0
  ·
   rw [wd, hc]; simpa using this
  ·
   rw [wd, hc]; simpa using this
def sgD (k : Nat) (dd : List Nat) (σ : List (Option Nat)) : Bool := (List.range k).all (fun i => σ[i]? == some (some i)) && decide (((wd dd 0 σ).filterMap id).Nodup)
theorem BR {k : Nat} {dd : List Nat} {σ : List (Option Nat)} (h : sgD k dd σ = true) : ∀ (i j old : Nat), i ∉ dd → j ∉ dd → σ[i]? = some (some old) → σ[j]? = some (some old) → i = j := by
 intro i j old hi hj h1 h2
 simp only [sgD, Bool.and_eq_true, decide_eq_true_eq] at h
 refine yq h.2 i j old ?_ ?_
 ·
  rw [ti dd σ 0 i (by rw [Nat.zero_add]; exact hi)]; exact h1
 ·
  rw [ti dd σ 0 j (by rw [Nat.zero_add]; exact hj)]; exact h2

theorem Wk.canonD {k : Nat} {C : Ctx} {s : AS} (F : List Nat) (dd : List Nat) (σ : List (Option Nat)) {objs : Nat → Ob} {nx : Nat} {tm : Nat → AV} (hs : sgD k dd σ = true) (hdd : DF objs dd) (hn : nx = σ.length) (ho : TmO s F σ objs) (ht : ∀ j, Tm s F σ (s.tmps j) (tm j)) :
  Wk k C s { objs := objs, next := nx, tmps := tm } := by
 subst hn
 intro N B a w hLo hg
 obtain ⟨ρ, V, h1, h2, h3, h4, h5, h6, h7⟩ := hg
 have hdead := xX hdd
 have hinj := BR hs
 simp only [sgD, Bool.and_eq_true, decide_eq_true_eq, List.all_eq_true, List.mem_range, beq_iff_eq] at hs
 obtain ⟨hk, hnd⟩ := hs
 let ρ' : Rho := fun i => match σ[i]? with
  | some (some old) => ρ old
  | _ => none
 have hρ' : ∀ i old, σ[i]? = some (some old) → ρ' i = ρ old := fun i old h => by simp only [ρ', h]
 have hρs : ∀ i loc, ρ' i = some loc → ∃ old, σ[i]? = some (some old) ∧ ρ old = some loc := by
  intro i loc h
  simp only [ρ'] at h
  split at h
  ·
   rename_i old ho'; exact ⟨old, ho', h⟩
  ·
   cases h
 have hkl : k ≤ σ.length := by
  cases k with
  | zero => exact Nat.zero_le _
  | succ m => exact (List.getElem?_eq_some_iff.1 (hk m (Nat.lt_succ_self m))).1
 have hc : Cvt s F σ ρ ρ' V (VF F ρ V s.toHS w) := by
  refine ⟨hρ', kH, fun id cells loc hid hl hr => ?_⟩
  obtain ⟨c, T, g1, g2, g3, g4⟩ := h2.live id cells loc hl hr
  refine ⟨c, ?_, g3⟩
  have hof : wR F ρ s.toHS loc.b := ⟨id, cells, loc, hid, hl, hr, rfl⟩
  simp only [VF, g4, if_pos hof, g1]
 have ofo : ∀ b, wR F ρ s.toHS b → Own ρ s.toHS b := fun b ⟨id, cells, loc, _, g1, g2, g3⟩ => ⟨id, cells, loc, g1, g2, g3⟩
 refine ⟨ρ', VF F ρ V s.toHS w, fun t => ht t ρ ρ' V _ _ hc (h1 t), ?_, h3.mono kH, ?_, h5, h6, fun id hid => hid.elim⟩
 ·
  refine ⟨fun b c hv => ?_, fun id hid => ?_, fun id cells loc hl hr => ?_, fun id cells loc hl hr => ?_, fun i j li lj ci cj hi hj hri hrj hb => ?_⟩
  ·
   rcases fT hv with h | ⟨_, h⟩
   ·
    exact h2.view b c h
   ·
    exact h
  ·
   have : σ[id]? = none := List.getElem?_eq_none hid
   simp only [ρ', this]
  ·
   obtain ⟨old, hso, hro⟩ := hρs id loc hr
   rcases ho id with hd | ⟨ys, hy, H⟩
   ·
    simp only [hd] at hl; cases hl
   ·
    simp only at hl
    rw [hy] at hl; cases hl
    obtain ⟨hF, xs, g1, g2⟩ := H old hso
    obtain ⟨c, T, e1, e2, e3, e4⟩ := h2.live old xs loc g1 hro
    refine ⟨c, T, e1, e2, g2.relC hc e3, ?_⟩
    cases hv : VF F ρ V s.toHS w loc.b with
    | none => rfl
    | some c' =>
     rcases fT hv with h | ⟨⟨id', cs', loc', m1, m2, m3, m4⟩, _⟩
     ·
      rw [e4] at h; cases h
     ·
      have := h2.inj id' old loc' loc cs' xs m2 g1 m3 hro m4
      subst this
      exact absurd m1 hF
  ·
   rcases ho id with hd | ⟨ys, hy, H⟩
   ·
    simp only [hd] at hl; cases hl
   ·
    simp only [hy] at hl; cases hl
  ·
   obtain ⟨oi, hsi, hroi⟩ := hρs i li hri
   obtain ⟨oj, hsj, hroj⟩ := hρs j lj hrj
   rcases ho i with hd | ⟨yi, hyi, Hi⟩
   ·
    simp only [hd] at hi; cases hi
   rcases ho j with hd | ⟨yj, hyj, Hj⟩
   ·
    simp only [hd] at hj; cases hj
   obtain ⟨_, xi, gi, _⟩ := Hi oi hsi
   obtain ⟨_, xj, gj, _⟩ := Hj oj hsj
   have := h2.inj oi oj li lj xi xj gi gj hroi hroj hb
   subst this
   have ni : i ∉ dd := fun h => by rw [hdead i h] at hyi; cases hyi
   have nj : j ∉ dd := fun h => by rw [hdead j h] at hyj; cases hyj
   exact hinj i j oi ni nj hsi hsj
 ·
  have hlt : ∀ id loc, B.ρ id = some loc → id < k := by
   intro id loc h
   rcases Nat.lt_or_ge id k with h' | h'
   ·
    exact h'
   ·
    rw [hLo.2.1 id h'] at h; cases h
  refine ⟨fun id loc h => ?_, fun id hid => ?_, ?_, fun b c h => kH b c (h4.view b c h), h4.size, h4.keep, fun b hb => ?_, fun b c hv => ?_, h4.mem⟩
  ·
   rw [hρ' id id (hk id (hlt id loc h))]; exact h4.rho id loc h
  ·
   rw [hLo.1] at hid
   rw [hρ' id id (hk id hid)]; exact h4.old id (by rw [hLo.1]; exact hid)
  ·
   rw [hLo.1]; exact hkl
  ·
   obtain ⟨id, cells, loc, hl, hr, hb'⟩ := hb
   obtain ⟨old, hso, hro⟩ := hρs id loc hr
   rcases ho id with hd | ⟨ys, hy, H⟩
   ·
    simp only [hd] at hl; cases hl
   ·
    obtain ⟨_, xs, g1, _⟩ := H old hso
    exact h4.own b ⟨old, xs, loc, g1, hro, hb'⟩
  ·
   rcases fT hv with h | ⟨h, _⟩
   ·
    exact h4.vnew b c h
   ·
    exact .inr (h4.own b (ofo b h))

theorem Wk.trim {k : Nat} {C : Ctx} {objs : Nat → Ob} {nx : Nat} {tm : Nat → AV} (id : Nat) {xs ys zs : List AV} (h : objs id = .live xs) (e : xs = ys ++ zs) :
  Wk k C { objs := objs, next := nx, tmps := tm } { objs := upd objs id (.live ys), next := nx, tmps := tm } := by
 intro N B a w hLo hg
 obtain ⟨ρ, V, h1, h2, h3, h4, h5, h6, h7⟩ := hg
 have back : ∀ j cs, upd objs id (.live ys) j = .live cs → ∃ cs', objs j = .live cs' ∧ ∃ t, cs' = cs ++ t := by
  intro j cs hj
  by_cases hji : j = id
  ·
   subst hji; rw [cB] at hj; cases hj; exact ⟨xs, h, zs, e⟩
  ·
   rw [ba _ _ hji] at hj; exact ⟨cs, hj, [], by simp⟩
 refine ⟨ρ, V, h1, ⟨h2.view, h2.fresh, fun j cs loc hl hr => ?_, fun j cs loc hl hr => ?_, fun i j li lj ci cj hi hj hri hrj hb => ?_⟩, h3, ⟨h4.rho, h4.old, h4.next, h4.view, h4.size, h4.keep, fun b hb => ?_, h4.vnew, h4.mem⟩, h5, h6, h7⟩
 ·
  obtain ⟨cs', g1, t, rfl⟩ := back j cs hl
  obtain ⟨c, T, e1, e2, e3, e4⟩ := h2.live j _ loc g1 hr
  have := e3.sub 0 cs.length (by simp)
  rw [List.drop_zero, List.take_left, Nat.add_zero] at this
  exact ⟨c, T, e1, e2, this, e4⟩
 ·
  by_cases hji : j = id
  ·
   subst hji; simp only [cB] at hl; cases hl
  ·
   simp only [ba _ _ hji] at hl; exact h2.froz j cs loc hl hr
 ·
  obtain ⟨_, g1, _⟩ := back i ci hi
  obtain ⟨_, g2, _⟩ := back j cj hj
  exact h2.inj i j li lj _ _ g1 g2 hri hrj hb
 ·
  obtain ⟨j, cs, loc, hl, hr, hb'⟩ := hb
  obtain ⟨_, g1, _⟩ := back j cs hl
  exact h4.own b ⟨j, _, loc, g1, hr, hb'⟩
theorem z0 {α β : Type} (f : α → List β) (n : Nat) (l : List α) : l.flatMap f = (l.take n).flatMap f ++ (l.drop n).flatMap f := by
 rw [← List.flatMap_append, List.take_append_drop]
end Go.AX.Z

/-! (AyC) -/

namespace Go.AX.Z
open Go.AX

section
variable {k : Nat} {C : Ctx} {x y : Code} {Q : AExit → AS → Prop} {objs : Nat → Ob} {nx : Nat} {tm : Nat → AV} {ops : Array Oper} {draw : Bool} {s : AS}

theorem d8 {id : Nat} (L : List Nat) {g : (Nat → AV) → Nat → AV} (hg : ∀ tz, keep tz tm L = g tz) (h : ∀ tz, awp k C (.seq (.region id ops draw) y) Q { objs := objs, next := nx, tmps := g tz }) : awp k C (.seq (.region id ops draw) y) Q { objs := objs, next := nx, tmps := tm } := by
 have := h tm
 rwa [← hg, mK] at this
theorem kD {id : Nat} (L : List Nat) {g : (Nat → AV) → Nat → AV} (hg : ∀ tz, keep tz tm L = g tz) (h : ∀ tz, awp k C (.region id ops draw) Q { objs := objs, next := nx, tmps := g tz }) : awp k C (.region id ops draw) Q { objs := objs, next := nx, tmps := tm } := by
 have := h tm
 rwa [← hg, mK] at this

theorem rE {id : Nat} {ops : Array Oper} (h : ∀ K : AS → Prop, (∀ t, awp k C y Q t → K t) → ∀ l, l = ops.toList → xd C l (ops.toList.map (·.dst)) nx 0 ops.toList { objs := objs, next := nx + ops.size, tmps := tm } [] K) : awp k C (.seq (.region id ops true) y) Q { objs := objs, next := nx, tmps := tm } :=
 jo (kE _ _ _ _ (h _ (fun _ ht => ht) _ rfl))
theorem iU {id : Nat} {ops : Array Oper} (h : ∀ K : AS → Prop, (∀ t, Q .normal t → K t) → ∀ l, l = ops.toList → xd C l (ops.toList.map (·.dst)) nx 0 ops.toList { objs := objs, next := nx + ops.size, tmps := tm } [] K) : awp k C (.region id ops true) Q { objs := objs, next := nx, tmps := tm } :=
 kE _ _ _ _ (h _ (fun _ ht => ht) _ rfl)

theorem c7 {δ : Type} (P : δ → Prop) (S : δ → AS) (h1 : awp k C x (kJ (fun t => ∃ d, P d ∧ Wk k C t (S d)) Q) s) (h2 : ∀ d, P d → awp k C y Q (S d)) : awp k C (.seq x y) Q s := by
 refine jj (dB x h1 ?_)
 intro e t ht
 cases e with
 | normal => obtain ⟨d, hp, hw⟩ := ht; exact ⟨S d, hw, h2 d hp⟩
 | exit j => exact ht
 | ret => exact ht

theorem cz {δ : Type} (P : Nat → δ → Prop) (S : δ → AS) (n : Nat) (d0 : δ) (h0 : Wk k C s (S d0)) (hp : P n d0)
  (h : ∀ n d, P n d → awp k C x (mj (fun t => ∃ m d', n = m + 1 ∧ P m d' ∧ Wk k C t (S d')) Q) (S d)) : awp k C (.loop x) Q s := by
 refine vf (fun n t => ∃ d, P n d ∧ t = S d) n ⟨S d0, h0, d0, hp, rfl⟩ ?_
 rintro n t ⟨d, hd, rfl⟩
 refine dB x (h n d hd) ?_
 intro e t ht
 cases e with
 | normal => obtain ⟨m, d', rfl, hp', hw⟩ := ht; exact ⟨S d', hw, m, Nat.lt_succ_self m, d', hp', rfl⟩
 | exit j => exact ht
 | ret => exact ht
end

def Eg (tm : Nat → AV) : List (Nat × AV) → Prop
 | [] => True
 | p :: l => tm p.1 = p.2 ∧ Eg tm l
def zV (tz : Nat → AV) : List (Nat × AV) → Nat → AV
 | [] => tz
 | p :: l => upd (zV tz l) p.1 p.2
theorem He (tz : Nat → AV) : zV tz [] = tz := rfl
theorem IT (tz : Nat → AV) (n : Nat) (x : AV) (l : List (Nat × AV)) : zV tz ((n, x) :: l) = upd (zV tz l) n x := rfl
theorem zE {tm : Nat → AV} : ∀ {l : List (Nat × AV)}, Eg tm l → zV tm l = tm
 | [], _ => rfl
 | p :: l, h => by
  have h1 : tm p.1 = p.2 := h.1
  rw [zV, zE h.2, ← h1, Ae]

theorem mR {d : Bool} {C : Ctx} {ds : List (Option Nat)} {b : Nat} {K K' : AS → Prop} (hk : ∀ t, K t → K' t) : ∀ (l : List Oper) (i : Nat) (s : AS), xw d C ds b i l s K → xw d C ds b i l s K'
 | [], _, s, h => hk s h
 | o :: rest, i, s, h => by
  have step : ∀ {s : AS}, (xop d C (b + i) o.dst o.op s fun s' => xw d C ds b (i + 1) rest s' K) → xop d C (b + i) o.dst o.op s fun s' => xw d C ds b (i + 1) rest s' K' := by
   intro s h
   unfold xop at h ⊢
   cases hc : isC o.op <;> simp only [hc, cond_true, cond_false] at h ⊢
   ·
    unfold ob at h ⊢
    split at h
    ·
     exact ⟨h.1, mR hk _ _ _ h.2⟩
    ·
     exact h.elim
   ·
    obtain ⟨f, args, h1, h2⟩ := h
    refine ⟨f, args, h1, ?_⟩
    rcases h2 with ⟨r, rd, g1, g2⟩ | ⟨hd, h2⟩
    ·
     exact .inl ⟨r, rd, g1, mR hk _ _ _ g2⟩
    ·
     rcases h2 with ⟨R, g1, g2⟩ | ⟨e, g1, g2⟩
     ·
      exact .inr ⟨hd, .inl ⟨R, g1, fun r hs hr => mR hk _ _ _ (g2 r hs hr)⟩⟩
     ·
      exact .inr ⟨hd, .inr ⟨e, g1, mR hk _ _ _ g2⟩⟩
  simp only [xw] at h ⊢
  split at h
  ·
   exact step h
  ·
   unfold ob at h ⊢
   split at h
   ·
    obtain ⟨v, h1, h2, h3⟩ := h
    exact ⟨v, h1, fun hh => step (h2 hh), fun hh => mR hk _ _ _ (h3 hh)⟩
   ·
    exact h.elim

theorem qK {d : Bool} {C : Ctx} {ds : List (Option Nat)} {b : Nat} {K : AS → Prop} : ∀ (l l' : List Oper) (i : Nat) (s : AS), xw d C ds b i l s (fun t => xw d C ds b (i + l.length) l' t K) → xw d C ds b i (l ++ l') s K
 | [], l', i, s, h => by simpa [xw] using h
 | o :: rest, l', i, s, h => by
  have e : i + (o :: rest).length = i + 1 + rest.length := by simp; omega
  rw [e] at h
  have step : ∀ {s : AS}, (xop d C (b + i) o.dst o.op s fun s' => xw d C ds b (i + 1) rest s' (fun t => xw d C ds b (i + 1 + rest.length) l' t K)) → xop d C (b + i) o.dst o.op s fun s' => xw d C ds b (i + 1) (rest ++ l') s' K := by
   intro s h
   unfold xop at h ⊢
   cases hc : isC o.op <;> simp only [hc, cond_true, cond_false] at h ⊢
   ·
    unfold ob at h ⊢
    split at h
    ·
     exact ⟨h.1, qK _ _ _ _ h.2⟩
    ·
     exact h.elim
   ·
    obtain ⟨f, args, h1, h2⟩ := h
    refine ⟨f, args, h1, ?_⟩
    rcases h2 with ⟨r, rd, g1, g2⟩ | ⟨hd, h2⟩
    ·
     exact .inl ⟨r, rd, g1, qK _ _ _ _ g2⟩
    ·
     rcases h2 with ⟨R, g1, g2⟩ | ⟨e, g1, g2⟩
     ·
      exact .inr ⟨hd, .inl ⟨R, g1, fun r hs hr => qK _ _ _ _ (g2 r hs hr)⟩⟩
     ·
      exact .inr ⟨hd, .inr ⟨e, g1, qK _ _ _ _ g2⟩⟩
  simp only [List.cons_append, xw] at h ⊢
  split at h
  ·
   exact step h
  ·
   unfold ob at h ⊢
   split at h
   ·
    obtain ⟨v, h1, h2, h3⟩ := h
    exact ⟨v, h1, fun hh => step (h2 hh), fun hh => qK _ _ _ _ (h3 hh)⟩
   ·
    exact h.elim

theorem bu {d : Bool} {C : Ctx} {ds : List (Option Nat)} {b i : Nat} {l l1 l2 : List Oper} {s : AS} {K : AS → Prop} (n : Nat) (L : List (Nat × AV)) (e1 : l.take n = l1) (e2 : l.drop n = l2) (hn : Nat.ble n l.length = true)
  (h1 : ∀ K1 : AS → Prop, (∀ t : AS, t.toHS = s.toHS ∧ Eg t.tmps L → K1 t) → xw d C ds b i l1 s K1) (h2 : ∀ tz, xw d C ds b (i + n) l2 { s with tmps := zV tz L } K) : xw d C ds b i l s K := by
 subst e1; subst e2
 have hl : (l.take n).length = n := by rw [List.length_take]; exact Nat.min_eq_left (Nat.le_of_ble_eq_true hn)
 have := qK (K := K) (l.take n) (l.drop n) i s (mR (fun t ht => by
  rw [hl]
  obtain ⟨g1, g2⟩ := ht
  have e : t = { s with tmps := zV t.tmps L } := AS.ext3 (zE g2).symm (congrArg HS.objs g1) (congrArg HS.next g1)
  rw [e]; exact h2 _) _ _ _ (h1 _ fun _ ht => ht))
 rwa [List.take_append_drop] at this

theorem bf {d : Bool} {C : Ctx} {ds : List (Option Nat)} {b i : Nat} {l l1 l2 : List Oper} {s : AS} {K : AS → Prop} (n : Nat) (e1 : l.take n = l1) (e2 : l.drop n = l2) (hn : Nat.ble n l.length = true)
  (h : ∀ K1 : AS → Prop, (∀ t : AS, xw d C ds b (i + n) l2 t K → K1 t) → xw d C ds b i l1 s K1) : xw d C ds b i l s K := by
 subst e1; subst e2
 have hl : (l.take n).length = n := by rw [List.length_take]; exact Nat.min_eq_left (Nat.le_of_ble_eq_true hn)
 have := qK (K := K) (l.take n) (l.drop n) i s (mR (fun t ht => by rw [hl]; exact ht) _ _ _ (h _ fun _ ht => ht))
 rwa [List.take_append_drop] at this

inductive Ex (R D : Type) where
 | ret (r : R)
 | go (d : D)

def Ex.k {R D : Type} (o : Ex R D) (f : D → Option R) : Option R := match o with | .ret r => some r | .go d => f d
theorem Ex.k_ret {R D : Type} {e r : R} {f : D → Option R} (h : (Ex.ret e).k f = some r) : r = e := (Option.some.inj h).symm
theorem ak {α : Type} {a b : α} (h : some a = some b) : b = a := (Option.some.inj h).symm
theorem bnd {α β : Type} {e : Option α} {f : α → Option β} {r : β} (h : e.bind f = some r) : ∃ x, e = some x ∧ f x = some r := by
 cases e with
 | none => cases h
 | some x => exact ⟨x, rfl, h⟩
theorem cT {α : Type} {c : Bool} {a b r : α} (h : (bif c then a else b) = r) (hc : c = true) : a = r := by rw [hc] at h; exact h
theorem cF {α : Type} {c : Bool} {a b r : α} (h : (bif c then a else b) = r) (hc : c = false) : b = r := by rw [hc] at h; exact h

def idx {α : Type} (l : List α) (i : Int) : Option α := bif decide (0 ≤ i) then l[i.toNat]? else none
theorem co {α : Type} {l : List α} {i : Int} {e : α} (h : idx l i = some e) : (0 ≤ i) = True ∧ (i < (l.length : Int)) = True ∧ l[i.toNat]? = some e ∧ i.toNat < l.length := by
 unfold idx at h
 by_cases h0 : 0 ≤ i
 ·
  rw [show decide (0 ≤ i) = true by simpa using h0] at h
  simp only [cond_true] at h
  have := (List.getElem?_eq_some_iff.1 h).1
  refine ⟨by simpa using h0, ?_, h, this⟩
  simp; omega
 ·
  rw [show decide (0 ≤ i) = false by simpa using h0] at h
  cases h
def chk (c : Bool) : Option Unit := bif c then some () else none
theorem bQ {c : Bool} {u : Unit} (h : chk c = some u) : c = true := by
 cases c with
 | false => cases h
 | true => rfl

def big : Nat := 4611686018427387904

section
variable {α : Type} {f : α → List AV} {sz : Nat}
theorem je (hf : ∀ a, (f a).length = sz) (l : List α) (i o : Nat) (ho : o < sz) : (l.flatMap f)[i * sz + o]? = l[i]?.bind fun a => (f a)[o]? := by
 cases h : l[i]? with
 | some a => rw [Ac hf l i a o h ho]; rfl
 | none =>
  rw [List.getElem?_eq_none]
  ·
   rfl
  ·
   rw [fc hf]
   have hi : l.length ≤ i := List.getElem?_eq_none_iff.1 h
   have := Nat.mul_le_mul_right sz hi
   omega
theorem jf (hf : ∀ a, (f a).length = sz) (l : List α) (i o n : Nat) (ho : o + n ≤ sz) (hn : 0 < n) : cg (l.flatMap f) (i * sz + o) n = l[i]?.bind fun a => cg (f a) o n := by
 unfold cg
 rw [fc hf]
 cases h : l[i]? with
 | some a =>
  have hi := (List.getElem?_eq_some_iff.1 h).1
  have h1 : i * sz + o + n ≤ l.length * sz := by
   have := Nat.mul_le_mul_right sz (show i + 1 ≤ l.length from hi)
   rw [Nat.add_mul] at this
   omega
  rw [if_pos h1, CN hf l i a o n h ho]
  simp only [Option.bind_some, hf]
  rw [if_pos ho]
 | none =>
  have hi : l.length ≤ i := List.getElem?_eq_none_iff.1 h
  have := Nat.mul_le_mul_right sz hi
  rw [if_neg (by omega)]
  rfl
theorem dw (hf : ∀ a, (f a).length = sz) (l : List α) (i o : Nat) (x : AV) (g : α → α) (ho : o < sz) (hg : ∀ a, (f a).set o x = f (g a)) : (l.flatMap f).set (i * sz + o) x = (l.modify i g).flatMap f := by
 cases h : l[i]? with
 | some a =>
  rw [zC hf l i a (g a) o x h ho (hg a)]
  congr 1
  apply List.ext_getElem?
  intro j
  rw [List.getElem?_modify, List.getElem?_set]
  by_cases hj : i = j
  ·
   subst hj
   obtain ⟨h1, h2⟩ := List.getElem?_eq_some_iff.1 h
   subst h2
   simp [h1]
  ·
   simp [hj]
 | none =>
  have hi : l.length ≤ i := List.getElem?_eq_none_iff.1 h
  rw [List.set_eq_of_length_le, List.modify_eq_self hi]
  rw [fc hf]
  have := Nat.mul_le_mul_right sz hi
  omega
theorem iT (hf : ∀ a, (f a).length = sz) : ∀ (l : List α) (n : Nat), (l.flatMap f).take (n * sz) = (l.take n).flatMap f
 | [], n => by simp
 | a :: l, 0 => by simp
 | a :: l, n + 1 => by
  rw [List.flatMap_cons, List.take_succ_cons, List.flatMap_cons, List.take_append, hf]
  rw [List.take_of_length_le (by rw [hf, Nat.add_mul]; omega), show (n + 1) * sz - sz = n * sz by rw [Nat.add_mul]; omega, iT hf l n]
theorem jL (hf : ∀ a, (f a).length = sz) : ∀ (l : List α) (n : Nat), (l.flatMap f).drop (n * sz) = (l.drop n).flatMap f
 | [], n => by simp
 | a :: l, 0 => by simp
 | a :: l, n + 1 => by
  rw [List.flatMap_cons, List.drop_succ_cons, List.drop_append, hf]
  rw [List.drop_of_length_le (by rw [hf, Nat.add_mul]; omega), List.nil_append, show (n + 1) * sz - sz = n * sz by rw [Nat.add_mul]; omega, jL hf l n]
theorem Cy (cells cs : List AV) (off : Nat) (h : off + cs.length ≤ cells.length) : cC cells off cs = cells.take off ++ (cs ++ cells.drop (off + cs.length)) := by
 unfold cC
 split
 ·
  rename_i x
  simp only [List.length_cons, List.length_nil, Nat.zero_add] at h ⊢
  rw [List.set_eq_take_append_cons_drop, if_pos (by omega)]
  rfl
 ·
  rw [if_pos h, List.append_assoc]
theorem wv (hf : ∀ a, (f a).length = sz) (l : List α) (i : Nat) (cs : List AV) (h : i * sz + cs.length ≤ l.length * sz) :
  cC (l.flatMap f) (i * sz) cs = (l.take i).flatMap f ++ (cs ++ (l.flatMap f).drop (i * sz + cs.length)) := by
 rw [Cy _ _ _ (by rw [fc hf]; exact h), iT hf]
theorem sw (hf : ∀ a, (f a).length = sz) (hs : 0 < sz) (l : List α) (i : Nat) (x : α) : cC (l.flatMap f) (i * sz) (f x) = (l.set i x).flatMap f := by
 rcases Nat.lt_or_ge i l.length with hi | hi
 ·
  have hb : (i + 1) * sz ≤ l.length * sz := Nat.mul_le_mul_right _ hi
  rw [wv hf l i (f x) (by rw [hf]; rw [Nat.add_mul] at hb; omega), List.set_eq_take_append_cons_drop, if_pos hi, List.flatMap_append, List.flatMap_cons, hf,
   show i * sz + sz = (i + 1) * sz by rw [Nat.add_mul]; omega, jL hf]
 ·
  have hb : l.length * sz ≤ i * sz := Nat.mul_le_mul_right _ hi
  rw [List.set_eq_of_length_le hi]
  have hl := fc hf l
  unfold cC
  split
  ·
   rw [List.set_eq_of_length_le (by omega)]
  ·
   rw [if_neg (by rw [hf]; omega)]
theorem DJ {α : Type} {l : List α} {i : Nat} {a : α} (v : α) (h : l[i]? = some a) : (l.set i v)[i]? = some v := by
 have := (List.getElem?_eq_some_iff.1 h).1
 simp [this]
theorem Bc {α : Type} {l : List α} {i : Nat} {a : α} (g : α → α) (h : l[i]? = some a) : (l.modify i g)[i]? = some (g a) := by
 rw [List.getElem?_modify, h]; simp
theorem jy (h : ∀ a, ∀ c ∈ f a, aw c) (l : List α) : ∀ c ∈ l.flatMap f, aw c := by
 intro c hc
 obtain ⟨a, _, hc⟩ := List.mem_flatMap.1 hc
 exact h a c hc
theorem uG {o : Nat → Ob} {n : Nat} (h : ∀ a, (f a).map (fz o n) = f a) (l : List α) : (l.flatMap f).map (fz o n) = l.flatMap f := by
 induction l with
 | nil => rfl
 | cons a l ih => rw [List.flatMap_cons, List.map_append, h, ih]
theorem nc {o : Nat → Ob} {n : Nat} (h : ∀ a, (f a).flatMap (bc o n) = []) (l : List α) : (l.flatMap f).flatMap (bc o n) = [] := by
 induction l with
 | nil => rfl
 | cons a l ih => rw [List.flatMap_cons, List.flatMap_append, h, ih]; rfl
end

theorem TmL.of_eq {s : AS} {F : List Nat} {σ : List (Option Nat)} {xs ys : List AV} (h : ys = xs) (hc : ∀ c ∈ ys, aw c) : TmL s F σ xs ys := by
 subst h; exact TmL.clean hc
attribute [go_sem] He IT
end Go.AX.Z

/-! (AyD) -/

namespace Go.AX.Z
open Go.AX

abbrev vi (a : Int) : AV := .v (.int .i64 a)
abbrev vj (a : Int) : AV := .v (.int .i32 a)
abbrev vu (a : Int) : AV := .v (.int .u8 a)
abbrev vq (a : Int) : AV := .v (.int .u64 a)
abbrev vh (a : Int) : AV := .v (.int .u16 a)
abbrev vw (a : Int) : AV := .v (.int .u32 a)
abbrev vb (b : Bool) : AV := .v (.bool b)
abbrev cJ : AV := .v (.slice none 0 0)

theorem fm (o : Nat → Ob) (n : Nat) (x : Value) : bc o (n + 1) (.v x) = [] := rfl
theorem Mw (o : Nat → Ob) (n : Nat) (x : Value) (h : kS x = false) : fz o (n + 1) (.v x) = .v x := by simp only [fz, h, cond_false]

section
variable {α : Type} {f : α → Value}
theorem uY (l : List α) (i : Nat) : (l.map fun a => AV.v (f a))[i]? = l[i]?.map fun a => .v (f a) := List.getElem?_map
theorem uZ (l : List α) : (l.map fun a => AV.v (f a)).length = l.length := List.length_map _
theorem rz (l : List α) (n : Nat) : (l.map fun a => AV.v (f a)).take n = (l.take n).map fun a => .v (f a) := (List.map_take ..).symm
theorem rf (l : List α) (n : Nat) : (l.map fun a => AV.v (f a)).drop n = (l.drop n).map fun a => .v (f a) := (List.map_drop ..).symm
theorem uS (l : List α) (i : Nat) (a : α) : (l.map fun a => AV.v (f a)).set i (.v (f a)) = (l.set i a).map fun a => .v (f a) := (List.map_set ..).symm
theorem vX (l : List α) (a : α) : (l.map fun a => AV.v (f a)) ++ [.v (f a)] = (l ++ [a]).map fun a => .v (f a) := by simp
theorem wn (l m : List α) : (l.map fun a => AV.v (f a)) ++ (m.map fun a => .v (f a)) = (l ++ m).map fun a => .v (f a) := List.map_append.symm
theorem A6 (h : ∀ a, kS (f a) = false) (l : List α) (o : Nat → Ob) (n : Nat) : (l.map fun a => AV.v (f a)).map (fz o (n + 1)) = l.map fun a => .v (f a) := by
 rw [List.map_map]
 exact List.map_congr_left fun a _ => Mw o n _ (h a)
theorem uL (l : List α) (o : Nat → Ob) (n : Nat) : (l.map fun a => AV.v (f a)).flatMap (bc o (n + 1)) = [] := by
 induction l with
 | nil => rfl
 | cons a l ih => simp only [List.map_cons, List.flatMap_cons, fm, ih, List.append_nil]
theorem yu (l : List α) : ∀ c ∈ l.map fun a => AV.v (f a), aw c := by
 intro c hc
 obtain ⟨a, _, rfl⟩ := List.mem_map.1 hc
 exact aw.v _
end

theorem It (l : List Int) (i : Nat) : (l.map vi)[i]? = l[i]?.map vi := uY (f := fun a : Int => Value.int .i64 a) l i
theorem Jr (l : List Int) : (l.map vi).length = l.length := uZ (f := fun a : Int => Value.int .i64 a) l
theorem F7 (l : List Int) (n : Nat) : (l.map vi).take n = (l.take n).map vi := rz (f := fun a : Int => Value.int .i64 a) l n
theorem Gu (l : List Int) (n : Nat) : (l.map vi).drop n = (l.drop n).map vi := rf (f := fun a : Int => Value.int .i64 a) l n
theorem HG (l : List Int) (i : Nat) (a : Int) : (l.map vi).set i (vi a) = (l.set i a).map vi := uS (f := fun a : Int => Value.int .i64 a) l i a
theorem JC (l : List Int) (a : Int) : l.map vi ++ [vi a] = (l ++ [a]).map vi := vX (f := fun a : Int => Value.int .i64 a) l a
theorem I6 (l : List Int) (m : List Int) : l.map vi ++ m.map vi = (l ++ m).map vi := wn (f := fun a : Int => Value.int .i64 a) l m
theorem GY (l : List Int) (o : Nat → Ob) (n : Nat) : (l.map vi).map (fz o (n + 1)) = l.map vi := A6 (f := fun a : Int => Value.int .i64 a) (fun _ => rfl) l o n
theorem Ey (l : List Int) (o : Nat → Ob) (n : Nat) : (l.map vi).flatMap (bc o (n + 1)) = [] := uL (f := fun a : Int => Value.int .i64 a) l o n
theorem ac (l : List Int) : ∀ c ∈ l.map vi, aw c := yu (f := fun a : Int => Value.int .i64 a) l
def lE (l : List Int) : AV := .imm (l.map vi) l.length
theorem yP (l : List Int) : lE l = .imm (l.map vi) l.length := rfl
theorem dh (l : List Int) : aw (lE l) := aw.imm (ac l)
theorem yK (l : List Int) (o : Nat → Ob) (n : Nat) : fz o (n + 2) (lE l) = lE l := by simp only [yP, fz, GY]
theorem zw (l : List Int) (o : Nat → Ob) (n : Nat) : bc o (n + 2) (lE l) = [] := by simp only [yP, bc, Ey]
attribute [go_sem] It Jr F7 Gu HG JC I6 GY Ey yP yK zw
theorem If (l : List Int) (i : Nat) : (l.map vj)[i]? = l[i]?.map vj := uY (f := fun a : Int => Value.int .i32 a) l i
theorem HT (l : List Int) : (l.map vj).length = l.length := uZ (f := fun a : Int => Value.int .i32 a) l
theorem F3 (l : List Int) (n : Nat) : (l.map vj).take n = (l.take n).map vj := rz (f := fun a : Int => Value.int .i32 a) l n
theorem FP (l : List Int) (n : Nat) : (l.map vj).drop n = (l.drop n).map vj := rf (f := fun a : Int => Value.int .i32 a) l n
theorem IU (l : List Int) (i : Nat) (a : Int) : (l.map vj).set i (vj a) = (l.set i a).map vj := uS (f := fun a : Int => Value.int .i32 a) l i a
theorem Ic (l : List Int) (a : Int) : l.map vj ++ [vj a] = (l ++ [a]).map vj := vX (f := fun a : Int => Value.int .i32 a) l a
theorem Hr (l : List Int) (m : List Int) : l.map vj ++ m.map vj = (l ++ m).map vj := wn (f := fun a : Int => Value.int .i32 a) l m
theorem GU (l : List Int) (o : Nat → Ob) (n : Nat) : (l.map vj).map (fz o (n + 1)) = l.map vj := A6 (f := fun a : Int => Value.int .i32 a) (fun _ => rfl) l o n
theorem D8 (l : List Int) (o : Nat → Ob) (n : Nat) : (l.map vj).flatMap (bc o (n + 1)) = [] := uL (f := fun a : Int => Value.int .i32 a) l o n
def Gy (l : List Int) : AV := .imm (l.map vj) l.length
theorem yN (l : List Int) : Gy l = .imm (l.map vj) l.length := rfl
theorem Jt (l : List Int) (o : Nat → Ob) (n : Nat) : fz o (n + 2) (Gy l) = Gy l := by simp only [yN, fz, GU]
theorem J1 (l : List Int) (o : Nat → Ob) (n : Nat) : bc o (n + 2) (Gy l) = [] := by simp only [yN, bc, D8]
attribute [go_sem] If HT F3 FP IU Ic Hr GU D8 yN Jt J1
theorem H9 (l : List Int) (i : Nat) : (l.map vu)[i]? = l[i]?.map vu := uY (f := fun a : Int => Value.int .u8 a) l i
theorem Iu (l : List Int) : (l.map vu).length = l.length := uZ (f := fun a : Int => Value.int .u8 a) l
theorem FN (l : List Int) (n : Nat) : (l.map vu).take n = (l.take n).map vu := rz (f := fun a : Int => Value.int .u8 a) l n
theorem EP (l : List Int) (n : Nat) : (l.map vu).drop n = (l.drop n).map vu := rf (f := fun a : Int => Value.int .u8 a) l n
theorem JZ (l : List Int) (i : Nat) (a : Int) : (l.map vu).set i (vu a) = (l.set i a).map vu := uS (f := fun a : Int => Value.int .u8 a) l i a
theorem Hn (l : List Int) (a : Int) : l.map vu ++ [vu a] = (l ++ [a]).map vu := vX (f := fun a : Int => Value.int .u8 a) l a
theorem IY (l : List Int) (m : List Int) : l.map vu ++ m.map vu = (l ++ m).map vu := wn (f := fun a : Int => Value.int .u8 a) l m
theorem GN (l : List Int) (o : Nat → Ob) (n : Nat) : (l.map vu).map (fz o (n + 1)) = l.map vu := A6 (f := fun a : Int => Value.int .u8 a) (fun _ => rfl) l o n
theorem Df (l : List Int) (o : Nat → Ob) (n : Nat) : (l.map vu).flatMap (bc o (n + 1)) = [] := uL (f := fun a : Int => Value.int .u8 a) l o n
theorem fy (l : List Int) : ∀ c ∈ l.map vu, aw c := yu (f := fun a : Int => Value.int .u8 a) l
def r9 (l : List Int) : AV := .imm (l.map vu) l.length
theorem zn (l : List Int) : r9 l = .imm (l.map vu) l.length := rfl
theorem qC (l : List Int) : aw (r9 l) := aw.imm (fy l)
theorem yW (l : List Int) (o : Nat → Ob) (n : Nat) : fz o (n + 2) (r9 l) = r9 l := by simp only [zn, fz, GN]
theorem ym (l : List Int) (o : Nat → Ob) (n : Nat) : bc o (n + 2) (r9 l) = [] := by simp only [zn, bc, Df]
attribute [go_sem] H9 Iu FN EP JZ Hn IY GN Df zn yW ym
theorem Ii (l : List Int) (i : Nat) : (l.map vq)[i]? = l[i]?.map vq := uY (f := fun a : Int => Value.int .u64 a) l i
theorem Jy (l : List Int) : (l.map vq).length = l.length := uZ (f := fun a : Int => Value.int .u64 a) l
theorem FV (l : List Int) (n : Nat) : (l.map vq).take n = (l.take n).map vq := rz (f := fun a : Int => Value.int .u64 a) l n
theorem Gj (l : List Int) (n : Nat) : (l.map vq).drop n = (l.drop n).map vq := rf (f := fun a : Int => Value.int .u64 a) l n
theorem Is (l : List Int) (i : Nat) (a : Int) : (l.map vq).set i (vq a) = (l.set i a).map vq := uS (f := fun a : Int => Value.int .u64 a) l i a
theorem JK (l : List Int) (a : Int) : l.map vq ++ [vq a] = (l ++ [a]).map vq := vX (f := fun a : Int => Value.int .u64 a) l a
theorem Ir (l : List Int) (m : List Int) : l.map vq ++ m.map vq = (l ++ m).map vq := wn (f := fun a : Int => Value.int .u64 a) l m
theorem GQ (l : List Int) (o : Nat → Ob) (n : Nat) : (l.map vq).map (fz o (n + 1)) = l.map vq := A6 (f := fun a : Int => Value.int .u64 a) (fun _ => rfl) l o n
theorem CV (l : List Int) (o : Nat → Ob) (n : Nat) : (l.map vq).flatMap (bc o (n + 1)) = [] := uL (f := fun a : Int => Value.int .u64 a) l o n
def Fg (l : List Int) : AV := .imm (l.map vq) l.length
theorem ze (l : List Int) : Fg l = .imm (l.map vq) l.length := rfl
theorem IH (l : List Int) (o : Nat → Ob) (n : Nat) : fz o (n + 2) (Fg l) = Fg l := by simp only [ze, fz, GQ]
theorem I9 (l : List Int) (o : Nat → Ob) (n : Nat) : bc o (n + 2) (Fg l) = [] := by simp only [ze, bc, CV]
attribute [go_sem] Ii Jy FV Gj Is JK Ir GQ CV ze IH I9
theorem IS (l : List Int) (i : Nat) : (l.map vh)[i]? = l[i]?.map vh := uY (f := fun a : Int => Value.int .u16 a) l i
theorem IM (l : List Int) : (l.map vh).length = l.length := uZ (f := fun a : Int => Value.int .u16 a) l
theorem FB (l : List Int) (n : Nat) : (l.map vh).take n = (l.take n).map vh := rz (f := fun a : Int => Value.int .u16 a) l n
theorem GD (l : List Int) (n : Nat) : (l.map vh).drop n = (l.drop n).map vh := rf (f := fun a : Int => Value.int .u16 a) l n
theorem Ha (l : List Int) (i : Nat) (a : Int) : (l.map vh).set i (vh a) = (l.set i a).map vh := uS (f := fun a : Int => Value.int .u16 a) l i a
theorem Id (l : List Int) (a : Int) : l.map vh ++ [vh a] = (l ++ [a]).map vh := vX (f := fun a : Int => Value.int .u16 a) l a
theorem Ig (l : List Int) (m : List Int) : l.map vh ++ m.map vh = (l ++ m).map vh := wn (f := fun a : Int => Value.int .u16 a) l m
theorem G9 (l : List Int) (o : Nat → Ob) (n : Nat) : (l.map vh).map (fz o (n + 1)) = l.map vh := A6 (f := fun a : Int => Value.int .u16 a) (fun _ => rfl) l o n
theorem DO (l : List Int) (o : Nat → Ob) (n : Nat) : (l.map vh).flatMap (bc o (n + 1)) = [] := uL (f := fun a : Int => Value.int .u16 a) l o n
def Gp (l : List Int) : AV := .imm (l.map vh) l.length
theorem zy (l : List Int) : Gp l = .imm (l.map vh) l.length := rfl
theorem Ie (l : List Int) (o : Nat → Ob) (n : Nat) : fz o (n + 2) (Gp l) = Gp l := by simp only [zy, fz, G9]
theorem Jn (l : List Int) (o : Nat → Ob) (n : Nat) : bc o (n + 2) (Gp l) = [] := by simp only [zy, bc, DO]
attribute [go_sem] IS IM FB GD Ha Id Ig G9 DO zy Ie Jn
theorem HD (l : List Int) (i : Nat) : (l.map vw)[i]? = l[i]?.map vw := uY (f := fun a : Int => Value.int .u32 a) l i
theorem II (l : List Int) : (l.map vw).length = l.length := uZ (f := fun a : Int => Value.int .u32 a) l
theorem FA (l : List Int) (n : Nat) : (l.map vw).take n = (l.take n).map vw := rz (f := fun a : Int => Value.int .u32 a) l n
theorem Gz (l : List Int) (n : Nat) : (l.map vw).drop n = (l.drop n).map vw := rf (f := fun a : Int => Value.int .u32 a) l n
theorem IA (l : List Int) (i : Nat) (a : Int) : (l.map vw).set i (vw a) = (l.set i a).map vw := uS (f := fun a : Int => Value.int .u32 a) l i a
theorem Hs (l : List Int) (a : Int) : l.map vw ++ [vw a] = (l ++ [a]).map vw := vX (f := fun a : Int => Value.int .u32 a) l a
theorem JT (l : List Int) (m : List Int) : l.map vw ++ m.map vw = (l ++ m).map vw := wn (f := fun a : Int => Value.int .u32 a) l m
theorem G6 (l : List Int) (o : Nat → Ob) (n : Nat) : (l.map vw).map (fz o (n + 1)) = l.map vw := A6 (f := fun a : Int => Value.int .u32 a) (fun _ => rfl) l o n
theorem En (l : List Int) (o : Nat → Ob) (n : Nat) : (l.map vw).flatMap (bc o (n + 1)) = [] := uL (f := fun a : Int => Value.int .u32 a) l o n
def Fq (l : List Int) : AV := .imm (l.map vw) l.length
theorem zd (l : List Int) : Fq l = .imm (l.map vw) l.length := rfl
theorem Ho (l : List Int) (o : Nat → Ob) (n : Nat) : fz o (n + 2) (Fq l) = Fq l := by simp only [zd, fz, G6]
theorem JN (l : List Int) (o : Nat → Ob) (n : Nat) : bc o (n + 2) (Fq l) = [] := by simp only [zd, bc, En]
attribute [go_sem] HD II FA Gz IA Hs JT G6 En zd Ho JN
theorem I2 (l : List Bool) (i : Nat) : (l.map vb)[i]? = l[i]?.map vb := uY (f := fun a : Bool => Value.bool a) l i
theorem Ia (l : List Bool) : (l.map vb).length = l.length := uZ (f := fun a : Bool => Value.bool a) l
theorem Fd (l : List Bool) (n : Nat) : (l.map vb).take n = (l.take n).map vb := rz (f := fun a : Bool => Value.bool a) l n
theorem FC (l : List Bool) (n : Nat) : (l.map vb).drop n = (l.drop n).map vb := rf (f := fun a : Bool => Value.bool a) l n
theorem I3 (l : List Bool) (i : Nat) (a : Bool) : (l.map vb).set i (vb a) = (l.set i a).map vb := uS (f := fun a : Bool => Value.bool a) l i a
theorem Hz (l : List Bool) (a : Bool) : l.map vb ++ [vb a] = (l ++ [a]).map vb := vX (f := fun a : Bool => Value.bool a) l a
theorem I7 (l : List Bool) (m : List Bool) : l.map vb ++ m.map vb = (l ++ m).map vb := wn (f := fun a : Bool => Value.bool a) l m
theorem GT (l : List Bool) (o : Nat → Ob) (n : Nat) : (l.map vb).map (fz o (n + 1)) = l.map vb := A6 (f := fun a : Bool => Value.bool a) (fun _ => rfl) l o n
theorem DK (l : List Bool) (o : Nat → Ob) (n : Nat) : (l.map vb).flatMap (bc o (n + 1)) = [] := uL (f := fun a : Bool => Value.bool a) l o n
theorem aP (l : List Bool) : ∀ c ∈ l.map vb, aw c := yu (f := fun a : Bool => Value.bool a) l
def xA (l : List Bool) : AV := .imm (l.map vb) l.length
theorem yl (l : List Bool) : xA l = .imm (l.map vb) l.length := rfl
theorem kZ (l : List Bool) : aw (xA l) := aw.imm (aP l)
theorem Im (l : List Bool) (o : Nat → Ob) (n : Nat) : fz o (n + 2) (xA l) = xA l := by simp only [yl, fz, GT]
theorem Jk (l : List Bool) (o : Nat → Ob) (n : Nat) : bc o (n + 2) (xA l) = [] := by simp only [yl, bc, DK]
attribute [go_sem] I2 Ia Fd FC I3 Hz I7 GT DK yl Im Jk

theorem Ex.k_go {R D : Type} {d : D} {r : R} {f : D → Option R} (h : (Ex.go d).k f = some r) : f d = some r := h
theorem Tm.refL {s : AS} {F : List Nat} {σ : List (Option Nat)} {i old off len len' sz : Nat} (h : σ[i]? = some (some old)) (hl : len' = len) : Tm s F σ (.ref old off len sz) (.ref i off len' sz) := by
 subst hl; exact Tm.ref h
theorem Tm.imm {s : AS} {F : List Nat} {σ : List (Option Nat)} {xs ys : List AV} {n m : Nat} (h : ys = xs) (hl : m = n) (hc : ∀ c ∈ ys, aw c) : Tm s F σ (.imm xs n) (.imm ys m) := by
 subst h; subst hl; exact Tm.clean (aw.imm hc)

end Go.AX.Z

/-! (AyE) -/

namespace Go.AX.Z
open Go.AX

theorem aA : ∀ c ∈ ([] : List AV), aw c := by intro c h; cases h
theorem af {x : AV} {l : List AV} (h : aw x) (t : ∀ c ∈ l, aw c) : ∀ c ∈ x :: l, aw c := by
 intro c hc
 rcases List.mem_cons.1 hc with rfl | hc
 ·
  exact h
 ·
  exact t c hc
theorem rJ {r : AV} (h : zW 12 r = true) : kP r := ve 12 r h

theorem uH {C : Ctx} {d : Bool} {fr : Nat} {f : FuncId} {args args' : List AV} {s : HS} {k : AV → HS → Prop} {r : AV} (he : args.map (fz (fun _ => .dead) gM) = args') (h : SndP C f args' r) (hk : k r s) : kf C d fr (some (f, args)) s k := by
 subst he; exact FI h hk
theorem eO (n : Nat) : Nat.ble n n = true := by simp
theorem jE {α β : Type} (f : α → β) (l : List α) : (l.map f).take l.length = l.map f := List.take_of_length_le (by simp)

theorem xJ {α : Type} {f : α → List AV} {sz : Nat} (hf : ∀ a, (f a).length = sz) (hz : 0 < sz) (l : List α) (o : Nat) : (l.flatMap f)[o]? = l[o / sz]?.bind fun a => (f a)[o % sz]? := by
 have h := je hf l (o / sz) (o % sz) (Nat.mod_lt _ hz)
 rwa [Nat.div_add_mod' o sz] at h
theorem xZ {α : Type} {f : α → List AV} {sz : Nat} (hf : ∀ a, (f a).length = sz) (l : List α) (o n : Nat) (ho : o % sz + n ≤ sz) (hn : 0 < n) : cg (l.flatMap f) o n = l[o / sz]?.bind fun a => cg (f a) (o % sz) n := by
 have h := jf hf l (o / sz) (o % sz) n ho hn
 rwa [Nat.div_add_mod' o sz] at h

theorem Jw : cg ([] : List AV) 0 0 = some [] := by rfl
theorem JY (x0 : AV) : cg ([x0] : List AV) 0 1 = some [x0] := by rfl
theorem Iw (x0 x1 : AV) : cg ([x0, x1] : List AV) 0 2 = some [x0, x1] := by rfl
theorem JE (x0 x1 x2 : AV) : cg ([x0, x1, x2] : List AV) 0 3 = some [x0, x1, x2] := by rfl
theorem Hd (x0 x1 x2 x3 : AV) : cg ([x0, x1, x2, x3] : List AV) 0 4 = some [x0, x1, x2, x3] := by rfl
theorem Hu (x0 x1 x2 x3 x4 : AV) : cg ([x0, x1, x2, x3, x4] : List AV) 0 5 = some [x0, x1, x2, x3, x4] := by rfl
theorem Ji (x0 x1 x2 x3 x4 x5 : AV) : cg ([x0, x1, x2, x3, x4, x5] : List AV) 0 6 = some [x0, x1, x2, x3, x4, x5] := by rfl
theorem HB (x0 x1 x2 x3 x4 x5 x6 : AV) : cg ([x0, x1, x2, x3, x4, x5, x6] : List AV) 0 7 = some [x0, x1, x2, x3, x4, x5, x6] := by rfl
theorem Hf (x0 x1 x2 x3 x4 x5 x6 x7 : AV) : cg ([x0, x1, x2, x3, x4, x5, x6, x7] : List AV) 0 8 = some [x0, x1, x2, x3, x4, x5, x6, x7] := by rfl
theorem F2 (l : List Int) : cg (l.map vi) 0 l.length = some (l.map vi) := by rw [cg, if_pos (by simp), List.drop_zero, jE]
theorem F4 (l : List Int) : cg (l.map vj) 0 l.length = some (l.map vj) := by rw [cg, if_pos (by simp), List.drop_zero, jE]
theorem Ge (l : List Int) : cg (l.map vu) 0 l.length = some (l.map vu) := by rw [cg, if_pos (by simp), List.drop_zero, jE]
theorem E6 (l : List Int) : cg (l.map vq) 0 l.length = some (l.map vq) := by rw [cg, if_pos (by simp), List.drop_zero, jE]
theorem Gg (l : List Int) : cg (l.map vh) 0 l.length = some (l.map vh) := by rw [cg, if_pos (by simp), List.drop_zero, jE]
theorem Fz (l : List Int) : cg (l.map vw) 0 l.length = some (l.map vw) := by rw [cg, if_pos (by simp), List.drop_zero, jE]
theorem FT (l : List Bool) : cg (l.map vb) 0 l.length = some (l.map vb) := by rw [cg, if_pos (by simp), List.drop_zero, jE]
theorem pZ {α : Type} {f : α → List AV} {sz : Nat} (hf : ∀ a, (f a).length = sz) (l : List α) : cg (l.flatMap f) 0 (l.length * sz) = some (l.flatMap f) := by
 unfold cg
 rw [fc hf, if_pos (by omega), List.drop_zero, List.take_of_length_le (by rw [fc hf]; exact Nat.le_refl _)]
attribute [go_sem] Jw JY Iw JE Hd Hu Ji HB Hf F2 F4 Ge E6 Gg Fz FT
attribute [go_sem] eO I1 Dy List.take_length

end Go.AX.Z

/-! (AyF) -/

namespace Go.AX.Z
open Go.AX

def aF (mk : (Nat → Nat) → AV) : Prop := ∀ (a b : Nat → Nat) (ρ ρ' : Rho) (V : bw) (y : Value), (∀ i, ρ' (b i) = ρ (a i)) → Rel ρ V (mk a) y → Rel ρ' V (mk b) y

theorem aF.const {x : AV} (h : aw x) : aF fun _ => x := fun _ _ _ _ _ _ _ hr => h _ _ _ _ hr
theorem aF.ref (i off len sz : Nat) : aF fun q => .ref (q i) off len sz := by
 intro a b ρ ρ' V y he hr
 cases hr with
 | ref _ _ _ _ cap loc h hc hl => exact .ref (b i) off len sz cap loc (by rw [he]; exact h) hc hl
 | refE _ _ _ addr => exact .refE (b i) off sz addr

inductive RenML : ((Nat → Nat) → List AV) → Prop
 | nil : RenML fun _ => []
 | cons {x : (Nat → Nat) → AV} {l : (Nat → Nat) → List AV} (h : aF x) (t : RenML l) : RenML fun q => x q :: l q

theorem RenML.const : ∀ {l : List AV}, (∀ c ∈ l, aw c) → RenML fun _ => l
 | [], _ => .nil
 | c :: l, h => .cons (.const (h c (by simp))) (RenML.const fun d hd => h d (by simp [hd]))

theorem RenML.get {l : (Nat → Nat) → List AV} (h : RenML l) : (∀ a b, (l a).length = (l b).length) ∧ ∀ (i : Nat) a b x z, (l a)[i]? = some x → (l b)[i]? = some z → ∀ (ρ ρ' : Rho) (V : bw) (y : Value), (∀ i, ρ' (b i) = ρ (a i)) → Rel ρ V x y → Rel ρ' V z y := by
 induction h with
 | nil => exact ⟨fun _ _ => rfl, fun i a b x z hx => by simp at hx⟩
 | cons h t ih =>
  refine ⟨fun a b => by simp [ih.1 a b], fun i a b x z hx hz => ?_⟩
  cases i with
  | zero => simp at hx hz; subst hx; subst hz; exact h a b
  | succ i => simp at hx hz; exact ih.2 i a b x z hx hz

theorem RenML.list {l : (Nat → Nat) → List AV} (h : RenML l) {a b : Nat → Nat} {ρ ρ' : Rho} {V : bw} (he : ∀ i, ρ' (b i) = ρ (a i)) {ys : Array Value}
  (H : ∀ (i : Nat) x y, (l a)[i]? = some x → ys[i]? = some y → Rel ρ V x y) : ∀ (i : Nat) x y, (l b)[i]? = some x → ys[i]? = some y → Rel ρ' V x y := by
 intro i x y hx hy
 have hi : i < (l b).length := (List.getElem?_eq_some_iff.1 hx).1
 have hi' : i < (l a).length := by rw [h.get.1 a b]; exact hi
 have e : (l a)[i]? = some (l a)[i] := by simp [hi']
 exact h.get.2 i a b _ _ e hx ρ ρ' V y he (H i _ y e hy)

theorem aF.agg {l : (Nat → Nat) → List AV} (h : RenML l) : aF fun q => .agg (l q) := by
 intro a b ρ ρ' V y he hr
 cases hr with
 | agg _ ys h1 H S => exact .agg _ ys (by rw [h1, h.get.1 a b]) (h.list he H) S
theorem aF.tup {l : (Nat → Nat) → List AV} (h : RenML l) : aF fun q => .tup (l q) := by
 intro a b ρ ρ' V y he hr
 cases hr with
 | tup _ ys h1 H => exact .tup _ ys (by rw [h1, h.get.1 a b]) (h.list he H)

def nT (objs : Nat → Ob) (n : Nat) : List (List AV) → Nat → Ob
 | [] => objs
 | c :: l => nT (upd objs n (.live c)) (n + 1) l
theorem D5 (objs : Nat → Ob) (n : Nat) : nT objs n [] = objs := rfl
theorem Bt (objs : Nat → Ob) (n : Nat) (c : List AV) (l : List (List AV)) : nT objs n (c :: l) = nT (upd objs n (.live c)) (n + 1) l := rfl
theorem mt : ∀ (l : List (List AV)) (objs : Nat → Ob) (n id : Nat), nT objs n l id = if n ≤ id then (match l[id - n]? with | some c => .live c | none => objs id) else objs id
 | [], objs, n, id => by simp [nT]
 | c :: l, objs, n, id => by
  rw [Bt, mt l]
  by_cases h1 : n + 1 ≤ id
  ·
   rw [if_pos h1, if_pos (by omega : n ≤ id), show id - n = (id - (n + 1)) + 1 by omega, List.getElem?_cons_succ, ba _ _ (by omega : id ≠ n)]
  ·
   rw [if_neg h1]
   by_cases h2 : id = n
   ·
    subst h2; simp
   ·
    rw [ba _ _ h2, if_neg (by omega)]

def Res (r' : AV) (s' : HS) (mk : (Nat → Nat) → AV) (l : List (List AV)) : Prop :=
 ∃ (F : List Nat) (σ : List (Option Nat)), sgB 0 σ = true ∧ σ.length = l.length ∧
  (∀ (i old : Nat) cs, σ[i]? = some (some old) → l[i]? = some cs → old ∉ F ∧ ∃ xs, s'.objs old = .live xs ∧ TmL ⟨s', fun _ => .unk⟩ F σ xs cs) ∧ Tm ⟨s', fun _ => .unk⟩ F σ r' (mk fun i => i)

theorem gv {w : World} {b : Nat} {x : Obj} (h : w.heap[b]? = some x) : b < w.heap.size := (Array.getElem?_eq_some_iff.1 h).1

theorem Snd.of_newM {C : Ctx} {f : FuncId} {args : List AV} {mk : (Nat → Nat) → AV} {l : List (List AV)} (hmk : aF mk) (hcl : ∀ cs ∈ l, ∀ c ∈ cs, aw c) (ha : ∀ x ∈ args, aw x)
  (h : Snd C f args (dk 0) fun r' s' => Res r' s' mk l) (hs : HS) :
  Snd C f args hs fun r hs' => r = mk (fun i => hs.next + i) ∧ hs' = ⟨nT hs.objs hs.next l, hs.next + l.length⟩ := by
 refine ⟨trivial, fun ρ V w args' h1 h2 hI hG => ?_⟩
 have hI0 : Inv r0 V (dk 0) w := ⟨hI.view, fun _ _ => rfl, fun id cells loc hl => by simp [dk] at hl, fun id cells loc hl => by simp [dk] at hl, fun i j li lj ci cj hi => by simp [dk] at hi⟩
 have ha' : ∀ (i : Nat) x y, args[i]? = some x → args'[i]? = some y → Rel r0 V x y := fun i x y hx hy => ha x (List.mem_of_getElem? hx) _ _ _ _ (h2 i x y hx hy)
 refine (h.2 r0 V w args' h1 ha' hI0 hG).mono ?_
 rintro ed w' ⟨y, r', s', ρ', V', rfl, ⟨F, σ, hsg, hlen, hobj, htm⟩, hrel, hinv, hg⟩
 simp only [sgB, Bool.and_eq_true, decide_eq_true_eq] at hsg
 have hinj := yq hsg.2
 have noOwn : ∀ b, ¬ Own r0 (dk 0) b := by rintro b ⟨id, cs, loc, g1, _⟩; simp [dk] at g1
 have hlow : ∀ b, Own ρ' s' b → w.heap.size ≤ b := fun b hb => (hg.own b hb).elim (fun h => (noOwn b h).elim) id
 have hvg : ∀ b c, V' b = some c → V b = some c ∨ w.heap.size ≤ b := by
  intro b c hv
  rcases hg.vnew b c hv with h5 | h5 | h5
  ·
   exact .inl h5
  ·
   exact (noOwn b h5).elim
  ·
   exact .inr h5
 have ofo : ∀ b, wR F ρ' s' b → Own ρ' s' b := fun b ⟨id, cells, loc, _, g1, g2, g3⟩ => ⟨id, cells, loc, g1, g2, g3⟩
 have hk : ∀ b, b < w.heap.size → w'.heap[b]? = w.heap[b]? := fun b hb => hg.keep b hb (noOwn b)
 have hfg : ∀ b c, VF F ρ' V' s' w' b = some c → V b = some c ∨ w.heap.size ≤ b := by
  intro b c hv
  rcases fT hv with h5 | ⟨h5, _⟩
  ·
   exact hvg b c h5
  ·
   exact .inr (hlow b (ofo b h5))
 have hvm : ∀ b c, V b = some c → VF F ρ' V' s' w' b = some c := fun b c hv => kH _ _ (hg.view b c hv)
 let ρ1 : Rho := fun i => match σ[i]? with
  | some (some old) => ρ' old
  | _ => none
 have hρ1 : ∀ i old, σ[i]? = some (some old) → ρ1 i = ρ' old := fun i old h => by simp only [ρ1, h]
 have hρ1s : ∀ i loc, ρ1 i = some loc → ∃ old, σ[i]? = some (some old) ∧ ρ' old = some loc := by
  intro i loc h
  simp only [ρ1] at h
  split at h
  ·
   rename_i old ho'; exact ⟨old, ho', h⟩
  ·
   cases h
 let ρ2 : Rho := fun id => if hs.next ≤ id then ρ1 (id - hs.next) else ρ id
 have hold : ∀ id, id < hs.next → ρ2 id = ρ id := fun id hid => by simp only [ρ2, if_neg (by omega : ¬ hs.next ≤ id)]
 have hnew : ∀ i, ρ2 (hs.next + i) = ρ1 i := fun i => by simp only [ρ2, if_pos (Nat.le_add_right _ _), Nat.add_sub_cancel_left]
 have hrho : ∀ id loc, ρ id = some loc → ρ2 id = some loc := by
  intro id loc hl
  rcases Nat.lt_or_ge id hs.next with h' | h'
  ·
   rw [hold id h']; exact hl
  ·
   rw [hI.fresh id h'] at hl; cases hl
 have hc : Cvt ⟨s', fun _ => .unk⟩ F σ ρ' ρ1 V' (VF F ρ' V' s' w') := by
  refine ⟨hρ1, kH, fun id cells loc hid hl hr => ?_⟩
  obtain ⟨c, T, g1, g2, g3, g4⟩ := hinv.live id cells loc hl hr
  refine ⟨c, ?_, g3⟩
  have hof : wR F ρ' s' loc.b := ⟨id, cells, loc, hid, hl, hr, rfl⟩
  simp only [VF, g4, if_pos hof, g1]
 -- an object of the new heap
 have hob : ∀ id cs, nT hs.objs hs.next l id = .live cs → (id < hs.next ∨ l.length ≤ id - hs.next) ∧ hs.objs id = .live cs ∨ hs.next ≤ id ∧ l[id - hs.next]? = some cs := by
  intro id cs hl
  rw [mt] at hl
  split at hl
  ·
   rename_i hle
   split at hl
   ·
    rename_i c hc'
    cases hl; exact .inr ⟨hle, hc'⟩
   ·
    rename_i hn
    exact .inl ⟨.inr (List.getElem?_eq_none_iff.1 hn), hl⟩
  ·
   rename_i hle; exact .inl ⟨.inl (by omega), hl⟩
 have newO : ∀ id cs loc, hs.next ≤ id → l[id - hs.next]? = some cs → ρ2 id = some loc → ∃ old xs, σ[id - hs.next]? = some (some old) ∧ ρ' old = some loc ∧ old ∉ F ∧ s'.objs old = .live xs ∧ TmL ⟨s', fun _ => .unk⟩ F σ xs cs := by
  intro id cs loc hle hcs hρ
  have : ρ2 id = ρ1 (id - hs.next) := by rw [← hnew, Nat.add_sub_cancel' hle]
  rw [this] at hρ
  obtain ⟨old, g1, g2⟩ := hρ1s _ _ hρ
  obtain ⟨g3, xs, g4, g5⟩ := hobj _ old cs g1 hcs
  exact ⟨old, xs, g1, g2, g3, g4, g5⟩
 have oldO : ∀ id loc, (id < hs.next ∨ l.length ≤ id - hs.next) → ρ2 id = some loc → ρ id = some loc := by
  intro id loc hid hρ
  rcases Nat.lt_or_ge id hs.next with h' | h'
  ·
   rw [← hold id h']; exact hρ
  ·
   have h'' : ρ2 id = ρ1 (id - hs.next) := by rw [← hnew, Nat.add_sub_cancel' h']
   rw [h''] at hρ
   obtain ⟨old, g1, g2⟩ := hρ1s _ _ hρ
   have := (List.getElem?_eq_some_iff.1 g1).1
   omega
 refine ⟨y, mk (fun i => hs.next + i), ⟨nT hs.objs hs.next l, hs.next + l.length⟩, ρ2, VF F ρ' V' s' w', rfl, ⟨rfl, rfl⟩, ?_, ?_, ?_⟩
 ·
  exact hmk _ _ ρ1 ρ2 _ _ hnew (htm ρ' ρ1 V' _ y hc hrel)
 ·
  refine ⟨fun b c hv => ?_, fun id hid => ?_, fun id cs loc hl hρ => ?_, fun id cs loc hl hρ => ?_, fun i j li lj ci cj hi hj hρi hρj hb => ?_⟩
  ·
   rcases fT hv with h5 | ⟨_, h5⟩
   ·
    exact hinv.view b c h5
   ·
    exact h5
  ·
   have h'' : ρ2 id = ρ1 (id - hs.next) := by rw [← hnew, Nat.add_sub_cancel' (by simp only at hid; omega)]
   have : σ[id - hs.next]? = none := List.getElem?_eq_none (by simp only at hid; omega)
   rw [h'']; simp only [ρ1, this]
  ·
   rcases hob id cs hl with ⟨h5, h6⟩ | ⟨h5, h6⟩
   ·
    have hρo := oldO id loc h5 hρ
    obtain ⟨c, T, g1, g2, g3, g4⟩ := hI.live id cs loc h6 hρo
    refine ⟨c, T, by rw [hk _ (gv g1)]; exact g1, g2, g3.mono hrho hvm, ?_⟩
    cases hv : VF F ρ' V' s' w' loc.b with
    | none => rfl
    | some c' =>
     rcases hfg _ _ hv with h7 | h7
     ·
      rw [g4] at h7; cases h7
     ·
      have := gv g1; omega
   ·
    obtain ⟨old, xs, g1, g2, g3, g4, g5⟩ := newO id cs loc h5 h6 hρ
    obtain ⟨c, T, e1, e2, e3, e4⟩ := hinv.live old xs loc g4 g2
    refine ⟨c, T, e1, e2, ((g5.relC hc e3).clean (ρ' := ρ2) (hcl cs (List.mem_of_getElem? h6))), ?_⟩
    cases hv : VF F ρ' V' s' w' loc.b with
    | none => rfl
    | some c' =>
     rcases fT hv with h7 | ⟨⟨id', cs', loc', m1, m2, m3, m4⟩, _⟩
     ·
      rw [e4] at h7; cases h7
     ·
      have := hinv.inj id' old loc' loc cs' xs m2 g4 m3 g2 m4
      subst this
      exact absurd m1 g3
  ·
   have hl' : nT hs.objs hs.next l id = .froz cs := hl
   rw [mt] at hl'
   have hfz : (id < hs.next ∨ l.length ≤ id - hs.next) ∧ hs.objs id = .froz cs := by
    split at hl'
    ·
     split at hl'
     ·
      cases hl'
     ·
      rename_i hn; exact ⟨.inr (List.getElem?_eq_none_iff.1 hn), hl'⟩
    ·
     rename_i hle; exact ⟨.inl (by omega), hl'⟩
   obtain ⟨c, g1, g2, g3⟩ := hI.froz id cs loc hfz.2 (oldO id loc hfz.1 hρ)
   exact ⟨c, hvm _ _ g1, g2.mono hrho hvm, g3⟩
  ·
   have small : ∀ {i : Nat} {c : List AV} {lc : Loc}, hs.objs i = .live c → ρ i = some lc → lc.b < w.heap.size := fun {i c lc} ho' hl' => by
    obtain ⟨c0, T, g1, _⟩ := hI.live i c lc ho' hl'
    exact gv g1
   rcases hob i ci hi with ⟨h5, h6⟩ | ⟨h5, h6⟩ <;> rcases hob j cj hj with ⟨h7, h8⟩ | ⟨h7, h8⟩
   ·
    exact hI.inj i j li lj ci cj h6 h8 (oldO _ _ h5 hρi) (oldO _ _ h7 hρj) hb
   ·
    obtain ⟨old, xs, g1, g2, g3, g4, g5⟩ := newO j cj lj h7 h8 hρj
    have a1 := hlow _ ⟨old, xs, lj, g4, g2, rfl⟩
    have a2 := small h6 (oldO _ _ h5 hρi)
    omega
   ·
    obtain ⟨old, xs, g1, g2, g3, g4, g5⟩ := newO i ci li h5 h6 hρi
    have a1 := hlow _ ⟨old, xs, li, g4, g2, rfl⟩
    have a2 := small h8 (oldO _ _ h7 hρj)
    omega
   ·
    obtain ⟨oi, xi, g1, g2, g3, g4, g5⟩ := newO i ci li h5 h6 hρi
    obtain ⟨oj, xj, k1, k2, k3, k4, k5⟩ := newO j cj lj h7 h8 hρj
    have := hinv.inj oi oj li lj xi xj g4 k4 g2 k2 hb
    subst this
    have := hinj _ _ oi g1 k1
    omega
 ·
  refine ⟨hrho, hold, Nat.le_add_right _ _, hvm, hg.size, fun b hb _ => hk b hb, ?_, ?_, hg.mem⟩
  ·
   rintro b ⟨id, cs, loc, hl, hρ, rfl⟩
   rcases hob id cs hl with ⟨h5, h6⟩ | ⟨h5, h6⟩
   ·
    exact .inl ⟨id, cs, loc, h6, oldO id loc h5 hρ, rfl⟩
   ·
    obtain ⟨old, xs, g1, g2, g3, g4, g5⟩ := newO id cs loc h5 h6 hρ
    exact .inr (hlow _ ⟨old, xs, loc, g4, g2, rfl⟩)
  ·
   intro b c hv
   rcases hfg b c hv with h5 | h5
   ·
    exact .inl h5
   ·
    exact .inr (.inr h5)

def lC (C : Ctx) (f : FuncId) (args : List AV) (mk : (Nat → Nat) → AV) (l : List (List AV)) : Prop := ∀ hs : HS, Snd C f args hs fun r hs' => r = mk (fun i => hs.next + i) ∧ hs' = ⟨nT hs.objs hs.next l, hs.next + l.length⟩

theorem lC.pure {C : Ctx} {f : FuncId} {args : List AV} {mk : (Nat → Nat) → AV} {l : List (List AV)} {r : AV} (h : lC C f args mk l) (hr : aw r) (ha : ∀ x ∈ args, aw x) (he : fz (nT (fun _ => .dead) 0 l) gM (mk fun i => i) = r) : SndP C f args r := by
 refine SndP.of_zero hr ha (Snd.mono (h (dk 0)) ?_)
 rintro r' s' ⟨rfl, rfl⟩
 simpa [dk] using he

theorem lI {C : Ctx} {fr : Nat} {f : FuncId} {args : List AV} {objs : Nat → Ob} {nx : Nat} {k : AV → HS → Prop} {mk : (Nat → Nat) → AV} {l : List (List AV)} (h : lC C f args mk l) (hk : k (mk fun i => nx + i) ⟨nT objs nx l, nx + l.length⟩) : kf C false fr (some (f, args)) ⟨objs, nx⟩ k :=
 uF (h ⟨objs, nx⟩) fun r hs hr => by obtain ⟨rfl, rfl⟩ := hr; exact hk

attribute [go_sem] D5 Bt
end Go.AX.Z
namespace Go.AX.Z
open Go.AX

def yU (s : HS) (F : List Nat) (σ0 : List (Option Nat)) : List (Option Nat) → List (List AV) → Prop
 | [], [] => True
 | some old :: σ, cs :: l => (old ∉ F ∧ ∃ xs, s.objs old = .live xs ∧ TmL ⟨s, fun _ => .unk⟩ F σ0 xs cs) ∧ yU s F σ0 σ l
 | none :: σ, _ :: l => yU s F σ0 σ l
 | _, _ => False

theorem sj {s : HS} {F : List Nat} {σ0 : List (Option Nat)} : ∀ {σ : List (Option Nat)} {l : List (List AV)}, yU s F σ0 σ l →
  σ.length = l.length ∧ ∀ (i old : Nat) cs, σ[i]? = some (some old) → l[i]? = some cs → old ∉ F ∧ ∃ xs, s.objs old = .live xs ∧ TmL ⟨s, fun _ => .unk⟩ F σ0 xs cs
 | [], [], _ => ⟨rfl, fun i old cs h => by simp at h⟩
 | some old :: σ, cs :: l, h => by
  obtain ⟨h1, h2⟩ := sj h.2
  refine ⟨by simp [h1], fun i o c hi hc => ?_⟩
  cases i with
  | zero => simp at hi hc; subst hi; subst hc; exact h.1
  | succ i => simp at hi hc; exact h2 i o c hi hc
 | none :: σ, cs :: l, h => by
  obtain ⟨h1, h2⟩ := sj (σ := σ) (l := l) h
  refine ⟨by simp [h1], fun i o c hi hc => ?_⟩
  cases i with
  | zero => simp at hi
  | succ i => simp at hi hc; exact h2 i o c hi hc
 | [], _ :: _, h => h.elim
 | some _ :: _, [], h => h.elim
 | none :: _, [], h => h.elim

theorem cX {s : HS} {F : List Nat} {σ0 : List (Option Nat)} : yU s F σ0 [] [] := trivial
theorem fo {s : HS} {F : List Nat} {σ0 σ : List (Option Nat)} {l : List (List AV)} {old : Nat} {xs cs : List AV} (hF : old ∉ F) (ho : s.objs old = .live xs) (hx : TmL ⟨s, fun _ => .unk⟩ F σ0 xs cs) (t : yU s F σ0 σ l) : yU s F σ0 (some old :: σ) (cs :: l) := ⟨⟨hF, xs, ho, hx⟩, t⟩
theorem cY {s : HS} {F : List Nat} {σ0 σ : List (Option Nat)} {l : List (List AV)} {cs : List AV} (t : yU s F σ0 σ l) : yU s F σ0 (none :: σ) (cs :: l) := t

theorem Res.mk {r' : AV} {s' : HS} {mk : (Nat → Nat) → AV} {l : List (List AV)} (F : List Nat) (σ : List (Option Nat)) (hs : sgB 0 σ = true) (ho : yU s' F σ σ l) (ht : Tm ⟨s', fun _ => .unk⟩ F σ r' (mk fun i => i)) : Res r' s' mk l :=
 ⟨F, σ, hs, (sj ho).1, (sj ho).2, ht⟩

theorem cH : ∀ cs ∈ ([] : List (List AV)), ∀ c ∈ cs, aw c := by intro cs h; cases h
theorem bq {x : List AV} {l : List (List AV)} (h : ∀ c ∈ x, aw c) (t : ∀ cs ∈ l, ∀ c ∈ cs, aw c) : ∀ cs ∈ x :: l, ∀ c ∈ cs, aw c := by
 intro cs hc
 rcases List.mem_cons.1 hc with rfl | hc
 ·
  exact h
 ·
  exact t cs hc

theorem Snd.norm {C : Ctx} {f : FuncId} {args : List AV} {hs : HS} {R : AV → HS → Prop} (h : Snd C f (args.map (fz (fun _ => .dead) gM)) hs R) : Snd C f args hs R := by
 refine ⟨trivial, fun ρ V w args' h1 h2 hI hG => h.2 ρ V w args' (by simpa using h1) ?_ hI hG⟩
 intro i x y hx hy
 obtain ⟨z, hz, rfl⟩ := d4 hx
 have := na (s := dk hs.next) hI.dead gM z y (h2 i z y hz hy)
 rwa [uA] at this
end Go.AX.Z
