/- A part of the proof: an abstract reading of the model, proved sound. -/
import Derived.Test.YtlnpmlkhbnjgnaaCoreb
import Derived.Lib.Overlaps
set_option linter.unusedVariables false
set_option linter.unusedSimpArgs false

/-! (AyL) -/

namespace Go.AX.Z
open Go.AX

def NoV (x : AV) : Prop := ∀ (ρ : Rho) (V V' : View) (y : Value), Rel ρ V x y → Rel ρ V' x y
theorem NoV.v (x : Value) : NoV (.v x) := fun _ _ _ y h => by cases h; exact .v x
theorem NoV.ref (id off len sz : Nat) : NoV (.ref id off len sz) := fun _ _ _ y h => by
  cases h with
  | ref _ _ _ _ cap loc h hc hl => exact .ref id off len sz cap loc h hc hl
  | refE _ _ _ a => exact .refE id off sz a
theorem NoV.agg {cs : List AV} (h : ∀ c ∈ cs, NoV c) : NoV (.agg cs) := by
  intro ρ V V' y hr
  cases hr with
  | agg _ ys h1 H S => exact .agg cs ys h1 (fun i x y hx hy => h x (List.mem_of_getElem? hx) ρ V V' y (H i x y hx hy)) S
theorem NoV.tup {cs : List AV} (h : ∀ c ∈ cs, NoV c) : NoV (.tup cs) := by
  intro ρ V V' y hr
  cases hr with
  | tup _ ys h1 H => exact .tup cs ys h1 (fun i x y hx hy => h x (List.mem_of_getElem? hx) ρ V V' y (H i x y hx hy))
theorem NoV.nil : ∀ c ∈ ([] : List AV), NoV c := by intro c h; cases h
theorem NoV.cons {x : AV} {l : List AV} (h : NoV x) (t : ∀ c ∈ l, NoV c) : ∀ c ∈ x :: l, NoV c := by
  intro c hc
  rcases List.mem_cons.1 hc with rfl | hc
  · exact h
  · exact t c hc

open Classical in
theorem SndM.lend {C : Ctx} {f : FuncId} {args : List AV} {mk : (Nat → Nat) → AV} {l : List (List AV)} (s : HS) (h : SndM C f (args.map (fz s.objs deep)) mk l) (hmk : ∀ q, NoV (mk q)) (hb : ∀ cs ∈ l, ∀ c ∈ cs, NoV c) :
    Snd C f args s fun r s' => r = mk (fun i => s.next + i) ∧ s' = ⟨newL s.objs s.next l, s.next + l.length⟩ := by
  refine ⟨trivial, fun ρ V w args' h1 h2 h3 h4 => ?_⟩
  have hz : Inv ρ (VV ρ V s w) ⟨froze s.objs, s.next⟩ w := by
    refine ⟨(inv_VV h3).view, h3.fresh, fun id cells loc hl => ?_, fun id cells loc hl hρ => ?_, fun i j li lj ci cj hl => ?_⟩
    · simp only [froze] at hl
      cases ho : s.objs id <;> simp [ho] at hl
    · simp only [froze] at hl
      cases ho : s.objs id with
      | dead => simp [ho] at hl
      | live c =>
        simp [ho] at hl; subst hl
        obtain ⟨c', T, g1, g2, g3, g4⟩ := h3.live id c loc ho hρ
        exact ⟨c', VV_own g4 ⟨id, c, loc, ho, hρ, rfl⟩ g1, g3.mono (fun _ _ h => h) VV_mono, g2⟩
      | froz c =>
        simp [ho] at hl; subst hl
        obtain ⟨c', g1, g2, g3⟩ := h3.froz id c loc ho hρ
        exact ⟨c', VV_mono _ _ g1, g2.mono (fun _ _ h => h) VV_mono, g3⟩
    · simp only [froze] at hl
      cases ho : s.objs i <;> simp [ho] at hl
  have q := (h ⟨froze s.objs, s.next⟩).2 ρ (VV ρ V s w) w args' (by simpa using h1) (fun i x y hx hy => by
    obtain ⟨z, hz, rfl⟩ := getElem?_map_iff hx
    exact fz_rel h3 deep z y (h2 i z y hz hy)) hz (h4.mono VV_mono)
  refine q.mono ?_
  rintro e w' ⟨y, r', s', ρ', V', rfl, ⟨rfl, rfl⟩, hrel, hinv, hg⟩
  simp only at hinv hg hrel
  have hown : ∀ b, ¬ Own ρ ⟨froze s.objs, s.next⟩ b := by
    rintro b ⟨id, cells, loc, hl, _⟩
    simp only [froze] at hl
    cases ho : s.objs id <;> simp [ho] at hl
  have hk : ∀ b, b < w.heap.size → w'.heap[b]? = w.heap[b]? := fun b hb' => hg.keep b hb' (hown b)
  have vown : ∀ b c, V b = some c → ¬ Own ρ s b := by
    rintro b c hv ⟨id, cells, loc, hl, hρ, rfl⟩
    obtain ⟨_, _, _, _, _, g⟩ := h3.live id cells loc hl hρ
    rw [hv] at g; cases g
  let V2 : View := fun b => if Own ρ s b then none else V' b
  have hV2 : ∀ b c, V2 b = some c → V' b = some c ∧ ¬ Own ρ s b := by
    intro b c hv
    simp only [V2] at hv
    split at hv
    · cases hv
    · rename_i hn; exact ⟨hv, hn⟩
  have hVm : ∀ b c, V b = some c → V2 b = some c := by
    intro b c hv
    simp only [V2, if_neg (vown b c hv)]
    exact hg.view b c (VV_mono _ _ hv)
  have hVo : ∀ b, Own ρ s b → V2 b = none := fun b hb' => by simp only [V2, if_pos hb']
  have old : ∀ id loc, id < s.next → ρ' id = some loc → ρ id = some loc := fun id loc hid hr => by rw [← hg.old id hid]; exact hr
  -- what lives now: old or new
  have split : ∀ id cells loc, newL s.objs s.next l id = .live cells → ρ' id = some loc →
      (id < s.next ∧ s.objs id = .live cells) ∨ (cells ∈ l ∧ newL (froze s.objs) s.next l id = .live cells) := by
    intro id cells loc hl hρ
    rw [newL_get] at hl
    by_cases hid : s.next ≤ id
    · rw [if_pos hid] at hl
      cases hc : l[id - s.next]? with
      | some cs =>
        rw [hc] at hl; cases hl
        refine .inr ⟨List.mem_of_getElem? hc, ?_⟩
        rw [newL_get, if_pos hid, hc]
      | none =>
        exfalso
        have := List.getElem?_eq_none_iff.1 hc
        have hf := hinv.fresh id (by simp only; omega)
        rw [hf] at hρ; cases hρ
    · rw [if_neg hid] at hl
      exact .inl ⟨by omega, hl⟩
  have newSize : ∀ id cells loc, newL (froze s.objs) s.next l id = .live cells → ρ' id = some loc → w.heap.size ≤ loc.b := by
    intro id cells loc hl hρ
    rcases hg.own loc.b ⟨id, cells, loc, hl, hρ, rfl⟩ with h5 | h5
    · exact (hown _ h5).elim
    · exact h5
  have oldSize : ∀ id cells loc, s.objs id = .live cells → ρ id = some loc → loc.b < w.heap.size := by
    intro id cells loc hl hρ
    obtain ⟨_, _, g1, _⟩ := h3.live id cells loc hl hρ
    exact lt_heap g1
  have relV : ∀ {cells : List AV} {c : Array Value} {o : Nat}, (∀ x ∈ cells, NoV x) → RelC ρ' V' cells c o → RelC ρ' V2 cells c o := fun hn hc =>
    ⟨hc.le, fun i x y hx hy => hn x (List.mem_of_getElem? hx) _ _ _ _ (hc.rel i x y hx hy), hc.sto⟩
  refine ⟨y, _, _, ρ', V2, rfl, ⟨rfl, rfl⟩, hmk _ _ _ _ _ hrel, ?_, ?_⟩
  · refine ⟨fun b c hv => hinv.view b c (hV2 b c hv).1, fun id hid => hinv.fresh id hid, fun id cells loc hl hρ => ?_, fun id cells loc hl hρ => ?_, fun i j li lj ci cj hi hj hρi hρj hbb => ?_⟩
    · rcases split id cells loc hl hρ with ⟨hid, ho⟩ | ⟨hm, ho⟩
      · have hr := old id loc hid hρ
        obtain ⟨c, T, g1, g2, g3, g4⟩ := h3.live id cells loc ho hr
        exact ⟨c, T, by rw [hk _ (lt_heap g1)]; exact g1, g2, g3.mono hg.rho hVm, hVo _ ⟨id, cells, loc, ho, hr, rfl⟩⟩
      · obtain ⟨c, T, g1, g2, g3, g4⟩ := hinv.live id cells loc ho hρ
        refine ⟨c, T, g1, g2, relV (hb cells hm) g3, ?_⟩
        cases hv : V2 loc.b with
        | none => rfl
        | some c' => rw [(hV2 _ _ hv).1] at g4; cases g4
    · change newL s.objs s.next l id = _ at hl
      rw [newL_get] at hl
      have hid : id < s.next ∧ s.objs id = .froz cells := by
        by_cases hid : s.next ≤ id
        · rw [if_pos hid] at hl
          cases hc : l[id - s.next]? with
          | some cs => rw [hc] at hl; cases hl
          | none =>
            exfalso
            have := List.getElem?_eq_none_iff.1 hc
            have hf := hinv.fresh id (by simp only; omega)
            rw [hf] at hρ; cases hρ
        · rw [if_neg hid] at hl; exact ⟨by omega, hl⟩
      have hr := old id loc hid.1 hρ
      obtain ⟨c, g1, g2, g3⟩ := h3.froz id cells loc hid.2 hr
      exact ⟨c, hVm _ _ g1, g2.mono hg.rho hVm, g3⟩
    · rcases split i ci li hi hρi with ⟨a1, a2⟩ | ⟨a1, a2⟩ <;> rcases split j cj lj hj hρj with ⟨b1, b2⟩ | ⟨b1, b2⟩
      · exact h3.inj i j li lj ci cj a2 b2 (old i li a1 hρi) (old j lj b1 hρj) hbb
      · have := oldSize i ci li a2 (old i li a1 hρi)
        have := newSize j cj lj b2 hρj
        omega
      · have := oldSize j cj lj b2 (old j lj b1 hρj)
        have := newSize i ci li a2 hρi
        omega
      · exact hinv.inj i j li lj ci cj a2 b2 hρi hρj hbb
  · refine ⟨hg.rho, hg.old, Nat.le_add_right _ _, hVm, hg.size, fun b hb' _ => hk b hb', fun b hb' => ?_, fun b c hv => ?_, hg.mem⟩
    · obtain ⟨id, cells, loc, hl, hρ, rfl⟩ := hb'
      rcases split id cells loc hl hρ with ⟨hid, ho⟩ | ⟨_, ho⟩
      · exact .inl ⟨id, cells, loc, ho, old id loc hid hρ, rfl⟩
      · exact .inr (newSize id cells loc ho hρ)
    · rcases hg.vnew b c (hV2 b c hv).1 with h5 | h5 | h5
      · rcases VV_cases h5 with h6 | ⟨h6, _⟩
        · exact .inl h6
        · exact .inr (.inl h6)
      · exact (hown b h5).elim
      · exact .inr (.inr h5)

open Classical in
theorem SndE.lend {C : Ctx} {f : FuncId} {args : List AV} {hs : HS} {fr : Nat} {r : AV} {CS : List AV} (h : ∀ s : HS, SndE C f (args.map (fz hs.objs deep)) s fr ⟨r, .new CS⟩) (hr : NoV r) (hb : ∀ c ∈ CS, NoV c) :
    SndE C f args hs fr ⟨r, .new CS⟩ := by
  intro ρ V w args' h1 h2 h3 h4 hfr hfn
  have hz : Inv ρ (VV ρ V hs w) ⟨froze hs.objs, hs.next⟩ w := by
    refine ⟨(inv_VV h3).view, h3.fresh, fun id cells loc hl => ?_, fun id cells loc hl hρ => ?_, fun i j li lj ci cj hl => ?_⟩
    · simp only [froze] at hl
      cases ho : hs.objs id <;> simp [ho] at hl
    · simp only [froze] at hl
      cases ho : hs.objs id with
      | dead => simp [ho] at hl
      | live c =>
        simp [ho] at hl; subst hl
        obtain ⟨c', T, g1, g2, g3, g4⟩ := h3.live id c loc ho hρ
        exact ⟨c', VV_own g4 ⟨id, c, loc, ho, hρ, rfl⟩ g1, g3.mono (fun _ _ h => h) VV_mono, g2⟩
      | froz c =>
        simp [ho] at hl; subst hl
        obtain ⟨c', g1, g2, g3⟩ := h3.froz id c loc ho hρ
        exact ⟨c', VV_mono _ _ g1, g2.mono (fun _ _ h => h) VV_mono, g3⟩
    · simp only [froze] at hl
      cases ho : hs.objs i <;> simp [ho] at hl
  have q := h ⟨froze hs.objs, hs.next⟩ ρ (VV ρ V hs w) w args' (by simpa using h1) (fun i x y hx hy => by
    obtain ⟨z, hz, rfl⟩ := getElem?_map_iff hx
    exact fz_rel h3 deep z y (h2 i z y hz hy)) hz (h4.mono VV_mono) hfr hfn
  refine q.mono ?_
  rintro e w' ⟨y, ρ', V', rfl, hd⟩
  have hown : ∀ b, ¬ Own ρ ⟨froze hs.objs, hs.next⟩ b := by
    rintro b ⟨id, cells, loc, hl, _⟩
    simp only [froze] at hl
    cases ho : hs.objs id <;> simp [ho] at hl
  have hk : ∀ b, b < w.heap.size → w'.heap[b]? = w.heap[b]? := fun b hb' => hd.keep b hb' (hown b)
  have vown : ∀ b c, V b = some c → ¬ Own ρ hs b := by
    rintro b c hv ⟨id, cells, loc, hl, hρ, rfl⟩
    obtain ⟨_, _, _, _, _, g⟩ := h3.live id cells loc hl hρ
    rw [hv] at g; cases g
  let V2 : View := fun b => if Own ρ hs b then none else V' b
  have hV2 : ∀ b c, V2 b = some c → V' b = some c ∧ ¬ Own ρ hs b := by
    intro b c hv
    simp only [V2] at hv
    split at hv
    · cases hv
    · rename_i hn; exact ⟨hv, hn⟩
  have hVm : ∀ b c, V b = some c → V2 b = some c := by
    intro b c hv
    simp only [V2, if_neg (vown b c hv)]
    exact hd.view b c (VV_mono _ _ hv)
  have hVo : ∀ b, Own ρ hs b → V2 b = none := fun b hb' => by simp only [V2, if_pos hb']
  have newSize : ∀ loc, ρ' fr = some loc → w.heap.size ≤ loc.b := by
    intro loc hρ
    rcases hd.own loc.b ⟨fr, CS, loc, by simp only [doAct, upd_eq], hρ, rfl⟩ with h5 | h5
    · exact (hown _ h5).elim
    · exact h5
  have oldSize : ∀ id cells loc, hs.objs id = .live cells → ρ id = some loc → loc.b < w.heap.size := by
    intro id cells loc hl hρ
    obtain ⟨_, _, g1, _⟩ := h3.live id cells loc hl hρ
    exact lt_heap g1
  have relV : ∀ {cells : List AV} {c : Array Value} {o : Nat}, (∀ x ∈ cells, NoV x) → RelC ρ' V' cells c o → RelC ρ' V2 cells c o := fun hn hc =>
    ⟨hc.le, fun i x y hx hy => hn x (List.mem_of_getElem? hx) _ _ _ _ (hc.rel i x y hx hy), hc.sto⟩
  refine ⟨y, ρ', V2, rfl, hr _ _ _ _ hd.rel, ?_, hd.rho, hd.oth, hVm, hd.size, fun b hb' _ => hk b hb', fun b hb' => ?_, fun b c hv => ?_, hd.mem⟩
  · refine ⟨fun b c hv => hd.inv.view b c (hV2 b c hv).1, fun id hid => hd.inv.fresh id hid, fun id cells loc hl hρ => ?_, fun id cells loc hl hρ => ?_, fun i j li lj ci cj hi hj hρi hρj hbb => ?_⟩
    · simp only [doAct] at hl
      by_cases he : id = fr
      · subst he
        rw [upd_eq] at hl; cases hl
        obtain ⟨c, T, g1, g2, g3, g4⟩ := hd.inv.live id CS loc (by simp only [doAct, upd_eq]) hρ
        refine ⟨c, T, g1, g2, relV hb g3, ?_⟩
        cases hv : V2 loc.b with
        | none => rfl
        | some c' => rw [(hV2 _ _ hv).1] at g4; cases g4
      · rw [upd_ne _ _ he] at hl
        rw [hd.oth id he] at hρ
        obtain ⟨c, T, g1, g2, g3, g4⟩ := h3.live id cells loc hl hρ
        exact ⟨c, T, by rw [hk _ (lt_heap g1)]; exact g1, g2, g3.mono hd.rho hVm, hVo _ ⟨id, cells, loc, hl, hρ, rfl⟩⟩
    · simp only [doAct] at hl
      by_cases he : id = fr
      · subst he; rw [upd_eq] at hl; cases hl
      · rw [upd_ne _ _ he] at hl
        rw [hd.oth id he] at hρ
        obtain ⟨c, g1, g2, g3⟩ := h3.froz id cells loc hl hρ
        exact ⟨c, hVm _ _ g1, g2.mono hd.rho hVm, g3⟩
    · simp only [doAct] at hi hj
      by_cases h5 : i = fr <;> by_cases h6 : j = fr
      · rw [h5, h6]
      · subst h5
        rw [upd_ne _ _ h6] at hj
        rw [hd.oth j h6] at hρj
        have := newSize li hρi
        have := oldSize j cj lj hj hρj
        omega
      · subst h6
        rw [upd_ne _ _ h5] at hi
        rw [hd.oth i h5] at hρi
        have := newSize lj hρj
        have := oldSize i ci li hi hρi
        omega
      · rw [upd_ne _ _ h5] at hi
        rw [upd_ne _ _ h6] at hj
        rw [hd.oth i h5] at hρi
        rw [hd.oth j h6] at hρj
        exact h3.inj i j li lj ci cj hi hj hρi hρj hbb
  · obtain ⟨id, cells, loc, hl, hρ, rfl⟩ := hb'
    simp only [doAct] at hl
    by_cases he : id = fr
    · subst he; exact .inr (newSize loc hρ)
    · rw [upd_ne _ _ he] at hl
      rw [hd.oth id he] at hρ
      exact .inl ⟨id, cells, loc, hl, hρ, rfl⟩
  · rcases hd.vnew b c (hV2 b c hv).1 with h5 | h5 | h5
    · rcases VV_cases h5 with h6 | ⟨h6, _⟩
      · exact .inl h6
      · exact .inr (.inl h6)
    · exact (hown b h5).elim
    · exact .inr (.inr h5)

theorem take_set {α : Type} (l : List α) (i : Nat) (x : α) : List.take l.length (l.set i x) = l.set i x := by
  have h := List.take_length (l := l.set i x)
  rwa [List.length_set] at h
end Go.AX.Z

/-! (AyM) -/

namespace Go.AX
attribute [go_sem] capE appzE copyC
theorem ap_t {objs : Nat → Ob} {nx fr : Nat} {t : Nat → AV} {x : AV} {u id : Nat} {cs : List AV} : AS.apply { objs := objs, next := nx, tmps := t } (some u) fr ⟨x, .set id cs⟩ = { objs := doAct fr (.set id cs) objs, next := nx, tmps := upd t u x } := (rfl)
attribute [go_sem] ap_t
end Go.AX
namespace Go.AX.Z
open Go.AX

theorem Snd.open {C : Ctx} {f : FuncId} {id off len sz : Nat} {xs : List AV} {s : HS} {R : AV → HS → Prop} (hl : 0 < len) (h : ∀ cap, len ≤ cap → Snd C f (.refc id off len sz cap :: xs) s R) : Snd C f (.ref id off len sz :: xs) s R := by
  refine ⟨trivial, fun ρ V w args' e1 e2 hI hG => ?_⟩
  obtain ⟨ys⟩ := args'
  match ys, e1, e2 with
  | y :: ys, e1, e2 =>
    have r := e2 0 _ y rfl rfl
    have key : ∃ cap, len ≤ cap ∧ Rel ρ V (.refc id off len sz cap) y := by
      cases r with
      | ref _ _ _ _ cap loc h1 h2 h3 => exact ⟨cap, h3, .refc id off len sz cap loc h1 h2 h3⟩
      | refE => omega
    obtain ⟨cap, hc, r'⟩ := key
    refine (h cap hc).2 ρ V w _ e1 (fun i x z hx hz => ?_) hI hG
    cases i with
    | zero => simp at hx hz; subst hx; subst hz; exact r'
    | succ i => exact e2 (i + 1) x z (by simpa using hx) hz

theorem SndIO.of_walkC {C : Ctx} (hC : COk C) {f : FuncId} {fn : Func} {c : Code} {k : Nat} {args : (Nat → Nat) → List AV} {I : List Tpl} {E : List (Option Tpl)} {mk : (Nat → Nat) → AV} {id off len sz : Nat} {xs : List AV} (hargs : RenML args) (hIr : ∀ c ∈ I, RenML c) (hEr : ∀ c, some c ∈ E → RenML c) (hmk : RenM mk) (hk : I.length = k) (hkE : k ≤ E.length)
    (hf : C.P.funcs[f]? = some fn) (hb : fn.body = some c) (hn : (fn.name == "runtime.NumGoroutine") = false) (hst : stOk fn.ntmps c = true) (hal : (args fun i => i).length ≤ fn.ntmps)
    (he : (args fun i => i) = .ref id off len sz :: xs) (hl : 0 < len)
    (h : ∀ cap, len ≤ cap → awp k C c (endW k C fn fun r' s' => ResIO k r' s' mk E) { objs := iniU (fun _ => .dead) 0 I, next := k, tmps := arg (.refc id off len sz cap :: xs) }) : SndIO C f k args I mk E := by
  intro hs L hL hLn hlive
  obtain ⟨h1, h2⟩ := liveL_get hlive
  refine Snd.of_io hargs hIr hEr hmk hk hkE ?_ hs (thl L) (fun i j hi hj => thl_inj hL i j (by omega) (by omega)) (fun i hi => thl_lt hLn i (by omega)) h2
  rw [he] at hal ⊢
  refine Snd.open hl fun cap hcap => ?_
  have hw : awp k C c (endW k C fn fun r' s' => ResIO k r' s' mk E) (init (.refc id off len sz cap :: xs) ⟨iniO I, k⟩) := by
    rw [ini_eq]; exact h cap hcap
  exact snd_of_awpW hC hf hb hn hst hal hw

theorem Wk.cap {k : Nat} {C : Ctx} {objs : Nat → Ob} {nx : Nat} {tm : Nat → AV} (j : Nat) {id off len sz cap : Nat} (h : tm j = .refc id off len sz cap) : Wk k C { objs := objs, next := nx, tmps := tm } { objs := objs, next := nx, tmps := upd tm j (.ref id off len sz) } := by
  rintro N B a w hl ⟨ρ, V, h1, h2⟩
  refine ⟨ρ, V, fun t => ?_, h2⟩
  show Rel ρ V (upd tm j (.ref id off len sz) t) _
  by_cases ht : t = j
  · subst ht
    have := h1 t
    simp only at this
    rw [h] at this
    rw [upd_eq]
    generalize a.tmps.getD t undef = y at this ⊢
    cases this with
    | refc _ _ _ _ _ loc h1 h2 h3 => exact .ref id off len sz cap loc h1 h2 h3
  · rw [upd_ne _ _ ht]; exact h1 t

theorem overlaps_apart {C : Ctx} {f : FuncId} {fn : Func} {tS tR e : Nat} (hf : C.P.funcs[f]? = some fn) (hn : (fn.name == "runtime.NumGoroutine") = false) (hb : fn.body.isNone = true) (h1 : Extern.findNext fn = none)
    (h2 : Extern.find fn = some (Extern.SlicesOverlaps.overlaps #[tS, tS] #[tR])) (ht : C.P.underlying tS = some (.slice e)) {n : Nat} (hz : szOf C.P e = some n) (hn0 : 0 < n)
    {a o m b o' n' cap : Nat} {ca cb : List AV} {hs : HS} (ha : hs.objs a = .live ca) (hb' : hs.objs b = .live cb) (hab : a ≠ b) (hm : 0 < m) (hc : 0 < cap) :
    Snd C f [.ref a o m n, .refc b o' n' n cap] hs fun r hs' => r = vb false ∧ hs' = hs := by
  refine ⟨trivial, fun ρ V w args' e1 e2 hI hG => .inr ?_⟩
  obtain ⟨ys⟩ := args'
  match ys, e1, e2 with
  | [y1, y2], e1, e2 =>
    have r1 := e2 0 _ y1 rfl rfl
    have r2 := e2 1 _ y2 rfl rfl
    cases r1 with
    | refE => omega
    | ref _ _ _ _ c1 l1 p1 p2 p3 =>
    cases r2 with
    | refc _ _ _ _ _ l2 q1 q2 q3 =>
    obtain ⟨d1, T1, u1, u2, u3, u4⟩ := hI.live a ca l1 ha p1
    obtain ⟨d2, T2, v1, v2, v3, v4⟩ := hI.live b cb l2 hb' q1
    have hne : l1.b ≠ l2.b := fun hh => hab (hI.inj a b l1 l2 ca cb ha hb' p1 q1 hh)
    have hcn : 0 < cap * n := Nat.mul_pos hc hn0
    refine ⟨.bool false, w, ?_, _, vb false, hs, ρ, V, rfl, ⟨rfl, rfl⟩, .v _, hI, Grew.refl _ _ _ _⟩
    rw [run_callFunc_extern hf hn hb h1 h2]
    have := Lib.run_overlaps_apart (P := C.P) w tS tR e ht n (szOf_run hz) ⟨l1.b, l1.base + o, none⟩ ⟨l2.b, l2.base + o', none⟩ m c1 n' cap hne T1 T2 d1.size d2.size
      (by simp [World.shape?, u1]) (by simp [World.shape?, v1]) (by omega) (by simp [World.frozen?, u1]) (by simp [World.frozen?, u1])
    simp only [this, Result.andThen_ok]
end Go.AX.Z
namespace Go.AX.Z
open Go.AX
theorem putAt_in {cells cs : List AV} {off : Nat} (h : off + cs.length ≤ cells.length) : putAt cells off cs = cells.take off ++ cs ++ cells.drop (off + cs.length) := by
  unfold putAt
  split
  · rename_i x
    simp only [List.length_cons, List.length_nil, Nat.zero_add] at h ⊢
    rw [List.set_eq_take_append_cons_drop, if_pos (by omega)]
    simp
  · rw [if_pos h]
theorem ins_grow {α : Type} (R : List α → List AV) (sz : Nat) (hL : ∀ l, (R l).length = l.length * sz) (hA : ∀ x y, R (x ++ y) = R x ++ R y)
    (a1 a2 : List α) (i : Nat) (hm : a2.length = 1) (hi : i < a1.length) (z : List AV) (hz : z.length = sz) :
    putAt (putAt (R (a1.take i) ++ rep (a1.length + 1 - i) z) (i * sz) (R a2)) ((i + 1) * sz) (R (a1.drop i)) = R (a1.take i ++ a2 ++ a1.drop i) := by
  have e1 : (R a2).length = sz := by rw [hL, hm, Nat.one_mul]
  have e2 : (R (a1.take i)).length = i * sz := by rw [hL, List.length_take]; congr 1; omega
  have e3 : (rep (a1.length + 1 - i) z).length = (a1.length + 1 - i) * sz := by rw [rep_length, hz]
  have e4 : (R (a1.drop i)).length = (a1.length - i) * sz := by rw [hL, List.length_drop]
  have e5 : (a1.length + 1 - i) * sz = sz + (a1.length - i) * sz := by
    rw [show a1.length + 1 - i = 1 + (a1.length - i) by omega, Nat.add_mul, Nat.one_mul]
  have e6 : (i + 1) * sz = i * sz + sz := by rw [Nat.add_mul, Nat.one_mul]
  rw [putAt_in (cells := R (List.take i a1) ++ rep (a1.length + 1 - i) z) (cs := R a2) (by rw [List.length_append, e1, e2, e3]; omega), List.take_append_of_le_length (by omega), List.take_of_length_le (by omega)]
  rw [putAt_in (by simp only [List.length_append, List.length_drop, e1, e2, e3, e4]; omega)]
  rw [List.take_append_of_le_length (by simp only [List.length_append, e1, e2]; omega), List.take_of_length_le (by simp only [List.length_append, e1, e2]; omega)]
  rw [show ∀ l : List AV, l.length ≤ (i + 1) * sz + (R (a1.drop i)).length → R (a1.take i) ++ R a2 ++ R (a1.drop i) ++ l.drop ((i + 1) * sz + (R (a1.drop i)).length) = R (a1.take i) ++ R a2 ++ R (a1.drop i) from fun l hl => by rw [List.drop_of_length_le hl, List.append_nil], hA, hA]
  simp only [List.length_append, List.length_drop, e1, e2, e3, e4]; omega
theorem ins_room {α : Type} (R : List α → List AV) (sz : Nat) (hL : ∀ l, (R l).length = l.length * sz) (hA : ∀ x y, R (x ++ y) = R x ++ R y) (hT : ∀ x n, (R x).take (n * sz) = R (x.take n))
    (a1 a2 : List α) (i : Nat) (hi : i < a1.length) {c1 : List AV} (h1 : c1 = List.take ((i + 1) * sz) (R a1) ++ R (a1.drop i) ++ List.drop ((i + 1) * sz + (a1.length - i) * sz) (R a1)) :
    c1.length = (a1.length + 1) * sz ∧ List.take (i * sz) c1 ++ R a2 ++ List.drop (i * sz + sz) c1 = R (a1.take i ++ a2 ++ a1.drop i) := by
  have e2 : (R (a1.take (i + 1))).length = (i + 1) * sz := by rw [hL, List.length_take]; congr 1; omega
  have e4 : (R (a1.drop i)).length = (a1.length - i) * sz := by rw [hL, List.length_drop]
  have e6 : (i + 1) * sz = i * sz + sz := by rw [Nat.add_mul, Nat.one_mul]
  have e7 : (a1.length + 1) * sz = (i + 1) * sz + (a1.length - i) * sz := by rw [← Nat.add_mul]; congr 1; omega
  have e8 : (a1.length + 1) * sz = a1.length * sz + sz := by rw [Nat.add_mul, Nat.one_mul]
  rw [show List.drop ((i + 1) * sz + (a1.length - i) * sz) (R a1) = [] from List.drop_of_length_le (by rw [hL, ← e7, e8]; omega), List.append_nil, hT] at h1
  subst h1
  refine ⟨by rw [List.length_append, e2, e4, e7], ?_⟩
  rw [List.take_append_of_le_length (by omega), hT, List.take_take, show min i (i + 1) = i by omega, hA, hA]
  congr 1
  rw [← e6, List.drop_append, e2, Nat.sub_self, List.drop_zero, List.drop_of_length_le (by omega), List.nil_append]
end Go.AX.Z

/-! (AzA) -/

namespace Go.AX.Z
open Go.AX

theorem idxN {α : Type} (l : List α) (i : Nat) : idx l (i : Int) = l[i]? := by simp [idx]
theorem drop_c {α : Type} {L l : List α} {x : α} {i : Nat} (h : L.drop i = x :: l) : L[i]? = some x ∧ L.drop (i + 1) = l ∧ i < L.length := by
  have h1 : i < L.length := by
    rcases Nat.lt_or_ge i L.length with h2 | h2
    · exact h2
    · rw [List.drop_eq_nil_of_le h2] at h; cases h
  rw [List.drop_eq_getElem_cons h1] at h
  injection h with h2 h3
  exact ⟨by simp [h1, h2], h3, h1⟩
theorem drop_n {α : Type} {L : List α} {i : Nat} (h : L.drop i = []) : L.length ≤ i := List.drop_eq_nil_iff.1 h
theorem wrapN {i : Nat} (h : i < 4611686018427387904) : IntKind.wrap .i64 ((i : Int) + 1) = ((i + 1 : Nat) : Int) := by
  rw [wrap64 (by omega) (by omega)]; omega
theorem wrapI {i : Int} (h1 : -4611686018427387904 ≤ i) (h2 : i < 4611686018427387904) : IntKind.wrap .i64 i = i := wrap64 (by omega) (by omega)
theorem chk_t {c : Bool} (h : c = true) : chk c = some () := by rw [h]; rfl
theorem chk_d {p : Prop} [Decidable p] (h : p) : chk (decide p) = some () := chk_t (by simpa using h)
theorem bindS {α β : Type} (a : α) (f : α → Option β) : (some a).bind f = f a := rfl
theorem lt_dec {L : Nat} {i : Nat} (h : i < L) : decide ((i : Int) < (L : Int)) = true := by simp; omega
theorem ge_dec {L : Nat} {i : Nat} (h : L ≤ i) : decide ((i : Int) < (L : Int)) = false := by simp; omega
theorem Ex.k_go' {R D : Type} (d : D) (f : D → Option R) : (Ex.go d).k f = f d := rfl
theorem big_lt {n : Nat} (h : n < 4611686018427387904) : n < big := h
end Go.AX.Z
