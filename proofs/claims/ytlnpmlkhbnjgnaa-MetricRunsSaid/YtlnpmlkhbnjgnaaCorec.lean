/- A part of the proof: an abstract reading of the model, proved sound. -/
import Derived.Test.YtlnpmlkhbnjgnaaCoreb
import Derived.Lib.Overlaps
set_option linter.unusedVariables false
set_option linter.unusedSimpArgs false

/-! (AyM) -/

namespace Go.AX
attribute [go_sem] capE appzE copyC
theorem ap_t {objs : Nat → Ob} {nx fr : Nat} {t : Nat → AV} {x : AV} {u id : Nat} {cs : List AV} : AS.apply { objs := objs, next := nx, tmps := t } (some u) fr ⟨x, .set id cs⟩ = { objs := doAct fr (.set id cs) objs, next := nx, tmps := upd t u x } := (rfl)
attribute [go_sem] ap_t
end Go.AX
namespace Go.AX.Z
open Go.AX

theorem Snd.open {C : Ctx} {f : FuncId} {id off len sz : Nat} {xs : List AV} {s : HS} {R : AV → HS → Prop} (hl : 0 < len) (h : ∀ cap, len ≤ cap → Snd C f (.refc id off len sz cap :: xs) s R) : Snd C f (.ref id off len sz :: xs) s R := by
  refine ⟨trivial, fun ρ V w args' e1 e2 hI hG => ?_⟩
  obtain ⟨ys⟩ := args'
  match ys, e1, e2 with
  | y :: ys, e1, e2 =>
    have r := e2 0 _ y rfl rfl
    have key : ∃ cap, len ≤ cap ∧ Rel ρ V (.refc id off len sz cap) y := by
      cases r with
      | ref _ _ _ _ cap loc h1 h2 h3 => exact ⟨cap, h3, .refc id off len sz cap loc h1 h2 h3⟩
      | refE => omega
    obtain ⟨cap, hc, r'⟩ := key
    refine (h cap hc).2 ρ V w _ e1 (fun i x z hx hz => ?_) hI hG
    cases i with
    | zero => simp at hx hz; subst hx; subst hz; exact r'
    | succ i => exact e2 (i + 1) x z (by simpa using hx) hz

theorem SndIO.of_walkC {C : Ctx} (hC : COk C) {f : FuncId} {fn : Func} {c : Code} {k : Nat} {args : (Nat → Nat) → List AV} {I : List Tpl} {E : List (Option Tpl)} {mk : (Nat → Nat) → AV} {id off len sz : Nat} {xs : List AV} (hargs : RenML args) (hIr : ∀ c ∈ I, RenML c) (hEr : ∀ c, some c ∈ E → RenML c) (hmk : RenM mk) (hk : I.length = k) (hkE : k ≤ E.length)
    (hf : C.P.funcs[f]? = some fn) (hb : fn.body = some c) (hn : (fn.name == "runtime.NumGoroutine") = false) (hst : stOk fn.ntmps c = true) (hal : (args fun i => i).length ≤ fn.ntmps)
    (he : (args fun i => i) = .ref id off len sz :: xs) (hl : 0 < len)
    (h : ∀ cap, len ≤ cap → awp k C c (endW k C fn fun r' s' => ResIO k r' s' mk E) { objs := iniU (fun _ => .dead) 0 I, next := k, tmps := arg (.refc id off len sz cap :: xs) }) : SndIO C f k args I mk E := by
  intro hs L hL hLn hlive
  obtain ⟨h1, h2⟩ := liveL_get hlive
  refine Snd.of_io hargs hIr hEr hmk hk hkE ?_ hs (thl L) (fun i j hi hj => thl_inj hL i j (by omega) (by omega)) (fun i hi => thl_lt hLn i (by omega)) h2
  rw [he] at hal ⊢
  refine Snd.open hl fun cap hcap => ?_
  have hw : awp k C c (endW k C fn fun r' s' => ResIO k r' s' mk E) (init (.refc id off len sz cap :: xs) ⟨iniO I, k⟩) := by
    rw [ini_eq]; exact h cap hcap
  exact snd_of_awpW hC hf hb hn hst hal hw

theorem Wk.cap {k : Nat} {C : Ctx} {objs : Nat → Ob} {nx : Nat} {tm : Nat → AV} (j : Nat) {id off len sz cap : Nat} (h : tm j = .refc id off len sz cap) : Wk k C { objs := objs, next := nx, tmps := tm } { objs := objs, next := nx, tmps := upd tm j (.ref id off len sz) } := by
  rintro N B a w hl ⟨ρ, V, h1, h2⟩
  refine ⟨ρ, V, fun t => ?_, h2⟩
  show Rel ρ V (upd tm j (.ref id off len sz) t) _
  by_cases ht : t = j
  · subst ht
    have := h1 t
    simp only at this
    rw [h] at this
    rw [upd_eq]
    generalize a.tmps.getD t undef = y at this ⊢
    cases this with
    | refc _ _ _ _ _ loc h1 h2 h3 => exact .ref id off len sz cap loc h1 h2 h3
  · rw [upd_ne _ _ ht]; exact h1 t

theorem overlaps_apart {C : Ctx} {f : FuncId} {fn : Func} {tS tR e : Nat} (hf : C.P.funcs[f]? = some fn) (hn : (fn.name == "runtime.NumGoroutine") = false) (hb : fn.body.isNone = true) (h1 : Extern.findNext fn = none)
    (h2 : Extern.find fn = some (Extern.SlicesOverlaps.overlaps #[tS, tS] #[tR])) (ht : C.P.underlying tS = some (.slice e)) {n : Nat} (hz : szOf C.P e = some n) (hn0 : 0 < n)
    {a o m b o' n' cap : Nat} {ca cb : List AV} {hs : HS} (ha : hs.objs a = .live ca) (hb' : hs.objs b = .live cb) (hab : a ≠ b) (hm : 0 < m) (hc : 0 < cap) :
    Snd C f [.ref a o m n, .refc b o' n' n cap] hs fun r hs' => r = vb false ∧ hs' = hs := by
  refine ⟨trivial, fun ρ V w args' e1 e2 hI hG => .inr ?_⟩
  obtain ⟨ys⟩ := args'
  match ys, e1, e2 with
  | [y1, y2], e1, e2 =>
    have r1 := e2 0 _ y1 rfl rfl
    have r2 := e2 1 _ y2 rfl rfl
    cases r1 with
    | refE => omega
    | ref _ _ _ _ c1 l1 p1 p2 p3 =>
    cases r2 with
    | refc _ _ _ _ _ l2 q1 q2 q3 =>
    obtain ⟨d1, T1, u1, u2, u3, u4⟩ := hI.live a ca l1 ha p1
    obtain ⟨d2, T2, v1, v2, v3, v4⟩ := hI.live b cb l2 hb' q1
    have hne : l1.b ≠ l2.b := fun hh => hab (hI.inj a b l1 l2 ca cb ha hb' p1 q1 hh)
    have hcn : 0 < cap * n := Nat.mul_pos hc hn0
    refine ⟨.bool false, w, ?_, _, vb false, hs, ρ, V, rfl, ⟨rfl, rfl⟩, .v _, hI, Grew.refl _ _ _ _⟩
    rw [run_callFunc_extern hf hn hb h1 h2]
    have := Lib.run_overlaps_apart (P := C.P) w tS tR e ht n (szOf_run hz) ⟨l1.b, l1.base + o, none⟩ ⟨l2.b, l2.base + o', none⟩ m c1 n' cap hne T1 T2 d1.size d2.size
      (by simp [World.shape?, u1]) (by simp [World.shape?, v1]) (by omega) (by simp [World.frozen?, u1]) (by simp [World.frozen?, u1])
    simp only [this, Result.andThen_ok]
end Go.AX.Z
namespace Go.AX.Z
open Go.AX
theorem putAt_in {cells cs : List AV} {off : Nat} (h : off + cs.length ≤ cells.length) : putAt cells off cs = cells.take off ++ cs ++ cells.drop (off + cs.length) := by
  unfold putAt
  split
  · rename_i x
    simp only [List.length_cons, List.length_nil, Nat.zero_add] at h ⊢
    rw [List.set_eq_take_append_cons_drop, if_pos (by omega)]
    simp
  · rw [if_pos h]
theorem ins_grow {α : Type} (R : List α → List AV) (sz : Nat) (hL : ∀ l, (R l).length = l.length * sz) (hA : ∀ x y, R (x ++ y) = R x ++ R y)
    (a1 a2 : List α) (i : Nat) (hm : a2.length = 1) (hi : i < a1.length) (z : List AV) (hz : z.length = sz) :
    putAt (putAt (R (a1.take i) ++ rep (a1.length + 1 - i) z) (i * sz) (R a2)) ((i + 1) * sz) (R (a1.drop i)) = R (a1.take i ++ a2 ++ a1.drop i) := by
  have e1 : (R a2).length = sz := by rw [hL, hm, Nat.one_mul]
  have e2 : (R (a1.take i)).length = i * sz := by rw [hL, List.length_take]; congr 1; omega
  have e3 : (rep (a1.length + 1 - i) z).length = (a1.length + 1 - i) * sz := by rw [rep_length, hz]
  have e4 : (R (a1.drop i)).length = (a1.length - i) * sz := by rw [hL, List.length_drop]
  have e5 : (a1.length + 1 - i) * sz = sz + (a1.length - i) * sz := by
    rw [show a1.length + 1 - i = 1 + (a1.length - i) by omega, Nat.add_mul, Nat.one_mul]
  have e6 : (i + 1) * sz = i * sz + sz := by rw [Nat.add_mul, Nat.one_mul]
  rw [putAt_in (cells := R (List.take i a1) ++ rep (a1.length + 1 - i) z) (cs := R a2) (by rw [List.length_append, e1, e2, e3]; omega), List.take_append_of_le_length (by omega), List.take_of_length_le (by omega)]
  rw [putAt_in (by simp only [List.length_append, List.length_drop, e1, e2, e3, e4]; omega)]
  rw [List.take_append_of_le_length (by simp only [List.length_append, e1, e2]; omega), List.take_of_length_le (by simp only [List.length_append, e1, e2]; omega)]
  rw [show ∀ l : List AV, l.length ≤ (i + 1) * sz + (R (a1.drop i)).length → R (a1.take i) ++ R a2 ++ R (a1.drop i) ++ l.drop ((i + 1) * sz + (R (a1.drop i)).length) = R (a1.take i) ++ R a2 ++ R (a1.drop i) from fun l hl => by rw [List.drop_of_length_le hl, List.append_nil], hA, hA]
  simp only [List.length_append, List.length_drop, e1, e2, e3, e4]; omega
theorem ins_room {α : Type} (R : List α → List AV) (sz : Nat) (hL : ∀ l, (R l).length = l.length * sz) (hA : ∀ x y, R (x ++ y) = R x ++ R y) (hT : ∀ x n, (R x).take (n * sz) = R (x.take n))
    (a1 a2 : List α) (i : Nat) (hi : i < a1.length) {c1 : List AV} (h1 : c1 = List.take ((i + 1) * sz) (R a1) ++ R (a1.drop i) ++ List.drop ((i + 1) * sz + (a1.length - i) * sz) (R a1)) :
    c1.length = (a1.length + 1) * sz ∧ List.take (i * sz) c1 ++ R a2 ++ List.drop (i * sz + sz) c1 = R (a1.take i ++ a2 ++ a1.drop i) := by
  have e2 : (R (a1.take (i + 1))).length = (i + 1) * sz := by rw [hL, List.length_take]; congr 1; omega
  have e4 : (R (a1.drop i)).length = (a1.length - i) * sz := by rw [hL, List.length_drop]
  have e6 : (i + 1) * sz = i * sz + sz := by rw [Nat.add_mul, Nat.one_mul]
  have e7 : (a1.length + 1) * sz = (i + 1) * sz + (a1.length - i) * sz := by rw [← Nat.add_mul]; congr 1; omega
  have e8 : (a1.length + 1) * sz = a1.length * sz + sz := by rw [Nat.add_mul, Nat.one_mul]
  rw [show List.drop ((i + 1) * sz + (a1.length - i) * sz) (R a1) = [] from List.drop_of_length_le (by rw [hL, ← e7, e8]; omega), List.append_nil, hT] at h1
  subst h1
  refine ⟨by rw [List.length_append, e2, e4, e7], ?_⟩
  rw [List.take_append_of_le_length (by omega), hT, List.take_take, show min i (i + 1) = i by omega, hA, hA]
  congr 1
  rw [← e6, List.drop_append, e2, Nat.sub_self, List.drop_zero, List.drop_of_length_le (by omega), List.nil_append]
end Go.AX.Z

/-! (AzA) -/

namespace Go.AX.Z
open Go.AX

theorem idxN {α : Type} (l : List α) (i : Nat) : idx l (i : Int) = l[i]? := by simp [idx]
theorem drop_c {α : Type} {L l : List α} {x : α} {i : Nat} (h : L.drop i = x :: l) : L[i]? = some x ∧ L.drop (i + 1) = l ∧ i < L.length := by
  have h1 : i < L.length := by
    rcases Nat.lt_or_ge i L.length with h2 | h2
    · exact h2
    · rw [List.drop_eq_nil_of_le h2] at h; cases h
  rw [List.drop_eq_getElem_cons h1] at h
  injection h with h2 h3
  exact ⟨by simp [h1, h2], h3, h1⟩
theorem drop_n {α : Type} {L : List α} {i : Nat} (h : L.drop i = []) : L.length ≤ i := List.drop_eq_nil_iff.1 h
theorem wrapN {i : Nat} (h : i < 4611686018427387904) : IntKind.wrap .i64 ((i : Int) + 1) = ((i + 1 : Nat) : Int) := by
  rw [wrap64 (by omega) (by omega)]; omega
theorem wrapI {i : Int} (h1 : -4611686018427387904 ≤ i) (h2 : i < 4611686018427387904) : IntKind.wrap .i64 i = i := wrap64 (by omega) (by omega)
theorem chk_t {c : Bool} (h : c = true) : chk c = some () := by rw [h]; rfl
theorem chk_d {p : Prop} [Decidable p] (h : p) : chk (decide p) = some () := chk_t (by simpa using h)
theorem bindS {α β : Type} (a : α) (f : α → Option β) : (some a).bind f = f a := rfl
theorem lt_dec {L : Nat} {i : Nat} (h : i < L) : decide ((i : Int) < (L : Int)) = true := by simp; omega
theorem ge_dec {L : Nat} {i : Nat} (h : L ≤ i) : decide ((i : Int) < (L : Int)) = false := by simp; omega
theorem Ex.k_go' {R D : Type} (d : D) (f : D → Option R) : (Ex.go d).k f = f d := rfl
theorem big_lt {n : Nat} (h : n < 4611686018427387904) : n < big := h
end Go.AX.Z
