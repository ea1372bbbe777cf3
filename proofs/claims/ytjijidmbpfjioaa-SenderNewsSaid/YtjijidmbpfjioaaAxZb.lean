/- A part of the proof: AxZb. -/
import Derived.Test.YtjijidmbpfjioaaAxZa
namespace Go.AX

@[congr] theorem xw_congr {d : Bool} {C : Ctx} {ds : List (Option Nat)} {b i : Nat} {l : List Oper} {s t : AS} {K : AS → Prop} (h : s = t) : xw d C ds b i l s K = xw d C ds b i l t K := by rw [h]
@[congr] theorem xop_congr {d : Bool} {C : Ctx} {fr : Nat} {dst : Option Nat} {op : Op} {s t : AS} {k : AS → Prop} (h : s = t) : xop d C fr dst op s k = xop d C fr dst op t k := by rw [h]
@[congr] theorem xd_congr {C : Ctx} {all : List Oper} {ds : List (Option Nat)} {b i : Nat} {l : List Oper} {s t : AS} {acc acc' : List Print} {K : AS → Prop} (h : s = t) (h' : acc = acc') : xd C all ds b i l s acc K = xd C all ds b i l t acc' K := by rw [h, h']
@[congr] theorem xdop_congr {C : Ctx} {b i : Nat} {dst : Option Nat} {op : Op} {s t : AS} {acc acc' : List Print} {k : AS → List Print → Prop} (h : s = t) (h' : acc = acc') : xdop C b i dst op s acc k = xdop C b i dst op t acc' k := by rw [h, h']

/-! ## Loops, with what they leave alone -/

/-- These temporaries are as they were. -/
def Frm : List Nat → (Nat → AV) → (Nat → AV) → Prop
  | [], _, _ => True
  | j :: L, f, g => f j = g j ∧ Frm L f g

theorem Frm.refl : ∀ (m : List Nat) (f : Nat → AV), Frm m f f
  | [], _ => trivial
  | _ :: L, f => ⟨rfl, Frm.refl L f⟩

/-- What is below 'N' is as it was. -/
def FrmO (N : Nat) (f g : Nat → Ob) : Prop := ∀ j, j < N → f j = g j

theorem FrmO.refl (N : Nat) (f : Nat → Ob) : FrmO N f f := fun _ _ => rfl
theorem FrmO.upd {N : Nat} {f g : Nat → Ob} {k : Nat} {x : Ob} (h : N ≤ k) (hf : FrmO N f g) : FrmO N (upd f k x) g := by
  intro j hj
  rw [upd_ne _ _ (by omega)]
  exact hf j hj

section
variable {C : Ctx} {x y : Code} {Q : AExit → AS → Prop} {s : AS}

theorem awp_loopFO1 (m : List Nat) (J : Nat → AS → Prop) (n : Nat) (h0 : J n s)
    (h : ∀ n t, J n t → Frm m t.tmps s.tmps → t.objs = s.objs → s.next ≤ t.next → awp C x (loopQ (fun t' => ∃ k, k < n ∧ J k t' ∧ Frm m t'.tmps s.tmps ∧ t'.objs = s.objs ∧ s.next ≤ t'.next) Q) t) : awp C (.loop x) Q s :=
  awp_loopN1 (fun n t => J n t ∧ Frm m t.tmps s.tmps ∧ t.objs = s.objs ∧ s.next ≤ t.next) n ⟨h0, Frm.refl _ _, rfl, Nat.le_refl _⟩ fun n t ht => h n t ht.1 ht.2.1 ht.2.2.1 ht.2.2.2

theorem awp_loopFO (m : List Nat) (J : Nat → AS → Prop) (n : Nat) (h0 : J n s)
    (h : ∀ n t, J n t → Frm m t.tmps s.tmps → t.objs = s.objs → s.next ≤ t.next → awp C x (loopQ (fun t' => ∃ k, k < n ∧ J k t' ∧ Frm m t'.tmps s.tmps ∧ t'.objs = s.objs ∧ s.next ≤ t'.next) (seqQ (awp C y Q) Q)) t) : awp C (.seq (.loop x) y) Q s :=
  awp_seq (awp_loopFO1 m J n h0 h)

/-- What was there ahead is as it was; new objects may be there. -/
theorem awp_loopFG1 (m : List Nat) (J : Nat → AS → Prop) (n : Nat) (h0 : J n s)
    (h : ∀ n t, J n t → Frm m t.tmps s.tmps → FrmO s.next t.objs s.objs → s.next ≤ t.next → awp C x (loopQ (fun t' => ∃ k, k < n ∧ J k t' ∧ Frm m t'.tmps s.tmps ∧ FrmO s.next t'.objs s.objs ∧ s.next ≤ t'.next) Q) t) : awp C (.loop x) Q s :=
  awp_loopN1 (fun n t => J n t ∧ Frm m t.tmps s.tmps ∧ FrmO s.next t.objs s.objs ∧ s.next ≤ t.next) n ⟨h0, Frm.refl _ _, FrmO.refl _ _, Nat.le_refl _⟩ fun n t ht => h n t ht.1 ht.2.1 ht.2.2.1 ht.2.2.2

theorem awp_loopFG (m : List Nat) (J : Nat → AS → Prop) (n : Nat) (h0 : J n s)
    (h : ∀ n t, J n t → Frm m t.tmps s.tmps → FrmO s.next t.objs s.objs → s.next ≤ t.next → awp C x (loopQ (fun t' => ∃ k, k < n ∧ J k t' ∧ Frm m t'.tmps s.tmps ∧ FrmO s.next t'.objs s.objs ∧ s.next ≤ t'.next) (seqQ (awp C y Q) Q)) t) : awp C (.seq (.loop x) y) Q s :=
  awp_seq (awp_loopFG1 m J n h0 h)

/-- The memory is told by 'J'; 'hO' is nothing. -/
theorem awp_loopFM1 (m : List Nat) (J : Nat → AS → Prop) (n : Nat) (h0 : ∃ s0, Wk C s s0 ∧ J n s0 ∧ Frm m s0.tmps s.tmps ∧ s.next ≤ s0.next)
    (h : ∀ n t, J n t → Frm m t.tmps s.tmps → True → s.next ≤ t.next → awp C x (loopQ (fun t' => ∃ k, k < n ∧ J k t' ∧ Frm m t'.tmps s.tmps ∧ True ∧ s.next ≤ t'.next) Q) t) : awp C (.loop x) Q s := by
  obtain ⟨s0, hw, hj, hf, hn⟩ := h0
  refine awp_loopW1 (fun n t => J n t ∧ Frm m t.tmps s.tmps ∧ s.next ≤ t.next) n ⟨s0, hw, hj, hf, hn⟩ fun n t ht => ?_
  refine awp_mono x (h n t ht.1 ht.2.1 trivial ht.2.2) ?_
  intro e t' ht'
  cases e with
  | normal => obtain ⟨k, h1, h2, h3, _, h4⟩ := ht'; exact ⟨t', Wk.refl _ _, k, h1, h2, h3, h4⟩
  | exit j => exact ht'
  | ret => exact ht'

theorem awp_loopFM (m : List Nat) (J : Nat → AS → Prop) (n : Nat) (h0 : ∃ s0, Wk C s s0 ∧ J n s0 ∧ Frm m s0.tmps s.tmps ∧ s.next ≤ s0.next)
    (h : ∀ n t, J n t → Frm m t.tmps s.tmps → True → s.next ≤ t.next → awp C x (loopQ (fun t' => ∃ k, k < n ∧ J k t' ∧ Frm m t'.tmps s.tmps ∧ True ∧ s.next ≤ t'.next) (seqQ (awp C y Q) Q)) t) : awp C (.seq (.loop x) y) Q s :=
  awp_seq (awp_loopFM1 m J n h0 h)

end

section
variable {C : Ctx} {y : Code} {Q : AExit → AS → Prop} {objs : Nat → Ob} {nx : Nat} {tm : Nat → AV} {ops : Array Oper} {draw : Bool}

/-- Of the temporaries, some. -/
def keep (tz tm : Nat → AV) : List Nat → Nat → AV
  | [] => tz
  | j :: L => upd (keep tz tm L) j (tm j)
theorem keep_n (tz tm : Nat → AV) : keep tz tm [] = tz := rfl
theorem keep_c (tz tm : Nat → AV) (j : Nat) (L : List Nat) : keep tz tm (j :: L) = upd (keep tz tm L) j (tm j) := rfl
theorem keep_self (tm : Nat → AV) : ∀ L, keep tm tm L = tm
  | [] => rfl
  | j :: L => by rw [keep_c, keep_self tm L, upd_self]

def nth : List (List Nat) → Nat → List Nat
  | [], _ => []
  | x :: _, 0 => x
  | _ :: l, n + 1 => nth l n
theorem nth_z (x : List Nat) (l : List (List Nat)) : nth (x :: l) 0 = x := rfl
theorem nth_s (x : List Nat) (l : List (List Nat)) (n : Nat) : nth (x :: l) (n + 1) = nth l n := rfl

theorem awp_st {id : Nat} {s : AS} (h : awp C (.seq (.region id ops draw) y) Q s) : awp C (.seq (.region id ops draw) y) Q s := h
theorem awp_st1 {id : Nat} {s : AS} (h : awp C (.region id ops draw) Q s) : awp C (.region id ops draw) Q s := h

/-- Ahead of a region: of the temporaries, what is looked at later. -/
theorem awp_nr {id : Nat} (L : List (List Nat)) {g : (Nat → AV) → Nat → AV} (hg : ∀ tz, keep tz tm (nth L id) = g tz) (h : ∀ tz, awp C (.seq (.region id ops draw) y) Q { objs := objs, next := nx, tmps := g tz }) : awp C (.seq (.region id ops draw) y) Q { objs := objs, next := nx, tmps := tm } := by
  have := h tm
  rwa [← hg, keep_self] at this
theorem awp_nr1 {id : Nat} (L : List (List Nat)) {g : (Nat → AV) → Nat → AV} (hg : ∀ tz, keep tz tm (nth L id) = g tz) (h : ∀ tz, awp C (.region id ops draw) Q { objs := objs, next := nx, tmps := g tz }) : awp C (.region id ops draw) Q { objs := objs, next := nx, tmps := tm } := by
  have := h tm
  rwa [← hg, keep_self] at this

/-- The ways through a piece of code joined. -/
theorem awp_j1 {x : Code} {s : AS} (J : AS → Prop) (h1 : awp C x (seqQ J Q) s) (h2 : ∀ t, J t → awp C y Q t) : awp C (.seq x y) Q s := by
  refine awp_seq (awp_mono x h1 ?_)
  intro e t ht
  cases e with
  | normal => exact h2 t ht
  | exit j => exact ht
  | ret => exact ht
end

theorem awp_j2 {C : Ctx} {x1 x2 y : Code} {Q : AExit → AS → Prop} {s : AS} (J : AS → Prop) (h1 : awp C (.seq x1 x2) (seqQ J Q) s) (h2 : ∀ t, J t → awp C y Q t) : awp C (.seq x1 (.seq x2 y)) Q s := by
  refine awp_seqW (awp_mono x1 (seq_inv h1) ?_)
  intro e t ht
  cases e with
  | normal => obtain ⟨u, g1, g2⟩ := ht; exact ⟨u, g1, awp_j1 J g2 h2⟩
  | exit j => exact ht
  | ret => exact ht
theorem awp_j3 {C : Ctx} {x1 x2 x3 y : Code} {Q : AExit → AS → Prop} {s : AS} (J : AS → Prop) (h1 : awp C (.seq x1 (.seq x2 x3)) (seqQ J Q) s) (h2 : ∀ t, J t → awp C y Q t) : awp C (.seq x1 (.seq x2 (.seq x3 y))) Q s := by
  refine awp_seqW (awp_mono x1 (seq_inv h1) ?_)
  intro e t ht
  cases e with
  | normal => obtain ⟨u, g1, g2⟩ := ht; exact ⟨u, g1, awp_j2 J g2 h2⟩
  | exit j => exact ht
  | ret => exact ht
theorem awp_j4 {C : Ctx} {x1 x2 x3 x4 y : Code} {Q : AExit → AS → Prop} {s : AS} (J : AS → Prop) (h1 : awp C (.seq x1 (.seq x2 (.seq x3 x4))) (seqQ J Q) s) (h2 : ∀ t, J t → awp C y Q t) : awp C (.seq x1 (.seq x2 (.seq x3 (.seq x4 y)))) Q s := by
  refine awp_seqW (awp_mono x1 (seq_inv h1) ?_)
  intro e t ht
  cases e with
  | normal => obtain ⟨u, g1, g2⟩ := ht; exact ⟨u, g1, awp_j3 J g2 h2⟩
  | exit j => exact ht
  | ret => exact ht
theorem awp_j5 {C : Ctx} {x1 x2 x3 x4 x5 y : Code} {Q : AExit → AS → Prop} {s : AS} (J : AS → Prop) (h1 : awp C (.seq x1 (.seq x2 (.seq x3 (.seq x4 x5)))) (seqQ J Q) s) (h2 : ∀ t, J t → awp C y Q t) : awp C (.seq x1 (.seq x2 (.seq x3 (.seq x4 (.seq x5 y))))) Q s := by
  refine awp_seqW (awp_mono x1 (seq_inv h1) ?_)
  intro e t ht
  cases e with
  | normal => obtain ⟨u, g1, g2⟩ := ht; exact ⟨u, g1, awp_j4 J g2 h2⟩
  | exit j => exact ht
  | ret => exact ht
theorem awp_j6 {C : Ctx} {x1 x2 x3 x4 x5 x6 y : Code} {Q : AExit → AS → Prop} {s : AS} (J : AS → Prop) (h1 : awp C (.seq x1 (.seq x2 (.seq x3 (.seq x4 (.seq x5 x6))))) (seqQ J Q) s) (h2 : ∀ t, J t → awp C y Q t) : awp C (.seq x1 (.seq x2 (.seq x3 (.seq x4 (.seq x5 (.seq x6 y)))))) Q s := by
  refine awp_seqW (awp_mono x1 (seq_inv h1) ?_)
  intro e t ht
  cases e with
  | normal => obtain ⟨u, g1, g2⟩ := ht; exact ⟨u, g1, awp_j5 J g2 h2⟩
  | exit j => exact ht
  | ret => exact ht
theorem awp_j7 {C : Ctx} {x1 x2 x3 x4 x5 x6 x7 y : Code} {Q : AExit → AS → Prop} {s : AS} (J : AS → Prop) (h1 : awp C (.seq x1 (.seq x2 (.seq x3 (.seq x4 (.seq x5 (.seq x6 x7)))))) (seqQ J Q) s) (h2 : ∀ t, J t → awp C y Q t) : awp C (.seq x1 (.seq x2 (.seq x3 (.seq x4 (.seq x5 (.seq x6 (.seq x7 y))))))) Q s := by
  refine awp_seqW (awp_mono x1 (seq_inv h1) ?_)
  intro e t ht
  cases e with
  | normal => obtain ⟨u, g1, g2⟩ := ht; exact ⟨u, g1, awp_j6 J g2 h2⟩
  | exit j => exact ht
  | ret => exact ht
theorem awp_j8 {C : Ctx} {x1 x2 x3 x4 x5 x6 x7 x8 y : Code} {Q : AExit → AS → Prop} {s : AS} (J : AS → Prop) (h1 : awp C (.seq x1 (.seq x2 (.seq x3 (.seq x4 (.seq x5 (.seq x6 (.seq x7 x8))))))) (seqQ J Q) s) (h2 : ∀ t, J t → awp C y Q t) : awp C (.seq x1 (.seq x2 (.seq x3 (.seq x4 (.seq x5 (.seq x6 (.seq x7 (.seq x8 y)))))))) Q s := by
  refine awp_seqW (awp_mono x1 (seq_inv h1) ?_)
  intro e t ht
  cases e with
  | normal => obtain ⟨u, g1, g2⟩ := ht; exact ⟨u, g1, awp_j7 J g2 h2⟩
  | exit j => exact ht
  | ret => exact ht

theorem SndP.of_walk {C : Ctx} (hC : COk C) {f : FuncId} {fn : Func} {c : Code} {args : List AV} {r : AV} (hr : Clean r) (hf : C.P.funcs[f]? = some fn) (hb : fn.body = some c) (hn : (fn.name == "runtime.NumGoroutine") = false)
    (hst : stOk fn.ntmps c = true) (hargs : args.length ≤ fn.ntmps) (h : ∀ n, awp C c (endQ C fn fun r' s' => fz s'.objs deep r' = r) { objs := fun _ => .dead, next := n, tmps := arg args }) : SndP C f args r :=
  SndP.of_awp hC hr hf hb hn hst hargs h
theorem SndN.of_walk {C : Ctx} (hC : COk C) {f : FuncId} {fn : Func} {c : Code} {args : List AV} {mk : Nat → AV} {CS : List AV} (hmk : Ren mk) (hcl : ∀ c ∈ CS, Clean c) (hf : C.P.funcs[f]? = some fn) (hb : fn.body = some c) (hn : (fn.name == "runtime.NumGoroutine") = false)
    (hst : stOk fn.ntmps c = true) (hargs : args.length ≤ fn.ntmps) (h : ∀ n, awp C c (endQ C fn fun r' s' => ∃ q cells, s'.objs q = .live cells ∧ fz (upd s'.objs q .dead) deep r' = mk q ∧ cells.map (fz (upd s'.objs q .dead) deep) = CS) { objs := fun _ => .dead, next := n, tmps := arg args }) : SndN C f args mk CS :=
  SndN.of_awp hC hmk hcl hf hb hn hst hargs h
theorem Snd.of_walk {C : Ctx} (hC : COk C) {f : FuncId} {fn : Func} {c : Code} {args : List AV} {objs : Nat → Ob} {nx : Nat} {Q : AV → HS → Prop} (hf : C.P.funcs[f]? = some fn) (hb : fn.body = some c) (hn : (fn.name == "runtime.NumGoroutine") = false)
    (hst : stOk fn.ntmps c = true) (hargs : args.length ≤ fn.ntmps) (h : awp C c (endQ C fn Q) { objs := objs, next := nx, tmps := arg args }) : Snd C f args ⟨objs, nx⟩ Q := snd_of_awp hC hf hb hn hst hargs h

section
variable {C : Ctx} {K : AS → Prop} {Q : AExit → AS → Prop} {s : AS}
theorem sq_n (h : K s) : seqQ K Q .normal s := h
theorem sq_e {j : Nat} (h : Q (.exit j) s) : seqQ K Q (.exit j) s := h
theorem sq_r (h : Q .ret s) : seqQ K Q .ret s := h
theorem lq_n (h : K s) : loopQ K Q .normal s := h
theorem lq_e {j : Nat} (h : Q (.exit j) s) : loopQ K Q (.exit j) s := h
theorem lq_r (h : Q .ret s) : loopQ K Q .ret s := h
theorem bq_n {id : Nat} (h : Q .normal s) : blkQ id Q .normal s := h
theorem bq_r {id : Nat} (h : Q .ret s) : blkQ id Q .ret s := h
theorem bq_e {id : Nat} (h : Q .normal s) : blkQ id Q (.exit id) s := by rw [blkQ_e]; exact h
theorem bq_o {id j : Nat} (hj : Nat.beq j id = false) (h : Q (.exit j) s) : blkQ id Q (.exit j) s := by rw [blkQ_o hj]; exact h
end

theorem drop_get {α : Type} {l : List α} {i : Nat} (h : i < l.length) : ∃ a, l[i]? = some a ∧ l.drop i = a :: l.drop (i + 1) := ⟨l[i], by simp [h], List.drop_eq_getElem_cons h⟩

end Go.AX
