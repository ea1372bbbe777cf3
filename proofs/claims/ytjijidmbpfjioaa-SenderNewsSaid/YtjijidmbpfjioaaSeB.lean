/- A part of the proof: SeB. -/
import Derived.Test.YtjijidmbpfjioaaSeA
namespace Go.AX.SE
open Go.Proofs
attribute [local irreducible] awp xw xop xcall gsp ob xd xdop xcallD seqQ loopQ blkQ endQ
set_option linter.unusedSimpArgs false
set_option maxHeartbeats 4000000

/-- Bytes. -/
def by_ (l : List Int) : AV := .imm (l.map vu) l.length
abbrev El := Uh × List Int
def ue (e : El) : List AV := un e.1 (by_ e.2)
attribute [go_sem] ue
abbrev us (l : List El) : AV := .imm (l.flatMap ue) l.length

theorem by_fz (l : List Int) (o : Nat → Ob) (n : Nat) : fz o (n + 2) (by_ l) = by_ l := by
  simp [by_, fz, nilS]
theorem by_clean (l : List Int) : Clean (by_ l) := by
  refine Clean.imm fun c hc => ?_
  simp only [List.mem_map] at hc
  obtain ⟨a, _, rfl⟩ := hc
  exact Clean.v _
theorem ue_fz (e : El) (o : Nat → Ob) (n : Nat) : (ue e).map (fz o (n + 2)) = ue e := by
  unfold ue; rw [un_fz, by_fz]
theorem ues_fz (l : List El) (o : Nat → Ob) (n : Nat) : (l.flatMap ue).map (fz o (n + 2)) = l.flatMap ue := by
  induction l with
  | nil => rfl
  | cons e l ih => rw [List.flatMap_cons, List.map_append, ue_fz, ih]
attribute [go_sem] ues_fz by_fz
theorem us_fz (l : List El) (o : Nat → Ob) (n : Nat) : fz o (n + 3) (us l) = us l := by
  simp only [us, fz, ues_fz]

def startOf (s : Sd) : List El → Int
  | [] => s.next
  | e :: _ => e.1.h.seq

theorem us_0 : us [] = .imm [] 0 := rfl
theorem us_c (e : El) (l : List El) : us (e :: l) = .imm ((e :: l).flatMap ue) (l.length + 1) := rfl

theorem us_37 (e : Uh) (b : AV) (l : List El) : (un e b ++ l.flatMap ue)[37]? = some (vi e.h.seq) := by
  rw [List.getElem?_append_left (show 37 < 44 by decide)]; rfl

theorem p_start (s : Sd) (l : List El) : SndP K 34 [.agg (sd s (us l))] (vi (startOf s l)) := by
  refine SndP.of_walk hC ?_ (show K.P.funcs[34]? = some Try.f34 from Try.func34) rfl rfl (by decide +kernel) (Nat.le_of_ble_eq_true rfl) fun n => ?_
  · exact Clean.v _
  · cases l with
    | nil =>
      rw [us_0]
      repeat' (first
          | (refine hKK _ ?_; clear hKK KK)
          | (refine awp_assoc ?_)
          | (refine awp_nr [[0], [1], [1], [1]] (fun tz => by simp only [nth_z, nth_s, keep_n, keep_c, upd_get, init_arg, arg_z, arg_s, Nat.reduceEqDiff, reduceIte, if_true, if_false]; rfl) fun tz => ?_; refine awp_reg fun KK hKK => ?_; refine xw_id ?_; simp (config := { maxSteps := 4000000 }) only [go_sem, Nat.reduceEqDiff, Nat.reduceAdd, Nat.reduceMul, Nat.reduceSub, Nat.reduceLT, Nat.reduceLeDiff, reduceIte, Int.reduceToNat, Int.reduceBEq, Int.reduceBNe, Int.reduceLT, Int.reduceLE, Int.reduceGT, Int.reduceGE, Int.reduceEq, Int.reduceNe, Int.reduceAdd, Int.reduceSub, Int.reduceMul, Int.reduceNeg, Nat.reduceBEq])
          | (refine awp_nr1 [[0], [1], [1], [1]] (fun tz => by simp only [nth_z, nth_s, keep_n, keep_c, upd_get, init_arg, arg_z, arg_s, Nat.reduceEqDiff, reduceIte, if_true, if_false]; rfl) fun tz => ?_; refine awp_reg1 fun KK hKK => ?_; refine xw_id ?_; simp (config := { maxSteps := 4000000 }) only [go_sem, Nat.reduceEqDiff, Nat.reduceAdd, Nat.reduceMul, Nat.reduceSub, Nat.reduceLT, Nat.reduceLeDiff, reduceIte, Int.reduceToNat, Int.reduceBEq, Int.reduceBNe, Int.reduceLT, Int.reduceLE, Int.reduceGT, Int.reduceGE, Int.reduceEq, Int.reduceNe, Int.reduceAdd, Int.reduceSub, Int.reduceMul, Int.reduceNeg, Nat.reduceBEq])
          | (refine gsp_split (fun h => ?_) (fun h => ?_) <;> simp (config := { maxSteps := 4000000 }) only [go_sem, Nat.reduceEqDiff, Nat.reduceAdd, Nat.reduceMul, Nat.reduceSub, Nat.reduceLT, Nat.reduceLeDiff, reduceIte, Int.reduceToNat, Int.reduceBEq, Int.reduceBNe, Int.reduceLT, Int.reduceLE, Int.reduceGT, Int.reduceGE, Int.reduceEq, Int.reduceNe, Int.reduceAdd, Int.reduceSub, Int.reduceMul, Int.reduceNeg, Nat.reduceBEq, h])
          | (refine xw_id ?_; simp (config := { maxSteps := 4000000 }) only [go_sem, Nat.reduceEqDiff, Nat.reduceAdd, Nat.reduceMul, Nat.reduceSub, Nat.reduceLT, Nat.reduceLeDiff, reduceIte, Int.reduceToNat, Int.reduceBEq, Int.reduceBNe, Int.reduceLT, Int.reduceLE, Int.reduceGT, Int.reduceGE, Int.reduceEq, Int.reduceNe, Int.reduceAdd, Int.reduceSub, Int.reduceMul, Int.reduceNeg, Nat.reduceBEq])
          | (refine awp_cond (by simp only [ev, cst, upd_get, Nat.reduceEqDiff, reduceIte, if_true, if_false]; rfl) (fun h => ?_) (fun h => ?_) <;> first | (cases h; done) | skip)
          | (refine awp_cond1 (by simp only [ev, cst, upd_get, Nat.reduceEqDiff, reduceIte, if_true, if_false]; rfl) (fun h => ?_) (fun h => ?_) <;> first | (cases h; done) | skip)
          | (refine awp_skip ?_)
          | (refine awp_skip1 ?_)
          | (refine awp_ret ?_)
          | (refine awp_ret1 ?_)
          | (refine awp_exit ?_)
          | (refine awp_exit1 ?_)
          | (refine awp_block ?_)
          | (refine awp_block1 ?_)
          | (refine sq_n ?_)
          | (refine sq_e ?_)
          | (refine sq_r ?_)
          | (refine lq_n ?_)
          | (refine lq_e ?_)
          | (refine lq_r ?_)
          | (refine bq_n ?_)
          | (refine bq_r ?_)
          | (refine bq_e ?_)
          | (refine bq_o rfl ?_)
          | (refine end_ret rs34 (by simp only [go_sem, resV, resAll, resOf, packR, Nat.reduceEqDiff, reduceIte]; rfl) ?_)
          | (refine end_normal rs34 (by simp only [go_sem, resV, resAll, resOf, packR, Nat.reduceEqDiff, reduceIte]; rfl) ?_))
      all_goals rfl
    | cons e l =>
      have f2 : (0 < ((l.length + 1 : Nat) : Int)) = True := by simp
      rw [us_c]
      repeat' (first
          | (refine hKK _ ?_; clear hKK KK)
          | (refine awp_assoc ?_)
          | (refine awp_nr [[0], [1], [1], [1]] (fun tz => by simp only [nth_z, nth_s, keep_n, keep_c, upd_get, init_arg, arg_z, arg_s, Nat.reduceEqDiff, reduceIte, if_true, if_false, us_37, f2]; rfl) fun tz => ?_; refine awp_reg fun KK hKK => ?_; refine xw_id ?_; simp (config := { maxSteps := 4000000 }) only [go_sem, Nat.reduceEqDiff, Nat.reduceAdd, Nat.reduceMul, Nat.reduceSub, Nat.reduceLT, Nat.reduceLeDiff, reduceIte, Int.reduceToNat, Int.reduceBEq, Int.reduceBNe, Int.reduceLT, Int.reduceLE, Int.reduceGT, Int.reduceGE, Int.reduceEq, Int.reduceNe, Int.reduceAdd, Int.reduceSub, Int.reduceMul, Int.reduceNeg, Nat.reduceBEq, us_37, f2])
          | (refine awp_nr1 [[0], [1], [1], [1]] (fun tz => by simp only [nth_z, nth_s, keep_n, keep_c, upd_get, init_arg, arg_z, arg_s, Nat.reduceEqDiff, reduceIte, if_true, if_false, us_37, f2]; rfl) fun tz => ?_; refine awp_reg1 fun KK hKK => ?_; refine xw_id ?_; simp (config := { maxSteps := 4000000 }) only [go_sem, Nat.reduceEqDiff, Nat.reduceAdd, Nat.reduceMul, Nat.reduceSub, Nat.reduceLT, Nat.reduceLeDiff, reduceIte, Int.reduceToNat, Int.reduceBEq, Int.reduceBNe, Int.reduceLT, Int.reduceLE, Int.reduceGT, Int.reduceGE, Int.reduceEq, Int.reduceNe, Int.reduceAdd, Int.reduceSub, Int.reduceMul, Int.reduceNeg, Nat.reduceBEq, us_37, f2])
          | (refine gsp_split (fun h => ?_) (fun h => ?_) <;> simp (config := { maxSteps := 4000000 }) only [go_sem, Nat.reduceEqDiff, Nat.reduceAdd, Nat.reduceMul, Nat.reduceSub, Nat.reduceLT, Nat.reduceLeDiff, reduceIte, Int.reduceToNat, Int.reduceBEq, Int.reduceBNe, Int.reduceLT, Int.reduceLE, Int.reduceGT, Int.reduceGE, Int.reduceEq, Int.reduceNe, Int.reduceAdd, Int.reduceSub, Int.reduceMul, Int.reduceNeg, Nat.reduceBEq, us_37, f2, h])
          | (refine xw_id ?_; simp (config := { maxSteps := 4000000 }) only [go_sem, Nat.reduceEqDiff, Nat.reduceAdd, Nat.reduceMul, Nat.reduceSub, Nat.reduceLT, Nat.reduceLeDiff, reduceIte, Int.reduceToNat, Int.reduceBEq, Int.reduceBNe, Int.reduceLT, Int.reduceLE, Int.reduceGT, Int.reduceGE, Int.reduceEq, Int.reduceNe, Int.reduceAdd, Int.reduceSub, Int.reduceMul, Int.reduceNeg, Nat.reduceBEq, us_37, f2])
          | (refine awp_cond (by simp only [ev, cst, upd_get, Nat.reduceEqDiff, reduceIte, if_true, if_false, us_37, f2]; rfl) (fun h => ?_) (fun h => ?_) <;> first | (cases h; done) | skip)
          | (refine awp_cond1 (by simp only [ev, cst, upd_get, Nat.reduceEqDiff, reduceIte, if_true, if_false, us_37, f2]; rfl) (fun h => ?_) (fun h => ?_) <;> first | (cases h; done) | skip)
          | (refine awp_skip ?_)
          | (refine awp_skip1 ?_)
          | (refine awp_ret ?_)
          | (refine awp_ret1 ?_)
          | (refine awp_exit ?_)
          | (refine awp_exit1 ?_)
          | (refine awp_block ?_)
          | (refine awp_block1 ?_)
          | (refine sq_n ?_)
          | (refine sq_e ?_)
          | (refine sq_r ?_)
          | (refine lq_n ?_)
          | (refine lq_e ?_)
          | (refine lq_r ?_)
          | (refine bq_n ?_)
          | (refine bq_r ?_)
          | (refine bq_e ?_)
          | (refine bq_o rfl ?_)
          | (refine end_ret rs34 (by simp only [go_sem, resV, resAll, resOf, packR, Nat.reduceEqDiff, reduceIte, us_37, f2]; rfl) ?_)
          | (refine end_normal rs34 (by simp only [go_sem, resV, resAll, resOf, packR, Nat.reduceEqDiff, reduceIte, us_37, f2]; rfl) ?_))
      all_goals rfl

theorem r_first (s : Sd) (l : List El) : SndP K 12 [.agg (sd s (us l))] (vi (startOf s l)) := by
  refine SndP.of_walk hC ?_ (show K.P.funcs[12]? = some Try.f12 from Try.func12) rfl rfl (by decide +kernel) (Nat.le_of_ble_eq_true rfl) fun n => ?_
  · exact Clean.v _
  · cases l with
    | nil =>
      rw [us_0]
      repeat' (first
          | (refine hKK _ ?_; clear hKK KK)
          | (refine awp_assoc ?_)
          | (refine awp_nr [[0], [1], [1], [1]] (fun tz => by simp only [nth_z, nth_s, keep_n, keep_c, upd_get, init_arg, arg_z, arg_s, Nat.reduceEqDiff, reduceIte, if_true, if_false]; rfl) fun tz => ?_; refine awp_reg fun KK hKK => ?_; refine xw_id ?_; simp (config := { maxSteps := 4000000 }) only [go_sem, Nat.reduceEqDiff, Nat.reduceAdd, Nat.reduceMul, Nat.reduceSub, Nat.reduceLT, Nat.reduceLeDiff, reduceIte, Int.reduceToNat, Int.reduceBEq, Int.reduceBNe, Int.reduceLT, Int.reduceLE, Int.reduceGT, Int.reduceGE, Int.reduceEq, Int.reduceNe, Int.reduceAdd, Int.reduceSub, Int.reduceMul, Int.reduceNeg, Nat.reduceBEq])
          | (refine awp_nr1 [[0], [1], [1], [1]] (fun tz => by simp only [nth_z, nth_s, keep_n, keep_c, upd_get, init_arg, arg_z, arg_s, Nat.reduceEqDiff, reduceIte, if_true, if_false]; rfl) fun tz => ?_; refine awp_reg1 fun KK hKK => ?_; refine xw_id ?_; simp (config := { maxSteps := 4000000 }) only [go_sem, Nat.reduceEqDiff, Nat.reduceAdd, Nat.reduceMul, Nat.reduceSub, Nat.reduceLT, Nat.reduceLeDiff, reduceIte, Int.reduceToNat, Int.reduceBEq, Int.reduceBNe, Int.reduceLT, Int.reduceLE, Int.reduceGT, Int.reduceGE, Int.reduceEq, Int.reduceNe, Int.reduceAdd, Int.reduceSub, Int.reduceMul, Int.reduceNeg, Nat.reduceBEq])
          | (refine gsp_split (fun h => ?_) (fun h => ?_) <;> simp (config := { maxSteps := 4000000 }) only [go_sem, Nat.reduceEqDiff, Nat.reduceAdd, Nat.reduceMul, Nat.reduceSub, Nat.reduceLT, Nat.reduceLeDiff, reduceIte, Int.reduceToNat, Int.reduceBEq, Int.reduceBNe, Int.reduceLT, Int.reduceLE, Int.reduceGT, Int.reduceGE, Int.reduceEq, Int.reduceNe, Int.reduceAdd, Int.reduceSub, Int.reduceMul, Int.reduceNeg, Nat.reduceBEq, h])
          | (refine xw_id ?_; simp (config := { maxSteps := 4000000 }) only [go_sem, Nat.reduceEqDiff, Nat.reduceAdd, Nat.reduceMul, Nat.reduceSub, Nat.reduceLT, Nat.reduceLeDiff, reduceIte, Int.reduceToNat, Int.reduceBEq, Int.reduceBNe, Int.reduceLT, Int.reduceLE, Int.reduceGT, Int.reduceGE, Int.reduceEq, Int.reduceNe, Int.reduceAdd, Int.reduceSub, Int.reduceMul, Int.reduceNeg, Nat.reduceBEq])
          | (refine awp_cond (by simp only [ev, cst, upd_get, Nat.reduceEqDiff, reduceIte, if_true, if_false]; rfl) (fun h => ?_) (fun h => ?_) <;> first | (cases h; done) | skip)
          | (refine awp_cond1 (by simp only [ev, cst, upd_get, Nat.reduceEqDiff, reduceIte, if_true, if_false]; rfl) (fun h => ?_) (fun h => ?_) <;> first | (cases h; done) | skip)
          | (refine awp_skip ?_)
          | (refine awp_skip1 ?_)
          | (refine awp_ret ?_)
          | (refine awp_ret1 ?_)
          | (refine awp_exit ?_)
          | (refine awp_exit1 ?_)
          | (refine awp_block ?_)
          | (refine awp_block1 ?_)
          | (refine sq_n ?_)
          | (refine sq_e ?_)
          | (refine sq_r ?_)
          | (refine lq_n ?_)
          | (refine lq_e ?_)
          | (refine lq_r ?_)
          | (refine bq_n ?_)
          | (refine bq_r ?_)
          | (refine bq_e ?_)
          | (refine bq_o rfl ?_)
          | (refine end_ret rs12 (by simp only [go_sem, resV, resAll, resOf, packR, Nat.reduceEqDiff, reduceIte]; rfl) ?_)
          | (refine end_normal rs12 (by simp only [go_sem, resV, resAll, resOf, packR, Nat.reduceEqDiff, reduceIte]; rfl) ?_))
      all_goals rfl
    | cons e l =>
      have f2 : (((l.length + 1 : Nat) : Int) == 0) = false := by simp; omega
      have f3 : (0 < ((l.length + 1 : Nat) : Int)) = True := by simp
      rw [us_c]
      repeat' (first
          | (refine hKK _ ?_; clear hKK KK)
          | (refine awp_assoc ?_)
          | (refine awp_nr [[0], [1], [1], [1]] (fun tz => by simp only [nth_z, nth_s, keep_n, keep_c, upd_get, init_arg, arg_z, arg_s, Nat.reduceEqDiff, reduceIte, if_true, if_false, us_37, f2, f3]; rfl) fun tz => ?_; refine awp_reg fun KK hKK => ?_; refine xw_id ?_; simp (config := { maxSteps := 4000000 }) only [go_sem, Nat.reduceEqDiff, Nat.reduceAdd, Nat.reduceMul, Nat.reduceSub, Nat.reduceLT, Nat.reduceLeDiff, reduceIte, Int.reduceToNat, Int.reduceBEq, Int.reduceBNe, Int.reduceLT, Int.reduceLE, Int.reduceGT, Int.reduceGE, Int.reduceEq, Int.reduceNe, Int.reduceAdd, Int.reduceSub, Int.reduceMul, Int.reduceNeg, Nat.reduceBEq, us_37, f2, f3])
          | (refine awp_nr1 [[0], [1], [1], [1]] (fun tz => by simp only [nth_z, nth_s, keep_n, keep_c, upd_get, init_arg, arg_z, arg_s, Nat.reduceEqDiff, reduceIte, if_true, if_false, us_37, f2, f3]; rfl) fun tz => ?_; refine awp_reg1 fun KK hKK => ?_; refine xw_id ?_; simp (config := { maxSteps := 4000000 }) only [go_sem, Nat.reduceEqDiff, Nat.reduceAdd, Nat.reduceMul, Nat.reduceSub, Nat.reduceLT, Nat.reduceLeDiff, reduceIte, Int.reduceToNat, Int.reduceBEq, Int.reduceBNe, Int.reduceLT, Int.reduceLE, Int.reduceGT, Int.reduceGE, Int.reduceEq, Int.reduceNe, Int.reduceAdd, Int.reduceSub, Int.reduceMul, Int.reduceNeg, Nat.reduceBEq, us_37, f2, f3])
          | (refine gsp_split (fun h => ?_) (fun h => ?_) <;> simp (config := { maxSteps := 4000000 }) only [go_sem, Nat.reduceEqDiff, Nat.reduceAdd, Nat.reduceMul, Nat.reduceSub, Nat.reduceLT, Nat.reduceLeDiff, reduceIte, Int.reduceToNat, Int.reduceBEq, Int.reduceBNe, Int.reduceLT, Int.reduceLE, Int.reduceGT, Int.reduceGE, Int.reduceEq, Int.reduceNe, Int.reduceAdd, Int.reduceSub, Int.reduceMul, Int.reduceNeg, Nat.reduceBEq, us_37, f2, f3, h])
          | (refine xw_id ?_; simp (config := { maxSteps := 4000000 }) only [go_sem, Nat.reduceEqDiff, Nat.reduceAdd, Nat.reduceMul, Nat.reduceSub, Nat.reduceLT, Nat.reduceLeDiff, reduceIte, Int.reduceToNat, Int.reduceBEq, Int.reduceBNe, Int.reduceLT, Int.reduceLE, Int.reduceGT, Int.reduceGE, Int.reduceEq, Int.reduceNe, Int.reduceAdd, Int.reduceSub, Int.reduceMul, Int.reduceNeg, Nat.reduceBEq, us_37, f2, f3])
          | (refine awp_cond (by simp only [ev, cst, upd_get, Nat.reduceEqDiff, reduceIte, if_true, if_false, us_37, f2, f3]; rfl) (fun h => ?_) (fun h => ?_) <;> first | (cases h; done) | skip)
          | (refine awp_cond1 (by simp only [ev, cst, upd_get, Nat.reduceEqDiff, reduceIte, if_true, if_false, us_37, f2, f3]; rfl) (fun h => ?_) (fun h => ?_) <;> first | (cases h; done) | skip)
          | (refine awp_skip ?_)
          | (refine awp_skip1 ?_)
          | (refine awp_ret ?_)
          | (refine awp_ret1 ?_)
          | (refine awp_exit ?_)
          | (refine awp_exit1 ?_)
          | (refine awp_block ?_)
          | (refine awp_block1 ?_)
          | (refine sq_n ?_)
          | (refine sq_e ?_)
          | (refine sq_r ?_)
          | (refine lq_n ?_)
          | (refine lq_e ?_)
          | (refine lq_r ?_)
          | (refine bq_n ?_)
          | (refine bq_r ?_)
          | (refine bq_e ?_)
          | (refine bq_o rfl ?_)
          | (refine end_ret rs12 (by simp only [go_sem, resV, resAll, resOf, packR, Nat.reduceEqDiff, reduceIte, us_37, f2, f3]; rfl) ?_)
          | (refine end_normal rs12 (by simp only [go_sem, resV, resAll, resOf, packR, Nat.reduceEqDiff, reduceIte, us_37, f2, f3]; rfl) ?_))
      all_goals rfl

/-- A frame not acknowledged, behind one at distance 'last' that was put at 'at_'. -/
def okU (lim first en last at_ : Int) (e : Uh) : Bool :=
  within e.h.seq 0 4095 && decide (last < dist first e.h.seq) && decide (dist first e.h.seq < en) && within e.at_ at_ 1099511627776 && within e.tries 0 lim && !(e.fly && e.tries == 0)

def okFrom (lim first en : Int) : Int → Int → List El → Bool
  | _, _, [] => true
  | last, at_, e :: l => okU lim first en last at_ e.1 && okFrom lim first en (dist first e.1.h.seq) e.1.at_ l

def plain (s : Sd) : Bool := within s.tid 0 7 && decide (s.phase ≤ 2) && within s.token 0 255 && within s.next 0 4095 && within s.limit 1 16 && within s.life 1 1073741824
def sizeOk (s : Sd) : Bool := if s.phase = 0 then s.size == 0 else within s.size 1 64

def check (s : Sd) (l : List El) : Bool := plain s && sizeOk s && (s.phase == 2 || (l.isEmpty && !s.bar)) && decide (dist (startOf s l) s.next ≤ s.size) && okFrom s.limit (startOf s l) (dist (startOf s l) s.next) (-1) 0 l

theorem p_check (s : Sd) (l : List El) (hl : l.length ≤ 1048576) : SndP K 15 [.agg (sd s (us l))] (vi (bif check s l then 0 else 8)) := by
  refine SndP.of_walk hC ?_ (show K.P.funcs[15]? = some Try.f15 from Try.func15) rfl rfl (by decide +kernel) (Nat.le_of_ble_eq_true rfl) fun n => ?_
  · exact Clean.v _
  · repeat' (first
      | (refine hKK _ ?_; clear hKK KK)
      | (refine awp_assoc ?_)
      | ((fail_if_success (refine awp_st (id := 1) ?_)); refine awp_nr [[0], [1], [1,3], [1,3,4], [1,3], [1,3,4], [], [1], [1,5], [1,5,6,7,8], [], [1,5,6,7,8], [1,5,6,7,8,82,83,84], [1,5,6,7,8,82,83,84], [1,5,6,7,8,10,82,83,84], [1,5,6,7,8,10,11,82,83,84], [1,5,6,7,8,10,11,12,82,83,84], [], [1,5,6,10,12,82,83,84], [1,5,6,7,8,82,83,84], []] (fun tz => by simp only [nth_z, nth_s, keep_n, keep_c, upd_get, init_arg, arg_z, arg_s, Nat.reduceEqDiff, reduceIte, if_true, if_false]; rfl) fun tz => ?_; refine awp_reg fun KK hKK => ?_; refine xw_id ?_; simp (config := { maxSteps := 4000000 }) only [go_sem, Nat.reduceEqDiff, Nat.reduceAdd, Nat.reduceMul, Nat.reduceSub, Nat.reduceLT, Nat.reduceLeDiff, reduceIte, Int.reduceToNat, Int.reduceBEq, Int.reduceBNe, Int.reduceLT, Int.reduceLE, Int.reduceGT, Int.reduceGE, Int.reduceEq, Int.reduceNe, Int.reduceAdd, Int.reduceSub, Int.reduceMul, Int.reduceNeg, Nat.reduceBEq])
      | ((fail_if_success (refine awp_st1 (id := 1) ?_)); refine awp_nr1 [[0], [1], [1,3], [1,3,4], [1,3], [1,3,4], [], [1], [1,5], [1,5,6,7,8], [], [1,5,6,7,8], [1,5,6,7,8,82,83,84], [1,5,6,7,8,82,83,84], [1,5,6,7,8,10,82,83,84], [1,5,6,7,8,10,11,82,83,84], [1,5,6,7,8,10,11,12,82,83,84], [], [1,5,6,10,12,82,83,84], [1,5,6,7,8,82,83,84], []] (fun tz => by simp only [nth_z, nth_s, keep_n, keep_c, upd_get, init_arg, arg_z, arg_s, Nat.reduceEqDiff, reduceIte, if_true, if_false]; rfl) fun tz => ?_; refine awp_reg1 fun KK hKK => ?_; refine xw_id ?_; simp (config := { maxSteps := 4000000 }) only [go_sem, Nat.reduceEqDiff, Nat.reduceAdd, Nat.reduceMul, Nat.reduceSub, Nat.reduceLT, Nat.reduceLeDiff, reduceIte, Int.reduceToNat, Int.reduceBEq, Int.reduceBNe, Int.reduceLT, Int.reduceLE, Int.reduceGT, Int.reduceGE, Int.reduceEq, Int.reduceNe, Int.reduceAdd, Int.reduceSub, Int.reduceMul, Int.reduceNeg, Nat.reduceBEq])
      | (refine gsp_split (fun h => ?_) (fun h => ?_) <;> simp (config := { maxSteps := 4000000 }) only [go_sem, Nat.reduceEqDiff, Nat.reduceAdd, Nat.reduceMul, Nat.reduceSub, Nat.reduceLT, Nat.reduceLeDiff, reduceIte, Int.reduceToNat, Int.reduceBEq, Int.reduceBNe, Int.reduceLT, Int.reduceLE, Int.reduceGT, Int.reduceGE, Int.reduceEq, Int.reduceNe, Int.reduceAdd, Int.reduceSub, Int.reduceMul, Int.reduceNeg, Nat.reduceBEq, h])
      | (refine xcall_p (p_dist _ _) ?_; try dsimp only)
      | (refine xcall_n (p_dist _ _) ?_; try dsimp only)
      | (refine xcall_p (p_start _ _) ?_; try dsimp only)
      | (refine xcall_n (p_start _ _) ?_; try dsimp only)
      | (refine xcall_p (p_within _ _ _) ?_; try dsimp only)
      | (refine xcall_n (p_within _ _ _) ?_; try dsimp only)
      | (refine xw_id ?_; simp (config := { maxSteps := 4000000 }) only [go_sem, Nat.reduceEqDiff, Nat.reduceAdd, Nat.reduceMul, Nat.reduceSub, Nat.reduceLT, Nat.reduceLeDiff, reduceIte, Int.reduceToNat, Int.reduceBEq, Int.reduceBNe, Int.reduceLT, Int.reduceLE, Int.reduceGT, Int.reduceGE, Int.reduceEq, Int.reduceNe, Int.reduceAdd, Int.reduceSub, Int.reduceMul, Int.reduceNeg, Nat.reduceBEq])
      | (refine awp_cond (by simp only [ev, cst, upd_get, Nat.reduceEqDiff, reduceIte, if_true, if_false]; rfl) (fun h => ?_) (fun h => ?_) <;> first | (cases h; done) | skip)
      | (refine awp_cond1 (by simp only [ev, cst, upd_get, Nat.reduceEqDiff, reduceIte, if_true, if_false]; rfl) (fun h => ?_) (fun h => ?_) <;> first | (cases h; done) | skip)
      | (refine awp_skip ?_)
      | (refine awp_skip1 ?_)
      | (refine awp_ret ?_)
      | (refine awp_ret1 ?_)
      | (refine awp_exit ?_)
      | (refine awp_exit1 ?_)
      | (refine awp_block ?_)
      | (refine awp_block1 ?_)
      | (refine sq_n ?_)
      | (refine sq_e ?_)
      | (refine sq_r ?_)
      | (refine lq_n ?_)
      | (refine lq_e ?_)
      | (refine lq_r ?_)
      | (refine bq_n ?_)
      | (refine bq_r ?_)
      | (refine bq_e ?_)
      | (refine bq_o rfl ?_)
      | (refine end_ret rs15 (by simp only [go_sem, resV, resAll, resOf, packR, Nat.reduceEqDiff, reduceIte]; rfl) ?_)
      | (refine end_normal rs15 (by simp only [go_sem, resV, resAll, resOf, packR, Nat.reduceEqDiff, reduceIte]; rfl) ?_))
    refine awp_j1 (fun t => t.objs = upd (fun _ => .dead) n (.live (sd s (us l))) ∧ n ≤ t.next ∧ (t.tmps 1 = .ptr n 0) ∧ (t.tmps 3 = vb (plain s))) ?_ ?_
    · repeat' (first
          | (refine hKK _ ?_; clear hKK KK)
          | (refine awp_assoc ?_)
          | (refine awp_nr [[0], [1], [1,3], [1,3,4], [1,3], [1,3,4], [], [1], [1,5], [1,5,6,7,8], [], [1,5,6,7,8], [1,5,6,7,8,82,83,84], [1,5,6,7,8,82,83,84], [1,5,6,7,8,10,82,83,84], [1,5,6,7,8,10,11,82,83,84], [1,5,6,7,8,10,11,12,82,83,84], [], [1,5,6,10,12,82,83,84], [1,5,6,7,8,82,83,84], []] (fun tz => by simp only [nth_z, nth_s, keep_n, keep_c, upd_get, init_arg, arg_z, arg_s, Nat.reduceEqDiff, reduceIte, if_true, if_false]; rfl) fun tz => ?_; refine awp_reg fun KK hKK => ?_; refine xw_id ?_; simp (config := { maxSteps := 4000000 }) only [go_sem, Nat.reduceEqDiff, Nat.reduceAdd, Nat.reduceMul, Nat.reduceSub, Nat.reduceLT, Nat.reduceLeDiff, reduceIte, Int.reduceToNat, Int.reduceBEq, Int.reduceBNe, Int.reduceLT, Int.reduceLE, Int.reduceGT, Int.reduceGE, Int.reduceEq, Int.reduceNe, Int.reduceAdd, Int.reduceSub, Int.reduceMul, Int.reduceNeg, Nat.reduceBEq])
          | (refine awp_nr1 [[0], [1], [1,3], [1,3,4], [1,3], [1,3,4], [], [1], [1,5], [1,5,6,7,8], [], [1,5,6,7,8], [1,5,6,7,8,82,83,84], [1,5,6,7,8,82,83,84], [1,5,6,7,8,10,82,83,84], [1,5,6,7,8,10,11,82,83,84], [1,5,6,7,8,10,11,12,82,83,84], [], [1,5,6,10,12,82,83,84], [1,5,6,7,8,82,83,84], []] (fun tz => by simp only [nth_z, nth_s, keep_n, keep_c, upd_get, init_arg, arg_z, arg_s, Nat.reduceEqDiff, reduceIte, if_true, if_false]; rfl) fun tz => ?_; refine awp_reg1 fun KK hKK => ?_; refine xw_id ?_; simp (config := { maxSteps := 4000000 }) only [go_sem, Nat.reduceEqDiff, Nat.reduceAdd, Nat.reduceMul, Nat.reduceSub, Nat.reduceLT, Nat.reduceLeDiff, reduceIte, Int.reduceToNat, Int.reduceBEq, Int.reduceBNe, Int.reduceLT, Int.reduceLE, Int.reduceGT, Int.reduceGE, Int.reduceEq, Int.reduceNe, Int.reduceAdd, Int.reduceSub, Int.reduceMul, Int.reduceNeg, Nat.reduceBEq])
          | (refine gsp_split (fun h => ?_) (fun h => ?_) <;> simp (config := { maxSteps := 4000000 }) only [go_sem, Nat.reduceEqDiff, Nat.reduceAdd, Nat.reduceMul, Nat.reduceSub, Nat.reduceLT, Nat.reduceLeDiff, reduceIte, Int.reduceToNat, Int.reduceBEq, Int.reduceBNe, Int.reduceLT, Int.reduceLE, Int.reduceGT, Int.reduceGE, Int.reduceEq, Int.reduceNe, Int.reduceAdd, Int.reduceSub, Int.reduceMul, Int.reduceNeg, Nat.reduceBEq, h])
          | (refine xcall_p (p_dist _ _) ?_; try dsimp only)
          | (refine xcall_n (p_dist _ _) ?_; try dsimp only)
          | (refine xcall_p (p_start _ _) ?_; try dsimp only)
          | (refine xcall_n (p_start _ _) ?_; try dsimp only)
          | (refine xcall_p (p_within _ _ _) ?_; try dsimp only)
          | (refine xcall_n (p_within _ _ _) ?_; try dsimp only)
          | (refine xw_id ?_; simp (config := { maxSteps := 4000000 }) only [go_sem, Nat.reduceEqDiff, Nat.reduceAdd, Nat.reduceMul, Nat.reduceSub, Nat.reduceLT, Nat.reduceLeDiff, reduceIte, Int.reduceToNat, Int.reduceBEq, Int.reduceBNe, Int.reduceLT, Int.reduceLE, Int.reduceGT, Int.reduceGE, Int.reduceEq, Int.reduceNe, Int.reduceAdd, Int.reduceSub, Int.reduceMul, Int.reduceNeg, Nat.reduceBEq])
          | (refine awp_cond (by simp only [ev, cst, upd_get, Nat.reduceEqDiff, reduceIte, if_true, if_false]; rfl) (fun h => ?_) (fun h => ?_) <;> first | (cases h; done) | skip)
          | (refine awp_cond1 (by simp only [ev, cst, upd_get, Nat.reduceEqDiff, reduceIte, if_true, if_false]; rfl) (fun h => ?_) (fun h => ?_) <;> first | (cases h; done) | skip)
          | (refine awp_skip ?_)
          | (refine awp_skip1 ?_)
          | (refine awp_ret ?_)
          | (refine awp_ret1 ?_)
          | (refine awp_exit ?_)
          | (refine awp_exit1 ?_)
          | (refine awp_block ?_)
          | (refine awp_block1 ?_)
          | (refine sq_n ?_)
          | (refine sq_e ?_)
          | (refine sq_r ?_)
          | (refine lq_n ?_)
          | (refine lq_e ?_)
          | (refine lq_r ?_)
          | (refine bq_n ?_)
          | (refine bq_r ?_)
          | (refine bq_e ?_)
          | (refine bq_o rfl ?_)
          | (refine end_ret rs15 (by simp only [go_sem, resV, resAll, resOf, packR, Nat.reduceEqDiff, reduceIte]; rfl) ?_)
          | (refine end_normal rs15 (by simp only [go_sem, resV, resAll, resOf, packR, Nat.reduceEqDiff, reduceIte]; rfl) ?_))
      all_goals (refine ⟨rfl, by simp only; omega, rfl, ?_⟩; try rfl)
      all_goals (try simp only [gt_iff_lt, ge_iff_le, decide_eq_true_eq, decide_eq_false_iff_not] at *)
      all_goals (refine congrArg vb ?_; simp [plain, *])
    rintro ⟨⟨objs, nx⟩, tm⟩ ⟨hO, hN, j1, j3⟩
    dsimp only at hO hN j1 j3
    subst hO
    repeat' (first
      | (refine hKK _ ?_; clear hKK KK)
      | (refine awp_assoc ?_)
      | ((fail_if_success (refine awp_st (id := 2) ?_)); refine awp_nr [[0], [1], [1,3], [1,3,4], [1,3], [1,3,4], [], [1], [1,5], [1,5,6,7,8], [], [1,5,6,7,8], [1,5,6,7,8,82,83,84], [1,5,6,7,8,82,83,84], [1,5,6,7,8,10,82,83,84], [1,5,6,7,8,10,11,82,83,84], [1,5,6,7,8,10,11,12,82,83,84], [], [1,5,6,10,12,82,83,84], [1,5,6,7,8,82,83,84], []] (fun tz => by simp only [nth_z, nth_s, keep_n, keep_c, upd_get, init_arg, arg_z, arg_s, Nat.reduceEqDiff, reduceIte, if_true, if_false, j1, j3]; rfl) fun tz => ?_; refine awp_reg fun KK hKK => ?_; refine xw_id ?_; simp (config := { maxSteps := 4000000 }) only [go_sem, Nat.reduceEqDiff, Nat.reduceAdd, Nat.reduceMul, Nat.reduceSub, Nat.reduceLT, Nat.reduceLeDiff, reduceIte, Int.reduceToNat, Int.reduceBEq, Int.reduceBNe, Int.reduceLT, Int.reduceLE, Int.reduceGT, Int.reduceGE, Int.reduceEq, Int.reduceNe, Int.reduceAdd, Int.reduceSub, Int.reduceMul, Int.reduceNeg, Nat.reduceBEq, j1, j3])
      | ((fail_if_success (refine awp_st1 (id := 2) ?_)); refine awp_nr1 [[0], [1], [1,3], [1,3,4], [1,3], [1,3,4], [], [1], [1,5], [1,5,6,7,8], [], [1,5,6,7,8], [1,5,6,7,8,82,83,84], [1,5,6,7,8,82,83,84], [1,5,6,7,8,10,82,83,84], [1,5,6,7,8,10,11,82,83,84], [1,5,6,7,8,10,11,12,82,83,84], [], [1,5,6,10,12,82,83,84], [1,5,6,7,8,82,83,84], []] (fun tz => by simp only [nth_z, nth_s, keep_n, keep_c, upd_get, init_arg, arg_z, arg_s, Nat.reduceEqDiff, reduceIte, if_true, if_false, j1, j3]; rfl) fun tz => ?_; refine awp_reg1 fun KK hKK => ?_; refine xw_id ?_; simp (config := { maxSteps := 4000000 }) only [go_sem, Nat.reduceEqDiff, Nat.reduceAdd, Nat.reduceMul, Nat.reduceSub, Nat.reduceLT, Nat.reduceLeDiff, reduceIte, Int.reduceToNat, Int.reduceBEq, Int.reduceBNe, Int.reduceLT, Int.reduceLE, Int.reduceGT, Int.reduceGE, Int.reduceEq, Int.reduceNe, Int.reduceAdd, Int.reduceSub, Int.reduceMul, Int.reduceNeg, Nat.reduceBEq, j1, j3])
      | (refine gsp_split (fun h => ?_) (fun h => ?_) <;> simp (config := { maxSteps := 4000000 }) only [go_sem, Nat.reduceEqDiff, Nat.reduceAdd, Nat.reduceMul, Nat.reduceSub, Nat.reduceLT, Nat.reduceLeDiff, reduceIte, Int.reduceToNat, Int.reduceBEq, Int.reduceBNe, Int.reduceLT, Int.reduceLE, Int.reduceGT, Int.reduceGE, Int.reduceEq, Int.reduceNe, Int.reduceAdd, Int.reduceSub, Int.reduceMul, Int.reduceNeg, Nat.reduceBEq, j1, j3, h])
      | (refine xcall_p (p_dist _ _) ?_; try dsimp only)
      | (refine xcall_n (p_dist _ _) ?_; try dsimp only)
      | (refine xcall_p (p_start _ _) ?_; try dsimp only)
      | (refine xcall_n (p_start _ _) ?_; try dsimp only)
      | (refine xcall_p (p_within _ _ _) ?_; try dsimp only)
      | (refine xcall_n (p_within _ _ _) ?_; try dsimp only)
      | (refine xw_id ?_; simp (config := { maxSteps := 4000000 }) only [go_sem, Nat.reduceEqDiff, Nat.reduceAdd, Nat.reduceMul, Nat.reduceSub, Nat.reduceLT, Nat.reduceLeDiff, reduceIte, Int.reduceToNat, Int.reduceBEq, Int.reduceBNe, Int.reduceLT, Int.reduceLE, Int.reduceGT, Int.reduceGE, Int.reduceEq, Int.reduceNe, Int.reduceAdd, Int.reduceSub, Int.reduceMul, Int.reduceNeg, Nat.reduceBEq, j1, j3])
      | (refine awp_cond (by simp only [ev, cst, upd_get, Nat.reduceEqDiff, reduceIte, if_true, if_false, j1, j3]; rfl) (fun h => ?_) (fun h => ?_) <;> first | (cases h; done) | skip)
      | (refine awp_cond1 (by simp only [ev, cst, upd_get, Nat.reduceEqDiff, reduceIte, if_true, if_false, j1, j3]; rfl) (fun h => ?_) (fun h => ?_) <;> first | (cases h; done) | skip)
      | (refine awp_skip ?_)
      | (refine awp_skip1 ?_)
      | (refine awp_ret ?_)
      | (refine awp_ret1 ?_)
      | (refine awp_exit ?_)
      | (refine awp_exit1 ?_)
      | (refine awp_block ?_)
      | (refine awp_block1 ?_)
      | (refine sq_n ?_)
      | (refine sq_e ?_)
      | (refine sq_r ?_)
      | (refine lq_n ?_)
      | (refine lq_e ?_)
      | (refine lq_r ?_)
      | (refine bq_n ?_)
      | (refine bq_r ?_)
      | (refine bq_e ?_)
      | (refine bq_o rfl ?_)
      | (refine end_ret rs15 (by simp only [go_sem, resV, resAll, resOf, packR, Nat.reduceEqDiff, reduceIte, j1, j3]; rfl) ?_)
      | (refine end_normal rs15 (by simp only [go_sem, resV, resAll, resOf, packR, Nat.reduceEqDiff, reduceIte, j1, j3]; rfl) ?_))
    refine awp_j3 (fun t => t.objs = upd (fun _ => .dead) n (.live (sd s (us l))) ∧ n ≤ t.next ∧ (t.tmps 1 = .ptr n 0) ∧ ((plain s && sizeOk s && (s.phase == 2 || (l.isEmpty && !s.bar))) = true)) ?_ ?_
    · repeat' (first
          | (refine hKK _ ?_; clear hKK KK)
          | (refine awp_assoc ?_)
          | (refine awp_nr [[0], [1], [1,3], [1,3,4], [1,3], [1,3,4], [], [1], [1,5], [1,5,6,7,8], [], [1,5,6,7,8], [1,5,6,7,8,82,83,84], [1,5,6,7,8,82,83,84], [1,5,6,7,8,10,82,83,84], [1,5,6,7,8,10,11,82,83,84], [1,5,6,7,8,10,11,12,82,83,84], [], [1,5,6,10,12,82,83,84], [1,5,6,7,8,82,83,84], []] (fun tz => by simp only [nth_z, nth_s, keep_n, keep_c, upd_get, init_arg, arg_z, arg_s, Nat.reduceEqDiff, reduceIte, if_true, if_false, j1, j3]; rfl) fun tz => ?_; refine awp_reg fun KK hKK => ?_; refine xw_id ?_; simp (config := { maxSteps := 4000000 }) only [go_sem, Nat.reduceEqDiff, Nat.reduceAdd, Nat.reduceMul, Nat.reduceSub, Nat.reduceLT, Nat.reduceLeDiff, reduceIte, Int.reduceToNat, Int.reduceBEq, Int.reduceBNe, Int.reduceLT, Int.reduceLE, Int.reduceGT, Int.reduceGE, Int.reduceEq, Int.reduceNe, Int.reduceAdd, Int.reduceSub, Int.reduceMul, Int.reduceNeg, Nat.reduceBEq, j1, j3])
          | (refine awp_nr1 [[0], [1], [1,3], [1,3,4], [1,3], [1,3,4], [], [1], [1,5], [1,5,6,7,8], [], [1,5,6,7,8], [1,5,6,7,8,82,83,84], [1,5,6,7,8,82,83,84], [1,5,6,7,8,10,82,83,84], [1,5,6,7,8,10,11,82,83,84], [1,5,6,7,8,10,11,12,82,83,84], [], [1,5,6,10,12,82,83,84], [1,5,6,7,8,82,83,84], []] (fun tz => by simp only [nth_z, nth_s, keep_n, keep_c, upd_get, init_arg, arg_z, arg_s, Nat.reduceEqDiff, reduceIte, if_true, if_false, j1, j3]; rfl) fun tz => ?_; refine awp_reg1 fun KK hKK => ?_; refine xw_id ?_; simp (config := { maxSteps := 4000000 }) only [go_sem, Nat.reduceEqDiff, Nat.reduceAdd, Nat.reduceMul, Nat.reduceSub, Nat.reduceLT, Nat.reduceLeDiff, reduceIte, Int.reduceToNat, Int.reduceBEq, Int.reduceBNe, Int.reduceLT, Int.reduceLE, Int.reduceGT, Int.reduceGE, Int.reduceEq, Int.reduceNe, Int.reduceAdd, Int.reduceSub, Int.reduceMul, Int.reduceNeg, Nat.reduceBEq, j1, j3])
          | (refine gsp_split (fun h => ?_) (fun h => ?_) <;> simp (config := { maxSteps := 4000000 }) only [go_sem, Nat.reduceEqDiff, Nat.reduceAdd, Nat.reduceMul, Nat.reduceSub, Nat.reduceLT, Nat.reduceLeDiff, reduceIte, Int.reduceToNat, Int.reduceBEq, Int.reduceBNe, Int.reduceLT, Int.reduceLE, Int.reduceGT, Int.reduceGE, Int.reduceEq, Int.reduceNe, Int.reduceAdd, Int.reduceSub, Int.reduceMul, Int.reduceNeg, Nat.reduceBEq, j1, j3, h])
          | (refine xcall_p (p_dist _ _) ?_; try dsimp only)
          | (refine xcall_n (p_dist _ _) ?_; try dsimp only)
          | (refine xcall_p (p_start _ _) ?_; try dsimp only)
          | (refine xcall_n (p_start _ _) ?_; try dsimp only)
          | (refine xcall_p (p_within _ _ _) ?_; try dsimp only)
          | (refine xcall_n (p_within _ _ _) ?_; try dsimp only)
          | (refine xw_id ?_; simp (config := { maxSteps := 4000000 }) only [go_sem, Nat.reduceEqDiff, Nat.reduceAdd, Nat.reduceMul, Nat.reduceSub, Nat.reduceLT, Nat.reduceLeDiff, reduceIte, Int.reduceToNat, Int.reduceBEq, Int.reduceBNe, Int.reduceLT, Int.reduceLE, Int.reduceGT, Int.reduceGE, Int.reduceEq, Int.reduceNe, Int.reduceAdd, Int.reduceSub, Int.reduceMul, Int.reduceNeg, Nat.reduceBEq, j1, j3])
          | (refine awp_cond (by simp only [ev, cst, upd_get, Nat.reduceEqDiff, reduceIte, if_true, if_false, j1, j3]; rfl) (fun h => ?_) (fun h => ?_) <;> first | (cases h; done) | skip)
          | (refine awp_cond1 (by simp only [ev, cst, upd_get, Nat.reduceEqDiff, reduceIte, if_true, if_false, j1, j3]; rfl) (fun h => ?_) (fun h => ?_) <;> first | (cases h; done) | skip)
          | (refine awp_skip ?_)
          | (refine awp_skip1 ?_)
          | (refine awp_ret ?_)
          | (refine awp_ret1 ?_)
          | (refine awp_exit ?_)
          | (refine awp_exit1 ?_)
          | (refine awp_block ?_)
          | (refine awp_block1 ?_)
          | (refine sq_n ?_)
          | (refine sq_e ?_)
          | (refine sq_r ?_)
          | (refine lq_n ?_)
          | (refine lq_e ?_)
          | (refine lq_r ?_)
          | (refine bq_n ?_)
          | (refine bq_r ?_)
          | (refine bq_e ?_)
          | (refine bq_o rfl ?_)
          | (refine end_ret rs15 (by simp only [go_sem, resV, resAll, resOf, packR, Nat.reduceEqDiff, reduceIte, j1, j3]; rfl) ?_)
          | (refine end_normal rs15 (by simp only [go_sem, resV, resAll, resOf, packR, Nat.reduceEqDiff, reduceIte, j1, j3]; rfl) ?_))
      all_goals (first
        | (refine ⟨rfl, by simp only; omega, rfl, ?_⟩; simp_all [sizeOk]; done)
        | (simp (config := { maxSteps := 4000000 }) only [go_sem, Nat.reduceEqDiff, Nat.reduceAdd, Nat.reduceMul, Nat.reduceSub, Nat.reduceLT, Nat.reduceLeDiff, reduceIte, Int.reduceToNat, Int.reduceBEq, Int.reduceBNe, Int.reduceLT, Int.reduceLE, Int.reduceGT, Int.reduceGE, Int.reduceEq, Int.reduceNe, Int.reduceAdd, Int.reduceSub, Int.reduceMul, Int.reduceNeg, Nat.reduceBEq, fz, nilS, packR, List.take_nil]; grind [check, sizeOk]))
    rintro ⟨⟨objsa, nxa⟩, tma⟩ ⟨hOa, hNa, j1a, c2a⟩
    dsimp only at hOa hNa j1a c2a
    subst hOa
    repeat' (first
      | (refine hKK _ ?_; clear hKK KK)
      | (refine awp_assoc ?_)
      | (refine awp_nr [[0], [1], [1,3], [1,3,4], [1,3], [1,3,4], [], [1], [1,5], [1,5,6,7,8], [], [1,5,6,7,8], [1,5,6,7,8,82,83,84], [1,5,6,7,8,82,83,84], [1,5,6,7,8,10,82,83,84], [1,5,6,7,8,10,11,82,83,84], [1,5,6,7,8,10,11,12,82,83,84], [], [1,5,6,10,12,82,83,84], [1,5,6,7,8,82,83,84], []] (fun tz => by simp only [nth_z, nth_s, keep_n, keep_c, upd_get, init_arg, arg_z, arg_s, Nat.reduceEqDiff, reduceIte, if_true, if_false, j1a]; rfl) fun tz => ?_; refine awp_reg fun KK hKK => ?_; refine xw_id ?_; simp (config := { maxSteps := 4000000 }) only [go_sem, Nat.reduceEqDiff, Nat.reduceAdd, Nat.reduceMul, Nat.reduceSub, Nat.reduceLT, Nat.reduceLeDiff, reduceIte, Int.reduceToNat, Int.reduceBEq, Int.reduceBNe, Int.reduceLT, Int.reduceLE, Int.reduceGT, Int.reduceGE, Int.reduceEq, Int.reduceNe, Int.reduceAdd, Int.reduceSub, Int.reduceMul, Int.reduceNeg, Nat.reduceBEq, j1a])
      | (refine awp_nr1 [[0], [1], [1,3], [1,3,4], [1,3], [1,3,4], [], [1], [1,5], [1,5,6,7,8], [], [1,5,6,7,8], [1,5,6,7,8,82,83,84], [1,5,6,7,8,82,83,84], [1,5,6,7,8,10,82,83,84], [1,5,6,7,8,10,11,82,83,84], [1,5,6,7,8,10,11,12,82,83,84], [], [1,5,6,10,12,82,83,84], [1,5,6,7,8,82,83,84], []] (fun tz => by simp only [nth_z, nth_s, keep_n, keep_c, upd_get, init_arg, arg_z, arg_s, Nat.reduceEqDiff, reduceIte, if_true, if_false, j1a]; rfl) fun tz => ?_; refine awp_reg1 fun KK hKK => ?_; refine xw_id ?_; simp (config := { maxSteps := 4000000 }) only [go_sem, Nat.reduceEqDiff, Nat.reduceAdd, Nat.reduceMul, Nat.reduceSub, Nat.reduceLT, Nat.reduceLeDiff, reduceIte, Int.reduceToNat, Int.reduceBEq, Int.reduceBNe, Int.reduceLT, Int.reduceLE, Int.reduceGT, Int.reduceGE, Int.reduceEq, Int.reduceNe, Int.reduceAdd, Int.reduceSub, Int.reduceMul, Int.reduceNeg, Nat.reduceBEq, j1a])
      | (refine gsp_split (fun h => ?_) (fun h => ?_) <;> simp (config := { maxSteps := 4000000 }) only [go_sem, Nat.reduceEqDiff, Nat.reduceAdd, Nat.reduceMul, Nat.reduceSub, Nat.reduceLT, Nat.reduceLeDiff, reduceIte, Int.reduceToNat, Int.reduceBEq, Int.reduceBNe, Int.reduceLT, Int.reduceLE, Int.reduceGT, Int.reduceGE, Int.reduceEq, Int.reduceNe, Int.reduceAdd, Int.reduceSub, Int.reduceMul, Int.reduceNeg, Nat.reduceBEq, j1a, h])
      | (refine xcall_p (p_dist _ _) ?_; try dsimp only)
      | (refine xcall_n (p_dist _ _) ?_; try dsimp only)
      | (refine xcall_p (p_start _ _) ?_; try dsimp only)
      | (refine xcall_n (p_start _ _) ?_; try dsimp only)
      | (refine xcall_p (p_within _ _ _) ?_; try dsimp only)
      | (refine xcall_n (p_within _ _ _) ?_; try dsimp only)
      | (refine xw_id ?_; simp (config := { maxSteps := 4000000 }) only [go_sem, Nat.reduceEqDiff, Nat.reduceAdd, Nat.reduceMul, Nat.reduceSub, Nat.reduceLT, Nat.reduceLeDiff, reduceIte, Int.reduceToNat, Int.reduceBEq, Int.reduceBNe, Int.reduceLT, Int.reduceLE, Int.reduceGT, Int.reduceGE, Int.reduceEq, Int.reduceNe, Int.reduceAdd, Int.reduceSub, Int.reduceMul, Int.reduceNeg, Nat.reduceBEq, j1a])
      | (refine awp_cond (by simp only [ev, cst, upd_get, Nat.reduceEqDiff, reduceIte, if_true, if_false, j1a]; rfl) (fun h => ?_) (fun h => ?_) <;> first | (cases h; done) | skip)
      | (refine awp_cond1 (by simp only [ev, cst, upd_get, Nat.reduceEqDiff, reduceIte, if_true, if_false, j1a]; rfl) (fun h => ?_) (fun h => ?_) <;> first | (cases h; done) | skip)
      | (refine awp_skip ?_)
      | (refine awp_skip1 ?_)
      | (refine awp_ret ?_)
      | (refine awp_ret1 ?_)
      | (refine awp_exit ?_)
      | (refine awp_exit1 ?_)
      | (refine awp_block ?_)
      | (refine awp_block1 ?_)
      | (refine sq_n ?_)
      | (refine sq_e ?_)
      | (refine sq_r ?_)
      | (refine lq_n ?_)
      | (refine lq_e ?_)
      | (refine lq_r ?_)
      | (refine bq_n ?_)
      | (refine bq_r ?_)
      | (refine bq_e ?_)
      | (refine bq_o rfl ?_)
      | (refine end_ret rs15 (by simp only [go_sem, resV, resAll, resOf, packR, Nat.reduceEqDiff, reduceIte, j1a]; rfl) ?_)
      | (refine end_normal rs15 (by simp only [go_sem, resV, resAll, resOf, packR, Nat.reduceEqDiff, reduceIte, j1a]; rfl) ?_))
    · simp (config := { maxSteps := 4000000 }) only [go_sem, Nat.reduceEqDiff, Nat.reduceAdd, Nat.reduceMul, Nat.reduceSub, Nat.reduceLT, Nat.reduceLeDiff, reduceIte, Int.reduceToNat, Int.reduceBEq, Int.reduceBNe, Int.reduceLT, Int.reduceLE, Int.reduceGT, Int.reduceGE, Int.reduceEq, Int.reduceNe, Int.reduceAdd, Int.reduceSub, Int.reduceMul, Int.reduceNeg, Nat.reduceBEq, fz, nilS, packR, List.take_nil]; grind [check]
    refine awp_loopFG1 [1, 5, 6, 82, 83] (fun kb t => ∃ (i : Nat) (last at_ : Int), (i + kb = l.length) ∧ (t.tmps 84 = vi i) ∧ (t.tmps 7 = vi last) ∧ (t.tmps 8 = vi at_) ∧ (okFrom s.limit (startOf s l) (dist (startOf s l) s.next) (-1) 0 l = okFrom s.limit (startOf s l) (dist (startOf s l) s.next) last at_ (l.drop i))) (l.length) ⟨0, -1, 0, by omega, rfl, rfl, rfl, rfl⟩ ?_
    rintro kb ⟨⟨objsb, nxb⟩, tmb⟩ ⟨i, last, at_, c1b, h84b, h7b, h8b, hk⟩ hFb hOb hNb
    dsimp only at c1b h84b h7b h8b hk hFb hOb hNb
    obtain ⟨u1b, u5b, u6b, u82b, u83b, _⟩ := hFb; try simp only [upd_get, init_arg, arg_z, arg_s, Nat.reduceEqDiff, reduceIte, if_true, if_false, j1, j3, j1a] at u1b u5b u6b u82b u83b
    have w0b := hOb (n) (by omega); try simp only [upd_get, init_arg, arg_z, arg_s, Nat.reduceEqDiff, reduceIte, if_true, if_false, Nat.reduceEqDiff, Nat.reduceAdd, Nat.reduceMul, Nat.reduceSub, Nat.reduceLT, Nat.reduceLeDiff, reduceIte, Int.reduceToNat, Int.reduceBEq, Int.reduceBNe, Int.reduceLT, Int.reduceLE, Int.reduceGT, Int.reduceGE, Int.reduceEq, Int.reduceNe, Int.reduceAdd, Int.reduceSub, Int.reduceMul, Int.reduceNeg, Nat.reduceBEq, j1, j3, j1a, Nat.left_eq_add, Nat.add_eq_left, Nat.add_left_cancel_iff, upd_get] at w0b
    have x0b : ∀ j, (n = nxb + j) = False := by intro j; simp; omega
    have y0b : (n = nxb) = False := by simp; omega
    by_cases hlt : i < l.length
    · obtain ⟨e, hee, hde⟩ := drop_get hlt
      have fae : (0 ≤ (i : Int)) = True := by simp
      have fbe : ((i : Int) < (l.length : Int)) = True := by simp; omega
      have fce : IntKind.wrap .i64 ((i : Int) + 1) = ((i + 1 : Nat) : Int) := by rw [wrap64 (by omega) (by omega)]; omega
      have fde : ((i : Int)).toNat = i := Int.toNat_natCast _
      have fee : (i * 44 + 44 ≤ (l.flatMap ue).length) = True := by rw [flat_len (sz := 44) (fun _ => rfl)]; simp; omega
      have ffe : List.take 44 (List.drop (i * 44) (l.flatMap ue)) = ue e := flat_sub (sz := 44) (fun _ => rfl) _ _ _ hee
      rw [hde, okFrom] at hk
      repeat' (first
          | (refine hKK _ ?_; clear hKK KK)
          | (refine awp_assoc ?_)
          | (refine awp_nr [[0], [1], [1,3], [1,3,4], [1,3], [1,3,4], [], [1], [1,5], [1,5,6,7,8], [], [1,5,6,7,8], [1,5,6,7,8,82,83,84], [1,5,6,7,8,82,83,84], [1,5,6,7,8,10,82,83,84], [1,5,6,7,8,10,11,82,83,84], [1,5,6,7,8,10,11,12,82,83,84], [], [1,5,6,10,12,82,83,84], [1,5,6,7,8,82,83,84], []] (fun tz => by simp only [nth_z, nth_s, keep_n, keep_c, upd_get, init_arg, arg_z, arg_s, Nat.reduceEqDiff, reduceIte, if_true, if_false, h84b, h7b, h8b, u1b, u5b, u6b, u82b, u83b, w0b, x0b, y0b, fae, fbe, fce, fde, fee, ffe]; rfl) fun tz => ?_; refine awp_reg fun KK hKK => ?_; refine xw_id ?_; simp (config := { maxSteps := 4000000 }) only [go_sem, Nat.reduceEqDiff, Nat.reduceAdd, Nat.reduceMul, Nat.reduceSub, Nat.reduceLT, Nat.reduceLeDiff, reduceIte, Int.reduceToNat, Int.reduceBEq, Int.reduceBNe, Int.reduceLT, Int.reduceLE, Int.reduceGT, Int.reduceGE, Int.reduceEq, Int.reduceNe, Int.reduceAdd, Int.reduceSub, Int.reduceMul, Int.reduceNeg, Nat.reduceBEq, h84b, h7b, h8b, u1b, u5b, u6b, u82b, u83b, w0b, x0b, y0b, fae, fbe, fce, fde, fee, ffe])
          | (refine awp_nr1 [[0], [1], [1,3], [1,3,4], [1,3], [1,3,4], [], [1], [1,5], [1,5,6,7,8], [], [1,5,6,7,8], [1,5,6,7,8,82,83,84], [1,5,6,7,8,82,83,84], [1,5,6,7,8,10,82,83,84], [1,5,6,7,8,10,11,82,83,84], [1,5,6,7,8,10,11,12,82,83,84], [], [1,5,6,10,12,82,83,84], [1,5,6,7,8,82,83,84], []] (fun tz => by simp only [nth_z, nth_s, keep_n, keep_c, upd_get, init_arg, arg_z, arg_s, Nat.reduceEqDiff, reduceIte, if_true, if_false, h84b, h7b, h8b, u1b, u5b, u6b, u82b, u83b, w0b, x0b, y0b, fae, fbe, fce, fde, fee, ffe]; rfl) fun tz => ?_; refine awp_reg1 fun KK hKK => ?_; refine xw_id ?_; simp (config := { maxSteps := 4000000 }) only [go_sem, Nat.reduceEqDiff, Nat.reduceAdd, Nat.reduceMul, Nat.reduceSub, Nat.reduceLT, Nat.reduceLeDiff, reduceIte, Int.reduceToNat, Int.reduceBEq, Int.reduceBNe, Int.reduceLT, Int.reduceLE, Int.reduceGT, Int.reduceGE, Int.reduceEq, Int.reduceNe, Int.reduceAdd, Int.reduceSub, Int.reduceMul, Int.reduceNeg, Nat.reduceBEq, h84b, h7b, h8b, u1b, u5b, u6b, u82b, u83b, w0b, x0b, y0b, fae, fbe, fce, fde, fee, ffe])
          | (refine gsp_split (fun h => ?_) (fun h => ?_) <;> simp (config := { maxSteps := 4000000 }) only [go_sem, Nat.reduceEqDiff, Nat.reduceAdd, Nat.reduceMul, Nat.reduceSub, Nat.reduceLT, Nat.reduceLeDiff, reduceIte, Int.reduceToNat, Int.reduceBEq, Int.reduceBNe, Int.reduceLT, Int.reduceLE, Int.reduceGT, Int.reduceGE, Int.reduceEq, Int.reduceNe, Int.reduceAdd, Int.reduceSub, Int.reduceMul, Int.reduceNeg, Nat.reduceBEq, h84b, h7b, h8b, u1b, u5b, u6b, u82b, u83b, w0b, x0b, y0b, fae, fbe, fce, fde, fee, ffe, h])
          | (refine xcall_p (p_dist _ _) ?_; try dsimp only)
          | (refine xcall_n (p_dist _ _) ?_; try dsimp only)
          | (refine xcall_p (p_start _ _) ?_; try dsimp only)
          | (refine xcall_n (p_start _ _) ?_; try dsimp only)
          | (refine xcall_p (p_within _ _ _) ?_; try dsimp only)
          | (refine xcall_n (p_within _ _ _) ?_; try dsimp only)
          | (refine xw_id ?_; simp (config := { maxSteps := 4000000 }) only [go_sem, Nat.reduceEqDiff, Nat.reduceAdd, Nat.reduceMul, Nat.reduceSub, Nat.reduceLT, Nat.reduceLeDiff, reduceIte, Int.reduceToNat, Int.reduceBEq, Int.reduceBNe, Int.reduceLT, Int.reduceLE, Int.reduceGT, Int.reduceGE, Int.reduceEq, Int.reduceNe, Int.reduceAdd, Int.reduceSub, Int.reduceMul, Int.reduceNeg, Nat.reduceBEq, h84b, h7b, h8b, u1b, u5b, u6b, u82b, u83b, w0b, x0b, y0b, fae, fbe, fce, fde, fee, ffe])
          | (refine awp_cond (by simp only [ev, cst, upd_get, Nat.reduceEqDiff, reduceIte, if_true, if_false, h84b, h7b, h8b, u1b, u5b, u6b, u82b, u83b, w0b, x0b, y0b, fae, fbe, fce, fde, fee, ffe]; rfl) (fun h => ?_) (fun h => ?_) <;> first | (cases h; done) | skip)
          | (refine awp_cond1 (by simp only [ev, cst, upd_get, Nat.reduceEqDiff, reduceIte, if_true, if_false, h84b, h7b, h8b, u1b, u5b, u6b, u82b, u83b, w0b, x0b, y0b, fae, fbe, fce, fde, fee, ffe]; rfl) (fun h => ?_) (fun h => ?_) <;> first | (cases h; done) | skip)
          | (refine awp_skip ?_)
          | (refine awp_skip1 ?_)
          | (refine awp_ret ?_)
          | (refine awp_ret1 ?_)
          | (refine awp_exit ?_)
          | (refine awp_exit1 ?_)
          | (refine awp_block ?_)
          | (refine awp_block1 ?_)
          | (refine sq_n ?_)
          | (refine sq_e ?_)
          | (refine sq_r ?_)
          | (refine lq_n ?_)
          | (refine lq_e ?_)
          | (refine lq_r ?_)
          | (refine bq_n ?_)
          | (refine bq_r ?_)
          | (refine bq_e ?_)
          | (refine bq_o rfl ?_)
          | (refine end_ret rs15 (by simp only [go_sem, resV, resAll, resOf, packR, Nat.reduceEqDiff, reduceIte, h84b, h7b, h8b, u1b, u5b, u6b, u82b, u83b, w0b, x0b, y0b, fae, fbe, fce, fde, fee, ffe]; rfl) ?_)
          | (refine end_normal rs15 (by simp only [go_sem, resV, resAll, resOf, packR, Nat.reduceEqDiff, reduceIte, h84b, h7b, h8b, u1b, u5b, u6b, u82b, u83b, w0b, x0b, y0b, fae, fbe, fce, fde, fee, ffe]; rfl) ?_))
      all_goals (first
        | (refine ⟨kb - 1, by omega, ⟨i + 1, dist (startOf s l) e.1.h.seq, e.1.at_, ?_, (by first | rfl | (simp only [upd_get, init_arg, arg_z, arg_s, Nat.reduceEqDiff, reduceIte, if_true, if_false, h84b, h7b, h8b, u1b, u5b, u6b, u82b, u83b, w0b, x0b, y0b]; done)), (by first | rfl | (simp only [upd_get, init_arg, arg_z, arg_s, Nat.reduceEqDiff, reduceIte, if_true, if_false, h84b, h7b, h8b, u1b, u5b, u6b, u82b, u83b, w0b, x0b, y0b]; done)), (by first | rfl | (simp only [upd_get, init_arg, arg_z, arg_s, Nat.reduceEqDiff, reduceIte, if_true, if_false, h84b, h7b, h8b, u1b, u5b, u6b, u82b, u83b, w0b, x0b, y0b]; done)), ?_⟩, by (repeat (first | exact trivial | refine And.intro rfl ?_)), by (try simp only) <;> (repeat (refine FrmO.upd (by omega) ?_)); exact hOb, by (try simp only); omega⟩; all_goals first | omega | grind [okU])
        | (simp (config := { maxSteps := 4000000 }) only [go_sem, Nat.reduceEqDiff, Nat.reduceAdd, Nat.reduceMul, Nat.reduceSub, Nat.reduceLT, Nat.reduceLeDiff, reduceIte, Int.reduceToNat, Int.reduceBEq, Int.reduceBNe, Int.reduceLT, Int.reduceLE, Int.reduceGT, Int.reduceGE, Int.reduceEq, Int.reduceNe, Int.reduceAdd, Int.reduceSub, Int.reduceMul, Int.reduceNeg, Nat.reduceBEq, fz, nilS, packR, List.take_nil]; grind [check, okU]))
    · have f1 : ((i : Int) < (l.length : Int)) = False := by simp; omega
      have f2 : l.drop i = [] := List.drop_of_length_le (by omega)
      rw [f2, okFrom] at hk
      repeat' (first
          | (refine hKK _ ?_; clear hKK KK)
          | (refine awp_assoc ?_)
          | (refine awp_nr [[0], [1], [1,3], [1,3,4], [1,3], [1,3,4], [], [1], [1,5], [1,5,6,7,8], [], [1,5,6,7,8], [1,5,6,7,8,82,83,84], [1,5,6,7,8,82,83,84], [1,5,6,7,8,10,82,83,84], [1,5,6,7,8,10,11,82,83,84], [1,5,6,7,8,10,11,12,82,83,84], [], [1,5,6,10,12,82,83,84], [1,5,6,7,8,82,83,84], []] (fun tz => by simp only [nth_z, nth_s, keep_n, keep_c, upd_get, init_arg, arg_z, arg_s, Nat.reduceEqDiff, reduceIte, if_true, if_false, h84b, h7b, h8b, u1b, u5b, u6b, u82b, u83b, w0b, x0b, y0b, f1]; rfl) fun tz => ?_; refine awp_reg fun KK hKK => ?_; refine xw_id ?_; simp (config := { maxSteps := 4000000 }) only [go_sem, Nat.reduceEqDiff, Nat.reduceAdd, Nat.reduceMul, Nat.reduceSub, Nat.reduceLT, Nat.reduceLeDiff, reduceIte, Int.reduceToNat, Int.reduceBEq, Int.reduceBNe, Int.reduceLT, Int.reduceLE, Int.reduceGT, Int.reduceGE, Int.reduceEq, Int.reduceNe, Int.reduceAdd, Int.reduceSub, Int.reduceMul, Int.reduceNeg, Nat.reduceBEq, h84b, h7b, h8b, u1b, u5b, u6b, u82b, u83b, w0b, x0b, y0b, f1])
          | (refine awp_nr1 [[0], [1], [1,3], [1,3,4], [1,3], [1,3,4], [], [1], [1,5], [1,5,6,7,8], [], [1,5,6,7,8], [1,5,6,7,8,82,83,84], [1,5,6,7,8,82,83,84], [1,5,6,7,8,10,82,83,84], [1,5,6,7,8,10,11,82,83,84], [1,5,6,7,8,10,11,12,82,83,84], [], [1,5,6,10,12,82,83,84], [1,5,6,7,8,82,83,84], []] (fun tz => by simp only [nth_z, nth_s, keep_n, keep_c, upd_get, init_arg, arg_z, arg_s, Nat.reduceEqDiff, reduceIte, if_true, if_false, h84b, h7b, h8b, u1b, u5b, u6b, u82b, u83b, w0b, x0b, y0b, f1]; rfl) fun tz => ?_; refine awp_reg1 fun KK hKK => ?_; refine xw_id ?_; simp (config := { maxSteps := 4000000 }) only [go_sem, Nat.reduceEqDiff, Nat.reduceAdd, Nat.reduceMul, Nat.reduceSub, Nat.reduceLT, Nat.reduceLeDiff, reduceIte, Int.reduceToNat, Int.reduceBEq, Int.reduceBNe, Int.reduceLT, Int.reduceLE, Int.reduceGT, Int.reduceGE, Int.reduceEq, Int.reduceNe, Int.reduceAdd, Int.reduceSub, Int.reduceMul, Int.reduceNeg, Nat.reduceBEq, h84b, h7b, h8b, u1b, u5b, u6b, u82b, u83b, w0b, x0b, y0b, f1])
          | (refine gsp_split (fun h => ?_) (fun h => ?_) <;> simp (config := { maxSteps := 4000000 }) only [go_sem, Nat.reduceEqDiff, Nat.reduceAdd, Nat.reduceMul, Nat.reduceSub, Nat.reduceLT, Nat.reduceLeDiff, reduceIte, Int.reduceToNat, Int.reduceBEq, Int.reduceBNe, Int.reduceLT, Int.reduceLE, Int.reduceGT, Int.reduceGE, Int.reduceEq, Int.reduceNe, Int.reduceAdd, Int.reduceSub, Int.reduceMul, Int.reduceNeg, Nat.reduceBEq, h84b, h7b, h8b, u1b, u5b, u6b, u82b, u83b, w0b, x0b, y0b, f1, h])
          | (refine xcall_p (p_dist _ _) ?_; try dsimp only)
          | (refine xcall_n (p_dist _ _) ?_; try dsimp only)
          | (refine xcall_p (p_start _ _) ?_; try dsimp only)
          | (refine xcall_n (p_start _ _) ?_; try dsimp only)
          | (refine xcall_p (p_within _ _ _) ?_; try dsimp only)
          | (refine xcall_n (p_within _ _ _) ?_; try dsimp only)
          | (refine xw_id ?_; simp (config := { maxSteps := 4000000 }) only [go_sem, Nat.reduceEqDiff, Nat.reduceAdd, Nat.reduceMul, Nat.reduceSub, Nat.reduceLT, Nat.reduceLeDiff, reduceIte, Int.reduceToNat, Int.reduceBEq, Int.reduceBNe, Int.reduceLT, Int.reduceLE, Int.reduceGT, Int.reduceGE, Int.reduceEq, Int.reduceNe, Int.reduceAdd, Int.reduceSub, Int.reduceMul, Int.reduceNeg, Nat.reduceBEq, h84b, h7b, h8b, u1b, u5b, u6b, u82b, u83b, w0b, x0b, y0b, f1])
          | (refine awp_cond (by simp only [ev, cst, upd_get, Nat.reduceEqDiff, reduceIte, if_true, if_false, h84b, h7b, h8b, u1b, u5b, u6b, u82b, u83b, w0b, x0b, y0b, f1]; rfl) (fun h => ?_) (fun h => ?_) <;> first | (cases h; done) | skip)
          | (refine awp_cond1 (by simp only [ev, cst, upd_get, Nat.reduceEqDiff, reduceIte, if_true, if_false, h84b, h7b, h8b, u1b, u5b, u6b, u82b, u83b, w0b, x0b, y0b, f1]; rfl) (fun h => ?_) (fun h => ?_) <;> first | (cases h; done) | skip)
          | (refine awp_skip ?_)
          | (refine awp_skip1 ?_)
          | (refine awp_ret ?_)
          | (refine awp_ret1 ?_)
          | (refine awp_exit ?_)
          | (refine awp_exit1 ?_)
          | (refine awp_block ?_)
          | (refine awp_block1 ?_)
          | (refine sq_n ?_)
          | (refine sq_e ?_)
          | (refine sq_r ?_)
          | (refine lq_n ?_)
          | (refine lq_e ?_)
          | (refine lq_r ?_)
          | (refine bq_n ?_)
          | (refine bq_r ?_)
          | (refine bq_e ?_)
          | (refine bq_o rfl ?_)
          | (refine end_ret rs15 (by simp only [go_sem, resV, resAll, resOf, packR, Nat.reduceEqDiff, reduceIte, h84b, h7b, h8b, u1b, u5b, u6b, u82b, u83b, w0b, x0b, y0b, f1]; rfl) ?_)
          | (refine end_normal rs15 (by simp only [go_sem, resV, resAll, resOf, packR, Nat.reduceEqDiff, reduceIte, h84b, h7b, h8b, u1b, u5b, u6b, u82b, u83b, w0b, x0b, y0b, f1]; rfl) ?_))
      all_goals (simp (config := { maxSteps := 4000000 }) only [go_sem, Nat.reduceEqDiff, Nat.reduceAdd, Nat.reduceMul, Nat.reduceSub, Nat.reduceLT, Nat.reduceLeDiff, reduceIte, Int.reduceToNat, Int.reduceBEq, Int.reduceBNe, Int.reduceLT, Int.reduceLE, Int.reduceGT, Int.reduceGE, Int.reduceEq, Int.reduceNe, Int.reduceAdd, Int.reduceSub, Int.reduceMul, Int.reduceNeg, Nat.reduceBEq, fz, nilS, packR, List.take_nil]; grind [check])

end Go.AX.SE
