/- A part of the proof: SeA. -/
import Derived.Test.YtjijidmbpfjioaaSeF
namespace Go.AX.SE
open Go.Proofs
attribute [local irreducible] awp xw xop xcall gsp ob xd xdop xcallD seqQ loopQ blkQ endQ
set_option linter.unusedSimpArgs false
set_option maxHeartbeats 4000000

def within (n a b : Int) : Bool := decide (n ≥ a) && decide (n ≤ b)

theorem p_within (n a b : Int) : SndP K 35 [vi n, vi a, vi b] (vb (within n a b)) := by
  refine SndP.of_walk hC ?_ (show K.P.funcs[35]? = some Try.f35 from Try.func35) rfl rfl (by decide +kernel) (Nat.le_of_ble_eq_true rfl) fun n => ?_
  · exact Clean.v _
  · repeat' (first
      | (refine hKK _ ?_; clear hKK KK)
      | (refine awp_assoc ?_)
      | (refine awp_nr [[0,1,2], [0,1,2]] (fun tz => by simp only [nth_z, nth_s, keep_n, keep_c, upd_get, init_arg, arg_z, arg_s, Nat.reduceEqDiff, reduceIte, if_true, if_false]; rfl) fun tz => ?_; refine awp_reg fun KK hKK => ?_; refine xw_id ?_; simp (config := { maxSteps := 4000000 }) only [go_sem, Nat.reduceEqDiff, Nat.reduceAdd, Nat.reduceMul, Nat.reduceSub, Nat.reduceLT, Nat.reduceLeDiff, reduceIte, Int.reduceToNat, Int.reduceBEq, Int.reduceBNe, Int.reduceLT, Int.reduceLE, Int.reduceGT, Int.reduceGE, Int.reduceEq, Int.reduceNe, Int.reduceAdd, Int.reduceSub, Int.reduceMul, Int.reduceNeg, Nat.reduceBEq])
      | (refine awp_nr1 [[0,1,2], [0,1,2]] (fun tz => by simp only [nth_z, nth_s, keep_n, keep_c, upd_get, init_arg, arg_z, arg_s, Nat.reduceEqDiff, reduceIte, if_true, if_false]; rfl) fun tz => ?_; refine awp_reg1 fun KK hKK => ?_; refine xw_id ?_; simp (config := { maxSteps := 4000000 }) only [go_sem, Nat.reduceEqDiff, Nat.reduceAdd, Nat.reduceMul, Nat.reduceSub, Nat.reduceLT, Nat.reduceLeDiff, reduceIte, Int.reduceToNat, Int.reduceBEq, Int.reduceBNe, Int.reduceLT, Int.reduceLE, Int.reduceGT, Int.reduceGE, Int.reduceEq, Int.reduceNe, Int.reduceAdd, Int.reduceSub, Int.reduceMul, Int.reduceNeg, Nat.reduceBEq])
      | (refine gsp_split (fun h => ?_) (fun h => ?_) <;> simp (config := { maxSteps := 4000000 }) only [go_sem, Nat.reduceEqDiff, Nat.reduceAdd, Nat.reduceMul, Nat.reduceSub, Nat.reduceLT, Nat.reduceLeDiff, reduceIte, Int.reduceToNat, Int.reduceBEq, Int.reduceBNe, Int.reduceLT, Int.reduceLE, Int.reduceGT, Int.reduceGE, Int.reduceEq, Int.reduceNe, Int.reduceAdd, Int.reduceSub, Int.reduceMul, Int.reduceNeg, Nat.reduceBEq, h])
      | (refine xw_id ?_; simp (config := { maxSteps := 4000000 }) only [go_sem, Nat.reduceEqDiff, Nat.reduceAdd, Nat.reduceMul, Nat.reduceSub, Nat.reduceLT, Nat.reduceLeDiff, reduceIte, Int.reduceToNat, Int.reduceBEq, Int.reduceBNe, Int.reduceLT, Int.reduceLE, Int.reduceGT, Int.reduceGE, Int.reduceEq, Int.reduceNe, Int.reduceAdd, Int.reduceSub, Int.reduceMul, Int.reduceNeg, Nat.reduceBEq])
      | (refine awp_cond (by simp only [ev, cst, upd_get, Nat.reduceEqDiff, reduceIte, if_true, if_false]; rfl) (fun h => ?_) (fun h => ?_) <;> first | (cases h; done) | skip)
      | (refine awp_cond1 (by simp only [ev, cst, upd_get, Nat.reduceEqDiff, reduceIte, if_true, if_false]; rfl) (fun h => ?_) (fun h => ?_) <;> first | (cases h; done) | skip)
      | (refine awp_skip ?_)
      | (refine awp_skip1 ?_)
      | (refine awp_ret ?_)
      | (refine awp_ret1 ?_)
      | (refine awp_exit ?_)
      | (refine awp_exit1 ?_)
      | (refine awp_block ?_)
      | (refine awp_block1 ?_)
      | (refine sq_n ?_)
      | (refine sq_e ?_)
      | (refine sq_r ?_)
      | (refine lq_n ?_)
      | (refine lq_e ?_)
      | (refine lq_r ?_)
      | (refine bq_n ?_)
      | (refine bq_r ?_)
      | (refine bq_e ?_)
      | (refine bq_o rfl ?_)
      | (refine end_ret rs35 (by simp only [go_sem, resV, resAll, resOf, packR, Nat.reduceEqDiff, reduceIte]; rfl) ?_)
      | (refine end_normal rs35 (by simp only [go_sem, resV, resAll, resOf, packR, Nat.reduceEqDiff, reduceIte]; rfl) ?_))
    all_goals simp [fz, nilS, within, *]

theorem r_in (n a b : Int) : SndP K 30 [vi n, vi a, vi b] (vb (within n a b)) := by
  refine SndP.of_walk hC ?_ (show K.P.funcs[30]? = some Try.f30 from Try.func30) rfl rfl (by decide +kernel) (Nat.le_of_ble_eq_true rfl) fun n => ?_
  · exact Clean.v _
  · repeat' (first
      | (refine hKK _ ?_; clear hKK KK)
      | (refine awp_assoc ?_)
      | (refine awp_nr [[0,1,2], [0,1,2]] (fun tz => by simp only [nth_z, nth_s, keep_n, keep_c, upd_get, init_arg, arg_z, arg_s, Nat.reduceEqDiff, reduceIte, if_true, if_false]; rfl) fun tz => ?_; refine awp_reg fun KK hKK => ?_; refine xw_id ?_; simp (config := { maxSteps := 4000000 }) only [go_sem, Nat.reduceEqDiff, Nat.reduceAdd, Nat.reduceMul, Nat.reduceSub, Nat.reduceLT, Nat.reduceLeDiff, reduceIte, Int.reduceToNat, Int.reduceBEq, Int.reduceBNe, Int.reduceLT, Int.reduceLE, Int.reduceGT, Int.reduceGE, Int.reduceEq, Int.reduceNe, Int.reduceAdd, Int.reduceSub, Int.reduceMul, Int.reduceNeg, Nat.reduceBEq])
      | (refine awp_nr1 [[0,1,2], [0,1,2]] (fun tz => by simp only [nth_z, nth_s, keep_n, keep_c, upd_get, init_arg, arg_z, arg_s, Nat.reduceEqDiff, reduceIte, if_true, if_false]; rfl) fun tz => ?_; refine awp_reg1 fun KK hKK => ?_; refine xw_id ?_; simp (config := { maxSteps := 4000000 }) only [go_sem, Nat.reduceEqDiff, Nat.reduceAdd, Nat.reduceMul, Nat.reduceSub, Nat.reduceLT, Nat.reduceLeDiff, reduceIte, Int.reduceToNat, Int.reduceBEq, Int.reduceBNe, Int.reduceLT, Int.reduceLE, Int.reduceGT, Int.reduceGE, Int.reduceEq, Int.reduceNe, Int.reduceAdd, Int.reduceSub, Int.reduceMul, Int.reduceNeg, Nat.reduceBEq])
      | (refine gsp_split (fun h => ?_) (fun h => ?_) <;> simp (config := { maxSteps := 4000000 }) only [go_sem, Nat.reduceEqDiff, Nat.reduceAdd, Nat.reduceMul, Nat.reduceSub, Nat.reduceLT, Nat.reduceLeDiff, reduceIte, Int.reduceToNat, Int.reduceBEq, Int.reduceBNe, Int.reduceLT, Int.reduceLE, Int.reduceGT, Int.reduceGE, Int.reduceEq, Int.reduceNe, Int.reduceAdd, Int.reduceSub, Int.reduceMul, Int.reduceNeg, Nat.reduceBEq, h])
      | (refine xw_id ?_; simp (config := { maxSteps := 4000000 }) only [go_sem, Nat.reduceEqDiff, Nat.reduceAdd, Nat.reduceMul, Nat.reduceSub, Nat.reduceLT, Nat.reduceLeDiff, reduceIte, Int.reduceToNat, Int.reduceBEq, Int.reduceBNe, Int.reduceLT, Int.reduceLE, Int.reduceGT, Int.reduceGE, Int.reduceEq, Int.reduceNe, Int.reduceAdd, Int.reduceSub, Int.reduceMul, Int.reduceNeg, Nat.reduceBEq])
      | (refine awp_cond (by simp only [ev, cst, upd_get, Nat.reduceEqDiff, reduceIte, if_true, if_false]; rfl) (fun h => ?_) (fun h => ?_) <;> first | (cases h; done) | skip)
      | (refine awp_cond1 (by simp only [ev, cst, upd_get, Nat.reduceEqDiff, reduceIte, if_true, if_false]; rfl) (fun h => ?_) (fun h => ?_) <;> first | (cases h; done) | skip)
      | (refine awp_skip ?_)
      | (refine awp_skip1 ?_)
      | (refine awp_ret ?_)
      | (refine awp_ret1 ?_)
      | (refine awp_exit ?_)
      | (refine awp_exit1 ?_)
      | (refine awp_block ?_)
      | (refine awp_block1 ?_)
      | (refine sq_n ?_)
      | (refine sq_e ?_)
      | (refine sq_r ?_)
      | (refine lq_n ?_)
      | (refine lq_e ?_)
      | (refine lq_r ?_)
      | (refine bq_n ?_)
      | (refine bq_r ?_)
      | (refine bq_e ?_)
      | (refine bq_o rfl ?_)
      | (refine end_ret rs30 (by simp only [go_sem, resV, resAll, resOf, packR, Nat.reduceEqDiff, reduceIte]; rfl) ?_)
      | (refine end_normal rs30 (by simp only [go_sem, resV, resAll, resOf, packR, Nat.reduceEqDiff, reduceIte]; rfl) ?_))
    all_goals (simp [fz, nilS, within, *]; try omega)

def num (a : Int) : Bool := decide (0 ≤ a) && decide (a < 4096)

theorem r_number (a : Int) : SndP K 31 [vi a] (vb (num a)) := by
  refine SndP.of_walk hC ?_ (show K.P.funcs[31]? = some Try.f31 from Try.func31) rfl rfl (by decide +kernel) (Nat.le_of_ble_eq_true rfl) fun n => ?_
  · exact Clean.v _
  · repeat' (first
      | (refine hKK _ ?_; clear hKK KK)
      | (refine awp_assoc ?_)
      | (refine awp_nr [[0], [0]] (fun tz => by simp only [nth_z, nth_s, keep_n, keep_c, upd_get, init_arg, arg_z, arg_s, Nat.reduceEqDiff, reduceIte, if_true, if_false]; rfl) fun tz => ?_; refine awp_reg fun KK hKK => ?_; refine xw_id ?_; simp (config := { maxSteps := 4000000 }) only [go_sem, Nat.reduceEqDiff, Nat.reduceAdd, Nat.reduceMul, Nat.reduceSub, Nat.reduceLT, Nat.reduceLeDiff, reduceIte, Int.reduceToNat, Int.reduceBEq, Int.reduceBNe, Int.reduceLT, Int.reduceLE, Int.reduceGT, Int.reduceGE, Int.reduceEq, Int.reduceNe, Int.reduceAdd, Int.reduceSub, Int.reduceMul, Int.reduceNeg, Nat.reduceBEq])
      | (refine awp_nr1 [[0], [0]] (fun tz => by simp only [nth_z, nth_s, keep_n, keep_c, upd_get, init_arg, arg_z, arg_s, Nat.reduceEqDiff, reduceIte, if_true, if_false]; rfl) fun tz => ?_; refine awp_reg1 fun KK hKK => ?_; refine xw_id ?_; simp (config := { maxSteps := 4000000 }) only [go_sem, Nat.reduceEqDiff, Nat.reduceAdd, Nat.reduceMul, Nat.reduceSub, Nat.reduceLT, Nat.reduceLeDiff, reduceIte, Int.reduceToNat, Int.reduceBEq, Int.reduceBNe, Int.reduceLT, Int.reduceLE, Int.reduceGT, Int.reduceGE, Int.reduceEq, Int.reduceNe, Int.reduceAdd, Int.reduceSub, Int.reduceMul, Int.reduceNeg, Nat.reduceBEq])
      | (refine gsp_split (fun h => ?_) (fun h => ?_) <;> simp (config := { maxSteps := 4000000 }) only [go_sem, Nat.reduceEqDiff, Nat.reduceAdd, Nat.reduceMul, Nat.reduceSub, Nat.reduceLT, Nat.reduceLeDiff, reduceIte, Int.reduceToNat, Int.reduceBEq, Int.reduceBNe, Int.reduceLT, Int.reduceLE, Int.reduceGT, Int.reduceGE, Int.reduceEq, Int.reduceNe, Int.reduceAdd, Int.reduceSub, Int.reduceMul, Int.reduceNeg, Nat.reduceBEq, h])
      | (refine xw_id ?_; simp (config := { maxSteps := 4000000 }) only [go_sem, Nat.reduceEqDiff, Nat.reduceAdd, Nat.reduceMul, Nat.reduceSub, Nat.reduceLT, Nat.reduceLeDiff, reduceIte, Int.reduceToNat, Int.reduceBEq, Int.reduceBNe, Int.reduceLT, Int.reduceLE, Int.reduceGT, Int.reduceGE, Int.reduceEq, Int.reduceNe, Int.reduceAdd, Int.reduceSub, Int.reduceMul, Int.reduceNeg, Nat.reduceBEq])
      | (refine awp_cond (by simp only [ev, cst, upd_get, Nat.reduceEqDiff, reduceIte, if_true, if_false]; rfl) (fun h => ?_) (fun h => ?_) <;> first | (cases h; done) | skip)
      | (refine awp_cond1 (by simp only [ev, cst, upd_get, Nat.reduceEqDiff, reduceIte, if_true, if_false]; rfl) (fun h => ?_) (fun h => ?_) <;> first | (cases h; done) | skip)
      | (refine awp_skip ?_)
      | (refine awp_skip1 ?_)
      | (refine awp_ret ?_)
      | (refine awp_ret1 ?_)
      | (refine awp_exit ?_)
      | (refine awp_exit1 ?_)
      | (refine awp_block ?_)
      | (refine awp_block1 ?_)
      | (refine sq_n ?_)
      | (refine sq_e ?_)
      | (refine sq_r ?_)
      | (refine lq_n ?_)
      | (refine lq_e ?_)
      | (refine lq_r ?_)
      | (refine bq_n ?_)
      | (refine bq_r ?_)
      | (refine bq_e ?_)
      | (refine bq_o rfl ?_)
      | (refine end_ret rs31 (by simp only [go_sem, resV, resAll, resOf, packR, Nat.reduceEqDiff, reduceIte]; rfl) ?_)
      | (refine end_normal rs31 (by simp only [go_sem, resV, resAll, resOf, packR, Nat.reduceEqDiff, reduceIte]; rfl) ?_))
    all_goals (simp [fz, nilS, num, *]; try omega)

theorem w_number (a : Int) : SndP K 41 [vi a] (vb (num a)) := by
  refine SndP.of_walk hC ?_ (show K.P.funcs[41]? = some Try.f41 from Try.func41) rfl rfl (by decide +kernel) (Nat.le_of_ble_eq_true rfl) fun n => ?_
  · exact Clean.v _
  · repeat' (first
      | (refine hKK _ ?_; clear hKK KK)
      | (refine awp_assoc ?_)
      | (refine awp_nr [[0], [0]] (fun tz => by simp only [nth_z, nth_s, keep_n, keep_c, upd_get, init_arg, arg_z, arg_s, Nat.reduceEqDiff, reduceIte, if_true, if_false]; rfl) fun tz => ?_; refine awp_reg fun KK hKK => ?_; refine xw_id ?_; simp (config := { maxSteps := 4000000 }) only [go_sem, Nat.reduceEqDiff, Nat.reduceAdd, Nat.reduceMul, Nat.reduceSub, Nat.reduceLT, Nat.reduceLeDiff, reduceIte, Int.reduceToNat, Int.reduceBEq, Int.reduceBNe, Int.reduceLT, Int.reduceLE, Int.reduceGT, Int.reduceGE, Int.reduceEq, Int.reduceNe, Int.reduceAdd, Int.reduceSub, Int.reduceMul, Int.reduceNeg, Nat.reduceBEq])
      | (refine awp_nr1 [[0], [0]] (fun tz => by simp only [nth_z, nth_s, keep_n, keep_c, upd_get, init_arg, arg_z, arg_s, Nat.reduceEqDiff, reduceIte, if_true, if_false]; rfl) fun tz => ?_; refine awp_reg1 fun KK hKK => ?_; refine xw_id ?_; simp (config := { maxSteps := 4000000 }) only [go_sem, Nat.reduceEqDiff, Nat.reduceAdd, Nat.reduceMul, Nat.reduceSub, Nat.reduceLT, Nat.reduceLeDiff, reduceIte, Int.reduceToNat, Int.reduceBEq, Int.reduceBNe, Int.reduceLT, Int.reduceLE, Int.reduceGT, Int.reduceGE, Int.reduceEq, Int.reduceNe, Int.reduceAdd, Int.reduceSub, Int.reduceMul, Int.reduceNeg, Nat.reduceBEq])
      | (refine gsp_split (fun h => ?_) (fun h => ?_) <;> simp (config := { maxSteps := 4000000 }) only [go_sem, Nat.reduceEqDiff, Nat.reduceAdd, Nat.reduceMul, Nat.reduceSub, Nat.reduceLT, Nat.reduceLeDiff, reduceIte, Int.reduceToNat, Int.reduceBEq, Int.reduceBNe, Int.reduceLT, Int.reduceLE, Int.reduceGT, Int.reduceGE, Int.reduceEq, Int.reduceNe, Int.reduceAdd, Int.reduceSub, Int.reduceMul, Int.reduceNeg, Nat.reduceBEq, h])
      | (refine xw_id ?_; simp (config := { maxSteps := 4000000 }) only [go_sem, Nat.reduceEqDiff, Nat.reduceAdd, Nat.reduceMul, Nat.reduceSub, Nat.reduceLT, Nat.reduceLeDiff, reduceIte, Int.reduceToNat, Int.reduceBEq, Int.reduceBNe, Int.reduceLT, Int.reduceLE, Int.reduceGT, Int.reduceGE, Int.reduceEq, Int.reduceNe, Int.reduceAdd, Int.reduceSub, Int.reduceMul, Int.reduceNeg, Nat.reduceBEq])
      | (refine awp_cond (by simp only [ev, cst, upd_get, Nat.reduceEqDiff, reduceIte, if_true, if_false]; rfl) (fun h => ?_) (fun h => ?_) <;> first | (cases h; done) | skip)
      | (refine awp_cond1 (by simp only [ev, cst, upd_get, Nat.reduceEqDiff, reduceIte, if_true, if_false]; rfl) (fun h => ?_) (fun h => ?_) <;> first | (cases h; done) | skip)
      | (refine awp_skip ?_)
      | (refine awp_skip1 ?_)
      | (refine awp_ret ?_)
      | (refine awp_ret1 ?_)
      | (refine awp_exit ?_)
      | (refine awp_exit1 ?_)
      | (refine awp_block ?_)
      | (refine awp_block1 ?_)
      | (refine sq_n ?_)
      | (refine sq_e ?_)
      | (refine sq_r ?_)
      | (refine lq_n ?_)
      | (refine lq_e ?_)
      | (refine lq_r ?_)
      | (refine bq_n ?_)
      | (refine bq_r ?_)
      | (refine bq_e ?_)
      | (refine bq_o rfl ?_)
      | (refine end_ret rs41 (by simp only [go_sem, resV, resAll, resOf, packR, Nat.reduceEqDiff, reduceIte]; rfl) ?_)
      | (refine end_normal rs41 (by simp only [go_sem, resV, resAll, resOf, packR, Nat.reduceEqDiff, reduceIte]; rfl) ?_))
    all_goals (simp [fz, nilS, num, *]; try omega)

theorem p_dist (a b : Int) : SndP K 27 [vi a, vi b] (vi (dist a b)) := by
  refine SndP.of_walk hC ?_ (show K.P.funcs[27]? = some Try.f27 from Try.func27) rfl rfl (by decide +kernel) (Nat.le_of_ble_eq_true rfl) fun n => ?_
  · exact Clean.v _
  · repeat' (first
      | (refine hKK _ ?_; clear hKK KK)
      | (refine awp_assoc ?_)
      | (refine awp_nr [[0,1], [0,1]] (fun tz => by simp only [nth_z, nth_s, keep_n, keep_c, upd_get, init_arg, arg_z, arg_s, Nat.reduceEqDiff, reduceIte, if_true, if_false]; rfl) fun tz => ?_; refine awp_reg fun KK hKK => ?_; refine xw_id ?_; simp (config := { maxSteps := 4000000 }) only [go_sem, Nat.reduceEqDiff, Nat.reduceAdd, Nat.reduceMul, Nat.reduceSub, Nat.reduceLT, Nat.reduceLeDiff, reduceIte, Int.reduceToNat, Int.reduceBEq, Int.reduceBNe, Int.reduceLT, Int.reduceLE, Int.reduceGT, Int.reduceGE, Int.reduceEq, Int.reduceNe, Int.reduceAdd, Int.reduceSub, Int.reduceMul, Int.reduceNeg, Nat.reduceBEq])
      | (refine awp_nr1 [[0,1], [0,1]] (fun tz => by simp only [nth_z, nth_s, keep_n, keep_c, upd_get, init_arg, arg_z, arg_s, Nat.reduceEqDiff, reduceIte, if_true, if_false]; rfl) fun tz => ?_; refine awp_reg1 fun KK hKK => ?_; refine xw_id ?_; simp (config := { maxSteps := 4000000 }) only [go_sem, Nat.reduceEqDiff, Nat.reduceAdd, Nat.reduceMul, Nat.reduceSub, Nat.reduceLT, Nat.reduceLeDiff, reduceIte, Int.reduceToNat, Int.reduceBEq, Int.reduceBNe, Int.reduceLT, Int.reduceLE, Int.reduceGT, Int.reduceGE, Int.reduceEq, Int.reduceNe, Int.reduceAdd, Int.reduceSub, Int.reduceMul, Int.reduceNeg, Nat.reduceBEq])
      | (refine gsp_split (fun h => ?_) (fun h => ?_) <;> simp (config := { maxSteps := 4000000 }) only [go_sem, Nat.reduceEqDiff, Nat.reduceAdd, Nat.reduceMul, Nat.reduceSub, Nat.reduceLT, Nat.reduceLeDiff, reduceIte, Int.reduceToNat, Int.reduceBEq, Int.reduceBNe, Int.reduceLT, Int.reduceLE, Int.reduceGT, Int.reduceGE, Int.reduceEq, Int.reduceNe, Int.reduceAdd, Int.reduceSub, Int.reduceMul, Int.reduceNeg, Nat.reduceBEq, h])
      | (refine xw_id ?_; simp (config := { maxSteps := 4000000 }) only [go_sem, Nat.reduceEqDiff, Nat.reduceAdd, Nat.reduceMul, Nat.reduceSub, Nat.reduceLT, Nat.reduceLeDiff, reduceIte, Int.reduceToNat, Int.reduceBEq, Int.reduceBNe, Int.reduceLT, Int.reduceLE, Int.reduceGT, Int.reduceGE, Int.reduceEq, Int.reduceNe, Int.reduceAdd, Int.reduceSub, Int.reduceMul, Int.reduceNeg, Nat.reduceBEq])
      | (refine awp_cond (by simp only [ev, cst, upd_get, Nat.reduceEqDiff, reduceIte, if_true, if_false]; rfl) (fun h => ?_) (fun h => ?_) <;> first | (cases h; done) | skip)
      | (refine awp_cond1 (by simp only [ev, cst, upd_get, Nat.reduceEqDiff, reduceIte, if_true, if_false]; rfl) (fun h => ?_) (fun h => ?_) <;> first | (cases h; done) | skip)
      | (refine awp_skip ?_)
      | (refine awp_skip1 ?_)
      | (refine awp_ret ?_)
      | (refine awp_ret1 ?_)
      | (refine awp_exit ?_)
      | (refine awp_exit1 ?_)
      | (refine awp_block ?_)
      | (refine awp_block1 ?_)
      | (refine sq_n ?_)
      | (refine sq_e ?_)
      | (refine sq_r ?_)
      | (refine lq_n ?_)
      | (refine lq_e ?_)
      | (refine lq_r ?_)
      | (refine bq_n ?_)
      | (refine bq_r ?_)
      | (refine bq_e ?_)
      | (refine bq_o rfl ?_)
      | (refine end_ret rs27 (by simp only [go_sem, resV, resAll, resOf, packR, Nat.reduceEqDiff, reduceIte]; rfl) ?_)
      | (refine end_normal rs27 (by simp only [go_sem, resV, resAll, resOf, packR, Nat.reduceEqDiff, reduceIte]; rfl) ?_))
    all_goals (simp (config := { maxSteps := 4000000 }) only [go_sem, Nat.reduceEqDiff, Nat.reduceAdd, Nat.reduceMul, Nat.reduceSub, Nat.reduceLT, Nat.reduceLeDiff, reduceIte, Int.reduceToNat, Int.reduceBEq, Int.reduceBNe, Int.reduceLT, Int.reduceLE, Int.reduceGT, Int.reduceGE, Int.reduceEq, Int.reduceNe, Int.reduceAdd, Int.reduceSub, Int.reduceMul, Int.reduceNeg, Nat.reduceBEq, fz, nilS, packR, List.take_nil]; exact congrArg vi (dist_bits a b))

theorem p_add (a b : Int) : SndP K 24 [vi a, vi b] (vi ((a + b) % 4096)) := by
  refine SndP.of_walk hC ?_ (show K.P.funcs[24]? = some Try.f24 from Try.func24) rfl rfl (by decide +kernel) (Nat.le_of_ble_eq_true rfl) fun n => ?_
  · exact Clean.v _
  · repeat' (first
      | (refine hKK _ ?_; clear hKK KK)
      | (refine awp_assoc ?_)
      | (refine awp_nr [[0,1], [0,1]] (fun tz => by simp only [nth_z, nth_s, keep_n, keep_c, upd_get, init_arg, arg_z, arg_s, Nat.reduceEqDiff, reduceIte, if_true, if_false]; rfl) fun tz => ?_; refine awp_reg fun KK hKK => ?_; refine xw_id ?_; simp (config := { maxSteps := 4000000 }) only [go_sem, Nat.reduceEqDiff, Nat.reduceAdd, Nat.reduceMul, Nat.reduceSub, Nat.reduceLT, Nat.reduceLeDiff, reduceIte, Int.reduceToNat, Int.reduceBEq, Int.reduceBNe, Int.reduceLT, Int.reduceLE, Int.reduceGT, Int.reduceGE, Int.reduceEq, Int.reduceNe, Int.reduceAdd, Int.reduceSub, Int.reduceMul, Int.reduceNeg, Nat.reduceBEq])
      | (refine awp_nr1 [[0,1], [0,1]] (fun tz => by simp only [nth_z, nth_s, keep_n, keep_c, upd_get, init_arg, arg_z, arg_s, Nat.reduceEqDiff, reduceIte, if_true, if_false]; rfl) fun tz => ?_; refine awp_reg1 fun KK hKK => ?_; refine xw_id ?_; simp (config := { maxSteps := 4000000 }) only [go_sem, Nat.reduceEqDiff, Nat.reduceAdd, Nat.reduceMul, Nat.reduceSub, Nat.reduceLT, Nat.reduceLeDiff, reduceIte, Int.reduceToNat, Int.reduceBEq, Int.reduceBNe, Int.reduceLT, Int.reduceLE, Int.reduceGT, Int.reduceGE, Int.reduceEq, Int.reduceNe, Int.reduceAdd, Int.reduceSub, Int.reduceMul, Int.reduceNeg, Nat.reduceBEq])
      | (refine gsp_split (fun h => ?_) (fun h => ?_) <;> simp (config := { maxSteps := 4000000 }) only [go_sem, Nat.reduceEqDiff, Nat.reduceAdd, Nat.reduceMul, Nat.reduceSub, Nat.reduceLT, Nat.reduceLeDiff, reduceIte, Int.reduceToNat, Int.reduceBEq, Int.reduceBNe, Int.reduceLT, Int.reduceLE, Int.reduceGT, Int.reduceGE, Int.reduceEq, Int.reduceNe, Int.reduceAdd, Int.reduceSub, Int.reduceMul, Int.reduceNeg, Nat.reduceBEq, h])
      | (refine xw_id ?_; simp (config := { maxSteps := 4000000 }) only [go_sem, Nat.reduceEqDiff, Nat.reduceAdd, Nat.reduceMul, Nat.reduceSub, Nat.reduceLT, Nat.reduceLeDiff, reduceIte, Int.reduceToNat, Int.reduceBEq, Int.reduceBNe, Int.reduceLT, Int.reduceLE, Int.reduceGT, Int.reduceGE, Int.reduceEq, Int.reduceNe, Int.reduceAdd, Int.reduceSub, Int.reduceMul, Int.reduceNeg, Nat.reduceBEq])
      | (refine awp_cond (by simp only [ev, cst, upd_get, Nat.reduceEqDiff, reduceIte, if_true, if_false]; rfl) (fun h => ?_) (fun h => ?_) <;> first | (cases h; done) | skip)
      | (refine awp_cond1 (by simp only [ev, cst, upd_get, Nat.reduceEqDiff, reduceIte, if_true, if_false]; rfl) (fun h => ?_) (fun h => ?_) <;> first | (cases h; done) | skip)
      | (refine awp_skip ?_)
      | (refine awp_skip1 ?_)
      | (refine awp_ret ?_)
      | (refine awp_ret1 ?_)
      | (refine awp_exit ?_)
      | (refine awp_exit1 ?_)
      | (refine awp_block ?_)
      | (refine awp_block1 ?_)
      | (refine sq_n ?_)
      | (refine sq_e ?_)
      | (refine sq_r ?_)
      | (refine lq_n ?_)
      | (refine lq_e ?_)
      | (refine lq_r ?_)
      | (refine bq_n ?_)
      | (refine bq_r ?_)
      | (refine bq_e ?_)
      | (refine bq_o rfl ?_)
      | (refine end_ret rs24 (by simp only [go_sem, resV, resAll, resOf, packR, Nat.reduceEqDiff, reduceIte]; rfl) ?_)
      | (refine end_normal rs24 (by simp only [go_sem, resV, resAll, resOf, packR, Nat.reduceEqDiff, reduceIte]; rfl) ?_))
    all_goals (simp (config := { maxSteps := 4000000 }) only [go_sem, Nat.reduceEqDiff, Nat.reduceAdd, Nat.reduceMul, Nat.reduceSub, Nat.reduceLT, Nat.reduceLeDiff, reduceIte, Int.reduceToNat, Int.reduceBEq, Int.reduceBNe, Int.reduceLT, Int.reduceLE, Int.reduceGT, Int.reduceGE, Int.reduceEq, Int.reduceNe, Int.reduceAdd, Int.reduceSub, Int.reduceMul, Int.reduceNeg, Nat.reduceBEq, fz, nilS, packR, List.take_nil]; exact congrArg vi (add_bits a b))

theorem r_rest (a : Int) : SndP K 52 [vi a] (vi (a % 4096)) := by
  refine SndP.of_walk hC ?_ (show K.P.funcs[52]? = some Try.f52 from Try.func52) rfl rfl (by decide +kernel) (Nat.le_of_ble_eq_true rfl) fun n => ?_
  · exact Clean.v _
  · repeat' (first
      | (refine hKK _ ?_; clear hKK KK)
      | (refine awp_assoc ?_)
      | (refine awp_nr [[0], [0], [3], [3], [3]] (fun tz => by simp only [nth_z, nth_s, keep_n, keep_c, upd_get, init_arg, arg_z, arg_s, Nat.reduceEqDiff, reduceIte, if_true, if_false]; rfl) fun tz => ?_; refine awp_reg fun KK hKK => ?_; refine xw_id ?_; simp (config := { maxSteps := 4000000 }) only [go_sem, Nat.reduceEqDiff, Nat.reduceAdd, Nat.reduceMul, Nat.reduceSub, Nat.reduceLT, Nat.reduceLeDiff, reduceIte, Int.reduceToNat, Int.reduceBEq, Int.reduceBNe, Int.reduceLT, Int.reduceLE, Int.reduceGT, Int.reduceGE, Int.reduceEq, Int.reduceNe, Int.reduceAdd, Int.reduceSub, Int.reduceMul, Int.reduceNeg, Nat.reduceBEq])
      | (refine awp_nr1 [[0], [0], [3], [3], [3]] (fun tz => by simp only [nth_z, nth_s, keep_n, keep_c, upd_get, init_arg, arg_z, arg_s, Nat.reduceEqDiff, reduceIte, if_true, if_false]; rfl) fun tz => ?_; refine awp_reg1 fun KK hKK => ?_; refine xw_id ?_; simp (config := { maxSteps := 4000000 }) only [go_sem, Nat.reduceEqDiff, Nat.reduceAdd, Nat.reduceMul, Nat.reduceSub, Nat.reduceLT, Nat.reduceLeDiff, reduceIte, Int.reduceToNat, Int.reduceBEq, Int.reduceBNe, Int.reduceLT, Int.reduceLE, Int.reduceGT, Int.reduceGE, Int.reduceEq, Int.reduceNe, Int.reduceAdd, Int.reduceSub, Int.reduceMul, Int.reduceNeg, Nat.reduceBEq])
      | (refine gsp_split (fun h => ?_) (fun h => ?_) <;> simp (config := { maxSteps := 4000000 }) only [go_sem, Nat.reduceEqDiff, Nat.reduceAdd, Nat.reduceMul, Nat.reduceSub, Nat.reduceLT, Nat.reduceLeDiff, reduceIte, Int.reduceToNat, Int.reduceBEq, Int.reduceBNe, Int.reduceLT, Int.reduceLE, Int.reduceGT, Int.reduceGE, Int.reduceEq, Int.reduceNe, Int.reduceAdd, Int.reduceSub, Int.reduceMul, Int.reduceNeg, Nat.reduceBEq, h])
      | (refine xw_id ?_; simp (config := { maxSteps := 4000000 }) only [go_sem, Nat.reduceEqDiff, Nat.reduceAdd, Nat.reduceMul, Nat.reduceSub, Nat.reduceLT, Nat.reduceLeDiff, reduceIte, Int.reduceToNat, Int.reduceBEq, Int.reduceBNe, Int.reduceLT, Int.reduceLE, Int.reduceGT, Int.reduceGE, Int.reduceEq, Int.reduceNe, Int.reduceAdd, Int.reduceSub, Int.reduceMul, Int.reduceNeg, Nat.reduceBEq])
      | (refine awp_cond (by simp only [ev, cst, upd_get, Nat.reduceEqDiff, reduceIte, if_true, if_false]; rfl) (fun h => ?_) (fun h => ?_) <;> first | (cases h; done) | skip)
      | (refine awp_cond1 (by simp only [ev, cst, upd_get, Nat.reduceEqDiff, reduceIte, if_true, if_false]; rfl) (fun h => ?_) (fun h => ?_) <;> first | (cases h; done) | skip)
      | (refine awp_skip ?_)
      | (refine awp_skip1 ?_)
      | (refine awp_ret ?_)
      | (refine awp_ret1 ?_)
      | (refine awp_exit ?_)
      | (refine awp_exit1 ?_)
      | (refine awp_block ?_)
      | (refine awp_block1 ?_)
      | (refine sq_n ?_)
      | (refine sq_e ?_)
      | (refine sq_r ?_)
      | (refine lq_n ?_)
      | (refine lq_e ?_)
      | (refine lq_r ?_)
      | (refine bq_n ?_)
      | (refine bq_r ?_)
      | (refine bq_e ?_)
      | (refine bq_o rfl ?_)
      | (refine end_ret rs52 (by simp only [go_sem, resV, resAll, resOf, packR, Nat.reduceEqDiff, reduceIte]; rfl) ?_)
      | (refine end_normal rs52 (by simp only [go_sem, resV, resAll, resOf, packR, Nat.reduceEqDiff, reduceIte]; rfl) ?_))
    · simp (config := { maxSteps := 4000000 }) only [go_sem, Nat.reduceEqDiff, Nat.reduceAdd, Nat.reduceMul, Nat.reduceSub, Nat.reduceLT, Nat.reduceLeDiff, reduceIte, Int.reduceToNat, Int.reduceBEq, Int.reduceBNe, Int.reduceLT, Int.reduceLE, Int.reduceGT, Int.reduceGE, Int.reduceEq, Int.reduceNe, Int.reduceAdd, Int.reduceSub, Int.reduceMul, Int.reduceNeg, Nat.reduceBEq, fz, nilS, packR, List.take_nil]; rw [(tmod_4096 a).1 (by simpa using h)]
    · simp (config := { maxSteps := 4000000 }) only [go_sem, Nat.reduceEqDiff, Nat.reduceAdd, Nat.reduceMul, Nat.reduceSub, Nat.reduceLT, Nat.reduceLeDiff, reduceIte, Int.reduceToNat, Int.reduceBEq, Int.reduceBNe, Int.reduceLT, Int.reduceLE, Int.reduceGT, Int.reduceGE, Int.reduceEq, Int.reduceNe, Int.reduceAdd, Int.reduceSub, Int.reduceMul, Int.reduceNeg, Nat.reduceBEq, fz, nilS, packR, List.take_nil]; rw [(tmod_4096 a).2 (by simpa using h)]

/-- The distance, counted. -/
theorem r_dist (a b : Int) : SndP K 32 [vi a, vi b] (vi (dist a b)) := by
  refine SndP.of_walk hC ?_ (show K.P.funcs[32]? = some Try.f32 from Try.func32) rfl rfl (by decide +kernel) (Nat.le_of_ble_eq_true rfl) fun n => ?_
  · exact Clean.v _
  · repeat' (first
      | (refine hKK _ ?_; clear hKK KK)
      | (refine awp_assoc ?_)
      | (refine awp_nr [[0,1], [0,1], [0,1], [0,1,5], [0,1,5], [0,1,5], [5]] (fun tz => by simp only [nth_z, nth_s, keep_n, keep_c, upd_get, init_arg, arg_z, arg_s, Nat.reduceEqDiff, reduceIte, if_true, if_false]; rfl) fun tz => ?_; refine awp_reg fun KK hKK => ?_; refine xw_id ?_; simp (config := { maxSteps := 4000000 }) only [go_sem, Nat.reduceEqDiff, Nat.reduceAdd, Nat.reduceMul, Nat.reduceSub, Nat.reduceLT, Nat.reduceLeDiff, reduceIte, Int.reduceToNat, Int.reduceBEq, Int.reduceBNe, Int.reduceLT, Int.reduceLE, Int.reduceGT, Int.reduceGE, Int.reduceEq, Int.reduceNe, Int.reduceAdd, Int.reduceSub, Int.reduceMul, Int.reduceNeg, Nat.reduceBEq])
      | (refine awp_nr1 [[0,1], [0,1], [0,1], [0,1,5], [0,1,5], [0,1,5], [5]] (fun tz => by simp only [nth_z, nth_s, keep_n, keep_c, upd_get, init_arg, arg_z, arg_s, Nat.reduceEqDiff, reduceIte, if_true, if_false]; rfl) fun tz => ?_; refine awp_reg1 fun KK hKK => ?_; refine xw_id ?_; simp (config := { maxSteps := 4000000 }) only [go_sem, Nat.reduceEqDiff, Nat.reduceAdd, Nat.reduceMul, Nat.reduceSub, Nat.reduceLT, Nat.reduceLeDiff, reduceIte, Int.reduceToNat, Int.reduceBEq, Int.reduceBNe, Int.reduceLT, Int.reduceLE, Int.reduceGT, Int.reduceGE, Int.reduceEq, Int.reduceNe, Int.reduceAdd, Int.reduceSub, Int.reduceMul, Int.reduceNeg, Nat.reduceBEq])
      | (refine gsp_split (fun h => ?_) (fun h => ?_) <;> simp (config := { maxSteps := 4000000 }) only [go_sem, Nat.reduceEqDiff, Nat.reduceAdd, Nat.reduceMul, Nat.reduceSub, Nat.reduceLT, Nat.reduceLeDiff, reduceIte, Int.reduceToNat, Int.reduceBEq, Int.reduceBNe, Int.reduceLT, Int.reduceLE, Int.reduceGT, Int.reduceGE, Int.reduceEq, Int.reduceNe, Int.reduceAdd, Int.reduceSub, Int.reduceMul, Int.reduceNeg, Nat.reduceBEq, h])
      | (refine xcall_p (r_rest _) ?_; try dsimp only)
      | (refine xcall_n (r_rest _) ?_; try dsimp only)
      | (refine xw_id ?_; simp (config := { maxSteps := 4000000 }) only [go_sem, Nat.reduceEqDiff, Nat.reduceAdd, Nat.reduceMul, Nat.reduceSub, Nat.reduceLT, Nat.reduceLeDiff, reduceIte, Int.reduceToNat, Int.reduceBEq, Int.reduceBNe, Int.reduceLT, Int.reduceLE, Int.reduceGT, Int.reduceGE, Int.reduceEq, Int.reduceNe, Int.reduceAdd, Int.reduceSub, Int.reduceMul, Int.reduceNeg, Nat.reduceBEq])
      | (refine awp_cond (by simp only [ev, cst, upd_get, Nat.reduceEqDiff, reduceIte, if_true, if_false]; rfl) (fun h => ?_) (fun h => ?_) <;> first | (cases h; done) | skip)
      | (refine awp_cond1 (by simp only [ev, cst, upd_get, Nat.reduceEqDiff, reduceIte, if_true, if_false]; rfl) (fun h => ?_) (fun h => ?_) <;> first | (cases h; done) | skip)
      | (refine awp_skip ?_)
      | (refine awp_skip1 ?_)
      | (refine awp_ret ?_)
      | (refine awp_ret1 ?_)
      | (refine awp_exit ?_)
      | (refine awp_exit1 ?_)
      | (refine awp_block ?_)
      | (refine awp_block1 ?_)
      | (refine sq_n ?_)
      | (refine sq_e ?_)
      | (refine sq_r ?_)
      | (refine lq_n ?_)
      | (refine lq_e ?_)
      | (refine lq_r ?_)
      | (refine bq_n ?_)
      | (refine bq_r ?_)
      | (refine bq_e ?_)
      | (refine bq_o rfl ?_)
      | (refine end_ret rs32 (by simp only [go_sem, resV, resAll, resOf, packR, Nat.reduceEqDiff, reduceIte]; rfl) ?_)
      | (refine end_normal rs32 (by simp only [go_sem, resV, resAll, resOf, packR, Nat.reduceEqDiff, reduceIte]; rfl) ?_))
    refine awp_loopFO1 [1] (fun k t => ∃ (d : Nat), (d + k = ((b - a) % 4096).toNat) ∧ (t.tmps 0 = vi ((a + d) % 4096)) ∧ (t.tmps 5 = vi d)) (((b - a) % 4096).toNat) ⟨0, by omega, (by simp : vi (a % 4096) = vi ((a + ((0 : Nat) : Int)) % 4096)), rfl⟩ ?_
    rintro k ⟨⟨objs, nx⟩, tm⟩ ⟨d, c1, h0, h5⟩ hF hO hN
    dsimp only at c1 h0 h5 hF hO hN
    subst hO
    obtain ⟨u1, _⟩ := hF; try simp only [upd_get, init_arg, arg_z, arg_s, Nat.reduceEqDiff, reduceIte, if_true, if_false] at u1
    have f0 : IntKind.wrap .i64 ((a + d) % 4096 + 1) = (a + d) % 4096 + 1 := wrap64 (by omega) (by omega)
    have f1 : ((a + d) % 4096 + 1).tmod 4096 = (a + (d + 1 : Nat)) % 4096 := by
      rw [Int.tmod_eq_emod_of_nonneg (by omega)]; omega
    have f2 : IntKind.wrap .i64 ((d : Int) + 1) = ((d + 1 : Nat) : Int) := by rw [wrap64 (by omega) (by omega)]; omega
    repeat' (first
      | (refine hKK _ ?_; clear hKK KK)
      | (refine awp_assoc ?_)
      | (refine awp_nr [[0,1], [0,1], [0,1], [0,1,5], [0,1,5], [0,1,5], [5]] (fun tz => by simp only [nth_z, nth_s, keep_n, keep_c, upd_get, init_arg, arg_z, arg_s, Nat.reduceEqDiff, reduceIte, if_true, if_false, h0, h5, u1, f0, f1, f2]; rfl) fun tz => ?_; refine awp_reg fun KK hKK => ?_; refine xw_id ?_; simp (config := { maxSteps := 4000000 }) only [go_sem, Nat.reduceEqDiff, Nat.reduceAdd, Nat.reduceMul, Nat.reduceSub, Nat.reduceLT, Nat.reduceLeDiff, reduceIte, Int.reduceToNat, Int.reduceBEq, Int.reduceBNe, Int.reduceLT, Int.reduceLE, Int.reduceGT, Int.reduceGE, Int.reduceEq, Int.reduceNe, Int.reduceAdd, Int.reduceSub, Int.reduceMul, Int.reduceNeg, Nat.reduceBEq, h0, h5, u1, f0, f1, f2])
      | (refine awp_nr1 [[0,1], [0,1], [0,1], [0,1,5], [0,1,5], [0,1,5], [5]] (fun tz => by simp only [nth_z, nth_s, keep_n, keep_c, upd_get, init_arg, arg_z, arg_s, Nat.reduceEqDiff, reduceIte, if_true, if_false, h0, h5, u1, f0, f1, f2]; rfl) fun tz => ?_; refine awp_reg1 fun KK hKK => ?_; refine xw_id ?_; simp (config := { maxSteps := 4000000 }) only [go_sem, Nat.reduceEqDiff, Nat.reduceAdd, Nat.reduceMul, Nat.reduceSub, Nat.reduceLT, Nat.reduceLeDiff, reduceIte, Int.reduceToNat, Int.reduceBEq, Int.reduceBNe, Int.reduceLT, Int.reduceLE, Int.reduceGT, Int.reduceGE, Int.reduceEq, Int.reduceNe, Int.reduceAdd, Int.reduceSub, Int.reduceMul, Int.reduceNeg, Nat.reduceBEq, h0, h5, u1, f0, f1, f2])
      | (refine gsp_split (fun h => ?_) (fun h => ?_) <;> simp (config := { maxSteps := 4000000 }) only [go_sem, Nat.reduceEqDiff, Nat.reduceAdd, Nat.reduceMul, Nat.reduceSub, Nat.reduceLT, Nat.reduceLeDiff, reduceIte, Int.reduceToNat, Int.reduceBEq, Int.reduceBNe, Int.reduceLT, Int.reduceLE, Int.reduceGT, Int.reduceGE, Int.reduceEq, Int.reduceNe, Int.reduceAdd, Int.reduceSub, Int.reduceMul, Int.reduceNeg, Nat.reduceBEq, h0, h5, u1, f0, f1, f2, h])
      | (refine xcall_p (r_rest _) ?_; try dsimp only)
      | (refine xcall_n (r_rest _) ?_; try dsimp only)
      | (refine xw_id ?_; simp (config := { maxSteps := 4000000 }) only [go_sem, Nat.reduceEqDiff, Nat.reduceAdd, Nat.reduceMul, Nat.reduceSub, Nat.reduceLT, Nat.reduceLeDiff, reduceIte, Int.reduceToNat, Int.reduceBEq, Int.reduceBNe, Int.reduceLT, Int.reduceLE, Int.reduceGT, Int.reduceGE, Int.reduceEq, Int.reduceNe, Int.reduceAdd, Int.reduceSub, Int.reduceMul, Int.reduceNeg, Nat.reduceBEq, h0, h5, u1, f0, f1, f2])
      | (refine awp_cond (by simp only [ev, cst, upd_get, Nat.reduceEqDiff, reduceIte, if_true, if_false, h0, h5, u1, f0, f1, f2]; rfl) (fun h => ?_) (fun h => ?_) <;> first | (cases h; done) | skip)
      | (refine awp_cond1 (by simp only [ev, cst, upd_get, Nat.reduceEqDiff, reduceIte, if_true, if_false, h0, h5, u1, f0, f1, f2]; rfl) (fun h => ?_) (fun h => ?_) <;> first | (cases h; done) | skip)
      | (refine awp_skip ?_)
      | (refine awp_skip1 ?_)
      | (refine awp_ret ?_)
      | (refine awp_ret1 ?_)
      | (refine awp_exit ?_)
      | (refine awp_exit1 ?_)
      | (refine awp_block ?_)
      | (refine awp_block1 ?_)
      | (refine sq_n ?_)
      | (refine sq_e ?_)
      | (refine sq_r ?_)
      | (refine lq_n ?_)
      | (refine lq_e ?_)
      | (refine lq_r ?_)
      | (refine bq_n ?_)
      | (refine bq_r ?_)
      | (refine bq_e ?_)
      | (refine bq_o rfl ?_)
      | (refine end_ret rs32 (by simp only [go_sem, resV, resAll, resOf, packR, Nat.reduceEqDiff, reduceIte, h0, h5, u1, f0, f1, f2]; rfl) ?_)
      | (refine end_normal rs32 (by simp only [go_sem, resV, resAll, resOf, packR, Nat.reduceEqDiff, reduceIte, h0, h5, u1, f0, f1, f2]; rfl) ?_))
    · simp at h
      refine ⟨k - 1, by omega, ⟨d + 1, ?_, (by first | rfl | (simp only [upd_get, init_arg, arg_z, arg_s, Nat.reduceEqDiff, reduceIte, if_true, if_false, h0, h5, u1]; done)), (by first | rfl | (simp only [upd_get, init_arg, arg_z, arg_s, Nat.reduceEqDiff, reduceIte, if_true, if_false, h0, h5, u1]; done))⟩, by (repeat (first | exact trivial | refine And.intro rfl ?_)), rfl, by (try simp only); omega⟩
      omega
    · simp at h
      simp (config := { maxSteps := 4000000 }) only [go_sem, Nat.reduceEqDiff, Nat.reduceAdd, Nat.reduceMul, Nat.reduceSub, Nat.reduceLT, Nat.reduceLeDiff, reduceIte, Int.reduceToNat, Int.reduceBEq, Int.reduceBNe, Int.reduceLT, Int.reduceLE, Int.reduceGT, Int.reduceGE, Int.reduceEq, Int.reduceNe, Int.reduceAdd, Int.reduceSub, Int.reduceMul, Int.reduceNeg, Nat.reduceBEq, fz, nilS, packR, List.take_nil, h0, h5, u1]
      refine congrArg vi ?_
      unfold dist
      omega

end Go.AX.SE
