/- A part of the proof: SeD. -/
import Derived.Test.YtjijidmbpfjioaaSeC
namespace Go.AX.SE
open Go.Proofs
attribute [local irreducible] awp xw xop xcall gsp ob xd xdop xcallD seqQ loopQ blkQ endQ
set_option linter.unusedSimpArgs false
set_option maxHeartbeats 4000000

theorem sd_clean (s : Sd) (o : AV) (h : Clean o) : Clean (.agg (sd s o)) := by
  refine Clean.agg fun c hc => ?_
  simp only [sd, List.mem_cons, List.mem_append, List.not_mem_nil, or_false] at hc
  rcases hc with h1 | h1 | h1 | h1 | h1 | h1 | h1 | h1 | h1 <;> subst h1 <;> first | exact Clean.v _ | exact h

theorem us0_clean : Clean (us []) := Bare.imm0.clean

theorem p_check0 (s : Sd) : SndP K 15 [.agg (sd s vnil)] (vi (bif check s [] then 0 else 8)) := SndP.norm (p_check s [] (by simp))
theorem r_valid0 (s : Sd) (h0 : 0 ≤ s.phase) : SndP K 11 [.agg (sd s vnil)] (vb (check s [])) := SndP.norm (r_valid s [] (by simp) h0)

def new0 (a b c d : Int) : Sd := { Sd.z with tid := a, next := b, limit := c, life := d }
/-- What New gives. -/
def newV (a b c d : Int) : Sd := bif check (new0 a b c d) [] then new0 a b c d else Sd.z
def newE (a b c d : Int) : Int := bif check (new0 a b c d) [] then 0 else 2
abbrev newS (a b c d : Int) : AV := .tup [.agg (sd (newV a b c d) (us [])), vi (newE a b c d)]

theorem newS_clean (a b c d : Int) : Clean (newS a b c d) := by
  refine Clean.tup ?_; intro x hx; simp only [List.mem_cons, List.not_mem_nil, or_false] at hx; rcases hx with h | h <;> subst h <;> first | exact sd_clean _ _ us0_clean | exact Clean.v _

theorem p_new (a b c d : Int) : SndP K 9 [vi a, vi b, vi c, vi d] (newS a b c d) := by
  refine SndP.of_walk hC ?_ (show K.P.funcs[9]? = some Try.f9 from Try.func9) rfl rfl (by decide +kernel) (Nat.le_of_ble_eq_true rfl) fun n => ?_
  · exact newS_clean _ _ _ _
  · repeat' (first
      | (refine hKK _ ?_; clear hKK KK)
      | (refine awp_assoc ?_)
      | (refine awp_nr [[0,1,2,3], [0,1,2,3,8], [8,10], [8], [8,10]] (fun tz => by simp only [nth_z, nth_s, keep_n, keep_c, upd_get, init_arg, arg_z, arg_s, Nat.reduceEqDiff, reduceIte, if_true, if_false]; rfl) fun tz => ?_; refine awp_reg fun KK hKK => ?_; refine xw_id ?_; simp (config := { maxSteps := 4000000 }) only [go_sem, Nat.reduceEqDiff, Nat.reduceAdd, Nat.reduceMul, Nat.reduceSub, Nat.reduceLT, Nat.reduceLeDiff, reduceIte, Int.reduceToNat, Int.reduceBEq, Int.reduceBNe, Int.reduceLT, Int.reduceLE, Int.reduceGT, Int.reduceGE, Int.reduceEq, Int.reduceNe, Int.reduceAdd, Int.reduceSub, Int.reduceMul, Int.reduceNeg, Nat.reduceBEq])
      | (refine awp_nr1 [[0,1,2,3], [0,1,2,3,8], [8,10], [8], [8,10]] (fun tz => by simp only [nth_z, nth_s, keep_n, keep_c, upd_get, init_arg, arg_z, arg_s, Nat.reduceEqDiff, reduceIte, if_true, if_false]; rfl) fun tz => ?_; refine awp_reg1 fun KK hKK => ?_; refine xw_id ?_; simp (config := { maxSteps := 4000000 }) only [go_sem, Nat.reduceEqDiff, Nat.reduceAdd, Nat.reduceMul, Nat.reduceSub, Nat.reduceLT, Nat.reduceLeDiff, reduceIte, Int.reduceToNat, Int.reduceBEq, Int.reduceBNe, Int.reduceLT, Int.reduceLE, Int.reduceGT, Int.reduceGE, Int.reduceEq, Int.reduceNe, Int.reduceAdd, Int.reduceSub, Int.reduceMul, Int.reduceNeg, Nat.reduceBEq])
      | (refine gsp_split (fun h => ?_) (fun h => ?_) <;> simp (config := { maxSteps := 4000000 }) only [go_sem, Nat.reduceEqDiff, Nat.reduceAdd, Nat.reduceMul, Nat.reduceSub, Nat.reduceLT, Nat.reduceLeDiff, reduceIte, Int.reduceToNat, Int.reduceBEq, Int.reduceBNe, Int.reduceLT, Int.reduceLE, Int.reduceGT, Int.reduceGE, Int.reduceEq, Int.reduceNe, Int.reduceAdd, Int.reduceSub, Int.reduceMul, Int.reduceNeg, Nat.reduceBEq, h])
      | (refine xcall_p (p_check _ _ _) ?_; try dsimp only)
      | (refine xcall_n (p_check _ _ _) ?_; try dsimp only)
      | (refine xcall_p (p_check0 _) ?_; try dsimp only)
      | (refine xcall_n (p_check0 _) ?_; try dsimp only)
      | (refine xcall_p (p_check0 _) ?_; try dsimp only)
      | (refine xcall_n (p_check0 _) ?_; try dsimp only)
      | (refine xw_id ?_; simp (config := { maxSteps := 4000000 }) only [go_sem, Nat.reduceEqDiff, Nat.reduceAdd, Nat.reduceMul, Nat.reduceSub, Nat.reduceLT, Nat.reduceLeDiff, reduceIte, Int.reduceToNat, Int.reduceBEq, Int.reduceBNe, Int.reduceLT, Int.reduceLE, Int.reduceGT, Int.reduceGE, Int.reduceEq, Int.reduceNe, Int.reduceAdd, Int.reduceSub, Int.reduceMul, Int.reduceNeg, Nat.reduceBEq])
      | (refine awp_cond (by simp only [ev, cst, upd_get, Nat.reduceEqDiff, reduceIte, if_true, if_false]; rfl) (fun h => ?_) (fun h => ?_) <;> first | (cases h; done) | skip)
      | (refine awp_cond1 (by simp only [ev, cst, upd_get, Nat.reduceEqDiff, reduceIte, if_true, if_false]; rfl) (fun h => ?_) (fun h => ?_) <;> first | (cases h; done) | skip)
      | (refine awp_skip ?_)
      | (refine awp_skip1 ?_)
      | (refine awp_ret ?_)
      | (refine awp_ret1 ?_)
      | (refine awp_exit ?_)
      | (refine awp_exit1 ?_)
      | (refine awp_block ?_)
      | (refine awp_block1 ?_)
      | (refine sq_n ?_)
      | (refine sq_e ?_)
      | (refine sq_r ?_)
      | (refine lq_n ?_)
      | (refine lq_e ?_)
      | (refine lq_r ?_)
      | (refine bq_n ?_)
      | (refine bq_r ?_)
      | (refine bq_e ?_)
      | (refine bq_o rfl ?_)
      | (refine end_ret rs9 (by simp only [go_sem, resV, resAll, resOf, packR, Nat.reduceEqDiff, reduceIte]; rfl) ?_)
      | (refine end_normal rs9 (by simp only [go_sem, resV, resAll, resOf, packR, Nat.reduceEqDiff, reduceIte]; rfl) ?_))
    all_goals (simp (config := { maxSteps := 4000000 }) only [go_sem, Nat.reduceEqDiff, Nat.reduceAdd, Nat.reduceMul, Nat.reduceSub, Nat.reduceLT, Nat.reduceLeDiff, reduceIte, Int.reduceToNat, Int.reduceBEq, Int.reduceBNe, Int.reduceLT, Int.reduceLE, Int.reduceGT, Int.reduceGE, Int.reduceEq, Int.reduceNe, Int.reduceAdd, Int.reduceSub, Int.reduceMul, Int.reduceNeg, Nat.reduceBEq, fz, nilS, packR, List.take_nil]; simp only [Bool.not_eq_true', Bool.not_eq_false'] at h; simp only [newS, newV, newE, new0, h]; rfl)

theorem r_new (a b c d : Int) : SndP K 10 [vi a, vi b, vi c, vi d] (newS a b c d) := by
  refine SndP.of_walk hC ?_ (show K.P.funcs[10]? = some Try.f10 from Try.func10) rfl rfl (by decide +kernel) (Nat.le_of_ble_eq_true rfl) fun n => ?_
  · exact newS_clean _ _ _ _
  · repeat' (first
      | (refine hKK _ ?_; clear hKK KK)
      | (refine awp_assoc ?_)
      | (refine awp_nr [[0,1,2,3], [0,1,2,3,8], [8,10], [8], [8,10]] (fun tz => by simp only [nth_z, nth_s, keep_n, keep_c, upd_get, init_arg, arg_z, arg_s, Nat.reduceEqDiff, reduceIte, if_true, if_false]; rfl) fun tz => ?_; refine awp_reg fun KK hKK => ?_; refine xw_id ?_; simp (config := { maxSteps := 4000000 }) only [go_sem, Nat.reduceEqDiff, Nat.reduceAdd, Nat.reduceMul, Nat.reduceSub, Nat.reduceLT, Nat.reduceLeDiff, reduceIte, Int.reduceToNat, Int.reduceBEq, Int.reduceBNe, Int.reduceLT, Int.reduceLE, Int.reduceGT, Int.reduceGE, Int.reduceEq, Int.reduceNe, Int.reduceAdd, Int.reduceSub, Int.reduceMul, Int.reduceNeg, Nat.reduceBEq])
      | (refine awp_nr1 [[0,1,2,3], [0,1,2,3,8], [8,10], [8], [8,10]] (fun tz => by simp only [nth_z, nth_s, keep_n, keep_c, upd_get, init_arg, arg_z, arg_s, Nat.reduceEqDiff, reduceIte, if_true, if_false]; rfl) fun tz => ?_; refine awp_reg1 fun KK hKK => ?_; refine xw_id ?_; simp (config := { maxSteps := 4000000 }) only [go_sem, Nat.reduceEqDiff, Nat.reduceAdd, Nat.reduceMul, Nat.reduceSub, Nat.reduceLT, Nat.reduceLeDiff, reduceIte, Int.reduceToNat, Int.reduceBEq, Int.reduceBNe, Int.reduceLT, Int.reduceLE, Int.reduceGT, Int.reduceGE, Int.reduceEq, Int.reduceNe, Int.reduceAdd, Int.reduceSub, Int.reduceMul, Int.reduceNeg, Nat.reduceBEq])
      | (refine gsp_split (fun h => ?_) (fun h => ?_) <;> simp (config := { maxSteps := 4000000 }) only [go_sem, Nat.reduceEqDiff, Nat.reduceAdd, Nat.reduceMul, Nat.reduceSub, Nat.reduceLT, Nat.reduceLeDiff, reduceIte, Int.reduceToNat, Int.reduceBEq, Int.reduceBNe, Int.reduceLT, Int.reduceLE, Int.reduceGT, Int.reduceGE, Int.reduceEq, Int.reduceNe, Int.reduceAdd, Int.reduceSub, Int.reduceMul, Int.reduceNeg, Nat.reduceBEq, h])
      | (refine xcall_p (r_valid _ _ _ _) ?_; try dsimp only)
      | (refine xcall_n (r_valid _ _ _ _) ?_; try dsimp only)
      | (refine xcall_p (r_valid0 _ _) ?_; try dsimp only)
      | (refine xcall_n (r_valid0 _ _) ?_; try dsimp only)
      | (refine xcall_p (r_valid0 (new0 a b c d) (Int.le_refl 0)) ?_; try dsimp only)
      | (refine xcall_n (r_valid0 (new0 a b c d) (Int.le_refl 0)) ?_; try dsimp only)
      | (refine xw_id ?_; simp (config := { maxSteps := 4000000 }) only [go_sem, Nat.reduceEqDiff, Nat.reduceAdd, Nat.reduceMul, Nat.reduceSub, Nat.reduceLT, Nat.reduceLeDiff, reduceIte, Int.reduceToNat, Int.reduceBEq, Int.reduceBNe, Int.reduceLT, Int.reduceLE, Int.reduceGT, Int.reduceGE, Int.reduceEq, Int.reduceNe, Int.reduceAdd, Int.reduceSub, Int.reduceMul, Int.reduceNeg, Nat.reduceBEq])
      | (refine awp_cond (by simp only [ev, cst, upd_get, Nat.reduceEqDiff, reduceIte, if_true, if_false]; rfl) (fun h => ?_) (fun h => ?_) <;> first | (cases h; done) | skip)
      | (refine awp_cond1 (by simp only [ev, cst, upd_get, Nat.reduceEqDiff, reduceIte, if_true, if_false]; rfl) (fun h => ?_) (fun h => ?_) <;> first | (cases h; done) | skip)
      | (refine awp_skip ?_)
      | (refine awp_skip1 ?_)
      | (refine awp_ret ?_)
      | (refine awp_ret1 ?_)
      | (refine awp_exit ?_)
      | (refine awp_exit1 ?_)
      | (refine awp_block ?_)
      | (refine awp_block1 ?_)
      | (refine sq_n ?_)
      | (refine sq_e ?_)
      | (refine sq_r ?_)
      | (refine lq_n ?_)
      | (refine lq_e ?_)
      | (refine lq_r ?_)
      | (refine bq_n ?_)
      | (refine bq_r ?_)
      | (refine bq_e ?_)
      | (refine bq_o rfl ?_)
      | (refine end_ret rs10 (by simp only [go_sem, resV, resAll, resOf, packR, Nat.reduceEqDiff, reduceIte]; rfl) ?_)
      | (refine end_normal rs10 (by simp only [go_sem, resV, resAll, resOf, packR, Nat.reduceEqDiff, reduceIte]; rfl) ?_))
    all_goals (simp (config := { maxSteps := 4000000 }) only [go_sem, Nat.reduceEqDiff, Nat.reduceAdd, Nat.reduceMul, Nat.reduceSub, Nat.reduceLT, Nat.reduceLeDiff, reduceIte, Int.reduceToNat, Int.reduceBEq, Int.reduceBNe, Int.reduceLT, Int.reduceLE, Int.reduceGT, Int.reduceGE, Int.reduceEq, Int.reduceNe, Int.reduceAdd, Int.reduceSub, Int.reduceMul, Int.reduceNeg, Nat.reduceBEq, fz, nilS, packR, List.take_nil]; simp only [Bool.not_eq_true', Bool.not_eq_false'] at h; simp only [newS, newV, newE, h]; rfl)

theorem p_Start (s : Sd) (l : List El) (hl : l.length ≤ 1048576) : SndP K 14 [.agg (sd s (us l))] (vi (bif check s l then startOf s l else 0)) := by
  refine SndP.of_walk hC ?_ (show K.P.funcs[14]? = some Try.f14 from Try.func14) rfl rfl (by decide +kernel) (Nat.le_of_ble_eq_true rfl) fun n => ?_
  · exact Clean.v _
  · repeat' (first
      | (refine hKK _ ?_; clear hKK KK)
      | (refine awp_assoc ?_)
      | (refine awp_nr [[0], [1], [], [1]] (fun tz => by simp only [nth_z, nth_s, keep_n, keep_c, upd_get, init_arg, arg_z, arg_s, Nat.reduceEqDiff, reduceIte, if_true, if_false]; rfl) fun tz => ?_; refine awp_reg fun KK hKK => ?_; refine xw_id ?_; simp (config := { maxSteps := 4000000 }) only [go_sem, Nat.reduceEqDiff, Nat.reduceAdd, Nat.reduceMul, Nat.reduceSub, Nat.reduceLT, Nat.reduceLeDiff, reduceIte, Int.reduceToNat, Int.reduceBEq, Int.reduceBNe, Int.reduceLT, Int.reduceLE, Int.reduceGT, Int.reduceGE, Int.reduceEq, Int.reduceNe, Int.reduceAdd, Int.reduceSub, Int.reduceMul, Int.reduceNeg, Nat.reduceBEq])
      | (refine awp_nr1 [[0], [1], [], [1]] (fun tz => by simp only [nth_z, nth_s, keep_n, keep_c, upd_get, init_arg, arg_z, arg_s, Nat.reduceEqDiff, reduceIte, if_true, if_false]; rfl) fun tz => ?_; refine awp_reg1 fun KK hKK => ?_; refine xw_id ?_; simp (config := { maxSteps := 4000000 }) only [go_sem, Nat.reduceEqDiff, Nat.reduceAdd, Nat.reduceMul, Nat.reduceSub, Nat.reduceLT, Nat.reduceLeDiff, reduceIte, Int.reduceToNat, Int.reduceBEq, Int.reduceBNe, Int.reduceLT, Int.reduceLE, Int.reduceGT, Int.reduceGE, Int.reduceEq, Int.reduceNe, Int.reduceAdd, Int.reduceSub, Int.reduceMul, Int.reduceNeg, Nat.reduceBEq])
      | (refine gsp_split (fun h => ?_) (fun h => ?_) <;> simp (config := { maxSteps := 4000000 }) only [go_sem, Nat.reduceEqDiff, Nat.reduceAdd, Nat.reduceMul, Nat.reduceSub, Nat.reduceLT, Nat.reduceLeDiff, reduceIte, Int.reduceToNat, Int.reduceBEq, Int.reduceBNe, Int.reduceLT, Int.reduceLE, Int.reduceGT, Int.reduceGE, Int.reduceEq, Int.reduceNe, Int.reduceAdd, Int.reduceSub, Int.reduceMul, Int.reduceNeg, Nat.reduceBEq, h])
      | (refine xcall_p (p_check _ _ _) ?_; try dsimp only)
      | (refine xcall_n (p_check _ _ _) ?_; try dsimp only)
      | (refine xcall_p (p_check0 _) ?_; try dsimp only)
      | (refine xcall_n (p_check0 _) ?_; try dsimp only)
      | (refine xcall_p (p_start _ _) ?_; try dsimp only)
      | (refine xcall_n (p_start _ _) ?_; try dsimp only)
      | (refine xcall_p (p_check _ _ hl) ?_; try dsimp only)
      | (refine xcall_n (p_check _ _ hl) ?_; try dsimp only)
      | (refine xw_id ?_; simp (config := { maxSteps := 4000000 }) only [go_sem, Nat.reduceEqDiff, Nat.reduceAdd, Nat.reduceMul, Nat.reduceSub, Nat.reduceLT, Nat.reduceLeDiff, reduceIte, Int.reduceToNat, Int.reduceBEq, Int.reduceBNe, Int.reduceLT, Int.reduceLE, Int.reduceGT, Int.reduceGE, Int.reduceEq, Int.reduceNe, Int.reduceAdd, Int.reduceSub, Int.reduceMul, Int.reduceNeg, Nat.reduceBEq])
      | (refine awp_cond (by simp only [ev, cst, upd_get, Nat.reduceEqDiff, reduceIte, if_true, if_false]; rfl) (fun h => ?_) (fun h => ?_) <;> first | (cases h; done) | skip)
      | (refine awp_cond1 (by simp only [ev, cst, upd_get, Nat.reduceEqDiff, reduceIte, if_true, if_false]; rfl) (fun h => ?_) (fun h => ?_) <;> first | (cases h; done) | skip)
      | (refine awp_skip ?_)
      | (refine awp_skip1 ?_)
      | (refine awp_ret ?_)
      | (refine awp_ret1 ?_)
      | (refine awp_exit ?_)
      | (refine awp_exit1 ?_)
      | (refine awp_block ?_)
      | (refine awp_block1 ?_)
      | (refine sq_n ?_)
      | (refine sq_e ?_)
      | (refine sq_r ?_)
      | (refine lq_n ?_)
      | (refine lq_e ?_)
      | (refine lq_r ?_)
      | (refine bq_n ?_)
      | (refine bq_r ?_)
      | (refine bq_e ?_)
      | (refine bq_o rfl ?_)
      | (refine end_ret rs14 (by simp only [go_sem, resV, resAll, resOf, packR, Nat.reduceEqDiff, reduceIte]; rfl) ?_)
      | (refine end_normal rs14 (by simp only [go_sem, resV, resAll, resOf, packR, Nat.reduceEqDiff, reduceIte]; rfl) ?_))
    all_goals (simp (config := { maxSteps := 4000000 }) only [go_sem, Nat.reduceEqDiff, Nat.reduceAdd, Nat.reduceMul, Nat.reduceSub, Nat.reduceLT, Nat.reduceLeDiff, reduceIte, Int.reduceToNat, Int.reduceBEq, Int.reduceBNe, Int.reduceLT, Int.reduceLE, Int.reduceGT, Int.reduceGE, Int.reduceEq, Int.reduceNe, Int.reduceAdd, Int.reduceSub, Int.reduceMul, Int.reduceNeg, Nat.reduceBEq, fz, nilS, packR, List.take_nil]; simp only [Bool.not_eq_true', Bool.not_eq_false'] at h; simp only [h]; rfl)

theorem r_same0 (s t : Sd) : SndP K 13 [.agg (sd s (us [])), .agg (sd t (us []))] (vb (decide (s = t))) := by
  refine SndP.of_walk hC ?_ (show K.P.funcs[13]? = some Try.f13 from Try.func13) rfl rfl (by decide +kernel) (Nat.le_of_ble_eq_true rfl) fun n => ?_
  · exact Clean.v _
  · repeat' (first
      | (refine hKK _ ?_; clear hKK KK)
      | (refine awp_assoc ?_)
      | (refine awp_nr [[0,1], [2,3], [], [2,3], [2,3,5], [2,3,5], [2,3,5], [2,3,5,6,7], [], []] (fun tz => by simp only [nth_z, nth_s, keep_n, keep_c, upd_get, init_arg, arg_z, arg_s, Nat.reduceEqDiff, reduceIte, if_true, if_false]; rfl) fun tz => ?_; refine awp_reg fun KK hKK => ?_; refine xw_id ?_; simp (config := { maxSteps := 4000000 }) only [go_sem, Nat.reduceEqDiff, Nat.reduceAdd, Nat.reduceMul, Nat.reduceSub, Nat.reduceLT, Nat.reduceLeDiff, reduceIte, Int.reduceToNat, Int.reduceBEq, Int.reduceBNe, Int.reduceLT, Int.reduceLE, Int.reduceGT, Int.reduceGE, Int.reduceEq, Int.reduceNe, Int.reduceAdd, Int.reduceSub, Int.reduceMul, Int.reduceNeg, Nat.reduceBEq])
      | (refine awp_nr1 [[0,1], [2,3], [], [2,3], [2,3,5], [2,3,5], [2,3,5], [2,3,5,6,7], [], []] (fun tz => by simp only [nth_z, nth_s, keep_n, keep_c, upd_get, init_arg, arg_z, arg_s, Nat.reduceEqDiff, reduceIte, if_true, if_false]; rfl) fun tz => ?_; refine awp_reg1 fun KK hKK => ?_; refine xw_id ?_; simp (config := { maxSteps := 4000000 }) only [go_sem, Nat.reduceEqDiff, Nat.reduceAdd, Nat.reduceMul, Nat.reduceSub, Nat.reduceLT, Nat.reduceLeDiff, reduceIte, Int.reduceToNat, Int.reduceBEq, Int.reduceBNe, Int.reduceLT, Int.reduceLE, Int.reduceGT, Int.reduceGE, Int.reduceEq, Int.reduceNe, Int.reduceAdd, Int.reduceSub, Int.reduceMul, Int.reduceNeg, Nat.reduceBEq])
      | (refine gsp_split (fun h => ?_) (fun h => ?_) <;> simp (config := { maxSteps := 4000000 }) only [go_sem, Nat.reduceEqDiff, Nat.reduceAdd, Nat.reduceMul, Nat.reduceSub, Nat.reduceLT, Nat.reduceLeDiff, reduceIte, Int.reduceToNat, Int.reduceBEq, Int.reduceBNe, Int.reduceLT, Int.reduceLE, Int.reduceGT, Int.reduceGE, Int.reduceEq, Int.reduceNe, Int.reduceAdd, Int.reduceSub, Int.reduceMul, Int.reduceNeg, Nat.reduceBEq, h])
      | (refine xw_id ?_; simp (config := { maxSteps := 4000000 }) only [go_sem, Nat.reduceEqDiff, Nat.reduceAdd, Nat.reduceMul, Nat.reduceSub, Nat.reduceLT, Nat.reduceLeDiff, reduceIte, Int.reduceToNat, Int.reduceBEq, Int.reduceBNe, Int.reduceLT, Int.reduceLE, Int.reduceGT, Int.reduceGE, Int.reduceEq, Int.reduceNe, Int.reduceAdd, Int.reduceSub, Int.reduceMul, Int.reduceNeg, Nat.reduceBEq])
      | (refine awp_cond (by simp only [ev, cst, upd_get, Nat.reduceEqDiff, reduceIte, if_true, if_false]; rfl) (fun h => ?_) (fun h => ?_) <;> first | (cases h; done) | skip)
      | (refine awp_cond1 (by simp only [ev, cst, upd_get, Nat.reduceEqDiff, reduceIte, if_true, if_false]; rfl) (fun h => ?_) (fun h => ?_) <;> first | (cases h; done) | skip)
      | (refine awp_skip ?_)
      | (refine awp_skip1 ?_)
      | (refine awp_ret ?_)
      | (refine awp_ret1 ?_)
      | (refine awp_exit ?_)
      | (refine awp_exit1 ?_)
      | (refine awp_block ?_)
      | (refine awp_block1 ?_)
      | (refine sq_n ?_)
      | (refine sq_e ?_)
      | (refine sq_r ?_)
      | (refine lq_n ?_)
      | (refine lq_e ?_)
      | (refine lq_r ?_)
      | (refine bq_n ?_)
      | (refine bq_r ?_)
      | (refine bq_e ?_)
      | (refine bq_o rfl ?_)
      | (refine end_ret rs13 (by simp only [go_sem, resV, resAll, resOf, packR, Nat.reduceEqDiff, reduceIte]; rfl) ?_)
      | (refine end_normal rs13 (by simp only [go_sem, resV, resAll, resOf, packR, Nat.reduceEqDiff, reduceIte]; rfl) ?_))
    all_goals try (refine awp_once1 ?_)
    repeat' (first
      | (refine hKK _ ?_; clear hKK KK)
      | (refine awp_assoc ?_)
      | (refine awp_nr [[0,1], [2,3], [], [2,3], [2,3,5], [2,3,5], [2,3,5], [2,3,5,6,7], [], []] (fun tz => by simp only [nth_z, nth_s, keep_n, keep_c, upd_get, init_arg, arg_z, arg_s, Nat.reduceEqDiff, reduceIte, if_true, if_false]; rfl) fun tz => ?_; refine awp_reg fun KK hKK => ?_; refine xw_id ?_; simp (config := { maxSteps := 4000000 }) only [go_sem, Nat.reduceEqDiff, Nat.reduceAdd, Nat.reduceMul, Nat.reduceSub, Nat.reduceLT, Nat.reduceLeDiff, reduceIte, Int.reduceToNat, Int.reduceBEq, Int.reduceBNe, Int.reduceLT, Int.reduceLE, Int.reduceGT, Int.reduceGE, Int.reduceEq, Int.reduceNe, Int.reduceAdd, Int.reduceSub, Int.reduceMul, Int.reduceNeg, Nat.reduceBEq])
      | (refine awp_nr1 [[0,1], [2,3], [], [2,3], [2,3,5], [2,3,5], [2,3,5], [2,3,5,6,7], [], []] (fun tz => by simp only [nth_z, nth_s, keep_n, keep_c, upd_get, init_arg, arg_z, arg_s, Nat.reduceEqDiff, reduceIte, if_true, if_false]; rfl) fun tz => ?_; refine awp_reg1 fun KK hKK => ?_; refine xw_id ?_; simp (config := { maxSteps := 4000000 }) only [go_sem, Nat.reduceEqDiff, Nat.reduceAdd, Nat.reduceMul, Nat.reduceSub, Nat.reduceLT, Nat.reduceLeDiff, reduceIte, Int.reduceToNat, Int.reduceBEq, Int.reduceBNe, Int.reduceLT, Int.reduceLE, Int.reduceGT, Int.reduceGE, Int.reduceEq, Int.reduceNe, Int.reduceAdd, Int.reduceSub, Int.reduceMul, Int.reduceNeg, Nat.reduceBEq])
      | (refine gsp_split (fun h => ?_) (fun h => ?_) <;> simp (config := { maxSteps := 4000000 }) only [go_sem, Nat.reduceEqDiff, Nat.reduceAdd, Nat.reduceMul, Nat.reduceSub, Nat.reduceLT, Nat.reduceLeDiff, reduceIte, Int.reduceToNat, Int.reduceBEq, Int.reduceBNe, Int.reduceLT, Int.reduceLE, Int.reduceGT, Int.reduceGE, Int.reduceEq, Int.reduceNe, Int.reduceAdd, Int.reduceSub, Int.reduceMul, Int.reduceNeg, Nat.reduceBEq, h])
      | (refine xw_id ?_; simp (config := { maxSteps := 4000000 }) only [go_sem, Nat.reduceEqDiff, Nat.reduceAdd, Nat.reduceMul, Nat.reduceSub, Nat.reduceLT, Nat.reduceLeDiff, reduceIte, Int.reduceToNat, Int.reduceBEq, Int.reduceBNe, Int.reduceLT, Int.reduceLE, Int.reduceGT, Int.reduceGE, Int.reduceEq, Int.reduceNe, Int.reduceAdd, Int.reduceSub, Int.reduceMul, Int.reduceNeg, Nat.reduceBEq])
      | (refine awp_cond (by simp only [ev, cst, upd_get, Nat.reduceEqDiff, reduceIte, if_true, if_false]; rfl) (fun h => ?_) (fun h => ?_) <;> first | (cases h; done) | skip)
      | (refine awp_cond1 (by simp only [ev, cst, upd_get, Nat.reduceEqDiff, reduceIte, if_true, if_false]; rfl) (fun h => ?_) (fun h => ?_) <;> first | (cases h; done) | skip)
      | (refine awp_skip ?_)
      | (refine awp_skip1 ?_)
      | (refine awp_ret ?_)
      | (refine awp_ret1 ?_)
      | (refine awp_exit ?_)
      | (refine awp_exit1 ?_)
      | (refine awp_block ?_)
      | (refine awp_block1 ?_)
      | (refine sq_n ?_)
      | (refine sq_e ?_)
      | (refine sq_r ?_)
      | (refine lq_n ?_)
      | (refine lq_e ?_)
      | (refine lq_r ?_)
      | (refine bq_n ?_)
      | (refine bq_r ?_)
      | (refine bq_e ?_)
      | (refine bq_o rfl ?_)
      | (refine end_ret rs13 (by simp only [go_sem, resV, resAll, resOf, packR, Nat.reduceEqDiff, reduceIte]; rfl) ?_)
      | (refine end_normal rs13 (by simp only [go_sem, resV, resAll, resOf, packR, Nat.reduceEqDiff, reduceIte]; rfl) ?_))
    all_goals (simp (config := { maxSteps := 4000000 }) only [go_sem, Nat.reduceEqDiff, Nat.reduceAdd, Nat.reduceMul, Nat.reduceSub, Nat.reduceLT, Nat.reduceLeDiff, reduceIte, Int.reduceToNat, Int.reduceBEq, Int.reduceBNe, Int.reduceLT, Int.reduceLE, Int.reduceGT, Int.reduceGE, Int.reduceEq, Int.reduceNe, Int.reduceAdd, Int.reduceSub, Int.reduceMul, Int.reduceNeg, Nat.reduceBEq, fz, nilS, packR, List.take_nil]; simp_all; grind [Sd])

theorem r_great5 (h : Hd) (b : List Int) : SndP K 29 [.agg (fr ⟨h⟩ (by_ b))] (vb (decide (2400 < b.length))) := by
  refine SndP.of_walk hC ?_ (show K.P.funcs[29]? = some Try.f29 from Try.func29) rfl rfl (by decide +kernel) (Nat.le_of_ble_eq_true rfl) fun n => ?_
  · exact Clean.v _
  · repeat' (first
      | (refine hKK _ ?_; clear hKK KK)
      | (refine awp_assoc ?_)
      | (refine awp_nr [[0], [1]] (fun tz => by simp only [nth_z, nth_s, keep_n, keep_c, upd_get, init_arg, arg_z, arg_s, Nat.reduceEqDiff, reduceIte, if_true, if_false, by_]; rfl) fun tz => ?_; refine awp_reg fun KK hKK => ?_; refine xw_id ?_; simp (config := { maxSteps := 4000000 }) only [go_sem, Nat.reduceEqDiff, Nat.reduceAdd, Nat.reduceMul, Nat.reduceSub, Nat.reduceLT, Nat.reduceLeDiff, reduceIte, Int.reduceToNat, Int.reduceBEq, Int.reduceBNe, Int.reduceLT, Int.reduceLE, Int.reduceGT, Int.reduceGE, Int.reduceEq, Int.reduceNe, Int.reduceAdd, Int.reduceSub, Int.reduceMul, Int.reduceNeg, Nat.reduceBEq, by_])
      | (refine awp_nr1 [[0], [1]] (fun tz => by simp only [nth_z, nth_s, keep_n, keep_c, upd_get, init_arg, arg_z, arg_s, Nat.reduceEqDiff, reduceIte, if_true, if_false, by_]; rfl) fun tz => ?_; refine awp_reg1 fun KK hKK => ?_; refine xw_id ?_; simp (config := { maxSteps := 4000000 }) only [go_sem, Nat.reduceEqDiff, Nat.reduceAdd, Nat.reduceMul, Nat.reduceSub, Nat.reduceLT, Nat.reduceLeDiff, reduceIte, Int.reduceToNat, Int.reduceBEq, Int.reduceBNe, Int.reduceLT, Int.reduceLE, Int.reduceGT, Int.reduceGE, Int.reduceEq, Int.reduceNe, Int.reduceAdd, Int.reduceSub, Int.reduceMul, Int.reduceNeg, Nat.reduceBEq, by_])
      | (refine gsp_split (fun h => ?_) (fun h => ?_) <;> simp (config := { maxSteps := 4000000 }) only [go_sem, Nat.reduceEqDiff, Nat.reduceAdd, Nat.reduceMul, Nat.reduceSub, Nat.reduceLT, Nat.reduceLeDiff, reduceIte, Int.reduceToNat, Int.reduceBEq, Int.reduceBNe, Int.reduceLT, Int.reduceLE, Int.reduceGT, Int.reduceGE, Int.reduceEq, Int.reduceNe, Int.reduceAdd, Int.reduceSub, Int.reduceMul, Int.reduceNeg, Nat.reduceBEq, by_, h])
      | (refine xw_id ?_; simp (config := { maxSteps := 4000000 }) only [go_sem, Nat.reduceEqDiff, Nat.reduceAdd, Nat.reduceMul, Nat.reduceSub, Nat.reduceLT, Nat.reduceLeDiff, reduceIte, Int.reduceToNat, Int.reduceBEq, Int.reduceBNe, Int.reduceLT, Int.reduceLE, Int.reduceGT, Int.reduceGE, Int.reduceEq, Int.reduceNe, Int.reduceAdd, Int.reduceSub, Int.reduceMul, Int.reduceNeg, Nat.reduceBEq, by_])
      | (refine awp_cond (by simp only [ev, cst, upd_get, Nat.reduceEqDiff, reduceIte, if_true, if_false, by_]; rfl) (fun h => ?_) (fun h => ?_) <;> first | (cases h; done) | skip)
      | (refine awp_cond1 (by simp only [ev, cst, upd_get, Nat.reduceEqDiff, reduceIte, if_true, if_false, by_]; rfl) (fun h => ?_) (fun h => ?_) <;> first | (cases h; done) | skip)
      | (refine awp_skip ?_)
      | (refine awp_skip1 ?_)
      | (refine awp_ret ?_)
      | (refine awp_ret1 ?_)
      | (refine awp_exit ?_)
      | (refine awp_exit1 ?_)
      | (refine awp_block ?_)
      | (refine awp_block1 ?_)
      | (refine sq_n ?_)
      | (refine sq_e ?_)
      | (refine sq_r ?_)
      | (refine lq_n ?_)
      | (refine lq_e ?_)
      | (refine lq_r ?_)
      | (refine bq_n ?_)
      | (refine bq_r ?_)
      | (refine bq_e ?_)
      | (refine bq_o rfl ?_)
      | (refine end_ret rs29 (by simp only [go_sem, resV, resAll, resOf, packR, Nat.reduceEqDiff, reduceIte, by_]; rfl) ?_)
      | (refine end_normal rs29 (by simp only [go_sem, resV, resAll, resOf, packR, Nat.reduceEqDiff, reduceIte, by_]; rfl) ?_))
    all_goals (simp (config := { maxSteps := 4000000 }) only [go_sem, Nat.reduceEqDiff, Nat.reduceAdd, Nat.reduceMul, Nat.reduceSub, Nat.reduceLT, Nat.reduceLeDiff, reduceIte, Int.reduceToNat, Int.reduceBEq, Int.reduceBNe, Int.reduceLT, Int.reduceLE, Int.reduceGT, Int.reduceGE, Int.reduceEq, Int.reduceNe, Int.reduceAdd, Int.reduceSub, Int.reduceMul, Int.reduceNeg, Nat.reduceBEq, fz, nilS, packR, List.take_nil]; simp; omega)

def great (l : List El) (b : List Int) : Bool := decide (70 < l.length) || decide (2400 < b.length) || l.any fun e => decide (2400 < e.2.length)

theorem r_great (s : Sd) (l : List El) (h : Hd) (b : List Int) : SndP K 8 [.agg (sd s (us l)), .agg (fr ⟨h⟩ (by_ b))] (vb (great l b)) := by
  refine SndP.of_walk hC ?_ (show K.P.funcs[8]? = some Try.f8 from Try.func8) rfl rfl (by decide +kernel) (Nat.le_of_ble_eq_true rfl) fun n => ?_
  · exact Clean.v _
  · have g0 : (70 < (l.length : Int)) = (70 < l.length) := by simp; omega
    by_cases hl : 70 < l.length
    · have g1 : (70 < l.length) = True := by simp [hl]
      repeat' (first
          | (refine hKK _ ?_; clear hKK KK)
          | (refine awp_assoc ?_)
          | (refine awp_nr [[0,1], [2,3], [], [2], [2,5], [2,5], [2,5], [], []] (fun tz => by simp only [nth_z, nth_s, keep_n, keep_c, upd_get, init_arg, arg_z, arg_s, Nat.reduceEqDiff, reduceIte, if_true, if_false, g0, g1]; rfl) fun tz => ?_; refine awp_reg fun KK hKK => ?_; refine xw_id ?_; simp (config := { maxSteps := 4000000 }) only [go_sem, Nat.reduceEqDiff, Nat.reduceAdd, Nat.reduceMul, Nat.reduceSub, Nat.reduceLT, Nat.reduceLeDiff, reduceIte, Int.reduceToNat, Int.reduceBEq, Int.reduceBNe, Int.reduceLT, Int.reduceLE, Int.reduceGT, Int.reduceGE, Int.reduceEq, Int.reduceNe, Int.reduceAdd, Int.reduceSub, Int.reduceMul, Int.reduceNeg, Nat.reduceBEq, g0, g1])
          | (refine awp_nr1 [[0,1], [2,3], [], [2], [2,5], [2,5], [2,5], [], []] (fun tz => by simp only [nth_z, nth_s, keep_n, keep_c, upd_get, init_arg, arg_z, arg_s, Nat.reduceEqDiff, reduceIte, if_true, if_false, g0, g1]; rfl) fun tz => ?_; refine awp_reg1 fun KK hKK => ?_; refine xw_id ?_; simp (config := { maxSteps := 4000000 }) only [go_sem, Nat.reduceEqDiff, Nat.reduceAdd, Nat.reduceMul, Nat.reduceSub, Nat.reduceLT, Nat.reduceLeDiff, reduceIte, Int.reduceToNat, Int.reduceBEq, Int.reduceBNe, Int.reduceLT, Int.reduceLE, Int.reduceGT, Int.reduceGE, Int.reduceEq, Int.reduceNe, Int.reduceAdd, Int.reduceSub, Int.reduceMul, Int.reduceNeg, Nat.reduceBEq, g0, g1])
          | (refine gsp_split (fun h => ?_) (fun h => ?_) <;> simp (config := { maxSteps := 4000000 }) only [go_sem, Nat.reduceEqDiff, Nat.reduceAdd, Nat.reduceMul, Nat.reduceSub, Nat.reduceLT, Nat.reduceLeDiff, reduceIte, Int.reduceToNat, Int.reduceBEq, Int.reduceBNe, Int.reduceLT, Int.reduceLE, Int.reduceGT, Int.reduceGE, Int.reduceEq, Int.reduceNe, Int.reduceAdd, Int.reduceSub, Int.reduceMul, Int.reduceNeg, Nat.reduceBEq, g0, g1, h])
          | (refine xcall_p (r_great5 _ _) ?_; try dsimp only)
          | (refine xcall_n (r_great5 _ _) ?_; try dsimp only)
          | (refine xw_id ?_; simp (config := { maxSteps := 4000000 }) only [go_sem, Nat.reduceEqDiff, Nat.reduceAdd, Nat.reduceMul, Nat.reduceSub, Nat.reduceLT, Nat.reduceLeDiff, reduceIte, Int.reduceToNat, Int.reduceBEq, Int.reduceBNe, Int.reduceLT, Int.reduceLE, Int.reduceGT, Int.reduceGE, Int.reduceEq, Int.reduceNe, Int.reduceAdd, Int.reduceSub, Int.reduceMul, Int.reduceNeg, Nat.reduceBEq, g0, g1])
          | (refine awp_cond (by simp only [ev, cst, upd_get, Nat.reduceEqDiff, reduceIte, if_true, if_false, g0, g1]; rfl) (fun h => ?_) (fun h => ?_) <;> first | (cases h; done) | skip)
          | (refine awp_cond1 (by simp only [ev, cst, upd_get, Nat.reduceEqDiff, reduceIte, if_true, if_false, g0, g1]; rfl) (fun h => ?_) (fun h => ?_) <;> first | (cases h; done) | skip)
          | (refine awp_skip ?_)
          | (refine awp_skip1 ?_)
          | (refine awp_ret ?_)
          | (refine awp_ret1 ?_)
          | (refine awp_exit ?_)
          | (refine awp_exit1 ?_)
          | (refine awp_block ?_)
          | (refine awp_block1 ?_)
          | (refine sq_n ?_)
          | (refine sq_e ?_)
          | (refine sq_r ?_)
          | (refine lq_n ?_)
          | (refine lq_e ?_)
          | (refine lq_r ?_)
          | (refine bq_n ?_)
          | (refine bq_r ?_)
          | (refine bq_e ?_)
          | (refine bq_o rfl ?_)
          | (refine end_ret rs8 (by simp only [go_sem, resV, resAll, resOf, packR, Nat.reduceEqDiff, reduceIte, g0, g1]; rfl) ?_)
          | (refine end_normal rs8 (by simp only [go_sem, resV, resAll, resOf, packR, Nat.reduceEqDiff, reduceIte, g0, g1]; rfl) ?_))
      all_goals (simp (config := { maxSteps := 4000000 }) only [go_sem, Nat.reduceEqDiff, Nat.reduceAdd, Nat.reduceMul, Nat.reduceSub, Nat.reduceLT, Nat.reduceLeDiff, reduceIte, Int.reduceToNat, Int.reduceBEq, Int.reduceBNe, Int.reduceLT, Int.reduceLE, Int.reduceGT, Int.reduceGE, Int.reduceEq, Int.reduceNe, Int.reduceAdd, Int.reduceSub, Int.reduceMul, Int.reduceNeg, Nat.reduceBEq, fz, nilS, packR, List.take_nil]; grind [great])
    have g1 : (70 < l.length) = False := by simp [hl]
    repeat' (first
      | (refine hKK _ ?_; clear hKK KK)
      | (refine awp_assoc ?_)
      | (refine awp_nr [[0,1], [2,3], [], [2], [2,5], [2,5], [2,5], [], []] (fun tz => by simp only [nth_z, nth_s, keep_n, keep_c, upd_get, init_arg, arg_z, arg_s, Nat.reduceEqDiff, reduceIte, if_true, if_false, g0, g1]; rfl) fun tz => ?_; refine awp_reg fun KK hKK => ?_; refine xw_id ?_; simp (config := { maxSteps := 4000000 }) only [go_sem, Nat.reduceEqDiff, Nat.reduceAdd, Nat.reduceMul, Nat.reduceSub, Nat.reduceLT, Nat.reduceLeDiff, reduceIte, Int.reduceToNat, Int.reduceBEq, Int.reduceBNe, Int.reduceLT, Int.reduceLE, Int.reduceGT, Int.reduceGE, Int.reduceEq, Int.reduceNe, Int.reduceAdd, Int.reduceSub, Int.reduceMul, Int.reduceNeg, Nat.reduceBEq, g0, g1])
      | (refine awp_nr1 [[0,1], [2,3], [], [2], [2,5], [2,5], [2,5], [], []] (fun tz => by simp only [nth_z, nth_s, keep_n, keep_c, upd_get, init_arg, arg_z, arg_s, Nat.reduceEqDiff, reduceIte, if_true, if_false, g0, g1]; rfl) fun tz => ?_; refine awp_reg1 fun KK hKK => ?_; refine xw_id ?_; simp (config := { maxSteps := 4000000 }) only [go_sem, Nat.reduceEqDiff, Nat.reduceAdd, Nat.reduceMul, Nat.reduceSub, Nat.reduceLT, Nat.reduceLeDiff, reduceIte, Int.reduceToNat, Int.reduceBEq, Int.reduceBNe, Int.reduceLT, Int.reduceLE, Int.reduceGT, Int.reduceGE, Int.reduceEq, Int.reduceNe, Int.reduceAdd, Int.reduceSub, Int.reduceMul, Int.reduceNeg, Nat.reduceBEq, g0, g1])
      | (refine gsp_split (fun h => ?_) (fun h => ?_) <;> simp (config := { maxSteps := 4000000 }) only [go_sem, Nat.reduceEqDiff, Nat.reduceAdd, Nat.reduceMul, Nat.reduceSub, Nat.reduceLT, Nat.reduceLeDiff, reduceIte, Int.reduceToNat, Int.reduceBEq, Int.reduceBNe, Int.reduceLT, Int.reduceLE, Int.reduceGT, Int.reduceGE, Int.reduceEq, Int.reduceNe, Int.reduceAdd, Int.reduceSub, Int.reduceMul, Int.reduceNeg, Nat.reduceBEq, g0, g1, h])
      | (refine xcall_p (r_great5 _ _) ?_; try dsimp only)
      | (refine xcall_n (r_great5 _ _) ?_; try dsimp only)
      | (refine xw_id ?_; simp (config := { maxSteps := 4000000 }) only [go_sem, Nat.reduceEqDiff, Nat.reduceAdd, Nat.reduceMul, Nat.reduceSub, Nat.reduceLT, Nat.reduceLeDiff, reduceIte, Int.reduceToNat, Int.reduceBEq, Int.reduceBNe, Int.reduceLT, Int.reduceLE, Int.reduceGT, Int.reduceGE, Int.reduceEq, Int.reduceNe, Int.reduceAdd, Int.reduceSub, Int.reduceMul, Int.reduceNeg, Nat.reduceBEq, g0, g1])
      | (refine awp_cond (by simp only [ev, cst, upd_get, Nat.reduceEqDiff, reduceIte, if_true, if_false, g0, g1]; rfl) (fun h => ?_) (fun h => ?_) <;> first | (cases h; done) | skip)
      | (refine awp_cond1 (by simp only [ev, cst, upd_get, Nat.reduceEqDiff, reduceIte, if_true, if_false, g0, g1]; rfl) (fun h => ?_) (fun h => ?_) <;> first | (cases h; done) | skip)
      | (refine awp_skip ?_)
      | (refine awp_skip1 ?_)
      | (refine awp_ret ?_)
      | (refine awp_ret1 ?_)
      | (refine awp_exit ?_)
      | (refine awp_exit1 ?_)
      | (refine awp_block ?_)
      | (refine awp_block1 ?_)
      | (refine sq_n ?_)
      | (refine sq_e ?_)
      | (refine sq_r ?_)
      | (refine lq_n ?_)
      | (refine lq_e ?_)
      | (refine lq_r ?_)
      | (refine bq_n ?_)
      | (refine bq_r ?_)
      | (refine bq_e ?_)
      | (refine bq_o rfl ?_)
      | (refine end_ret rs8 (by simp only [go_sem, resV, resAll, resOf, packR, Nat.reduceEqDiff, reduceIte, g0, g1]; rfl) ?_)
      | (refine end_normal rs8 (by simp only [go_sem, resV, resAll, resOf, packR, Nat.reduceEqDiff, reduceIte, g0, g1]; rfl) ?_))
    all_goals (first | (simp (config := { maxSteps := 4000000 }) only [go_sem, Nat.reduceEqDiff, Nat.reduceAdd, Nat.reduceMul, Nat.reduceSub, Nat.reduceLT, Nat.reduceLeDiff, reduceIte, Int.reduceToNat, Int.reduceBEq, Int.reduceBNe, Int.reduceLT, Int.reduceLE, Int.reduceGT, Int.reduceGE, Int.reduceEq, Int.reduceNe, Int.reduceAdd, Int.reduceSub, Int.reduceMul, Int.reduceNeg, Nat.reduceBEq, fz, nilS, packR, List.take_nil]; grind [great]; done) | skip)
    refine awp_loopFG1 [2] (fun kb t => ∃ (i : Nat), (i + kb = l.length) ∧ (t.tmps 5 = vi i) ∧ ((l.any fun e => decide (2400 < e.2.length)) = (l.drop i).any fun e => decide (2400 < e.2.length))) (l.length) ⟨0, by omega, rfl, rfl⟩ ?_
    rintro kb ⟨⟨objsb, nxb⟩, tmb⟩ ⟨i, c1b, h5b, hk⟩ hFb hOb hNb
    dsimp only at c1b h5b hk hFb hOb hNb
    obtain ⟨u2b, _⟩ := hFb; try simp only [upd_get, init_arg, arg_z, arg_s, Nat.reduceEqDiff, reduceIte, if_true, if_false] at u2b
    have w0b := hOb (n) (by omega); try simp only [upd_get, init_arg, arg_z, arg_s, Nat.reduceEqDiff, reduceIte, if_true, if_false, Nat.reduceEqDiff, Nat.reduceAdd, Nat.reduceMul, Nat.reduceSub, Nat.reduceLT, Nat.reduceLeDiff, reduceIte, Int.reduceToNat, Int.reduceBEq, Int.reduceBNe, Int.reduceLT, Int.reduceLE, Int.reduceGT, Int.reduceGE, Int.reduceEq, Int.reduceNe, Int.reduceAdd, Int.reduceSub, Int.reduceMul, Int.reduceNeg, Nat.reduceBEq, Nat.left_eq_add, Nat.add_eq_left, Nat.add_left_cancel_iff, upd_get] at w0b
    have x0b : ∀ j, (n = nxb + j) = False := by intro j; simp; omega
    have y0b : (n = nxb) = False := by simp; omega
    by_cases hlt : i < l.length
    · obtain ⟨e, hee, hde⟩ := drop_get hlt
      have fae : (0 ≤ (i : Int)) = True := by simp
      have fbe : ((i : Int) < (l.length : Int)) = True := by simp; omega
      have fce : IntKind.wrap .i64 ((i : Int) + 1) = ((i + 1 : Nat) : Int) := by rw [wrap64 (by omega) (by omega)]; omega
      have fde : ((i : Int)).toNat = i := Int.toNat_natCast _
      have fee : (i * 44 + 44 ≤ (l.flatMap ue).length) = True := by rw [flat_len (sz := 44) (fun _ => rfl)]; simp; omega
      have ffe : List.take 44 (List.drop (i * 44) (l.flatMap ue)) = ue e := flat_sub (sz := 44) (fun _ => rfl) _ _ _ hee
      have fg0e : (i * 44 + 3 + 41 ≤ (l.flatMap ue).length) = True := by rw [flat_len (sz := 44) (fun _ => rfl)]; simp; omega
      have fh0e : List.take 41 (List.drop (i * 44 + 3) (l.flatMap ue)) = fr ⟨e.1.h⟩ (by_ e.2) := flat_part (sz := 44) (fun _ => rfl) _ _ _ _ _ hee (by decide)
      have fi0e : (i * 44 + 44 ≤ (l.flatMap ue).length) = True := by rw [flat_len (sz := 44) (fun _ => rfl)]; simp; omega
      rw [hde, List.any_cons] at hk
      repeat' (first
          | (refine hKK _ ?_; clear hKK KK)
          | (refine awp_assoc ?_)
          | (refine awp_nr [[0,1], [2,3], [], [2], [2,5], [2,5], [2,5], [], []] (fun tz => by simp only [nth_z, nth_s, keep_n, keep_c, upd_get, init_arg, arg_z, arg_s, Nat.reduceEqDiff, reduceIte, if_true, if_false, h5b, u2b, w0b, x0b, y0b, fae, fbe, fce, fde, fee, ffe, fg0e, fh0e, fi0e]; rfl) fun tz => ?_; refine awp_reg fun KK hKK => ?_; refine xw_id ?_; simp (config := { maxSteps := 4000000 }) only [go_sem, Nat.reduceEqDiff, Nat.reduceAdd, Nat.reduceMul, Nat.reduceSub, Nat.reduceLT, Nat.reduceLeDiff, reduceIte, Int.reduceToNat, Int.reduceBEq, Int.reduceBNe, Int.reduceLT, Int.reduceLE, Int.reduceGT, Int.reduceGE, Int.reduceEq, Int.reduceNe, Int.reduceAdd, Int.reduceSub, Int.reduceMul, Int.reduceNeg, Nat.reduceBEq, h5b, u2b, w0b, x0b, y0b, fae, fbe, fce, fde, fee, ffe, fg0e, fh0e, fi0e])
          | (refine awp_nr1 [[0,1], [2,3], [], [2], [2,5], [2,5], [2,5], [], []] (fun tz => by simp only [nth_z, nth_s, keep_n, keep_c, upd_get, init_arg, arg_z, arg_s, Nat.reduceEqDiff, reduceIte, if_true, if_false, h5b, u2b, w0b, x0b, y0b, fae, fbe, fce, fde, fee, ffe, fg0e, fh0e, fi0e]; rfl) fun tz => ?_; refine awp_reg1 fun KK hKK => ?_; refine xw_id ?_; simp (config := { maxSteps := 4000000 }) only [go_sem, Nat.reduceEqDiff, Nat.reduceAdd, Nat.reduceMul, Nat.reduceSub, Nat.reduceLT, Nat.reduceLeDiff, reduceIte, Int.reduceToNat, Int.reduceBEq, Int.reduceBNe, Int.reduceLT, Int.reduceLE, Int.reduceGT, Int.reduceGE, Int.reduceEq, Int.reduceNe, Int.reduceAdd, Int.reduceSub, Int.reduceMul, Int.reduceNeg, Nat.reduceBEq, h5b, u2b, w0b, x0b, y0b, fae, fbe, fce, fde, fee, ffe, fg0e, fh0e, fi0e])
          | (refine gsp_split (fun h => ?_) (fun h => ?_) <;> simp (config := { maxSteps := 4000000 }) only [go_sem, Nat.reduceEqDiff, Nat.reduceAdd, Nat.reduceMul, Nat.reduceSub, Nat.reduceLT, Nat.reduceLeDiff, reduceIte, Int.reduceToNat, Int.reduceBEq, Int.reduceBNe, Int.reduceLT, Int.reduceLE, Int.reduceGT, Int.reduceGE, Int.reduceEq, Int.reduceNe, Int.reduceAdd, Int.reduceSub, Int.reduceMul, Int.reduceNeg, Nat.reduceBEq, h5b, u2b, w0b, x0b, y0b, fae, fbe, fce, fde, fee, ffe, fg0e, fh0e, fi0e, h])
          | (refine xcall_p (r_great5 _ _) ?_; try dsimp only)
          | (refine xcall_n (r_great5 _ _) ?_; try dsimp only)
          | (refine xw_id ?_; simp (config := { maxSteps := 4000000 }) only [go_sem, Nat.reduceEqDiff, Nat.reduceAdd, Nat.reduceMul, Nat.reduceSub, Nat.reduceLT, Nat.reduceLeDiff, reduceIte, Int.reduceToNat, Int.reduceBEq, Int.reduceBNe, Int.reduceLT, Int.reduceLE, Int.reduceGT, Int.reduceGE, Int.reduceEq, Int.reduceNe, Int.reduceAdd, Int.reduceSub, Int.reduceMul, Int.reduceNeg, Nat.reduceBEq, h5b, u2b, w0b, x0b, y0b, fae, fbe, fce, fde, fee, ffe, fg0e, fh0e, fi0e])
          | (refine awp_cond (by simp only [ev, cst, upd_get, Nat.reduceEqDiff, reduceIte, if_true, if_false, h5b, u2b, w0b, x0b, y0b, fae, fbe, fce, fde, fee, ffe, fg0e, fh0e, fi0e]; rfl) (fun h => ?_) (fun h => ?_) <;> first | (cases h; done) | skip)
          | (refine awp_cond1 (by simp only [ev, cst, upd_get, Nat.reduceEqDiff, reduceIte, if_true, if_false, h5b, u2b, w0b, x0b, y0b, fae, fbe, fce, fde, fee, ffe, fg0e, fh0e, fi0e]; rfl) (fun h => ?_) (fun h => ?_) <;> first | (cases h; done) | skip)
          | (refine awp_skip ?_)
          | (refine awp_skip1 ?_)
          | (refine awp_ret ?_)
          | (refine awp_ret1 ?_)
          | (refine awp_exit ?_)
          | (refine awp_exit1 ?_)
          | (refine awp_block ?_)
          | (refine awp_block1 ?_)
          | (refine sq_n ?_)
          | (refine sq_e ?_)
          | (refine sq_r ?_)
          | (refine lq_n ?_)
          | (refine lq_e ?_)
          | (refine lq_r ?_)
          | (refine bq_n ?_)
          | (refine bq_r ?_)
          | (refine bq_e ?_)
          | (refine bq_o rfl ?_)
          | (refine end_ret rs8 (by simp only [go_sem, resV, resAll, resOf, packR, Nat.reduceEqDiff, reduceIte, h5b, u2b, w0b, x0b, y0b, fae, fbe, fce, fde, fee, ffe, fg0e, fh0e, fi0e]; rfl) ?_)
          | (refine end_normal rs8 (by simp only [go_sem, resV, resAll, resOf, packR, Nat.reduceEqDiff, reduceIte, h5b, u2b, w0b, x0b, y0b, fae, fbe, fce, fde, fee, ffe, fg0e, fh0e, fi0e]; rfl) ?_))
      all_goals (first
        | (refine ⟨kb - 1, by omega, ⟨i + 1, ?_, (by first | rfl | (simp only [upd_get, init_arg, arg_z, arg_s, Nat.reduceEqDiff, reduceIte, if_true, if_false, h5b, u2b, w0b, x0b, y0b]; done)), ?_⟩, by (repeat (first | exact trivial | refine And.intro rfl ?_)), by (try simp only) <;> (repeat (refine FrmO.upd (by omega) ?_)); exact hOb, by (try simp only); omega⟩; all_goals first | omega | grind)
        | (simp (config := { maxSteps := 4000000 }) only [go_sem, Nat.reduceEqDiff, Nat.reduceAdd, Nat.reduceMul, Nat.reduceSub, Nat.reduceLT, Nat.reduceLeDiff, reduceIte, Int.reduceToNat, Int.reduceBEq, Int.reduceBNe, Int.reduceLT, Int.reduceLE, Int.reduceGT, Int.reduceGE, Int.reduceEq, Int.reduceNe, Int.reduceAdd, Int.reduceSub, Int.reduceMul, Int.reduceNeg, Nat.reduceBEq, fz, nilS, packR, List.take_nil]; grind [great]))
    · have f1 : ((i : Int) < (l.length : Int)) = False := by simp; omega
      have f2 : l.drop i = [] := List.drop_of_length_le (by omega)
      rw [f2, List.any_nil] at hk
      repeat' (first
          | (refine hKK _ ?_; clear hKK KK)
          | (refine awp_assoc ?_)
          | (refine awp_nr [[0,1], [2,3], [], [2], [2,5], [2,5], [2,5], [], []] (fun tz => by simp only [nth_z, nth_s, keep_n, keep_c, upd_get, init_arg, arg_z, arg_s, Nat.reduceEqDiff, reduceIte, if_true, if_false, h5b, u2b, w0b, x0b, y0b, f1]; rfl) fun tz => ?_; refine awp_reg fun KK hKK => ?_; refine xw_id ?_; simp (config := { maxSteps := 4000000 }) only [go_sem, Nat.reduceEqDiff, Nat.reduceAdd, Nat.reduceMul, Nat.reduceSub, Nat.reduceLT, Nat.reduceLeDiff, reduceIte, Int.reduceToNat, Int.reduceBEq, Int.reduceBNe, Int.reduceLT, Int.reduceLE, Int.reduceGT, Int.reduceGE, Int.reduceEq, Int.reduceNe, Int.reduceAdd, Int.reduceSub, Int.reduceMul, Int.reduceNeg, Nat.reduceBEq, h5b, u2b, w0b, x0b, y0b, f1])
          | (refine awp_nr1 [[0,1], [2,3], [], [2], [2,5], [2,5], [2,5], [], []] (fun tz => by simp only [nth_z, nth_s, keep_n, keep_c, upd_get, init_arg, arg_z, arg_s, Nat.reduceEqDiff, reduceIte, if_true, if_false, h5b, u2b, w0b, x0b, y0b, f1]; rfl) fun tz => ?_; refine awp_reg1 fun KK hKK => ?_; refine xw_id ?_; simp (config := { maxSteps := 4000000 }) only [go_sem, Nat.reduceEqDiff, Nat.reduceAdd, Nat.reduceMul, Nat.reduceSub, Nat.reduceLT, Nat.reduceLeDiff, reduceIte, Int.reduceToNat, Int.reduceBEq, Int.reduceBNe, Int.reduceLT, Int.reduceLE, Int.reduceGT, Int.reduceGE, Int.reduceEq, Int.reduceNe, Int.reduceAdd, Int.reduceSub, Int.reduceMul, Int.reduceNeg, Nat.reduceBEq, h5b, u2b, w0b, x0b, y0b, f1])
          | (refine gsp_split (fun h => ?_) (fun h => ?_) <;> simp (config := { maxSteps := 4000000 }) only [go_sem, Nat.reduceEqDiff, Nat.reduceAdd, Nat.reduceMul, Nat.reduceSub, Nat.reduceLT, Nat.reduceLeDiff, reduceIte, Int.reduceToNat, Int.reduceBEq, Int.reduceBNe, Int.reduceLT, Int.reduceLE, Int.reduceGT, Int.reduceGE, Int.reduceEq, Int.reduceNe, Int.reduceAdd, Int.reduceSub, Int.reduceMul, Int.reduceNeg, Nat.reduceBEq, h5b, u2b, w0b, x0b, y0b, f1, h])
          | (refine xcall_p (r_great5 _ _) ?_; try dsimp only)
          | (refine xcall_n (r_great5 _ _) ?_; try dsimp only)
          | (refine xw_id ?_; simp (config := { maxSteps := 4000000 }) only [go_sem, Nat.reduceEqDiff, Nat.reduceAdd, Nat.reduceMul, Nat.reduceSub, Nat.reduceLT, Nat.reduceLeDiff, reduceIte, Int.reduceToNat, Int.reduceBEq, Int.reduceBNe, Int.reduceLT, Int.reduceLE, Int.reduceGT, Int.reduceGE, Int.reduceEq, Int.reduceNe, Int.reduceAdd, Int.reduceSub, Int.reduceMul, Int.reduceNeg, Nat.reduceBEq, h5b, u2b, w0b, x0b, y0b, f1])
          | (refine awp_cond (by simp only [ev, cst, upd_get, Nat.reduceEqDiff, reduceIte, if_true, if_false, h5b, u2b, w0b, x0b, y0b, f1]; rfl) (fun h => ?_) (fun h => ?_) <;> first | (cases h; done) | skip)
          | (refine awp_cond1 (by simp only [ev, cst, upd_get, Nat.reduceEqDiff, reduceIte, if_true, if_false, h5b, u2b, w0b, x0b, y0b, f1]; rfl) (fun h => ?_) (fun h => ?_) <;> first | (cases h; done) | skip)
          | (refine awp_skip ?_)
          | (refine awp_skip1 ?_)
          | (refine awp_ret ?_)
          | (refine awp_ret1 ?_)
          | (refine awp_exit ?_)
          | (refine awp_exit1 ?_)
          | (refine awp_block ?_)
          | (refine awp_block1 ?_)
          | (refine sq_n ?_)
          | (refine sq_e ?_)
          | (refine sq_r ?_)
          | (refine lq_n ?_)
          | (refine lq_e ?_)
          | (refine lq_r ?_)
          | (refine bq_n ?_)
          | (refine bq_r ?_)
          | (refine bq_e ?_)
          | (refine bq_o rfl ?_)
          | (refine end_ret rs8 (by simp only [go_sem, resV, resAll, resOf, packR, Nat.reduceEqDiff, reduceIte, h5b, u2b, w0b, x0b, y0b, f1]; rfl) ?_)
          | (refine end_normal rs8 (by simp only [go_sem, resV, resAll, resOf, packR, Nat.reduceEqDiff, reduceIte, h5b, u2b, w0b, x0b, y0b, f1]; rfl) ?_))
      all_goals (simp (config := { maxSteps := 4000000 }) only [go_sem, Nat.reduceEqDiff, Nat.reduceAdd, Nat.reduceMul, Nat.reduceSub, Nat.reduceLT, Nat.reduceLeDiff, reduceIte, Int.reduceToNat, Int.reduceBEq, Int.reduceBNe, Int.reduceLT, Int.reduceLE, Int.reduceGT, Int.reduceGE, Int.reduceEq, Int.reduceNe, Int.reduceAdd, Int.reduceSub, Int.reduceMul, Int.reduceNeg, Nat.reduceBEq, fz, nilS, packR, List.take_nil]; grind [great])

theorem r_great0 (s : Sd) (l : List El) : SndP K 8 [.agg (sd s (us l)), .agg (fr Fh.z vnil)] (vb (great l [])) := SndP.norm (by
  have := r_great s l Hd.z []
  have e : List.map (fz (fun _ => .dead) deep) [.agg (sd s (us l)), .agg (fr Fh.z vnil)] = [.agg (sd s (us l)), .agg (fr ⟨Hd.z⟩ (by_ []))] := by
    simp only [List.map_cons, List.map_nil, fz, sd_fz, fr_fz, ues_fz]; rfl
  rw [e]; exact this)

end Go.AX.SE
