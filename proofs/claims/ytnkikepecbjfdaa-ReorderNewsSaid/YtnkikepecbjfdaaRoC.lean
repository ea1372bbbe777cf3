/- A part of the proof: RoC. -/
import Derived.Test.YtnkikepecbjfdaaRoB
namespace Go.AX.RO
open Go.Proofs
attribute [local irreducible] awp xw xop xcall gsp ob
set_option linter.unusedSimpArgs false

theorem new_ok {st sz ho : Int} (h : chk st sz ho st = true) : SndP K 11 [vi st, vi sz, vi ho] (.tup [ro st sz ho st 0, vi 0]) := by
  have := new st sz ho
  rw [newR, h] at this; exact this
theorem new_bad {st sz ho : Int} (h : chk st sz ho st = false) : SndP K 11 [vi st, vi sz, vi ho] (.tup [ro 0 0 0 0 0, vi 2]) := by
  have := new st sz ho
  rw [newR, h] at this; exact this
theorem rNew_ok {st sz ho : Int} (h : chk st sz ho st = true) : SndP K 12 [vi st, vi sz, vi ho] (.tup [ro st sz ho st 0, vi 0]) := by
  have := rNew st sz ho
  rw [newR, h] at this; exact this
theorem rNew_bad {st sz ho : Int} (h : chk st sz ho st = false) : SndP K 12 [vi st, vi sz, vi ho] (.tup [ro 0 0 0 0 0, vi 2]) := by
  have := rNew st sz ho
  rw [newR, h] at this; exact this
theorem same_ok (a b c d e : Int) : SndP K 13 [ro a b c d e, ro a b c d e] (vb true) := by
  have := same0 a b c d e a b c d e
  have h : sameR a b c d e a b c d e = true := by simp [sameR]
  rw [h] at this; exact this
theorem check_ok {st sz ho : Int} (h : chk st sz ho st = true) : SndP K 14 [ro st sz ho st 0] (vi 0) := by
  have := check0 st sz ho st 0
  rw [h] at this; exact this
theorem rNumber_ok {st sz ho : Int} (h : chk st sz ho st = true) : SndP K 15 [vi st] (vb true) := by
  have := rNumber st
  have h' : num st = true := by grind [chk]
  rw [h'] at this; exact this

theorem news (st sz ho : Int) : SndP K 3 [vi st, vi sz, vi ho] (vb true) := by
  cases hc : chk st sz ho st
  · refine SndP.of_awp hC ?_ Try.func3 rfl rfl (by decide +kernel) (Nat.le_of_ble_eq_true rfl) fun n => ?_
    · exact Clean.v _
    · repeat' (first
    | (refine hKK _ ?_; clear hKK KK)
    | (refine awp_assoc ?_)
    | (refine awp_reg fun KK hKK => ?_)
    | (refine awp_reg1 fun KK hKK => ?_)
    | (refine xw_id ?_; simp (config := { maxSteps := 4000000 }) only [xw_n, xw_o, xw_g, xop_c, xo_move, xo_assign, xo_pick, xo_alloc, xo_box, xo_build, xo_buildSlice, xo_load, xo_store, xo_nilCheck, xo_binOp, xo_unOp, xo_convert, xo_makeFunc, xo_makeSlice, xo_slice, xo_fieldAddr, xo_field, xo_indexAddr, xo_index, xo_extract, xo_builtin, opEff, ob_some, ev, nw_false, nw_none, cond_true, cond_false, true_and, and_true, ap_n, ap_n0, ap_w, ap_w0, ap_s, ap_s0, ap_a, doAct, killO, cst, putT, upd_get, init_arg, arg_z, arg_s, deadH, Nat.add_zero, Nat.zero_add, Nat.reduceEqDiff, Nat.left_eq_add, Nat.add_eq_left, Nat.add_left_cancel_iff, Nat.reduceAdd, Nat.reduceMul, Nat.reduceSub, Nat.reduceLT, Nat.reduceLeDiff, reduceIte, List.size_toArray, Nat.add_assoc, Int.reduceToNat, Int.reduceBEq, Int.reduceBNe, Int.reduceLT, Int.reduceLE, Int.reduceGT, Int.reduceGE, Int.reduceEq, Int.reduceNe, Int.reduceAdd, Int.reduceSub, Int.reduceMul, Int.reduceNeg, Nat.reduceBEq, decide_true, decide_false, addOff, cellsAt, part?, sub?, builtinE, lenE, indexAddrE, sliceE, bopE, iop, uopE, eqB, eqCells, eqv, kindsOk, kindOk, intOf?, loOf, hiOf, minE, maxE, nilB, nilP, nilS, callOf, cellsOf, scal, sto, fillA, putAt, srcOf, appE, copyE, rep, gsp_tt, gsp_ff, gsp_tf, gsp_ft, gsp_un, Option.map_some, Option.map_none, Option.bind_some, Option.bind_none, List.map_cons, List.map_nil, List.getElem?_cons_zero, List.getElem?_cons_succ, List.drop_zero, List.drop_succ_cons, List.take_succ_cons, List.take_zero, List.length_cons, List.length_nil, List.nil_append, List.cons_append, List.append_nil, List.set_cons_zero, List.set_cons_succ, id, Nat.mul_one, Nat.one_mul, Nat.zero_mul, Nat.mul_zero, ite_true, ite_false, if_true, if_false, Nat.le_refl, Bool.not_true, Bool.not_false, Bool.true_and, Bool.and_true, Bool.false_and, Bool.and_false, Bool.true_or, Bool.or_true, Bool.false_or, Bool.or_false, beq_self_eq_true, ag27, ag3, fl27_0, sz27, sz3, ze27, ro])
    | (refine gsp_split (fun h => ?_) (fun h => ?_) <;> simp (config := { maxSteps := 4000000 }) only [xw_n, xw_o, xw_g, xop_c, xo_move, xo_assign, xo_pick, xo_alloc, xo_box, xo_build, xo_buildSlice, xo_load, xo_store, xo_nilCheck, xo_binOp, xo_unOp, xo_convert, xo_makeFunc, xo_makeSlice, xo_slice, xo_fieldAddr, xo_field, xo_indexAddr, xo_index, xo_extract, xo_builtin, opEff, ob_some, ev, nw_false, nw_none, cond_true, cond_false, true_and, and_true, ap_n, ap_n0, ap_w, ap_w0, ap_s, ap_s0, ap_a, doAct, killO, cst, putT, upd_get, init_arg, arg_z, arg_s, deadH, Nat.add_zero, Nat.zero_add, Nat.reduceEqDiff, Nat.left_eq_add, Nat.add_eq_left, Nat.add_left_cancel_iff, Nat.reduceAdd, Nat.reduceMul, Nat.reduceSub, Nat.reduceLT, Nat.reduceLeDiff, reduceIte, List.size_toArray, Nat.add_assoc, Int.reduceToNat, Int.reduceBEq, Int.reduceBNe, Int.reduceLT, Int.reduceLE, Int.reduceGT, Int.reduceGE, Int.reduceEq, Int.reduceNe, Int.reduceAdd, Int.reduceSub, Int.reduceMul, Int.reduceNeg, Nat.reduceBEq, decide_true, decide_false, addOff, cellsAt, part?, sub?, builtinE, lenE, indexAddrE, sliceE, bopE, iop, uopE, eqB, eqCells, eqv, kindsOk, kindOk, intOf?, loOf, hiOf, minE, maxE, nilB, nilP, nilS, callOf, cellsOf, scal, sto, fillA, putAt, srcOf, appE, copyE, rep, gsp_tt, gsp_ff, gsp_tf, gsp_ft, gsp_un, Option.map_some, Option.map_none, Option.bind_some, Option.bind_none, List.map_cons, List.map_nil, List.getElem?_cons_zero, List.getElem?_cons_succ, List.drop_zero, List.drop_succ_cons, List.take_succ_cons, List.take_zero, List.length_cons, List.length_nil, List.nil_append, List.cons_append, List.append_nil, List.set_cons_zero, List.set_cons_succ, id, Nat.mul_one, Nat.one_mul, Nat.zero_mul, Nat.mul_zero, ite_true, ite_false, if_true, if_false, Nat.le_refl, Bool.not_true, Bool.not_false, Bool.true_and, Bool.and_true, Bool.false_and, Bool.and_false, Bool.true_or, Bool.or_true, Bool.false_or, Bool.or_false, beq_self_eq_true, ag27, ag3, fl27_0, sz27, sz3, ze27, ro, h])
    | (refine xcall_p (new_bad hc) ?_; try dsimp only)
    | (refine xcall_n (new_bad hc) ?_; try dsimp only)
    | (refine xcall_p (rNew_bad hc) ?_; try dsimp only)
    | (refine xcall_n (rNew_bad hc) ?_; try dsimp only)
    | (refine xcall_p (same_ok _ _ _ _ _) ?_; try dsimp only)
    | (refine xcall_n (same_ok _ _ _ _ _) ?_; try dsimp only)
    | (refine awp_condT (by simp only [ev, cst, upd_get, Nat.reduceEqDiff, reduceIte, if_true, if_false]; rfl) ?_)
    | (refine awp_condT1 (by simp only [ev, cst, upd_get, Nat.reduceEqDiff, reduceIte, if_true, if_false]; rfl) ?_)
    | (refine awp_condF (by simp only [ev, cst, upd_get, Nat.reduceEqDiff, reduceIte, if_true, if_false]; rfl) ?_)
    | (refine awp_condF1 (by simp only [ev, cst, upd_get, Nat.reduceEqDiff, reduceIte, if_true, if_false]; rfl) ?_)
    | (refine awp_cond (by simp only [ev, cst, upd_get, Nat.reduceEqDiff, reduceIte, if_true, if_false]; rfl) (fun h => ?_) (fun h => ?_))
    | (refine awp_cond1 (by simp only [ev, cst, upd_get, Nat.reduceEqDiff, reduceIte, if_true, if_false]; rfl) (fun h => ?_) (fun h => ?_))
    | (refine awp_skip ?_)
    | (refine awp_ret ?_)
    | (refine awp_ret1 ?_)
    | (refine awp_exit ?_)
    | (refine awp_exit1 ?_)
    | (refine awp_block ?_)
    | (refine awp_block1 ?_)
    | (rw [seqQ_n])
    | (rw [seqQ_e])
    | (rw [seqQ_r])
    | (rw [loopQ_n])
    | (rw [loopQ_e])
    | (rw [loopQ_r])
    | (rw [blkQ_n])
    | (rw [blkQ_r])
    | (rw [blkQ_e])
    | (rw [blkQ_o rfl])
    | (refine end_ret rs3 (by simp only [resV, resAll, resOf, packR, cellsAt, part?, sub?, upd_get, Option.map_some, Nat.reduceEqDiff, reduceIte, if_true, if_false, ag27, ag3, fl27_0, sz27, sz3, ze27]; rfl) ?_)
    | (refine end_normal rs3 (by simp only [resV, resAll, resOf, packR, cellsAt, part?, sub?, upd_get, Option.map_some, Nat.reduceEqDiff, reduceIte, if_true, if_false, ag27, ag3, fl27_0, sz27, sz3, ze27]; rfl) ?_))
      all_goals (simp (config := { maxSteps := 4000000 }) only [fz, nilS, packR, List.take_nil, xw_n, xw_o, xw_g, xop_c, xo_move, xo_assign, xo_pick, xo_alloc, xo_box, xo_build, xo_buildSlice, xo_load, xo_store, xo_nilCheck, xo_binOp, xo_unOp, xo_convert, xo_makeFunc, xo_makeSlice, xo_slice, xo_fieldAddr, xo_field, xo_indexAddr, xo_index, xo_extract, xo_builtin, opEff, ob_some, ev, nw_false, nw_none, cond_true, cond_false, true_and, and_true, ap_n, ap_n0, ap_w, ap_w0, ap_s, ap_s0, ap_a, doAct, killO, cst, putT, upd_get, init_arg, arg_z, arg_s, deadH, Nat.add_zero, Nat.zero_add, Nat.reduceEqDiff, Nat.left_eq_add, Nat.add_eq_left, Nat.add_left_cancel_iff, Nat.reduceAdd, Nat.reduceMul, Nat.reduceSub, Nat.reduceLT, Nat.reduceLeDiff, reduceIte, List.size_toArray, Nat.add_assoc, Int.reduceToNat, Int.reduceBEq, Int.reduceBNe, Int.reduceLT, Int.reduceLE, Int.reduceGT, Int.reduceGE, Int.reduceEq, Int.reduceNe, Int.reduceAdd, Int.reduceSub, Int.reduceMul, Int.reduceNeg, Nat.reduceBEq, decide_true, decide_false, addOff, cellsAt, part?, sub?, builtinE, lenE, indexAddrE, sliceE, bopE, iop, uopE, eqB, eqCells, eqv, kindsOk, kindOk, intOf?, loOf, hiOf, minE, maxE, nilB, nilP, nilS, callOf, cellsOf, scal, sto, fillA, putAt, srcOf, appE, copyE, rep, gsp_tt, gsp_ff, gsp_tf, gsp_ft, gsp_un, Option.map_some, Option.map_none, Option.bind_some, Option.bind_none, List.map_cons, List.map_nil, List.getElem?_cons_zero, List.getElem?_cons_succ, List.drop_zero, List.drop_succ_cons, List.take_succ_cons, List.take_zero, List.length_cons, List.length_nil, List.nil_append, List.cons_append, List.append_nil, List.set_cons_zero, List.set_cons_succ, id, Nat.mul_one, Nat.one_mul, Nat.zero_mul, Nat.mul_zero, ite_true, ite_false, if_true, if_false, Nat.le_refl, Bool.not_true, Bool.not_false, Bool.true_and, Bool.and_true, Bool.false_and, Bool.and_false, Bool.true_or, Bool.or_true, Bool.false_or, Bool.or_false, beq_self_eq_true, ro])
  · refine SndP.of_awp hC ?_ Try.func3 rfl rfl (by decide +kernel) (Nat.le_of_ble_eq_true rfl) fun n => ?_
    · exact Clean.v _
    · repeat' (first
    | (refine hKK _ ?_; clear hKK KK)
    | (refine awp_assoc ?_)
    | (refine awp_reg fun KK hKK => ?_)
    | (refine awp_reg1 fun KK hKK => ?_)
    | (refine xw_id ?_; simp (config := { maxSteps := 4000000 }) only [xw_n, xw_o, xw_g, xop_c, xo_move, xo_assign, xo_pick, xo_alloc, xo_box, xo_build, xo_buildSlice, xo_load, xo_store, xo_nilCheck, xo_binOp, xo_unOp, xo_convert, xo_makeFunc, xo_makeSlice, xo_slice, xo_fieldAddr, xo_field, xo_indexAddr, xo_index, xo_extract, xo_builtin, opEff, ob_some, ev, nw_false, nw_none, cond_true, cond_false, true_and, and_true, ap_n, ap_n0, ap_w, ap_w0, ap_s, ap_s0, ap_a, doAct, killO, cst, putT, upd_get, init_arg, arg_z, arg_s, deadH, Nat.add_zero, Nat.zero_add, Nat.reduceEqDiff, Nat.left_eq_add, Nat.add_eq_left, Nat.add_left_cancel_iff, Nat.reduceAdd, Nat.reduceMul, Nat.reduceSub, Nat.reduceLT, Nat.reduceLeDiff, reduceIte, List.size_toArray, Nat.add_assoc, Int.reduceToNat, Int.reduceBEq, Int.reduceBNe, Int.reduceLT, Int.reduceLE, Int.reduceGT, Int.reduceGE, Int.reduceEq, Int.reduceNe, Int.reduceAdd, Int.reduceSub, Int.reduceMul, Int.reduceNeg, Nat.reduceBEq, decide_true, decide_false, addOff, cellsAt, part?, sub?, builtinE, lenE, indexAddrE, sliceE, bopE, iop, uopE, eqB, eqCells, eqv, kindsOk, kindOk, intOf?, loOf, hiOf, minE, maxE, nilB, nilP, nilS, callOf, cellsOf, scal, sto, fillA, putAt, srcOf, appE, copyE, rep, gsp_tt, gsp_ff, gsp_tf, gsp_ft, gsp_un, Option.map_some, Option.map_none, Option.bind_some, Option.bind_none, List.map_cons, List.map_nil, List.getElem?_cons_zero, List.getElem?_cons_succ, List.drop_zero, List.drop_succ_cons, List.take_succ_cons, List.take_zero, List.length_cons, List.length_nil, List.nil_append, List.cons_append, List.append_nil, List.set_cons_zero, List.set_cons_succ, id, Nat.mul_one, Nat.one_mul, Nat.zero_mul, Nat.mul_zero, ite_true, ite_false, if_true, if_false, Nat.le_refl, Bool.not_true, Bool.not_false, Bool.true_and, Bool.and_true, Bool.false_and, Bool.and_false, Bool.true_or, Bool.or_true, Bool.false_or, Bool.or_false, beq_self_eq_true, ag27, ag3, fl27_0, sz27, sz3, ze27, ro])
    | (refine gsp_split (fun h => ?_) (fun h => ?_) <;> simp (config := { maxSteps := 4000000 }) only [xw_n, xw_o, xw_g, xop_c, xo_move, xo_assign, xo_pick, xo_alloc, xo_box, xo_build, xo_buildSlice, xo_load, xo_store, xo_nilCheck, xo_binOp, xo_unOp, xo_convert, xo_makeFunc, xo_makeSlice, xo_slice, xo_fieldAddr, xo_field, xo_indexAddr, xo_index, xo_extract, xo_builtin, opEff, ob_some, ev, nw_false, nw_none, cond_true, cond_false, true_and, and_true, ap_n, ap_n0, ap_w, ap_w0, ap_s, ap_s0, ap_a, doAct, killO, cst, putT, upd_get, init_arg, arg_z, arg_s, deadH, Nat.add_zero, Nat.zero_add, Nat.reduceEqDiff, Nat.left_eq_add, Nat.add_eq_left, Nat.add_left_cancel_iff, Nat.reduceAdd, Nat.reduceMul, Nat.reduceSub, Nat.reduceLT, Nat.reduceLeDiff, reduceIte, List.size_toArray, Nat.add_assoc, Int.reduceToNat, Int.reduceBEq, Int.reduceBNe, Int.reduceLT, Int.reduceLE, Int.reduceGT, Int.reduceGE, Int.reduceEq, Int.reduceNe, Int.reduceAdd, Int.reduceSub, Int.reduceMul, Int.reduceNeg, Nat.reduceBEq, decide_true, decide_false, addOff, cellsAt, part?, sub?, builtinE, lenE, indexAddrE, sliceE, bopE, iop, uopE, eqB, eqCells, eqv, kindsOk, kindOk, intOf?, loOf, hiOf, minE, maxE, nilB, nilP, nilS, callOf, cellsOf, scal, sto, fillA, putAt, srcOf, appE, copyE, rep, gsp_tt, gsp_ff, gsp_tf, gsp_ft, gsp_un, Option.map_some, Option.map_none, Option.bind_some, Option.bind_none, List.map_cons, List.map_nil, List.getElem?_cons_zero, List.getElem?_cons_succ, List.drop_zero, List.drop_succ_cons, List.take_succ_cons, List.take_zero, List.length_cons, List.length_nil, List.nil_append, List.cons_append, List.append_nil, List.set_cons_zero, List.set_cons_succ, id, Nat.mul_one, Nat.one_mul, Nat.zero_mul, Nat.mul_zero, ite_true, ite_false, if_true, if_false, Nat.le_refl, Bool.not_true, Bool.not_false, Bool.true_and, Bool.and_true, Bool.false_and, Bool.and_false, Bool.true_or, Bool.or_true, Bool.false_or, Bool.or_false, beq_self_eq_true, ag27, ag3, fl27_0, sz27, sz3, ze27, ro, h])
    | (refine xcall_p (new_ok hc) ?_; try dsimp only)
    | (refine xcall_n (new_ok hc) ?_; try dsimp only)
    | (refine xcall_p (rNew_ok hc) ?_; try dsimp only)
    | (refine xcall_n (rNew_ok hc) ?_; try dsimp only)
    | (refine xcall_p (same_ok _ _ _ _ _) ?_; try dsimp only)
    | (refine xcall_n (same_ok _ _ _ _ _) ?_; try dsimp only)
    | (refine xcall_p (check_ok hc) ?_; try dsimp only)
    | (refine xcall_n (check_ok hc) ?_; try dsimp only)
    | (refine xcall_p (rNumber_ok hc) ?_; try dsimp only)
    | (refine xcall_n (rNumber_ok hc) ?_; try dsimp only)
    | (refine awp_condT (by simp only [ev, cst, upd_get, Nat.reduceEqDiff, reduceIte, if_true, if_false]; rfl) ?_)
    | (refine awp_condT1 (by simp only [ev, cst, upd_get, Nat.reduceEqDiff, reduceIte, if_true, if_false]; rfl) ?_)
    | (refine awp_condF (by simp only [ev, cst, upd_get, Nat.reduceEqDiff, reduceIte, if_true, if_false]; rfl) ?_)
    | (refine awp_condF1 (by simp only [ev, cst, upd_get, Nat.reduceEqDiff, reduceIte, if_true, if_false]; rfl) ?_)
    | (refine awp_cond (by simp only [ev, cst, upd_get, Nat.reduceEqDiff, reduceIte, if_true, if_false]; rfl) (fun h => ?_) (fun h => ?_))
    | (refine awp_cond1 (by simp only [ev, cst, upd_get, Nat.reduceEqDiff, reduceIte, if_true, if_false]; rfl) (fun h => ?_) (fun h => ?_))
    | (refine awp_skip ?_)
    | (refine awp_ret ?_)
    | (refine awp_ret1 ?_)
    | (refine awp_exit ?_)
    | (refine awp_exit1 ?_)
    | (refine awp_block ?_)
    | (refine awp_block1 ?_)
    | (rw [seqQ_n])
    | (rw [seqQ_e])
    | (rw [seqQ_r])
    | (rw [loopQ_n])
    | (rw [loopQ_e])
    | (rw [loopQ_r])
    | (rw [blkQ_n])
    | (rw [blkQ_r])
    | (rw [blkQ_e])
    | (rw [blkQ_o rfl])
    | (refine end_ret rs3 (by simp only [resV, resAll, resOf, packR, cellsAt, part?, sub?, upd_get, Option.map_some, Nat.reduceEqDiff, reduceIte, if_true, if_false, ag27, ag3, fl27_0, sz27, sz3, ze27]; rfl) ?_)
    | (refine end_normal rs3 (by simp only [resV, resAll, resOf, packR, cellsAt, part?, sub?, upd_get, Option.map_some, Nat.reduceEqDiff, reduceIte, if_true, if_false, ag27, ag3, fl27_0, sz27, sz3, ze27]; rfl) ?_))
      all_goals (simp (config := { maxSteps := 4000000 }) only [fz, nilS, packR, List.take_nil, xw_n, xw_o, xw_g, xop_c, xo_move, xo_assign, xo_pick, xo_alloc, xo_box, xo_build, xo_buildSlice, xo_load, xo_store, xo_nilCheck, xo_binOp, xo_unOp, xo_convert, xo_makeFunc, xo_makeSlice, xo_slice, xo_fieldAddr, xo_field, xo_indexAddr, xo_index, xo_extract, xo_builtin, opEff, ob_some, ev, nw_false, nw_none, cond_true, cond_false, true_and, and_true, ap_n, ap_n0, ap_w, ap_w0, ap_s, ap_s0, ap_a, doAct, killO, cst, putT, upd_get, init_arg, arg_z, arg_s, deadH, Nat.add_zero, Nat.zero_add, Nat.reduceEqDiff, Nat.left_eq_add, Nat.add_eq_left, Nat.add_left_cancel_iff, Nat.reduceAdd, Nat.reduceMul, Nat.reduceSub, Nat.reduceLT, Nat.reduceLeDiff, reduceIte, List.size_toArray, Nat.add_assoc, Int.reduceToNat, Int.reduceBEq, Int.reduceBNe, Int.reduceLT, Int.reduceLE, Int.reduceGT, Int.reduceGE, Int.reduceEq, Int.reduceNe, Int.reduceAdd, Int.reduceSub, Int.reduceMul, Int.reduceNeg, Nat.reduceBEq, decide_true, decide_false, addOff, cellsAt, part?, sub?, builtinE, lenE, indexAddrE, sliceE, bopE, iop, uopE, eqB, eqCells, eqv, kindsOk, kindOk, intOf?, loOf, hiOf, minE, maxE, nilB, nilP, nilS, callOf, cellsOf, scal, sto, fillA, putAt, srcOf, appE, copyE, rep, gsp_tt, gsp_ff, gsp_tf, gsp_ft, gsp_un, Option.map_some, Option.map_none, Option.bind_some, Option.bind_none, List.map_cons, List.map_nil, List.getElem?_cons_zero, List.getElem?_cons_succ, List.drop_zero, List.drop_succ_cons, List.take_succ_cons, List.take_zero, List.length_cons, List.length_nil, List.nil_append, List.cons_append, List.append_nil, List.set_cons_zero, List.set_cons_succ, id, Nat.mul_one, Nat.one_mul, Nat.zero_mul, Nat.mul_zero, ite_true, ite_false, if_true, if_false, Nat.le_refl, Bool.not_true, Bool.not_false, Bool.true_and, Bool.and_true, Bool.false_and, Bool.and_false, Bool.true_or, Bool.or_true, Bool.false_or, Bool.or_false, beq_self_eq_true, ro])

end Go.AX.RO
