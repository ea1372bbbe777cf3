/- A part of the proof: MeB. -/
import Derived.Test.YtlnpmlkhbnjgnaaMeA
namespace Go.AX.ME
open Go.Proofs
attribute [local irreducible] awp xw xop xcall gsp ob
set_option linter.unusedSimpArgs false

abbrev errA : AV := .tup [vi 0, vi 2]

theorem cost_bad {i : Int} (h : i < 0 ∨ 12 ≤ i) (l : Int) : SndP K 12 [vi i, vi l] errA := by
  refine SndP.of_awp hC ?_ Try.func12 rfl rfl (by decide +kernel) (Nat.le_of_ble_eq_true rfl) fun n => ?_
  · exact cleanB_ok 4 _ rfl
  · repeat' (first
    | (refine hKK _ ?_; clear hKK KK)
    | (refine awp_assoc ?_)
    | (refine awp_reg fun KK hKK => ?_)
    | (refine awp_reg1 fun KK hKK => ?_)
    | (refine xw_id ?_; simp (config := { maxSteps := 4000000 }) only [xw_n, xw_o, xw_g, xop_c, xo_move, xo_assign, xo_pick, xo_alloc, xo_box, xo_build, xo_buildSlice, xo_load, xo_store, xo_nilCheck, xo_binOp, xo_unOp, xo_convert, xo_makeFunc, xo_makeSlice, xo_slice, xo_fieldAddr, xo_field, xo_indexAddr, xo_index, xo_extract, xo_builtin, opEff, ob_some, ev, nw_false, nw_none, cond_true, cond_false, true_and, and_true, ap_n, ap_n0, ap_w, ap_w0, ap_s, ap_s0, ap_a, doAct, killO, cst, putT, upd_get, init_arg, arg_z, arg_s, deadH, Nat.add_zero, Nat.zero_add, Nat.reduceEqDiff, Nat.left_eq_add, Nat.add_eq_left, Nat.add_left_cancel_iff, Nat.reduceAdd, Nat.reduceMul, Nat.reduceSub, Nat.reduceLT, Nat.reduceLeDiff, reduceIte, List.size_toArray, Nat.add_assoc, Int.reduceToNat, Int.reduceBEq, Int.reduceBNe, Int.reduceLT, Int.reduceLE, Int.reduceGT, Int.reduceGE, Int.reduceEq, Int.reduceNe, Int.reduceAdd, Int.reduceSub, Int.reduceMul, Int.reduceNeg, Nat.reduceBEq, decide_true, decide_false, addOff, cellsAt, part?, sub?, builtinE, lenE, indexAddrE, sliceE, bopE, iop, uopE, eqB, eqCells, eqv, kindsOk, kindOk, intOf?, loOf, hiOf, minE, maxE, nilB, nilP, nilS, callOf, cellsOf, scal, sto, fillA, putAt, srcOf, appE, copyE, rep, gsp_tt, gsp_ff, gsp_tf, gsp_ft, gsp_un, Option.map_some, Option.map_none, Option.bind_some, Option.bind_none, List.map_cons, List.map_nil, List.getElem?_cons_zero, List.getElem?_cons_succ, List.drop_zero, List.drop_succ_cons, List.take_succ_cons, List.take_zero, List.length_cons, List.length_nil, List.nil_append, List.cons_append, List.append_nil, List.set_cons_zero, List.set_cons_succ, id, Nat.mul_one, Nat.one_mul, Nat.zero_mul, Nat.mul_zero, ite_true, ite_false, if_true, if_false, Nat.le_refl, Bool.not_true, Bool.not_false, Bool.true_and, Bool.and_true, Bool.false_and, Bool.and_false, Bool.true_or, Bool.or_true, Bool.false_or, Bool.or_false, beq_self_eq_true])
    | (refine gsp_split (fun h => ?_) (fun h => ?_) <;> simp (config := { maxSteps := 4000000 }) only [xw_n, xw_o, xw_g, xop_c, xo_move, xo_assign, xo_pick, xo_alloc, xo_box, xo_build, xo_buildSlice, xo_load, xo_store, xo_nilCheck, xo_binOp, xo_unOp, xo_convert, xo_makeFunc, xo_makeSlice, xo_slice, xo_fieldAddr, xo_field, xo_indexAddr, xo_index, xo_extract, xo_builtin, opEff, ob_some, ev, nw_false, nw_none, cond_true, cond_false, true_and, and_true, ap_n, ap_n0, ap_w, ap_w0, ap_s, ap_s0, ap_a, doAct, killO, cst, putT, upd_get, init_arg, arg_z, arg_s, deadH, Nat.add_zero, Nat.zero_add, Nat.reduceEqDiff, Nat.left_eq_add, Nat.add_eq_left, Nat.add_left_cancel_iff, Nat.reduceAdd, Nat.reduceMul, Nat.reduceSub, Nat.reduceLT, Nat.reduceLeDiff, reduceIte, List.size_toArray, Nat.add_assoc, Int.reduceToNat, Int.reduceBEq, Int.reduceBNe, Int.reduceLT, Int.reduceLE, Int.reduceGT, Int.reduceGE, Int.reduceEq, Int.reduceNe, Int.reduceAdd, Int.reduceSub, Int.reduceMul, Int.reduceNeg, Nat.reduceBEq, decide_true, decide_false, addOff, cellsAt, part?, sub?, builtinE, lenE, indexAddrE, sliceE, bopE, iop, uopE, eqB, eqCells, eqv, kindsOk, kindOk, intOf?, loOf, hiOf, minE, maxE, nilB, nilP, nilS, callOf, cellsOf, scal, sto, fillA, putAt, srcOf, appE, copyE, rep, gsp_tt, gsp_ff, gsp_tf, gsp_ft, gsp_un, Option.map_some, Option.map_none, Option.bind_some, Option.bind_none, List.map_cons, List.map_nil, List.getElem?_cons_zero, List.getElem?_cons_succ, List.drop_zero, List.drop_succ_cons, List.take_succ_cons, List.take_zero, List.length_cons, List.length_nil, List.nil_append, List.cons_append, List.append_nil, List.set_cons_zero, List.set_cons_succ, id, Nat.mul_one, Nat.one_mul, Nat.zero_mul, Nat.mul_zero, ite_true, ite_false, if_true, if_false, Nat.le_refl, Bool.not_true, Bool.not_false, Bool.true_and, Bool.and_true, Bool.false_and, Bool.and_false, Bool.true_or, Bool.or_true, Bool.false_or, Bool.or_false, beq_self_eq_true, h])
    | (refine xcall_p (total_bad h _) ?_; try dsimp only)
    | (refine xcall_n (total_bad h _) ?_; try dsimp only)
    | (refine awp_condT ?_ ?_; focus ((simp only [ev, cst, upd_get, Nat.reduceEqDiff, reduceIte, if_true, if_false]); done))
    | (refine awp_condT1 ?_ ?_; focus ((simp only [ev, cst, upd_get, Nat.reduceEqDiff, reduceIte, if_true, if_false]); done))
    | (refine awp_condF ?_ ?_; focus ((simp only [ev, cst, upd_get, Nat.reduceEqDiff, reduceIte, if_true, if_false]); done))
    | (refine awp_condF1 ?_ ?_; focus ((simp only [ev, cst, upd_get, Nat.reduceEqDiff, reduceIte, if_true, if_false]); done))
    | (refine awp_cond (by simp only [ev, cst, upd_get, Nat.reduceEqDiff, reduceIte, if_true, if_false]; rfl) (fun h => ?_) (fun h => ?_))
    | (refine awp_cond1 (by simp only [ev, cst, upd_get, Nat.reduceEqDiff, reduceIte, if_true, if_false]; rfl) (fun h => ?_) (fun h => ?_))
    | (refine awp_skip ?_)
    | (refine awp_ret ?_)
    | (refine awp_ret1 ?_)
    | (refine awp_exit ?_)
    | (refine awp_exit1 ?_)
    | (refine awp_block ?_)
    | (refine awp_block1 ?_)
    | (rw [seqQ_n])
    | (rw [seqQ_e])
    | (rw [seqQ_r])
    | (rw [loopQ_n])
    | (rw [loopQ_e])
    | (rw [loopQ_r])
    | (rw [blkQ_n])
    | (rw [blkQ_r])
    | (rw [blkQ_e])
    | (rw [blkQ_o rfl])
    | (refine end_ret rs12 (by simp only [resV, resAll, resOf, packR, cellsAt, part?, sub?, upd_get, Option.map_some, Nat.reduceEqDiff, reduceIte, if_true, if_false, id]; rfl) ?_)
    | (refine end_normal rs12 (by simp only [resV, resAll, resOf, packR, cellsAt, part?, sub?, upd_get, Option.map_some, Nat.reduceEqDiff, reduceIte, if_true, if_false, id]; rfl) ?_))
    all_goals (first | (simp (config := { maxSteps := 4000000 }) only [fz, nilS, packR, List.take_nil, xw_n, xw_o, xw_g, xop_c, xo_move, xo_assign, xo_pick, xo_alloc, xo_box, xo_build, xo_buildSlice, xo_load, xo_store, xo_nilCheck, xo_binOp, xo_unOp, xo_convert, xo_makeFunc, xo_makeSlice, xo_slice, xo_fieldAddr, xo_field, xo_indexAddr, xo_index, xo_extract, xo_builtin, opEff, ob_some, ev, nw_false, nw_none, cond_true, cond_false, true_and, and_true, ap_n, ap_n0, ap_w, ap_w0, ap_s, ap_s0, ap_a, doAct, killO, cst, putT, upd_get, init_arg, arg_z, arg_s, deadH, Nat.add_zero, Nat.zero_add, Nat.reduceEqDiff, Nat.left_eq_add, Nat.add_eq_left, Nat.add_left_cancel_iff, Nat.reduceAdd, Nat.reduceMul, Nat.reduceSub, Nat.reduceLT, Nat.reduceLeDiff, reduceIte, List.size_toArray, Nat.add_assoc, Int.reduceToNat, Int.reduceBEq, Int.reduceBNe, Int.reduceLT, Int.reduceLE, Int.reduceGT, Int.reduceGE, Int.reduceEq, Int.reduceNe, Int.reduceAdd, Int.reduceSub, Int.reduceMul, Int.reduceNeg, Nat.reduceBEq, decide_true, decide_false, addOff, cellsAt, part?, sub?, builtinE, lenE, indexAddrE, sliceE, bopE, iop, uopE, eqB, eqCells, eqv, kindsOk, kindOk, intOf?, loOf, hiOf, minE, maxE, nilB, nilP, nilS, callOf, cellsOf, scal, sto, fillA, putAt, srcOf, appE, copyE, rep, gsp_tt, gsp_ff, gsp_tf, gsp_ft, gsp_un, Option.map_some, Option.map_none, Option.bind_some, Option.bind_none, List.map_cons, List.map_nil, List.getElem?_cons_zero, List.getElem?_cons_succ, List.drop_zero, List.drop_succ_cons, List.take_succ_cons, List.take_zero, List.length_cons, List.length_nil, List.nil_append, List.cons_append, List.append_nil, List.set_cons_zero, List.set_cons_succ, id, Nat.mul_one, Nat.one_mul, Nat.zero_mul, Nat.mul_zero, ite_true, ite_false, if_true, if_false, Nat.le_refl, Bool.not_true, Bool.not_false, Bool.true_and, Bool.and_true, Bool.false_and, Bool.and_false, Bool.true_or, Bool.or_true, Bool.false_or, Bool.or_false, beq_self_eq_true]; done) | (exfalso; grind))

theorem cost_bad2 {i : Int} (h : 0 ≤ i) (h' : i < 12) {l : Int} (hl : l < 0 ∨ 1000 < l) : SndP K 12 [vi i, vi l] errA := by
  obtain ⟨h1, _, _, _⟩ := total_ok h h'
  generalize T i = t at *
  refine SndP.of_awp hC ?_ Try.func12 rfl rfl (by decide +kernel) (Nat.le_of_ble_eq_true rfl) fun n => ?_
  · exact cleanB_ok 4 _ rfl
  · repeat' (first
    | (refine hKK _ ?_; clear hKK KK)
    | (refine awp_assoc ?_)
    | (refine awp_reg fun KK hKK => ?_)
    | (refine awp_reg1 fun KK hKK => ?_)
    | (refine xw_id ?_; simp (config := { maxSteps := 4000000 }) only [xw_n, xw_o, xw_g, xop_c, xo_move, xo_assign, xo_pick, xo_alloc, xo_box, xo_build, xo_buildSlice, xo_load, xo_store, xo_nilCheck, xo_binOp, xo_unOp, xo_convert, xo_makeFunc, xo_makeSlice, xo_slice, xo_fieldAddr, xo_field, xo_indexAddr, xo_index, xo_extract, xo_builtin, opEff, ob_some, ev, nw_false, nw_none, cond_true, cond_false, true_and, and_true, ap_n, ap_n0, ap_w, ap_w0, ap_s, ap_s0, ap_a, doAct, killO, cst, putT, upd_get, init_arg, arg_z, arg_s, deadH, Nat.add_zero, Nat.zero_add, Nat.reduceEqDiff, Nat.left_eq_add, Nat.add_eq_left, Nat.add_left_cancel_iff, Nat.reduceAdd, Nat.reduceMul, Nat.reduceSub, Nat.reduceLT, Nat.reduceLeDiff, reduceIte, List.size_toArray, Nat.add_assoc, Int.reduceToNat, Int.reduceBEq, Int.reduceBNe, Int.reduceLT, Int.reduceLE, Int.reduceGT, Int.reduceGE, Int.reduceEq, Int.reduceNe, Int.reduceAdd, Int.reduceSub, Int.reduceMul, Int.reduceNeg, Nat.reduceBEq, decide_true, decide_false, addOff, cellsAt, part?, sub?, builtinE, lenE, indexAddrE, sliceE, bopE, iop, uopE, eqB, eqCells, eqv, kindsOk, kindOk, intOf?, loOf, hiOf, minE, maxE, nilB, nilP, nilS, callOf, cellsOf, scal, sto, fillA, putAt, srcOf, appE, copyE, rep, gsp_tt, gsp_ff, gsp_tf, gsp_ft, gsp_un, Option.map_some, Option.map_none, Option.bind_some, Option.bind_none, List.map_cons, List.map_nil, List.getElem?_cons_zero, List.getElem?_cons_succ, List.drop_zero, List.drop_succ_cons, List.take_succ_cons, List.take_zero, List.length_cons, List.length_nil, List.nil_append, List.cons_append, List.append_nil, List.set_cons_zero, List.set_cons_succ, id, Nat.mul_one, Nat.one_mul, Nat.zero_mul, Nat.mul_zero, ite_true, ite_false, if_true, if_false, Nat.le_refl, Bool.not_true, Bool.not_false, Bool.true_and, Bool.and_true, Bool.false_and, Bool.and_false, Bool.true_or, Bool.or_true, Bool.false_or, Bool.or_false, beq_self_eq_true])
    | (refine gsp_split (fun h => ?_) (fun h => ?_) <;> simp (config := { maxSteps := 4000000 }) only [xw_n, xw_o, xw_g, xop_c, xo_move, xo_assign, xo_pick, xo_alloc, xo_box, xo_build, xo_buildSlice, xo_load, xo_store, xo_nilCheck, xo_binOp, xo_unOp, xo_convert, xo_makeFunc, xo_makeSlice, xo_slice, xo_fieldAddr, xo_field, xo_indexAddr, xo_index, xo_extract, xo_builtin, opEff, ob_some, ev, nw_false, nw_none, cond_true, cond_false, true_and, and_true, ap_n, ap_n0, ap_w, ap_w0, ap_s, ap_s0, ap_a, doAct, killO, cst, putT, upd_get, init_arg, arg_z, arg_s, deadH, Nat.add_zero, Nat.zero_add, Nat.reduceEqDiff, Nat.left_eq_add, Nat.add_eq_left, Nat.add_left_cancel_iff, Nat.reduceAdd, Nat.reduceMul, Nat.reduceSub, Nat.reduceLT, Nat.reduceLeDiff, reduceIte, List.size_toArray, Nat.add_assoc, Int.reduceToNat, Int.reduceBEq, Int.reduceBNe, Int.reduceLT, Int.reduceLE, Int.reduceGT, Int.reduceGE, Int.reduceEq, Int.reduceNe, Int.reduceAdd, Int.reduceSub, Int.reduceMul, Int.reduceNeg, Nat.reduceBEq, decide_true, decide_false, addOff, cellsAt, part?, sub?, builtinE, lenE, indexAddrE, sliceE, bopE, iop, uopE, eqB, eqCells, eqv, kindsOk, kindOk, intOf?, loOf, hiOf, minE, maxE, nilB, nilP, nilS, callOf, cellsOf, scal, sto, fillA, putAt, srcOf, appE, copyE, rep, gsp_tt, gsp_ff, gsp_tf, gsp_ft, gsp_un, Option.map_some, Option.map_none, Option.bind_some, Option.bind_none, List.map_cons, List.map_nil, List.getElem?_cons_zero, List.getElem?_cons_succ, List.drop_zero, List.drop_succ_cons, List.take_succ_cons, List.take_zero, List.length_cons, List.length_nil, List.nil_append, List.cons_append, List.append_nil, List.set_cons_zero, List.set_cons_succ, id, Nat.mul_one, Nat.one_mul, Nat.zero_mul, Nat.mul_zero, ite_true, ite_false, if_true, if_false, Nat.le_refl, Bool.not_true, Bool.not_false, Bool.true_and, Bool.and_true, Bool.false_and, Bool.and_false, Bool.true_or, Bool.or_true, Bool.false_or, Bool.or_false, beq_self_eq_true, h])
    | (refine xcall_p (h1) ?_; try dsimp only)
    | (refine xcall_n (h1) ?_; try dsimp only)
    | (refine awp_condT ?_ ?_; focus ((simp only [ev, cst, upd_get, Nat.reduceEqDiff, reduceIte, if_true, if_false]); done))
    | (refine awp_condT1 ?_ ?_; focus ((simp only [ev, cst, upd_get, Nat.reduceEqDiff, reduceIte, if_true, if_false]); done))
    | (refine awp_condF ?_ ?_; focus ((simp only [ev, cst, upd_get, Nat.reduceEqDiff, reduceIte, if_true, if_false]); done))
    | (refine awp_condF1 ?_ ?_; focus ((simp only [ev, cst, upd_get, Nat.reduceEqDiff, reduceIte, if_true, if_false]); done))
    | (refine awp_cond (by simp only [ev, cst, upd_get, Nat.reduceEqDiff, reduceIte, if_true, if_false]; rfl) (fun h => ?_) (fun h => ?_))
    | (refine awp_cond1 (by simp only [ev, cst, upd_get, Nat.reduceEqDiff, reduceIte, if_true, if_false]; rfl) (fun h => ?_) (fun h => ?_))
    | (refine awp_skip ?_)
    | (refine awp_ret ?_)
    | (refine awp_ret1 ?_)
    | (refine awp_exit ?_)
    | (refine awp_exit1 ?_)
    | (refine awp_block ?_)
    | (refine awp_block1 ?_)
    | (rw [seqQ_n])
    | (rw [seqQ_e])
    | (rw [seqQ_r])
    | (rw [loopQ_n])
    | (rw [loopQ_e])
    | (rw [loopQ_r])
    | (rw [blkQ_n])
    | (rw [blkQ_r])
    | (rw [blkQ_e])
    | (rw [blkQ_o rfl])
    | (refine end_ret rs12 (by simp only [resV, resAll, resOf, packR, cellsAt, part?, sub?, upd_get, Option.map_some, Nat.reduceEqDiff, reduceIte, if_true, if_false, id]; rfl) ?_)
    | (refine end_normal rs12 (by simp only [resV, resAll, resOf, packR, cellsAt, part?, sub?, upd_get, Option.map_some, Nat.reduceEqDiff, reduceIte, if_true, if_false, id]; rfl) ?_))
    all_goals (first | (simp (config := { maxSteps := 4000000 }) only [fz, nilS, packR, List.take_nil, xw_n, xw_o, xw_g, xop_c, xo_move, xo_assign, xo_pick, xo_alloc, xo_box, xo_build, xo_buildSlice, xo_load, xo_store, xo_nilCheck, xo_binOp, xo_unOp, xo_convert, xo_makeFunc, xo_makeSlice, xo_slice, xo_fieldAddr, xo_field, xo_indexAddr, xo_index, xo_extract, xo_builtin, opEff, ob_some, ev, nw_false, nw_none, cond_true, cond_false, true_and, and_true, ap_n, ap_n0, ap_w, ap_w0, ap_s, ap_s0, ap_a, doAct, killO, cst, putT, upd_get, init_arg, arg_z, arg_s, deadH, Nat.add_zero, Nat.zero_add, Nat.reduceEqDiff, Nat.left_eq_add, Nat.add_eq_left, Nat.add_left_cancel_iff, Nat.reduceAdd, Nat.reduceMul, Nat.reduceSub, Nat.reduceLT, Nat.reduceLeDiff, reduceIte, List.size_toArray, Nat.add_assoc, Int.reduceToNat, Int.reduceBEq, Int.reduceBNe, Int.reduceLT, Int.reduceLE, Int.reduceGT, Int.reduceGE, Int.reduceEq, Int.reduceNe, Int.reduceAdd, Int.reduceSub, Int.reduceMul, Int.reduceNeg, Nat.reduceBEq, decide_true, decide_false, addOff, cellsAt, part?, sub?, builtinE, lenE, indexAddrE, sliceE, bopE, iop, uopE, eqB, eqCells, eqv, kindsOk, kindOk, intOf?, loOf, hiOf, minE, maxE, nilB, nilP, nilS, callOf, cellsOf, scal, sto, fillA, putAt, srcOf, appE, copyE, rep, gsp_tt, gsp_ff, gsp_tf, gsp_ft, gsp_un, Option.map_some, Option.map_none, Option.bind_some, Option.bind_none, List.map_cons, List.map_nil, List.getElem?_cons_zero, List.getElem?_cons_succ, List.drop_zero, List.drop_succ_cons, List.take_succ_cons, List.take_zero, List.length_cons, List.length_nil, List.nil_append, List.cons_append, List.append_nil, List.set_cons_zero, List.set_cons_succ, id, Nat.mul_one, Nat.one_mul, Nat.zero_mul, Nat.mul_zero, ite_true, ite_false, if_true, if_false, Nat.le_refl, Bool.not_true, Bool.not_false, Bool.true_and, Bool.and_true, Bool.false_and, Bool.and_false, Bool.true_or, Bool.or_true, Bool.false_or, Bool.or_false, beq_self_eq_true]; done) | (exfalso; grind))

theorem cost_full {i : Int} (h : 0 ≤ i) (h' : i < 12) : SndP K 12 [vi i, vi 1000] (.tup [vi 1099511627776, vi 0]) := by
  obtain ⟨h1, _, _, _⟩ := total_ok h h'
  generalize T i = t at *
  have w1 : IntKind.wrap .i64 0 = 0 := rfl
  refine SndP.of_awp hC ?_ Try.func12 rfl rfl (by decide +kernel) (Nat.le_of_ble_eq_true rfl) fun n => ?_
  · exact cleanB_ok 4 _ rfl
  · repeat' (first
    | (refine hKK _ ?_; clear hKK KK)
    | (refine awp_assoc ?_)
    | (refine awp_reg fun KK hKK => ?_)
    | (refine awp_reg1 fun KK hKK => ?_)
    | (refine xw_id ?_; simp (config := { maxSteps := 4000000 }) only [xw_n, xw_o, xw_g, xop_c, xo_move, xo_assign, xo_pick, xo_alloc, xo_box, xo_build, xo_buildSlice, xo_load, xo_store, xo_nilCheck, xo_binOp, xo_unOp, xo_convert, xo_makeFunc, xo_makeSlice, xo_slice, xo_fieldAddr, xo_field, xo_indexAddr, xo_index, xo_extract, xo_builtin, opEff, ob_some, ev, nw_false, nw_none, cond_true, cond_false, true_and, and_true, ap_n, ap_n0, ap_w, ap_w0, ap_s, ap_s0, ap_a, doAct, killO, cst, putT, upd_get, init_arg, arg_z, arg_s, deadH, Nat.add_zero, Nat.zero_add, Nat.reduceEqDiff, Nat.left_eq_add, Nat.add_eq_left, Nat.add_left_cancel_iff, Nat.reduceAdd, Nat.reduceMul, Nat.reduceSub, Nat.reduceLT, Nat.reduceLeDiff, reduceIte, List.size_toArray, Nat.add_assoc, Int.reduceToNat, Int.reduceBEq, Int.reduceBNe, Int.reduceLT, Int.reduceLE, Int.reduceGT, Int.reduceGE, Int.reduceEq, Int.reduceNe, Int.reduceAdd, Int.reduceSub, Int.reduceMul, Int.reduceNeg, Nat.reduceBEq, decide_true, decide_false, addOff, cellsAt, part?, sub?, builtinE, lenE, indexAddrE, sliceE, bopE, iop, uopE, eqB, eqCells, eqv, kindsOk, kindOk, intOf?, loOf, hiOf, minE, maxE, nilB, nilP, nilS, callOf, cellsOf, scal, sto, fillA, putAt, srcOf, appE, copyE, rep, gsp_tt, gsp_ff, gsp_tf, gsp_ft, gsp_un, Option.map_some, Option.map_none, Option.bind_some, Option.bind_none, List.map_cons, List.map_nil, List.getElem?_cons_zero, List.getElem?_cons_succ, List.drop_zero, List.drop_succ_cons, List.take_succ_cons, List.take_zero, List.length_cons, List.length_nil, List.nil_append, List.cons_append, List.append_nil, List.set_cons_zero, List.set_cons_succ, id, Nat.mul_one, Nat.one_mul, Nat.zero_mul, Nat.mul_zero, ite_true, ite_false, if_true, if_false, Nat.le_refl, Bool.not_true, Bool.not_false, Bool.true_and, Bool.and_true, Bool.false_and, Bool.and_false, Bool.true_or, Bool.or_true, Bool.false_or, Bool.or_false, beq_self_eq_true, w1])
    | (refine gsp_split (fun h => ?_) (fun h => ?_) <;> simp (config := { maxSteps := 4000000 }) only [xw_n, xw_o, xw_g, xop_c, xo_move, xo_assign, xo_pick, xo_alloc, xo_box, xo_build, xo_buildSlice, xo_load, xo_store, xo_nilCheck, xo_binOp, xo_unOp, xo_convert, xo_makeFunc, xo_makeSlice, xo_slice, xo_fieldAddr, xo_field, xo_indexAddr, xo_index, xo_extract, xo_builtin, opEff, ob_some, ev, nw_false, nw_none, cond_true, cond_false, true_and, and_true, ap_n, ap_n0, ap_w, ap_w0, ap_s, ap_s0, ap_a, doAct, killO, cst, putT, upd_get, init_arg, arg_z, arg_s, deadH, Nat.add_zero, Nat.zero_add, Nat.reduceEqDiff, Nat.left_eq_add, Nat.add_eq_left, Nat.add_left_cancel_iff, Nat.reduceAdd, Nat.reduceMul, Nat.reduceSub, Nat.reduceLT, Nat.reduceLeDiff, reduceIte, List.size_toArray, Nat.add_assoc, Int.reduceToNat, Int.reduceBEq, Int.reduceBNe, Int.reduceLT, Int.reduceLE, Int.reduceGT, Int.reduceGE, Int.reduceEq, Int.reduceNe, Int.reduceAdd, Int.reduceSub, Int.reduceMul, Int.reduceNeg, Nat.reduceBEq, decide_true, decide_false, addOff, cellsAt, part?, sub?, builtinE, lenE, indexAddrE, sliceE, bopE, iop, uopE, eqB, eqCells, eqv, kindsOk, kindOk, intOf?, loOf, hiOf, minE, maxE, nilB, nilP, nilS, callOf, cellsOf, scal, sto, fillA, putAt, srcOf, appE, copyE, rep, gsp_tt, gsp_ff, gsp_tf, gsp_ft, gsp_un, Option.map_some, Option.map_none, Option.bind_some, Option.bind_none, List.map_cons, List.map_nil, List.getElem?_cons_zero, List.getElem?_cons_succ, List.drop_zero, List.drop_succ_cons, List.take_succ_cons, List.take_zero, List.length_cons, List.length_nil, List.nil_append, List.cons_append, List.append_nil, List.set_cons_zero, List.set_cons_succ, id, Nat.mul_one, Nat.one_mul, Nat.zero_mul, Nat.mul_zero, ite_true, ite_false, if_true, if_false, Nat.le_refl, Bool.not_true, Bool.not_false, Bool.true_and, Bool.and_true, Bool.false_and, Bool.and_false, Bool.true_or, Bool.or_true, Bool.false_or, Bool.or_false, beq_self_eq_true, w1, h])
    | (refine xcall_p (h1) ?_; try dsimp only)
    | (refine xcall_n (h1) ?_; try dsimp only)
    | (refine awp_condT ?_ ?_; focus ((simp only [ev, cst, upd_get, Nat.reduceEqDiff, reduceIte, if_true, if_false]); done))
    | (refine awp_condT1 ?_ ?_; focus ((simp only [ev, cst, upd_get, Nat.reduceEqDiff, reduceIte, if_true, if_false]); done))
    | (refine awp_condF ?_ ?_; focus ((simp only [ev, cst, upd_get, Nat.reduceEqDiff, reduceIte, if_true, if_false]); done))
    | (refine awp_condF1 ?_ ?_; focus ((simp only [ev, cst, upd_get, Nat.reduceEqDiff, reduceIte, if_true, if_false]); done))
    | (refine awp_cond (by simp only [ev, cst, upd_get, Nat.reduceEqDiff, reduceIte, if_true, if_false]; rfl) (fun h => ?_) (fun h => ?_))
    | (refine awp_cond1 (by simp only [ev, cst, upd_get, Nat.reduceEqDiff, reduceIte, if_true, if_false]; rfl) (fun h => ?_) (fun h => ?_))
    | (refine awp_skip ?_)
    | (refine awp_ret ?_)
    | (refine awp_ret1 ?_)
    | (refine awp_exit ?_)
    | (refine awp_exit1 ?_)
    | (refine awp_block ?_)
    | (refine awp_block1 ?_)
    | (rw [seqQ_n])
    | (rw [seqQ_e])
    | (rw [seqQ_r])
    | (rw [loopQ_n])
    | (rw [loopQ_e])
    | (rw [loopQ_r])
    | (rw [blkQ_n])
    | (rw [blkQ_r])
    | (rw [blkQ_e])
    | (rw [blkQ_o rfl])
    | (refine end_ret rs12 (by simp only [resV, resAll, resOf, packR, cellsAt, part?, sub?, upd_get, Option.map_some, Nat.reduceEqDiff, reduceIte, if_true, if_false, id]; rfl) ?_)
    | (refine end_normal rs12 (by simp only [resV, resAll, resOf, packR, cellsAt, part?, sub?, upd_get, Option.map_some, Nat.reduceEqDiff, reduceIte, if_true, if_false, id]; rfl) ?_))
    all_goals (first | (simp (config := { maxSteps := 4000000 }) only [fz, nilS, packR, List.take_nil, xw_n, xw_o, xw_g, xop_c, xo_move, xo_assign, xo_pick, xo_alloc, xo_box, xo_build, xo_buildSlice, xo_load, xo_store, xo_nilCheck, xo_binOp, xo_unOp, xo_convert, xo_makeFunc, xo_makeSlice, xo_slice, xo_fieldAddr, xo_field, xo_indexAddr, xo_index, xo_extract, xo_builtin, opEff, ob_some, ev, nw_false, nw_none, cond_true, cond_false, true_and, and_true, ap_n, ap_n0, ap_w, ap_w0, ap_s, ap_s0, ap_a, doAct, killO, cst, putT, upd_get, init_arg, arg_z, arg_s, deadH, Nat.add_zero, Nat.zero_add, Nat.reduceEqDiff, Nat.left_eq_add, Nat.add_eq_left, Nat.add_left_cancel_iff, Nat.reduceAdd, Nat.reduceMul, Nat.reduceSub, Nat.reduceLT, Nat.reduceLeDiff, reduceIte, List.size_toArray, Nat.add_assoc, Int.reduceToNat, Int.reduceBEq, Int.reduceBNe, Int.reduceLT, Int.reduceLE, Int.reduceGT, Int.reduceGE, Int.reduceEq, Int.reduceNe, Int.reduceAdd, Int.reduceSub, Int.reduceMul, Int.reduceNeg, Nat.reduceBEq, decide_true, decide_false, addOff, cellsAt, part?, sub?, builtinE, lenE, indexAddrE, sliceE, bopE, iop, uopE, eqB, eqCells, eqv, kindsOk, kindOk, intOf?, loOf, hiOf, minE, maxE, nilB, nilP, nilS, callOf, cellsOf, scal, sto, fillA, putAt, srcOf, appE, copyE, rep, gsp_tt, gsp_ff, gsp_tf, gsp_ft, gsp_un, Option.map_some, Option.map_none, Option.bind_some, Option.bind_none, List.map_cons, List.map_nil, List.getElem?_cons_zero, List.getElem?_cons_succ, List.drop_zero, List.drop_succ_cons, List.take_succ_cons, List.take_zero, List.length_cons, List.length_nil, List.nil_append, List.cons_append, List.append_nil, List.set_cons_zero, List.set_cons_succ, id, Nat.mul_one, Nat.one_mul, Nat.zero_mul, Nat.mul_zero, ite_true, ite_false, if_true, if_false, Nat.le_refl, Bool.not_true, Bool.not_false, Bool.true_and, Bool.and_true, Bool.false_and, Bool.and_false, Bool.true_or, Bool.or_true, Bool.false_or, Bool.or_false, beq_self_eq_true]; done) | (exfalso; grind))

def cv (t l : Int) : Int := (t * 100 * 1000 + (1000 - l) - 1).tdiv (1000 - l)

theorem tdiv_b {a b : Int} (ha : 0 ≤ a) (hb : 0 < b) : 0 ≤ a.tdiv b ∧ a.tdiv b ≤ a := by
  rw [Int.tdiv_eq_ediv_of_nonneg ha]
  exact ⟨Int.ediv_nonneg ha (by omega), Int.ediv_le_self _ ha⟩

theorem cost_ok {i : Int} (h : 0 ≤ i) (h' : i < 12) {l : Int} (hl : 0 ≤ l) (hl' : l < 1000) : SndP K 12 [vi i, vi l] (.tup [vi (cv (T i) l), vi 0]) := by
  obtain ⟨h1, _, ht, ht'⟩ := total_ok h h'
  generalize T i = t at *
  have b := tdiv_b (a := t * 100 * 1000 + (1000 - l) - 1) (b := 1000 - l) (by omega) (by omega)
  have w1 : IntKind.wrap .i64 (1000 - l) = 1000 - l := wrap64 (by omega) (by omega)
  have w2 : IntKind.wrap .i64 (t * 100) = t * 100 := wrap64 (by omega) (by omega)
  have w3 : IntKind.wrap .i64 (t * 100 * 1000) = t * 100 * 1000 := wrap64 (by omega) (by omega)
  have w4 : IntKind.wrap .i64 (t * 100 * 1000 + (1000 - l)) = t * 100 * 1000 + (1000 - l) := wrap64 (by omega) (by omega)
  have w5 : IntKind.wrap .i64 (t * 100 * 1000 + (1000 - l) - 1) = t * 100 * 1000 + (1000 - l) - 1 := wrap64 (by omega) (by omega)
  have w6 : IntKind.wrap .i64 ((t * 100 * 1000 + (1000 - l) - 1).tdiv (1000 - l)) = (t * 100 * 1000 + (1000 - l) - 1).tdiv (1000 - l) := wrap64 (by omega) (by omega)
  have n1 : (1000 - l = 0) = False := by simp; omega
  have n2 : (1000 - l == 0) = false := by simp; omega
  refine SndP.of_awp hC ?_ Try.func12 rfl rfl (by decide +kernel) (Nat.le_of_ble_eq_true rfl) fun n => ?_
  · exact cleanB_ok 4 _ rfl
  · repeat' (first
    | (refine hKK _ ?_; clear hKK KK)
    | (refine awp_assoc ?_)
    | (refine awp_reg fun KK hKK => ?_)
    | (refine awp_reg1 fun KK hKK => ?_)
    | (refine xw_id ?_; simp (config := { maxSteps := 4000000 }) only [xw_n, xw_o, xw_g, xop_c, xo_move, xo_assign, xo_pick, xo_alloc, xo_box, xo_build, xo_buildSlice, xo_load, xo_store, xo_nilCheck, xo_binOp, xo_unOp, xo_convert, xo_makeFunc, xo_makeSlice, xo_slice, xo_fieldAddr, xo_field, xo_indexAddr, xo_index, xo_extract, xo_builtin, opEff, ob_some, ev, nw_false, nw_none, cond_true, cond_false, true_and, and_true, ap_n, ap_n0, ap_w, ap_w0, ap_s, ap_s0, ap_a, doAct, killO, cst, putT, upd_get, init_arg, arg_z, arg_s, deadH, Nat.add_zero, Nat.zero_add, Nat.reduceEqDiff, Nat.left_eq_add, Nat.add_eq_left, Nat.add_left_cancel_iff, Nat.reduceAdd, Nat.reduceMul, Nat.reduceSub, Nat.reduceLT, Nat.reduceLeDiff, reduceIte, List.size_toArray, Nat.add_assoc, Int.reduceToNat, Int.reduceBEq, Int.reduceBNe, Int.reduceLT, Int.reduceLE, Int.reduceGT, Int.reduceGE, Int.reduceEq, Int.reduceNe, Int.reduceAdd, Int.reduceSub, Int.reduceMul, Int.reduceNeg, Nat.reduceBEq, decide_true, decide_false, addOff, cellsAt, part?, sub?, builtinE, lenE, indexAddrE, sliceE, bopE, iop, uopE, eqB, eqCells, eqv, kindsOk, kindOk, intOf?, loOf, hiOf, minE, maxE, nilB, nilP, nilS, callOf, cellsOf, scal, sto, fillA, putAt, srcOf, appE, copyE, rep, gsp_tt, gsp_ff, gsp_tf, gsp_ft, gsp_un, Option.map_some, Option.map_none, Option.bind_some, Option.bind_none, List.map_cons, List.map_nil, List.getElem?_cons_zero, List.getElem?_cons_succ, List.drop_zero, List.drop_succ_cons, List.take_succ_cons, List.take_zero, List.length_cons, List.length_nil, List.nil_append, List.cons_append, List.append_nil, List.set_cons_zero, List.set_cons_succ, id, Nat.mul_one, Nat.one_mul, Nat.zero_mul, Nat.mul_zero, ite_true, ite_false, if_true, if_false, Nat.le_refl, Bool.not_true, Bool.not_false, Bool.true_and, Bool.and_true, Bool.false_and, Bool.and_false, Bool.true_or, Bool.or_true, Bool.false_or, Bool.or_false, beq_self_eq_true, w1, w2, w3, w4, w5, w6, n1, n2])
    | (refine gsp_split (fun h => ?_) (fun h => ?_) <;> simp (config := { maxSteps := 4000000 }) only [xw_n, xw_o, xw_g, xop_c, xo_move, xo_assign, xo_pick, xo_alloc, xo_box, xo_build, xo_buildSlice, xo_load, xo_store, xo_nilCheck, xo_binOp, xo_unOp, xo_convert, xo_makeFunc, xo_makeSlice, xo_slice, xo_fieldAddr, xo_field, xo_indexAddr, xo_index, xo_extract, xo_builtin, opEff, ob_some, ev, nw_false, nw_none, cond_true, cond_false, true_and, and_true, ap_n, ap_n0, ap_w, ap_w0, ap_s, ap_s0, ap_a, doAct, killO, cst, putT, upd_get, init_arg, arg_z, arg_s, deadH, Nat.add_zero, Nat.zero_add, Nat.reduceEqDiff, Nat.left_eq_add, Nat.add_eq_left, Nat.add_left_cancel_iff, Nat.reduceAdd, Nat.reduceMul, Nat.reduceSub, Nat.reduceLT, Nat.reduceLeDiff, reduceIte, List.size_toArray, Nat.add_assoc, Int.reduceToNat, Int.reduceBEq, Int.reduceBNe, Int.reduceLT, Int.reduceLE, Int.reduceGT, Int.reduceGE, Int.reduceEq, Int.reduceNe, Int.reduceAdd, Int.reduceSub, Int.reduceMul, Int.reduceNeg, Nat.reduceBEq, decide_true, decide_false, addOff, cellsAt, part?, sub?, builtinE, lenE, indexAddrE, sliceE, bopE, iop, uopE, eqB, eqCells, eqv, kindsOk, kindOk, intOf?, loOf, hiOf, minE, maxE, nilB, nilP, nilS, callOf, cellsOf, scal, sto, fillA, putAt, srcOf, appE, copyE, rep, gsp_tt, gsp_ff, gsp_tf, gsp_ft, gsp_un, Option.map_some, Option.map_none, Option.bind_some, Option.bind_none, List.map_cons, List.map_nil, List.getElem?_cons_zero, List.getElem?_cons_succ, List.drop_zero, List.drop_succ_cons, List.take_succ_cons, List.take_zero, List.length_cons, List.length_nil, List.nil_append, List.cons_append, List.append_nil, List.set_cons_zero, List.set_cons_succ, id, Nat.mul_one, Nat.one_mul, Nat.zero_mul, Nat.mul_zero, ite_true, ite_false, if_true, if_false, Nat.le_refl, Bool.not_true, Bool.not_false, Bool.true_and, Bool.and_true, Bool.false_and, Bool.and_false, Bool.true_or, Bool.or_true, Bool.false_or, Bool.or_false, beq_self_eq_true, w1, w2, w3, w4, w5, w6, n1, n2, h])
    | (refine xcall_p (h1) ?_; try dsimp only)
    | (refine xcall_n (h1) ?_; try dsimp only)
    | (refine awp_condT ?_ ?_; focus ((simp only [ev, cst, upd_get, Nat.reduceEqDiff, reduceIte, if_true, if_false]); done))
    | (refine awp_condT1 ?_ ?_; focus ((simp only [ev, cst, upd_get, Nat.reduceEqDiff, reduceIte, if_true, if_false]); done))
    | (refine awp_condF ?_ ?_; focus ((simp only [ev, cst, upd_get, Nat.reduceEqDiff, reduceIte, if_true, if_false]); done))
    | (refine awp_condF1 ?_ ?_; focus ((simp only [ev, cst, upd_get, Nat.reduceEqDiff, reduceIte, if_true, if_false]); done))
    | (refine awp_cond (by simp only [ev, cst, upd_get, Nat.reduceEqDiff, reduceIte, if_true, if_false]; rfl) (fun h => ?_) (fun h => ?_))
    | (refine awp_cond1 (by simp only [ev, cst, upd_get, Nat.reduceEqDiff, reduceIte, if_true, if_false]; rfl) (fun h => ?_) (fun h => ?_))
    | (refine awp_skip ?_)
    | (refine awp_ret ?_)
    | (refine awp_ret1 ?_)
    | (refine awp_exit ?_)
    | (refine awp_exit1 ?_)
    | (refine awp_block ?_)
    | (refine awp_block1 ?_)
    | (rw [seqQ_n])
    | (rw [seqQ_e])
    | (rw [seqQ_r])
    | (rw [loopQ_n])
    | (rw [loopQ_e])
    | (rw [loopQ_r])
    | (rw [blkQ_n])
    | (rw [blkQ_r])
    | (rw [blkQ_e])
    | (rw [blkQ_o rfl])
    | (refine end_ret rs12 (by simp only [resV, resAll, resOf, packR, cellsAt, part?, sub?, upd_get, Option.map_some, Nat.reduceEqDiff, reduceIte, if_true, if_false, id]; rfl) ?_)
    | (refine end_normal rs12 (by simp only [resV, resAll, resOf, packR, cellsAt, part?, sub?, upd_get, Option.map_some, Nat.reduceEqDiff, reduceIte, if_true, if_false, id]; rfl) ?_))
    all_goals (first | (simp (config := { maxSteps := 4000000 }) only [fz, nilS, packR, List.take_nil, xw_n, xw_o, xw_g, xop_c, xo_move, xo_assign, xo_pick, xo_alloc, xo_box, xo_build, xo_buildSlice, xo_load, xo_store, xo_nilCheck, xo_binOp, xo_unOp, xo_convert, xo_makeFunc, xo_makeSlice, xo_slice, xo_fieldAddr, xo_field, xo_indexAddr, xo_index, xo_extract, xo_builtin, opEff, ob_some, ev, nw_false, nw_none, cond_true, cond_false, true_and, and_true, ap_n, ap_n0, ap_w, ap_w0, ap_s, ap_s0, ap_a, doAct, killO, cst, putT, upd_get, init_arg, arg_z, arg_s, deadH, Nat.add_zero, Nat.zero_add, Nat.reduceEqDiff, Nat.left_eq_add, Nat.add_eq_left, Nat.add_left_cancel_iff, Nat.reduceAdd, Nat.reduceMul, Nat.reduceSub, Nat.reduceLT, Nat.reduceLeDiff, reduceIte, List.size_toArray, Nat.add_assoc, Int.reduceToNat, Int.reduceBEq, Int.reduceBNe, Int.reduceLT, Int.reduceLE, Int.reduceGT, Int.reduceGE, Int.reduceEq, Int.reduceNe, Int.reduceAdd, Int.reduceSub, Int.reduceMul, Int.reduceNeg, Nat.reduceBEq, decide_true, decide_false, addOff, cellsAt, part?, sub?, builtinE, lenE, indexAddrE, sliceE, bopE, iop, uopE, eqB, eqCells, eqv, kindsOk, kindOk, intOf?, loOf, hiOf, minE, maxE, nilB, nilP, nilS, callOf, cellsOf, scal, sto, fillA, putAt, srcOf, appE, copyE, rep, gsp_tt, gsp_ff, gsp_tf, gsp_ft, gsp_un, Option.map_some, Option.map_none, Option.bind_some, Option.bind_none, List.map_cons, List.map_nil, List.getElem?_cons_zero, List.getElem?_cons_succ, List.drop_zero, List.drop_succ_cons, List.take_succ_cons, List.take_zero, List.length_cons, List.length_nil, List.nil_append, List.cons_append, List.append_nil, List.set_cons_zero, List.set_cons_succ, id, Nat.mul_one, Nat.one_mul, Nat.zero_mul, Nat.mul_zero, ite_true, ite_false, if_true, if_false, Nat.le_refl, Bool.not_true, Bool.not_false, Bool.true_and, Bool.and_true, Bool.false_and, Bool.and_false, Bool.true_or, Bool.or_true, Bool.false_or, Bool.or_false, beq_self_eq_true, cv]; done) | (exfalso; grind))

theorem rcost_bad {i : Int} (h : i < 0 ∨ 12 ≤ i) (l : Int) : SndP K 13 [vi i, vi l] errA := by
  refine SndP.of_awp hC ?_ Try.func13 rfl rfl (by decide +kernel) (Nat.le_of_ble_eq_true rfl) fun n => ?_
  · exact cleanB_ok 4 _ rfl
  · repeat' (first
    | (refine hKK _ ?_; clear hKK KK)
    | (refine awp_assoc ?_)
    | (refine awp_reg fun KK hKK => ?_)
    | (refine awp_reg1 fun KK hKK => ?_)
    | (refine xw_id ?_; simp (config := { maxSteps := 4000000 }) only [xw_n, xw_o, xw_g, xop_c, xo_move, xo_assign, xo_pick, xo_alloc, xo_box, xo_build, xo_buildSlice, xo_load, xo_store, xo_nilCheck, xo_binOp, xo_unOp, xo_convert, xo_makeFunc, xo_makeSlice, xo_slice, xo_fieldAddr, xo_field, xo_indexAddr, xo_index, xo_extract, xo_builtin, opEff, ob_some, ev, nw_false, nw_none, cond_true, cond_false, true_and, and_true, ap_n, ap_n0, ap_w, ap_w0, ap_s, ap_s0, ap_a, doAct, killO, cst, putT, upd_get, init_arg, arg_z, arg_s, deadH, Nat.add_zero, Nat.zero_add, Nat.reduceEqDiff, Nat.left_eq_add, Nat.add_eq_left, Nat.add_left_cancel_iff, Nat.reduceAdd, Nat.reduceMul, Nat.reduceSub, Nat.reduceLT, Nat.reduceLeDiff, reduceIte, List.size_toArray, Nat.add_assoc, Int.reduceToNat, Int.reduceBEq, Int.reduceBNe, Int.reduceLT, Int.reduceLE, Int.reduceGT, Int.reduceGE, Int.reduceEq, Int.reduceNe, Int.reduceAdd, Int.reduceSub, Int.reduceMul, Int.reduceNeg, Nat.reduceBEq, decide_true, decide_false, addOff, cellsAt, part?, sub?, builtinE, lenE, indexAddrE, sliceE, bopE, iop, uopE, eqB, eqCells, eqv, kindsOk, kindOk, intOf?, loOf, hiOf, minE, maxE, nilB, nilP, nilS, callOf, cellsOf, scal, sto, fillA, putAt, srcOf, appE, copyE, rep, gsp_tt, gsp_ff, gsp_tf, gsp_ft, gsp_un, Option.map_some, Option.map_none, Option.bind_some, Option.bind_none, List.map_cons, List.map_nil, List.getElem?_cons_zero, List.getElem?_cons_succ, List.drop_zero, List.drop_succ_cons, List.take_succ_cons, List.take_zero, List.length_cons, List.length_nil, List.nil_append, List.cons_append, List.append_nil, List.set_cons_zero, List.set_cons_succ, id, Nat.mul_one, Nat.one_mul, Nat.zero_mul, Nat.mul_zero, ite_true, ite_false, if_true, if_false, Nat.le_refl, Bool.not_true, Bool.not_false, Bool.true_and, Bool.and_true, Bool.false_and, Bool.and_false, Bool.true_or, Bool.or_true, Bool.false_or, Bool.or_false, beq_self_eq_true])
    | (refine gsp_split (fun h => ?_) (fun h => ?_) <;> simp (config := { maxSteps := 4000000 }) only [xw_n, xw_o, xw_g, xop_c, xo_move, xo_assign, xo_pick, xo_alloc, xo_box, xo_build, xo_buildSlice, xo_load, xo_store, xo_nilCheck, xo_binOp, xo_unOp, xo_convert, xo_makeFunc, xo_makeSlice, xo_slice, xo_fieldAddr, xo_field, xo_indexAddr, xo_index, xo_extract, xo_builtin, opEff, ob_some, ev, nw_false, nw_none, cond_true, cond_false, true_and, and_true, ap_n, ap_n0, ap_w, ap_w0, ap_s, ap_s0, ap_a, doAct, killO, cst, putT, upd_get, init_arg, arg_z, arg_s, deadH, Nat.add_zero, Nat.zero_add, Nat.reduceEqDiff, Nat.left_eq_add, Nat.add_eq_left, Nat.add_left_cancel_iff, Nat.reduceAdd, Nat.reduceMul, Nat.reduceSub, Nat.reduceLT, Nat.reduceLeDiff, reduceIte, List.size_toArray, Nat.add_assoc, Int.reduceToNat, Int.reduceBEq, Int.reduceBNe, Int.reduceLT, Int.reduceLE, Int.reduceGT, Int.reduceGE, Int.reduceEq, Int.reduceNe, Int.reduceAdd, Int.reduceSub, Int.reduceMul, Int.reduceNeg, Nat.reduceBEq, decide_true, decide_false, addOff, cellsAt, part?, sub?, builtinE, lenE, indexAddrE, sliceE, bopE, iop, uopE, eqB, eqCells, eqv, kindsOk, kindOk, intOf?, loOf, hiOf, minE, maxE, nilB, nilP, nilS, callOf, cellsOf, scal, sto, fillA, putAt, srcOf, appE, copyE, rep, gsp_tt, gsp_ff, gsp_tf, gsp_ft, gsp_un, Option.map_some, Option.map_none, Option.bind_some, Option.bind_none, List.map_cons, List.map_nil, List.getElem?_cons_zero, List.getElem?_cons_succ, List.drop_zero, List.drop_succ_cons, List.take_succ_cons, List.take_zero, List.length_cons, List.length_nil, List.nil_append, List.cons_append, List.append_nil, List.set_cons_zero, List.set_cons_succ, id, Nat.mul_one, Nat.one_mul, Nat.zero_mul, Nat.mul_zero, ite_true, ite_false, if_true, if_false, Nat.le_refl, Bool.not_true, Bool.not_false, Bool.true_and, Bool.and_true, Bool.false_and, Bool.and_false, Bool.true_or, Bool.or_true, Bool.false_or, Bool.or_false, beq_self_eq_true, h])
    | (refine awp_condT ?_ ?_; focus ((simp only [ev, cst, upd_get, Nat.reduceEqDiff, reduceIte, if_true, if_false]); done))
    | (refine awp_condT1 ?_ ?_; focus ((simp only [ev, cst, upd_get, Nat.reduceEqDiff, reduceIte, if_true, if_false]); done))
    | (refine awp_condF ?_ ?_; focus ((simp only [ev, cst, upd_get, Nat.reduceEqDiff, reduceIte, if_true, if_false]); done))
    | (refine awp_condF1 ?_ ?_; focus ((simp only [ev, cst, upd_get, Nat.reduceEqDiff, reduceIte, if_true, if_false]); done))
    | (refine awp_cond (by simp only [ev, cst, upd_get, Nat.reduceEqDiff, reduceIte, if_true, if_false]; rfl) (fun h => ?_) (fun h => ?_))
    | (refine awp_cond1 (by simp only [ev, cst, upd_get, Nat.reduceEqDiff, reduceIte, if_true, if_false]; rfl) (fun h => ?_) (fun h => ?_))
    | (refine awp_skip ?_)
    | (refine awp_ret ?_)
    | (refine awp_ret1 ?_)
    | (refine awp_exit ?_)
    | (refine awp_exit1 ?_)
    | (refine awp_block ?_)
    | (refine awp_block1 ?_)
    | (rw [seqQ_n])
    | (rw [seqQ_e])
    | (rw [seqQ_r])
    | (rw [loopQ_n])
    | (rw [loopQ_e])
    | (rw [loopQ_r])
    | (rw [blkQ_n])
    | (rw [blkQ_r])
    | (rw [blkQ_e])
    | (rw [blkQ_o rfl])
    | (refine end_ret rs13 (by simp only [resV, resAll, resOf, packR, cellsAt, part?, sub?, upd_get, Option.map_some, Nat.reduceEqDiff, reduceIte, if_true, if_false, id]; rfl) ?_)
    | (refine end_normal rs13 (by simp only [resV, resAll, resOf, packR, cellsAt, part?, sub?, upd_get, Option.map_some, Nat.reduceEqDiff, reduceIte, if_true, if_false, id]; rfl) ?_))
    all_goals (first | (simp (config := { maxSteps := 4000000 }) only [fz, nilS, packR, List.take_nil, xw_n, xw_o, xw_g, xop_c, xo_move, xo_assign, xo_pick, xo_alloc, xo_box, xo_build, xo_buildSlice, xo_load, xo_store, xo_nilCheck, xo_binOp, xo_unOp, xo_convert, xo_makeFunc, xo_makeSlice, xo_slice, xo_fieldAddr, xo_field, xo_indexAddr, xo_index, xo_extract, xo_builtin, opEff, ob_some, ev, nw_false, nw_none, cond_true, cond_false, true_and, and_true, ap_n, ap_n0, ap_w, ap_w0, ap_s, ap_s0, ap_a, doAct, killO, cst, putT, upd_get, init_arg, arg_z, arg_s, deadH, Nat.add_zero, Nat.zero_add, Nat.reduceEqDiff, Nat.left_eq_add, Nat.add_eq_left, Nat.add_left_cancel_iff, Nat.reduceAdd, Nat.reduceMul, Nat.reduceSub, Nat.reduceLT, Nat.reduceLeDiff, reduceIte, List.size_toArray, Nat.add_assoc, Int.reduceToNat, Int.reduceBEq, Int.reduceBNe, Int.reduceLT, Int.reduceLE, Int.reduceGT, Int.reduceGE, Int.reduceEq, Int.reduceNe, Int.reduceAdd, Int.reduceSub, Int.reduceMul, Int.reduceNeg, Nat.reduceBEq, decide_true, decide_false, addOff, cellsAt, part?, sub?, builtinE, lenE, indexAddrE, sliceE, bopE, iop, uopE, eqB, eqCells, eqv, kindsOk, kindOk, intOf?, loOf, hiOf, minE, maxE, nilB, nilP, nilS, callOf, cellsOf, scal, sto, fillA, putAt, srcOf, appE, copyE, rep, gsp_tt, gsp_ff, gsp_tf, gsp_ft, gsp_un, Option.map_some, Option.map_none, Option.bind_some, Option.bind_none, List.map_cons, List.map_nil, List.getElem?_cons_zero, List.getElem?_cons_succ, List.drop_zero, List.drop_succ_cons, List.take_succ_cons, List.take_zero, List.length_cons, List.length_nil, List.nil_append, List.cons_append, List.append_nil, List.set_cons_zero, List.set_cons_succ, id, Nat.mul_one, Nat.one_mul, Nat.zero_mul, Nat.mul_zero, ite_true, ite_false, if_true, if_false, Nat.le_refl, Bool.not_true, Bool.not_false, Bool.true_and, Bool.and_true, Bool.false_and, Bool.and_false, Bool.true_or, Bool.or_true, Bool.false_or, Bool.or_false, beq_self_eq_true]; done) | (exfalso; grind))

theorem rcost_bad2 {i : Int} {l : Int} (hl : l < 0 ∨ 1000 < l) : SndP K 13 [vi i, vi l] errA := by
  refine SndP.of_awp hC ?_ Try.func13 rfl rfl (by decide +kernel) (Nat.le_of_ble_eq_true rfl) fun n => ?_
  · exact cleanB_ok 4 _ rfl
  · repeat' (first
    | (refine hKK _ ?_; clear hKK KK)
    | (refine awp_assoc ?_)
    | (refine awp_reg fun KK hKK => ?_)
    | (refine awp_reg1 fun KK hKK => ?_)
    | (refine xw_id ?_; simp (config := { maxSteps := 4000000 }) only [xw_n, xw_o, xw_g, xop_c, xo_move, xo_assign, xo_pick, xo_alloc, xo_box, xo_build, xo_buildSlice, xo_load, xo_store, xo_nilCheck, xo_binOp, xo_unOp, xo_convert, xo_makeFunc, xo_makeSlice, xo_slice, xo_fieldAddr, xo_field, xo_indexAddr, xo_index, xo_extract, xo_builtin, opEff, ob_some, ev, nw_false, nw_none, cond_true, cond_false, true_and, and_true, ap_n, ap_n0, ap_w, ap_w0, ap_s, ap_s0, ap_a, doAct, killO, cst, putT, upd_get, init_arg, arg_z, arg_s, deadH, Nat.add_zero, Nat.zero_add, Nat.reduceEqDiff, Nat.left_eq_add, Nat.add_eq_left, Nat.add_left_cancel_iff, Nat.reduceAdd, Nat.reduceMul, Nat.reduceSub, Nat.reduceLT, Nat.reduceLeDiff, reduceIte, List.size_toArray, Nat.add_assoc, Int.reduceToNat, Int.reduceBEq, Int.reduceBNe, Int.reduceLT, Int.reduceLE, Int.reduceGT, Int.reduceGE, Int.reduceEq, Int.reduceNe, Int.reduceAdd, Int.reduceSub, Int.reduceMul, Int.reduceNeg, Nat.reduceBEq, decide_true, decide_false, addOff, cellsAt, part?, sub?, builtinE, lenE, indexAddrE, sliceE, bopE, iop, uopE, eqB, eqCells, eqv, kindsOk, kindOk, intOf?, loOf, hiOf, minE, maxE, nilB, nilP, nilS, callOf, cellsOf, scal, sto, fillA, putAt, srcOf, appE, copyE, rep, gsp_tt, gsp_ff, gsp_tf, gsp_ft, gsp_un, Option.map_some, Option.map_none, Option.bind_some, Option.bind_none, List.map_cons, List.map_nil, List.getElem?_cons_zero, List.getElem?_cons_succ, List.drop_zero, List.drop_succ_cons, List.take_succ_cons, List.take_zero, List.length_cons, List.length_nil, List.nil_append, List.cons_append, List.append_nil, List.set_cons_zero, List.set_cons_succ, id, Nat.mul_one, Nat.one_mul, Nat.zero_mul, Nat.mul_zero, ite_true, ite_false, if_true, if_false, Nat.le_refl, Bool.not_true, Bool.not_false, Bool.true_and, Bool.and_true, Bool.false_and, Bool.and_false, Bool.true_or, Bool.or_true, Bool.false_or, Bool.or_false, beq_self_eq_true])
    | (refine gsp_split (fun h => ?_) (fun h => ?_) <;> simp (config := { maxSteps := 4000000 }) only [xw_n, xw_o, xw_g, xop_c, xo_move, xo_assign, xo_pick, xo_alloc, xo_box, xo_build, xo_buildSlice, xo_load, xo_store, xo_nilCheck, xo_binOp, xo_unOp, xo_convert, xo_makeFunc, xo_makeSlice, xo_slice, xo_fieldAddr, xo_field, xo_indexAddr, xo_index, xo_extract, xo_builtin, opEff, ob_some, ev, nw_false, nw_none, cond_true, cond_false, true_and, and_true, ap_n, ap_n0, ap_w, ap_w0, ap_s, ap_s0, ap_a, doAct, killO, cst, putT, upd_get, init_arg, arg_z, arg_s, deadH, Nat.add_zero, Nat.zero_add, Nat.reduceEqDiff, Nat.left_eq_add, Nat.add_eq_left, Nat.add_left_cancel_iff, Nat.reduceAdd, Nat.reduceMul, Nat.reduceSub, Nat.reduceLT, Nat.reduceLeDiff, reduceIte, List.size_toArray, Nat.add_assoc, Int.reduceToNat, Int.reduceBEq, Int.reduceBNe, Int.reduceLT, Int.reduceLE, Int.reduceGT, Int.reduceGE, Int.reduceEq, Int.reduceNe, Int.reduceAdd, Int.reduceSub, Int.reduceMul, Int.reduceNeg, Nat.reduceBEq, decide_true, decide_false, addOff, cellsAt, part?, sub?, builtinE, lenE, indexAddrE, sliceE, bopE, iop, uopE, eqB, eqCells, eqv, kindsOk, kindOk, intOf?, loOf, hiOf, minE, maxE, nilB, nilP, nilS, callOf, cellsOf, scal, sto, fillA, putAt, srcOf, appE, copyE, rep, gsp_tt, gsp_ff, gsp_tf, gsp_ft, gsp_un, Option.map_some, Option.map_none, Option.bind_some, Option.bind_none, List.map_cons, List.map_nil, List.getElem?_cons_zero, List.getElem?_cons_succ, List.drop_zero, List.drop_succ_cons, List.take_succ_cons, List.take_zero, List.length_cons, List.length_nil, List.nil_append, List.cons_append, List.append_nil, List.set_cons_zero, List.set_cons_succ, id, Nat.mul_one, Nat.one_mul, Nat.zero_mul, Nat.mul_zero, ite_true, ite_false, if_true, if_false, Nat.le_refl, Bool.not_true, Bool.not_false, Bool.true_and, Bool.and_true, Bool.false_and, Bool.and_false, Bool.true_or, Bool.or_true, Bool.false_or, Bool.or_false, beq_self_eq_true, h])
    | (refine awp_condT ?_ ?_; focus ((simp only [ev, cst, upd_get, Nat.reduceEqDiff, reduceIte, if_true, if_false]); done))
    | (refine awp_condT1 ?_ ?_; focus ((simp only [ev, cst, upd_get, Nat.reduceEqDiff, reduceIte, if_true, if_false]); done))
    | (refine awp_condF ?_ ?_; focus ((simp only [ev, cst, upd_get, Nat.reduceEqDiff, reduceIte, if_true, if_false]); done))
    | (refine awp_condF1 ?_ ?_; focus ((simp only [ev, cst, upd_get, Nat.reduceEqDiff, reduceIte, if_true, if_false]); done))
    | (refine awp_cond (by simp only [ev, cst, upd_get, Nat.reduceEqDiff, reduceIte, if_true, if_false]; rfl) (fun h => ?_) (fun h => ?_))
    | (refine awp_cond1 (by simp only [ev, cst, upd_get, Nat.reduceEqDiff, reduceIte, if_true, if_false]; rfl) (fun h => ?_) (fun h => ?_))
    | (refine awp_skip ?_)
    | (refine awp_ret ?_)
    | (refine awp_ret1 ?_)
    | (refine awp_exit ?_)
    | (refine awp_exit1 ?_)
    | (refine awp_block ?_)
    | (refine awp_block1 ?_)
    | (rw [seqQ_n])
    | (rw [seqQ_e])
    | (rw [seqQ_r])
    | (rw [loopQ_n])
    | (rw [loopQ_e])
    | (rw [loopQ_r])
    | (rw [blkQ_n])
    | (rw [blkQ_r])
    | (rw [blkQ_e])
    | (rw [blkQ_o rfl])
    | (refine end_ret rs13 (by simp only [resV, resAll, resOf, packR, cellsAt, part?, sub?, upd_get, Option.map_some, Nat.reduceEqDiff, reduceIte, if_true, if_false, id]; rfl) ?_)
    | (refine end_normal rs13 (by simp only [resV, resAll, resOf, packR, cellsAt, part?, sub?, upd_get, Option.map_some, Nat.reduceEqDiff, reduceIte, if_true, if_false, id]; rfl) ?_))
    all_goals (first | (simp (config := { maxSteps := 4000000 }) only [fz, nilS, packR, List.take_nil, xw_n, xw_o, xw_g, xop_c, xo_move, xo_assign, xo_pick, xo_alloc, xo_box, xo_build, xo_buildSlice, xo_load, xo_store, xo_nilCheck, xo_binOp, xo_unOp, xo_convert, xo_makeFunc, xo_makeSlice, xo_slice, xo_fieldAddr, xo_field, xo_indexAddr, xo_index, xo_extract, xo_builtin, opEff, ob_some, ev, nw_false, nw_none, cond_true, cond_false, true_and, and_true, ap_n, ap_n0, ap_w, ap_w0, ap_s, ap_s0, ap_a, doAct, killO, cst, putT, upd_get, init_arg, arg_z, arg_s, deadH, Nat.add_zero, Nat.zero_add, Nat.reduceEqDiff, Nat.left_eq_add, Nat.add_eq_left, Nat.add_left_cancel_iff, Nat.reduceAdd, Nat.reduceMul, Nat.reduceSub, Nat.reduceLT, Nat.reduceLeDiff, reduceIte, List.size_toArray, Nat.add_assoc, Int.reduceToNat, Int.reduceBEq, Int.reduceBNe, Int.reduceLT, Int.reduceLE, Int.reduceGT, Int.reduceGE, Int.reduceEq, Int.reduceNe, Int.reduceAdd, Int.reduceSub, Int.reduceMul, Int.reduceNeg, Nat.reduceBEq, decide_true, decide_false, addOff, cellsAt, part?, sub?, builtinE, lenE, indexAddrE, sliceE, bopE, iop, uopE, eqB, eqCells, eqv, kindsOk, kindOk, intOf?, loOf, hiOf, minE, maxE, nilB, nilP, nilS, callOf, cellsOf, scal, sto, fillA, putAt, srcOf, appE, copyE, rep, gsp_tt, gsp_ff, gsp_tf, gsp_ft, gsp_un, Option.map_some, Option.map_none, Option.bind_some, Option.bind_none, List.map_cons, List.map_nil, List.getElem?_cons_zero, List.getElem?_cons_succ, List.drop_zero, List.drop_succ_cons, List.take_succ_cons, List.take_zero, List.length_cons, List.length_nil, List.nil_append, List.cons_append, List.append_nil, List.set_cons_zero, List.set_cons_succ, id, Nat.mul_one, Nat.one_mul, Nat.zero_mul, Nat.mul_zero, ite_true, ite_false, if_true, if_false, Nat.le_refl, Bool.not_true, Bool.not_false, Bool.true_and, Bool.and_true, Bool.false_and, Bool.and_false, Bool.true_or, Bool.or_true, Bool.false_or, Bool.or_false, beq_self_eq_true]; done) | (exfalso; grind))

theorem rcost_full {i : Int} (h : 0 ≤ i) (h' : i < 12) : SndP K 13 [vi i, vi 1000] (.tup [vi 1099511627776, vi 0]) := by
  refine SndP.of_awp hC ?_ Try.func13 rfl rfl (by decide +kernel) (Nat.le_of_ble_eq_true rfl) fun n => ?_
  · exact cleanB_ok 4 _ rfl
  · repeat' (first
    | (refine hKK _ ?_; clear hKK KK)
    | (refine awp_assoc ?_)
    | (refine awp_reg fun KK hKK => ?_)
    | (refine awp_reg1 fun KK hKK => ?_)
    | (refine xw_id ?_; simp (config := { maxSteps := 4000000 }) only [xw_n, xw_o, xw_g, xop_c, xo_move, xo_assign, xo_pick, xo_alloc, xo_box, xo_build, xo_buildSlice, xo_load, xo_store, xo_nilCheck, xo_binOp, xo_unOp, xo_convert, xo_makeFunc, xo_makeSlice, xo_slice, xo_fieldAddr, xo_field, xo_indexAddr, xo_index, xo_extract, xo_builtin, opEff, ob_some, ev, nw_false, nw_none, cond_true, cond_false, true_and, and_true, ap_n, ap_n0, ap_w, ap_w0, ap_s, ap_s0, ap_a, doAct, killO, cst, putT, upd_get, init_arg, arg_z, arg_s, deadH, Nat.add_zero, Nat.zero_add, Nat.reduceEqDiff, Nat.left_eq_add, Nat.add_eq_left, Nat.add_left_cancel_iff, Nat.reduceAdd, Nat.reduceMul, Nat.reduceSub, Nat.reduceLT, Nat.reduceLeDiff, reduceIte, List.size_toArray, Nat.add_assoc, Int.reduceToNat, Int.reduceBEq, Int.reduceBNe, Int.reduceLT, Int.reduceLE, Int.reduceGT, Int.reduceGE, Int.reduceEq, Int.reduceNe, Int.reduceAdd, Int.reduceSub, Int.reduceMul, Int.reduceNeg, Nat.reduceBEq, decide_true, decide_false, addOff, cellsAt, part?, sub?, builtinE, lenE, indexAddrE, sliceE, bopE, iop, uopE, eqB, eqCells, eqv, kindsOk, kindOk, intOf?, loOf, hiOf, minE, maxE, nilB, nilP, nilS, callOf, cellsOf, scal, sto, fillA, putAt, srcOf, appE, copyE, rep, gsp_tt, gsp_ff, gsp_tf, gsp_ft, gsp_un, Option.map_some, Option.map_none, Option.bind_some, Option.bind_none, List.map_cons, List.map_nil, List.getElem?_cons_zero, List.getElem?_cons_succ, List.drop_zero, List.drop_succ_cons, List.take_succ_cons, List.take_zero, List.length_cons, List.length_nil, List.nil_append, List.cons_append, List.append_nil, List.set_cons_zero, List.set_cons_succ, id, Nat.mul_one, Nat.one_mul, Nat.zero_mul, Nat.mul_zero, ite_true, ite_false, if_true, if_false, Nat.le_refl, Bool.not_true, Bool.not_false, Bool.true_and, Bool.and_true, Bool.false_and, Bool.and_false, Bool.true_or, Bool.or_true, Bool.false_or, Bool.or_false, beq_self_eq_true])
    | (refine gsp_split (fun h => ?_) (fun h => ?_) <;> simp (config := { maxSteps := 4000000 }) only [xw_n, xw_o, xw_g, xop_c, xo_move, xo_assign, xo_pick, xo_alloc, xo_box, xo_build, xo_buildSlice, xo_load, xo_store, xo_nilCheck, xo_binOp, xo_unOp, xo_convert, xo_makeFunc, xo_makeSlice, xo_slice, xo_fieldAddr, xo_field, xo_indexAddr, xo_index, xo_extract, xo_builtin, opEff, ob_some, ev, nw_false, nw_none, cond_true, cond_false, true_and, and_true, ap_n, ap_n0, ap_w, ap_w0, ap_s, ap_s0, ap_a, doAct, killO, cst, putT, upd_get, init_arg, arg_z, arg_s, deadH, Nat.add_zero, Nat.zero_add, Nat.reduceEqDiff, Nat.left_eq_add, Nat.add_eq_left, Nat.add_left_cancel_iff, Nat.reduceAdd, Nat.reduceMul, Nat.reduceSub, Nat.reduceLT, Nat.reduceLeDiff, reduceIte, List.size_toArray, Nat.add_assoc, Int.reduceToNat, Int.reduceBEq, Int.reduceBNe, Int.reduceLT, Int.reduceLE, Int.reduceGT, Int.reduceGE, Int.reduceEq, Int.reduceNe, Int.reduceAdd, Int.reduceSub, Int.reduceMul, Int.reduceNeg, Nat.reduceBEq, decide_true, decide_false, addOff, cellsAt, part?, sub?, builtinE, lenE, indexAddrE, sliceE, bopE, iop, uopE, eqB, eqCells, eqv, kindsOk, kindOk, intOf?, loOf, hiOf, minE, maxE, nilB, nilP, nilS, callOf, cellsOf, scal, sto, fillA, putAt, srcOf, appE, copyE, rep, gsp_tt, gsp_ff, gsp_tf, gsp_ft, gsp_un, Option.map_some, Option.map_none, Option.bind_some, Option.bind_none, List.map_cons, List.map_nil, List.getElem?_cons_zero, List.getElem?_cons_succ, List.drop_zero, List.drop_succ_cons, List.take_succ_cons, List.take_zero, List.length_cons, List.length_nil, List.nil_append, List.cons_append, List.append_nil, List.set_cons_zero, List.set_cons_succ, id, Nat.mul_one, Nat.one_mul, Nat.zero_mul, Nat.mul_zero, ite_true, ite_false, if_true, if_false, Nat.le_refl, Bool.not_true, Bool.not_false, Bool.true_and, Bool.and_true, Bool.false_and, Bool.and_false, Bool.true_or, Bool.or_true, Bool.false_or, Bool.or_false, beq_self_eq_true, h])
    | (refine awp_condT ?_ ?_; focus ((simp only [ev, cst, upd_get, Nat.reduceEqDiff, reduceIte, if_true, if_false]); done))
    | (refine awp_condT1 ?_ ?_; focus ((simp only [ev, cst, upd_get, Nat.reduceEqDiff, reduceIte, if_true, if_false]); done))
    | (refine awp_condF ?_ ?_; focus ((simp only [ev, cst, upd_get, Nat.reduceEqDiff, reduceIte, if_true, if_false]); done))
    | (refine awp_condF1 ?_ ?_; focus ((simp only [ev, cst, upd_get, Nat.reduceEqDiff, reduceIte, if_true, if_false]); done))
    | (refine awp_cond (by simp only [ev, cst, upd_get, Nat.reduceEqDiff, reduceIte, if_true, if_false]; rfl) (fun h => ?_) (fun h => ?_))
    | (refine awp_cond1 (by simp only [ev, cst, upd_get, Nat.reduceEqDiff, reduceIte, if_true, if_false]; rfl) (fun h => ?_) (fun h => ?_))
    | (refine awp_skip ?_)
    | (refine awp_ret ?_)
    | (refine awp_ret1 ?_)
    | (refine awp_exit ?_)
    | (refine awp_exit1 ?_)
    | (refine awp_block ?_)
    | (refine awp_block1 ?_)
    | (rw [seqQ_n])
    | (rw [seqQ_e])
    | (rw [seqQ_r])
    | (rw [loopQ_n])
    | (rw [loopQ_e])
    | (rw [loopQ_r])
    | (rw [blkQ_n])
    | (rw [blkQ_r])
    | (rw [blkQ_e])
    | (rw [blkQ_o rfl])
    | (refine end_ret rs13 (by simp only [resV, resAll, resOf, packR, cellsAt, part?, sub?, upd_get, Option.map_some, Nat.reduceEqDiff, reduceIte, if_true, if_false, id]; rfl) ?_)
    | (refine end_normal rs13 (by simp only [resV, resAll, resOf, packR, cellsAt, part?, sub?, upd_get, Option.map_some, Nat.reduceEqDiff, reduceIte, if_true, if_false, id]; rfl) ?_))
    all_goals (first | (simp (config := { maxSteps := 4000000 }) only [fz, nilS, packR, List.take_nil, xw_n, xw_o, xw_g, xop_c, xo_move, xo_assign, xo_pick, xo_alloc, xo_box, xo_build, xo_buildSlice, xo_load, xo_store, xo_nilCheck, xo_binOp, xo_unOp, xo_convert, xo_makeFunc, xo_makeSlice, xo_slice, xo_fieldAddr, xo_field, xo_indexAddr, xo_index, xo_extract, xo_builtin, opEff, ob_some, ev, nw_false, nw_none, cond_true, cond_false, true_and, and_true, ap_n, ap_n0, ap_w, ap_w0, ap_s, ap_s0, ap_a, doAct, killO, cst, putT, upd_get, init_arg, arg_z, arg_s, deadH, Nat.add_zero, Nat.zero_add, Nat.reduceEqDiff, Nat.left_eq_add, Nat.add_eq_left, Nat.add_left_cancel_iff, Nat.reduceAdd, Nat.reduceMul, Nat.reduceSub, Nat.reduceLT, Nat.reduceLeDiff, reduceIte, List.size_toArray, Nat.add_assoc, Int.reduceToNat, Int.reduceBEq, Int.reduceBNe, Int.reduceLT, Int.reduceLE, Int.reduceGT, Int.reduceGE, Int.reduceEq, Int.reduceNe, Int.reduceAdd, Int.reduceSub, Int.reduceMul, Int.reduceNeg, Nat.reduceBEq, decide_true, decide_false, addOff, cellsAt, part?, sub?, builtinE, lenE, indexAddrE, sliceE, bopE, iop, uopE, eqB, eqCells, eqv, kindsOk, kindOk, intOf?, loOf, hiOf, minE, maxE, nilB, nilP, nilS, callOf, cellsOf, scal, sto, fillA, putAt, srcOf, appE, copyE, rep, gsp_tt, gsp_ff, gsp_tf, gsp_ft, gsp_un, Option.map_some, Option.map_none, Option.bind_some, Option.bind_none, List.map_cons, List.map_nil, List.getElem?_cons_zero, List.getElem?_cons_succ, List.drop_zero, List.drop_succ_cons, List.take_succ_cons, List.take_zero, List.length_cons, List.length_nil, List.nil_append, List.cons_append, List.append_nil, List.set_cons_zero, List.set_cons_succ, id, Nat.mul_one, Nat.one_mul, Nat.zero_mul, Nat.mul_zero, ite_true, ite_false, if_true, if_false, Nat.le_refl, Bool.not_true, Bool.not_false, Bool.true_and, Bool.and_true, Bool.false_and, Bool.and_false, Bool.true_or, Bool.or_true, Bool.false_or, Bool.or_false, beq_self_eq_true]; done) | (exfalso; grind))

theorem rcost_ok {i : Int} (h : 0 ≤ i) (h' : i < 12) {l : Int} (hl : 0 ≤ l) (hl' : l < 1000) : SndP K 13 [vi i, vi l] (.tup [vi (cv (T i) l), vi 0]) := by
  obtain ⟨_, h1, ht, ht'⟩ := total_ok h h'
  generalize T i = t at *
  have b := tdiv_b (a := t * 100 * 1000) (b := 1000 - l) (by omega) (by omega)
  -- the quotient, rounded up
  have hq : (t * 100 * 1000).tdiv (1000 - l) * (1000 - l) ≤ t * 100 * 1000 ∧ t * 100 * 1000 < (t * 100 * 1000).tdiv (1000 - l) * (1000 - l) + (1000 - l) := by
    rw [Int.tdiv_eq_ediv_of_nonneg (by omega)]
    have := Int.emod_add_mul_ediv (t * 100 * 1000) (1000 - l)
    have h2 := Int.emod_nonneg (t * 100 * 1000) (show (1000 - l) ≠ 0 by omega)
    have h3 := Int.emod_lt_of_pos (t * 100 * 1000) (show 0 < 1000 - l by omega)
    rw [Int.mul_comm (t * 100 * 1000 / (1000 - l)) (1000 - l)]
    constructor <;> omega
  have hcv1 : (t * 100 * 1000).tdiv (1000 - l) * (1000 - l) < t * 100 * 1000 → cv t l = (t * 100 * 1000).tdiv (1000 - l) + 1 := by
    intro hlt
    unfold cv
    generalize hqq : (t * 100 * 1000).tdiv (1000 - l) = q at *
    have hp : 0 < 1000 - l := by omega
    rw [Int.tdiv_eq_ediv_of_nonneg (by omega)]
    have : t * 100 * 1000 + (1000 - l) - 1 = (t * 100 * 1000 - 1 - q * (1000 - l)) + (q + 1) * (1000 - l) := by rw [Int.add_mul]; omega
    rw [this, Int.add_mul_ediv_right _ _ (by omega), Int.ediv_eq_zero_of_lt (by omega) (by omega)]
    omega
  have hcv2 : ¬ (t * 100 * 1000).tdiv (1000 - l) * (1000 - l) < t * 100 * 1000 → cv t l = (t * 100 * 1000).tdiv (1000 - l) := by
    intro hlt
    unfold cv
    generalize hqq : (t * 100 * 1000).tdiv (1000 - l) = q at *
    rw [Int.tdiv_eq_ediv_of_nonneg (by omega)]
    have : t * 100 * 1000 + (1000 - l) - 1 = (1000 - l - 1) + q * (1000 - l) := by omega
    rw [this, Int.add_mul_ediv_right _ _ (by omega), Int.ediv_eq_zero_of_lt (by omega) (by omega)]
    omega
  have w1 : IntKind.wrap .i64 (1000 - l) = 1000 - l := wrap64 (by omega) (by omega)
  have w2 : IntKind.wrap .i64 (t * 100) = t * 100 := wrap64 (by omega) (by omega)
  have w3 : IntKind.wrap .i64 (t * 100 * 1000) = t * 100 * 1000 := wrap64 (by omega) (by omega)
  generalize hqq : (t * 100 * 1000).tdiv (1000 - l) = q at *
  have w4 : IntKind.wrap .i64 q = q := wrap64 (by omega) (by omega)
  have w5 : IntKind.wrap .i64 (q * (1000 - l)) = q * (1000 - l) := wrap64 (by omega) (by omega)
  have w6 : IntKind.wrap .i64 (q + 1) = q + 1 := wrap64 (by omega) (by omega)
  have n1 : (1000 - l = 0) = False := by simp; omega
  refine SndP.of_awp hC ?_ Try.func13 rfl rfl (by decide +kernel) (Nat.le_of_ble_eq_true rfl) fun n => ?_
  · exact cleanB_ok 4 _ rfl
  · repeat' (first
    | (refine hKK _ ?_; clear hKK KK)
    | (refine awp_assoc ?_)
    | (refine awp_reg fun KK hKK => ?_)
    | (refine awp_reg1 fun KK hKK => ?_)
    | (refine xw_id ?_; simp (config := { maxSteps := 4000000 }) only [xw_n, xw_o, xw_g, xop_c, xo_move, xo_assign, xo_pick, xo_alloc, xo_box, xo_build, xo_buildSlice, xo_load, xo_store, xo_nilCheck, xo_binOp, xo_unOp, xo_convert, xo_makeFunc, xo_makeSlice, xo_slice, xo_fieldAddr, xo_field, xo_indexAddr, xo_index, xo_extract, xo_builtin, opEff, ob_some, ev, nw_false, nw_none, cond_true, cond_false, true_and, and_true, ap_n, ap_n0, ap_w, ap_w0, ap_s, ap_s0, ap_a, doAct, killO, cst, putT, upd_get, init_arg, arg_z, arg_s, deadH, Nat.add_zero, Nat.zero_add, Nat.reduceEqDiff, Nat.left_eq_add, Nat.add_eq_left, Nat.add_left_cancel_iff, Nat.reduceAdd, Nat.reduceMul, Nat.reduceSub, Nat.reduceLT, Nat.reduceLeDiff, reduceIte, List.size_toArray, Nat.add_assoc, Int.reduceToNat, Int.reduceBEq, Int.reduceBNe, Int.reduceLT, Int.reduceLE, Int.reduceGT, Int.reduceGE, Int.reduceEq, Int.reduceNe, Int.reduceAdd, Int.reduceSub, Int.reduceMul, Int.reduceNeg, Nat.reduceBEq, decide_true, decide_false, addOff, cellsAt, part?, sub?, builtinE, lenE, indexAddrE, sliceE, bopE, iop, uopE, eqB, eqCells, eqv, kindsOk, kindOk, intOf?, loOf, hiOf, minE, maxE, nilB, nilP, nilS, callOf, cellsOf, scal, sto, fillA, putAt, srcOf, appE, copyE, rep, gsp_tt, gsp_ff, gsp_tf, gsp_ft, gsp_un, Option.map_some, Option.map_none, Option.bind_some, Option.bind_none, List.map_cons, List.map_nil, List.getElem?_cons_zero, List.getElem?_cons_succ, List.drop_zero, List.drop_succ_cons, List.take_succ_cons, List.take_zero, List.length_cons, List.length_nil, List.nil_append, List.cons_append, List.append_nil, List.set_cons_zero, List.set_cons_succ, id, Nat.mul_one, Nat.one_mul, Nat.zero_mul, Nat.mul_zero, ite_true, ite_false, if_true, if_false, Nat.le_refl, Bool.not_true, Bool.not_false, Bool.true_and, Bool.and_true, Bool.false_and, Bool.and_false, Bool.true_or, Bool.or_true, Bool.false_or, Bool.or_false, beq_self_eq_true, w1, w2, w3, hqq, w4, w5, w6, n1])
    | (refine gsp_split (fun h => ?_) (fun h => ?_) <;> simp (config := { maxSteps := 4000000 }) only [xw_n, xw_o, xw_g, xop_c, xo_move, xo_assign, xo_pick, xo_alloc, xo_box, xo_build, xo_buildSlice, xo_load, xo_store, xo_nilCheck, xo_binOp, xo_unOp, xo_convert, xo_makeFunc, xo_makeSlice, xo_slice, xo_fieldAddr, xo_field, xo_indexAddr, xo_index, xo_extract, xo_builtin, opEff, ob_some, ev, nw_false, nw_none, cond_true, cond_false, true_and, and_true, ap_n, ap_n0, ap_w, ap_w0, ap_s, ap_s0, ap_a, doAct, killO, cst, putT, upd_get, init_arg, arg_z, arg_s, deadH, Nat.add_zero, Nat.zero_add, Nat.reduceEqDiff, Nat.left_eq_add, Nat.add_eq_left, Nat.add_left_cancel_iff, Nat.reduceAdd, Nat.reduceMul, Nat.reduceSub, Nat.reduceLT, Nat.reduceLeDiff, reduceIte, List.size_toArray, Nat.add_assoc, Int.reduceToNat, Int.reduceBEq, Int.reduceBNe, Int.reduceLT, Int.reduceLE, Int.reduceGT, Int.reduceGE, Int.reduceEq, Int.reduceNe, Int.reduceAdd, Int.reduceSub, Int.reduceMul, Int.reduceNeg, Nat.reduceBEq, decide_true, decide_false, addOff, cellsAt, part?, sub?, builtinE, lenE, indexAddrE, sliceE, bopE, iop, uopE, eqB, eqCells, eqv, kindsOk, kindOk, intOf?, loOf, hiOf, minE, maxE, nilB, nilP, nilS, callOf, cellsOf, scal, sto, fillA, putAt, srcOf, appE, copyE, rep, gsp_tt, gsp_ff, gsp_tf, gsp_ft, gsp_un, Option.map_some, Option.map_none, Option.bind_some, Option.bind_none, List.map_cons, List.map_nil, List.getElem?_cons_zero, List.getElem?_cons_succ, List.drop_zero, List.drop_succ_cons, List.take_succ_cons, List.take_zero, List.length_cons, List.length_nil, List.nil_append, List.cons_append, List.append_nil, List.set_cons_zero, List.set_cons_succ, id, Nat.mul_one, Nat.one_mul, Nat.zero_mul, Nat.mul_zero, ite_true, ite_false, if_true, if_false, Nat.le_refl, Bool.not_true, Bool.not_false, Bool.true_and, Bool.and_true, Bool.false_and, Bool.and_false, Bool.true_or, Bool.or_true, Bool.false_or, Bool.or_false, beq_self_eq_true, w1, w2, w3, hqq, w4, w5, w6, n1, h])
    | (refine xcall_p (h1) ?_; try dsimp only)
    | (refine xcall_n (h1) ?_; try dsimp only)
    | (refine awp_condT ?_ ?_; focus ((simp only [ev, cst, upd_get, Nat.reduceEqDiff, reduceIte, if_true, if_false]); done))
    | (refine awp_condT1 ?_ ?_; focus ((simp only [ev, cst, upd_get, Nat.reduceEqDiff, reduceIte, if_true, if_false]); done))
    | (refine awp_condF ?_ ?_; focus ((simp only [ev, cst, upd_get, Nat.reduceEqDiff, reduceIte, if_true, if_false]); done))
    | (refine awp_condF1 ?_ ?_; focus ((simp only [ev, cst, upd_get, Nat.reduceEqDiff, reduceIte, if_true, if_false]); done))
    | (refine awp_cond (by simp only [ev, cst, upd_get, Nat.reduceEqDiff, reduceIte, if_true, if_false]; rfl) (fun h => ?_) (fun h => ?_))
    | (refine awp_cond1 (by simp only [ev, cst, upd_get, Nat.reduceEqDiff, reduceIte, if_true, if_false]; rfl) (fun h => ?_) (fun h => ?_))
    | (refine awp_skip ?_)
    | (refine awp_ret ?_)
    | (refine awp_ret1 ?_)
    | (refine awp_exit ?_)
    | (refine awp_exit1 ?_)
    | (refine awp_block ?_)
    | (refine awp_block1 ?_)
    | (rw [seqQ_n])
    | (rw [seqQ_e])
    | (rw [seqQ_r])
    | (rw [loopQ_n])
    | (rw [loopQ_e])
    | (rw [loopQ_r])
    | (rw [blkQ_n])
    | (rw [blkQ_r])
    | (rw [blkQ_e])
    | (rw [blkQ_o rfl])
    | (refine end_ret rs13 (by simp only [resV, resAll, resOf, packR, cellsAt, part?, sub?, upd_get, Option.map_some, Nat.reduceEqDiff, reduceIte, if_true, if_false, id]; rfl) ?_)
    | (refine end_normal rs13 (by simp only [resV, resAll, resOf, packR, cellsAt, part?, sub?, upd_get, Option.map_some, Nat.reduceEqDiff, reduceIte, if_true, if_false, id]; rfl) ?_))
    all_goals (first | (exfalso; grind) | (simp (config := { maxSteps := 4000000 }) only [fz, nilS, packR, List.take_nil, xw_n, xw_o, xw_g, xop_c, xo_move, xo_assign, xo_pick, xo_alloc, xo_box, xo_build, xo_buildSlice, xo_load, xo_store, xo_nilCheck, xo_binOp, xo_unOp, xo_convert, xo_makeFunc, xo_makeSlice, xo_slice, xo_fieldAddr, xo_field, xo_indexAddr, xo_index, xo_extract, xo_builtin, opEff, ob_some, ev, nw_false, nw_none, cond_true, cond_false, true_and, and_true, ap_n, ap_n0, ap_w, ap_w0, ap_s, ap_s0, ap_a, doAct, killO, cst, putT, upd_get, init_arg, arg_z, arg_s, deadH, Nat.add_zero, Nat.zero_add, Nat.reduceEqDiff, Nat.left_eq_add, Nat.add_eq_left, Nat.add_left_cancel_iff, Nat.reduceAdd, Nat.reduceMul, Nat.reduceSub, Nat.reduceLT, Nat.reduceLeDiff, reduceIte, List.size_toArray, Nat.add_assoc, Int.reduceToNat, Int.reduceBEq, Int.reduceBNe, Int.reduceLT, Int.reduceLE, Int.reduceGT, Int.reduceGE, Int.reduceEq, Int.reduceNe, Int.reduceAdd, Int.reduceSub, Int.reduceMul, Int.reduceNeg, Nat.reduceBEq, decide_true, decide_false, addOff, cellsAt, part?, sub?, builtinE, lenE, indexAddrE, sliceE, bopE, iop, uopE, eqB, eqCells, eqv, kindsOk, kindOk, intOf?, loOf, hiOf, minE, maxE, nilB, nilP, nilS, callOf, cellsOf, scal, sto, fillA, putAt, srcOf, appE, copyE, rep, gsp_tt, gsp_ff, gsp_tf, gsp_ft, gsp_un, Option.map_some, Option.map_none, Option.bind_some, Option.bind_none, List.map_cons, List.map_nil, List.getElem?_cons_zero, List.getElem?_cons_succ, List.drop_zero, List.drop_succ_cons, List.take_succ_cons, List.take_zero, List.length_cons, List.length_nil, List.nil_append, List.cons_append, List.append_nil, List.set_cons_zero, List.set_cons_succ, id, Nat.mul_one, Nat.one_mul, Nat.zero_mul, Nat.mul_zero, ite_true, ite_false, if_true, if_false, Nat.le_refl, Bool.not_true, Bool.not_false, Bool.true_and, Bool.and_true, Bool.false_and, Bool.and_false, Bool.true_or, Bool.or_true, Bool.false_or, Bool.or_false, beq_self_eq_true]; first | rw [hcv1 (by grind)] | rw [hcv2 (by grind)]))

theorem matches' (i l a b : Int) : SndP K 3 [vi i, vi l, vi a, vi b] (vb true) := by
  have key : ∃ x e, SndP K 12 [vi i, vi l] (.tup [vi x, vi e]) ∧ SndP K 13 [vi i, vi l] (.tup [vi x, vi e]) := by
    by_cases h : i < 0 ∨ 12 ≤ i
    · exact ⟨_, _, cost_bad h l, rcost_bad h l⟩
    · have h0 : 0 ≤ i := by omega
      have h1 : i < 12 := by omega
      by_cases h2 : l < 0 ∨ 1000 < l
      · exact ⟨_, _, cost_bad2 h0 h1 h2, rcost_bad2 h2⟩
      · by_cases h3 : l = 1000
        · subst h3; exact ⟨_, _, cost_full h0 h1, rcost_full h0 h1⟩
        · exact ⟨_, _, cost_ok h0 h1 (by omega) (by omega), rcost_ok h0 h1 (by omega) (by omega)⟩
  obtain ⟨x, e, k1, k2⟩ := key
  refine SndP.of_awp hC ?_ Try.func3 rfl rfl (by decide +kernel) (Nat.le_of_ble_eq_true rfl) fun n => ?_
  · exact cleanB_ok 4 _ rfl
  · repeat' (first
    | (refine hKK _ ?_; clear hKK KK)
    | (refine awp_assoc ?_)
    | (refine awp_reg fun KK hKK => ?_)
    | (refine awp_reg1 fun KK hKK => ?_)
    | (refine xw_id ?_; simp (config := { maxSteps := 4000000 }) only [xw_n, xw_o, xw_g, xop_c, xo_move, xo_assign, xo_pick, xo_alloc, xo_box, xo_build, xo_buildSlice, xo_load, xo_store, xo_nilCheck, xo_binOp, xo_unOp, xo_convert, xo_makeFunc, xo_makeSlice, xo_slice, xo_fieldAddr, xo_field, xo_indexAddr, xo_index, xo_extract, xo_builtin, opEff, ob_some, ev, nw_false, nw_none, cond_true, cond_false, true_and, and_true, ap_n, ap_n0, ap_w, ap_w0, ap_s, ap_s0, ap_a, doAct, killO, cst, putT, upd_get, init_arg, arg_z, arg_s, deadH, Nat.add_zero, Nat.zero_add, Nat.reduceEqDiff, Nat.left_eq_add, Nat.add_eq_left, Nat.add_left_cancel_iff, Nat.reduceAdd, Nat.reduceMul, Nat.reduceSub, Nat.reduceLT, Nat.reduceLeDiff, reduceIte, List.size_toArray, Nat.add_assoc, Int.reduceToNat, Int.reduceBEq, Int.reduceBNe, Int.reduceLT, Int.reduceLE, Int.reduceGT, Int.reduceGE, Int.reduceEq, Int.reduceNe, Int.reduceAdd, Int.reduceSub, Int.reduceMul, Int.reduceNeg, Nat.reduceBEq, decide_true, decide_false, addOff, cellsAt, part?, sub?, builtinE, lenE, indexAddrE, sliceE, bopE, iop, uopE, eqB, eqCells, eqv, kindsOk, kindOk, intOf?, loOf, hiOf, minE, maxE, nilB, nilP, nilS, callOf, cellsOf, scal, sto, fillA, putAt, srcOf, appE, copyE, rep, gsp_tt, gsp_ff, gsp_tf, gsp_ft, gsp_un, Option.map_some, Option.map_none, Option.bind_some, Option.bind_none, List.map_cons, List.map_nil, List.getElem?_cons_zero, List.getElem?_cons_succ, List.drop_zero, List.drop_succ_cons, List.take_succ_cons, List.take_zero, List.length_cons, List.length_nil, List.nil_append, List.cons_append, List.append_nil, List.set_cons_zero, List.set_cons_succ, id, Nat.mul_one, Nat.one_mul, Nat.zero_mul, Nat.mul_zero, ite_true, ite_false, if_true, if_false, Nat.le_refl, Bool.not_true, Bool.not_false, Bool.true_and, Bool.and_true, Bool.false_and, Bool.and_false, Bool.true_or, Bool.or_true, Bool.false_or, Bool.or_false, beq_self_eq_true])
    | (refine gsp_split (fun h => ?_) (fun h => ?_) <;> simp (config := { maxSteps := 4000000 }) only [xw_n, xw_o, xw_g, xop_c, xo_move, xo_assign, xo_pick, xo_alloc, xo_box, xo_build, xo_buildSlice, xo_load, xo_store, xo_nilCheck, xo_binOp, xo_unOp, xo_convert, xo_makeFunc, xo_makeSlice, xo_slice, xo_fieldAddr, xo_field, xo_indexAddr, xo_index, xo_extract, xo_builtin, opEff, ob_some, ev, nw_false, nw_none, cond_true, cond_false, true_and, and_true, ap_n, ap_n0, ap_w, ap_w0, ap_s, ap_s0, ap_a, doAct, killO, cst, putT, upd_get, init_arg, arg_z, arg_s, deadH, Nat.add_zero, Nat.zero_add, Nat.reduceEqDiff, Nat.left_eq_add, Nat.add_eq_left, Nat.add_left_cancel_iff, Nat.reduceAdd, Nat.reduceMul, Nat.reduceSub, Nat.reduceLT, Nat.reduceLeDiff, reduceIte, List.size_toArray, Nat.add_assoc, Int.reduceToNat, Int.reduceBEq, Int.reduceBNe, Int.reduceLT, Int.reduceLE, Int.reduceGT, Int.reduceGE, Int.reduceEq, Int.reduceNe, Int.reduceAdd, Int.reduceSub, Int.reduceMul, Int.reduceNeg, Nat.reduceBEq, decide_true, decide_false, addOff, cellsAt, part?, sub?, builtinE, lenE, indexAddrE, sliceE, bopE, iop, uopE, eqB, eqCells, eqv, kindsOk, kindOk, intOf?, loOf, hiOf, minE, maxE, nilB, nilP, nilS, callOf, cellsOf, scal, sto, fillA, putAt, srcOf, appE, copyE, rep, gsp_tt, gsp_ff, gsp_tf, gsp_ft, gsp_un, Option.map_some, Option.map_none, Option.bind_some, Option.bind_none, List.map_cons, List.map_nil, List.getElem?_cons_zero, List.getElem?_cons_succ, List.drop_zero, List.drop_succ_cons, List.take_succ_cons, List.take_zero, List.length_cons, List.length_nil, List.nil_append, List.cons_append, List.append_nil, List.set_cons_zero, List.set_cons_succ, id, Nat.mul_one, Nat.one_mul, Nat.zero_mul, Nat.mul_zero, ite_true, ite_false, if_true, if_false, Nat.le_refl, Bool.not_true, Bool.not_false, Bool.true_and, Bool.and_true, Bool.false_and, Bool.and_false, Bool.true_or, Bool.or_true, Bool.false_or, Bool.or_false, beq_self_eq_true, h])
    | (refine xcall_p (k1) ?_; try dsimp only)
    | (refine xcall_n (k1) ?_; try dsimp only)
    | (refine xcall_p (k2) ?_; try dsimp only)
    | (refine xcall_n (k2) ?_; try dsimp only)
    | (refine xcall_p (add_i _ _) ?_; try dsimp only)
    | (refine xcall_n (add_i _ _) ?_; try dsimp only)
    | (refine xcall_p (add_r _ _) ?_; try dsimp only)
    | (refine xcall_n (add_r _ _) ?_; try dsimp only)
    | (refine awp_condT ?_ ?_; focus ((simp only [ev, cst, upd_get, Nat.reduceEqDiff, reduceIte, if_true, if_false]); done))
    | (refine awp_condT1 ?_ ?_; focus ((simp only [ev, cst, upd_get, Nat.reduceEqDiff, reduceIte, if_true, if_false]); done))
    | (refine awp_condF ?_ ?_; focus ((simp only [ev, cst, upd_get, Nat.reduceEqDiff, reduceIte, if_true, if_false]); done))
    | (refine awp_condF1 ?_ ?_; focus ((simp only [ev, cst, upd_get, Nat.reduceEqDiff, reduceIte, if_true, if_false]); done))
    | (refine awp_cond (by simp only [ev, cst, upd_get, Nat.reduceEqDiff, reduceIte, if_true, if_false]; rfl) (fun h => ?_) (fun h => ?_))
    | (refine awp_cond1 (by simp only [ev, cst, upd_get, Nat.reduceEqDiff, reduceIte, if_true, if_false]; rfl) (fun h => ?_) (fun h => ?_))
    | (refine awp_skip ?_)
    | (refine awp_ret ?_)
    | (refine awp_ret1 ?_)
    | (refine awp_exit ?_)
    | (refine awp_exit1 ?_)
    | (refine awp_block ?_)
    | (refine awp_block1 ?_)
    | (rw [seqQ_n])
    | (rw [seqQ_e])
    | (rw [seqQ_r])
    | (rw [loopQ_n])
    | (rw [loopQ_e])
    | (rw [loopQ_r])
    | (rw [blkQ_n])
    | (rw [blkQ_r])
    | (rw [blkQ_e])
    | (rw [blkQ_o rfl])
    | (refine end_ret rs3 (by simp only [resV, resAll, resOf, packR, cellsAt, part?, sub?, upd_get, Option.map_some, Nat.reduceEqDiff, reduceIte, if_true, if_false, id]; rfl) ?_)
    | (refine end_normal rs3 (by simp only [resV, resAll, resOf, packR, cellsAt, part?, sub?, upd_get, Option.map_some, Nat.reduceEqDiff, reduceIte, if_true, if_false, id]; rfl) ?_))
    all_goals (first | (simp (config := { maxSteps := 4000000 }) only [fz, nilS, packR, List.take_nil, xw_n, xw_o, xw_g, xop_c, xo_move, xo_assign, xo_pick, xo_alloc, xo_box, xo_build, xo_buildSlice, xo_load, xo_store, xo_nilCheck, xo_binOp, xo_unOp, xo_convert, xo_makeFunc, xo_makeSlice, xo_slice, xo_fieldAddr, xo_field, xo_indexAddr, xo_index, xo_extract, xo_builtin, opEff, ob_some, ev, nw_false, nw_none, cond_true, cond_false, true_and, and_true, ap_n, ap_n0, ap_w, ap_w0, ap_s, ap_s0, ap_a, doAct, killO, cst, putT, upd_get, init_arg, arg_z, arg_s, deadH, Nat.add_zero, Nat.zero_add, Nat.reduceEqDiff, Nat.left_eq_add, Nat.add_eq_left, Nat.add_left_cancel_iff, Nat.reduceAdd, Nat.reduceMul, Nat.reduceSub, Nat.reduceLT, Nat.reduceLeDiff, reduceIte, List.size_toArray, Nat.add_assoc, Int.reduceToNat, Int.reduceBEq, Int.reduceBNe, Int.reduceLT, Int.reduceLE, Int.reduceGT, Int.reduceGE, Int.reduceEq, Int.reduceNe, Int.reduceAdd, Int.reduceSub, Int.reduceMul, Int.reduceNeg, Nat.reduceBEq, decide_true, decide_false, addOff, cellsAt, part?, sub?, builtinE, lenE, indexAddrE, sliceE, bopE, iop, uopE, eqB, eqCells, eqv, kindsOk, kindOk, intOf?, loOf, hiOf, minE, maxE, nilB, nilP, nilS, callOf, cellsOf, scal, sto, fillA, putAt, srcOf, appE, copyE, rep, gsp_tt, gsp_ff, gsp_tf, gsp_ft, gsp_un, Option.map_some, Option.map_none, Option.bind_some, Option.bind_none, List.map_cons, List.map_nil, List.getElem?_cons_zero, List.getElem?_cons_succ, List.drop_zero, List.drop_succ_cons, List.take_succ_cons, List.take_zero, List.length_cons, List.length_nil, List.nil_append, List.cons_append, List.append_nil, List.set_cons_zero, List.set_cons_succ, id, Nat.mul_one, Nat.one_mul, Nat.zero_mul, Nat.mul_zero, ite_true, ite_false, if_true, if_false, Nat.le_refl, Bool.not_true, Bool.not_false, Bool.true_and, Bool.and_true, Bool.false_and, Bool.and_false, Bool.true_or, Bool.or_true, Bool.false_or, Bool.or_false, beq_self_eq_true]; done) | (exfalso; grind))

end Go.AX.ME
