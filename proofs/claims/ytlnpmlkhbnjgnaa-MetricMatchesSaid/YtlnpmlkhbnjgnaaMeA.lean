/- A part of the proof: MeA. -/
import Derived.Test.YtlnpmlkhbnjgnaaMeH
namespace Go.AX.ME
open Go.Proofs
attribute [local irreducible] awp xw xop xcall gsp ob
set_option linter.unusedSimpArgs false

abbrev vi (a : Int) : AV := .v (.int .i64 a)
abbrev vb (b : Bool) : AV := .v (.bool b)

def T (i : Int) : Int := [1452, 996, 756, 528, 396, 288, 232, 216, 192, 168, 148, 136].getD i.toNat 0

theorem total_ok {i : Int} (h : 0 ≤ i) (h' : i < 12) : SndP K 28 [vi i, vi 1024] (.tup [vi (T i), vi 0]) ∧ SndP K 29 [vi i, vi 1024] (.tup [vi (T i), vi 0]) ∧ 136 ≤ T i ∧ T i ≤ 1452 := by
  have : i = 0 ∨ i = 1 ∨ i = 2 ∨ i = 3 ∨ i = 4 ∨ i = 5 ∨ i = 6 ∨ i = 7 ∨ i = 8 ∨ i = 9 ∨ i = 10 ∨ i = 11 := by omega
  rcases this with rfl | rfl | rfl | rfl | rfl | rfl | rfl | rfl | rfl | rfl | rfl | rfl
  · exact ⟨SndP.of_run hC rfl rfl total0, SndP.of_run hC rfl rfl rtotal0, by decide, by decide⟩
  · exact ⟨SndP.of_run hC rfl rfl total1, SndP.of_run hC rfl rfl rtotal1, by decide, by decide⟩
  · exact ⟨SndP.of_run hC rfl rfl total2, SndP.of_run hC rfl rfl rtotal2, by decide, by decide⟩
  · exact ⟨SndP.of_run hC rfl rfl total3, SndP.of_run hC rfl rfl rtotal3, by decide, by decide⟩
  · exact ⟨SndP.of_run hC rfl rfl total4, SndP.of_run hC rfl rfl rtotal4, by decide, by decide⟩
  · exact ⟨SndP.of_run hC rfl rfl total5, SndP.of_run hC rfl rfl rtotal5, by decide, by decide⟩
  · exact ⟨SndP.of_run hC rfl rfl total6, SndP.of_run hC rfl rfl rtotal6, by decide, by decide⟩
  · exact ⟨SndP.of_run hC rfl rfl total7, SndP.of_run hC rfl rfl rtotal7, by decide, by decide⟩
  · exact ⟨SndP.of_run hC rfl rfl total8, SndP.of_run hC rfl rfl rtotal8, by decide, by decide⟩
  · exact ⟨SndP.of_run hC rfl rfl total9, SndP.of_run hC rfl rfl rtotal9, by decide, by decide⟩
  · exact ⟨SndP.of_run hC rfl rfl total10, SndP.of_run hC rfl rfl rtotal10, by decide, by decide⟩
  · exact ⟨SndP.of_run hC rfl rfl total11, SndP.of_run hC rfl rfl rtotal11, by decide, by decide⟩

theorem count_run : ranX K 40 35 [] = some (vi 12) := by kernel_rfl
theorem count : SndP K 35 [] (vi 12) := SndP.of_run hC rfl rfl count_run

/-- A rate that is none. -/
theorem get_bad {i : Int} (h : i < 0 ∨ 12 ≤ i) : SndP K 60 [vi i] (.tup [.agg [vi 0, vi 0, vb false], vi 2]) := by
  refine SndP.of_awp hC ?_ Try.func60 rfl rfl (by decide +kernel) (Nat.le_of_ble_eq_true rfl) fun n => ?_
  · exact cleanB_ok 4 _ rfl
  · repeat' (first
    | (refine hKK _ ?_; clear hKK KK)
    | (refine awp_assoc ?_)
    | (refine awp_reg fun KK hKK => ?_)
    | (refine awp_reg1 fun KK hKK => ?_)
    | (refine xw_id ?_; simp (config := { maxSteps := 4000000 }) only [xw_n, xw_o, xw_g, xop_c, xo_move, xo_assign, xo_pick, xo_alloc, xo_box, xo_build, xo_buildSlice, xo_load, xo_store, xo_nilCheck, xo_binOp, xo_unOp, xo_convert, xo_makeFunc, xo_makeSlice, xo_slice, xo_fieldAddr, xo_field, xo_indexAddr, xo_index, xo_extract, xo_builtin, opEff, ob_some, ev, nw_false, nw_none, cond_true, cond_false, true_and, and_true, ap_n, ap_n0, ap_w, ap_w0, ap_s, ap_s0, ap_a, doAct, killO, cst, putT, upd_get, init_arg, arg_z, arg_s, deadH, Nat.add_zero, Nat.zero_add, Nat.reduceEqDiff, Nat.left_eq_add, Nat.add_eq_left, Nat.add_left_cancel_iff, Nat.reduceAdd, Nat.reduceMul, Nat.reduceSub, Nat.reduceLT, Nat.reduceLeDiff, reduceIte, List.size_toArray, Nat.add_assoc, Int.reduceToNat, Int.reduceBEq, Int.reduceBNe, Int.reduceLT, Int.reduceLE, Int.reduceGT, Int.reduceGE, Int.reduceEq, Int.reduceNe, Int.reduceAdd, Int.reduceSub, Int.reduceMul, Int.reduceNeg, Nat.reduceBEq, decide_true, decide_false, addOff, cellsAt, part?, sub?, builtinE, lenE, indexAddrE, sliceE, bopE, iop, uopE, eqB, eqCells, eqv, kindsOk, kindOk, intOf?, loOf, hiOf, minE, maxE, nilB, nilP, nilS, callOf, cellsOf, scal, sto, fillA, putAt, srcOf, appE, copyE, rep, gsp_tt, gsp_ff, gsp_tf, gsp_ft, gsp_un, Option.map_some, Option.map_none, Option.bind_some, Option.bind_none, List.map_cons, List.map_nil, List.getElem?_cons_zero, List.getElem?_cons_succ, List.drop_zero, List.drop_succ_cons, List.take_succ_cons, List.take_zero, List.length_cons, List.length_nil, List.nil_append, List.cons_append, List.append_nil, List.set_cons_zero, List.set_cons_succ, id, Nat.mul_one, Nat.one_mul, Nat.zero_mul, Nat.mul_zero, ite_true, ite_false, if_true, if_false, Nat.le_refl, Bool.not_true, Bool.not_false, Bool.true_and, Bool.and_true, Bool.false_and, Bool.and_false, Bool.true_or, Bool.or_true, Bool.false_or, Bool.or_false, beq_self_eq_true, ag81, ar82, bl81, sz81, ze81])
    | (refine gsp_split (fun h => ?_) (fun h => ?_) <;> simp (config := { maxSteps := 4000000 }) only [xw_n, xw_o, xw_g, xop_c, xo_move, xo_assign, xo_pick, xo_alloc, xo_box, xo_build, xo_buildSlice, xo_load, xo_store, xo_nilCheck, xo_binOp, xo_unOp, xo_convert, xo_makeFunc, xo_makeSlice, xo_slice, xo_fieldAddr, xo_field, xo_indexAddr, xo_index, xo_extract, xo_builtin, opEff, ob_some, ev, nw_false, nw_none, cond_true, cond_false, true_and, and_true, ap_n, ap_n0, ap_w, ap_w0, ap_s, ap_s0, ap_a, doAct, killO, cst, putT, upd_get, init_arg, arg_z, arg_s, deadH, Nat.add_zero, Nat.zero_add, Nat.reduceEqDiff, Nat.left_eq_add, Nat.add_eq_left, Nat.add_left_cancel_iff, Nat.reduceAdd, Nat.reduceMul, Nat.reduceSub, Nat.reduceLT, Nat.reduceLeDiff, reduceIte, List.size_toArray, Nat.add_assoc, Int.reduceToNat, Int.reduceBEq, Int.reduceBNe, Int.reduceLT, Int.reduceLE, Int.reduceGT, Int.reduceGE, Int.reduceEq, Int.reduceNe, Int.reduceAdd, Int.reduceSub, Int.reduceMul, Int.reduceNeg, Nat.reduceBEq, decide_true, decide_false, addOff, cellsAt, part?, sub?, builtinE, lenE, indexAddrE, sliceE, bopE, iop, uopE, eqB, eqCells, eqv, kindsOk, kindOk, intOf?, loOf, hiOf, minE, maxE, nilB, nilP, nilS, callOf, cellsOf, scal, sto, fillA, putAt, srcOf, appE, copyE, rep, gsp_tt, gsp_ff, gsp_tf, gsp_ft, gsp_un, Option.map_some, Option.map_none, Option.bind_some, Option.bind_none, List.map_cons, List.map_nil, List.getElem?_cons_zero, List.getElem?_cons_succ, List.drop_zero, List.drop_succ_cons, List.take_succ_cons, List.take_zero, List.length_cons, List.length_nil, List.nil_append, List.cons_append, List.append_nil, List.set_cons_zero, List.set_cons_succ, id, Nat.mul_one, Nat.one_mul, Nat.zero_mul, Nat.mul_zero, ite_true, ite_false, if_true, if_false, Nat.le_refl, Bool.not_true, Bool.not_false, Bool.true_and, Bool.and_true, Bool.false_and, Bool.and_false, Bool.true_or, Bool.or_true, Bool.false_or, Bool.or_false, beq_self_eq_true, ag81, ar82, bl81, sz81, ze81, h])
    | (refine xcall_p (count) ?_; try dsimp only)
    | (refine xcall_n (count) ?_; try dsimp only)
    | (refine awp_condT ?_ ?_; focus ((simp only [ev, cst, upd_get, Nat.reduceEqDiff, reduceIte, if_true, if_false]); done))
    | (refine awp_condT1 ?_ ?_; focus ((simp only [ev, cst, upd_get, Nat.reduceEqDiff, reduceIte, if_true, if_false]); done))
    | (refine awp_condF ?_ ?_; focus ((simp only [ev, cst, upd_get, Nat.reduceEqDiff, reduceIte, if_true, if_false]); done))
    | (refine awp_condF1 ?_ ?_; focus ((simp only [ev, cst, upd_get, Nat.reduceEqDiff, reduceIte, if_true, if_false]); done))
    | (refine awp_cond (by simp only [ev, cst, upd_get, Nat.reduceEqDiff, reduceIte, if_true, if_false]; rfl) (fun h => ?_) (fun h => ?_))
    | (refine awp_cond1 (by simp only [ev, cst, upd_get, Nat.reduceEqDiff, reduceIte, if_true, if_false]; rfl) (fun h => ?_) (fun h => ?_))
    | (refine awp_skip ?_)
    | (refine awp_ret ?_)
    | (refine awp_ret1 ?_)
    | (refine awp_exit ?_)
    | (refine awp_exit1 ?_)
    | (refine awp_block ?_)
    | (refine awp_block1 ?_)
    | (rw [seqQ_n])
    | (rw [seqQ_e])
    | (rw [seqQ_r])
    | (rw [loopQ_n])
    | (rw [loopQ_e])
    | (rw [loopQ_r])
    | (rw [blkQ_n])
    | (rw [blkQ_r])
    | (rw [blkQ_e])
    | (rw [blkQ_o rfl])
    | (refine end_ret rs60 (by simp only [resV, resAll, resOf, packR, cellsAt, part?, sub?, upd_get, Option.map_some, Nat.reduceEqDiff, reduceIte, if_true, if_false, ag81, ar82, bl81, sz81, ze81]; rfl) ?_)
    | (refine end_normal rs60 (by simp only [resV, resAll, resOf, packR, cellsAt, part?, sub?, upd_get, Option.map_some, Nat.reduceEqDiff, reduceIte, if_true, if_false, ag81, ar82, bl81, sz81, ze81]; rfl) ?_))
    all_goals (first | (simp (config := { maxSteps := 4000000 }) only [fz, nilS, packR, List.take_nil, xw_n, xw_o, xw_g, xop_c, xo_move, xo_assign, xo_pick, xo_alloc, xo_box, xo_build, xo_buildSlice, xo_load, xo_store, xo_nilCheck, xo_binOp, xo_unOp, xo_convert, xo_makeFunc, xo_makeSlice, xo_slice, xo_fieldAddr, xo_field, xo_indexAddr, xo_index, xo_extract, xo_builtin, opEff, ob_some, ev, nw_false, nw_none, cond_true, cond_false, true_and, and_true, ap_n, ap_n0, ap_w, ap_w0, ap_s, ap_s0, ap_a, doAct, killO, cst, putT, upd_get, init_arg, arg_z, arg_s, deadH, Nat.add_zero, Nat.zero_add, Nat.reduceEqDiff, Nat.left_eq_add, Nat.add_eq_left, Nat.add_left_cancel_iff, Nat.reduceAdd, Nat.reduceMul, Nat.reduceSub, Nat.reduceLT, Nat.reduceLeDiff, reduceIte, List.size_toArray, Nat.add_assoc, Int.reduceToNat, Int.reduceBEq, Int.reduceBNe, Int.reduceLT, Int.reduceLE, Int.reduceGT, Int.reduceGE, Int.reduceEq, Int.reduceNe, Int.reduceAdd, Int.reduceSub, Int.reduceMul, Int.reduceNeg, Nat.reduceBEq, decide_true, decide_false, addOff, cellsAt, part?, sub?, builtinE, lenE, indexAddrE, sliceE, bopE, iop, uopE, eqB, eqCells, eqv, kindsOk, kindOk, intOf?, loOf, hiOf, minE, maxE, nilB, nilP, nilS, callOf, cellsOf, scal, sto, fillA, putAt, srcOf, appE, copyE, rep, gsp_tt, gsp_ff, gsp_tf, gsp_ft, gsp_un, Option.map_some, Option.map_none, Option.bind_some, Option.bind_none, List.map_cons, List.map_nil, List.getElem?_cons_zero, List.getElem?_cons_succ, List.drop_zero, List.drop_succ_cons, List.take_succ_cons, List.take_zero, List.length_cons, List.length_nil, List.nil_append, List.cons_append, List.append_nil, List.set_cons_zero, List.set_cons_succ, id, Nat.mul_one, Nat.one_mul, Nat.zero_mul, Nat.mul_zero, ite_true, ite_false, if_true, if_false, Nat.le_refl, Bool.not_true, Bool.not_false, Bool.true_and, Bool.and_true, Bool.false_and, Bool.and_false, Bool.true_or, Bool.or_true, Bool.false_or, Bool.or_false, beq_self_eq_true]; done) | (exfalso; grind))

theorem air_bad {i : Int} (h : i < 0 ∨ 12 ≤ i) (b : Int) : SndP K 54 [vi i, vi b] (.tup [vi 0, vi 2]) := by
  refine SndP.of_awp hC ?_ Try.func54 rfl rfl (by decide +kernel) (Nat.le_of_ble_eq_true rfl) fun n => ?_
  · exact cleanB_ok 4 _ rfl
  · repeat' (first
    | (refine hKK _ ?_; clear hKK KK)
    | (refine awp_assoc ?_)
    | (refine awp_reg fun KK hKK => ?_)
    | (refine awp_reg1 fun KK hKK => ?_)
    | (refine xw_id ?_; simp (config := { maxSteps := 4000000 }) only [xw_n, xw_o, xw_g, xop_c, xo_move, xo_assign, xo_pick, xo_alloc, xo_box, xo_build, xo_buildSlice, xo_load, xo_store, xo_nilCheck, xo_binOp, xo_unOp, xo_convert, xo_makeFunc, xo_makeSlice, xo_slice, xo_fieldAddr, xo_field, xo_indexAddr, xo_index, xo_extract, xo_builtin, opEff, ob_some, ev, nw_false, nw_none, cond_true, cond_false, true_and, and_true, ap_n, ap_n0, ap_w, ap_w0, ap_s, ap_s0, ap_a, doAct, killO, cst, putT, upd_get, init_arg, arg_z, arg_s, deadH, Nat.add_zero, Nat.zero_add, Nat.reduceEqDiff, Nat.left_eq_add, Nat.add_eq_left, Nat.add_left_cancel_iff, Nat.reduceAdd, Nat.reduceMul, Nat.reduceSub, Nat.reduceLT, Nat.reduceLeDiff, reduceIte, List.size_toArray, Nat.add_assoc, Int.reduceToNat, Int.reduceBEq, Int.reduceBNe, Int.reduceLT, Int.reduceLE, Int.reduceGT, Int.reduceGE, Int.reduceEq, Int.reduceNe, Int.reduceAdd, Int.reduceSub, Int.reduceMul, Int.reduceNeg, Nat.reduceBEq, decide_true, decide_false, addOff, cellsAt, part?, sub?, builtinE, lenE, indexAddrE, sliceE, bopE, iop, uopE, eqB, eqCells, eqv, kindsOk, kindOk, intOf?, loOf, hiOf, minE, maxE, nilB, nilP, nilS, callOf, cellsOf, scal, sto, fillA, putAt, srcOf, appE, copyE, rep, gsp_tt, gsp_ff, gsp_tf, gsp_ft, gsp_un, Option.map_some, Option.map_none, Option.bind_some, Option.bind_none, List.map_cons, List.map_nil, List.getElem?_cons_zero, List.getElem?_cons_succ, List.drop_zero, List.drop_succ_cons, List.take_succ_cons, List.take_zero, List.length_cons, List.length_nil, List.nil_append, List.cons_append, List.append_nil, List.set_cons_zero, List.set_cons_succ, id, Nat.mul_one, Nat.one_mul, Nat.zero_mul, Nat.mul_zero, ite_true, ite_false, if_true, if_false, Nat.le_refl, Bool.not_true, Bool.not_false, Bool.true_and, Bool.and_true, Bool.false_and, Bool.and_false, Bool.true_or, Bool.or_true, Bool.false_or, Bool.or_false, beq_self_eq_true, ag3, fl81_0, sz3, sz81, ze81])
    | (refine gsp_split (fun h => ?_) (fun h => ?_) <;> simp (config := { maxSteps := 4000000 }) only [xw_n, xw_o, xw_g, xop_c, xo_move, xo_assign, xo_pick, xo_alloc, xo_box, xo_build, xo_buildSlice, xo_load, xo_store, xo_nilCheck, xo_binOp, xo_unOp, xo_convert, xo_makeFunc, xo_makeSlice, xo_slice, xo_fieldAddr, xo_field, xo_indexAddr, xo_index, xo_extract, xo_builtin, opEff, ob_some, ev, nw_false, nw_none, cond_true, cond_false, true_and, and_true, ap_n, ap_n0, ap_w, ap_w0, ap_s, ap_s0, ap_a, doAct, killO, cst, putT, upd_get, init_arg, arg_z, arg_s, deadH, Nat.add_zero, Nat.zero_add, Nat.reduceEqDiff, Nat.left_eq_add, Nat.add_eq_left, Nat.add_left_cancel_iff, Nat.reduceAdd, Nat.reduceMul, Nat.reduceSub, Nat.reduceLT, Nat.reduceLeDiff, reduceIte, List.size_toArray, Nat.add_assoc, Int.reduceToNat, Int.reduceBEq, Int.reduceBNe, Int.reduceLT, Int.reduceLE, Int.reduceGT, Int.reduceGE, Int.reduceEq, Int.reduceNe, Int.reduceAdd, Int.reduceSub, Int.reduceMul, Int.reduceNeg, Nat.reduceBEq, decide_true, decide_false, addOff, cellsAt, part?, sub?, builtinE, lenE, indexAddrE, sliceE, bopE, iop, uopE, eqB, eqCells, eqv, kindsOk, kindOk, intOf?, loOf, hiOf, minE, maxE, nilB, nilP, nilS, callOf, cellsOf, scal, sto, fillA, putAt, srcOf, appE, copyE, rep, gsp_tt, gsp_ff, gsp_tf, gsp_ft, gsp_un, Option.map_some, Option.map_none, Option.bind_some, Option.bind_none, List.map_cons, List.map_nil, List.getElem?_cons_zero, List.getElem?_cons_succ, List.drop_zero, List.drop_succ_cons, List.take_succ_cons, List.take_zero, List.length_cons, List.length_nil, List.nil_append, List.cons_append, List.append_nil, List.set_cons_zero, List.set_cons_succ, id, Nat.mul_one, Nat.one_mul, Nat.zero_mul, Nat.mul_zero, ite_true, ite_false, if_true, if_false, Nat.le_refl, Bool.not_true, Bool.not_false, Bool.true_and, Bool.and_true, Bool.false_and, Bool.and_false, Bool.true_or, Bool.or_true, Bool.false_or, Bool.or_false, beq_self_eq_true, ag3, fl81_0, sz3, sz81, ze81, h])
    | (refine xcall_p (get_bad h) ?_; try dsimp only)
    | (refine xcall_n (get_bad h) ?_; try dsimp only)
    | (refine awp_condT ?_ ?_; focus ((simp only [ev, cst, upd_get, Nat.reduceEqDiff, reduceIte, if_true, if_false]); done))
    | (refine awp_condT1 ?_ ?_; focus ((simp only [ev, cst, upd_get, Nat.reduceEqDiff, reduceIte, if_true, if_false]); done))
    | (refine awp_condF ?_ ?_; focus ((simp only [ev, cst, upd_get, Nat.reduceEqDiff, reduceIte, if_true, if_false]); done))
    | (refine awp_condF1 ?_ ?_; focus ((simp only [ev, cst, upd_get, Nat.reduceEqDiff, reduceIte, if_true, if_false]); done))
    | (refine awp_cond (by simp only [ev, cst, upd_get, Nat.reduceEqDiff, reduceIte, if_true, if_false]; rfl) (fun h => ?_) (fun h => ?_))
    | (refine awp_cond1 (by simp only [ev, cst, upd_get, Nat.reduceEqDiff, reduceIte, if_true, if_false]; rfl) (fun h => ?_) (fun h => ?_))
    | (refine awp_skip ?_)
    | (refine awp_ret ?_)
    | (refine awp_ret1 ?_)
    | (refine awp_exit ?_)
    | (refine awp_exit1 ?_)
    | (refine awp_block ?_)
    | (refine awp_block1 ?_)
    | (rw [seqQ_n])
    | (rw [seqQ_e])
    | (rw [seqQ_r])
    | (rw [loopQ_n])
    | (rw [loopQ_e])
    | (rw [loopQ_r])
    | (rw [blkQ_n])
    | (rw [blkQ_r])
    | (rw [blkQ_e])
    | (rw [blkQ_o rfl])
    | (refine end_ret rs54 (by simp only [resV, resAll, resOf, packR, cellsAt, part?, sub?, upd_get, Option.map_some, Nat.reduceEqDiff, reduceIte, if_true, if_false, ag3, fl81_0, sz3, sz81, ze81]; rfl) ?_)
    | (refine end_normal rs54 (by simp only [resV, resAll, resOf, packR, cellsAt, part?, sub?, upd_get, Option.map_some, Nat.reduceEqDiff, reduceIte, if_true, if_false, ag3, fl81_0, sz3, sz81, ze81]; rfl) ?_))
    all_goals (simp (config := { maxSteps := 4000000 }) only [fz, nilS, packR, List.take_nil, xw_n, xw_o, xw_g, xop_c, xo_move, xo_assign, xo_pick, xo_alloc, xo_box, xo_build, xo_buildSlice, xo_load, xo_store, xo_nilCheck, xo_binOp, xo_unOp, xo_convert, xo_makeFunc, xo_makeSlice, xo_slice, xo_fieldAddr, xo_field, xo_indexAddr, xo_index, xo_extract, xo_builtin, opEff, ob_some, ev, nw_false, nw_none, cond_true, cond_false, true_and, and_true, ap_n, ap_n0, ap_w, ap_w0, ap_s, ap_s0, ap_a, doAct, killO, cst, putT, upd_get, init_arg, arg_z, arg_s, deadH, Nat.add_zero, Nat.zero_add, Nat.reduceEqDiff, Nat.left_eq_add, Nat.add_eq_left, Nat.add_left_cancel_iff, Nat.reduceAdd, Nat.reduceMul, Nat.reduceSub, Nat.reduceLT, Nat.reduceLeDiff, reduceIte, List.size_toArray, Nat.add_assoc, Int.reduceToNat, Int.reduceBEq, Int.reduceBNe, Int.reduceLT, Int.reduceLE, Int.reduceGT, Int.reduceGE, Int.reduceEq, Int.reduceNe, Int.reduceAdd, Int.reduceSub, Int.reduceMul, Int.reduceNeg, Nat.reduceBEq, decide_true, decide_false, addOff, cellsAt, part?, sub?, builtinE, lenE, indexAddrE, sliceE, bopE, iop, uopE, eqB, eqCells, eqv, kindsOk, kindOk, intOf?, loOf, hiOf, minE, maxE, nilB, nilP, nilS, callOf, cellsOf, scal, sto, fillA, putAt, srcOf, appE, copyE, rep, gsp_tt, gsp_ff, gsp_tf, gsp_ft, gsp_un, Option.map_some, Option.map_none, Option.bind_some, Option.bind_none, List.map_cons, List.map_nil, List.getElem?_cons_zero, List.getElem?_cons_succ, List.drop_zero, List.drop_succ_cons, List.take_succ_cons, List.take_zero, List.length_cons, List.length_nil, List.nil_append, List.cons_append, List.append_nil, List.set_cons_zero, List.set_cons_succ, id, Nat.mul_one, Nat.one_mul, Nat.zero_mul, Nat.mul_zero, ite_true, ite_false, if_true, if_false, Nat.le_refl, Bool.not_true, Bool.not_false, Bool.true_and, Bool.and_true, Bool.false_and, Bool.and_false, Bool.true_or, Bool.or_true, Bool.false_or, Bool.or_false, beq_self_eq_true])

theorem Air_bad {i : Int} (h : i < 0 ∨ 12 ≤ i) (b : Int) : SndP K 43 [vi i, vi b] (.tup [vi 0, vi 2]) := by
  refine SndP.of_awp hC ?_ Try.func43 rfl rfl (by decide +kernel) (Nat.le_of_ble_eq_true rfl) fun n => ?_
  · exact cleanB_ok 4 _ rfl
  · repeat' (first
    | (refine hKK _ ?_; clear hKK KK)
    | (refine awp_assoc ?_)
    | (refine awp_reg fun KK hKK => ?_)
    | (refine awp_reg1 fun KK hKK => ?_)
    | (refine xw_id ?_; simp (config := { maxSteps := 4000000 }) only [xw_n, xw_o, xw_g, xop_c, xo_move, xo_assign, xo_pick, xo_alloc, xo_box, xo_build, xo_buildSlice, xo_load, xo_store, xo_nilCheck, xo_binOp, xo_unOp, xo_convert, xo_makeFunc, xo_makeSlice, xo_slice, xo_fieldAddr, xo_field, xo_indexAddr, xo_index, xo_extract, xo_builtin, opEff, ob_some, ev, nw_false, nw_none, cond_true, cond_false, true_and, and_true, ap_n, ap_n0, ap_w, ap_w0, ap_s, ap_s0, ap_a, doAct, killO, cst, putT, upd_get, init_arg, arg_z, arg_s, deadH, Nat.add_zero, Nat.zero_add, Nat.reduceEqDiff, Nat.left_eq_add, Nat.add_eq_left, Nat.add_left_cancel_iff, Nat.reduceAdd, Nat.reduceMul, Nat.reduceSub, Nat.reduceLT, Nat.reduceLeDiff, reduceIte, List.size_toArray, Nat.add_assoc, Int.reduceToNat, Int.reduceBEq, Int.reduceBNe, Int.reduceLT, Int.reduceLE, Int.reduceGT, Int.reduceGE, Int.reduceEq, Int.reduceNe, Int.reduceAdd, Int.reduceSub, Int.reduceMul, Int.reduceNeg, Nat.reduceBEq, decide_true, decide_false, addOff, cellsAt, part?, sub?, builtinE, lenE, indexAddrE, sliceE, bopE, iop, uopE, eqB, eqCells, eqv, kindsOk, kindOk, intOf?, loOf, hiOf, minE, maxE, nilB, nilP, nilS, callOf, cellsOf, scal, sto, fillA, putAt, srcOf, appE, copyE, rep, gsp_tt, gsp_ff, gsp_tf, gsp_ft, gsp_un, Option.map_some, Option.map_none, Option.bind_some, Option.bind_none, List.map_cons, List.map_nil, List.getElem?_cons_zero, List.getElem?_cons_succ, List.drop_zero, List.drop_succ_cons, List.take_succ_cons, List.take_zero, List.length_cons, List.length_nil, List.nil_append, List.cons_append, List.append_nil, List.set_cons_zero, List.set_cons_succ, id, Nat.mul_one, Nat.one_mul, Nat.zero_mul, Nat.mul_zero, ite_true, ite_false, if_true, if_false, Nat.le_refl, Bool.not_true, Bool.not_false, Bool.true_and, Bool.and_true, Bool.false_and, Bool.and_false, Bool.true_or, Bool.or_true, Bool.false_or, Bool.or_false, beq_self_eq_true])
    | (refine gsp_split (fun h => ?_) (fun h => ?_) <;> simp (config := { maxSteps := 4000000 }) only [xw_n, xw_o, xw_g, xop_c, xo_move, xo_assign, xo_pick, xo_alloc, xo_box, xo_build, xo_buildSlice, xo_load, xo_store, xo_nilCheck, xo_binOp, xo_unOp, xo_convert, xo_makeFunc, xo_makeSlice, xo_slice, xo_fieldAddr, xo_field, xo_indexAddr, xo_index, xo_extract, xo_builtin, opEff, ob_some, ev, nw_false, nw_none, cond_true, cond_false, true_and, and_true, ap_n, ap_n0, ap_w, ap_w0, ap_s, ap_s0, ap_a, doAct, killO, cst, putT, upd_get, init_arg, arg_z, arg_s, deadH, Nat.add_zero, Nat.zero_add, Nat.reduceEqDiff, Nat.left_eq_add, Nat.add_eq_left, Nat.add_left_cancel_iff, Nat.reduceAdd, Nat.reduceMul, Nat.reduceSub, Nat.reduceLT, Nat.reduceLeDiff, reduceIte, List.size_toArray, Nat.add_assoc, Int.reduceToNat, Int.reduceBEq, Int.reduceBNe, Int.reduceLT, Int.reduceLE, Int.reduceGT, Int.reduceGE, Int.reduceEq, Int.reduceNe, Int.reduceAdd, Int.reduceSub, Int.reduceMul, Int.reduceNeg, Nat.reduceBEq, decide_true, decide_false, addOff, cellsAt, part?, sub?, builtinE, lenE, indexAddrE, sliceE, bopE, iop, uopE, eqB, eqCells, eqv, kindsOk, kindOk, intOf?, loOf, hiOf, minE, maxE, nilB, nilP, nilS, callOf, cellsOf, scal, sto, fillA, putAt, srcOf, appE, copyE, rep, gsp_tt, gsp_ff, gsp_tf, gsp_ft, gsp_un, Option.map_some, Option.map_none, Option.bind_some, Option.bind_none, List.map_cons, List.map_nil, List.getElem?_cons_zero, List.getElem?_cons_succ, List.drop_zero, List.drop_succ_cons, List.take_succ_cons, List.take_zero, List.length_cons, List.length_nil, List.nil_append, List.cons_append, List.append_nil, List.set_cons_zero, List.set_cons_succ, id, Nat.mul_one, Nat.one_mul, Nat.zero_mul, Nat.mul_zero, ite_true, ite_false, if_true, if_false, Nat.le_refl, Bool.not_true, Bool.not_false, Bool.true_and, Bool.and_true, Bool.false_and, Bool.and_false, Bool.true_or, Bool.or_true, Bool.false_or, Bool.or_false, beq_self_eq_true, h])
    | (refine xcall_p (air_bad h _) ?_; try dsimp only)
    | (refine xcall_n (air_bad h _) ?_; try dsimp only)
    | (refine awp_condT ?_ ?_; focus ((simp only [ev, cst, upd_get, Nat.reduceEqDiff, reduceIte, if_true, if_false]); done))
    | (refine awp_condT1 ?_ ?_; focus ((simp only [ev, cst, upd_get, Nat.reduceEqDiff, reduceIte, if_true, if_false]); done))
    | (refine awp_condF ?_ ?_; focus ((simp only [ev, cst, upd_get, Nat.reduceEqDiff, reduceIte, if_true, if_false]); done))
    | (refine awp_condF1 ?_ ?_; focus ((simp only [ev, cst, upd_get, Nat.reduceEqDiff, reduceIte, if_true, if_false]); done))
    | (refine awp_cond (by simp only [ev, cst, upd_get, Nat.reduceEqDiff, reduceIte, if_true, if_false]; rfl) (fun h => ?_) (fun h => ?_))
    | (refine awp_cond1 (by simp only [ev, cst, upd_get, Nat.reduceEqDiff, reduceIte, if_true, if_false]; rfl) (fun h => ?_) (fun h => ?_))
    | (refine awp_skip ?_)
    | (refine awp_ret ?_)
    | (refine awp_ret1 ?_)
    | (refine awp_exit ?_)
    | (refine awp_exit1 ?_)
    | (refine awp_block ?_)
    | (refine awp_block1 ?_)
    | (rw [seqQ_n])
    | (rw [seqQ_e])
    | (rw [seqQ_r])
    | (rw [loopQ_n])
    | (rw [loopQ_e])
    | (rw [loopQ_r])
    | (rw [blkQ_n])
    | (rw [blkQ_r])
    | (rw [blkQ_e])
    | (rw [blkQ_o rfl])
    | (refine end_ret rs43 (by simp only [resV, resAll, resOf, packR, cellsAt, part?, sub?, upd_get, Option.map_some, Nat.reduceEqDiff, reduceIte, if_true, if_false, id]; rfl) ?_)
    | (refine end_normal rs43 (by simp only [resV, resAll, resOf, packR, cellsAt, part?, sub?, upd_get, Option.map_some, Nat.reduceEqDiff, reduceIte, if_true, if_false, id]; rfl) ?_))
    all_goals (simp (config := { maxSteps := 4000000 }) only [fz, nilS, packR, List.take_nil, xw_n, xw_o, xw_g, xop_c, xo_move, xo_assign, xo_pick, xo_alloc, xo_box, xo_build, xo_buildSlice, xo_load, xo_store, xo_nilCheck, xo_binOp, xo_unOp, xo_convert, xo_makeFunc, xo_makeSlice, xo_slice, xo_fieldAddr, xo_field, xo_indexAddr, xo_index, xo_extract, xo_builtin, opEff, ob_some, ev, nw_false, nw_none, cond_true, cond_false, true_and, and_true, ap_n, ap_n0, ap_w, ap_w0, ap_s, ap_s0, ap_a, doAct, killO, cst, putT, upd_get, init_arg, arg_z, arg_s, deadH, Nat.add_zero, Nat.zero_add, Nat.reduceEqDiff, Nat.left_eq_add, Nat.add_eq_left, Nat.add_left_cancel_iff, Nat.reduceAdd, Nat.reduceMul, Nat.reduceSub, Nat.reduceLT, Nat.reduceLeDiff, reduceIte, List.size_toArray, Nat.add_assoc, Int.reduceToNat, Int.reduceBEq, Int.reduceBNe, Int.reduceLT, Int.reduceLE, Int.reduceGT, Int.reduceGE, Int.reduceEq, Int.reduceNe, Int.reduceAdd, Int.reduceSub, Int.reduceMul, Int.reduceNeg, Nat.reduceBEq, decide_true, decide_false, addOff, cellsAt, part?, sub?, builtinE, lenE, indexAddrE, sliceE, bopE, iop, uopE, eqB, eqCells, eqv, kindsOk, kindOk, intOf?, loOf, hiOf, minE, maxE, nilB, nilP, nilS, callOf, cellsOf, scal, sto, fillA, putAt, srcOf, appE, copyE, rep, gsp_tt, gsp_ff, gsp_tf, gsp_ft, gsp_un, Option.map_some, Option.map_none, Option.bind_some, Option.bind_none, List.map_cons, List.map_nil, List.getElem?_cons_zero, List.getElem?_cons_succ, List.drop_zero, List.drop_succ_cons, List.take_succ_cons, List.take_zero, List.length_cons, List.length_nil, List.nil_append, List.cons_append, List.append_nil, List.set_cons_zero, List.set_cons_succ, id, Nat.mul_one, Nat.one_mul, Nat.zero_mul, Nat.mul_zero, ite_true, ite_false, if_true, if_false, Nat.le_refl, Bool.not_true, Bool.not_false, Bool.true_and, Bool.and_true, Bool.false_and, Bool.and_false, Bool.true_or, Bool.or_true, Bool.false_or, Bool.or_false, beq_self_eq_true])

theorem total_bad {i : Int} (h : i < 0 ∨ 12 ≤ i) (b : Int) : SndP K 28 [vi i, vi b] (.tup [vi 0, vi 2]) := by
  refine SndP.of_awp hC ?_ Try.func28 rfl rfl (by decide +kernel) (Nat.le_of_ble_eq_true rfl) fun n => ?_
  · exact cleanB_ok 4 _ rfl
  · repeat' (first
    | (refine hKK _ ?_; clear hKK KK)
    | (refine awp_assoc ?_)
    | (refine awp_reg fun KK hKK => ?_)
    | (refine awp_reg1 fun KK hKK => ?_)
    | (refine xw_id ?_; simp (config := { maxSteps := 4000000 }) only [xw_n, xw_o, xw_g, xop_c, xo_move, xo_assign, xo_pick, xo_alloc, xo_box, xo_build, xo_buildSlice, xo_load, xo_store, xo_nilCheck, xo_binOp, xo_unOp, xo_convert, xo_makeFunc, xo_makeSlice, xo_slice, xo_fieldAddr, xo_field, xo_indexAddr, xo_index, xo_extract, xo_builtin, opEff, ob_some, ev, nw_false, nw_none, cond_true, cond_false, true_and, and_true, ap_n, ap_n0, ap_w, ap_w0, ap_s, ap_s0, ap_a, doAct, killO, cst, putT, upd_get, init_arg, arg_z, arg_s, deadH, Nat.add_zero, Nat.zero_add, Nat.reduceEqDiff, Nat.left_eq_add, Nat.add_eq_left, Nat.add_left_cancel_iff, Nat.reduceAdd, Nat.reduceMul, Nat.reduceSub, Nat.reduceLT, Nat.reduceLeDiff, reduceIte, List.size_toArray, Nat.add_assoc, Int.reduceToNat, Int.reduceBEq, Int.reduceBNe, Int.reduceLT, Int.reduceLE, Int.reduceGT, Int.reduceGE, Int.reduceEq, Int.reduceNe, Int.reduceAdd, Int.reduceSub, Int.reduceMul, Int.reduceNeg, Nat.reduceBEq, decide_true, decide_false, addOff, cellsAt, part?, sub?, builtinE, lenE, indexAddrE, sliceE, bopE, iop, uopE, eqB, eqCells, eqv, kindsOk, kindOk, intOf?, loOf, hiOf, minE, maxE, nilB, nilP, nilS, callOf, cellsOf, scal, sto, fillA, putAt, srcOf, appE, copyE, rep, gsp_tt, gsp_ff, gsp_tf, gsp_ft, gsp_un, Option.map_some, Option.map_none, Option.bind_some, Option.bind_none, List.map_cons, List.map_nil, List.getElem?_cons_zero, List.getElem?_cons_succ, List.drop_zero, List.drop_succ_cons, List.take_succ_cons, List.take_zero, List.length_cons, List.length_nil, List.nil_append, List.cons_append, List.append_nil, List.set_cons_zero, List.set_cons_succ, id, Nat.mul_one, Nat.one_mul, Nat.zero_mul, Nat.mul_zero, ite_true, ite_false, if_true, if_false, Nat.le_refl, Bool.not_true, Bool.not_false, Bool.true_and, Bool.and_true, Bool.false_and, Bool.and_false, Bool.true_or, Bool.or_true, Bool.false_or, Bool.or_false, beq_self_eq_true])
    | (refine gsp_split (fun h => ?_) (fun h => ?_) <;> simp (config := { maxSteps := 4000000 }) only [xw_n, xw_o, xw_g, xop_c, xo_move, xo_assign, xo_pick, xo_alloc, xo_box, xo_build, xo_buildSlice, xo_load, xo_store, xo_nilCheck, xo_binOp, xo_unOp, xo_convert, xo_makeFunc, xo_makeSlice, xo_slice, xo_fieldAddr, xo_field, xo_indexAddr, xo_index, xo_extract, xo_builtin, opEff, ob_some, ev, nw_false, nw_none, cond_true, cond_false, true_and, and_true, ap_n, ap_n0, ap_w, ap_w0, ap_s, ap_s0, ap_a, doAct, killO, cst, putT, upd_get, init_arg, arg_z, arg_s, deadH, Nat.add_zero, Nat.zero_add, Nat.reduceEqDiff, Nat.left_eq_add, Nat.add_eq_left, Nat.add_left_cancel_iff, Nat.reduceAdd, Nat.reduceMul, Nat.reduceSub, Nat.reduceLT, Nat.reduceLeDiff, reduceIte, List.size_toArray, Nat.add_assoc, Int.reduceToNat, Int.reduceBEq, Int.reduceBNe, Int.reduceLT, Int.reduceLE, Int.reduceGT, Int.reduceGE, Int.reduceEq, Int.reduceNe, Int.reduceAdd, Int.reduceSub, Int.reduceMul, Int.reduceNeg, Nat.reduceBEq, decide_true, decide_false, addOff, cellsAt, part?, sub?, builtinE, lenE, indexAddrE, sliceE, bopE, iop, uopE, eqB, eqCells, eqv, kindsOk, kindOk, intOf?, loOf, hiOf, minE, maxE, nilB, nilP, nilS, callOf, cellsOf, scal, sto, fillA, putAt, srcOf, appE, copyE, rep, gsp_tt, gsp_ff, gsp_tf, gsp_ft, gsp_un, Option.map_some, Option.map_none, Option.bind_some, Option.bind_none, List.map_cons, List.map_nil, List.getElem?_cons_zero, List.getElem?_cons_succ, List.drop_zero, List.drop_succ_cons, List.take_succ_cons, List.take_zero, List.length_cons, List.length_nil, List.nil_append, List.cons_append, List.append_nil, List.set_cons_zero, List.set_cons_succ, id, Nat.mul_one, Nat.one_mul, Nat.zero_mul, Nat.mul_zero, ite_true, ite_false, if_true, if_false, Nat.le_refl, Bool.not_true, Bool.not_false, Bool.true_and, Bool.and_true, Bool.false_and, Bool.and_false, Bool.true_or, Bool.or_true, Bool.false_or, Bool.or_false, beq_self_eq_true, h])
    | (refine xcall_p (Air_bad h _) ?_; try dsimp only)
    | (refine xcall_n (Air_bad h _) ?_; try dsimp only)
    | (refine awp_condT ?_ ?_; focus ((simp only [ev, cst, upd_get, Nat.reduceEqDiff, reduceIte, if_true, if_false]); done))
    | (refine awp_condT1 ?_ ?_; focus ((simp only [ev, cst, upd_get, Nat.reduceEqDiff, reduceIte, if_true, if_false]); done))
    | (refine awp_condF ?_ ?_; focus ((simp only [ev, cst, upd_get, Nat.reduceEqDiff, reduceIte, if_true, if_false]); done))
    | (refine awp_condF1 ?_ ?_; focus ((simp only [ev, cst, upd_get, Nat.reduceEqDiff, reduceIte, if_true, if_false]); done))
    | (refine awp_cond (by simp only [ev, cst, upd_get, Nat.reduceEqDiff, reduceIte, if_true, if_false]; rfl) (fun h => ?_) (fun h => ?_))
    | (refine awp_cond1 (by simp only [ev, cst, upd_get, Nat.reduceEqDiff, reduceIte, if_true, if_false]; rfl) (fun h => ?_) (fun h => ?_))
    | (refine awp_skip ?_)
    | (refine awp_ret ?_)
    | (refine awp_ret1 ?_)
    | (refine awp_exit ?_)
    | (refine awp_exit1 ?_)
    | (refine awp_block ?_)
    | (refine awp_block1 ?_)
    | (rw [seqQ_n])
    | (rw [seqQ_e])
    | (rw [seqQ_r])
    | (rw [loopQ_n])
    | (rw [loopQ_e])
    | (rw [loopQ_r])
    | (rw [blkQ_n])
    | (rw [blkQ_r])
    | (rw [blkQ_e])
    | (rw [blkQ_o rfl])
    | (refine end_ret rs28 (by simp only [resV, resAll, resOf, packR, cellsAt, part?, sub?, upd_get, Option.map_some, Nat.reduceEqDiff, reduceIte, if_true, if_false, id]; rfl) ?_)
    | (refine end_normal rs28 (by simp only [resV, resAll, resOf, packR, cellsAt, part?, sub?, upd_get, Option.map_some, Nat.reduceEqDiff, reduceIte, if_true, if_false, id]; rfl) ?_))
    all_goals (simp (config := { maxSteps := 4000000 }) only [fz, nilS, packR, List.take_nil, xw_n, xw_o, xw_g, xop_c, xo_move, xo_assign, xo_pick, xo_alloc, xo_box, xo_build, xo_buildSlice, xo_load, xo_store, xo_nilCheck, xo_binOp, xo_unOp, xo_convert, xo_makeFunc, xo_makeSlice, xo_slice, xo_fieldAddr, xo_field, xo_indexAddr, xo_index, xo_extract, xo_builtin, opEff, ob_some, ev, nw_false, nw_none, cond_true, cond_false, true_and, and_true, ap_n, ap_n0, ap_w, ap_w0, ap_s, ap_s0, ap_a, doAct, killO, cst, putT, upd_get, init_arg, arg_z, arg_s, deadH, Nat.add_zero, Nat.zero_add, Nat.reduceEqDiff, Nat.left_eq_add, Nat.add_eq_left, Nat.add_left_cancel_iff, Nat.reduceAdd, Nat.reduceMul, Nat.reduceSub, Nat.reduceLT, Nat.reduceLeDiff, reduceIte, List.size_toArray, Nat.add_assoc, Int.reduceToNat, Int.reduceBEq, Int.reduceBNe, Int.reduceLT, Int.reduceLE, Int.reduceGT, Int.reduceGE, Int.reduceEq, Int.reduceNe, Int.reduceAdd, Int.reduceSub, Int.reduceMul, Int.reduceNeg, Nat.reduceBEq, decide_true, decide_false, addOff, cellsAt, part?, sub?, builtinE, lenE, indexAddrE, sliceE, bopE, iop, uopE, eqB, eqCells, eqv, kindsOk, kindOk, intOf?, loOf, hiOf, minE, maxE, nilB, nilP, nilS, callOf, cellsOf, scal, sto, fillA, putAt, srcOf, appE, copyE, rep, gsp_tt, gsp_ff, gsp_tf, gsp_ft, gsp_un, Option.map_some, Option.map_none, Option.bind_some, Option.bind_none, List.map_cons, List.map_nil, List.getElem?_cons_zero, List.getElem?_cons_succ, List.drop_zero, List.drop_succ_cons, List.take_succ_cons, List.take_zero, List.length_cons, List.length_nil, List.nil_append, List.cons_append, List.append_nil, List.set_cons_zero, List.set_cons_succ, id, Nat.mul_one, Nat.one_mul, Nat.zero_mul, Nat.mul_zero, ite_true, ite_false, if_true, if_false, Nat.le_refl, Bool.not_true, Bool.not_false, Bool.true_and, Bool.and_true, Bool.false_and, Bool.and_false, Bool.true_or, Bool.or_true, Bool.false_or, Bool.or_false, beq_self_eq_true])

def clamp (n : Int) : Int := if n < 0 then 0 else if n > 1099511627776 then 1099511627776 else n

theorem clamp_i (n : Int) : SndP K 30 [vi n] (vi (clamp n)) := by
  refine SndP.of_awp hC ?_ Try.func30 rfl rfl (by decide +kernel) (Nat.le_of_ble_eq_true rfl) fun n => ?_
  · exact Clean.v _
  · repeat' (first
    | (refine hKK _ ?_; clear hKK KK)
    | (refine awp_assoc ?_)
    | (refine awp_reg fun KK hKK => ?_)
    | (refine awp_reg1 fun KK hKK => ?_)
    | (refine xw_id ?_; simp (config := { maxSteps := 4000000 }) only [xw_n, xw_o, xw_g, xop_c, xo_move, xo_assign, xo_pick, xo_alloc, xo_box, xo_build, xo_buildSlice, xo_load, xo_store, xo_nilCheck, xo_binOp, xo_unOp, xo_convert, xo_makeFunc, xo_makeSlice, xo_slice, xo_fieldAddr, xo_field, xo_indexAddr, xo_index, xo_extract, xo_builtin, opEff, ob_some, ev, nw_false, nw_none, cond_true, cond_false, true_and, and_true, ap_n, ap_n0, ap_w, ap_w0, ap_s, ap_s0, ap_a, doAct, killO, cst, putT, upd_get, init_arg, arg_z, arg_s, deadH, Nat.add_zero, Nat.zero_add, Nat.reduceEqDiff, Nat.left_eq_add, Nat.add_eq_left, Nat.add_left_cancel_iff, Nat.reduceAdd, Nat.reduceMul, Nat.reduceSub, Nat.reduceLT, Nat.reduceLeDiff, reduceIte, List.size_toArray, Nat.add_assoc, Int.reduceToNat, Int.reduceBEq, Int.reduceBNe, Int.reduceLT, Int.reduceLE, Int.reduceGT, Int.reduceGE, Int.reduceEq, Int.reduceNe, Int.reduceAdd, Int.reduceSub, Int.reduceMul, Int.reduceNeg, Nat.reduceBEq, decide_true, decide_false, addOff, cellsAt, part?, sub?, builtinE, lenE, indexAddrE, sliceE, bopE, iop, uopE, eqB, eqCells, eqv, kindsOk, kindOk, intOf?, loOf, hiOf, minE, maxE, nilB, nilP, nilS, callOf, cellsOf, scal, sto, fillA, putAt, srcOf, appE, copyE, rep, gsp_tt, gsp_ff, gsp_tf, gsp_ft, gsp_un, Option.map_some, Option.map_none, Option.bind_some, Option.bind_none, List.map_cons, List.map_nil, List.getElem?_cons_zero, List.getElem?_cons_succ, List.drop_zero, List.drop_succ_cons, List.take_succ_cons, List.take_zero, List.length_cons, List.length_nil, List.nil_append, List.cons_append, List.append_nil, List.set_cons_zero, List.set_cons_succ, id, Nat.mul_one, Nat.one_mul, Nat.zero_mul, Nat.mul_zero, ite_true, ite_false, if_true, if_false, Nat.le_refl, Bool.not_true, Bool.not_false, Bool.true_and, Bool.and_true, Bool.false_and, Bool.and_false, Bool.true_or, Bool.or_true, Bool.false_or, Bool.or_false, beq_self_eq_true, un3])
    | (refine gsp_split (fun h => ?_) (fun h => ?_) <;> simp (config := { maxSteps := 4000000 }) only [xw_n, xw_o, xw_g, xop_c, xo_move, xo_assign, xo_pick, xo_alloc, xo_box, xo_build, xo_buildSlice, xo_load, xo_store, xo_nilCheck, xo_binOp, xo_unOp, xo_convert, xo_makeFunc, xo_makeSlice, xo_slice, xo_fieldAddr, xo_field, xo_indexAddr, xo_index, xo_extract, xo_builtin, opEff, ob_some, ev, nw_false, nw_none, cond_true, cond_false, true_and, and_true, ap_n, ap_n0, ap_w, ap_w0, ap_s, ap_s0, ap_a, doAct, killO, cst, putT, upd_get, init_arg, arg_z, arg_s, deadH, Nat.add_zero, Nat.zero_add, Nat.reduceEqDiff, Nat.left_eq_add, Nat.add_eq_left, Nat.add_left_cancel_iff, Nat.reduceAdd, Nat.reduceMul, Nat.reduceSub, Nat.reduceLT, Nat.reduceLeDiff, reduceIte, List.size_toArray, Nat.add_assoc, Int.reduceToNat, Int.reduceBEq, Int.reduceBNe, Int.reduceLT, Int.reduceLE, Int.reduceGT, Int.reduceGE, Int.reduceEq, Int.reduceNe, Int.reduceAdd, Int.reduceSub, Int.reduceMul, Int.reduceNeg, Nat.reduceBEq, decide_true, decide_false, addOff, cellsAt, part?, sub?, builtinE, lenE, indexAddrE, sliceE, bopE, iop, uopE, eqB, eqCells, eqv, kindsOk, kindOk, intOf?, loOf, hiOf, minE, maxE, nilB, nilP, nilS, callOf, cellsOf, scal, sto, fillA, putAt, srcOf, appE, copyE, rep, gsp_tt, gsp_ff, gsp_tf, gsp_ft, gsp_un, Option.map_some, Option.map_none, Option.bind_some, Option.bind_none, List.map_cons, List.map_nil, List.getElem?_cons_zero, List.getElem?_cons_succ, List.drop_zero, List.drop_succ_cons, List.take_succ_cons, List.take_zero, List.length_cons, List.length_nil, List.nil_append, List.cons_append, List.append_nil, List.set_cons_zero, List.set_cons_succ, id, Nat.mul_one, Nat.one_mul, Nat.zero_mul, Nat.mul_zero, ite_true, ite_false, if_true, if_false, Nat.le_refl, Bool.not_true, Bool.not_false, Bool.true_and, Bool.and_true, Bool.false_and, Bool.and_false, Bool.true_or, Bool.or_true, Bool.false_or, Bool.or_false, beq_self_eq_true, un3, h])
    | (refine awp_condT ?_ ?_; focus ((simp only [ev, cst, upd_get, Nat.reduceEqDiff, reduceIte, if_true, if_false]); done))
    | (refine awp_condT1 ?_ ?_; focus ((simp only [ev, cst, upd_get, Nat.reduceEqDiff, reduceIte, if_true, if_false]); done))
    | (refine awp_condF ?_ ?_; focus ((simp only [ev, cst, upd_get, Nat.reduceEqDiff, reduceIte, if_true, if_false]); done))
    | (refine awp_condF1 ?_ ?_; focus ((simp only [ev, cst, upd_get, Nat.reduceEqDiff, reduceIte, if_true, if_false]); done))
    | (refine awp_cond (by simp only [ev, cst, upd_get, Nat.reduceEqDiff, reduceIte, if_true, if_false]; rfl) (fun h => ?_) (fun h => ?_))
    | (refine awp_cond1 (by simp only [ev, cst, upd_get, Nat.reduceEqDiff, reduceIte, if_true, if_false]; rfl) (fun h => ?_) (fun h => ?_))
    | (refine awp_skip ?_)
    | (refine awp_ret ?_)
    | (refine awp_ret1 ?_)
    | (refine awp_exit ?_)
    | (refine awp_exit1 ?_)
    | (refine awp_block ?_)
    | (refine awp_block1 ?_)
    | (rw [seqQ_n])
    | (rw [seqQ_e])
    | (rw [seqQ_r])
    | (rw [loopQ_n])
    | (rw [loopQ_e])
    | (rw [loopQ_r])
    | (rw [blkQ_n])
    | (rw [blkQ_r])
    | (rw [blkQ_e])
    | (rw [blkQ_o rfl])
    | (refine end_ret rs30 (by simp only [resV, resAll, resOf, packR, cellsAt, part?, sub?, upd_get, Option.map_some, Nat.reduceEqDiff, reduceIte, if_true, if_false, un3]; rfl) ?_)
    | (refine end_normal rs30 (by simp only [resV, resAll, resOf, packR, cellsAt, part?, sub?, upd_get, Option.map_some, Nat.reduceEqDiff, reduceIte, if_true, if_false, un3]; rfl) ?_))
    all_goals (simp (config := { maxSteps := 4000000 }) only [fz, nilS, packR, List.take_nil, xw_n, xw_o, xw_g, xop_c, xo_move, xo_assign, xo_pick, xo_alloc, xo_box, xo_build, xo_buildSlice, xo_load, xo_store, xo_nilCheck, xo_binOp, xo_unOp, xo_convert, xo_makeFunc, xo_makeSlice, xo_slice, xo_fieldAddr, xo_field, xo_indexAddr, xo_index, xo_extract, xo_builtin, opEff, ob_some, ev, nw_false, nw_none, cond_true, cond_false, true_and, and_true, ap_n, ap_n0, ap_w, ap_w0, ap_s, ap_s0, ap_a, doAct, killO, cst, putT, upd_get, init_arg, arg_z, arg_s, deadH, Nat.add_zero, Nat.zero_add, Nat.reduceEqDiff, Nat.left_eq_add, Nat.add_eq_left, Nat.add_left_cancel_iff, Nat.reduceAdd, Nat.reduceMul, Nat.reduceSub, Nat.reduceLT, Nat.reduceLeDiff, reduceIte, List.size_toArray, Nat.add_assoc, Int.reduceToNat, Int.reduceBEq, Int.reduceBNe, Int.reduceLT, Int.reduceLE, Int.reduceGT, Int.reduceGE, Int.reduceEq, Int.reduceNe, Int.reduceAdd, Int.reduceSub, Int.reduceMul, Int.reduceNeg, Nat.reduceBEq, decide_true, decide_false, addOff, cellsAt, part?, sub?, builtinE, lenE, indexAddrE, sliceE, bopE, iop, uopE, eqB, eqCells, eqv, kindsOk, kindOk, intOf?, loOf, hiOf, minE, maxE, nilB, nilP, nilS, callOf, cellsOf, scal, sto, fillA, putAt, srcOf, appE, copyE, rep, gsp_tt, gsp_ff, gsp_tf, gsp_ft, gsp_un, Option.map_some, Option.map_none, Option.bind_some, Option.bind_none, List.map_cons, List.map_nil, List.getElem?_cons_zero, List.getElem?_cons_succ, List.drop_zero, List.drop_succ_cons, List.take_succ_cons, List.take_zero, List.length_cons, List.length_nil, List.nil_append, List.cons_append, List.append_nil, List.set_cons_zero, List.set_cons_succ, id, Nat.mul_one, Nat.one_mul, Nat.zero_mul, Nat.mul_zero, ite_true, ite_false, if_true, if_false, Nat.le_refl, Bool.not_true, Bool.not_false, Bool.true_and, Bool.and_true, Bool.false_and, Bool.and_false, Bool.true_or, Bool.or_true, Bool.false_or, Bool.or_false, beq_self_eq_true]; congr 2; unfold clamp; grind)

theorem within (n : Int) : SndP K 31 [vi n] (vi (clamp n)) := by
  refine SndP.of_awp hC ?_ Try.func31 rfl rfl (by decide +kernel) (Nat.le_of_ble_eq_true rfl) fun n => ?_
  · exact Clean.v _
  · repeat' (first
    | (refine hKK _ ?_; clear hKK KK)
    | (refine awp_assoc ?_)
    | (refine awp_reg fun KK hKK => ?_)
    | (refine awp_reg1 fun KK hKK => ?_)
    | (refine xw_id ?_; simp (config := { maxSteps := 4000000 }) only [xw_n, xw_o, xw_g, xop_c, xo_move, xo_assign, xo_pick, xo_alloc, xo_box, xo_build, xo_buildSlice, xo_load, xo_store, xo_nilCheck, xo_binOp, xo_unOp, xo_convert, xo_makeFunc, xo_makeSlice, xo_slice, xo_fieldAddr, xo_field, xo_indexAddr, xo_index, xo_extract, xo_builtin, opEff, ob_some, ev, nw_false, nw_none, cond_true, cond_false, true_and, and_true, ap_n, ap_n0, ap_w, ap_w0, ap_s, ap_s0, ap_a, doAct, killO, cst, putT, upd_get, init_arg, arg_z, arg_s, deadH, Nat.add_zero, Nat.zero_add, Nat.reduceEqDiff, Nat.left_eq_add, Nat.add_eq_left, Nat.add_left_cancel_iff, Nat.reduceAdd, Nat.reduceMul, Nat.reduceSub, Nat.reduceLT, Nat.reduceLeDiff, reduceIte, List.size_toArray, Nat.add_assoc, Int.reduceToNat, Int.reduceBEq, Int.reduceBNe, Int.reduceLT, Int.reduceLE, Int.reduceGT, Int.reduceGE, Int.reduceEq, Int.reduceNe, Int.reduceAdd, Int.reduceSub, Int.reduceMul, Int.reduceNeg, Nat.reduceBEq, decide_true, decide_false, addOff, cellsAt, part?, sub?, builtinE, lenE, indexAddrE, sliceE, bopE, iop, uopE, eqB, eqCells, eqv, kindsOk, kindOk, intOf?, loOf, hiOf, minE, maxE, nilB, nilP, nilS, callOf, cellsOf, scal, sto, fillA, putAt, srcOf, appE, copyE, rep, gsp_tt, gsp_ff, gsp_tf, gsp_ft, gsp_un, Option.map_some, Option.map_none, Option.bind_some, Option.bind_none, List.map_cons, List.map_nil, List.getElem?_cons_zero, List.getElem?_cons_succ, List.drop_zero, List.drop_succ_cons, List.take_succ_cons, List.take_zero, List.length_cons, List.length_nil, List.nil_append, List.cons_append, List.append_nil, List.set_cons_zero, List.set_cons_succ, id, Nat.mul_one, Nat.one_mul, Nat.zero_mul, Nat.mul_zero, ite_true, ite_false, if_true, if_false, Nat.le_refl, Bool.not_true, Bool.not_false, Bool.true_and, Bool.and_true, Bool.false_and, Bool.and_false, Bool.true_or, Bool.or_true, Bool.false_or, Bool.or_false, beq_self_eq_true])
    | (refine gsp_split (fun h => ?_) (fun h => ?_) <;> simp (config := { maxSteps := 4000000 }) only [xw_n, xw_o, xw_g, xop_c, xo_move, xo_assign, xo_pick, xo_alloc, xo_box, xo_build, xo_buildSlice, xo_load, xo_store, xo_nilCheck, xo_binOp, xo_unOp, xo_convert, xo_makeFunc, xo_makeSlice, xo_slice, xo_fieldAddr, xo_field, xo_indexAddr, xo_index, xo_extract, xo_builtin, opEff, ob_some, ev, nw_false, nw_none, cond_true, cond_false, true_and, and_true, ap_n, ap_n0, ap_w, ap_w0, ap_s, ap_s0, ap_a, doAct, killO, cst, putT, upd_get, init_arg, arg_z, arg_s, deadH, Nat.add_zero, Nat.zero_add, Nat.reduceEqDiff, Nat.left_eq_add, Nat.add_eq_left, Nat.add_left_cancel_iff, Nat.reduceAdd, Nat.reduceMul, Nat.reduceSub, Nat.reduceLT, Nat.reduceLeDiff, reduceIte, List.size_toArray, Nat.add_assoc, Int.reduceToNat, Int.reduceBEq, Int.reduceBNe, Int.reduceLT, Int.reduceLE, Int.reduceGT, Int.reduceGE, Int.reduceEq, Int.reduceNe, Int.reduceAdd, Int.reduceSub, Int.reduceMul, Int.reduceNeg, Nat.reduceBEq, decide_true, decide_false, addOff, cellsAt, part?, sub?, builtinE, lenE, indexAddrE, sliceE, bopE, iop, uopE, eqB, eqCells, eqv, kindsOk, kindOk, intOf?, loOf, hiOf, minE, maxE, nilB, nilP, nilS, callOf, cellsOf, scal, sto, fillA, putAt, srcOf, appE, copyE, rep, gsp_tt, gsp_ff, gsp_tf, gsp_ft, gsp_un, Option.map_some, Option.map_none, Option.bind_some, Option.bind_none, List.map_cons, List.map_nil, List.getElem?_cons_zero, List.getElem?_cons_succ, List.drop_zero, List.drop_succ_cons, List.take_succ_cons, List.take_zero, List.length_cons, List.length_nil, List.nil_append, List.cons_append, List.append_nil, List.set_cons_zero, List.set_cons_succ, id, Nat.mul_one, Nat.one_mul, Nat.zero_mul, Nat.mul_zero, ite_true, ite_false, if_true, if_false, Nat.le_refl, Bool.not_true, Bool.not_false, Bool.true_and, Bool.and_true, Bool.false_and, Bool.and_false, Bool.true_or, Bool.or_true, Bool.false_or, Bool.or_false, beq_self_eq_true, h])
    | (refine awp_condT ?_ ?_; focus ((simp only [ev, cst, upd_get, Nat.reduceEqDiff, reduceIte, if_true, if_false]); done))
    | (refine awp_condT1 ?_ ?_; focus ((simp only [ev, cst, upd_get, Nat.reduceEqDiff, reduceIte, if_true, if_false]); done))
    | (refine awp_condF ?_ ?_; focus ((simp only [ev, cst, upd_get, Nat.reduceEqDiff, reduceIte, if_true, if_false]); done))
    | (refine awp_condF1 ?_ ?_; focus ((simp only [ev, cst, upd_get, Nat.reduceEqDiff, reduceIte, if_true, if_false]); done))
    | (refine awp_cond (by simp only [ev, cst, upd_get, Nat.reduceEqDiff, reduceIte, if_true, if_false]; rfl) (fun h => ?_) (fun h => ?_))
    | (refine awp_cond1 (by simp only [ev, cst, upd_get, Nat.reduceEqDiff, reduceIte, if_true, if_false]; rfl) (fun h => ?_) (fun h => ?_))
    | (refine awp_skip ?_)
    | (refine awp_ret ?_)
    | (refine awp_ret1 ?_)
    | (refine awp_exit ?_)
    | (refine awp_exit1 ?_)
    | (refine awp_block ?_)
    | (refine awp_block1 ?_)
    | (rw [seqQ_n])
    | (rw [seqQ_e])
    | (rw [seqQ_r])
    | (rw [loopQ_n])
    | (rw [loopQ_e])
    | (rw [loopQ_r])
    | (rw [blkQ_n])
    | (rw [blkQ_r])
    | (rw [blkQ_e])
    | (rw [blkQ_o rfl])
    | (refine end_ret rs31 (by simp only [resV, resAll, resOf, packR, cellsAt, part?, sub?, upd_get, Option.map_some, Nat.reduceEqDiff, reduceIte, if_true, if_false, id]; rfl) ?_)
    | (refine end_normal rs31 (by simp only [resV, resAll, resOf, packR, cellsAt, part?, sub?, upd_get, Option.map_some, Nat.reduceEqDiff, reduceIte, if_true, if_false, id]; rfl) ?_))
    all_goals (simp (config := { maxSteps := 4000000 }) only [fz, nilS, packR, List.take_nil, xw_n, xw_o, xw_g, xop_c, xo_move, xo_assign, xo_pick, xo_alloc, xo_box, xo_build, xo_buildSlice, xo_load, xo_store, xo_nilCheck, xo_binOp, xo_unOp, xo_convert, xo_makeFunc, xo_makeSlice, xo_slice, xo_fieldAddr, xo_field, xo_indexAddr, xo_index, xo_extract, xo_builtin, opEff, ob_some, ev, nw_false, nw_none, cond_true, cond_false, true_and, and_true, ap_n, ap_n0, ap_w, ap_w0, ap_s, ap_s0, ap_a, doAct, killO, cst, putT, upd_get, init_arg, arg_z, arg_s, deadH, Nat.add_zero, Nat.zero_add, Nat.reduceEqDiff, Nat.left_eq_add, Nat.add_eq_left, Nat.add_left_cancel_iff, Nat.reduceAdd, Nat.reduceMul, Nat.reduceSub, Nat.reduceLT, Nat.reduceLeDiff, reduceIte, List.size_toArray, Nat.add_assoc, Int.reduceToNat, Int.reduceBEq, Int.reduceBNe, Int.reduceLT, Int.reduceLE, Int.reduceGT, Int.reduceGE, Int.reduceEq, Int.reduceNe, Int.reduceAdd, Int.reduceSub, Int.reduceMul, Int.reduceNeg, Nat.reduceBEq, decide_true, decide_false, addOff, cellsAt, part?, sub?, builtinE, lenE, indexAddrE, sliceE, bopE, iop, uopE, eqB, eqCells, eqv, kindsOk, kindOk, intOf?, loOf, hiOf, minE, maxE, nilB, nilP, nilS, callOf, cellsOf, scal, sto, fillA, putAt, srcOf, appE, copyE, rep, gsp_tt, gsp_ff, gsp_tf, gsp_ft, gsp_un, Option.map_some, Option.map_none, Option.bind_some, Option.bind_none, List.map_cons, List.map_nil, List.getElem?_cons_zero, List.getElem?_cons_succ, List.drop_zero, List.drop_succ_cons, List.take_succ_cons, List.take_zero, List.length_cons, List.length_nil, List.nil_append, List.cons_append, List.append_nil, List.set_cons_zero, List.set_cons_succ, id, Nat.mul_one, Nat.one_mul, Nat.zero_mul, Nat.mul_zero, ite_true, ite_false, if_true, if_false, Nat.le_refl, Bool.not_true, Bool.not_false, Bool.true_and, Bool.and_true, Bool.false_and, Bool.and_false, Bool.true_or, Bool.or_true, Bool.false_or, Bool.or_false, beq_self_eq_true]; congr 2; unfold clamp; grind)

theorem clamp_b (n : Int) : 0 ≤ clamp n ∧ clamp n ≤ 1099511627776 := by unfold clamp; grind

def addR (a b : Int) : Int := clamp (clamp a + clamp b)

theorem add_i (a b : Int) : SndP K 14 [vi a, vi b] (vi (addR a b)) := by
  have ha := clamp_b a
  have hb := clamp_b b
  have hw : IntKind.wrap .i64 (clamp a + clamp b) = clamp a + clamp b := wrap64 (by omega) (by omega)
  refine SndP.of_awp hC ?_ Try.func14 rfl rfl (by decide +kernel) (Nat.le_of_ble_eq_true rfl) fun n => ?_
  · exact Clean.v _
  · repeat' (first
    | (refine hKK _ ?_; clear hKK KK)
    | (refine awp_assoc ?_)
    | (refine awp_reg fun KK hKK => ?_)
    | (refine awp_reg1 fun KK hKK => ?_)
    | (refine xw_id ?_; simp (config := { maxSteps := 4000000 }) only [xw_n, xw_o, xw_g, xop_c, xo_move, xo_assign, xo_pick, xo_alloc, xo_box, xo_build, xo_buildSlice, xo_load, xo_store, xo_nilCheck, xo_binOp, xo_unOp, xo_convert, xo_makeFunc, xo_makeSlice, xo_slice, xo_fieldAddr, xo_field, xo_indexAddr, xo_index, xo_extract, xo_builtin, opEff, ob_some, ev, nw_false, nw_none, cond_true, cond_false, true_and, and_true, ap_n, ap_n0, ap_w, ap_w0, ap_s, ap_s0, ap_a, doAct, killO, cst, putT, upd_get, init_arg, arg_z, arg_s, deadH, Nat.add_zero, Nat.zero_add, Nat.reduceEqDiff, Nat.left_eq_add, Nat.add_eq_left, Nat.add_left_cancel_iff, Nat.reduceAdd, Nat.reduceMul, Nat.reduceSub, Nat.reduceLT, Nat.reduceLeDiff, reduceIte, List.size_toArray, Nat.add_assoc, Int.reduceToNat, Int.reduceBEq, Int.reduceBNe, Int.reduceLT, Int.reduceLE, Int.reduceGT, Int.reduceGE, Int.reduceEq, Int.reduceNe, Int.reduceAdd, Int.reduceSub, Int.reduceMul, Int.reduceNeg, Nat.reduceBEq, decide_true, decide_false, addOff, cellsAt, part?, sub?, builtinE, lenE, indexAddrE, sliceE, bopE, iop, uopE, eqB, eqCells, eqv, kindsOk, kindOk, intOf?, loOf, hiOf, minE, maxE, nilB, nilP, nilS, callOf, cellsOf, scal, sto, fillA, putAt, srcOf, appE, copyE, rep, gsp_tt, gsp_ff, gsp_tf, gsp_ft, gsp_un, Option.map_some, Option.map_none, Option.bind_some, Option.bind_none, List.map_cons, List.map_nil, List.getElem?_cons_zero, List.getElem?_cons_succ, List.drop_zero, List.drop_succ_cons, List.take_succ_cons, List.take_zero, List.length_cons, List.length_nil, List.nil_append, List.cons_append, List.append_nil, List.set_cons_zero, List.set_cons_succ, id, Nat.mul_one, Nat.one_mul, Nat.zero_mul, Nat.mul_zero, ite_true, ite_false, if_true, if_false, Nat.le_refl, Bool.not_true, Bool.not_false, Bool.true_and, Bool.and_true, Bool.false_and, Bool.and_false, Bool.true_or, Bool.or_true, Bool.false_or, Bool.or_false, beq_self_eq_true, hw])
    | (refine gsp_split (fun h => ?_) (fun h => ?_) <;> simp (config := { maxSteps := 4000000 }) only [xw_n, xw_o, xw_g, xop_c, xo_move, xo_assign, xo_pick, xo_alloc, xo_box, xo_build, xo_buildSlice, xo_load, xo_store, xo_nilCheck, xo_binOp, xo_unOp, xo_convert, xo_makeFunc, xo_makeSlice, xo_slice, xo_fieldAddr, xo_field, xo_indexAddr, xo_index, xo_extract, xo_builtin, opEff, ob_some, ev, nw_false, nw_none, cond_true, cond_false, true_and, and_true, ap_n, ap_n0, ap_w, ap_w0, ap_s, ap_s0, ap_a, doAct, killO, cst, putT, upd_get, init_arg, arg_z, arg_s, deadH, Nat.add_zero, Nat.zero_add, Nat.reduceEqDiff, Nat.left_eq_add, Nat.add_eq_left, Nat.add_left_cancel_iff, Nat.reduceAdd, Nat.reduceMul, Nat.reduceSub, Nat.reduceLT, Nat.reduceLeDiff, reduceIte, List.size_toArray, Nat.add_assoc, Int.reduceToNat, Int.reduceBEq, Int.reduceBNe, Int.reduceLT, Int.reduceLE, Int.reduceGT, Int.reduceGE, Int.reduceEq, Int.reduceNe, Int.reduceAdd, Int.reduceSub, Int.reduceMul, Int.reduceNeg, Nat.reduceBEq, decide_true, decide_false, addOff, cellsAt, part?, sub?, builtinE, lenE, indexAddrE, sliceE, bopE, iop, uopE, eqB, eqCells, eqv, kindsOk, kindOk, intOf?, loOf, hiOf, minE, maxE, nilB, nilP, nilS, callOf, cellsOf, scal, sto, fillA, putAt, srcOf, appE, copyE, rep, gsp_tt, gsp_ff, gsp_tf, gsp_ft, gsp_un, Option.map_some, Option.map_none, Option.bind_some, Option.bind_none, List.map_cons, List.map_nil, List.getElem?_cons_zero, List.getElem?_cons_succ, List.drop_zero, List.drop_succ_cons, List.take_succ_cons, List.take_zero, List.length_cons, List.length_nil, List.nil_append, List.cons_append, List.append_nil, List.set_cons_zero, List.set_cons_succ, id, Nat.mul_one, Nat.one_mul, Nat.zero_mul, Nat.mul_zero, ite_true, ite_false, if_true, if_false, Nat.le_refl, Bool.not_true, Bool.not_false, Bool.true_and, Bool.and_true, Bool.false_and, Bool.and_false, Bool.true_or, Bool.or_true, Bool.false_or, Bool.or_false, beq_self_eq_true, hw, h])
    | (refine xcall_p (clamp_i _) ?_; try dsimp only)
    | (refine xcall_n (clamp_i _) ?_; try dsimp only)
    | (refine awp_condT ?_ ?_; focus ((simp only [ev, cst, upd_get, Nat.reduceEqDiff, reduceIte, if_true, if_false]); done))
    | (refine awp_condT1 ?_ ?_; focus ((simp only [ev, cst, upd_get, Nat.reduceEqDiff, reduceIte, if_true, if_false]); done))
    | (refine awp_condF ?_ ?_; focus ((simp only [ev, cst, upd_get, Nat.reduceEqDiff, reduceIte, if_true, if_false]); done))
    | (refine awp_condF1 ?_ ?_; focus ((simp only [ev, cst, upd_get, Nat.reduceEqDiff, reduceIte, if_true, if_false]); done))
    | (refine awp_cond (by simp only [ev, cst, upd_get, Nat.reduceEqDiff, reduceIte, if_true, if_false]; rfl) (fun h => ?_) (fun h => ?_))
    | (refine awp_cond1 (by simp only [ev, cst, upd_get, Nat.reduceEqDiff, reduceIte, if_true, if_false]; rfl) (fun h => ?_) (fun h => ?_))
    | (refine awp_skip ?_)
    | (refine awp_ret ?_)
    | (refine awp_ret1 ?_)
    | (refine awp_exit ?_)
    | (refine awp_exit1 ?_)
    | (refine awp_block ?_)
    | (refine awp_block1 ?_)
    | (rw [seqQ_n])
    | (rw [seqQ_e])
    | (rw [seqQ_r])
    | (rw [loopQ_n])
    | (rw [loopQ_e])
    | (rw [loopQ_r])
    | (rw [blkQ_n])
    | (rw [blkQ_r])
    | (rw [blkQ_e])
    | (rw [blkQ_o rfl])
    | (refine end_ret rs14 (by simp only [resV, resAll, resOf, packR, cellsAt, part?, sub?, upd_get, Option.map_some, Nat.reduceEqDiff, reduceIte, if_true, if_false, id]; rfl) ?_)
    | (refine end_normal rs14 (by simp only [resV, resAll, resOf, packR, cellsAt, part?, sub?, upd_get, Option.map_some, Nat.reduceEqDiff, reduceIte, if_true, if_false, id]; rfl) ?_))
    all_goals (simp (config := { maxSteps := 4000000 }) only [fz, nilS, packR, List.take_nil, xw_n, xw_o, xw_g, xop_c, xo_move, xo_assign, xo_pick, xo_alloc, xo_box, xo_build, xo_buildSlice, xo_load, xo_store, xo_nilCheck, xo_binOp, xo_unOp, xo_convert, xo_makeFunc, xo_makeSlice, xo_slice, xo_fieldAddr, xo_field, xo_indexAddr, xo_index, xo_extract, xo_builtin, opEff, ob_some, ev, nw_false, nw_none, cond_true, cond_false, true_and, and_true, ap_n, ap_n0, ap_w, ap_w0, ap_s, ap_s0, ap_a, doAct, killO, cst, putT, upd_get, init_arg, arg_z, arg_s, deadH, Nat.add_zero, Nat.zero_add, Nat.reduceEqDiff, Nat.left_eq_add, Nat.add_eq_left, Nat.add_left_cancel_iff, Nat.reduceAdd, Nat.reduceMul, Nat.reduceSub, Nat.reduceLT, Nat.reduceLeDiff, reduceIte, List.size_toArray, Nat.add_assoc, Int.reduceToNat, Int.reduceBEq, Int.reduceBNe, Int.reduceLT, Int.reduceLE, Int.reduceGT, Int.reduceGE, Int.reduceEq, Int.reduceNe, Int.reduceAdd, Int.reduceSub, Int.reduceMul, Int.reduceNeg, Nat.reduceBEq, decide_true, decide_false, addOff, cellsAt, part?, sub?, builtinE, lenE, indexAddrE, sliceE, bopE, iop, uopE, eqB, eqCells, eqv, kindsOk, kindOk, intOf?, loOf, hiOf, minE, maxE, nilB, nilP, nilS, callOf, cellsOf, scal, sto, fillA, putAt, srcOf, appE, copyE, rep, gsp_tt, gsp_ff, gsp_tf, gsp_ft, gsp_un, Option.map_some, Option.map_none, Option.bind_some, Option.bind_none, List.map_cons, List.map_nil, List.getElem?_cons_zero, List.getElem?_cons_succ, List.drop_zero, List.drop_succ_cons, List.take_succ_cons, List.take_zero, List.length_cons, List.length_nil, List.nil_append, List.cons_append, List.append_nil, List.set_cons_zero, List.set_cons_succ, id, Nat.mul_one, Nat.one_mul, Nat.zero_mul, Nat.mul_zero, ite_true, ite_false, if_true, if_false, Nat.le_refl, Bool.not_true, Bool.not_false, Bool.true_and, Bool.and_true, Bool.false_and, Bool.and_false, Bool.true_or, Bool.or_true, Bool.false_or, Bool.or_false, beq_self_eq_true, addR])

theorem add_r (a b : Int) : SndP K 15 [vi a, vi b] (vi (addR a b)) := by
  have ha := clamp_b a
  have hb := clamp_b b
  have hw : IntKind.wrap .i64 (clamp a + clamp b) = clamp a + clamp b := wrap64 (by omega) (by omega)
  refine SndP.of_awp hC ?_ Try.func15 rfl rfl (by decide +kernel) (Nat.le_of_ble_eq_true rfl) fun n => ?_
  · exact Clean.v _
  · repeat' (first
    | (refine hKK _ ?_; clear hKK KK)
    | (refine awp_assoc ?_)
    | (refine awp_reg fun KK hKK => ?_)
    | (refine awp_reg1 fun KK hKK => ?_)
    | (refine xw_id ?_; simp (config := { maxSteps := 4000000 }) only [xw_n, xw_o, xw_g, xop_c, xo_move, xo_assign, xo_pick, xo_alloc, xo_box, xo_build, xo_buildSlice, xo_load, xo_store, xo_nilCheck, xo_binOp, xo_unOp, xo_convert, xo_makeFunc, xo_makeSlice, xo_slice, xo_fieldAddr, xo_field, xo_indexAddr, xo_index, xo_extract, xo_builtin, opEff, ob_some, ev, nw_false, nw_none, cond_true, cond_false, true_and, and_true, ap_n, ap_n0, ap_w, ap_w0, ap_s, ap_s0, ap_a, doAct, killO, cst, putT, upd_get, init_arg, arg_z, arg_s, deadH, Nat.add_zero, Nat.zero_add, Nat.reduceEqDiff, Nat.left_eq_add, Nat.add_eq_left, Nat.add_left_cancel_iff, Nat.reduceAdd, Nat.reduceMul, Nat.reduceSub, Nat.reduceLT, Nat.reduceLeDiff, reduceIte, List.size_toArray, Nat.add_assoc, Int.reduceToNat, Int.reduceBEq, Int.reduceBNe, Int.reduceLT, Int.reduceLE, Int.reduceGT, Int.reduceGE, Int.reduceEq, Int.reduceNe, Int.reduceAdd, Int.reduceSub, Int.reduceMul, Int.reduceNeg, Nat.reduceBEq, decide_true, decide_false, addOff, cellsAt, part?, sub?, builtinE, lenE, indexAddrE, sliceE, bopE, iop, uopE, eqB, eqCells, eqv, kindsOk, kindOk, intOf?, loOf, hiOf, minE, maxE, nilB, nilP, nilS, callOf, cellsOf, scal, sto, fillA, putAt, srcOf, appE, copyE, rep, gsp_tt, gsp_ff, gsp_tf, gsp_ft, gsp_un, Option.map_some, Option.map_none, Option.bind_some, Option.bind_none, List.map_cons, List.map_nil, List.getElem?_cons_zero, List.getElem?_cons_succ, List.drop_zero, List.drop_succ_cons, List.take_succ_cons, List.take_zero, List.length_cons, List.length_nil, List.nil_append, List.cons_append, List.append_nil, List.set_cons_zero, List.set_cons_succ, id, Nat.mul_one, Nat.one_mul, Nat.zero_mul, Nat.mul_zero, ite_true, ite_false, if_true, if_false, Nat.le_refl, Bool.not_true, Bool.not_false, Bool.true_and, Bool.and_true, Bool.false_and, Bool.and_false, Bool.true_or, Bool.or_true, Bool.false_or, Bool.or_false, beq_self_eq_true, hw])
    | (refine gsp_split (fun h => ?_) (fun h => ?_) <;> simp (config := { maxSteps := 4000000 }) only [xw_n, xw_o, xw_g, xop_c, xo_move, xo_assign, xo_pick, xo_alloc, xo_box, xo_build, xo_buildSlice, xo_load, xo_store, xo_nilCheck, xo_binOp, xo_unOp, xo_convert, xo_makeFunc, xo_makeSlice, xo_slice, xo_fieldAddr, xo_field, xo_indexAddr, xo_index, xo_extract, xo_builtin, opEff, ob_some, ev, nw_false, nw_none, cond_true, cond_false, true_and, and_true, ap_n, ap_n0, ap_w, ap_w0, ap_s, ap_s0, ap_a, doAct, killO, cst, putT, upd_get, init_arg, arg_z, arg_s, deadH, Nat.add_zero, Nat.zero_add, Nat.reduceEqDiff, Nat.left_eq_add, Nat.add_eq_left, Nat.add_left_cancel_iff, Nat.reduceAdd, Nat.reduceMul, Nat.reduceSub, Nat.reduceLT, Nat.reduceLeDiff, reduceIte, List.size_toArray, Nat.add_assoc, Int.reduceToNat, Int.reduceBEq, Int.reduceBNe, Int.reduceLT, Int.reduceLE, Int.reduceGT, Int.reduceGE, Int.reduceEq, Int.reduceNe, Int.reduceAdd, Int.reduceSub, Int.reduceMul, Int.reduceNeg, Nat.reduceBEq, decide_true, decide_false, addOff, cellsAt, part?, sub?, builtinE, lenE, indexAddrE, sliceE, bopE, iop, uopE, eqB, eqCells, eqv, kindsOk, kindOk, intOf?, loOf, hiOf, minE, maxE, nilB, nilP, nilS, callOf, cellsOf, scal, sto, fillA, putAt, srcOf, appE, copyE, rep, gsp_tt, gsp_ff, gsp_tf, gsp_ft, gsp_un, Option.map_some, Option.map_none, Option.bind_some, Option.bind_none, List.map_cons, List.map_nil, List.getElem?_cons_zero, List.getElem?_cons_succ, List.drop_zero, List.drop_succ_cons, List.take_succ_cons, List.take_zero, List.length_cons, List.length_nil, List.nil_append, List.cons_append, List.append_nil, List.set_cons_zero, List.set_cons_succ, id, Nat.mul_one, Nat.one_mul, Nat.zero_mul, Nat.mul_zero, ite_true, ite_false, if_true, if_false, Nat.le_refl, Bool.not_true, Bool.not_false, Bool.true_and, Bool.and_true, Bool.false_and, Bool.and_false, Bool.true_or, Bool.or_true, Bool.false_or, Bool.or_false, beq_self_eq_true, hw, h])
    | (refine xcall_p (within _) ?_; try dsimp only)
    | (refine xcall_n (within _) ?_; try dsimp only)
    | (refine awp_condT ?_ ?_; focus ((simp only [ev, cst, upd_get, Nat.reduceEqDiff, reduceIte, if_true, if_false]); done))
    | (refine awp_condT1 ?_ ?_; focus ((simp only [ev, cst, upd_get, Nat.reduceEqDiff, reduceIte, if_true, if_false]); done))
    | (refine awp_condF ?_ ?_; focus ((simp only [ev, cst, upd_get, Nat.reduceEqDiff, reduceIte, if_true, if_false]); done))
    | (refine awp_condF1 ?_ ?_; focus ((simp only [ev, cst, upd_get, Nat.reduceEqDiff, reduceIte, if_true, if_false]); done))
    | (refine awp_cond (by simp only [ev, cst, upd_get, Nat.reduceEqDiff, reduceIte, if_true, if_false]; rfl) (fun h => ?_) (fun h => ?_))
    | (refine awp_cond1 (by simp only [ev, cst, upd_get, Nat.reduceEqDiff, reduceIte, if_true, if_false]; rfl) (fun h => ?_) (fun h => ?_))
    | (refine awp_skip ?_)
    | (refine awp_ret ?_)
    | (refine awp_ret1 ?_)
    | (refine awp_exit ?_)
    | (refine awp_exit1 ?_)
    | (refine awp_block ?_)
    | (refine awp_block1 ?_)
    | (rw [seqQ_n])
    | (rw [seqQ_e])
    | (rw [seqQ_r])
    | (rw [loopQ_n])
    | (rw [loopQ_e])
    | (rw [loopQ_r])
    | (rw [blkQ_n])
    | (rw [blkQ_r])
    | (rw [blkQ_e])
    | (rw [blkQ_o rfl])
    | (refine end_ret rs15 (by simp only [resV, resAll, resOf, packR, cellsAt, part?, sub?, upd_get, Option.map_some, Nat.reduceEqDiff, reduceIte, if_true, if_false, id]; rfl) ?_)
    | (refine end_normal rs15 (by simp only [resV, resAll, resOf, packR, cellsAt, part?, sub?, upd_get, Option.map_some, Nat.reduceEqDiff, reduceIte, if_true, if_false, id]; rfl) ?_))
    all_goals (simp (config := { maxSteps := 4000000 }) only [fz, nilS, packR, List.take_nil, xw_n, xw_o, xw_g, xop_c, xo_move, xo_assign, xo_pick, xo_alloc, xo_box, xo_build, xo_buildSlice, xo_load, xo_store, xo_nilCheck, xo_binOp, xo_unOp, xo_convert, xo_makeFunc, xo_makeSlice, xo_slice, xo_fieldAddr, xo_field, xo_indexAddr, xo_index, xo_extract, xo_builtin, opEff, ob_some, ev, nw_false, nw_none, cond_true, cond_false, true_and, and_true, ap_n, ap_n0, ap_w, ap_w0, ap_s, ap_s0, ap_a, doAct, killO, cst, putT, upd_get, init_arg, arg_z, arg_s, deadH, Nat.add_zero, Nat.zero_add, Nat.reduceEqDiff, Nat.left_eq_add, Nat.add_eq_left, Nat.add_left_cancel_iff, Nat.reduceAdd, Nat.reduceMul, Nat.reduceSub, Nat.reduceLT, Nat.reduceLeDiff, reduceIte, List.size_toArray, Nat.add_assoc, Int.reduceToNat, Int.reduceBEq, Int.reduceBNe, Int.reduceLT, Int.reduceLE, Int.reduceGT, Int.reduceGE, Int.reduceEq, Int.reduceNe, Int.reduceAdd, Int.reduceSub, Int.reduceMul, Int.reduceNeg, Nat.reduceBEq, decide_true, decide_false, addOff, cellsAt, part?, sub?, builtinE, lenE, indexAddrE, sliceE, bopE, iop, uopE, eqB, eqCells, eqv, kindsOk, kindOk, intOf?, loOf, hiOf, minE, maxE, nilB, nilP, nilS, callOf, cellsOf, scal, sto, fillA, putAt, srcOf, appE, copyE, rep, gsp_tt, gsp_ff, gsp_tf, gsp_ft, gsp_un, Option.map_some, Option.map_none, Option.bind_some, Option.bind_none, List.map_cons, List.map_nil, List.getElem?_cons_zero, List.getElem?_cons_succ, List.drop_zero, List.drop_succ_cons, List.take_succ_cons, List.take_zero, List.length_cons, List.length_nil, List.nil_append, List.cons_append, List.append_nil, List.set_cons_zero, List.set_cons_succ, id, Nat.mul_one, Nat.one_mul, Nat.zero_mul, Nat.mul_zero, ite_true, ite_false, if_true, if_false, Nat.le_refl, Bool.not_true, Bool.not_false, Bool.true_and, Bool.and_true, Bool.false_and, Bool.and_false, Bool.true_or, Bool.or_true, Bool.false_or, Bool.or_false, beq_self_eq_true, addR])

end Go.AX.ME
