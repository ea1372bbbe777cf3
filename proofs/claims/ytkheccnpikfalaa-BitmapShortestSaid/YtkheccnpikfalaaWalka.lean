/- A part of the proof: walks through the functions that the statement reaches. -/
import Derived.Test.YtkheccnpikfalaaPrea
set_option linter.unusedVariables false
set_option linter.unusedSimpArgs false

/-! (TEW bitmap Check) -/

set_option linter.unusedSimpArgs false
set_option linter.unusedVariables false
set_option maxHeartbeats 4000000
namespace Go.AX.Z.TE
open Go.AX Go.Proofs
attribute [local irreducible] awp xw xop xcall gsp ob xd xdop xcallD seqQ loopQ blkQ endQ

def bitmap_Check_S0 (d1 : Unit) : AS :=
 { objs := (fun _ => .dead), next := 0, tmps := (fun _ => .unk) }

def bitmap_Check_S1 (a0 : Traffic) (d3 : (Int × Int)) : AS :=
 { objs := (fun _ => .dead), next := 0, tmps := (upd (upd (upd (upd (fun _ => .unk) 3 (vi d3.1)) 7 (.imm (List.map vi a0.Aids) a0.Aids.length)) 8 (vi (a0.Aids.length : Int))) 9 (vi d3.2)) }

theorem bitmap_Check_p (a0 : Traffic) {r : Int} (h0 : bitmap_Check a0 = some r) : SndP K 18 [(.agg (E_Traffic a0))] (vi r) := by
 refine SndP.of_walkW hC (Clean.v _) (clean_cons (Clean.agg (E_Traffic_clean _)) clean_nil) (show K.P.funcs[18]? = some Try.f18 from Try.func18) rfl rfl (by decide +kernel) (Nat.le_of_ble_eq_true rfl) ?_
 unfold bitmap_Check at h0
 refine awp_nr [0] (fun _ => rfl) fun tz => ?_
 refine awp_regW fun KK hKK => ?_
 refine xw_id ?_
 try simp only [go_sem, ↓iop_and, ↓iop_or, ↓iop_xor, ↓iop_andn, Nat.reduceEqDiff, reduceIte, Nat.reduceAdd, Nat.reduceMul, Nat.reduceSub, Nat.reduceLT, Nat.reduceLeDiff]
 refine hKK _ _ (Wk.refl _ _ _) ?_; clear hKK KK
 refine awp_nr [1] (fun _ => rfl) fun tz => ?_
 refine awp_regW fun KK hKK => ?_
 refine xw_id ?_
 try simp only [go_sem, ↓iop_and, ↓iop_or, ↓iop_xor, ↓iop_andn, Nat.reduceEqDiff, reduceIte, Nat.reduceAdd, Nat.reduceMul, Nat.reduceSub, Nat.reduceLT, Nat.reduceLeDiff]
 refine hKK _ _ (Wk.refl _ _ _) ?_; clear hKK KK
 refine awp_assoc ?_
 refine awp_nr [1,3] (fun _ => rfl) fun tz => ?_
 refine awp_regW fun KK hKK => ?_
 refine xw_id ?_
 try simp only [go_sem, ↓iop_and, ↓iop_or, ↓iop_xor, ↓iop_andn, Nat.reduceEqDiff, reduceIte, Nat.reduceAdd, Nat.reduceMul, Nat.reduceSub, Nat.reduceLT, Nat.reduceLeDiff, Int.reduceToNat, Int.reduceBEq, Int.reduceBNe, Int.reduceLT, Int.reduceLE, Int.reduceAdd, Int.reduceSub, Int.reduceMul, Int.reduceNeg, Int.reduceEq, Int.reduceNe]
 refine hKK _ _ (Wk.refl _ _ _) ?_; clear hKK KK
 obtain ⟨o2, hi1, h0⟩ := bnd h0
 refine awp_cut (fun d1 : Unit => o2 = Ex.go d1) (fun d1 : Unit => bitmap_Check_S0 d1) ?_ ?_
 ·
  refine awp_block1 ?_
  refine awp_loopS (fun n (d3 : (Int × Int)) => bitmap_Check_L2 a0 n d3 = some o2) (fun d3 : (Int × Int) => bitmap_Check_S1 a0 d3) big (0, 0) (Wk.canonD [] [] [] rfl trivial rfl tmO0 (tmAllU 9 (tmAllU 8 (tmAllU 7 (tmAllU 3 tmAll0 (Tm.v _)) (Tm.clean (Clean.imm (vi_clean _)))) (Tm.v _)) (Tm.v _))) hi1 ?_
  clear hi1
  rintro n d3 hl3
  rcases n with _ | n2
  ·
   (rw [bitmap_Check_L2] at hl3; cases hl3)
  ·
   rw [bitmap_Check_L2] at hl3
   unfold bitmap_Check_S1
   refine awp_nr [3,7,8,9] (fun _ => rfl) fun tz => ?_
   refine awp_regW fun KK hKK => ?_
   refine xw_id ?_
   try simp only [go_sem, ↓iop_and, ↓iop_or, ↓iop_xor, ↓iop_andn, Nat.reduceEqDiff, reduceIte, Nat.reduceAdd, Nat.reduceMul, Nat.reduceSub, Nat.reduceLT, Nat.reduceLeDiff]
   refine hKK _ _ (Wk.refl _ _ _) ?_; clear hKK KK
   refine awp_cond (b := (decide (d3.2 < (a0.Aids.length : Int)))) rfl (fun h4 => ?_) (fun h4 => ?_)
   ·
    have hl3 := cT hl3 h4
    refine awp_skip ?_
    refine awp_blockW ?_
    refine awp_nr [3,7,8,9] (fun _ => rfl) fun tz => ?_
    refine awp_regW fun KK hKK => ?_
    refine xw_id ?_
    obtain ⟨x4, bx4, hl3⟩ := bnd hl3
    obtain ⟨fx4_0, fx4_1, fx4_2, fx4_3⟩ := idx_some bx4
    try simp only [go_sem, ↓iop_and, ↓iop_or, ↓iop_xor, ↓iop_andn, Nat.reduceEqDiff, reduceIte, Nat.reduceAdd, Nat.reduceMul, Nat.reduceSub, Nat.reduceLT, Nat.reduceLeDiff, fx4_0, fx4_1, fx4_2]
    refine hKK _ _ (Wk.refl _ _ _) ?_; clear hKK KK
    refine awp_assoc ?_
    refine awp_nr [3,5,7,8,9] (fun _ => rfl) fun tz => ?_
    refine awp_regW fun KK hKK => ?_
    refine xw_id ?_
    refine xw_stop 4 (by (try simp only [go_sem]); rfl) (by (try simp only [go_sem]); rfl) (by rfl) fun K1 hK1 => ?_
    refine xw_id ?_
    try simp only [go_sem, ↓iop_and, ↓iop_or, ↓iop_xor, ↓iop_andn, Nat.reduceEqDiff, reduceIte, Nat.reduceAdd, Nat.reduceMul, Nat.reduceSub, Nat.reduceLT, Nat.reduceLeDiff, fx4_0, fx4_1, fx4_2]
    refine hK1 _ ?_; clear hK1 K1
    refine xw_cut 3 [(5, (vi x4)), (7, (.imm (List.map vi a0.Aids) a0.Aids.length)), (8, (vi (a0.Aids.length : Int))), (9, (vi d3.2)), (19, (vb ((decide (x4 ≤ d3.1)) || (decide (255 < x4)))))] (by (try simp only [go_sem]); rfl) (by (try simp only [go_sem]); rfl) (by rfl) (fun K1 hK1 => ?_) fun tz => ?_
    ·
     refine xw_id ?_
     rcases Bool.eq_false_or_eq_true (decide (x4 ≤ d3.1)) with h5 | h5
     ·
      try simp only [go_sem, ↓iop_and, ↓iop_or, ↓iop_xor, ↓iop_andn, Nat.reduceEqDiff, reduceIte, Nat.reduceAdd, Nat.reduceMul, Nat.reduceSub, Nat.reduceLT, Nat.reduceLeDiff, fx4_0, fx4_1, fx4_2, h5]
      exact hK1 _ ⟨rfl, rfl, rfl, rfl, rfl, (by first | rfl | (rw [h5]; rfl) | (simp only [h5, Bool.true_and, Bool.false_and, Bool.true_or, Bool.false_or, cond_true, cond_false]; done)), trivial⟩
     ·
      try simp only [go_sem, ↓iop_and, ↓iop_or, ↓iop_xor, ↓iop_andn, Nat.reduceEqDiff, reduceIte, Nat.reduceAdd, Nat.reduceMul, Nat.reduceSub, Nat.reduceLT, Nat.reduceLeDiff, fx4_0, fx4_1, fx4_2, h5]
      exact hK1 _ ⟨rfl, rfl, rfl, rfl, rfl, (by first | rfl | (rw [h5]; rfl) | (simp only [h5, Bool.true_and, Bool.false_and, Bool.true_or, Bool.false_or, cond_true, cond_false]; done)), trivial⟩
    ·
     refine xw_id ?_
     try simp only [go_sem, ↓iop_and, ↓iop_or, ↓iop_xor, ↓iop_andn, Nat.reduceEqDiff, reduceIte, Nat.reduceAdd, Nat.reduceMul, Nat.reduceSub, Nat.reduceLT, Nat.reduceLeDiff, fx4_0, fx4_1, fx4_2]
     refine hKK _ _ (Wk.refl _ _ _) ?_; clear hKK KK
     refine awp_cond (b := ((decide (x4 ≤ d3.1)) || (decide (255 < x4)))) rfl (fun h6 => ?_) (fun h6 => ?_)
     ·
      have hl3 := cT hl3 h6
      refine awp_assoc ?_
      refine awp_nr [] (fun _ => rfl) fun tz => ?_
      refine awp_regW fun KK hKK => ?_
      refine xw_id ?_
      try simp only [go_sem, ↓iop_and, ↓iop_or, ↓iop_xor, ↓iop_andn, Nat.reduceEqDiff, reduceIte, Nat.reduceAdd, Nat.reduceMul, Nat.reduceSub, Nat.reduceLT, Nat.reduceLeDiff, fx4_0, fx4_1, fx4_2]
      refine hKK _ _ (Wk.refl _ _ _) ?_; clear hKK KK
      refine awp_ret ?_
      refine bq_r ?_
      refine sq_r ?_
      refine lq_r ?_
      refine bq_r ?_
      refine sq_r ?_
      obtain rfl := someInj hl3
      obtain rfl := Ex.k_ret h0
      refine endW_i ?_
      refine end_ret0 rs18 (rfl) ?_
      try simp only [go_sem, ↓iop_and, ↓iop_or, ↓iop_xor, ↓iop_andn, Nat.reduceEqDiff, reduceIte, Nat.reduceAdd, Nat.reduceMul, Nat.reduceSub, Nat.reduceLT, Nat.reduceLeDiff, fz, nilS, packR, List.take_nil, List.take_length, List.length_map, List.length_append, cond_true, cond_false, Nat.ble_eq, ble_self, List.map_append]
      all_goals rfl
     ·
      have hl3 := cF hl3 h6
      refine awp_skip ?_
      refine awp_nr1 [5,7,8,9] (fun _ => rfl) fun tz => ?_
      refine awp_reg1 fun KK hKK => ?_
      refine xw_id ?_
      try simp only [go_sem, ↓iop_and, ↓iop_or, ↓iop_xor, ↓iop_andn, Nat.reduceEqDiff, reduceIte, Nat.reduceAdd, Nat.reduceMul, Nat.reduceSub, Nat.reduceLT, Nat.reduceLeDiff, fx4_0, fx4_1, fx4_2]
      refine hKK _ ?_; clear hKK KK
      refine bq_n ?_
      refine seqW_i ?_
      refine awp_nr1 [3,7,8,9] (fun _ => rfl) fun tz => ?_
      refine awp_reg1 fun KK hKK => ?_
      refine xw_id ?_
      try simp only [go_sem, ↓iop_and, ↓iop_or, ↓iop_xor, ↓iop_andn, Nat.reduceEqDiff, reduceIte, Nat.reduceAdd, Nat.reduceMul, Nat.reduceSub, Nat.reduceLT, Nat.reduceLeDiff, fx4_0, fx4_1, fx4_2]
      refine hKK _ ?_; clear hKK KK
      refine lq_n ?_
      exact ⟨n2, (x4, IntKind.wrap .i64 (d3.2 + 1)), rfl, hl3, (Wk.canonD [] [] [] rfl trivial rfl tmO0 (tmAllU 9 (tmAllU 8 (tmAllU 7 (tmAllU 3 tmAll0 (Tm.v _)) (Tm.clean (Clean.imm (vi_clean _)))) (Tm.v _)) (Tm.v _)))⟩
   ·
    have hl3 := cF hl3 h4
    refine awp_exit ?_
    refine lq_e ?_
    refine bq_e ?_
    refine sq_n ?_
    obtain rfl := someInj hl3
    exact ⟨_, rfl, (Wk.canonD [] [] [] rfl trivial rfl tmO0 tmAll0)⟩
 ·
  rintro d1 rfl
  have h0 := Ex.k_go h0
  clear hi1
  unfold bitmap_Check_S0
  refine awp_nr [] (fun _ => rfl) fun tz => ?_
  refine awp_regW fun KK hKK => ?_
  refine xw_id ?_
  try simp only [go_sem, ↓iop_and, ↓iop_or, ↓iop_xor, ↓iop_andn, Nat.reduceEqDiff, reduceIte, Nat.reduceAdd, Nat.reduceMul, Nat.reduceSub, Nat.reduceLT, Nat.reduceLeDiff]
  refine hKK _ _ (Wk.refl _ _ _) ?_; clear hKK KK
  refine awp_ret1 ?_
  obtain rfl := someInj h0
  refine endW_i ?_
  refine end_ret0 rs18 (rfl) ?_
  try simp only [go_sem, ↓iop_and, ↓iop_or, ↓iop_xor, ↓iop_andn, Nat.reduceEqDiff, reduceIte, Nat.reduceAdd, Nat.reduceMul, Nat.reduceSub, Nat.reduceLT, Nat.reduceLeDiff, fz, nilS, packR, List.take_nil, List.take_length, List.length_map, List.length_append, cond_true, cond_false, Nat.ble_eq, ble_self, List.map_append]
  all_goals rfl

end Go.AX.Z.TE

/-! (TEW bitmap encoders) -/

set_option linter.unusedSimpArgs false
set_option linter.unusedVariables false
set_option maxHeartbeats 4000000
namespace Go.AX.Z.TE
open Go.AX Go.Proofs
attribute [local irreducible] awp xw xop xcall gsp ob xd xdop xcallD seqQ loopQ blkQ endQ


theorem bitmap_encoders_p {r : Unit} (h0 : bitmap_encoders = some r) : SndP K 28 [] (.agg [(.clo 44 [] []), (.clo 45 [] []), (.clo 46 [] []), (.clo 47 [] [])]) := by
 refine SndP.of_walkW hC (Clean.agg (clean_cons (Clean.clo clean_nil clean_nil) (clean_cons (Clean.clo clean_nil clean_nil) (clean_cons (Clean.clo clean_nil clean_nil) (clean_cons (Clean.clo clean_nil clean_nil) clean_nil))))) clean_nil (show K.P.funcs[28]? = some Try.f28 from Try.func28) rfl rfl (by decide +kernel) (Nat.le_of_ble_eq_true rfl) ?_
 unfold bitmap_encoders at h0
 refine awp_nr [] (fun _ => rfl) fun tz => ?_
 refine awp_regW fun KK hKK => ?_
 refine xw_id ?_
 try simp only [go_sem, ↓iop_and, ↓iop_or, ↓iop_xor, ↓iop_andn, Nat.reduceEqDiff, reduceIte, Nat.reduceAdd, Nat.reduceMul, Nat.reduceSub, Nat.reduceLT, Nat.reduceLeDiff]
 refine hKK _ _ (Wk.refl _ _ _) ?_; clear hKK KK
 refine awp_nr [0] (fun _ => rfl) fun tz => ?_
 refine awp_regW fun KK hKK => ?_
 refine xw_id ?_
 try simp only [go_sem, ↓iop_and, ↓iop_or, ↓iop_xor, ↓iop_andn, Nat.reduceEqDiff, reduceIte, Nat.reduceAdd, Nat.reduceMul, Nat.reduceSub, Nat.reduceLT, Nat.reduceLeDiff]
 refine hKK _ _ (Wk.refl _ _ _) ?_; clear hKK KK
 refine awp_ret1 ?_
 obtain rfl := someInj h0
 refine endW_i ?_
 refine end_ret0 rs28 (by simp only [go_sem, resV, resAll, resOf, packR, ↓iop_and, ↓iop_or, ↓iop_xor, ↓iop_andn, Nat.reduceEqDiff, reduceIte, Nat.reduceAdd, Nat.reduceMul, Nat.reduceSub, Nat.reduceLT, Nat.reduceLeDiff]; rfl) ?_
 try simp only [go_sem, ↓iop_and, ↓iop_or, ↓iop_xor, ↓iop_andn, Nat.reduceEqDiff, reduceIte, Nat.reduceAdd, Nat.reduceMul, Nat.reduceSub, Nat.reduceLT, Nat.reduceLeDiff, fz, nilS, packR, List.take_nil, List.take_length, List.length_map, List.length_append, cond_true, cond_false, Nat.ble_eq, ble_self, List.map_append]
 all_goals rfl

end Go.AX.Z.TE

/-! (TEW bitmap bytes) -/

set_option linter.unusedSimpArgs false
set_option linter.unusedVariables false
set_option maxHeartbeats 4000000
namespace Go.AX.Z.TE
open Go.AX Go.Proofs
attribute [local irreducible] awp xw xop xcall gsp ob xd xdop xcallD seqQ loopQ blkQ endQ

def bitmap_bytes_S0 (d9 : (List Int)) : AS :=
 { objs := (upd (fun _ => .dead) 0 (.live (List.map vu d9))), next := 1, tmps := (upd (fun _ => .unk) 2 (.ptr 0 0)) }

def bitmap_bytes_S1 (a0 : (List Int)) (d10 : (List Int × Int)) : AS :=
 { objs := (upd (fun _ => .dead) 0 (.live (List.map vu d10.1))), next := 1, tmps := (upd (upd (upd (upd (fun _ => .unk) 2 (.ptr 0 0)) 5 (.imm (List.map vi a0) a0.length)) 6 (vi (a0.length : Int))) 7 (vi d10.2)) }

theorem bitmap_bytes_p (a0 : (List Int)) {r : (List Int)} (h0 : bitmap_bytes a0 = some r) : SndP K 55 [(S_vi a0)] (.agg (List.map vu r)) := by
 refine SndP.of_walkW hC (Clean.agg (vu_clean _)) (clean_cons (S_vi_clean _) clean_nil) (show K.P.funcs[55]? = some Try.f55 from Try.func55) rfl rfl (by decide +kernel) (Nat.le_of_ble_eq_true rfl) ?_
 unfold bitmap_bytes at h0
 refine awp_nr [0] (fun _ => rfl) fun tz => ?_
 refine awp_regW fun KK hKK => ?_
 refine xw_id ?_
 try simp only [go_sem, ↓iop_and, ↓iop_or, ↓iop_xor, ↓iop_andn, Nat.reduceEqDiff, reduceIte, Nat.reduceAdd, Nat.reduceMul, Nat.reduceSub, Nat.reduceLT, Nat.reduceLeDiff]
 refine hKK _ _ (Wk.refl _ _ _) ?_; clear hKK KK
 refine awp_assoc ?_
 refine awp_nr [0,2] (fun _ => rfl) fun tz => ?_
 refine awp_regW fun KK hKK => ?_
 refine xw_id ?_
 try simp only [go_sem, ↓iop_and, ↓iop_or, ↓iop_xor, ↓iop_andn, Nat.reduceEqDiff, reduceIte, Nat.reduceAdd, Nat.reduceMul, Nat.reduceSub, Nat.reduceLT, Nat.reduceLeDiff, Int.reduceToNat, Int.reduceBEq, Int.reduceBNe, Int.reduceLT, Int.reduceLE, Int.reduceAdd, Int.reduceSub, Int.reduceMul, Int.reduceNeg, Int.reduceEq, Int.reduceNe]
 refine hKK _ _ (Wk.refl _ _ _) ?_; clear hKK KK
 obtain ⟨d9, hi1, h0⟩ := bnd h0
 refine awp_cut (fun z => d9 = z) (fun d9 : (List Int) => bitmap_bytes_S0 d9) ?_ ?_
 ·
  refine awp_block1 ?_
  refine awp_loopS (fun n (d10 : (List Int × Int)) => bitmap_bytes_L2 a0 n d10 = some d9) (fun d10 : (List Int × Int) => bitmap_bytes_S1 a0 d10) big ((List.replicate 32 0), 0) (Wk.canonD [] [] [some 0] rfl trivial rfl (tmOU 0 tmO0 rfl List.not_mem_nil (by simp only [upd_get, ↓iop_and, ↓iop_or, ↓iop_xor, ↓iop_andn, Nat.reduceEqDiff, reduceIte, Nat.reduceAdd, Nat.reduceMul, Nat.reduceSub, Nat.reduceLT, Nat.reduceLeDiff, if_true, if_false] <;> rfl) (TmL.of_eq (by first | rfl | (simp only [List.flatMap_append, List.flatMap_cons, List.flatMap_nil, List.map_append, List.map_cons, List.map_nil, List.append_nil, List.nil_append]; done) | (simp only [List.flatMap_append, List.flatMap_cons, List.flatMap_nil, List.map_append, List.map_cons, List.map_nil, List.append_nil, List.nil_append]; rfl)) (vu_clean _))) (tmAllU 7 (tmAllU 6 (tmAllU 5 (tmAllU 2 tmAll0 (Tm.ptr rfl)) (Tm.clean (Clean.imm (vi_clean _)))) (Tm.v _)) (Tm.v _))) hi1 ?_
  clear hi1
  rintro n d10 hl3
  rcases n with _ | n2
  ·
   (rw [bitmap_bytes_L2] at hl3; cases hl3)
  ·
   rw [bitmap_bytes_L2] at hl3
   unfold bitmap_bytes_S1
   refine awp_nr [2,5,6,7] (fun _ => rfl) fun tz => ?_
   refine awp_regW fun KK hKK => ?_
   refine xw_id ?_
   try simp only [go_sem, ↓iop_and, ↓iop_or, ↓iop_xor, ↓iop_andn, Nat.reduceEqDiff, reduceIte, Nat.reduceAdd, Nat.reduceMul, Nat.reduceSub, Nat.reduceLT, Nat.reduceLeDiff]
   refine hKK _ _ (Wk.refl _ _ _) ?_; clear hKK KK
   refine awp_cond (b := (decide (d10.2 < (a0.length : Int)))) rfl (fun h4 => ?_) (fun h4 => ?_)
   ·
    have hl3 := cT hl3 h4
    refine awp_skip ?_
    refine awp_blockW ?_
    refine awp_nr [2,5,6,7] (fun _ => rfl) fun tz => ?_
    refine awp_regW fun KK hKK => ?_
    refine xw_id ?_
    obtain ⟨x11, bx11, hl3⟩ := bnd hl3
    obtain ⟨fx11_0, fx11_1, fx11_2, fx11_3⟩ := idx_some bx11
    try simp only [go_sem, ↓iop_and, ↓iop_or, ↓iop_xor, ↓iop_andn, Nat.reduceEqDiff, reduceIte, Nat.reduceAdd, Nat.reduceMul, Nat.reduceSub, Nat.reduceLT, Nat.reduceLeDiff, fx11_0, fx11_1, fx11_2]
    refine hKK _ _ (Wk.refl _ _ _) ?_; clear hKK KK
    refine awp_nr1 [2,4,5,6,7] (fun _ => rfl) fun tz => ?_
    refine awp_regD1 fun KK hKK all hall => ?_
    refine xd_id ?_
    try simp only [List.toList_toArray, List.map_cons, List.map_nil, List.size_toArray, List.length_cons, List.length_nil, Nat.zero_add]
    try simp only [Nat.reduceAdd]
    obtain ⟨x12, bx12, hl3⟩ := bnd hl3
    obtain ⟨fx12_0, fx12_1, fx12_2, fx12_3⟩ := idxA_some bx12
    obtain ⟨x13, bx13, hl3⟩ := bnd hl3
    have bx13 := chk_some bx13
    simp only [Bool.and_eq_true, decide_eq_true_eq] at bx13
    have gx13_0 := bx13
    have gs5 : (((x11).fdiv (2 ^ (min 3 64))).toNat + 1 ≤ d10.1.length) = True := eq_true (by (try simp only [List.length_modify, List.length_set]); omega)
    have gm6 : (d10.1.set (((x11).fdiv (2 ^ (min 3 64))).toNat) (bor .u8 x12 (IntKind.wrap .u8 (1 * 2 ^ (min ((band .i64 x11 7)).toNat 8)))))[((x11).fdiv (2 ^ (min 3 64))).toNat]? = some (bor .u8 x12 (IntKind.wrap .u8 (1 * 2 ^ (min ((band .i64 x11 7)).toNat 8)))) := getSet _ fx12_2
    simp only [go_sem, ↓iop_and, ↓iop_or, ↓iop_xor, ↓iop_andn, Nat.reduceEqDiff, reduceIte, Nat.reduceMul, Nat.reduceSub, Nat.reduceLT, Nat.reduceLeDiff, Int.reduceToNat, Int.reduceBEq, Int.reduceBNe, Int.reduceLT, Int.reduceLE, Int.reduceAdd, Int.reduceSub, Int.reduceMul, Int.reduceNeg, Int.reduceEq, Int.reduceNe, fx11_0, fx11_1, fx11_2, fx12_0, fx12_1, fx12_2, gx13_0, gs5, gm6]
    try simp only [Nat.reduceAdd]
    try simp only [go_sem, ↓iop_and, ↓iop_or, ↓iop_xor, ↓iop_andn, Nat.reduceEqDiff, reduceIte, Nat.reduceMul, Nat.reduceSub, Nat.reduceLT, Nat.reduceLeDiff, Int.reduceToNat, Int.reduceBEq, Int.reduceBNe, Int.reduceLT, Int.reduceLE, Int.reduceAdd, Int.reduceSub, Int.reduceMul, Int.reduceNeg, Int.reduceEq, Int.reduceNe, fx11_0, fx11_1, fx11_2, fx12_0, fx12_1, fx12_2, gx13_0, gs5, gm6]
    try simp only [Nat.reduceAdd]
    try simp only [go_sem, ↓iop_and, ↓iop_or, ↓iop_xor, ↓iop_andn, Nat.reduceEqDiff, reduceIte, Nat.reduceMul, Nat.reduceSub, Nat.reduceLT, Nat.reduceLeDiff, Int.reduceToNat, Int.reduceBEq, Int.reduceBNe, Int.reduceLT, Int.reduceLE, Int.reduceAdd, Int.reduceSub, Int.reduceMul, Int.reduceNeg, Int.reduceEq, Int.reduceNe, fx11_0, fx11_1, fx11_2, fx12_0, fx12_1, fx12_2, gx13_0, gs5, gm6]
    refine And.intro ?_ (hKK _ ?_)
    ·
     subst hall
     clear hKK KK
     first | (simp [printsOk, apartP, clash, meet]; done) | (simp [printsOk, apartP, clash, meet]; decide +kernel) | decide +kernel
    ·
     clear hKK KK hall all
     refine bq_n ?_
     refine seqW_i ?_
     refine awp_nr1 [2,5,6,7] (fun _ => rfl) fun tz => ?_
     refine awp_reg1 fun KK hKK => ?_
     refine xw_id ?_
     try simp only [go_sem, ↓iop_and, ↓iop_or, ↓iop_xor, ↓iop_andn, Nat.reduceEqDiff, reduceIte, Nat.reduceAdd, Nat.reduceMul, Nat.reduceSub, Nat.reduceLT, Nat.reduceLeDiff, fx11_0, fx11_1, fx11_2, fx12_0, fx12_1, fx12_2, gm6]
     refine hKK _ ?_; clear hKK KK
     refine lq_n ?_
     exact ⟨n2, ((d10.1.set (((x11).fdiv (2 ^ (min 3 64))).toNat) (bor .u8 x12 (IntKind.wrap .u8 (1 * 2 ^ (min ((band .i64 x11 7)).toNat 8))))), IntKind.wrap .i64 (d10.2 + 1)), rfl, hl3, (Wk.canonD [] [] [some 0] rfl trivial rfl (tmOU 0 tmO0 rfl List.not_mem_nil (by simp only [upd_get, ↓iop_and, ↓iop_or, ↓iop_xor, ↓iop_andn, Nat.reduceEqDiff, reduceIte, Nat.reduceAdd, Nat.reduceMul, Nat.reduceSub, Nat.reduceLT, Nat.reduceLeDiff, if_true, if_false] <;> rfl) (TmL.of_eq (by first | rfl | (simp only [List.flatMap_append, List.flatMap_cons, List.flatMap_nil, List.map_append, List.map_cons, List.map_nil, List.append_nil, List.nil_append]; done) | (simp only [List.flatMap_append, List.flatMap_cons, List.flatMap_nil, List.map_append, List.map_cons, List.map_nil, List.append_nil, List.nil_append]; rfl)) (vu_clean _))) (tmAllU 7 (tmAllU 6 (tmAllU 5 (tmAllU 2 tmAll0 (Tm.ptr rfl)) (Tm.clean (Clean.imm (vi_clean _)))) (Tm.v _)) (Tm.v _)))⟩
   ·
    have hl3 := cF hl3 h4
    refine awp_exit ?_
    refine lq_e ?_
    refine bq_e ?_
    refine sq_n ?_
    obtain rfl := someInj hl3
    exact ⟨_, rfl, (Wk.canonD [] [] [some 0] rfl trivial rfl (tmOU 0 tmO0 rfl List.not_mem_nil (by simp only [upd_get, ↓iop_and, ↓iop_or, ↓iop_xor, ↓iop_andn, Nat.reduceEqDiff, reduceIte, Nat.reduceAdd, Nat.reduceMul, Nat.reduceSub, Nat.reduceLT, Nat.reduceLeDiff, if_true, if_false] <;> rfl) (TmL.of_eq (by first | rfl | (simp only [List.flatMap_append, List.flatMap_cons, List.flatMap_nil, List.map_append, List.map_cons, List.map_nil, List.append_nil, List.nil_append]; done) | (simp only [List.flatMap_append, List.flatMap_cons, List.flatMap_nil, List.map_append, List.map_cons, List.map_nil, List.append_nil, List.nil_append]; rfl)) (vu_clean _))) (tmAllU 2 tmAll0 (Tm.ptr rfl)))⟩
 ·
  rintro _ rfl
  clear hi1
  unfold bitmap_bytes_S0
  refine awp_nr [2] (fun _ => rfl) fun tz => ?_
  refine awp_regW fun KK hKK => ?_
  refine xw_id ?_
  obtain ⟨x14, bx14, h0⟩ := bnd h0
  have bx14 := chk_some bx14
  simp only [Bool.and_eq_true, decide_eq_true_eq] at bx14
  have gx14_0 := bx14
  have ga7 : sub? (List.map vu d9) 0 32 = some (List.map vu d9) := by unfold sub?; rw [if_pos (by rw [List.length_map]; omega), List.drop_zero, List.take_of_length_le (by rw [List.length_map]; omega)]
  obtain ⟨x15, bx15, h0⟩ := bnd h0
  have bx15 := chk_some bx15
  simp only [Bool.and_eq_true, decide_eq_true_eq] at bx15
  have gx15_0 := bx15
  have gs8 : putAt (List.map vu d9) 0 (List.map vu d9) = (List.map vu d9) := putAt_allL (by first | rfl | (simp only [List.length_map, List.length_replicate, zarr_len]; omega))
  have gs8l : (32 ≤ d9.length) = True := eq_true (by omega)
  try simp only [go_sem, ↓iop_and, ↓iop_or, ↓iop_xor, ↓iop_andn, Nat.reduceEqDiff, reduceIte, Nat.reduceAdd, Nat.reduceMul, Nat.reduceSub, Nat.reduceLT, Nat.reduceLeDiff, gx14_0, ga7, gx15_0, gs8, gs8l, List.length_replicate, zarr_len]
  refine hKK _ _ (Wk.refl _ _ _) ?_; clear hKK KK
  refine awp_ret1 ?_
  have ga9 : sub? (List.map vu d9) 0 32 = some (List.map vu d9) := by unfold sub?; rw [if_pos (by rw [List.length_map]; omega), List.drop_zero, List.take_of_length_le (by rw [List.length_map]; omega)]
  obtain rfl := someInj h0
  refine endW_i ?_
  refine end_ret0 rs55 (by simp only [go_sem, resV, resAll, resOf, packR, ↓iop_and, ↓iop_or, ↓iop_xor, ↓iop_andn, Nat.reduceEqDiff, reduceIte, Nat.reduceAdd, Nat.reduceMul, Nat.reduceSub, Nat.reduceLT, Nat.reduceLeDiff, ga9]; rfl) ?_
  try simp only [go_sem, ↓iop_and, ↓iop_or, ↓iop_xor, ↓iop_andn, Nat.reduceEqDiff, reduceIte, Nat.reduceAdd, Nat.reduceMul, Nat.reduceSub, Nat.reduceLT, Nat.reduceLeDiff, fz, nilS, packR, List.take_nil, List.take_length, List.length_map, List.length_append, cond_true, cond_false, Nat.ble_eq, ble_self, List.map_append]
  all_goals rfl

end Go.AX.Z.TE

/-! (TEW bitmap full) -/

set_option linter.unusedSimpArgs false
set_option linter.unusedVariables false
set_option maxHeartbeats 4000000
namespace Go.AX.Z.TE
open Go.AX Go.Proofs
attribute [local irreducible] awp xw xop xcall gsp ob xd xdop xcallD seqQ loopQ blkQ endQ


theorem bitmap_full_r (a0 : (List Int)) {r : (List Int)} (h0 : bitmap_full a0 = some r) : SndR K 44 [(S_vi a0)] (fun q => (.ref (q 0) 0 r.length 1)) [(List.map vu r)] := by
 refine SndR.of_walkW hC (show K.P.funcs[44]? = some Try.f44 from Try.func44) rfl rfl (by decide +kernel) (Nat.le_of_ble_eq_true rfl) ?_
 unfold bitmap_full at h0
 refine awp_nr [0] (fun _ => rfl) fun tz => ?_
 refine awp_regW fun KK hKK => ?_
 refine xw_id ?_
 try simp only [go_sem, ↓iop_and, ↓iop_or, ↓iop_xor, ↓iop_andn, Nat.reduceEqDiff, reduceIte, Nat.reduceAdd, Nat.reduceMul, Nat.reduceSub, Nat.reduceLT, Nat.reduceLeDiff]
 refine hKK _ _ (Wk.refl _ _ _) ?_; clear hKK KK
 refine awp_nr [0] (fun _ => rfl) fun tz => ?_
 refine awp_regW fun KK hKK => ?_
 refine xw_id ?_
 obtain ⟨x9, bx9, h0⟩ := bnd h0
 try simp only [go_sem, ↓iop_and, ↓iop_or, ↓iop_xor, ↓iop_andn, Nat.reduceEqDiff, reduceIte, Nat.reduceAdd, Nat.reduceMul, Nat.reduceSub, Nat.reduceLT, Nat.reduceLeDiff]
 refine xcall_p (bitmap_bytes_p a0 bx9) ?_; try dsimp only
 try refine xw_id ?_
 obtain ⟨x10, bx10, h0⟩ := bnd h0
 have bx10 := chk_some bx10
 simp only [Bool.and_eq_true, decide_eq_true_eq] at bx10
 obtain ⟨gx10_0, gx10_1⟩ := bx10
 have gs1 : putAt (List.map vu (List.replicate 32 0)) 0 (List.map vu x9) = (List.map vu x9) := putAt_allL (by first | rfl | (simp only [List.length_map, List.length_replicate, zarr_len]; omega))
 have gs1l : (32 ≤ (List.replicate 32 0).length) = True := eq_true (by omega)
 try simp only [go_sem, ↓iop_and, ↓iop_or, ↓iop_xor, ↓iop_andn, Nat.reduceEqDiff, reduceIte, Nat.reduceAdd, Nat.reduceMul, Nat.reduceSub, Nat.reduceLT, Nat.reduceLeDiff, gx10_0, gx10_1, gs1, gs1l, List.length_replicate, zarr_len]
 refine hKK _ _ (Wk.refl _ _ _) ?_; clear hKK KK
 refine awp_nr [3] (fun _ => rfl) fun tz => ?_
 refine awp_regW fun KK hKK => ?_
 refine xw_id ?_
 have gs2 : (32 ≤ x9.length) = True := eq_true (by omega)
 try simp only [go_sem, ↓iop_and, ↓iop_or, ↓iop_xor, ↓iop_andn, Nat.reduceEqDiff, reduceIte, Nat.reduceAdd, Nat.reduceMul, Nat.reduceSub, Nat.reduceLT, Nat.reduceLeDiff, Int.reduceToNat, Int.reduceBEq, Int.reduceBNe, Int.reduceLT, Int.reduceLE, Int.reduceAdd, Int.reduceSub, Int.reduceMul, Int.reduceNeg, Int.reduceEq, Int.reduceNe, gs2, Int.sub_zero, Int.le_refl]
 refine hKK _ _ (Wk.refl _ _ _) ?_; clear hKK KK
 refine awp_ret1 ?_
 obtain rfl := someInj h0
 refine endW_i ?_
 refine end_ret0 rs44 (rfl) ?_
 refine Res.mk [] [some 3] rfl (resOU List.not_mem_nil (by simp only [upd_get, ↓iop_and, ↓iop_or, ↓iop_xor, ↓iop_andn, Nat.reduceEqDiff, reduceIte, Nat.reduceAdd, Nat.reduceMul, Nat.reduceSub, Nat.reduceLT, Nat.reduceLeDiff, if_true, if_false] <;> rfl) (TmL.of_eq (by first | rfl | (simp only [List.flatMap_append, List.flatMap_cons, List.flatMap_nil, List.map_append, List.map_cons, List.map_nil, List.append_nil, List.nil_append]; done) | (simp only [List.flatMap_append, List.flatMap_cons, List.flatMap_nil, List.map_append, List.map_cons, List.map_nil, List.append_nil, List.nil_append]; rfl)) (vu_clean _)) resO0) (Tm.refL rfl ?_)
 all_goals (first | rfl | (simp only [List.length_take]; omega) | (simp only [List.length_append, List.length_cons, List.length_nil, List.length_modify, List.length_set, Nat.zero_add]; done) | (simp only [List.length_append, List.length_take, List.length_drop, List.length_cons, List.length_nil, List.length_modify, List.length_set, Nat.zero_add]; omega) | omega)

theorem bitmap_full_m (a0 : (List Int)) {r : (List Int)} (h0 : bitmap_full a0 = some r) : SndM K 44 [(S_vi a0)] (fun q => (.ref (q 0) 0 r.length 1)) [(List.map vu r)] :=
 fun hs => Snd.of_newM (RenM.ref 0 0 _ _) (rows_all_cons (vu_clean _) rows_all_nil) (clean_cons (S_vi_clean _) clean_nil) (bitmap_full_r a0 h0) hs

theorem bitmap_full_e (a0 : (List Int)) {r : (List Int)} (h0 : bitmap_full a0 = some r) (fr : Nat) (hs : HS) : SndE K 44 [(S_vi a0)] hs fr ⟨(fun q : Nat → Nat => (.ref (q 0) 0 r.length 1)) fun _ => fr, .new (List.map vu r)⟩ :=
 SndE.of_res (RenM.ref 0 0 _ _) (vu_clean _) (clean_cons (S_vi_clean _) clean_nil) (fun a b h => by simp only [h]) (bitmap_full_r a0 h0) hs fr

theorem bitmap_full_p (a0 : (List Int)) {r : (List Int)} (h0 : bitmap_full a0 = some r) : SndP K 44 [(S_vi a0)] (S_vu r) :=
 SndM.pure (bitmap_full_m a0 h0) (S_vu_clean _) (clean_cons (S_vi_clean _) clean_nil) (by simp only [go_sem, newL_n, newL_c, upd_get, fz, nilS, cond_true, cond_false, List.drop_zero, List.take_length, List.length_map, ble_self, ↓iop_and, ↓iop_or, ↓iop_xor, ↓iop_andn, Nat.reduceEqDiff, reduceIte, Nat.reduceAdd, Nat.reduceMul, Nat.reduceSub, Nat.reduceLT, Nat.reduceLeDiff] <;> rfl)

end Go.AX.Z.TE

/-! (TEW bitmap part) -/

set_option linter.unusedSimpArgs false
set_option linter.unusedVariables false
set_option maxHeartbeats 4000000
namespace Go.AX.Z.TE
open Go.AX Go.Proofs
attribute [local irreducible] awp xw xop xcall gsp ob xd xdop xcallD seqQ loopQ blkQ endQ


theorem bitmap_part_r (a0 : (List Int)) {r : (List Int)} (h0 : bitmap_part a0 = some r) : SndR K 45 [(S_vi a0)] (fun q => (.ref (q 0) 0 r.length 1)) [(List.map vu r)] := by
 refine SndR.of_walkW hC (show K.P.funcs[45]? = some Try.f45 from Try.func45) rfl rfl (by decide +kernel) (Nat.le_of_ble_eq_true rfl) ?_
 unfold bitmap_part at h0
 refine awp_nr [0] (fun _ => rfl) fun tz => ?_
 refine awp_regW fun KK hKK => ?_
 refine xw_id ?_
 try simp only [go_sem, ↓iop_and, ↓iop_or, ↓iop_xor, ↓iop_andn, Nat.reduceEqDiff, reduceIte, Nat.reduceAdd, Nat.reduceMul, Nat.reduceSub, Nat.reduceLT, Nat.reduceLeDiff]
 refine hKK _ _ (Wk.refl _ _ _) ?_; clear hKK KK
 refine awp_assoc ?_
 refine awp_nr [0] (fun _ => rfl) fun tz => ?_
 refine awp_regW fun KK hKK => ?_
 refine xw_id ?_
 try simp only [go_sem, ↓iop_and, ↓iop_or, ↓iop_xor, ↓iop_andn, Nat.reduceEqDiff, reduceIte, Nat.reduceAdd, Nat.reduceMul, Nat.reduceSub, Nat.reduceLT, Nat.reduceLeDiff, Int.reduceToNat, Int.reduceBEq, Int.reduceBNe, Int.reduceLT, Int.reduceLE, Int.reduceAdd, Int.reduceSub, Int.reduceMul, Int.reduceNeg, Int.reduceEq, Int.reduceNe]
 refine hKK _ _ (Wk.refl _ _ _) ?_; clear hKK KK
 refine awp_cond (b := ((a0.length : Int) == 0)) rfl (fun h1 => ?_) (fun h1 => ?_)
 ·
  have h0 := cT h0 h1
  refine awp_assoc ?_
  refine awp_nr [] (fun _ => rfl) fun tz => ?_
  refine awp_regW fun KK hKK => ?_
  refine xw_id ?_
  try simp only [go_sem, ↓iop_and, ↓iop_or, ↓iop_xor, ↓iop_andn, Nat.reduceEqDiff, reduceIte, Nat.reduceAdd, Nat.reduceMul, Nat.reduceSub, Nat.reduceLT, Nat.reduceLeDiff]
  refine hKK _ _ (Wk.refl _ _ _) ?_; clear hKK KK
  refine awp_ret ?_
  obtain rfl := someInj h0
  refine endW_i ?_
  refine end_ret0 rs45 (rfl) ?_
  refine Res.mk [] [some 4] rfl (resOU List.not_mem_nil (by simp only [upd_get, ↓iop_and, ↓iop_or, ↓iop_xor, ↓iop_andn, Nat.reduceEqDiff, reduceIte, Nat.reduceAdd, Nat.reduceMul, Nat.reduceSub, Nat.reduceLT, Nat.reduceLeDiff, if_true, if_false] <;> rfl) (TmL.of_eq (by first | rfl | (simp only [List.flatMap_append, List.flatMap_cons, List.flatMap_nil, List.map_append, List.map_cons, List.map_nil, List.append_nil, List.nil_append]; done) | (simp only [List.flatMap_append, List.flatMap_cons, List.flatMap_nil, List.map_append, List.map_cons, List.map_nil, List.append_nil, List.nil_append]; rfl)) (vu_clean _)) resO0) (Tm.refL rfl ?_)
  all_goals (first | rfl | (simp only [List.length_take]; omega) | (simp only [List.length_append, List.length_cons, List.length_nil, List.length_modify, List.length_set, Nat.zero_add]; done) | (simp only [List.length_append, List.length_take, List.length_drop, List.length_cons, List.length_nil, List.length_modify, List.length_set, Nat.zero_add]; omega) | omega)
 ·
  have h0 := cF h0 h1
  refine awp_skip ?_
  refine awp_nr [0] (fun _ => rfl) fun tz => ?_
  refine awp_regW fun KK hKK => ?_
  refine xw_id ?_
  obtain ⟨x13, bx13, h0⟩ := bnd h0
  try simp only [go_sem, ↓iop_and, ↓iop_or, ↓iop_xor, ↓iop_andn, Nat.reduceEqDiff, reduceIte, Nat.reduceAdd, Nat.reduceMul, Nat.reduceSub, Nat.reduceLT, Nat.reduceLeDiff]
  refine xcall_p (bitmap_bytes_p a0 bx13) ?_; try dsimp only
  try refine xw_id ?_
  obtain ⟨x14, bx14, h0⟩ := bnd h0
  have bx14 := chk_some bx14
  simp only [Bool.and_eq_true, decide_eq_true_eq] at bx14
  obtain ⟨gx14_0, gx14_1⟩ := bx14
  have gs2 : putAt (List.map vu (List.replicate 32 0)) 0 (List.map vu x13) = (List.map vu x13) := putAt_allL (by first | rfl | (simp only [List.length_map, List.length_replicate, zarr_len]; omega))
  have gs2l : (32 ≤ (List.replicate 32 0).length) = True := eq_true (by omega)
  try simp only [go_sem, ↓iop_and, ↓iop_or, ↓iop_xor, ↓iop_andn, Nat.reduceEqDiff, reduceIte, Nat.reduceAdd, Nat.reduceMul, Nat.reduceSub, Nat.reduceLT, Nat.reduceLeDiff, gx14_0, gx14_1, gs2, gs2l, List.length_replicate, zarr_len]
  refine hKK _ _ (Wk.refl _ _ _) ?_; clear hKK KK
  refine awp_nr [0,3] (fun _ => rfl) fun tz => ?_
  refine awp_regW fun KK hKK => ?_
  refine xw_id ?_
  obtain ⟨x15, bx15, h0⟩ := bnd h0
  obtain ⟨fx15_0, fx15_1, fx15_2, fx15_3⟩ := idx_some bx15
  simp only [Int.reduceToNat] at fx15_2 fx15_3
  obtain ⟨x16, bx16, h0⟩ := bnd h0
  obtain ⟨fx16_0, fx16_1, fx16_2, fx16_3⟩ := idx_some bx16
  try simp only [go_sem, ↓iop_and, ↓iop_or, ↓iop_xor, ↓iop_andn, Nat.reduceEqDiff, reduceIte, Nat.reduceAdd, Nat.reduceMul, Nat.reduceSub, Nat.reduceLT, Nat.reduceLeDiff, Int.reduceToNat, Int.reduceBEq, Int.reduceBNe, Int.reduceLT, Int.reduceLE, Int.reduceAdd, Int.reduceSub, Int.reduceMul, Int.reduceNeg, Int.reduceEq, Int.reduceNe, fx15_0, fx15_1, fx15_2, fx16_0, fx16_1, fx16_2]
  refine hKK _ _ (Wk.refl _ _ _) ?_; clear hKK KK
  refine awp_nr [3,4,5] (fun _ => rfl) fun tz => ?_
  refine awp_regW fun KK hKK => ?_
  refine xw_id ?_
  obtain ⟨x17, bx17, h0⟩ := bnd h0
  have bx17 := chk_some bx17
  simp only [Bool.and_eq_true, decide_eq_true_eq] at bx17
  obtain ⟨⟨gx17_0, gx17_1⟩, gx17_2⟩ := bx17
  have gs3 : (32 ≤ x13.length) = True := eq_true (by omega)
  have gp4 : sub? (List.map vu x13) (((x15).fdiv (2 ^ (min 3 64))).toNat) ((((IntKind.wrap .i64 (((x16).fdiv (2 ^ (min 3 64))) + 1)) - ((x15).fdiv (2 ^ (min 3 64)))).toNat)) = some (List.map vu (List.take (((IntKind.wrap .i64 (((x16).fdiv (2 ^ (min 3 64))) + 1)) - ((x15).fdiv (2 ^ (min 3 64)))).toNat) (List.drop (((x15).fdiv (2 ^ (min 3 64))).toNat) x13))) := map_sub2 _ _ _ _ (by omega)
  have gp4l : (List.take (((IntKind.wrap .i64 (((x16).fdiv (2 ^ (min 3 64))) + 1)) - ((x15).fdiv (2 ^ (min 3 64)))).toNat) (List.drop (((x15).fdiv (2 ^ (min 3 64))).toNat) x13)).length = (((IntKind.wrap .i64 (((x16).fdiv (2 ^ (min 3 64))) + 1)) - ((x15).fdiv (2 ^ (min 3 64)))).toNat) := by rw [List.length_take, List.length_drop]; omega
  obtain ⟨x18, bx18, h0⟩ := bnd h0
  have bx18 := chk_some bx18
  simp only [Bool.and_eq_true, decide_eq_true_eq] at bx18
  have gx18_0 := bx18
  try simp only [go_sem, ↓iop_and, ↓iop_or, ↓iop_xor, ↓iop_andn, Nat.reduceEqDiff, reduceIte, Nat.reduceAdd, Nat.reduceMul, Nat.reduceSub, Nat.reduceLT, Nat.reduceLeDiff, Int.reduceToNat, Int.reduceBEq, Int.reduceBNe, Int.reduceLT, Int.reduceLE, Int.reduceAdd, Int.reduceSub, Int.reduceMul, Int.reduceNeg, Int.reduceEq, Int.reduceNe, fx15_0, fx15_1, fx15_2, fx16_0, fx16_1, fx16_2, gx17_0, gx17_1, gx17_2, gs3, Int.sub_zero, Int.le_refl, gp4, gp4l, gx18_0]
  refine hKK _ _ (Wk.refl _ _ _) ?_; clear hKK KK
  refine awp_ret1 ?_
  obtain rfl := someInj h0
  refine endW_i ?_
  refine end_ret0 rs45 (rfl) ?_
  refine Res.mk [] [some 32] rfl (resOU List.not_mem_nil (by simp only [upd_get, ↓iop_and, ↓iop_or, ↓iop_xor, ↓iop_andn, Nat.reduceEqDiff, reduceIte, Nat.reduceAdd, Nat.reduceMul, Nat.reduceSub, Nat.reduceLT, Nat.reduceLeDiff, if_true, if_false] <;> rfl) (TmL.of_eq (by first | rfl | (simp only [List.flatMap_append, List.flatMap_cons, List.flatMap_nil, List.map_append, List.map_cons, List.map_nil, List.append_nil, List.nil_append]; done) | (simp only [List.flatMap_append, List.flatMap_cons, List.flatMap_nil, List.map_append, List.map_cons, List.map_nil, List.append_nil, List.nil_append]; rfl)) (vu_clean _)) resO0) (Tm.refL rfl ?_)
  all_goals (first | rfl | (simp only [List.length_take]; omega) | (simp only [List.length_append, List.length_cons, List.length_nil, List.length_modify, List.length_set, Nat.zero_add]; done) | (simp only [List.length_append, List.length_take, List.length_drop, List.length_cons, List.length_nil, List.length_modify, List.length_set, Nat.zero_add]; omega) | omega)

theorem bitmap_part_m (a0 : (List Int)) {r : (List Int)} (h0 : bitmap_part a0 = some r) : SndM K 45 [(S_vi a0)] (fun q => (.ref (q 0) 0 r.length 1)) [(List.map vu r)] :=
 fun hs => Snd.of_newM (RenM.ref 0 0 _ _) (rows_all_cons (vu_clean _) rows_all_nil) (clean_cons (S_vi_clean _) clean_nil) (bitmap_part_r a0 h0) hs

theorem bitmap_part_e (a0 : (List Int)) {r : (List Int)} (h0 : bitmap_part a0 = some r) (fr : Nat) (hs : HS) : SndE K 45 [(S_vi a0)] hs fr ⟨(fun q : Nat → Nat => (.ref (q 0) 0 r.length 1)) fun _ => fr, .new (List.map vu r)⟩ :=
 SndE.of_res (RenM.ref 0 0 _ _) (vu_clean _) (clean_cons (S_vi_clean _) clean_nil) (fun a b h => by simp only [h]) (bitmap_part_r a0 h0) hs fr

theorem bitmap_part_p (a0 : (List Int)) {r : (List Int)} (h0 : bitmap_part a0 = some r) : SndP K 45 [(S_vi a0)] (S_vu r) :=
 SndM.pure (bitmap_part_m a0 h0) (S_vu_clean _) (clean_cons (S_vi_clean _) clean_nil) (by simp only [go_sem, newL_n, newL_c, upd_get, fz, nilS, cond_true, cond_false, List.drop_zero, List.take_length, List.length_map, ble_self, ↓iop_and, ↓iop_or, ↓iop_xor, ↓iop_andn, Nat.reduceEqDiff, reduceIte, Nat.reduceAdd, Nat.reduceMul, Nat.reduceSub, Nat.reduceLT, Nat.reduceLeDiff] <;> rfl)

end Go.AX.Z.TE

/-! (TEW bitmap list) -/

set_option linter.unusedSimpArgs false
set_option linter.unusedVariables false
set_option maxHeartbeats 4000000
namespace Go.AX.Z.TE
open Go.AX Go.Proofs
attribute [local irreducible] awp xw xop xcall gsp ob xd xdop xcallD seqQ loopQ blkQ endQ

def bitmap_list_S0 (d21 : (List Int)) : AS :=
 { objs := (upd (fun _ => .dead) 0 (.live (List.map vu d21))), next := 1, tmps := (upd (fun _ => .unk) 3 (.ref 0 0 ((d21).length) 1)) }

def bitmap_list_S1 (a0 : (List Int)) (d22 : (List Int × Int)) : AS :=
 { objs := (upd (fun _ => .dead) 0 (.live (List.map vu d22.1))), next := 1, tmps := (upd (upd (upd (upd (fun _ => .unk) 3 (.ref 0 0 ((d22.1).length) 1)) 10 (.imm (List.map vi a0) a0.length)) 11 (vi (a0.length : Int))) 12 (vi d22.2)) }

theorem bitmap_list_r (a0 : (List Int)) {r : (List Int)} (h0 : bitmap_list a0 = some r) : SndR K 46 [(S_vi a0)] (fun q => (.ref (q 0) 0 r.length 1)) [(List.map vu r)] := by
 refine SndR.of_walkW hC (show K.P.funcs[46]? = some Try.f46 from Try.func46) rfl rfl (by decide +kernel) (Nat.le_of_ble_eq_true rfl) ?_
 unfold bitmap_list at h0
 refine awp_nr [0] (fun _ => rfl) fun tz => ?_
 refine awp_regW fun KK hKK => ?_
 refine xw_id ?_
 try simp only [go_sem, ↓iop_and, ↓iop_or, ↓iop_xor, ↓iop_andn, Nat.reduceEqDiff, reduceIte, Nat.reduceAdd, Nat.reduceMul, Nat.reduceSub, Nat.reduceLT, Nat.reduceLeDiff]
 refine hKK _ _ (Wk.refl _ _ _) ?_; clear hKK KK
 refine awp_nr [0] (fun _ => rfl) fun tz => ?_
 refine awp_regW fun KK hKK => ?_
 refine xw_id ?_
 try simp only [go_sem, ↓iop_and, ↓iop_or, ↓iop_xor, ↓iop_andn, Nat.reduceEqDiff, reduceIte, Nat.reduceAdd, Nat.reduceMul, Nat.reduceSub, Nat.reduceLT, Nat.reduceLeDiff, Int.reduceToNat, Int.reduceBEq, Int.reduceBNe, Int.reduceLT, Int.reduceLE, Int.reduceAdd, Int.reduceSub, Int.reduceMul, Int.reduceNeg, Int.reduceEq, Int.reduceNe]
 refine hKK _ _ (Wk.refl _ _ _) ?_; clear hKK KK
 refine awp_assoc ?_
 refine awp_nr [0,3] (fun _ => rfl) fun tz => ?_
 refine awp_regW fun KK hKK => ?_
 refine xw_id ?_
 try simp only [go_sem, ↓iop_and, ↓iop_or, ↓iop_xor, ↓iop_andn, Nat.reduceEqDiff, reduceIte, Nat.reduceAdd, Nat.reduceMul, Nat.reduceSub, Nat.reduceLT, Nat.reduceLeDiff, Int.reduceToNat, Int.reduceBEq, Int.reduceBNe, Int.reduceLT, Int.reduceLE, Int.reduceAdd, Int.reduceSub, Int.reduceMul, Int.reduceNeg, Int.reduceEq, Int.reduceNe]
 refine hKK _ _ (Wk.refl _ _ _) ?_; clear hKK KK
 obtain ⟨d21, hi1, h0⟩ := bnd h0
 refine awp_cut (fun z => d21 = z) (fun d21 : (List Int) => bitmap_list_S0 d21) ?_ ?_
 ·
  refine awp_block1 ?_
  refine awp_loopS (fun n (d22 : (List Int × Int)) => bitmap_list_L2 a0 n d22 = some d21) (fun d22 : (List Int × Int) => bitmap_list_S1 a0 d22) big ([IntKind.wrap .u8 (a0.length : Int)], 0) (by refine Wk.canonD [] [] [some 4] rfl trivial rfl (tmOU 0 tmO0 rfl List.not_mem_nil (by simp only [upd_get, ↓iop_and, ↓iop_or, ↓iop_xor, ↓iop_andn, Nat.reduceEqDiff, reduceIte, Nat.reduceAdd, Nat.reduceMul, Nat.reduceSub, Nat.reduceLT, Nat.reduceLeDiff, if_true, if_false] <;> rfl) (TmL.of_eq (by first | rfl | (simp only [List.flatMap_append, List.flatMap_cons, List.flatMap_nil, List.map_append, List.map_cons, List.map_nil, List.append_nil, List.nil_append]; done) | (simp only [List.flatMap_append, List.flatMap_cons, List.flatMap_nil, List.map_append, List.map_cons, List.map_nil, List.append_nil, List.nil_append]; rfl)) (vu_clean _))) (tmAllU 12 (tmAllU 11 (tmAllU 10 (tmAllU 3 tmAll0 (Tm.refL rfl ?_)) (Tm.clean (Clean.imm (vi_clean _)))) (Tm.v _)) (Tm.v _)); all_goals (first | rfl | (simp only [List.length_take]; omega) | (simp only [List.length_append, List.length_cons, List.length_nil, List.length_modify, List.length_set, Nat.zero_add]; done) | (simp only [List.length_append, List.length_take, List.length_drop, List.length_cons, List.length_nil, List.length_modify, List.length_set, Nat.zero_add]; omega) | omega)) hi1 ?_
  clear hi1
  rintro n d22 hl3
  rcases n with _ | n2
  ·
   (rw [bitmap_list_L2] at hl3; cases hl3)
  ·
   rw [bitmap_list_L2] at hl3
   unfold bitmap_list_S1
   refine awp_nr [3,10,11,12] (fun _ => rfl) fun tz => ?_
   refine awp_regW fun KK hKK => ?_
   refine xw_id ?_
   try simp only [go_sem, ↓iop_and, ↓iop_or, ↓iop_xor, ↓iop_andn, Nat.reduceEqDiff, reduceIte, Nat.reduceAdd, Nat.reduceMul, Nat.reduceSub, Nat.reduceLT, Nat.reduceLeDiff]
   refine hKK _ _ (Wk.refl _ _ _) ?_; clear hKK KK
   refine awp_cond (b := (decide (d22.2 < (a0.length : Int)))) rfl (fun h4 => ?_) (fun h4 => ?_)
   ·
    have hl3 := cT hl3 h4
    refine awp_skip ?_
    refine awp_blockW ?_
    refine awp_nr [3,10,11,12] (fun _ => rfl) fun tz => ?_
    refine awp_regW fun KK hKK => ?_
    refine xw_id ?_
    obtain ⟨x23, bx23, hl3⟩ := bnd hl3
    obtain ⟨fx23_0, fx23_1, fx23_2, fx23_3⟩ := idx_some bx23
    try simp only [go_sem, ↓iop_and, ↓iop_or, ↓iop_xor, ↓iop_andn, Nat.reduceEqDiff, reduceIte, Nat.reduceAdd, Nat.reduceMul, Nat.reduceSub, Nat.reduceLT, Nat.reduceLeDiff, fx23_0, fx23_1, fx23_2]
    refine hKK _ _ (Wk.refl _ _ _) ?_; clear hKK KK
    refine awp_nr1 [3,5,10,11,12] (fun _ => rfl) fun tz => ?_
    refine awp_reg1 fun KK hKK => ?_
    refine xw_id ?_
    obtain ⟨x24, bx24, hl3⟩ := bnd hl3
    have bx24 := chk_some bx24
    simp only [Bool.and_eq_true, decide_eq_true_eq] at bx24
    have gx24_0 := bx24
    try simp only [go_sem, ↓iop_and, ↓iop_or, ↓iop_xor, ↓iop_andn, Nat.reduceEqDiff, reduceIte, Nat.reduceAdd, Nat.reduceMul, Nat.reduceSub, Nat.reduceLT, Nat.reduceLeDiff, Int.reduceToNat, Int.reduceBEq, Int.reduceBNe, Int.reduceLT, Int.reduceLE, Int.reduceAdd, Int.reduceSub, Int.reduceMul, Int.reduceNeg, Int.reduceEq, Int.reduceNe, fx23_0, fx23_1, fx23_2, gx24_0]
    refine hKK _ ?_; clear hKK KK
    refine bq_n ?_
    refine seqW_i ?_
    refine awp_nr1 [3,10,11,12] (fun _ => rfl) fun tz => ?_
    refine awp_reg1 fun KK hKK => ?_
    refine xw_id ?_
    try simp only [go_sem, ↓iop_and, ↓iop_or, ↓iop_xor, ↓iop_andn, Nat.reduceEqDiff, reduceIte, Nat.reduceAdd, Nat.reduceMul, Nat.reduceSub, Nat.reduceLT, Nat.reduceLeDiff, fx23_0, fx23_1, fx23_2]
    refine hKK _ ?_; clear hKK KK
    refine lq_n ?_
    exact ⟨n2, ((d22.1 ++ [IntKind.wrap .u8 x23]), IntKind.wrap .i64 (d22.2 + 1)), rfl, hl3, (by refine Wk.canonD [] [] [some 9] rfl trivial rfl (tmOU 0 tmO0 rfl List.not_mem_nil (by simp only [upd_get, ↓iop_and, ↓iop_or, ↓iop_xor, ↓iop_andn, Nat.reduceEqDiff, reduceIte, Nat.reduceAdd, Nat.reduceMul, Nat.reduceSub, Nat.reduceLT, Nat.reduceLeDiff, if_true, if_false] <;> rfl) (TmL.of_eq (by first | rfl | (simp only [List.flatMap_append, List.flatMap_cons, List.flatMap_nil, List.map_append, List.map_cons, List.map_nil, List.append_nil, List.nil_append]; done) | (simp only [List.flatMap_append, List.flatMap_cons, List.flatMap_nil, List.map_append, List.map_cons, List.map_nil, List.append_nil, List.nil_append]; rfl)) (vu_clean _))) (tmAllU 12 (tmAllU 11 (tmAllU 10 (tmAllU 3 tmAll0 (Tm.refL rfl ?_)) (Tm.clean (Clean.imm (vi_clean _)))) (Tm.v _)) (Tm.v _)); all_goals (first | rfl | (simp only [List.length_take]; omega) | (simp only [List.length_append, List.length_cons, List.length_nil, List.length_modify, List.length_set, Nat.zero_add]; done) | (simp only [List.length_append, List.length_take, List.length_drop, List.length_cons, List.length_nil, List.length_modify, List.length_set, Nat.zero_add]; omega) | omega))⟩
   ·
    have hl3 := cF hl3 h4
    refine awp_exit ?_
    refine lq_e ?_
    refine bq_e ?_
    refine sq_n ?_
    obtain rfl := someInj hl3
    exact ⟨_, rfl, (by refine Wk.canonD [] [] [some 0] rfl trivial rfl (tmOU 0 tmO0 rfl List.not_mem_nil (by simp only [upd_get, ↓iop_and, ↓iop_or, ↓iop_xor, ↓iop_andn, Nat.reduceEqDiff, reduceIte, Nat.reduceAdd, Nat.reduceMul, Nat.reduceSub, Nat.reduceLT, Nat.reduceLeDiff, if_true, if_false] <;> rfl) (TmL.of_eq (by first | rfl | (simp only [List.flatMap_append, List.flatMap_cons, List.flatMap_nil, List.map_append, List.map_cons, List.map_nil, List.append_nil, List.nil_append]; done) | (simp only [List.flatMap_append, List.flatMap_cons, List.flatMap_nil, List.map_append, List.map_cons, List.map_nil, List.append_nil, List.nil_append]; rfl)) (vu_clean _))) (tmAllU 3 tmAll0 (Tm.refL rfl ?_)); all_goals (first | rfl | (simp only [List.length_take]; omega) | (simp only [List.length_append, List.length_cons, List.length_nil, List.length_modify, List.length_set, Nat.zero_add]; done) | (simp only [List.length_append, List.length_take, List.length_drop, List.length_cons, List.length_nil, List.length_modify, List.length_set, Nat.zero_add]; omega) | omega))⟩
 ·
  rintro _ rfl
  clear hi1
  unfold bitmap_list_S0
  refine awp_nr [3] (fun _ => rfl) fun tz => ?_
  refine awp_regW fun KK hKK => ?_
  refine xw_id ?_
  try simp only [go_sem, ↓iop_and, ↓iop_or, ↓iop_xor, ↓iop_andn, Nat.reduceEqDiff, reduceIte, Nat.reduceAdd, Nat.reduceMul, Nat.reduceSub, Nat.reduceLT, Nat.reduceLeDiff]
  refine hKK _ _ (Wk.refl _ _ _) ?_; clear hKK KK
  refine awp_ret1 ?_
  obtain rfl := someInj h0
  refine endW_i ?_
  refine end_ret0 rs46 (rfl) ?_
  refine Res.mk [] [some 0] rfl (resOU List.not_mem_nil (by simp only [upd_get, ↓iop_and, ↓iop_or, ↓iop_xor, ↓iop_andn, Nat.reduceEqDiff, reduceIte, Nat.reduceAdd, Nat.reduceMul, Nat.reduceSub, Nat.reduceLT, Nat.reduceLeDiff, if_true, if_false] <;> rfl) (TmL.of_eq (by first | rfl | (simp only [List.flatMap_append, List.flatMap_cons, List.flatMap_nil, List.map_append, List.map_cons, List.map_nil, List.append_nil, List.nil_append]; done) | (simp only [List.flatMap_append, List.flatMap_cons, List.flatMap_nil, List.map_append, List.map_cons, List.map_nil, List.append_nil, List.nil_append]; rfl)) (vu_clean _)) resO0) (Tm.refL rfl ?_)
  all_goals (first | rfl | (simp only [List.length_take]; omega) | (simp only [List.length_append, List.length_cons, List.length_nil, List.length_modify, List.length_set, Nat.zero_add]; done) | (simp only [List.length_append, List.length_take, List.length_drop, List.length_cons, List.length_nil, List.length_modify, List.length_set, Nat.zero_add]; omega) | omega)

theorem bitmap_list_m (a0 : (List Int)) {r : (List Int)} (h0 : bitmap_list a0 = some r) : SndM K 46 [(S_vi a0)] (fun q => (.ref (q 0) 0 r.length 1)) [(List.map vu r)] :=
 fun hs => Snd.of_newM (RenM.ref 0 0 _ _) (rows_all_cons (vu_clean _) rows_all_nil) (clean_cons (S_vi_clean _) clean_nil) (bitmap_list_r a0 h0) hs

theorem bitmap_list_e (a0 : (List Int)) {r : (List Int)} (h0 : bitmap_list a0 = some r) (fr : Nat) (hs : HS) : SndE K 46 [(S_vi a0)] hs fr ⟨(fun q : Nat → Nat => (.ref (q 0) 0 r.length 1)) fun _ => fr, .new (List.map vu r)⟩ :=
 SndE.of_res (RenM.ref 0 0 _ _) (vu_clean _) (clean_cons (S_vi_clean _) clean_nil) (fun a b h => by simp only [h]) (bitmap_list_r a0 h0) hs fr

theorem bitmap_list_p (a0 : (List Int)) {r : (List Int)} (h0 : bitmap_list a0 = some r) : SndP K 46 [(S_vi a0)] (S_vu r) :=
 SndM.pure (bitmap_list_m a0 h0) (S_vu_clean _) (clean_cons (S_vi_clean _) clean_nil) (by simp only [go_sem, newL_n, newL_c, upd_get, fz, nilS, cond_true, cond_false, List.drop_zero, List.take_length, List.length_map, ble_self, ↓iop_and, ↓iop_or, ↓iop_xor, ↓iop_andn, Nat.reduceEqDiff, reduceIte, Nat.reduceAdd, Nat.reduceMul, Nat.reduceSub, Nat.reduceLT, Nat.reduceLeDiff] <;> rfl)

end Go.AX.Z.TE

/-! (TEW bitmap holes) -/

set_option linter.unusedSimpArgs false
set_option linter.unusedVariables false
set_option maxHeartbeats 4000000
namespace Go.AX.Z.TE
open Go.AX Go.Proofs
attribute [local irreducible] awp xw xop xcall gsp ob xd xdop xcallD seqQ loopQ blkQ endQ

def bitmap_holes_S0 (d27 : (List Int)) : AS :=
 { objs := (upd (fun _ => .dead) 0 (.live (List.map vu d27))), next := 1, tmps := (upd (fun _ => .unk) 3 (.ref 0 0 ((d27).length) 1)) }

def bitmap_holes_S1 (a0 : (List Int)) (d28 : (List Int × Int)) : AS :=
 { objs := (upd (fun _ => .dead) 0 (.live (List.map vu d28.1))), next := 1, tmps := (upd (upd (upd (upd (fun _ => .unk) 3 (.ref 0 0 ((d28.1).length) 1)) 8 (.imm (List.map vi a0) a0.length)) 9 (vi (a0.length : Int))) 10 (vi d28.2)) }

def bitmap_holes_S3 (a0 : (List Int)) (d28 : (List Int × Int)) (d29 : (List Int)) : AS :=
 { objs := (upd (fun _ => .dead) 0 (.live (List.map vu d29))), next := 1, tmps := (upd (upd (upd (upd (fun _ => .unk) 3 (.ref 0 0 ((d29).length) 1)) 8 (.imm (List.map vi a0) a0.length)) 9 (vi (a0.length : Int))) 10 (vi d28.2)) }

def bitmap_holes_S4 (x30 : Int) (a0 : (List Int)) (d28 : (List Int × Int)) (d32 : (List Int)) : AS :=
 { objs := (upd (fun _ => .dead) 0 (.live (List.map vu d32))), next := 1, tmps := (upd (upd (upd (upd (upd (fun _ => .unk) 3 (.ref 0 0 ((d32).length) 1)) 5 (vi x30)) 8 (.imm (List.map vi a0) a0.length)) 9 (vi (a0.length : Int))) 10 (vi d28.2)) }

def bitmap_holes_S5 (x30 : Int) (a0 : (List Int)) (d28 : (List Int × Int)) (d33 : (List Int × Int)) : AS :=
 { objs := (upd (fun _ => .dead) 0 (.live (List.map vu d33.1))), next := 1, tmps := (upd (upd (upd (upd (upd (upd (fun _ => .unk) 3 (.ref 0 0 ((d33.1).length) 1)) 5 (vi x30)) 6 (vi d33.2)) 8 (.imm (List.map vi a0) a0.length)) 9 (vi (a0.length : Int))) 10 (vi d28.2)) }

theorem bitmap_holes_r (a0 : (List Int)) {r : (List Int)} (h0 : bitmap_holes a0 = some r) : SndR K 47 [(S_vi a0)] (fun q => (.ref (q 0) 0 r.length 1)) [(List.map vu r)] := by
 refine SndR.of_walkW hC (show K.P.funcs[47]? = some Try.f47 from Try.func47) rfl rfl (by decide +kernel) (Nat.le_of_ble_eq_true rfl) ?_
 unfold bitmap_holes at h0
 refine awp_nr [0] (fun _ => rfl) fun tz => ?_
 refine awp_regW fun KK hKK => ?_
 refine xw_id ?_
 try simp only [go_sem, ↓iop_and, ↓iop_or, ↓iop_xor, ↓iop_andn, Nat.reduceEqDiff, reduceIte, Nat.reduceAdd, Nat.reduceMul, Nat.reduceSub, Nat.reduceLT, Nat.reduceLeDiff]
 refine hKK _ _ (Wk.refl _ _ _) ?_; clear hKK KK
 refine awp_nr [0] (fun _ => rfl) fun tz => ?_
 refine awp_regW fun KK hKK => ?_
 refine xw_id ?_
 try simp only [go_sem, ↓iop_and, ↓iop_or, ↓iop_xor, ↓iop_andn, Nat.reduceEqDiff, reduceIte, Nat.reduceAdd, Nat.reduceMul, Nat.reduceSub, Nat.reduceLT, Nat.reduceLeDiff]
 refine hKK _ _ (Wk.refl _ _ _) ?_; clear hKK KK
 refine awp_assoc ?_
 refine awp_nr [0,3] (fun _ => rfl) fun tz => ?_
 refine awp_regW fun KK hKK => ?_
 refine xw_id ?_
 try simp only [go_sem, ↓iop_and, ↓iop_or, ↓iop_xor, ↓iop_andn, Nat.reduceEqDiff, reduceIte, Nat.reduceAdd, Nat.reduceMul, Nat.reduceSub, Nat.reduceLT, Nat.reduceLeDiff, Int.reduceToNat, Int.reduceBEq, Int.reduceBNe, Int.reduceLT, Int.reduceLE, Int.reduceAdd, Int.reduceSub, Int.reduceMul, Int.reduceNeg, Int.reduceEq, Int.reduceNe]
 refine hKK _ _ (Wk.refl _ _ _) ?_; clear hKK KK
 obtain ⟨d27, hi1, h0⟩ := bnd h0
 refine awp_cut (fun z => d27 = z) (fun d27 : (List Int) => bitmap_holes_S0 d27) ?_ ?_
 ·
  refine awp_block1 ?_
  refine awp_loopS (fun n (d28 : (List Int × Int)) => bitmap_holes_L2 a0 n d28 = some d27) (fun d28 : (List Int × Int) => bitmap_holes_S1 a0 d28) big ([0, 0], 0) (by refine Wk.canonD [] [] [some 1] rfl trivial rfl (tmOU 0 tmO0 rfl List.not_mem_nil (by simp only [upd_get, ↓iop_and, ↓iop_or, ↓iop_xor, ↓iop_andn, Nat.reduceEqDiff, reduceIte, Nat.reduceAdd, Nat.reduceMul, Nat.reduceSub, Nat.reduceLT, Nat.reduceLeDiff, if_true, if_false] <;> rfl) (TmL.of_eq (by first | rfl | (simp only [List.flatMap_append, List.flatMap_cons, List.flatMap_nil, List.map_append, List.map_cons, List.map_nil, List.append_nil, List.nil_append]; done) | (simp only [List.flatMap_append, List.flatMap_cons, List.flatMap_nil, List.map_append, List.map_cons, List.map_nil, List.append_nil, List.nil_append]; rfl)) (vu_clean _))) (tmAllU 10 (tmAllU 9 (tmAllU 8 (tmAllU 3 tmAll0 (Tm.refL rfl ?_)) (Tm.clean (Clean.imm (vi_clean _)))) (Tm.v _)) (Tm.v _)); all_goals (first | rfl | (simp only [List.length_take]; omega) | (simp only [List.length_append, List.length_cons, List.length_nil, List.length_modify, List.length_set, Nat.zero_add]; done) | (simp only [List.length_append, List.length_take, List.length_drop, List.length_cons, List.length_nil, List.length_modify, List.length_set, Nat.zero_add]; omega) | omega)) hi1 ?_
  clear hi1
  rintro n d28 hl3
  rcases n with _ | n2
  ·
   (rw [bitmap_holes_L2] at hl3; cases hl3)
  ·
   rw [bitmap_holes_L2] at hl3
   unfold bitmap_holes_S1
   refine awp_nr [3,8,9,10] (fun _ => rfl) fun tz => ?_
   refine awp_regW fun KK hKK => ?_
   refine xw_id ?_
   try simp only [go_sem, ↓iop_and, ↓iop_or, ↓iop_xor, ↓iop_andn, Nat.reduceEqDiff, reduceIte, Nat.reduceAdd, Nat.reduceMul, Nat.reduceSub, Nat.reduceLT, Nat.reduceLeDiff]
   refine hKK _ _ (Wk.refl _ _ _) ?_; clear hKK KK
   refine awp_cond (b := (decide (d28.2 < (a0.length : Int)))) rfl (fun h4 => ?_) (fun h4 => ?_)
   ·
    have hl3 := cT hl3 h4
    refine awp_skip ?_
    obtain ⟨d29, hi5, hl3⟩ := bnd hl3
    refine awp_cut (fun z => d29 = z) (fun d29 : (List Int) => bitmap_holes_S3 a0 d28 d29) ?_ ?_
    ·
     refine awp_block1 ?_
     refine awp_nr [3,8,9,10] (fun _ => rfl) fun tz => ?_
     refine awp_regW fun KK hKK => ?_
     refine xw_id ?_
     obtain ⟨x30, bx30, hi5⟩ := bnd hi5
     obtain ⟨fx30_0, fx30_1, fx30_2, fx30_3⟩ := idx_some bx30
     try simp only [go_sem, ↓iop_and, ↓iop_or, ↓iop_xor, ↓iop_andn, Nat.reduceEqDiff, reduceIte, Nat.reduceAdd, Nat.reduceMul, Nat.reduceSub, Nat.reduceLT, Nat.reduceLeDiff, fx30_0, fx30_1, fx30_2]
     refine hKK _ _ (Wk.refl _ _ _) ?_; clear hKK KK
     refine awp_assoc ?_
     refine awp_nr [3,5,8,9,10] (fun _ => rfl) fun tz => ?_
     refine awp_regW fun KK hKK => ?_
     refine xw_id ?_
     obtain ⟨x31, bx31, hi5⟩ := bnd hi5
     obtain ⟨fx31_0, fx31_1, fx31_2, fx31_3⟩ := idx_some bx31
     have fx31_5 : ((0 : Int) < (((d28.1).length : Nat) : Int)) = True := by first | exact fx31_1 | (simp [List.length_modify, List.length_set]; omega)
     simp only [Int.reduceToNat] at fx31_2 fx31_3
     try simp only [go_sem, ↓iop_and, ↓iop_or, ↓iop_xor, ↓iop_andn, Nat.reduceEqDiff, reduceIte, Nat.reduceAdd, Nat.reduceMul, Nat.reduceSub, Nat.reduceLT, Nat.reduceLeDiff, Int.reduceToNat, Int.reduceBEq, Int.reduceBNe, Int.reduceLT, Int.reduceLE, Int.reduceAdd, Int.reduceSub, Int.reduceMul, Int.reduceNeg, Int.reduceEq, Int.reduceNe, fx30_0, fx30_1, fx30_2, fx31_0, fx31_1, fx31_2, fx31_5]
     refine hKK _ _ (Wk.refl _ _ _) ?_; clear hKK KK
     obtain ⟨d32, hi6, hi5⟩ := bnd hi5
     refine awp_cut (fun z => d32 = z) (fun d32 : (List Int) => bitmap_holes_S4 x30 a0 d28 d32) ?_ ?_
     ·
      refine awp_block1 ?_
      refine awp_loopS (fun n (d33 : (List Int × Int)) => bitmap_holes_L6 x30 n d33 = some d32) (fun d33 : (List Int × Int) => bitmap_holes_S5 x30 a0 d28 d33) big (d28.1, IntKind.wrap .i64 ((IntKind.wrap .i64 x31) + 1)) (by refine Wk.canonD [] [] [some 0] rfl trivial rfl (tmOU 0 tmO0 rfl List.not_mem_nil (by simp only [upd_get, ↓iop_and, ↓iop_or, ↓iop_xor, ↓iop_andn, Nat.reduceEqDiff, reduceIte, Nat.reduceAdd, Nat.reduceMul, Nat.reduceSub, Nat.reduceLT, Nat.reduceLeDiff, if_true, if_false] <;> rfl) (TmL.of_eq (by first | rfl | (simp only [List.flatMap_append, List.flatMap_cons, List.flatMap_nil, List.map_append, List.map_cons, List.map_nil, List.append_nil, List.nil_append]; done) | (simp only [List.flatMap_append, List.flatMap_cons, List.flatMap_nil, List.map_append, List.map_cons, List.map_nil, List.append_nil, List.nil_append]; rfl)) (vu_clean _))) (tmAllU 10 (tmAllU 9 (tmAllU 8 (tmAllU 6 (tmAllU 5 (tmAllU 3 tmAll0 (Tm.refL rfl ?_)) (Tm.v _)) (Tm.v _)) (Tm.clean (Clean.imm (vi_clean _)))) (Tm.v _)) (Tm.v _)); all_goals (first | rfl | (simp only [List.length_take]; omega) | (simp only [List.length_append, List.length_cons, List.length_nil, List.length_modify, List.length_set, Nat.zero_add]; done) | (simp only [List.length_append, List.length_take, List.length_drop, List.length_cons, List.length_nil, List.length_modify, List.length_set, Nat.zero_add]; omega) | omega)) hi6 ?_
      clear hi6
      rintro n d33 hl8
      rcases n with _ | n7
      ·
       (rw [bitmap_holes_L6] at hl8; cases hl8)
      ·
       rw [bitmap_holes_L6] at hl8
       unfold bitmap_holes_S5
       refine awp_assoc ?_
       refine awp_nr [3,5,6,8,9,10] (fun _ => rfl) fun tz => ?_
       refine awp_regW fun KK hKK => ?_
       refine xw_id ?_
       try simp only [go_sem, ↓iop_and, ↓iop_or, ↓iop_xor, ↓iop_andn, Nat.reduceEqDiff, reduceIte, Nat.reduceAdd, Nat.reduceMul, Nat.reduceSub, Nat.reduceLT, Nat.reduceLeDiff]
       refine hKK _ _ (Wk.refl _ _ _) ?_; clear hKK KK
       refine awp_cond (b := (decide (d33.2 < x30))) rfl (fun h9 => ?_) (fun h9 => ?_)
       ·
        have hl8 := cT hl8 h9
        refine awp_skip ?_
        refine awp_blockW ?_
        refine awp_nr1 [3,5,6,8,9,10] (fun _ => rfl) fun tz => ?_
        refine awp_reg1 fun KK hKK => ?_
        refine xw_id ?_
        obtain ⟨x34, bx34, hl8⟩ := bnd hl8
        have bx34 := chk_some bx34
        simp only [Bool.and_eq_true, decide_eq_true_eq] at bx34
        have gx34_0 := bx34
        try simp only [go_sem, ↓iop_and, ↓iop_or, ↓iop_xor, ↓iop_andn, Nat.reduceEqDiff, reduceIte, Nat.reduceAdd, Nat.reduceMul, Nat.reduceSub, Nat.reduceLT, Nat.reduceLeDiff, Int.reduceToNat, Int.reduceBEq, Int.reduceBNe, Int.reduceLT, Int.reduceLE, Int.reduceAdd, Int.reduceSub, Int.reduceMul, Int.reduceNeg, Int.reduceEq, Int.reduceNe, gx34_0]
        refine hKK _ ?_; clear hKK KK
        refine bq_n ?_
        refine seqW_i ?_
        refine awp_nr1 [3,5,6,8,9,10] (fun _ => rfl) fun tz => ?_
        refine awp_reg1 fun KK hKK => ?_
        refine xw_id ?_
        try simp only [go_sem, ↓iop_and, ↓iop_or, ↓iop_xor, ↓iop_andn, Nat.reduceEqDiff, reduceIte, Nat.reduceAdd, Nat.reduceMul, Nat.reduceSub, Nat.reduceLT, Nat.reduceLeDiff]
        refine hKK _ ?_; clear hKK KK
        refine lq_n ?_
        exact ⟨n7, ((d33.1 ++ [IntKind.wrap .u8 d33.2]), IntKind.wrap .i64 (d33.2 + 1)), rfl, hl8, (by refine Wk.canonD [] [] [some 8] rfl trivial rfl (tmOU 0 tmO0 rfl List.not_mem_nil (by simp only [upd_get, ↓iop_and, ↓iop_or, ↓iop_xor, ↓iop_andn, Nat.reduceEqDiff, reduceIte, Nat.reduceAdd, Nat.reduceMul, Nat.reduceSub, Nat.reduceLT, Nat.reduceLeDiff, if_true, if_false] <;> rfl) (TmL.of_eq (by first | rfl | (simp only [List.flatMap_append, List.flatMap_cons, List.flatMap_nil, List.map_append, List.map_cons, List.map_nil, List.append_nil, List.nil_append]; done) | (simp only [List.flatMap_append, List.flatMap_cons, List.flatMap_nil, List.map_append, List.map_cons, List.map_nil, List.append_nil, List.nil_append]; rfl)) (vu_clean _))) (tmAllU 10 (tmAllU 9 (tmAllU 8 (tmAllU 6 (tmAllU 5 (tmAllU 3 tmAll0 (Tm.refL rfl ?_)) (Tm.v _)) (Tm.v _)) (Tm.clean (Clean.imm (vi_clean _)))) (Tm.v _)) (Tm.v _)); all_goals (first | rfl | (simp only [List.length_take]; omega) | (simp only [List.length_append, List.length_cons, List.length_nil, List.length_modify, List.length_set, Nat.zero_add]; done) | (simp only [List.length_append, List.length_take, List.length_drop, List.length_cons, List.length_nil, List.length_modify, List.length_set, Nat.zero_add]; omega) | omega))⟩
       ·
        have hl8 := cF hl8 h9
        refine awp_exit ?_
        refine lq_e ?_
        refine bq_e ?_
        refine sq_n ?_
        obtain rfl := someInj hl8
        exact ⟨_, rfl, (by refine Wk.canonD [] [] [some 0] rfl trivial rfl (tmOU 0 tmO0 rfl List.not_mem_nil (by simp only [upd_get, ↓iop_and, ↓iop_or, ↓iop_xor, ↓iop_andn, Nat.reduceEqDiff, reduceIte, Nat.reduceAdd, Nat.reduceMul, Nat.reduceSub, Nat.reduceLT, Nat.reduceLeDiff, if_true, if_false] <;> rfl) (TmL.of_eq (by first | rfl | (simp only [List.flatMap_append, List.flatMap_cons, List.flatMap_nil, List.map_append, List.map_cons, List.map_nil, List.append_nil, List.nil_append]; done) | (simp only [List.flatMap_append, List.flatMap_cons, List.flatMap_nil, List.map_append, List.map_cons, List.map_nil, List.append_nil, List.nil_append]; rfl)) (vu_clean _))) (tmAllU 10 (tmAllU 9 (tmAllU 8 (tmAllU 5 (tmAllU 3 tmAll0 (Tm.refL rfl ?_)) (Tm.v _)) (Tm.clean (Clean.imm (vi_clean _)))) (Tm.v _)) (Tm.v _)); all_goals (first | rfl | (simp only [List.length_take]; omega) | (simp only [List.length_append, List.length_cons, List.length_nil, List.length_modify, List.length_set, Nat.zero_add]; done) | (simp only [List.length_append, List.length_take, List.length_drop, List.length_cons, List.length_nil, List.length_modify, List.length_set, Nat.zero_add]; omega) | omega))⟩
     ·
      rintro _ rfl
      clear hi6
      unfold bitmap_holes_S4
      refine awp_nr1 [3,5,8,9,10] (fun _ => rfl) fun tz => ?_
      refine awp_reg1 fun KK hKK => ?_
      refine xw_id ?_
      obtain ⟨x35, bx35, hi5⟩ := bnd hi5
      obtain ⟨fx35_0, fx35_1, fx35_2, fx35_3⟩ := idx_some bx35
      have fx35_5 : ((0 : Int) < (((d32).length : Nat) : Int)) = True := by first | exact fx35_1 | (simp [List.length_modify, List.length_set]; omega)
      simp only [Int.reduceToNat] at fx35_2 fx35_3
      have gs10 : (0 + 1 ≤ d32.length) = True := eq_true (by (try simp only [List.length_modify, List.length_set]); omega)
      have gm11 : (d32.set 0 (IntKind.wrap .u8 x30))[0]? = some (IntKind.wrap .u8 x30) := getSet _ fx35_2
      try simp only [go_sem, ↓iop_and, ↓iop_or, ↓iop_xor, ↓iop_andn, Nat.reduceEqDiff, reduceIte, Nat.reduceAdd, Nat.reduceMul, Nat.reduceSub, Nat.reduceLT, Nat.reduceLeDiff, Int.reduceToNat, Int.reduceBEq, Int.reduceBNe, Int.reduceLT, Int.reduceLE, Int.reduceAdd, Int.reduceSub, Int.reduceMul, Int.reduceNeg, Int.reduceEq, Int.reduceNe, fx35_0, fx35_1, fx35_2, fx35_5, gs10, gm11]
      refine hKK _ ?_; clear hKK KK
      refine bq_n ?_
      refine sq_n ?_
      obtain rfl := someInj hi5
      exact ⟨_, rfl, (by refine Wk.canonD [] [] [some 0] rfl trivial rfl (tmOU 0 tmO0 rfl List.not_mem_nil (by simp only [upd_get, ↓iop_and, ↓iop_or, ↓iop_xor, ↓iop_andn, Nat.reduceEqDiff, reduceIte, Nat.reduceAdd, Nat.reduceMul, Nat.reduceSub, Nat.reduceLT, Nat.reduceLeDiff, if_true, if_false] <;> rfl) (TmL.of_eq (by first | rfl | (simp only [List.flatMap_append, List.flatMap_cons, List.flatMap_nil, List.map_append, List.map_cons, List.map_nil, List.append_nil, List.nil_append]; done) | (simp only [List.flatMap_append, List.flatMap_cons, List.flatMap_nil, List.map_append, List.map_cons, List.map_nil, List.append_nil, List.nil_append]; rfl)) (vu_clean _))) (tmAllU 10 (tmAllU 9 (tmAllU 8 (tmAllU 3 tmAll0 (Tm.refL rfl ?_)) (Tm.clean (Clean.imm (vi_clean _)))) (Tm.v _)) (Tm.v _)); all_goals (first | rfl | (simp only [List.length_take]; omega) | (simp only [List.length_append, List.length_cons, List.length_nil, List.length_modify, List.length_set, Nat.zero_add]; done) | (simp only [List.length_append, List.length_take, List.length_drop, List.length_cons, List.length_nil, List.length_modify, List.length_set, Nat.zero_add]; omega) | omega))⟩
    ·
     rintro _ rfl
     clear hi5
     unfold bitmap_holes_S3
     refine awp_nr1 [3,8,9,10] (fun _ => rfl) fun tz => ?_
     refine awp_reg1 fun KK hKK => ?_
     refine xw_id ?_
     try simp only [go_sem, ↓iop_and, ↓iop_or, ↓iop_xor, ↓iop_andn, Nat.reduceEqDiff, reduceIte, Nat.reduceAdd, Nat.reduceMul, Nat.reduceSub, Nat.reduceLT, Nat.reduceLeDiff]
     refine hKK _ ?_; clear hKK KK
     refine lq_n ?_
     exact ⟨n2, (d29, IntKind.wrap .i64 (d28.2 + 1)), rfl, hl3, (by refine Wk.canonD [] [] [some 0] rfl trivial rfl (tmOU 0 tmO0 rfl List.not_mem_nil (by simp only [upd_get, ↓iop_and, ↓iop_or, ↓iop_xor, ↓iop_andn, Nat.reduceEqDiff, reduceIte, Nat.reduceAdd, Nat.reduceMul, Nat.reduceSub, Nat.reduceLT, Nat.reduceLeDiff, if_true, if_false] <;> rfl) (TmL.of_eq (by first | rfl | (simp only [List.flatMap_append, List.flatMap_cons, List.flatMap_nil, List.map_append, List.map_cons, List.map_nil, List.append_nil, List.nil_append]; done) | (simp only [List.flatMap_append, List.flatMap_cons, List.flatMap_nil, List.map_append, List.map_cons, List.map_nil, List.append_nil, List.nil_append]; rfl)) (vu_clean _))) (tmAllU 10 (tmAllU 9 (tmAllU 8 (tmAllU 3 tmAll0 (Tm.refL rfl ?_)) (Tm.clean (Clean.imm (vi_clean _)))) (Tm.v _)) (Tm.v _)); all_goals (first | rfl | (simp only [List.length_take]; omega) | (simp only [List.length_append, List.length_cons, List.length_nil, List.length_modify, List.length_set, Nat.zero_add]; done) | (simp only [List.length_append, List.length_take, List.length_drop, List.length_cons, List.length_nil, List.length_modify, List.length_set, Nat.zero_add]; omega) | omega))⟩
   ·
    have hl3 := cF hl3 h4
    refine awp_exit ?_
    refine lq_e ?_
    refine bq_e ?_
    refine sq_n ?_
    obtain rfl := someInj hl3
    exact ⟨_, rfl, (by refine Wk.canonD [] [] [some 0] rfl trivial rfl (tmOU 0 tmO0 rfl List.not_mem_nil (by simp only [upd_get, ↓iop_and, ↓iop_or, ↓iop_xor, ↓iop_andn, Nat.reduceEqDiff, reduceIte, Nat.reduceAdd, Nat.reduceMul, Nat.reduceSub, Nat.reduceLT, Nat.reduceLeDiff, if_true, if_false] <;> rfl) (TmL.of_eq (by first | rfl | (simp only [List.flatMap_append, List.flatMap_cons, List.flatMap_nil, List.map_append, List.map_cons, List.map_nil, List.append_nil, List.nil_append]; done) | (simp only [List.flatMap_append, List.flatMap_cons, List.flatMap_nil, List.map_append, List.map_cons, List.map_nil, List.append_nil, List.nil_append]; rfl)) (vu_clean _))) (tmAllU 3 tmAll0 (Tm.refL rfl ?_)); all_goals (first | rfl | (simp only [List.length_take]; omega) | (simp only [List.length_append, List.length_cons, List.length_nil, List.length_modify, List.length_set, Nat.zero_add]; done) | (simp only [List.length_append, List.length_take, List.length_drop, List.length_cons, List.length_nil, List.length_modify, List.length_set, Nat.zero_add]; omega) | omega))⟩
 ·
  rintro _ rfl
  clear hi1
  unfold bitmap_holes_S0
  refine awp_nr [3] (fun _ => rfl) fun tz => ?_
  refine awp_regW fun KK hKK => ?_
  refine xw_id ?_
  obtain ⟨x36, bx36, h0⟩ := bnd h0
  obtain ⟨fx36_0, fx36_1, fx36_2, fx36_3⟩ := idx_some bx36
  have fx36_5 : ((1 : Int) < (((d27).length : Nat) : Int)) = True := by first | exact fx36_1 | (simp [List.length_modify, List.length_set]; omega)
  simp only [Int.reduceToNat] at fx36_2 fx36_3
  have gs12 : (1 + 1 ≤ d27.length) = True := eq_true (by (try simp only [List.length_modify, List.length_set]); omega)
  have gm13 : (d27.set 1 (IntKind.wrap .u8 (IntKind.wrap .i64 ((((d27).length : Nat) : Int) - 2))))[1]? = some (IntKind.wrap .u8 (IntKind.wrap .i64 ((((d27).length : Nat) : Int) - 2))) := getSet _ fx36_2
  try simp only [go_sem, ↓iop_and, ↓iop_or, ↓iop_xor, ↓iop_andn, Nat.reduceEqDiff, reduceIte, Nat.reduceAdd, Nat.reduceMul, Nat.reduceSub, Nat.reduceLT, Nat.reduceLeDiff, Int.reduceToNat, Int.reduceBEq, Int.reduceBNe, Int.reduceLT, Int.reduceLE, Int.reduceAdd, Int.reduceSub, Int.reduceMul, Int.reduceNeg, Int.reduceEq, Int.reduceNe, fx36_0, fx36_1, fx36_2, fx36_5, gs12, gm13]
  refine hKK _ _ (Wk.refl _ _ _) ?_; clear hKK KK
  refine awp_nr [3] (fun _ => rfl) fun tz => ?_
  refine awp_regW fun KK hKK => ?_
  refine xw_id ?_
  try simp only [go_sem, ↓iop_and, ↓iop_or, ↓iop_xor, ↓iop_andn, Nat.reduceEqDiff, reduceIte, Nat.reduceAdd, Nat.reduceMul, Nat.reduceSub, Nat.reduceLT, Nat.reduceLeDiff, fx36_0, fx36_1, fx36_2, fx36_5, gm13]
  refine hKK _ _ (Wk.refl _ _ _) ?_; clear hKK KK
  refine awp_ret1 ?_
  obtain rfl := someInj h0
  refine endW_i ?_
  refine end_ret0 rs47 (rfl) ?_
  refine Res.mk [] [some 0] rfl (resOU List.not_mem_nil (by simp only [upd_get, ↓iop_and, ↓iop_or, ↓iop_xor, ↓iop_andn, Nat.reduceEqDiff, reduceIte, Nat.reduceAdd, Nat.reduceMul, Nat.reduceSub, Nat.reduceLT, Nat.reduceLeDiff, if_true, if_false] <;> rfl) (TmL.of_eq (by first | rfl | (simp only [List.flatMap_append, List.flatMap_cons, List.flatMap_nil, List.map_append, List.map_cons, List.map_nil, List.append_nil, List.nil_append]; done) | (simp only [List.flatMap_append, List.flatMap_cons, List.flatMap_nil, List.map_append, List.map_cons, List.map_nil, List.append_nil, List.nil_append]; rfl)) (vu_clean _)) resO0) (Tm.refL rfl ?_)
  all_goals (first | rfl | (simp only [List.length_take]; omega) | (simp only [List.length_append, List.length_cons, List.length_nil, List.length_modify, List.length_set, Nat.zero_add]; done) | (simp only [List.length_append, List.length_take, List.length_drop, List.length_cons, List.length_nil, List.length_modify, List.length_set, Nat.zero_add]; omega) | omega)

theorem bitmap_holes_m (a0 : (List Int)) {r : (List Int)} (h0 : bitmap_holes a0 = some r) : SndM K 47 [(S_vi a0)] (fun q => (.ref (q 0) 0 r.length 1)) [(List.map vu r)] :=
 fun hs => Snd.of_newM (RenM.ref 0 0 _ _) (rows_all_cons (vu_clean _) rows_all_nil) (clean_cons (S_vi_clean _) clean_nil) (bitmap_holes_r a0 h0) hs

theorem bitmap_holes_e (a0 : (List Int)) {r : (List Int)} (h0 : bitmap_holes a0 = some r) (fr : Nat) (hs : HS) : SndE K 47 [(S_vi a0)] hs fr ⟨(fun q : Nat → Nat => (.ref (q 0) 0 r.length 1)) fun _ => fr, .new (List.map vu r)⟩ :=
 SndE.of_res (RenM.ref 0 0 _ _) (vu_clean _) (clean_cons (S_vi_clean _) clean_nil) (fun a b h => by simp only [h]) (bitmap_holes_r a0 h0) hs fr

theorem bitmap_holes_p (a0 : (List Int)) {r : (List Int)} (h0 : bitmap_holes a0 = some r) : SndP K 47 [(S_vi a0)] (S_vu r) :=
 SndM.pure (bitmap_holes_m a0 h0) (S_vu_clean _) (clean_cons (S_vi_clean _) clean_nil) (by simp only [go_sem, newL_n, newL_c, upd_get, fz, nilS, cond_true, cond_false, List.drop_zero, List.take_length, List.length_map, ble_self, ↓iop_and, ↓iop_or, ↓iop_xor, ↓iop_andn, Nat.reduceEqDiff, reduceIte, Nat.reduceAdd, Nat.reduceMul, Nat.reduceSub, Nat.reduceLT, Nat.reduceLeDiff] <;> rfl)

end Go.AX.Z.TE

/-! (TEW bitmap EncodeAs) -/

set_option linter.unusedSimpArgs false
set_option linter.unusedVariables false
set_option maxHeartbeats 4000000
namespace Go.AX.Z.TE
open Go.AX Go.Proofs
attribute [local irreducible] awp xw xop xcall gsp ob xd xdop xcallD seqQ loopQ blkQ endQ

def bitmap_EncodeAs_S0 (a0 : Traffic) (a1 : Int) (d2 : Int) : AS :=
 { objs := (upd (fun _ => .dead) 0 (.live (e_Traffic a0 (.imm (List.map vi a0.Aids) a0.Aids.length)))), next := 1, tmps := (upd (upd (upd (fun _ => .unk) 1 (vu a1)) 2 (.ptr 0 0)) 7 (vu d2)) }

theorem bitmap_EncodeAs_r (a0 : Traffic) (a1 : Int) {r : ((List Int) × Int)} (h0 : bitmap_EncodeAs a0 a1 = some r) : SndR K 11 [(.agg (E_Traffic a0)), (vu a1)] (fun q => (.tup [(.ref (q 0) 0 r.1.length 1), (vi r.2)])) [(List.map vu r.1)] := by
 refine SndR.of_walkW hC (show K.P.funcs[11]? = some Try.f11 from Try.func11) rfl rfl (by decide +kernel) (Nat.le_of_ble_eq_true rfl) ?_
 unfold bitmap_EncodeAs at h0
 refine awp_nr [0,1] (fun _ => rfl) fun tz => ?_
 refine awp_regW fun KK hKK => ?_
 refine xw_id ?_
 try simp only [go_sem, ↓iop_and, ↓iop_or, ↓iop_xor, ↓iop_andn, Nat.reduceEqDiff, reduceIte, Nat.reduceAdd, Nat.reduceMul, Nat.reduceSub, Nat.reduceLT, Nat.reduceLeDiff]
 refine hKK _ _ (Wk.refl _ _ _) ?_; clear hKK KK
 refine awp_assoc ?_
 refine awp_nr [1,2] (fun _ => rfl) fun tz => ?_
 refine awp_regW fun KK hKK => ?_
 refine xw_id ?_
 obtain ⟨x1, bx1, h0⟩ := bnd h0
 try simp only [go_sem, ↓iop_and, ↓iop_or, ↓iop_xor, ↓iop_andn, Nat.reduceEqDiff, reduceIte, Nat.reduceAdd, Nat.reduceMul, Nat.reduceSub, Nat.reduceLT, Nat.reduceLeDiff]
 refine xcall_p (bitmap_Check_p a0 bx1) ?_; try dsimp only
 try refine xw_id ?_
 try simp only [go_sem, ↓iop_and, ↓iop_or, ↓iop_xor, ↓iop_andn, Nat.reduceEqDiff, reduceIte, Nat.reduceAdd, Nat.reduceMul, Nat.reduceSub, Nat.reduceLT, Nat.reduceLeDiff]
 refine hKK _ _ (Wk.refl _ _ _) ?_; clear hKK KK
 refine awp_assoc ?_
 refine awp_nr [1,2,6] (fun _ => rfl) fun tz => ?_
 refine awp_regW fun KK hKK => ?_
 refine xw_id ?_
 try simp only [go_sem, ↓iop_and, ↓iop_or, ↓iop_xor, ↓iop_andn, Nat.reduceEqDiff, reduceIte, Nat.reduceAdd, Nat.reduceMul, Nat.reduceSub, Nat.reduceLT, Nat.reduceLeDiff]
 refine hKK _ _ (Wk.refl _ _ _) ?_; clear hKK KK
 refine awp_cond (b := (x1 != 0)) rfl (fun h1 => ?_) (fun h1 => ?_)
 ·
  have h0 := cT h0 h1
  refine awp_assoc ?_
  refine awp_nr [6] (fun _ => rfl) fun tz => ?_
  refine awp_regW fun KK hKK => ?_
  refine xw_id ?_
  try simp only [go_sem, ↓iop_and, ↓iop_or, ↓iop_xor, ↓iop_andn, Nat.reduceEqDiff, reduceIte, Nat.reduceAdd, Nat.reduceMul, Nat.reduceSub, Nat.reduceLT, Nat.reduceLeDiff]
  refine hKK _ _ (Wk.refl _ _ _) ?_; clear hKK KK
  refine awp_ret ?_
  obtain rfl := someInj h0
  refine endW_i ?_
  refine end_ret0 rs11 (rfl) ?_
  refine Res.mk [] [none] rfl (resON resO0) (Tm.tup (TmL.cons (Tm.thaw _ _ _) (TmL.cons (Tm.v _) TmL.nil)))
 ·
  have h0 := cF h0 h1
  refine awp_skip ?_
  refine awp_assoc ?_
  refine awp_nr [1,2] (fun _ => rfl) fun tz => ?_
  refine awp_regW fun KK hKK => ?_
  refine xw_id ?_
  try simp only [go_sem, ↓iop_and, ↓iop_or, ↓iop_xor, ↓iop_andn, Nat.reduceEqDiff, reduceIte, Nat.reduceAdd, Nat.reduceMul, Nat.reduceSub, Nat.reduceLT, Nat.reduceLeDiff]
  refine hKK _ _ (Wk.refl _ _ _) ?_; clear hKK KK
  refine awp_cond (b := (decide (3 < a1))) rfl (fun h2 => ?_) (fun h2 => ?_)
  ·
   have h0 := cT h0 h2
   refine awp_assoc ?_
   refine awp_nr [] (fun _ => rfl) fun tz => ?_
   refine awp_regW fun KK hKK => ?_
   refine xw_id ?_
   try simp only [go_sem, ↓iop_and, ↓iop_or, ↓iop_xor, ↓iop_andn, Nat.reduceEqDiff, reduceIte, Nat.reduceAdd, Nat.reduceMul, Nat.reduceSub, Nat.reduceLT, Nat.reduceLeDiff]
   refine hKK _ _ (Wk.refl _ _ _) ?_; clear hKK KK
   refine awp_ret ?_
   obtain rfl := someInj h0
   refine endW_i ?_
   refine end_ret0 rs11 (rfl) ?_
   refine Res.mk [] [none] rfl (resON resO0) (Tm.tup (TmL.cons (Tm.thaw _ _ _) (TmL.cons (Tm.v _) TmL.nil)))
  ·
   have h0 := cF h0 h2
   refine awp_skip ?_
   refine awp_nr [1,2] (fun _ => rfl) fun tz => ?_
   refine awp_regW fun KK hKK => ?_
   refine xw_id ?_
   try simp only [go_sem, ↓iop_and, ↓iop_or, ↓iop_xor, ↓iop_andn, Nat.reduceEqDiff, reduceIte, Nat.reduceAdd, Nat.reduceMul, Nat.reduceSub, Nat.reduceLT, Nat.reduceLeDiff]
   refine hKK _ _ (Wk.refl _ _ _) ?_; clear hKK KK
   refine awp_assoc ?_
   refine awp_nr [1,2,7] (fun _ => rfl) fun tz => ?_
   refine awp_regW fun KK hKK => ?_
   refine xw_id ?_
   try simp only [go_sem, ↓iop_and, ↓iop_or, ↓iop_xor, ↓iop_andn, Nat.reduceEqDiff, reduceIte, Nat.reduceAdd, Nat.reduceMul, Nat.reduceSub, Nat.reduceLT, Nat.reduceLeDiff]
   refine hKK _ _ (Wk.refl _ _ _) ?_; clear hKK KK
   obtain ⟨d2, hi3, h0⟩ := bnd h0
   refine awp_cut (fun z => d2 = z) (fun d2 : Int => bitmap_EncodeAs_S0 a0 a1 d2) ?_ ?_
   ·
    refine awp_cond1 (b := a0.Group) rfl (fun h4 => ?_) (fun h4 => ?_)
    ·
     have hi3 := cT hi3 h4
     refine awp_nr1 [1,2,7] (fun _ => rfl) fun tz => ?_
     refine awp_reg1 fun KK hKK => ?_
     refine xw_id ?_
     try simp only [go_sem, ↓iop_and, ↓iop_or, ↓iop_xor, ↓iop_andn, Nat.reduceEqDiff, reduceIte, Nat.reduceAdd, Nat.reduceMul, Nat.reduceSub, Nat.reduceLT, Nat.reduceLeDiff]
     refine hKK _ ?_; clear hKK KK
     refine sq_n ?_
     obtain rfl := someInj hi3
     exact ⟨_, rfl, (Wk.canonD [] [] [some 0] rfl trivial rfl (tmOU 0 tmO0 rfl List.not_mem_nil (by simp only [upd_get, ↓iop_and, ↓iop_or, ↓iop_xor, ↓iop_andn, Nat.reduceEqDiff, reduceIte, Nat.reduceAdd, Nat.reduceMul, Nat.reduceSub, Nat.reduceLT, Nat.reduceLeDiff, if_true, if_false] <;> rfl) (e_Traffic_tmx (by rfl) (Tm.clean (Clean.imm (vi_clean _))))) (tmAllU 7 (tmAllU 2 (tmAllU 1 tmAll0 (Tm.v _)) (Tm.ptr rfl)) (Tm.v _)))⟩
    ·
     have hi3 := cF hi3 h4
     refine awp_skip1 ?_
     refine sq_n ?_
     obtain rfl := someInj hi3
     exact ⟨_, rfl, (Wk.canonD [] [] [some 0] rfl trivial rfl (tmOU 0 tmO0 rfl List.not_mem_nil (by simp only [upd_get, ↓iop_and, ↓iop_or, ↓iop_xor, ↓iop_andn, Nat.reduceEqDiff, reduceIte, Nat.reduceAdd, Nat.reduceMul, Nat.reduceSub, Nat.reduceLT, Nat.reduceLeDiff, if_true, if_false] <;> rfl) (e_Traffic_tmx (by rfl) (Tm.clean (Clean.imm (vi_clean _))))) (tmAllU 7 (tmAllU 2 (tmAllU 1 tmAll0 (Tm.v _)) (Tm.ptr rfl)) (Tm.v _)))⟩
   ·
    rintro _ rfl
    clear hi3
    unfold bitmap_EncodeAs_S0
    refine awp_nr [1,2,7] (fun _ => rfl) fun tz => ?_
    refine awp_regDW fun KK hKK all hall => ?_
    refine xd_id ?_
    try simp only [List.toList_toArray, List.map_cons, List.map_nil, List.size_toArray, List.length_cons, List.length_nil, Nat.zero_add]
    try simp only [Nat.reduceAdd]
    obtain ⟨x3, bx3, h0⟩ := bnd h0
    simp only [go_sem, ↓iop_and, ↓iop_or, ↓iop_xor, ↓iop_andn, Nat.reduceEqDiff, reduceIte, Nat.reduceMul, Nat.reduceSub, Nat.reduceLT, Nat.reduceLeDiff]
    try simp only [Nat.reduceAdd]
    try simp only [go_sem, ↓iop_and, ↓iop_or, ↓iop_xor, ↓iop_andn, Nat.reduceEqDiff, reduceIte, Nat.reduceMul, Nat.reduceSub, Nat.reduceLT, Nat.reduceLeDiff]
    try simp only [Nat.reduceAdd]
    try simp only [go_sem, ↓iop_and, ↓iop_or, ↓iop_xor, ↓iop_andn, Nat.reduceEqDiff, reduceIte, Nat.reduceMul, Nat.reduceSub, Nat.reduceLT, Nat.reduceLeDiff]
    refine xcallD_p (bitmap_encoders_p  bx3) ?_; try dsimp only
    try refine xd_id ?_
    obtain ⟨x4, bx4, h0⟩ := bnd h0
    have bx4 := chk_some bx4
    simp only [Bool.and_eq_true, decide_eq_true_eq] at bx4
    obtain ⟨gx4_0, gx4_1⟩ := bx4
    rcases Bool.eq_false_or_eq_true (a1 == 0) with h6 | h6
    ·
     have h0 := cT h0 h6
     have h6 := eq_of_beq h6
     have gi5 : (a1).toNat = 0 := by omega
     obtain ⟨x5, bx5, h0⟩ := bnd h0
     simp only [go_sem, ↓iop_and, ↓iop_or, ↓iop_xor, ↓iop_andn, Nat.reduceEqDiff, reduceIte, Nat.reduceMul, Nat.reduceSub, Nat.reduceLT, Nat.reduceLeDiff, Int.reduceToNat, Int.reduceBEq, Int.reduceBNe, Int.reduceLT, Int.reduceLE, Int.reduceAdd, Int.reduceSub, Int.reduceMul, Int.reduceNeg, Int.reduceEq, Int.reduceNe, gx4_0, gx4_1, gi5]
     try simp only [Nat.reduceAdd]
     try simp only [go_sem, ↓iop_and, ↓iop_or, ↓iop_xor, ↓iop_andn, Nat.reduceEqDiff, reduceIte, Nat.reduceMul, Nat.reduceSub, Nat.reduceLT, Nat.reduceLeDiff, Int.reduceToNat, Int.reduceBEq, Int.reduceBNe, Int.reduceLT, Int.reduceLE, Int.reduceAdd, Int.reduceSub, Int.reduceMul, Int.reduceNeg, Int.reduceEq, Int.reduceNe, gx4_0, gx4_1, gi5]
     try simp only [Nat.reduceAdd]
     try simp only [go_sem, ↓iop_and, ↓iop_or, ↓iop_xor, ↓iop_andn, Nat.reduceEqDiff, reduceIte, Nat.reduceMul, Nat.reduceSub, Nat.reduceLT, Nat.reduceLeDiff, Int.reduceToNat, Int.reduceBEq, Int.reduceBNe, Int.reduceLT, Int.reduceLE, Int.reduceAdd, Int.reduceSub, Int.reduceMul, Int.reduceNeg, Int.reduceEq, Int.reduceNe, gx4_0, gx4_1, gi5]
     refine xcallD_E (bitmap_full_e a0.Aids bx5 _) ?_; try dsimp only
     try refine xd_id ?_
     obtain ⟨x6, bx6, h0⟩ := bnd h0
     have bx6 := chk_some bx6
     simp only [Bool.and_eq_true, decide_eq_true_eq] at bx6
     have gx6_0 := bx6
     simp only [go_sem, ↓iop_and, ↓iop_or, ↓iop_xor, ↓iop_andn, Nat.reduceEqDiff, reduceIte, Nat.reduceMul, Nat.reduceSub, Nat.reduceLT, Nat.reduceLeDiff, Int.reduceToNat, Int.reduceBEq, Int.reduceBNe, Int.reduceLT, Int.reduceLE, Int.reduceAdd, Int.reduceSub, Int.reduceMul, Int.reduceNeg, Int.reduceEq, Int.reduceNe, gx4_0, gx4_1, gi5, gx6_0]
     try simp only [Nat.reduceAdd]
     try simp only [go_sem, ↓iop_and, ↓iop_or, ↓iop_xor, ↓iop_andn, Nat.reduceEqDiff, reduceIte, Nat.reduceMul, Nat.reduceSub, Nat.reduceLT, Nat.reduceLeDiff, Int.reduceToNat, Int.reduceBEq, Int.reduceBNe, Int.reduceLT, Int.reduceLE, Int.reduceAdd, Int.reduceSub, Int.reduceMul, Int.reduceNeg, Int.reduceEq, Int.reduceNe, gx4_0, gx4_1, gi5, gx6_0]
     try simp only [Nat.reduceAdd]
     try simp only [go_sem, ↓iop_and, ↓iop_or, ↓iop_xor, ↓iop_andn, Nat.reduceEqDiff, reduceIte, Nat.reduceMul, Nat.reduceSub, Nat.reduceLT, Nat.reduceLeDiff, Int.reduceToNat, Int.reduceBEq, Int.reduceBNe, Int.reduceLT, Int.reduceLE, Int.reduceAdd, Int.reduceSub, Int.reduceMul, Int.reduceNeg, Int.reduceEq, Int.reduceNe, gx4_0, gx4_1, gi5, gx6_0]
     refine And.intro ?_ (hKK _ _ (Wk.refl _ _ _) ?_)
     ·
      subst hall
      clear hKK KK
      first | (simp [printsOk, apartP, clash, meet]; done) | (simp [printsOk, apartP, clash, meet]; decide +kernel) | decide +kernel
     ·
      clear hKK KK hall all
      refine awp_ret1 ?_
      obtain rfl := someInj h0
      refine endW_i ?_
      refine end_ret0 rs11 (rfl) ?_
      refine Res.mk [] [some 9] rfl (resOU List.not_mem_nil (by simp only [upd_get, ↓iop_and, ↓iop_or, ↓iop_xor, ↓iop_andn, Nat.reduceEqDiff, reduceIte, Nat.reduceAdd, Nat.reduceMul, Nat.reduceSub, Nat.reduceLT, Nat.reduceLeDiff, if_true, if_false] <;> rfl) (TmL.of_eq (by first | rfl | (simp only [List.flatMap_append, List.flatMap_cons, List.flatMap_nil, List.map_append, List.map_cons, List.map_nil, List.append_nil, List.nil_append]; done) | (simp only [List.flatMap_append, List.flatMap_cons, List.flatMap_nil, List.map_append, List.map_cons, List.map_nil, List.append_nil, List.nil_append]; rfl)) (vu_clean _)) resO0) (Tm.tup (TmL.cons (Tm.refL rfl ?_) (TmL.cons (Tm.v _) TmL.nil)))
      all_goals (first | rfl | (simp only [List.length_take]; omega) | (simp only [List.length_append, List.length_cons, List.length_nil, List.length_modify, List.length_set, Nat.zero_add]; done) | (simp only [List.length_append, List.length_take, List.length_drop, List.length_cons, List.length_nil, List.length_modify, List.length_set, Nat.zero_add]; omega) | omega)
    ·
     have h0 := cF h0 h6
     have h6 : ¬ a1 = 0 := by simpa using h6
     rcases Bool.eq_false_or_eq_true (a1 == 1) with h8 | h8
     ·
      have h0 := cT h0 h8
      have h8 := eq_of_beq h8
      have gi7 : (a1).toNat = 1 := by omega
      obtain ⟨x7, bx7, h0⟩ := bnd h0
      simp only [go_sem, ↓iop_and, ↓iop_or, ↓iop_xor, ↓iop_andn, Nat.reduceEqDiff, reduceIte, Nat.reduceMul, Nat.reduceSub, Nat.reduceLT, Nat.reduceLeDiff, Int.reduceToNat, Int.reduceBEq, Int.reduceBNe, Int.reduceLT, Int.reduceLE, Int.reduceAdd, Int.reduceSub, Int.reduceMul, Int.reduceNeg, Int.reduceEq, Int.reduceNe, gx4_0, gx4_1, gi7]
      try simp only [Nat.reduceAdd]
      try simp only [go_sem, ↓iop_and, ↓iop_or, ↓iop_xor, ↓iop_andn, Nat.reduceEqDiff, reduceIte, Nat.reduceMul, Nat.reduceSub, Nat.reduceLT, Nat.reduceLeDiff, Int.reduceToNat, Int.reduceBEq, Int.reduceBNe, Int.reduceLT, Int.reduceLE, Int.reduceAdd, Int.reduceSub, Int.reduceMul, Int.reduceNeg, Int.reduceEq, Int.reduceNe, gx4_0, gx4_1, gi7]
      try simp only [Nat.reduceAdd]
      try simp only [go_sem, ↓iop_and, ↓iop_or, ↓iop_xor, ↓iop_andn, Nat.reduceEqDiff, reduceIte, Nat.reduceMul, Nat.reduceSub, Nat.reduceLT, Nat.reduceLeDiff, Int.reduceToNat, Int.reduceBEq, Int.reduceBNe, Int.reduceLT, Int.reduceLE, Int.reduceAdd, Int.reduceSub, Int.reduceMul, Int.reduceNeg, Int.reduceEq, Int.reduceNe, gx4_0, gx4_1, gi7]
      refine xcallD_E (bitmap_part_e a0.Aids bx7 _) ?_; try dsimp only
      try refine xd_id ?_
      obtain ⟨x8, bx8, h0⟩ := bnd h0
      have bx8 := chk_some bx8
      simp only [Bool.and_eq_true, decide_eq_true_eq] at bx8
      have gx8_0 := bx8
      simp only [go_sem, ↓iop_and, ↓iop_or, ↓iop_xor, ↓iop_andn, Nat.reduceEqDiff, reduceIte, Nat.reduceMul, Nat.reduceSub, Nat.reduceLT, Nat.reduceLeDiff, Int.reduceToNat, Int.reduceBEq, Int.reduceBNe, Int.reduceLT, Int.reduceLE, Int.reduceAdd, Int.reduceSub, Int.reduceMul, Int.reduceNeg, Int.reduceEq, Int.reduceNe, gx4_0, gx4_1, gi7, gx8_0]
      try simp only [Nat.reduceAdd]
      try simp only [go_sem, ↓iop_and, ↓iop_or, ↓iop_xor, ↓iop_andn, Nat.reduceEqDiff, reduceIte, Nat.reduceMul, Nat.reduceSub, Nat.reduceLT, Nat.reduceLeDiff, Int.reduceToNat, Int.reduceBEq, Int.reduceBNe, Int.reduceLT, Int.reduceLE, Int.reduceAdd, Int.reduceSub, Int.reduceMul, Int.reduceNeg, Int.reduceEq, Int.reduceNe, gx4_0, gx4_1, gi7, gx8_0]
      try simp only [Nat.reduceAdd]
      try simp only [go_sem, ↓iop_and, ↓iop_or, ↓iop_xor, ↓iop_andn, Nat.reduceEqDiff, reduceIte, Nat.reduceMul, Nat.reduceSub, Nat.reduceLT, Nat.reduceLeDiff, Int.reduceToNat, Int.reduceBEq, Int.reduceBNe, Int.reduceLT, Int.reduceLE, Int.reduceAdd, Int.reduceSub, Int.reduceMul, Int.reduceNeg, Int.reduceEq, Int.reduceNe, gx4_0, gx4_1, gi7, gx8_0]
      refine And.intro ?_ (hKK _ _ (Wk.refl _ _ _) ?_)
      ·
       subst hall
       clear hKK KK
       first | (simp [printsOk, apartP, clash, meet]; done) | (simp [printsOk, apartP, clash, meet]; decide +kernel) | decide +kernel
      ·
       clear hKK KK hall all
       refine awp_ret1 ?_
       obtain rfl := someInj h0
       refine endW_i ?_
       refine end_ret0 rs11 (rfl) ?_
       refine Res.mk [] [some 9] rfl (resOU List.not_mem_nil (by simp only [upd_get, ↓iop_and, ↓iop_or, ↓iop_xor, ↓iop_andn, Nat.reduceEqDiff, reduceIte, Nat.reduceAdd, Nat.reduceMul, Nat.reduceSub, Nat.reduceLT, Nat.reduceLeDiff, if_true, if_false] <;> rfl) (TmL.of_eq (by first | rfl | (simp only [List.flatMap_append, List.flatMap_cons, List.flatMap_nil, List.map_append, List.map_cons, List.map_nil, List.append_nil, List.nil_append]; done) | (simp only [List.flatMap_append, List.flatMap_cons, List.flatMap_nil, List.map_append, List.map_cons, List.map_nil, List.append_nil, List.nil_append]; rfl)) (vu_clean _)) resO0) (Tm.tup (TmL.cons (Tm.refL rfl ?_) (TmL.cons (Tm.v _) TmL.nil)))
       all_goals (first | rfl | (simp only [List.length_take]; omega) | (simp only [List.length_append, List.length_cons, List.length_nil, List.length_modify, List.length_set, Nat.zero_add]; done) | (simp only [List.length_append, List.length_take, List.length_drop, List.length_cons, List.length_nil, List.length_modify, List.length_set, Nat.zero_add]; omega) | omega)
     ·
      have h0 := cF h0 h8
      have h8 : ¬ a1 = 1 := by simpa using h8
      rcases Bool.eq_false_or_eq_true (a1 == 2) with h10 | h10
      ·
       have h0 := cT h0 h10
       have h10 := eq_of_beq h10
       have gi9 : (a1).toNat = 2 := by omega
       obtain ⟨x9, bx9, h0⟩ := bnd h0
       simp only [go_sem, ↓iop_and, ↓iop_or, ↓iop_xor, ↓iop_andn, Nat.reduceEqDiff, reduceIte, Nat.reduceMul, Nat.reduceSub, Nat.reduceLT, Nat.reduceLeDiff, Int.reduceToNat, Int.reduceBEq, Int.reduceBNe, Int.reduceLT, Int.reduceLE, Int.reduceAdd, Int.reduceSub, Int.reduceMul, Int.reduceNeg, Int.reduceEq, Int.reduceNe, gx4_0, gx4_1, gi9]
       try simp only [Nat.reduceAdd]
       try simp only [go_sem, ↓iop_and, ↓iop_or, ↓iop_xor, ↓iop_andn, Nat.reduceEqDiff, reduceIte, Nat.reduceMul, Nat.reduceSub, Nat.reduceLT, Nat.reduceLeDiff, Int.reduceToNat, Int.reduceBEq, Int.reduceBNe, Int.reduceLT, Int.reduceLE, Int.reduceAdd, Int.reduceSub, Int.reduceMul, Int.reduceNeg, Int.reduceEq, Int.reduceNe, gx4_0, gx4_1, gi9]
       try simp only [Nat.reduceAdd]
       try simp only [go_sem, ↓iop_and, ↓iop_or, ↓iop_xor, ↓iop_andn, Nat.reduceEqDiff, reduceIte, Nat.reduceMul, Nat.reduceSub, Nat.reduceLT, Nat.reduceLeDiff, Int.reduceToNat, Int.reduceBEq, Int.reduceBNe, Int.reduceLT, Int.reduceLE, Int.reduceAdd, Int.reduceSub, Int.reduceMul, Int.reduceNeg, Int.reduceEq, Int.reduceNe, gx4_0, gx4_1, gi9]
       refine xcallD_E (bitmap_list_e a0.Aids bx9 _) ?_; try dsimp only
       try refine xd_id ?_
       obtain ⟨x10, bx10, h0⟩ := bnd h0
       have bx10 := chk_some bx10
       simp only [Bool.and_eq_true, decide_eq_true_eq] at bx10
       have gx10_0 := bx10
       simp only [go_sem, ↓iop_and, ↓iop_or, ↓iop_xor, ↓iop_andn, Nat.reduceEqDiff, reduceIte, Nat.reduceMul, Nat.reduceSub, Nat.reduceLT, Nat.reduceLeDiff, Int.reduceToNat, Int.reduceBEq, Int.reduceBNe, Int.reduceLT, Int.reduceLE, Int.reduceAdd, Int.reduceSub, Int.reduceMul, Int.reduceNeg, Int.reduceEq, Int.reduceNe, gx4_0, gx4_1, gi9, gx10_0]
       try simp only [Nat.reduceAdd]
       try simp only [go_sem, ↓iop_and, ↓iop_or, ↓iop_xor, ↓iop_andn, Nat.reduceEqDiff, reduceIte, Nat.reduceMul, Nat.reduceSub, Nat.reduceLT, Nat.reduceLeDiff, Int.reduceToNat, Int.reduceBEq, Int.reduceBNe, Int.reduceLT, Int.reduceLE, Int.reduceAdd, Int.reduceSub, Int.reduceMul, Int.reduceNeg, Int.reduceEq, Int.reduceNe, gx4_0, gx4_1, gi9, gx10_0]
       try simp only [Nat.reduceAdd]
       try simp only [go_sem, ↓iop_and, ↓iop_or, ↓iop_xor, ↓iop_andn, Nat.reduceEqDiff, reduceIte, Nat.reduceMul, Nat.reduceSub, Nat.reduceLT, Nat.reduceLeDiff, Int.reduceToNat, Int.reduceBEq, Int.reduceBNe, Int.reduceLT, Int.reduceLE, Int.reduceAdd, Int.reduceSub, Int.reduceMul, Int.reduceNeg, Int.reduceEq, Int.reduceNe, gx4_0, gx4_1, gi9, gx10_0]
       refine And.intro ?_ (hKK _ _ (Wk.refl _ _ _) ?_)
       ·
        subst hall
        clear hKK KK
        first | (simp [printsOk, apartP, clash, meet]; done) | (simp [printsOk, apartP, clash, meet]; decide +kernel) | decide +kernel
       ·
        clear hKK KK hall all
        refine awp_ret1 ?_
        obtain rfl := someInj h0
        refine endW_i ?_
        refine end_ret0 rs11 (rfl) ?_
        refine Res.mk [] [some 9] rfl (resOU List.not_mem_nil (by simp only [upd_get, ↓iop_and, ↓iop_or, ↓iop_xor, ↓iop_andn, Nat.reduceEqDiff, reduceIte, Nat.reduceAdd, Nat.reduceMul, Nat.reduceSub, Nat.reduceLT, Nat.reduceLeDiff, if_true, if_false] <;> rfl) (TmL.of_eq (by first | rfl | (simp only [List.flatMap_append, List.flatMap_cons, List.flatMap_nil, List.map_append, List.map_cons, List.map_nil, List.append_nil, List.nil_append]; done) | (simp only [List.flatMap_append, List.flatMap_cons, List.flatMap_nil, List.map_append, List.map_cons, List.map_nil, List.append_nil, List.nil_append]; rfl)) (vu_clean _)) resO0) (Tm.tup (TmL.cons (Tm.refL rfl ?_) (TmL.cons (Tm.v _) TmL.nil)))
        all_goals (first | rfl | (simp only [List.length_take]; omega) | (simp only [List.length_append, List.length_cons, List.length_nil, List.length_modify, List.length_set, Nat.zero_add]; done) | (simp only [List.length_append, List.length_take, List.length_drop, List.length_cons, List.length_nil, List.length_modify, List.length_set, Nat.zero_add]; omega) | omega)
      ·
       have h0 := cF h0 h10
       have h10 : ¬ a1 = 2 := by simpa using h10
       have gi11 : (a1).toNat = 3 := by omega
       obtain ⟨x11, bx11, h0⟩ := bnd h0
       simp only [go_sem, ↓iop_and, ↓iop_or, ↓iop_xor, ↓iop_andn, Nat.reduceEqDiff, reduceIte, Nat.reduceMul, Nat.reduceSub, Nat.reduceLT, Nat.reduceLeDiff, Int.reduceToNat, Int.reduceBEq, Int.reduceBNe, Int.reduceLT, Int.reduceLE, Int.reduceAdd, Int.reduceSub, Int.reduceMul, Int.reduceNeg, Int.reduceEq, Int.reduceNe, gx4_0, gx4_1, gi11]
       try simp only [Nat.reduceAdd]
       try simp only [go_sem, ↓iop_and, ↓iop_or, ↓iop_xor, ↓iop_andn, Nat.reduceEqDiff, reduceIte, Nat.reduceMul, Nat.reduceSub, Nat.reduceLT, Nat.reduceLeDiff, Int.reduceToNat, Int.reduceBEq, Int.reduceBNe, Int.reduceLT, Int.reduceLE, Int.reduceAdd, Int.reduceSub, Int.reduceMul, Int.reduceNeg, Int.reduceEq, Int.reduceNe, gx4_0, gx4_1, gi11]
       try simp only [Nat.reduceAdd]
       try simp only [go_sem, ↓iop_and, ↓iop_or, ↓iop_xor, ↓iop_andn, Nat.reduceEqDiff, reduceIte, Nat.reduceMul, Nat.reduceSub, Nat.reduceLT, Nat.reduceLeDiff, Int.reduceToNat, Int.reduceBEq, Int.reduceBNe, Int.reduceLT, Int.reduceLE, Int.reduceAdd, Int.reduceSub, Int.reduceMul, Int.reduceNeg, Int.reduceEq, Int.reduceNe, gx4_0, gx4_1, gi11]
       refine xcallD_E (bitmap_holes_e a0.Aids bx11 _) ?_; try dsimp only
       try refine xd_id ?_
       obtain ⟨x12, bx12, h0⟩ := bnd h0
       have bx12 := chk_some bx12
       simp only [Bool.and_eq_true, decide_eq_true_eq] at bx12
       have gx12_0 := bx12
       simp only [go_sem, ↓iop_and, ↓iop_or, ↓iop_xor, ↓iop_andn, Nat.reduceEqDiff, reduceIte, Nat.reduceMul, Nat.reduceSub, Nat.reduceLT, Nat.reduceLeDiff, Int.reduceToNat, Int.reduceBEq, Int.reduceBNe, Int.reduceLT, Int.reduceLE, Int.reduceAdd, Int.reduceSub, Int.reduceMul, Int.reduceNeg, Int.reduceEq, Int.reduceNe, gx4_0, gx4_1, gi11, gx12_0]
       try simp only [Nat.reduceAdd]
       try simp only [go_sem, ↓iop_and, ↓iop_or, ↓iop_xor, ↓iop_andn, Nat.reduceEqDiff, reduceIte, Nat.reduceMul, Nat.reduceSub, Nat.reduceLT, Nat.reduceLeDiff, Int.reduceToNat, Int.reduceBEq, Int.reduceBNe, Int.reduceLT, Int.reduceLE, Int.reduceAdd, Int.reduceSub, Int.reduceMul, Int.reduceNeg, Int.reduceEq, Int.reduceNe, gx4_0, gx4_1, gi11, gx12_0]
       try simp only [Nat.reduceAdd]
       try simp only [go_sem, ↓iop_and, ↓iop_or, ↓iop_xor, ↓iop_andn, Nat.reduceEqDiff, reduceIte, Nat.reduceMul, Nat.reduceSub, Nat.reduceLT, Nat.reduceLeDiff, Int.reduceToNat, Int.reduceBEq, Int.reduceBNe, Int.reduceLT, Int.reduceLE, Int.reduceAdd, Int.reduceSub, Int.reduceMul, Int.reduceNeg, Int.reduceEq, Int.reduceNe, gx4_0, gx4_1, gi11, gx12_0]
       refine And.intro ?_ (hKK _ _ (Wk.refl _ _ _) ?_)
       ·
        subst hall
        clear hKK KK
        first | (simp [printsOk, apartP, clash, meet]; done) | (simp [printsOk, apartP, clash, meet]; decide +kernel) | decide +kernel
       ·
        clear hKK KK hall all
        refine awp_ret1 ?_
        obtain rfl := someInj h0
        refine endW_i ?_
        refine end_ret0 rs11 (rfl) ?_
        refine Res.mk [] [some 9] rfl (resOU List.not_mem_nil (by simp only [upd_get, ↓iop_and, ↓iop_or, ↓iop_xor, ↓iop_andn, Nat.reduceEqDiff, reduceIte, Nat.reduceAdd, Nat.reduceMul, Nat.reduceSub, Nat.reduceLT, Nat.reduceLeDiff, if_true, if_false] <;> rfl) (TmL.of_eq (by first | rfl | (simp only [List.flatMap_append, List.flatMap_cons, List.flatMap_nil, List.map_append, List.map_cons, List.map_nil, List.append_nil, List.nil_append]; done) | (simp only [List.flatMap_append, List.flatMap_cons, List.flatMap_nil, List.map_append, List.map_cons, List.map_nil, List.append_nil, List.nil_append]; rfl)) (vu_clean _)) resO0) (Tm.tup (TmL.cons (Tm.refL rfl ?_) (TmL.cons (Tm.v _) TmL.nil)))
        all_goals (first | rfl | (simp only [List.length_take]; omega) | (simp only [List.length_append, List.length_cons, List.length_nil, List.length_modify, List.length_set, Nat.zero_add]; done) | (simp only [List.length_append, List.length_take, List.length_drop, List.length_cons, List.length_nil, List.length_modify, List.length_set, Nat.zero_add]; omega) | omega)

theorem bitmap_EncodeAs_m (a0 : Traffic) (a1 : Int) {r : ((List Int) × Int)} (h0 : bitmap_EncodeAs a0 a1 = some r) : SndM K 11 [(.agg (E_Traffic a0)), (vu a1)] (fun q => (.tup [(.ref (q 0) 0 r.1.length 1), (vi r.2)])) [(List.map vu r.1)] :=
 fun hs => Snd.of_newM (RenM.tup (RenML.cons (RenM.ref 0 0 _ _) (RenML.cons (RenM.const (Clean.v _)) RenML.nil))) (rows_all_cons (vu_clean _) rows_all_nil) (clean_cons (Clean.agg (E_Traffic_clean _)) (clean_cons (Clean.v _) clean_nil)) (bitmap_EncodeAs_r a0 a1 h0) hs

theorem bitmap_EncodeAs_e (a0 : Traffic) (a1 : Int) {r : ((List Int) × Int)} (h0 : bitmap_EncodeAs a0 a1 = some r) (fr : Nat) (hs : HS) : SndE K 11 [(.agg (E_Traffic a0)), (vu a1)] hs fr ⟨(fun q : Nat → Nat => (.tup [(.ref (q 0) 0 r.1.length 1), (vi r.2)])) fun _ => fr, .new (List.map vu r.1)⟩ :=
 SndE.of_res (RenM.tup (RenML.cons (RenM.ref 0 0 _ _) (RenML.cons (RenM.const (Clean.v _)) RenML.nil))) (vu_clean _) (clean_cons (Clean.agg (E_Traffic_clean _)) (clean_cons (Clean.v _) clean_nil)) (fun a b h => by simp only [h]) (bitmap_EncodeAs_r a0 a1 h0) hs fr

theorem bitmap_EncodeAs_p (a0 : Traffic) (a1 : Int) {r : ((List Int) × Int)} (h0 : bitmap_EncodeAs a0 a1 = some r) : SndP K 11 [(.agg (E_Traffic a0)), (vu a1)] (.tup [(S_vu r.1), (vi r.2)]) :=
 SndM.pure (bitmap_EncodeAs_m a0 a1 h0) (Clean.tup (clean_cons (S_vu_clean _) (clean_cons (Clean.v _) clean_nil))) (clean_cons (Clean.agg (E_Traffic_clean _)) (clean_cons (Clean.v _) clean_nil)) (by simp only [go_sem, newL_n, newL_c, upd_get, fz, nilS, cond_true, cond_false, List.drop_zero, List.take_length, List.length_map, ble_self, ↓iop_and, ↓iop_or, ↓iop_xor, ↓iop_andn, Nat.reduceEqDiff, reduceIte, Nat.reduceAdd, Nat.reduceMul, Nat.reduceSub, Nat.reduceLT, Nat.reduceLeDiff] <;> rfl)

end Go.AX.Z.TE

/-! (TEW bitmap Encode) -/

set_option linter.unusedSimpArgs false
set_option linter.unusedVariables false
set_option maxHeartbeats 4000000
namespace Go.AX.Z.TE
open Go.AX Go.Proofs
attribute [local irreducible] awp xw xop xcall gsp ob xd xdop xcallD seqQ loopQ blkQ endQ

def bitmap_Encode_S0 (d44 : (List Int × Bool)) : AS :=
 { objs := (upd (fun _ => .dead) 0 (.live (List.map vu d44.1))), next := 1, tmps := (upd (fun _ => .unk) 2 (nilOr d44.2 (.ref 0 0 ((d44.1).length) 1))) }

def bitmap_Encode_S1 (a0 : Traffic) (d46 : (List Int × Bool × Int)) : AS :=
 { objs := (upd (upd (fun _ => .dead) 0 (.live (e_Traffic a0 (.imm (List.map vi a0.Aids) a0.Aids.length)))) 1 (.live (List.map vu d46.1))), next := 2, tmps := (upd (upd (upd (fun _ => .unk) 1 (.ptr 0 0)) 2 (nilOr d46.2.1 (.ref 1 0 ((d46.1).length) 1))) 7 (vu d46.2.2)) }

theorem bitmap_Encode_r (a0 : Traffic) {r : ((List Int) × Int)} (h0 : bitmap_Encode a0 = some r) : SndR K 13 [(.agg (E_Traffic a0))] (fun q => (.tup [(.ref (q 0) 0 r.1.length 1), (vi r.2)])) [(List.map vu r.1)] := by
 refine SndR.of_walkW hC (show K.P.funcs[13]? = some Try.f13 from Try.func13) rfl rfl (by decide +kernel) (Nat.le_of_ble_eq_true rfl) ?_
 unfold bitmap_Encode at h0
 refine awp_nr [0] (fun _ => rfl) fun tz => ?_
 refine awp_regW fun KK hKK => ?_
 refine xw_id ?_
 try simp only [go_sem, ↓iop_and, ↓iop_or, ↓iop_xor, ↓iop_andn, Nat.reduceEqDiff, reduceIte, Nat.reduceAdd, Nat.reduceMul, Nat.reduceSub, Nat.reduceLT, Nat.reduceLeDiff]
 refine hKK _ _ (Wk.refl _ _ _) ?_; clear hKK KK
 refine awp_assoc ?_
 refine awp_nr [1,2] (fun _ => rfl) fun tz => ?_
 refine awp_regW fun KK hKK => ?_
 refine xw_id ?_
 try simp only [go_sem, ↓iop_and, ↓iop_or, ↓iop_xor, ↓iop_andn, Nat.reduceEqDiff, reduceIte, Nat.reduceAdd, Nat.reduceMul, Nat.reduceSub, Nat.reduceLT, Nat.reduceLeDiff]
 refine hKK _ _ (Wk.refl _ _ _) ?_; clear hKK KK
 obtain ⟨o45, hi1, h0⟩ := bnd h0
 refine awp_cut (fun d44 : (List Int × Bool) => o45 = Ex.go d44) (fun d44 : (List Int × Bool) => bitmap_Encode_S0 d44) ?_ ?_
 ·
  refine awp_block1 ?_
  refine awp_loopS (fun n (d46 : (List Int × Bool × Int)) => bitmap_Encode_L2 a0 n d46 = some o45) (fun d46 : (List Int × Bool × Int) => bitmap_Encode_S1 a0 d46) big ([], true, 0) (Wk.canonD [] [] [some 0, none] rfl trivial rfl (tmON 1 (tmOU 0 tmO0 rfl List.not_mem_nil (by simp only [upd_get, ↓iop_and, ↓iop_or, ↓iop_xor, ↓iop_andn, Nat.reduceEqDiff, reduceIte, Nat.reduceAdd, Nat.reduceMul, Nat.reduceSub, Nat.reduceLT, Nat.reduceLeDiff, if_true, if_false] <;> rfl) (e_Traffic_tmx (by rfl) (Tm.clean (Clean.imm (vi_clean _))))) rfl) (tmAllU 7 (tmAllU 2 (tmAllU 1 tmAll0 (Tm.ptr rfl)) (Tm.onT)) (Tm.v _))) hi1 ?_
  clear hi1
  rintro n d46 hl3
  rcases n with _ | n2
  ·
   (rw [bitmap_Encode_L2] at hl3; cases hl3)
  ·
   rw [bitmap_Encode_L2] at hl3
   unfold bitmap_Encode_S1
   refine awp_nr [1,2,7] (fun _ => rfl) fun tz => ?_
   refine awp_regW fun KK hKK => ?_
   refine xw_id ?_
   try simp only [go_sem, ↓iop_and, ↓iop_or, ↓iop_xor, ↓iop_andn, Nat.reduceEqDiff, reduceIte, Nat.reduceAdd, Nat.reduceMul, Nat.reduceSub, Nat.reduceLT, Nat.reduceLeDiff]
   refine hKK _ _ (Wk.refl _ _ _) ?_; clear hKK KK
   refine awp_cond (b := (decide (d46.2.2 < 4))) rfl (fun h4 => ?_) (fun h4 => ?_)
   ·
    have hl3 := cT hl3 h4
    refine awp_skip ?_
    refine awp_blockW ?_
    refine awp_nr [1,2,7] (fun _ => rfl) fun tz => ?_
    refine awp_regW fun KK hKK => ?_
    refine xw_id ?_
    try simp only [go_sem, ↓iop_and, ↓iop_or, ↓iop_xor, ↓iop_andn, Nat.reduceEqDiff, reduceIte, Nat.reduceAdd, Nat.reduceMul, Nat.reduceSub, Nat.reduceLT, Nat.reduceLeDiff]
    refine hKK _ _ (Wk.refl _ _ _) ?_; clear hKK KK
    refine awp_nr [1,2,4,7] (fun _ => rfl) fun tz => ?_
    refine awp_regW fun KK hKK => ?_
    refine xw_id ?_
    obtain ⟨x47, bx47, hl3⟩ := bnd hl3
    try simp only [go_sem, ↓iop_and, ↓iop_or, ↓iop_xor, ↓iop_andn, Nat.reduceEqDiff, reduceIte, Nat.reduceAdd, Nat.reduceMul, Nat.reduceSub, Nat.reduceLT, Nat.reduceLeDiff]
    refine xcall_M (bitmap_EncodeAs_m a0 d46.2.2 bx47) ?_; try dsimp only
    try refine xw_id ?_
    try simp only [go_sem, ↓iop_and, ↓iop_or, ↓iop_xor, ↓iop_andn, Nat.reduceEqDiff, reduceIte, Nat.reduceAdd, Nat.reduceMul, Nat.reduceSub, Nat.reduceLT, Nat.reduceLeDiff]
    refine hKK _ _ (Wk.refl _ _ _) ?_; clear hKK KK
    refine awp_assoc ?_
    refine awp_nr [1,2,5,6,7] (fun _ => rfl) fun tz => ?_
    refine awp_regW fun KK hKK => ?_
    refine xw_id ?_
    try simp only [go_sem, ↓iop_and, ↓iop_or, ↓iop_xor, ↓iop_andn, Nat.reduceEqDiff, reduceIte, Nat.reduceAdd, Nat.reduceMul, Nat.reduceSub, Nat.reduceLT, Nat.reduceLeDiff]
    refine hKK _ _ (Wk.refl _ _ _) ?_; clear hKK KK
    refine awp_cond (b := (x47.2 != 0)) rfl (fun h5 => ?_) (fun h5 => ?_)
    ·
     have hl3 := cT hl3 h5
     refine awp_assoc ?_
     refine awp_nr [6] (fun _ => rfl) fun tz => ?_
     refine awp_regW fun KK hKK => ?_
     refine xw_id ?_
     try simp only [go_sem, ↓iop_and, ↓iop_or, ↓iop_xor, ↓iop_andn, Nat.reduceEqDiff, reduceIte, Nat.reduceAdd, Nat.reduceMul, Nat.reduceSub, Nat.reduceLT, Nat.reduceLeDiff]
     refine hKK _ _ (Wk.refl _ _ _) ?_; clear hKK KK
     refine awp_ret ?_
     refine bq_r ?_
     refine sq_r ?_
     refine lq_r ?_
     refine bq_r ?_
     refine sq_r ?_
     obtain rfl := someInj hl3
     obtain rfl := Ex.k_ret h0
     refine endW_i ?_
     refine end_ret0 rs13 (rfl) ?_
     refine Res.mk [] [none] rfl (resON resO0) (Tm.tup (TmL.cons (Tm.thaw _ _ _) (TmL.cons (Tm.v _) TmL.nil)))
    ·
     have hl3 := cF hl3 h5
     refine awp_skip ?_
     refine awp_nr [1,2,5,7] (fun _ => rfl) fun tz => ?_
     refine awp_regW fun KK hKK => ?_
     refine xw_id ?_
     rcases Bool.eq_false_or_eq_true d46.2.1 with h6 | h6
     ·
      have hl3 := cT hl3 h6
      try simp only [go_sem, ↓iop_and, ↓iop_or, ↓iop_xor, ↓iop_andn, Nat.reduceEqDiff, reduceIte, Nat.reduceAdd, Nat.reduceMul, Nat.reduceSub, Nat.reduceLT, Nat.reduceLeDiff, h6, nilOr_t, nilOr_f, Option.isSome_some, eq_self]
      refine hKK _ _ (Wk.refl _ _ _) ?_; clear hKK KK
      refine awp_condT1 rfl ?_
      refine awp_nr1 [1,5,7] (fun _ => rfl) fun tz => ?_
      refine awp_reg1 fun KK hKK => ?_
      refine xw_id ?_
      try simp only [go_sem, ↓iop_and, ↓iop_or, ↓iop_xor, ↓iop_andn, Nat.reduceEqDiff, reduceIte, Nat.reduceAdd, Nat.reduceMul, Nat.reduceSub, Nat.reduceLT, Nat.reduceLeDiff]
      refine hKK _ ?_; clear hKK KK
      refine bq_n ?_
      refine seqW_i ?_
      refine awp_nr1 [1,2,7] (fun _ => rfl) fun tz => ?_
      refine awp_reg1 fun KK hKK => ?_
      refine xw_id ?_
      try simp only [go_sem, ↓iop_and, ↓iop_or, ↓iop_xor, ↓iop_andn, Nat.reduceEqDiff, reduceIte, Nat.reduceAdd, Nat.reduceMul, Nat.reduceSub, Nat.reduceLT, Nat.reduceLeDiff]
      refine hKK _ ?_; clear hKK KK
      refine lq_n ?_
      exact ⟨n2, (x47.1, false, IntKind.wrap .u8 (d46.2.2 + 1)), rfl, hl3, (by refine Wk.canonD [] [] [some 0, some 13] rfl trivial rfl (tmOU 1 (tmOU 0 tmO0 rfl List.not_mem_nil (by simp only [upd_get, ↓iop_and, ↓iop_or, ↓iop_xor, ↓iop_andn, Nat.reduceEqDiff, reduceIte, Nat.reduceAdd, Nat.reduceMul, Nat.reduceSub, Nat.reduceLT, Nat.reduceLeDiff, if_true, if_false] <;> rfl) (e_Traffic_tmx (by rfl) (Tm.clean (Clean.imm (vi_clean _))))) rfl List.not_mem_nil (by simp only [upd_get, ↓iop_and, ↓iop_or, ↓iop_xor, ↓iop_andn, Nat.reduceEqDiff, reduceIte, Nat.reduceAdd, Nat.reduceMul, Nat.reduceSub, Nat.reduceLT, Nat.reduceLeDiff, if_true, if_false] <;> rfl) (TmL.of_eq (by first | rfl | (simp only [List.flatMap_append, List.flatMap_cons, List.flatMap_nil, List.map_append, List.map_cons, List.map_nil, List.append_nil, List.nil_append]; done) | (simp only [List.flatMap_append, List.flatMap_cons, List.flatMap_nil, List.map_append, List.map_cons, List.map_nil, List.append_nil, List.nil_append]; rfl)) (vu_clean _))) (tmAllU 7 (tmAllU 2 (tmAllU 1 tmAll0 (Tm.ptr rfl)) (Tm.onF (Tm.refL rfl ?_))) (Tm.v _)); all_goals (first | rfl | (simp only [List.length_take]; omega) | (simp only [List.length_append, List.length_cons, List.length_nil, List.length_modify, List.length_set, Nat.zero_add]; done) | (simp only [List.length_append, List.length_take, List.length_drop, List.length_cons, List.length_nil, List.length_modify, List.length_set, Nat.zero_add]; omega) | omega))⟩
     ·
      have hl3 := cF hl3 h6
      obtain ⟨x48, bx48, hl3⟩ := bnd hl3
      have bx48 := chk_some bx48
      simp only [Bool.and_eq_true, decide_eq_true_eq] at bx48
      have gx48_0 := bx48
      have gn7 : nilB (.ref 1 0 ((d46.1).length) 1) = some false := nilB_ref (by omega)
      try simp only [go_sem, ↓iop_and, ↓iop_or, ↓iop_xor, ↓iop_andn, Nat.reduceEqDiff, reduceIte, Nat.reduceAdd, Nat.reduceMul, Nat.reduceSub, Nat.reduceLT, Nat.reduceLeDiff, Int.reduceToNat, Int.reduceBEq, Int.reduceBNe, Int.reduceLT, Int.reduceLE, Int.reduceAdd, Int.reduceSub, Int.reduceMul, Int.reduceNeg, Int.reduceEq, Int.reduceNe, h6, nilOr_t, nilOr_f, Option.isSome_some, eq_self, gx48_0, ↓gn7]
      refine hKK _ _ (Wk.refl _ _ _) ?_; clear hKK KK
      refine awp_cond1 (b := (decide (((x47.1.length : Nat) : Int) < (((d46.1).length : Nat) : Int)))) rfl (fun h8 => ?_) (fun h8 => ?_)
      ·
       have hl3 := cT hl3 h8
       refine awp_nr1 [1,5,7] (fun _ => rfl) fun tz => ?_
       refine awp_reg1 fun KK hKK => ?_
       refine xw_id ?_
       try simp only [go_sem, ↓iop_and, ↓iop_or, ↓iop_xor, ↓iop_andn, Nat.reduceEqDiff, reduceIte, Nat.reduceAdd, Nat.reduceMul, Nat.reduceSub, Nat.reduceLT, Nat.reduceLeDiff]
       refine hKK _ ?_; clear hKK KK
       refine bq_n ?_
       refine seqW_i ?_
       refine awp_nr1 [1,2,7] (fun _ => rfl) fun tz => ?_
       refine awp_reg1 fun KK hKK => ?_
       refine xw_id ?_
       try simp only [go_sem, ↓iop_and, ↓iop_or, ↓iop_xor, ↓iop_andn, Nat.reduceEqDiff, reduceIte, Nat.reduceAdd, Nat.reduceMul, Nat.reduceSub, Nat.reduceLT, Nat.reduceLeDiff]
       refine hKK _ ?_; clear hKK KK
       refine lq_n ?_
       exact ⟨n2, (x47.1, false, IntKind.wrap .u8 (d46.2.2 + 1)), rfl, hl3, (by refine Wk.canonD [] [] [some 0, some 13] rfl trivial rfl (tmOU 1 (tmOU 0 tmO0 rfl List.not_mem_nil (by simp only [upd_get, ↓iop_and, ↓iop_or, ↓iop_xor, ↓iop_andn, Nat.reduceEqDiff, reduceIte, Nat.reduceAdd, Nat.reduceMul, Nat.reduceSub, Nat.reduceLT, Nat.reduceLeDiff, if_true, if_false] <;> rfl) (e_Traffic_tmx (by rfl) (Tm.clean (Clean.imm (vi_clean _))))) rfl List.not_mem_nil (by simp only [upd_get, ↓iop_and, ↓iop_or, ↓iop_xor, ↓iop_andn, Nat.reduceEqDiff, reduceIte, Nat.reduceAdd, Nat.reduceMul, Nat.reduceSub, Nat.reduceLT, Nat.reduceLeDiff, if_true, if_false] <;> rfl) (TmL.of_eq (by first | rfl | (simp only [List.flatMap_append, List.flatMap_cons, List.flatMap_nil, List.map_append, List.map_cons, List.map_nil, List.append_nil, List.nil_append]; done) | (simp only [List.flatMap_append, List.flatMap_cons, List.flatMap_nil, List.map_append, List.map_cons, List.map_nil, List.append_nil, List.nil_append]; rfl)) (vu_clean _))) (tmAllU 7 (tmAllU 2 (tmAllU 1 tmAll0 (Tm.ptr rfl)) (Tm.onF (Tm.refL rfl ?_))) (Tm.v _)); all_goals (first | rfl | (simp only [List.length_take]; omega) | (simp only [List.length_append, List.length_cons, List.length_nil, List.length_modify, List.length_set, Nat.zero_add]; done) | (simp only [List.length_append, List.length_take, List.length_drop, List.length_cons, List.length_nil, List.length_modify, List.length_set, Nat.zero_add]; omega) | omega))⟩
      ·
       have hl3 := cF hl3 h8
       refine awp_skip1 ?_
       refine bq_n ?_
       refine seqW_i ?_
       refine awp_nr1 [1,2,7] (fun _ => rfl) fun tz => ?_
       refine awp_reg1 fun KK hKK => ?_
       refine xw_id ?_
       try simp only [go_sem, ↓iop_and, ↓iop_or, ↓iop_xor, ↓iop_andn, Nat.reduceEqDiff, reduceIte, Nat.reduceAdd, Nat.reduceMul, Nat.reduceSub, Nat.reduceLT, Nat.reduceLeDiff]
       refine hKK _ ?_; clear hKK KK
       refine lq_n ?_
       exact ⟨n2, (d46.1, false, IntKind.wrap .u8 (d46.2.2 + 1)), rfl, hl3, (by refine Wk.canonD [] [] [some 0, some 1] rfl trivial rfl (tmOU 1 (tmOU 0 tmO0 rfl List.not_mem_nil (by simp only [upd_get, ↓iop_and, ↓iop_or, ↓iop_xor, ↓iop_andn, Nat.reduceEqDiff, reduceIte, Nat.reduceAdd, Nat.reduceMul, Nat.reduceSub, Nat.reduceLT, Nat.reduceLeDiff, if_true, if_false] <;> rfl) (e_Traffic_tmx (by rfl) (Tm.clean (Clean.imm (vi_clean _))))) rfl List.not_mem_nil (by simp only [upd_get, ↓iop_and, ↓iop_or, ↓iop_xor, ↓iop_andn, Nat.reduceEqDiff, reduceIte, Nat.reduceAdd, Nat.reduceMul, Nat.reduceSub, Nat.reduceLT, Nat.reduceLeDiff, if_true, if_false] <;> rfl) (TmL.of_eq (by first | rfl | (simp only [List.flatMap_append, List.flatMap_cons, List.flatMap_nil, List.map_append, List.map_cons, List.map_nil, List.append_nil, List.nil_append]; done) | (simp only [List.flatMap_append, List.flatMap_cons, List.flatMap_nil, List.map_append, List.map_cons, List.map_nil, List.append_nil, List.nil_append]; rfl)) (vu_clean _))) (tmAllU 7 (tmAllU 2 (tmAllU 1 tmAll0 (Tm.ptr rfl)) (Tm.onF (Tm.refL rfl ?_))) (Tm.v _)); all_goals (first | rfl | (simp only [List.length_take]; omega) | (simp only [List.length_append, List.length_cons, List.length_nil, List.length_modify, List.length_set, Nat.zero_add]; done) | (simp only [List.length_append, List.length_take, List.length_drop, List.length_cons, List.length_nil, List.length_modify, List.length_set, Nat.zero_add]; omega) | omega))⟩
   ·
    have hl3 := cF hl3 h4
    refine awp_exit ?_
    refine lq_e ?_
    refine bq_e ?_
    refine sq_n ?_
    obtain rfl := someInj hl3
    exact ⟨_, rfl, (by refine Wk.canonD [] [] [some 1] rfl trivial rfl (tmOU 0 tmO0 rfl List.not_mem_nil (by simp only [upd_get, ↓iop_and, ↓iop_or, ↓iop_xor, ↓iop_andn, Nat.reduceEqDiff, reduceIte, Nat.reduceAdd, Nat.reduceMul, Nat.reduceSub, Nat.reduceLT, Nat.reduceLeDiff, if_true, if_false] <;> rfl) (TmL.of_eq (by first | rfl | (simp only [List.flatMap_append, List.flatMap_cons, List.flatMap_nil, List.map_append, List.map_cons, List.map_nil, List.append_nil, List.nil_append]; done) | (simp only [List.flatMap_append, List.flatMap_cons, List.flatMap_nil, List.map_append, List.map_cons, List.map_nil, List.append_nil, List.nil_append]; rfl)) (vu_clean _))) (tmAllU 2 tmAll0 (Tm.on (Tm.refL rfl ?_))); all_goals (first | rfl | (simp only [List.length_take]; omega) | (simp only [List.length_append, List.length_cons, List.length_nil, List.length_modify, List.length_set, Nat.zero_add]; done) | (simp only [List.length_append, List.length_take, List.length_drop, List.length_cons, List.length_nil, List.length_modify, List.length_set, Nat.zero_add]; omega) | omega))⟩
 ·
  rintro d44 rfl
  have h0 := Ex.k_go h0
  clear hi1
  unfold bitmap_Encode_S0
  refine awp_nr [2] (fun _ => rfl) fun tz => ?_
  refine awp_regW fun KK hKK => ?_
  refine xw_id ?_
  try simp only [go_sem, ↓iop_and, ↓iop_or, ↓iop_xor, ↓iop_andn, Nat.reduceEqDiff, reduceIte, Nat.reduceAdd, Nat.reduceMul, Nat.reduceSub, Nat.reduceLT, Nat.reduceLeDiff]
  refine hKK _ _ (Wk.refl _ _ _) ?_; clear hKK KK
  refine awp_ret1 ?_
  rcases Bool.eq_false_or_eq_true d44.2 with h9 | h9
  ·
   have h0 := cT h0 h9
   simp only [h9, nilOr_t, nilOr_f]
   obtain rfl := someInj h0
   refine endW_i ?_
   refine end_ret0 rs13 (rfl) ?_
   refine Res.mk [] [none] rfl (resON resO0) (Tm.tup (TmL.cons (Tm.thaw _ _ _) (TmL.cons (Tm.v _) TmL.nil)))
  ·
   have h0 := cF h0 h9
   simp only [h9, nilOr_t, nilOr_f]
   obtain rfl := someInj h0
   refine endW_i ?_
   refine end_ret0 rs13 (rfl) ?_
   refine Res.mk [] [some 0] rfl (resOU List.not_mem_nil (by simp only [upd_get, ↓iop_and, ↓iop_or, ↓iop_xor, ↓iop_andn, Nat.reduceEqDiff, reduceIte, Nat.reduceAdd, Nat.reduceMul, Nat.reduceSub, Nat.reduceLT, Nat.reduceLeDiff, if_true, if_false] <;> rfl) (TmL.of_eq (by first | rfl | (simp only [List.flatMap_append, List.flatMap_cons, List.flatMap_nil, List.map_append, List.map_cons, List.map_nil, List.append_nil, List.nil_append]; done) | (simp only [List.flatMap_append, List.flatMap_cons, List.flatMap_nil, List.map_append, List.map_cons, List.map_nil, List.append_nil, List.nil_append]; rfl)) (vu_clean _)) resO0) (Tm.tup (TmL.cons (Tm.refL rfl ?_) (TmL.cons (Tm.v _) TmL.nil)))
   all_goals (first | rfl | (simp only [List.length_take]; omega) | (simp only [List.length_append, List.length_cons, List.length_nil, List.length_modify, List.length_set, Nat.zero_add]; done) | (simp only [List.length_append, List.length_take, List.length_drop, List.length_cons, List.length_nil, List.length_modify, List.length_set, Nat.zero_add]; omega) | omega)

theorem bitmap_Encode_m (a0 : Traffic) {r : ((List Int) × Int)} (h0 : bitmap_Encode a0 = some r) : SndM K 13 [(.agg (E_Traffic a0))] (fun q => (.tup [(.ref (q 0) 0 r.1.length 1), (vi r.2)])) [(List.map vu r.1)] :=
 fun hs => Snd.of_newM (RenM.tup (RenML.cons (RenM.ref 0 0 _ _) (RenML.cons (RenM.const (Clean.v _)) RenML.nil))) (rows_all_cons (vu_clean _) rows_all_nil) (clean_cons (Clean.agg (E_Traffic_clean _)) clean_nil) (bitmap_Encode_r a0 h0) hs

theorem bitmap_Encode_e (a0 : Traffic) {r : ((List Int) × Int)} (h0 : bitmap_Encode a0 = some r) (fr : Nat) (hs : HS) : SndE K 13 [(.agg (E_Traffic a0))] hs fr ⟨(fun q : Nat → Nat => (.tup [(.ref (q 0) 0 r.1.length 1), (vi r.2)])) fun _ => fr, .new (List.map vu r.1)⟩ :=
 SndE.of_res (RenM.tup (RenML.cons (RenM.ref 0 0 _ _) (RenML.cons (RenM.const (Clean.v _)) RenML.nil))) (vu_clean _) (clean_cons (Clean.agg (E_Traffic_clean _)) clean_nil) (fun a b h => by simp only [h]) (bitmap_Encode_r a0 h0) hs fr

theorem bitmap_Encode_p (a0 : Traffic) {r : ((List Int) × Int)} (h0 : bitmap_Encode a0 = some r) : SndP K 13 [(.agg (E_Traffic a0))] (.tup [(S_vu r.1), (vi r.2)]) :=
 SndM.pure (bitmap_Encode_m a0 h0) (Clean.tup (clean_cons (S_vu_clean _) (clean_cons (Clean.v _) clean_nil))) (clean_cons (Clean.agg (E_Traffic_clean _)) clean_nil) (by simp only [go_sem, newL_n, newL_c, upd_get, fz, nilS, cond_true, cond_false, List.drop_zero, List.take_length, List.length_map, ble_self, ↓iop_and, ↓iop_or, ↓iop_xor, ↓iop_andn, Nat.reduceEqDiff, reduceIte, Nat.reduceAdd, Nat.reduceMul, Nat.reduceSub, Nat.reduceLT, Nat.reduceLeDiff] <;> rfl)

end Go.AX.Z.TE

/-! (TEW bitmap Size) -/

set_option linter.unusedSimpArgs false
set_option linter.unusedVariables false
set_option maxHeartbeats 4000000
namespace Go.AX.Z.TE
open Go.AX Go.Proofs
attribute [local irreducible] awp xw xop xcall gsp ob xd xdop xcallD seqQ loopQ blkQ endQ


theorem bitmap_Size_p (a0 : Traffic) (a1 : Int) {r : (Int × Int)} (h0 : bitmap_Size a0 a1 = some r) : SndP K 15 [(.agg (E_Traffic a0)), (vu a1)] (.tup [(vi r.1), (vi r.2)]) := by
 refine SndP.of_walkW hC (Clean.tup (clean_cons (Clean.v _) (clean_cons (Clean.v _) clean_nil))) (clean_cons (Clean.agg (E_Traffic_clean _)) (clean_cons (Clean.v _) clean_nil)) (show K.P.funcs[15]? = some Try.f15 from Try.func15) rfl rfl (by decide +kernel) (Nat.le_of_ble_eq_true rfl) ?_
 unfold bitmap_Size at h0
 refine awp_nr [0,1] (fun _ => rfl) fun tz => ?_
 refine awp_regW fun KK hKK => ?_
 refine xw_id ?_
 try simp only [go_sem, ↓iop_and, ↓iop_or, ↓iop_xor, ↓iop_andn, Nat.reduceEqDiff, reduceIte, Nat.reduceAdd, Nat.reduceMul, Nat.reduceSub, Nat.reduceLT, Nat.reduceLeDiff]
 refine hKK _ _ (Wk.refl _ _ _) ?_; clear hKK KK
 refine awp_nr [1,2] (fun _ => rfl) fun tz => ?_
 refine awp_regW fun KK hKK => ?_
 refine xw_id ?_
 obtain ⟨x56, bx56, h0⟩ := bnd h0
 try simp only [go_sem, ↓iop_and, ↓iop_or, ↓iop_xor, ↓iop_andn, Nat.reduceEqDiff, reduceIte, Nat.reduceAdd, Nat.reduceMul, Nat.reduceSub, Nat.reduceLT, Nat.reduceLeDiff]
 refine xcall_M (bitmap_EncodeAs_m a0 a1 bx56) ?_; try dsimp only
 try refine xw_id ?_
 try simp only [go_sem, ↓iop_and, ↓iop_or, ↓iop_xor, ↓iop_andn, Nat.reduceEqDiff, reduceIte, Nat.reduceAdd, Nat.reduceMul, Nat.reduceSub, Nat.reduceLT, Nat.reduceLeDiff]
 refine hKK _ _ (Wk.refl _ _ _) ?_; clear hKK KK
 refine awp_nr [6,7] (fun _ => rfl) fun tz => ?_
 refine awp_regW fun KK hKK => ?_
 refine xw_id ?_
 try simp only [go_sem, ↓iop_and, ↓iop_or, ↓iop_xor, ↓iop_andn, Nat.reduceEqDiff, reduceIte, Nat.reduceAdd, Nat.reduceMul, Nat.reduceSub, Nat.reduceLT, Nat.reduceLeDiff, Int.reduceToNat, Int.reduceBEq, Int.reduceBNe, Int.reduceLT, Int.reduceLE, Int.reduceAdd, Int.reduceSub, Int.reduceMul, Int.reduceNeg, Int.reduceEq, Int.reduceNe]
 refine hKK _ _ (Wk.refl _ _ _) ?_; clear hKK KK
 refine awp_ret1 ?_
 obtain rfl := someInj h0
 refine endW_i ?_
 refine end_ret0 rs15 (rfl) ?_
 try simp only [go_sem, ↓iop_and, ↓iop_or, ↓iop_xor, ↓iop_andn, Nat.reduceEqDiff, reduceIte, Nat.reduceAdd, Nat.reduceMul, Nat.reduceSub, Nat.reduceLT, Nat.reduceLeDiff, fz, nilS, packR, List.take_nil, List.take_length, List.length_map, List.length_append, cond_true, cond_false, Nat.ble_eq, ble_self, List.map_append]
 all_goals rfl

end Go.AX.Z.TE

/-! (TEW hotspotref33 Same) -/

set_option linter.unusedSimpArgs false
set_option linter.unusedVariables false
set_option maxHeartbeats 4000000
namespace Go.AX.Z.TE
open Go.AX Go.Proofs
attribute [local irreducible] awp xw xop xcall gsp ob xd xdop xcallD seqQ loopQ blkQ endQ

def hotspotref33_Same_S0 (d58 : Unit) : AS :=
 { objs := (fun _ => .dead), next := 0, tmps := (fun _ => .unk) }

def hotspotref33_Same_S1 (a0 : (List Int)) (a1 : (List Int)) (d60 : Int) : AS :=
 { objs := (fun _ => .dead), next := 0, tmps := (upd (upd (upd (fun _ => .unk) 0 (.imm (List.map vu a0) a0.length)) 1 (.imm (List.map vu a1) a1.length)) 5 (vi d60)) }

theorem hotspotref33_Same_p (a0 : (List Int)) (a1 : (List Int)) {r : Bool} (h0 : hotspotref33_Same a0 a1 = some r) : SndP K 16 [(S_vu a0), (S_vu a1)] (vb r) := by
 refine SndP.of_walkW hC (Clean.v _) (clean_cons (S_vu_clean _) (clean_cons (S_vu_clean _) clean_nil)) (show K.P.funcs[16]? = some Try.f16 from Try.func16) rfl rfl (by decide +kernel) (Nat.le_of_ble_eq_true rfl) ?_
 unfold hotspotref33_Same at h0
 refine awp_nr [0,1] (fun _ => rfl) fun tz => ?_
 refine awp_regW fun KK hKK => ?_
 refine xw_id ?_
 try simp only [go_sem, ↓iop_and, ↓iop_or, ↓iop_xor, ↓iop_andn, Nat.reduceEqDiff, reduceIte, Nat.reduceAdd, Nat.reduceMul, Nat.reduceSub, Nat.reduceLT, Nat.reduceLeDiff]
 refine hKK _ _ (Wk.refl _ _ _) ?_; clear hKK KK
 refine awp_assoc ?_
 refine awp_nr [0,1] (fun _ => rfl) fun tz => ?_
 refine awp_regW fun KK hKK => ?_
 refine xw_id ?_
 try simp only [go_sem, ↓iop_and, ↓iop_or, ↓iop_xor, ↓iop_andn, Nat.reduceEqDiff, reduceIte, Nat.reduceAdd, Nat.reduceMul, Nat.reduceSub, Nat.reduceLT, Nat.reduceLeDiff, Int.reduceToNat, Int.reduceBEq, Int.reduceBNe, Int.reduceLT, Int.reduceLE, Int.reduceAdd, Int.reduceSub, Int.reduceMul, Int.reduceNeg, Int.reduceEq, Int.reduceNe]
 refine hKK _ _ (Wk.refl _ _ _) ?_; clear hKK KK
 refine awp_cond (b := ((a0.length : Int) != (a1.length : Int))) rfl (fun h1 => ?_) (fun h1 => ?_)
 ·
  have h0 := cT h0 h1
  refine awp_assoc ?_
  refine awp_nr [] (fun _ => rfl) fun tz => ?_
  refine awp_regW fun KK hKK => ?_
  refine xw_id ?_
  try simp only [go_sem, ↓iop_and, ↓iop_or, ↓iop_xor, ↓iop_andn, Nat.reduceEqDiff, reduceIte, Nat.reduceAdd, Nat.reduceMul, Nat.reduceSub, Nat.reduceLT, Nat.reduceLeDiff]
  refine hKK _ _ (Wk.refl _ _ _) ?_; clear hKK KK
  refine awp_ret ?_
  obtain rfl := someInj h0
  refine endW_i ?_
  refine end_ret0 rs16 (rfl) ?_
  try simp only [go_sem, ↓iop_and, ↓iop_or, ↓iop_xor, ↓iop_andn, Nat.reduceEqDiff, reduceIte, Nat.reduceAdd, Nat.reduceMul, Nat.reduceSub, Nat.reduceLT, Nat.reduceLeDiff, fz, nilS, packR, List.take_nil, List.take_length, List.length_map, List.length_append, cond_true, cond_false, Nat.ble_eq, ble_self, List.map_append]
  all_goals rfl
 ·
  have h0 := cF h0 h1
  refine awp_skip ?_
  refine awp_assoc ?_
  refine awp_nr [0,1] (fun _ => rfl) fun tz => ?_
  refine awp_regW fun KK hKK => ?_
  refine xw_id ?_
  try simp only [go_sem, ↓iop_and, ↓iop_or, ↓iop_xor, ↓iop_andn, Nat.reduceEqDiff, reduceIte, Nat.reduceAdd, Nat.reduceMul, Nat.reduceSub, Nat.reduceLT, Nat.reduceLeDiff]
  refine hKK _ _ (Wk.refl _ _ _) ?_; clear hKK KK
  obtain ⟨o59, hi2, h0⟩ := bnd h0
  refine awp_cut (fun d58 : Unit => o59 = Ex.go d58) (fun d58 : Unit => hotspotref33_Same_S0 d58) ?_ ?_
  ·
   refine awp_block1 ?_
   refine awp_loopS (fun n (d60 : Int) => hotspotref33_Same_L2 a0 a1 n d60 = some o59) (fun d60 : Int => hotspotref33_Same_S1 a0 a1 d60) big 0 (Wk.canonD [] [] [] rfl trivial rfl tmO0 (tmAllU 5 (tmAllU 1 (tmAllU 0 tmAll0 (Tm.clean (Clean.imm (vu_clean _)))) (Tm.clean (Clean.imm (vu_clean _)))) (Tm.v _))) hi2 ?_
   clear hi2
   rintro n d60 hl4
   rcases n with _ | n3
   ·
    (rw [hotspotref33_Same_L2] at hl4; cases hl4)
   ·
    rw [hotspotref33_Same_L2] at hl4
    unfold hotspotref33_Same_S1
    refine awp_assoc ?_
    refine awp_nr [0,1,5] (fun _ => rfl) fun tz => ?_
    refine awp_regW fun KK hKK => ?_
    refine xw_id ?_
    try simp only [go_sem, ↓iop_and, ↓iop_or, ↓iop_xor, ↓iop_andn, Nat.reduceEqDiff, reduceIte, Nat.reduceAdd, Nat.reduceMul, Nat.reduceSub, Nat.reduceLT, Nat.reduceLeDiff, Int.reduceToNat, Int.reduceBEq, Int.reduceBNe, Int.reduceLT, Int.reduceLE, Int.reduceAdd, Int.reduceSub, Int.reduceMul, Int.reduceNeg, Int.reduceEq, Int.reduceNe]
    refine hKK _ _ (Wk.refl _ _ _) ?_; clear hKK KK
    refine awp_cond (b := (decide (d60 < (a0.length : Int)))) rfl (fun h5 => ?_) (fun h5 => ?_)
    ·
     have hl4 := cT hl4 h5
     refine awp_skip ?_
     refine awp_blockW ?_
     refine awp_nr [0,1,5] (fun _ => rfl) fun tz => ?_
     refine awp_regW fun KK hKK => ?_
     refine xw_id ?_
     obtain ⟨x61, bx61, hl4⟩ := bnd hl4
     obtain ⟨fx61_0, fx61_1, fx61_2, fx61_3⟩ := idx_some bx61
     obtain ⟨x62, bx62, hl4⟩ := bnd hl4
     obtain ⟨fx62_0, fx62_1, fx62_2, fx62_3⟩ := idx_some bx62
     try simp only [go_sem, ↓iop_and, ↓iop_or, ↓iop_xor, ↓iop_andn, Nat.reduceEqDiff, reduceIte, Nat.reduceAdd, Nat.reduceMul, Nat.reduceSub, Nat.reduceLT, Nat.reduceLeDiff, fx61_0, fx61_1, fx61_2, fx62_0, fx62_1, fx62_2]
     refine hKK _ _ (Wk.refl _ _ _) ?_; clear hKK KK
     refine awp_cond1 (b := (x61 != x62)) rfl (fun h6 => ?_) (fun h6 => ?_)
     ·
      have hl4 := cT hl4 h6
      refine awp_nr [] (fun _ => rfl) fun tz => ?_
      refine awp_regW fun KK hKK => ?_
      refine xw_id ?_
      try simp only [go_sem, ↓iop_and, ↓iop_or, ↓iop_xor, ↓iop_andn, Nat.reduceEqDiff, reduceIte, Nat.reduceAdd, Nat.reduceMul, Nat.reduceSub, Nat.reduceLT, Nat.reduceLeDiff, fx61_0, fx61_1, fx61_2, fx62_0, fx62_1, fx62_2]
      refine hKK _ _ (Wk.refl _ _ _) ?_; clear hKK KK
      refine awp_ret1 ?_
      refine bq_r ?_
      refine sq_r ?_
      refine lq_r ?_
      refine bq_r ?_
      refine sq_r ?_
      obtain rfl := someInj hl4
      obtain rfl := Ex.k_ret h0
      refine endW_i ?_
      refine end_ret0 rs16 (rfl) ?_
      try simp only [go_sem, ↓iop_and, ↓iop_or, ↓iop_xor, ↓iop_andn, Nat.reduceEqDiff, reduceIte, Nat.reduceAdd, Nat.reduceMul, Nat.reduceSub, Nat.reduceLT, Nat.reduceLeDiff, fz, nilS, packR, List.take_nil, List.take_length, List.length_map, List.length_append, cond_true, cond_false, Nat.ble_eq, ble_self, List.map_append]
      all_goals rfl
     ·
      have hl4 := cF hl4 h6
      refine awp_skip1 ?_
      refine bq_n ?_
      refine seqW_i ?_
      refine awp_nr1 [0,1,5] (fun _ => rfl) fun tz => ?_
      refine awp_reg1 fun KK hKK => ?_
      refine xw_id ?_
      try simp only [go_sem, ↓iop_and, ↓iop_or, ↓iop_xor, ↓iop_andn, Nat.reduceEqDiff, reduceIte, Nat.reduceAdd, Nat.reduceMul, Nat.reduceSub, Nat.reduceLT, Nat.reduceLeDiff, fx61_0, fx61_1, fx61_2, fx62_0, fx62_1, fx62_2]
      refine hKK _ ?_; clear hKK KK
      refine lq_n ?_
      exact ⟨n3, IntKind.wrap .i64 (d60 + 1), rfl, hl4, (Wk.canonD [] [] [] rfl trivial rfl tmO0 (tmAllU 5 (tmAllU 1 (tmAllU 0 tmAll0 (Tm.clean (Clean.imm (vu_clean _)))) (Tm.clean (Clean.imm (vu_clean _)))) (Tm.v _)))⟩
    ·
     have hl4 := cF hl4 h5
     refine awp_exit ?_
     refine lq_e ?_
     refine bq_e ?_
     refine sq_n ?_
     obtain rfl := someInj hl4
     exact ⟨_, rfl, (Wk.canonD [] [] [] rfl trivial rfl tmO0 tmAll0)⟩
  ·
   rintro d58 rfl
   have h0 := Ex.k_go h0
   clear hi2
   unfold hotspotref33_Same_S0
   refine awp_nr [] (fun _ => rfl) fun tz => ?_
   refine awp_regW fun KK hKK => ?_
   refine xw_id ?_
   try simp only [go_sem, ↓iop_and, ↓iop_or, ↓iop_xor, ↓iop_andn, Nat.reduceEqDiff, reduceIte, Nat.reduceAdd, Nat.reduceMul, Nat.reduceSub, Nat.reduceLT, Nat.reduceLeDiff]
   refine hKK _ _ (Wk.refl _ _ _) ?_; clear hKK KK
   refine awp_ret1 ?_
   obtain rfl := someInj h0
   refine endW_i ?_
   refine end_ret0 rs16 (rfl) ?_
   try simp only [go_sem, ↓iop_and, ↓iop_or, ↓iop_xor, ↓iop_andn, Nat.reduceEqDiff, reduceIte, Nat.reduceAdd, Nat.reduceMul, Nat.reduceSub, Nat.reduceLT, Nat.reduceLeDiff, fz, nilS, packR, List.take_nil, List.take_length, List.length_map, List.length_append, cond_true, cond_false, Nat.ble_eq, ble_self, List.map_append]
   all_goals rfl

end Go.AX.Z.TE

/-! (TEW hotspotlaw33 alive) -/

set_option linter.unusedSimpArgs false
set_option linter.unusedVariables false
set_option maxHeartbeats 4000000
namespace Go.AX.Z.TE
open Go.AX Go.Proofs
attribute [local irreducible] awp xw xop xcall gsp ob xd xdop xcallD seqQ loopQ blkQ endQ

theorem hotspotlaw33_alive_p {r : Bool} (h0 : hotspotlaw33_alive = some r) : SndP K 17 [] (vb r) := by
 cases h0
 exact SndP.of_runV hC (n := 400) rfl rfl (by kernel_rfl : ranV K 400 17 [] = some (vb true))

end Go.AX.Z.TE

/-! (TEW hotspotlaw33 BitmapShortest) -/

set_option linter.unusedSimpArgs false
set_option linter.unusedVariables false
set_option maxHeartbeats 4000000
namespace Go.AX.Z.TE
open Go.AX Go.Proofs
attribute [local irreducible] awp xw xop xcall gsp ob xd xdop xcallD seqQ loopQ blkQ endQ

def hotspotlaw33_BitmapShortest_S0 (x20 : Bool) (x24 : Int) (d25 : Unit) : AS :=
 { objs := (fun _ => .dead), next := 0, tmps := (upd (upd (fun _ => .unk) 3 (vb x20)) 6 (vu ((x24).tmod 128))) }

def hotspotlaw33_BitmapShortest_S1 (a0 : Traffic) (x20 : Bool) (x21 : ((List Int) × Int)) (x24 : Int) (d27 : Int) : AS :=
 { objs := (upd (fun _ => .dead) 0 (.live (e_Traffic a0 (.imm (List.map vi a0.Aids) a0.Aids.length)))), next := 1, tmps := (upd (upd (upd (upd (upd (fun _ => .unk) 1 (.ptr 0 0)) 3 (vb x20)) 4 (.imm (List.map vu x21.1) x21.1.length)) 6 (vu ((x24).tmod 128))) 7 (vu d27)) }

theorem hotspotlaw33_BitmapShortest_p (a0 : Traffic) {r : Bool} (h0 : hotspotlaw33_BitmapShortest a0 = some r) : SndP K 4 [(.agg (E_Traffic a0))] (vb r) := by
 refine SndP.of_walkW hC (Clean.v _) (clean_cons (Clean.agg (E_Traffic_clean _)) clean_nil) (show K.P.funcs[4]? = some Try.f4 from Try.func4) rfl rfl (by decide +kernel) (Nat.le_of_ble_eq_true rfl) ?_
 unfold hotspotlaw33_BitmapShortest at h0
 refine awp_nr [0] (fun _ => rfl) fun tz => ?_
 refine awp_regW fun KK hKK => ?_
 refine xw_id ?_
 try simp only [go_sem, ↓iop_and, ↓iop_or, ↓iop_xor, ↓iop_andn, Nat.reduceEqDiff, reduceIte, Nat.reduceAdd, Nat.reduceMul, Nat.reduceSub, Nat.reduceLT, Nat.reduceLeDiff]
 refine hKK _ _ (Wk.refl _ _ _) ?_; clear hKK KK
 refine awp_nr [1] (fun _ => rfl) fun tz => ?_
 refine awp_regW fun KK hKK => ?_
 refine xw_id ?_
 obtain ⟨x20, bx20, h0⟩ := bnd h0
 try simp only [go_sem, ↓iop_and, ↓iop_or, ↓iop_xor, ↓iop_andn, Nat.reduceEqDiff, reduceIte, Nat.reduceAdd, Nat.reduceMul, Nat.reduceSub, Nat.reduceLT, Nat.reduceLeDiff]
 refine xcall_p (hotspotlaw33_alive_p  bx20) ?_; try dsimp only
 try refine xw_id ?_
 try simp only [go_sem, ↓iop_and, ↓iop_or, ↓iop_xor, ↓iop_andn, Nat.reduceEqDiff, reduceIte, Nat.reduceAdd, Nat.reduceMul, Nat.reduceSub, Nat.reduceLT, Nat.reduceLeDiff]
 refine hKK _ _ (Wk.refl _ _ _) ?_; clear hKK KK
 refine awp_assoc ?_
 refine awp_nr [1,3] (fun _ => rfl) fun tz => ?_
 refine awp_regW fun KK hKK => ?_
 refine xw_id ?_
 refine xw_stop 5 (by (try simp only [go_sem]); rfl) (by (try simp only [go_sem]); rfl) (by rfl) fun K1 hK1 => ?_
 refine xw_id ?_
 try simp only [go_sem, ↓iop_and, ↓iop_or, ↓iop_xor, ↓iop_andn, Nat.reduceEqDiff, reduceIte, Nat.reduceAdd, Nat.reduceMul, Nat.reduceSub, Nat.reduceLT, Nat.reduceLeDiff, Int.reduceToNat, Int.reduceBEq, Int.reduceBNe, Int.reduceLT, Int.reduceLE, Int.reduceAdd, Int.reduceSub, Int.reduceMul, Int.reduceNeg, Int.reduceEq, Int.reduceNe]
 refine hK1 _ ?_; clear hK1 K1
 refine xw_cut 3 [(1, (.ptr 0 0)), (3, (vb x20)), (20, (vb ((decide (300 < (a0.Aids.length : Int))) || (!x20))))] (by (try simp only [go_sem]); rfl) (by (try simp only [go_sem]); rfl) (by rfl) (fun K1 hK1 => ?_) fun tz => ?_
 ·
  refine xw_id ?_
  rcases Bool.eq_false_or_eq_true (decide (300 < (a0.Aids.length : Int))) with h1 | h1
  ·
   try simp only [go_sem, ↓iop_and, ↓iop_or, ↓iop_xor, ↓iop_andn, Nat.reduceEqDiff, reduceIte, Nat.reduceAdd, Nat.reduceMul, Nat.reduceSub, Nat.reduceLT, Nat.reduceLeDiff, Int.reduceToNat, Int.reduceBEq, Int.reduceBNe, Int.reduceLT, Int.reduceLE, Int.reduceAdd, Int.reduceSub, Int.reduceMul, Int.reduceNeg, Int.reduceEq, Int.reduceNe, h1]
   exact hK1 _ ⟨rfl, rfl, rfl, (by first | rfl | (rw [h1]; rfl) | (simp only [h1, Bool.true_and, Bool.false_and, Bool.true_or, Bool.false_or, cond_true, cond_false]; done)), trivial⟩
  ·
   try simp only [go_sem, ↓iop_and, ↓iop_or, ↓iop_xor, ↓iop_andn, Nat.reduceEqDiff, reduceIte, Nat.reduceAdd, Nat.reduceMul, Nat.reduceSub, Nat.reduceLT, Nat.reduceLeDiff, Int.reduceToNat, Int.reduceBEq, Int.reduceBNe, Int.reduceLT, Int.reduceLE, Int.reduceAdd, Int.reduceSub, Int.reduceMul, Int.reduceNeg, Int.reduceEq, Int.reduceNe, h1]
   exact hK1 _ ⟨rfl, rfl, rfl, (by first | rfl | (rw [h1]; rfl) | (simp only [h1, Bool.true_and, Bool.false_and, Bool.true_or, Bool.false_or, cond_true, cond_false]; done)), trivial⟩
 ·
  refine xw_id ?_
  try simp only [go_sem, ↓iop_and, ↓iop_or, ↓iop_xor, ↓iop_andn, Nat.reduceEqDiff, reduceIte, Nat.reduceAdd, Nat.reduceMul, Nat.reduceSub, Nat.reduceLT, Nat.reduceLeDiff, Int.reduceToNat, Int.reduceBEq, Int.reduceBNe, Int.reduceLT, Int.reduceLE, Int.reduceAdd, Int.reduceSub, Int.reduceMul, Int.reduceNeg, Int.reduceEq, Int.reduceNe]
  refine hKK _ _ (Wk.refl _ _ _) ?_; clear hKK KK
  refine awp_cond (b := ((decide (300 < (a0.Aids.length : Int))) || (!x20))) rfl (fun h2 => ?_) (fun h2 => ?_)
  ·
   have h0 := cT h0 h2
   refine awp_assoc ?_
   refine awp_nr [3] (fun _ => rfl) fun tz => ?_
   refine awp_regW fun KK hKK => ?_
   refine xw_id ?_
   try simp only [go_sem, ↓iop_and, ↓iop_or, ↓iop_xor, ↓iop_andn, Nat.reduceEqDiff, reduceIte, Nat.reduceAdd, Nat.reduceMul, Nat.reduceSub, Nat.reduceLT, Nat.reduceLeDiff]
   refine hKK _ _ (Wk.refl _ _ _) ?_; clear hKK KK
   refine awp_ret ?_
   obtain rfl := someInj h0
   refine endW_i ?_
   refine end_ret0 rs4 (rfl) ?_
   try simp only [go_sem, ↓iop_and, ↓iop_or, ↓iop_xor, ↓iop_andn, Nat.reduceEqDiff, reduceIte, Nat.reduceAdd, Nat.reduceMul, Nat.reduceSub, Nat.reduceLT, Nat.reduceLeDiff, fz, nilS, packR, List.take_nil, List.take_length, List.length_map, List.length_append, cond_true, cond_false, Nat.ble_eq, ble_self, List.map_append]
   all_goals rfl
  ·
   have h0 := cF h0 h2
   refine awp_skip ?_
   refine awp_nr [1,3] (fun _ => rfl) fun tz => ?_
   refine awp_regW fun KK hKK => ?_
   refine xw_id ?_
   obtain ⟨x21, bx21, h0⟩ := bnd h0
   try simp only [go_sem, ↓iop_and, ↓iop_or, ↓iop_xor, ↓iop_andn, Nat.reduceEqDiff, reduceIte, Nat.reduceAdd, Nat.reduceMul, Nat.reduceSub, Nat.reduceLT, Nat.reduceLeDiff]
   refine xcall_p (bitmap_Encode_p a0 bx21) ?_; try dsimp only
   try refine xw_id ?_
   try simp only [go_sem, ↓iop_and, ↓iop_or, ↓iop_xor, ↓iop_andn, Nat.reduceEqDiff, reduceIte, Nat.reduceAdd, Nat.reduceMul, Nat.reduceSub, Nat.reduceLT, Nat.reduceLeDiff]
   refine hKK _ _ (Wk.refl _ _ _) ?_; clear hKK KK
   refine awp_assoc ?_
   refine awp_nr [1,3,4,5] (fun _ => rfl) fun tz => ?_
   refine awp_regW fun KK hKK => ?_
   refine xw_id ?_
   try simp only [go_sem, ↓iop_and, ↓iop_or, ↓iop_xor, ↓iop_andn, Nat.reduceEqDiff, reduceIte, Nat.reduceAdd, Nat.reduceMul, Nat.reduceSub, Nat.reduceLT, Nat.reduceLeDiff]
   refine hKK _ _ (Wk.refl _ _ _) ?_; clear hKK KK
   refine awp_cond (b := (x21.2 != 0)) rfl (fun h3 => ?_) (fun h3 => ?_)
   ·
    have h0 := cT h0 h3
    refine awp_assoc ?_
    refine awp_nr [1,3,5] (fun _ => rfl) fun tz => ?_
    refine awp_regW fun KK hKK => ?_
    refine xw_id ?_
    refine xw_stop 2 (by (try simp only [go_sem]); rfl) (by (try simp only [go_sem]); rfl) (by rfl) fun K1 hK1 => ?_
    refine xw_id ?_
    try simp only [go_sem, ↓iop_and, ↓iop_or, ↓iop_xor, ↓iop_andn, Nat.reduceEqDiff, reduceIte, Nat.reduceAdd, Nat.reduceMul, Nat.reduceSub, Nat.reduceLT, Nat.reduceLeDiff]
    refine hK1 _ ?_; clear hK1 K1
    obtain ⟨x23, hvh4, h0⟩ := bnd h0
    refine xw_cut 5 [(35, (vb x23))] (by (try simp only [go_sem]); rfl) (by (try simp only [go_sem]); rfl) (by rfl) (fun K1 hK1 => ?_) fun tz => ?_
    ·
     refine xw_id ?_
     rcases Bool.eq_false_or_eq_true x20 with h4 | h4
     ·
      have hvh4 := cT hvh4 h4
      obtain ⟨x22, bx22, hvh4⟩ := bnd hvh4
      try simp only [go_sem, ↓iop_and, ↓iop_or, ↓iop_xor, ↓iop_andn, Nat.reduceEqDiff, reduceIte, Nat.reduceAdd, Nat.reduceMul, Nat.reduceSub, Nat.reduceLT, Nat.reduceLeDiff, h4]
      refine xcall_p (bitmap_Check_p a0 bx22) ?_; try dsimp only
      try refine xw_id ?_
      try simp only [go_sem, ↓iop_and, ↓iop_or, ↓iop_xor, ↓iop_andn, Nat.reduceEqDiff, reduceIte, Nat.reduceAdd, Nat.reduceMul, Nat.reduceSub, Nat.reduceLT, Nat.reduceLeDiff, h4]
      obtain rfl := someInj hvh4
      exact hK1 _ ⟨rfl, (by first | rfl | (rw [h4]; rfl) | (simp only [h4, Bool.true_and, Bool.false_and, Bool.true_or, Bool.false_or, cond_true, cond_false]; done)), trivial⟩
     ·
      have hvh4 := cF hvh4 h4
      try simp only [go_sem, ↓iop_and, ↓iop_or, ↓iop_xor, ↓iop_andn, Nat.reduceEqDiff, reduceIte, Nat.reduceAdd, Nat.reduceMul, Nat.reduceSub, Nat.reduceLT, Nat.reduceLeDiff, h4]
      obtain rfl := someInj hvh4
      exact hK1 _ ⟨rfl, (by first | rfl | (rw [h4]; rfl) | (simp only [h4, Bool.true_and, Bool.false_and, Bool.true_or, Bool.false_or, cond_true, cond_false]; done)), trivial⟩
    ·
     refine xw_id ?_
     try simp only [go_sem, ↓iop_and, ↓iop_or, ↓iop_xor, ↓iop_andn, Nat.reduceEqDiff, reduceIte, Nat.reduceAdd, Nat.reduceMul, Nat.reduceSub, Nat.reduceLT, Nat.reduceLeDiff]
     refine hKK _ _ (Wk.refl _ _ _) ?_; clear hKK KK
     refine awp_ret ?_
     obtain rfl := someInj h0
     refine endW_i ?_
     refine end_ret0 rs4 (rfl) ?_
     try simp only [go_sem, ↓iop_and, ↓iop_or, ↓iop_xor, ↓iop_andn, Nat.reduceEqDiff, reduceIte, Nat.reduceAdd, Nat.reduceMul, Nat.reduceSub, Nat.reduceLT, Nat.reduceLeDiff, fz, nilS, packR, List.take_nil, List.take_length, List.length_map, List.length_append, cond_true, cond_false, Nat.ble_eq, ble_self, List.map_append]
     all_goals rfl
   ·
    have h0 := cF h0 h3
    refine awp_skip ?_
    refine awp_assoc ?_
    refine awp_nr [1,3,4] (fun _ => rfl) fun tz => ?_
    refine awp_regW fun KK hKK => ?_
    refine xw_id ?_
    refine xw_stop 4 (by (try simp only [go_sem]); rfl) (by (try simp only [go_sem]); rfl) (by rfl) fun K1 hK1 => ?_
    refine xw_id ?_
    try simp only [go_sem, ↓iop_and, ↓iop_or, ↓iop_xor, ↓iop_andn, Nat.reduceEqDiff, reduceIte, Nat.reduceAdd, Nat.reduceMul, Nat.reduceSub, Nat.reduceLT, Nat.reduceLeDiff, Int.reduceToNat, Int.reduceBEq, Int.reduceBNe, Int.reduceLT, Int.reduceLE, Int.reduceAdd, Int.reduceSub, Int.reduceMul, Int.reduceNeg, Int.reduceEq, Int.reduceNe]
    refine hK1 _ ?_; clear hK1 K1
    refine xw_cut 4 [(1, (.ptr 0 0)), (3, (vb x20)), (4, (.imm (List.map vu x21.1) x21.1.length)), (43, (vb ((decide ((x21.1.length : Int) < 1)) || (decide (33 < (x21.1.length : Int))))))] (by (try simp only [go_sem]); rfl) (by (try simp only [go_sem]); rfl) (by rfl) (fun K1 hK1 => ?_) fun tz => ?_
    ·
     refine xw_id ?_
     rcases Bool.eq_false_or_eq_true (decide ((x21.1.length : Int) < 1)) with h5 | h5
     ·
      try simp only [go_sem, ↓iop_and, ↓iop_or, ↓iop_xor, ↓iop_andn, Nat.reduceEqDiff, reduceIte, Nat.reduceAdd, Nat.reduceMul, Nat.reduceSub, Nat.reduceLT, Nat.reduceLeDiff, Int.reduceToNat, Int.reduceBEq, Int.reduceBNe, Int.reduceLT, Int.reduceLE, Int.reduceAdd, Int.reduceSub, Int.reduceMul, Int.reduceNeg, Int.reduceEq, Int.reduceNe, h5]
      exact hK1 _ ⟨rfl, rfl, rfl, rfl, (by first | rfl | (rw [h5]; rfl) | (simp only [h5, Bool.true_and, Bool.false_and, Bool.true_or, Bool.false_or, cond_true, cond_false]; done)), trivial⟩
     ·
      try simp only [go_sem, ↓iop_and, ↓iop_or, ↓iop_xor, ↓iop_andn, Nat.reduceEqDiff, reduceIte, Nat.reduceAdd, Nat.reduceMul, Nat.reduceSub, Nat.reduceLT, Nat.reduceLeDiff, Int.reduceToNat, Int.reduceBEq, Int.reduceBNe, Int.reduceLT, Int.reduceLE, Int.reduceAdd, Int.reduceSub, Int.reduceMul, Int.reduceNeg, Int.reduceEq, Int.reduceNe, h5]
      exact hK1 _ ⟨rfl, rfl, rfl, rfl, (by first | rfl | (rw [h5]; rfl) | (simp only [h5, Bool.true_and, Bool.false_and, Bool.true_or, Bool.false_or, cond_true, cond_false]; done)), trivial⟩
    ·
     refine xw_id ?_
     try simp only [go_sem, ↓iop_and, ↓iop_or, ↓iop_xor, ↓iop_andn, Nat.reduceEqDiff, reduceIte, Nat.reduceAdd, Nat.reduceMul, Nat.reduceSub, Nat.reduceLT, Nat.reduceLeDiff, Int.reduceToNat, Int.reduceBEq, Int.reduceBNe, Int.reduceLT, Int.reduceLE, Int.reduceAdd, Int.reduceSub, Int.reduceMul, Int.reduceNeg, Int.reduceEq, Int.reduceNe]
     refine hKK _ _ (Wk.refl _ _ _) ?_; clear hKK KK
     refine awp_cond (b := ((decide ((x21.1.length : Int) < 1)) || (decide (33 < (x21.1.length : Int))))) rfl (fun h6 => ?_) (fun h6 => ?_)
     ·
      have h0 := cT h0 h6
      refine awp_assoc ?_
      refine awp_nr [] (fun _ => rfl) fun tz => ?_
      refine awp_regW fun KK hKK => ?_
      refine xw_id ?_
      try simp only [go_sem, ↓iop_and, ↓iop_or, ↓iop_xor, ↓iop_andn, Nat.reduceEqDiff, reduceIte, Nat.reduceAdd, Nat.reduceMul, Nat.reduceSub, Nat.reduceLT, Nat.reduceLeDiff]
      refine hKK _ _ (Wk.refl _ _ _) ?_; clear hKK KK
      refine awp_ret ?_
      obtain rfl := someInj h0
      refine endW_i ?_
      refine end_ret0 rs4 (rfl) ?_
      try simp only [go_sem, ↓iop_and, ↓iop_or, ↓iop_xor, ↓iop_andn, Nat.reduceEqDiff, reduceIte, Nat.reduceAdd, Nat.reduceMul, Nat.reduceSub, Nat.reduceLT, Nat.reduceLeDiff, fz, nilS, packR, List.take_nil, List.take_length, List.length_map, List.length_append, cond_true, cond_false, Nat.ble_eq, ble_self, List.map_append]
      all_goals rfl
     ·
      have h0 := cF h0 h6
      refine awp_skip ?_
      refine awp_nr [1,3,4] (fun _ => rfl) fun tz => ?_
      refine awp_regW fun KK hKK => ?_
      refine xw_id ?_
      obtain ⟨x24, bx24, h0⟩ := bnd h0
      obtain ⟨fx24_0, fx24_1, fx24_2, fx24_3⟩ := idx_some bx24
      simp only [Int.reduceToNat] at fx24_2 fx24_3
      try simp only [go_sem, ↓iop_and, ↓iop_or, ↓iop_xor, ↓iop_andn, Nat.reduceEqDiff, reduceIte, Nat.reduceAdd, Nat.reduceMul, Nat.reduceSub, Nat.reduceLT, Nat.reduceLeDiff, Int.reduceToNat, Int.reduceBEq, Int.reduceBNe, Int.reduceLT, Int.reduceLE, Int.reduceAdd, Int.reduceSub, Int.reduceMul, Int.reduceNeg, Int.reduceEq, Int.reduceNe, fx24_0, fx24_1, fx24_2]
      refine hKK _ _ (Wk.refl _ _ _) ?_; clear hKK KK
      refine awp_assoc ?_
      refine awp_nr [1,3,4,6] (fun _ => rfl) fun tz => ?_
      refine awp_regW fun KK hKK => ?_
      refine xw_id ?_
      try simp only [go_sem, ↓iop_and, ↓iop_or, ↓iop_xor, ↓iop_andn, Nat.reduceEqDiff, reduceIte, Nat.reduceAdd, Nat.reduceMul, Nat.reduceSub, Nat.reduceLT, Nat.reduceLeDiff, fx24_0, fx24_1, fx24_2]
      refine hKK _ _ (Wk.refl _ _ _) ?_; clear hKK KK
      obtain ⟨o26, hi7, h0⟩ := bnd h0
      refine awp_cut (fun d25 : Unit => o26 = Ex.go d25) (fun d25 : Unit => hotspotlaw33_BitmapShortest_S0 x20 x24 d25) ?_ ?_
      ·
       refine awp_block1 ?_
       refine awp_loopS (fun n (d27 : Int) => hotspotlaw33_BitmapShortest_L2 a0 x21 x24 n d27 = some o26) (fun d27 : Int => hotspotlaw33_BitmapShortest_S1 a0 x20 x21 x24 d27) big 0 (Wk.canonD [] [] [some 0] rfl trivial rfl (tmOU 0 tmO0 rfl List.not_mem_nil (by simp only [upd_get, ↓iop_and, ↓iop_or, ↓iop_xor, ↓iop_andn, Nat.reduceEqDiff, reduceIte, Nat.reduceAdd, Nat.reduceMul, Nat.reduceSub, Nat.reduceLT, Nat.reduceLeDiff, if_true, if_false] <;> rfl) (e_Traffic_tmx (by rfl) (Tm.clean (Clean.imm (vi_clean _))))) (tmAllU 7 (tmAllU 6 (tmAllU 4 (tmAllU 3 (tmAllU 1 tmAll0 (Tm.ptr rfl)) (Tm.v _)) (Tm.clean (Clean.imm (vu_clean _)))) (Tm.v _)) (Tm.v _))) hi7 ?_
       clear hi7
       rintro n d27 hl9
       rcases n with _ | n8
       ·
        (rw [hotspotlaw33_BitmapShortest_L2] at hl9; cases hl9)
       ·
        rw [hotspotlaw33_BitmapShortest_L2] at hl9
        unfold hotspotlaw33_BitmapShortest_S1
        refine awp_assoc ?_
        refine awp_nr [1,3,4,6,7] (fun _ => rfl) fun tz => ?_
        refine awp_regW fun KK hKK => ?_
        refine xw_id ?_
        try simp only [go_sem, ↓iop_and, ↓iop_or, ↓iop_xor, ↓iop_andn, Nat.reduceEqDiff, reduceIte, Nat.reduceAdd, Nat.reduceMul, Nat.reduceSub, Nat.reduceLT, Nat.reduceLeDiff]
        refine hKK _ _ (Wk.refl _ _ _) ?_; clear hKK KK
        refine awp_cond (b := (decide (d27 < 4))) rfl (fun h10 => ?_) (fun h10 => ?_)
        ·
         have hl9 := cT hl9 h10
         refine awp_skip ?_
         refine awp_blockW ?_
         refine awp_nr [1,3,4,6,7] (fun _ => rfl) fun tz => ?_
         refine awp_regW fun KK hKK => ?_
         refine xw_id ?_
         obtain ⟨x28, bx28, hl9⟩ := bnd hl9
         try simp only [go_sem, ↓iop_and, ↓iop_or, ↓iop_xor, ↓iop_andn, Nat.reduceEqDiff, reduceIte, Nat.reduceAdd, Nat.reduceMul, Nat.reduceSub, Nat.reduceLT, Nat.reduceLeDiff]
         refine xcall_p (bitmap_EncodeAs_p a0 d27 bx28) ?_; try dsimp only
         try refine xw_id ?_
         try simp only [go_sem, ↓iop_and, ↓iop_or, ↓iop_xor, ↓iop_andn, Nat.reduceEqDiff, reduceIte, Nat.reduceAdd, Nat.reduceMul, Nat.reduceSub, Nat.reduceLT, Nat.reduceLeDiff]
         refine hKK _ _ (Wk.refl _ _ _) ?_; clear hKK KK
         refine awp_nr [1,3,4,6,7,8,9] (fun _ => rfl) fun tz => ?_
         refine awp_regW fun KK hKK => ?_
         refine xw_id ?_
         obtain ⟨x29, bx29, hl9⟩ := bnd hl9
         try simp only [go_sem, ↓iop_and, ↓iop_or, ↓iop_xor, ↓iop_andn, Nat.reduceEqDiff, reduceIte, Nat.reduceAdd, Nat.reduceMul, Nat.reduceSub, Nat.reduceLT, Nat.reduceLeDiff]
         refine xcall_p (bitmap_Size_p a0 d27 bx29) ?_; try dsimp only
         try refine xw_id ?_
         try simp only [go_sem, ↓iop_and, ↓iop_or, ↓iop_xor, ↓iop_andn, Nat.reduceEqDiff, reduceIte, Nat.reduceAdd, Nat.reduceMul, Nat.reduceSub, Nat.reduceLT, Nat.reduceLeDiff]
         refine hKK _ _ (Wk.refl _ _ _) ?_; clear hKK KK
         refine awp_nr [1,3,4,6,7,8,9,10,11] (fun _ => rfl) fun tz => ?_
         refine awp_regW fun KK hKK => ?_
         refine xw_id ?_
         try simp only [List.append_eq, Array.toList_append, List.append_toArray, List.toList_toArray, List.cons_append, List.nil_append]
         refine xw_stop 3 (by (try simp only [go_sem]); rfl) (by (try simp only [go_sem]); rfl) (by rfl) fun K1 hK1 => ?_
         refine xw_id ?_
         try simp only [go_sem, ↓iop_and, ↓iop_or, ↓iop_xor, ↓iop_andn, Nat.reduceEqDiff, reduceIte, Nat.reduceAdd, Nat.reduceMul, Nat.reduceSub, Nat.reduceLT, Nat.reduceLeDiff]
         refine hK1 _ ?_; clear hK1 K1
         refine xw_cut 3 [(1, (.ptr 0 0)), (3, (vb x20)), (4, (.imm (List.map vu x21.1) x21.1.length)), (6, (vu ((x24).tmod 128))), (7, (vu d27)), (8, (.imm (List.map vu x28.1) x28.1.length)), (10, (vi x29.1)), (69, (vb ((x28.2 != 0) || (x29.2 != 0))))] (by (try simp only [go_sem]); rfl) (by (try simp only [go_sem]); rfl) (by rfl) (fun K1 hK1 => ?_) fun tz => ?_
         ·
          refine xw_id ?_
          rcases Bool.eq_false_or_eq_true (x28.2 != 0) with h11 | h11
          ·
           try simp only [go_sem, ↓iop_and, ↓iop_or, ↓iop_xor, ↓iop_andn, Nat.reduceEqDiff, reduceIte, Nat.reduceAdd, Nat.reduceMul, Nat.reduceSub, Nat.reduceLT, Nat.reduceLeDiff, h11]
           exact hK1 _ ⟨rfl, rfl, rfl, rfl, rfl, rfl, rfl, rfl, (by first | rfl | (rw [h11]; rfl) | (simp only [h11, Bool.true_and, Bool.false_and, Bool.true_or, Bool.false_or, cond_true, cond_false]; done)), trivial⟩
          ·
           try simp only [go_sem, ↓iop_and, ↓iop_or, ↓iop_xor, ↓iop_andn, Nat.reduceEqDiff, reduceIte, Nat.reduceAdd, Nat.reduceMul, Nat.reduceSub, Nat.reduceLT, Nat.reduceLeDiff, h11]
           exact hK1 _ ⟨rfl, rfl, rfl, rfl, rfl, rfl, rfl, rfl, (by first | rfl | (rw [h11]; rfl) | (simp only [h11, Bool.true_and, Bool.false_and, Bool.true_or, Bool.false_or, cond_true, cond_false]; done)), trivial⟩
         ·
          refine xw_id ?_
          refine xw_stop 1 (by (try simp only [go_sem]); rfl) (by (try simp only [go_sem]); rfl) (by rfl) fun K1 hK1 => ?_
          refine xw_id ?_
          try simp only [go_sem, ↓iop_and, ↓iop_or, ↓iop_xor, ↓iop_andn, Nat.reduceEqDiff, reduceIte, Nat.reduceAdd, Nat.reduceMul, Nat.reduceSub, Nat.reduceLT, Nat.reduceLeDiff]
          refine hK1 _ ?_; clear hK1 K1
          refine xw_cut 5 [(1, (.ptr 0 0)), (3, (vb x20)), (4, (.imm (List.map vu x21.1) x21.1.length)), (6, (vu ((x24).tmod 128))), (7, (vu d27)), (8, (.imm (List.map vu x28.1) x28.1.length)), (75, (vb (((x28.2 != 0) || (x29.2 != 0)) || (x29.1 != (x28.1.length : Int)))))] (by (try simp only [go_sem]); rfl) (by (try simp only [go_sem]); rfl) (by rfl) (fun K1 hK1 => ?_) fun tz => ?_
          ·
           refine xw_id ?_
           rcases Bool.eq_false_or_eq_true ((x28.2 != 0) || (x29.2 != 0)) with h12 | h12
           ·
            try simp only [go_sem, ↓iop_and, ↓iop_or, ↓iop_xor, ↓iop_andn, Nat.reduceEqDiff, reduceIte, Nat.reduceAdd, Nat.reduceMul, Nat.reduceSub, Nat.reduceLT, Nat.reduceLeDiff, h12]
            exact hK1 _ ⟨rfl, rfl, rfl, rfl, rfl, rfl, rfl, (by first | rfl | (rw [h12]; rfl) | (simp only [h12, Bool.true_and, Bool.false_and, Bool.true_or, Bool.false_or, cond_true, cond_false]; done)), trivial⟩
           ·
            try simp only [go_sem, ↓iop_and, ↓iop_or, ↓iop_xor, ↓iop_andn, Nat.reduceEqDiff, reduceIte, Nat.reduceAdd, Nat.reduceMul, Nat.reduceSub, Nat.reduceLT, Nat.reduceLeDiff, Int.reduceToNat, Int.reduceBEq, Int.reduceBNe, Int.reduceLT, Int.reduceLE, Int.reduceAdd, Int.reduceSub, Int.reduceMul, Int.reduceNeg, Int.reduceEq, Int.reduceNe, h12]
            exact hK1 _ ⟨rfl, rfl, rfl, rfl, rfl, rfl, rfl, (by first | rfl | (rw [h12]; rfl) | (simp only [h12, Bool.true_and, Bool.false_and, Bool.true_or, Bool.false_or, cond_true, cond_false]; done)), trivial⟩
          ·
           refine xw_id ?_
           refine xw_stop 1 (by (try simp only [go_sem]); rfl) (by (try simp only [go_sem]); rfl) (by rfl) fun K1 hK1 => ?_
           refine xw_id ?_
           try simp only [go_sem, ↓iop_and, ↓iop_or, ↓iop_xor, ↓iop_andn, Nat.reduceEqDiff, reduceIte, Nat.reduceAdd, Nat.reduceMul, Nat.reduceSub, Nat.reduceLT, Nat.reduceLeDiff]
           refine hK1 _ ?_; clear hK1 K1
           refine xw_cut 6 [(1, (.ptr 0 0)), (3, (vb x20)), (4, (.imm (List.map vu x21.1) x21.1.length)), (6, (vu ((x24).tmod 128))), (7, (vu d27)), (8, (.imm (List.map vu x28.1) x28.1.length)), (82, (vb ((((x28.2 != 0) || (x29.2 != 0)) || (x29.1 != (x28.1.length : Int))) || (decide ((x28.1.length : Int) < (x21.1.length : Int))))))] (by (try simp only [go_sem]); rfl) (by (try simp only [go_sem]); rfl) (by rfl) (fun K1 hK1 => ?_) fun tz => ?_
           ·
            refine xw_id ?_
            rcases Bool.eq_false_or_eq_true (((x28.2 != 0) || (x29.2 != 0)) || (x29.1 != (x28.1.length : Int))) with h13 | h13
            ·
             try simp only [go_sem, ↓iop_and, ↓iop_or, ↓iop_xor, ↓iop_andn, Nat.reduceEqDiff, reduceIte, Nat.reduceAdd, Nat.reduceMul, Nat.reduceSub, Nat.reduceLT, Nat.reduceLeDiff, h13]
             exact hK1 _ ⟨rfl, rfl, rfl, rfl, rfl, rfl, rfl, (by first | rfl | (rw [h13]; rfl) | (simp only [h13, Bool.true_and, Bool.false_and, Bool.true_or, Bool.false_or, cond_true, cond_false]; done)), trivial⟩
            ·
             try simp only [go_sem, ↓iop_and, ↓iop_or, ↓iop_xor, ↓iop_andn, Nat.reduceEqDiff, reduceIte, Nat.reduceAdd, Nat.reduceMul, Nat.reduceSub, Nat.reduceLT, Nat.reduceLeDiff, Int.reduceToNat, Int.reduceBEq, Int.reduceBNe, Int.reduceLT, Int.reduceLE, Int.reduceAdd, Int.reduceSub, Int.reduceMul, Int.reduceNeg, Int.reduceEq, Int.reduceNe, h13]
             exact hK1 _ ⟨rfl, rfl, rfl, rfl, rfl, rfl, rfl, (by first | rfl | (rw [h13]; rfl) | (simp only [h13, Bool.true_and, Bool.false_and, Bool.true_or, Bool.false_or, cond_true, cond_false]; done)), trivial⟩
           ·
            refine xw_id ?_
            refine xw_stop 1 (by (try simp only [go_sem]); rfl) (by (try simp only [go_sem]); rfl) (by rfl) fun K1 hK1 => ?_
            refine xw_id ?_
            try simp only [go_sem, ↓iop_and, ↓iop_or, ↓iop_xor, ↓iop_andn, Nat.reduceEqDiff, reduceIte, Nat.reduceAdd, Nat.reduceMul, Nat.reduceSub, Nat.reduceLT, Nat.reduceLeDiff]
            refine hK1 _ ?_; clear hK1 K1
            refine xw_cut 11 [(1, (.ptr 0 0)), (3, (vb x20)), (4, (.imm (List.map vu x21.1) x21.1.length)), (6, (vu ((x24).tmod 128))), (7, (vu d27)), (8, (.imm (List.map vu x28.1) x28.1.length)), (94, (vb (((((x28.2 != 0) || (x29.2 != 0)) || (x29.1 != (x28.1.length : Int))) || (decide ((x28.1.length : Int) < (x21.1.length : Int)))) || (((x28.1.length : Int) == (x21.1.length : Int)) && (decide (d27 < ((x24).tmod 128)))))))] (by (try simp only [go_sem]); rfl) (by (try simp only [go_sem]); rfl) (by rfl) (fun K1 hK1 => ?_) fun tz => ?_
            ·
             refine xw_id ?_
             rcases Bool.eq_false_or_eq_true ((((x28.2 != 0) || (x29.2 != 0)) || (x29.1 != (x28.1.length : Int))) || (decide ((x28.1.length : Int) < (x21.1.length : Int)))) with h14 | h14
             ·
              try simp only [go_sem, ↓iop_and, ↓iop_or, ↓iop_xor, ↓iop_andn, Nat.reduceEqDiff, reduceIte, Nat.reduceAdd, Nat.reduceMul, Nat.reduceSub, Nat.reduceLT, Nat.reduceLeDiff, h14]
              exact hK1 _ ⟨rfl, rfl, rfl, rfl, rfl, rfl, rfl, (by first | rfl | (rw [h14]; rfl) | (simp only [h14, Bool.true_and, Bool.false_and, Bool.true_or, Bool.false_or, cond_true, cond_false]; done)), trivial⟩
             ·
              refine xw_stop 6 (by (try simp only [go_sem]); rfl) (by (try simp only [go_sem]); rfl) (by rfl) fun K1 hK1 => ?_
              refine xw_id ?_
              try simp only [go_sem, ↓iop_and, ↓iop_or, ↓iop_xor, ↓iop_andn, Nat.reduceEqDiff, reduceIte, Nat.reduceAdd, Nat.reduceMul, Nat.reduceSub, Nat.reduceLT, Nat.reduceLeDiff, Int.reduceToNat, Int.reduceBEq, Int.reduceBNe, Int.reduceLT, Int.reduceLE, Int.reduceAdd, Int.reduceSub, Int.reduceMul, Int.reduceNeg, Int.reduceEq, Int.reduceNe, h14]
              refine hK1 _ ?_; clear hK1 K1
              refine xw_cut 4 [(1, (.ptr 0 0)), (3, (vb x20)), (4, (.imm (List.map vu x21.1) x21.1.length)), (6, (vu ((x24).tmod 128))), (7, (vu d27)), (8, (.imm (List.map vu x28.1) x28.1.length)), (83, (vb false)), (93, (vb (((x28.1.length : Int) == (x21.1.length : Int)) && (decide (d27 < ((x24).tmod 128))))))] (by (try simp only [go_sem]); rfl) (by (try simp only [go_sem]); rfl) (by rfl) (fun K1 hK1 => ?_) fun tz => ?_
              ·
               refine xw_id ?_
               rcases Bool.eq_false_or_eq_true ((x28.1.length : Int) == (x21.1.length : Int)) with h15 | h15
               ·
                try simp only [go_sem, ↓iop_and, ↓iop_or, ↓iop_xor, ↓iop_andn, Nat.reduceEqDiff, reduceIte, Nat.reduceAdd, Nat.reduceMul, Nat.reduceSub, Nat.reduceLT, Nat.reduceLeDiff, Int.reduceToNat, Int.reduceBEq, Int.reduceBNe, Int.reduceLT, Int.reduceLE, Int.reduceAdd, Int.reduceSub, Int.reduceMul, Int.reduceNeg, Int.reduceEq, Int.reduceNe, h14, h15]
                exact hK1 _ ⟨rfl, rfl, rfl, rfl, rfl, rfl, rfl, rfl, (by first | rfl | (rw [h15]; rfl) | (simp only [h15, Bool.true_and, Bool.false_and, Bool.true_or, Bool.false_or, cond_true, cond_false]; done)), trivial⟩
               ·
                try simp only [go_sem, ↓iop_and, ↓iop_or, ↓iop_xor, ↓iop_andn, Nat.reduceEqDiff, reduceIte, Nat.reduceAdd, Nat.reduceMul, Nat.reduceSub, Nat.reduceLT, Nat.reduceLeDiff, Int.reduceToNat, Int.reduceBEq, Int.reduceBNe, Int.reduceLT, Int.reduceLE, Int.reduceAdd, Int.reduceSub, Int.reduceMul, Int.reduceNeg, Int.reduceEq, Int.reduceNe, h14, h15]
                exact hK1 _ ⟨rfl, rfl, rfl, rfl, rfl, rfl, rfl, rfl, (by first | rfl | (rw [h15]; rfl) | (simp only [h15, Bool.true_and, Bool.false_and, Bool.true_or, Bool.false_or, cond_true, cond_false]; done)), trivial⟩
              ·
               refine xw_id ?_
               try simp only [go_sem, ↓iop_and, ↓iop_or, ↓iop_xor, ↓iop_andn, Nat.reduceEqDiff, reduceIte, Nat.reduceAdd, Nat.reduceMul, Nat.reduceSub, Nat.reduceLT, Nat.reduceLeDiff, Int.reduceToNat, Int.reduceBEq, Int.reduceBNe, Int.reduceLT, Int.reduceLE, Int.reduceAdd, Int.reduceSub, Int.reduceMul, Int.reduceNeg, Int.reduceEq, Int.reduceNe, h14]
               exact hK1 _ ⟨rfl, rfl, rfl, rfl, rfl, rfl, rfl, (by first | rfl | (rw [h14]; rfl) | (simp only [h14, Bool.true_and, Bool.false_and, Bool.true_or, Bool.false_or, cond_true, cond_false]; done)), trivial⟩
            ·
             refine xw_id ?_
             refine xw_stop 1 (by (try simp only [go_sem]); rfl) (by (try simp only [go_sem]); rfl) (by rfl) fun K1 hK1 => ?_
             refine xw_id ?_
             try simp only [go_sem, ↓iop_and, ↓iop_or, ↓iop_xor, ↓iop_andn, Nat.reduceEqDiff, reduceIte, Nat.reduceAdd, Nat.reduceMul, Nat.reduceSub, Nat.reduceLT, Nat.reduceLeDiff]
             refine hK1 _ ?_; clear hK1 K1
             obtain ⟨x32, hvh16, hl9⟩ := bnd hl9
             refine xw_cut 10 [(1, (.ptr 0 0)), (3, (vb x20)), (4, (.imm (List.map vu x21.1) x21.1.length)), (6, (vu ((x24).tmod 128))), (7, (vu d27)), (105, (vb x32))] (by (try simp only [go_sem]); rfl) (by (try simp only [go_sem]); rfl) (by rfl) (fun K1 hK1 => ?_) fun tz => ?_
             ·
              refine xw_id ?_
              rcases Bool.eq_false_or_eq_true (((((x28.2 != 0) || (x29.2 != 0)) || (x29.1 != (x28.1.length : Int))) || (decide ((x28.1.length : Int) < (x21.1.length : Int)))) || (((x28.1.length : Int) == (x21.1.length : Int)) && (decide (d27 < ((x24).tmod 128))))) with h16 | h16
              ·
               have hvh16 := cT hvh16 h16
               try simp only [go_sem, ↓iop_and, ↓iop_or, ↓iop_xor, ↓iop_andn, Nat.reduceEqDiff, reduceIte, Nat.reduceAdd, Nat.reduceMul, Nat.reduceSub, Nat.reduceLT, Nat.reduceLeDiff, h16]
               obtain rfl := someInj hvh16
               exact hK1 _ ⟨rfl, rfl, rfl, rfl, rfl, rfl, (by first | rfl | (rw [h16]; rfl) | (simp only [h16, Bool.true_and, Bool.false_and, Bool.true_or, Bool.false_or, cond_true, cond_false]; done)), trivial⟩
              ·
               have hvh16 := cF hvh16 h16
               refine xw_stop 4 (by (try simp only [go_sem]); rfl) (by (try simp only [go_sem]); rfl) (by rfl) fun K1 hK1 => ?_
               refine xw_id ?_
               try simp only [go_sem, ↓iop_and, ↓iop_or, ↓iop_xor, ↓iop_andn, Nat.reduceEqDiff, reduceIte, Nat.reduceAdd, Nat.reduceMul, Nat.reduceSub, Nat.reduceLT, Nat.reduceLeDiff, h16]
               refine hK1 _ ?_; clear hK1 K1
               obtain ⟨x31, hvh17, hvh16⟩ := bnd hvh16
               refine xw_cut 5 [(1, (.ptr 0 0)), (3, (vb x20)), (4, (.imm (List.map vu x21.1) x21.1.length)), (6, (vu ((x24).tmod 128))), (7, (vu d27)), (95, (vb false)), (104, (vb x31))] (by (try simp only [go_sem]); rfl) (by (try simp only [go_sem]); rfl) (by rfl) (fun K1 hK1 => ?_) fun tz => ?_
               ·
                refine xw_id ?_
                rcases Bool.eq_false_or_eq_true (d27 == ((x24).tmod 128)) with h17 | h17
                ·
                 have hvh17 := cT hvh17 h17
                 obtain ⟨x30, bx30, hvh17⟩ := bnd hvh17
                 try simp only [go_sem, ↓iop_and, ↓iop_or, ↓iop_xor, ↓iop_andn, Nat.reduceEqDiff, reduceIte, Nat.reduceAdd, Nat.reduceMul, Nat.reduceSub, Nat.reduceLT, Nat.reduceLeDiff, h16, h17]
                 refine xcall_p (hotspotref33_Same_p x21.1 x28.1 bx30) ?_; try dsimp only
                 try refine xw_id ?_
                 try simp only [go_sem, ↓iop_and, ↓iop_or, ↓iop_xor, ↓iop_andn, Nat.reduceEqDiff, reduceIte, Nat.reduceAdd, Nat.reduceMul, Nat.reduceSub, Nat.reduceLT, Nat.reduceLeDiff, h16, h17]
                 obtain rfl := someInj hvh17
                 exact hK1 _ ⟨rfl, rfl, rfl, rfl, rfl, rfl, rfl, (by first | rfl | (rw [h17]; rfl) | (simp only [h17, Bool.true_and, Bool.false_and, Bool.true_or, Bool.false_or, cond_true, cond_false]; done)), trivial⟩
                ·
                 have hvh17 := cF hvh17 h17
                 try simp only [go_sem, ↓iop_and, ↓iop_or, ↓iop_xor, ↓iop_andn, Nat.reduceEqDiff, reduceIte, Nat.reduceAdd, Nat.reduceMul, Nat.reduceSub, Nat.reduceLT, Nat.reduceLeDiff, h16, h17]
                 obtain rfl := someInj hvh17
                 exact hK1 _ ⟨rfl, rfl, rfl, rfl, rfl, rfl, rfl, (by first | rfl | (rw [h17]; rfl) | (simp only [h17, Bool.true_and, Bool.false_and, Bool.true_or, Bool.false_or, cond_true, cond_false]; done)), trivial⟩
               ·
                refine xw_id ?_
                try simp only [go_sem, ↓iop_and, ↓iop_or, ↓iop_xor, ↓iop_andn, Nat.reduceEqDiff, reduceIte, Nat.reduceAdd, Nat.reduceMul, Nat.reduceSub, Nat.reduceLT, Nat.reduceLeDiff, h16]
                obtain rfl := someInj hvh16
                exact hK1 _ ⟨rfl, rfl, rfl, rfl, rfl, rfl, (by first | rfl | (rw [h16]; rfl) | (simp only [h16, Bool.true_and, Bool.false_and, Bool.true_or, Bool.false_or, cond_true, cond_false]; done)), trivial⟩
             ·
              refine xw_id ?_
              try simp only [go_sem, ↓iop_and, ↓iop_or, ↓iop_xor, ↓iop_andn, Nat.reduceEqDiff, reduceIte, Nat.reduceAdd, Nat.reduceMul, Nat.reduceSub, Nat.reduceLT, Nat.reduceLeDiff]
              refine hKK _ _ (Wk.refl _ _ _) ?_; clear hKK KK
              refine awp_cond1 (b := x32) rfl (fun h18 => ?_) (fun h18 => ?_)
              ·
               have hl9 := cT hl9 h18
               refine awp_nr [] (fun _ => rfl) fun tz => ?_
               refine awp_regW fun KK hKK => ?_
               refine xw_id ?_
               try simp only [go_sem, ↓iop_and, ↓iop_or, ↓iop_xor, ↓iop_andn, Nat.reduceEqDiff, reduceIte, Nat.reduceAdd, Nat.reduceMul, Nat.reduceSub, Nat.reduceLT, Nat.reduceLeDiff]
               refine hKK _ _ (Wk.refl _ _ _) ?_; clear hKK KK
               refine awp_ret1 ?_
               refine bq_r ?_
               refine sq_r ?_
               refine lq_r ?_
               refine bq_r ?_
               refine sq_r ?_
               obtain rfl := someInj hl9
               obtain rfl := Ex.k_ret h0
               refine endW_i ?_
               refine end_ret0 rs4 (rfl) ?_
               try simp only [go_sem, ↓iop_and, ↓iop_or, ↓iop_xor, ↓iop_andn, Nat.reduceEqDiff, reduceIte, Nat.reduceAdd, Nat.reduceMul, Nat.reduceSub, Nat.reduceLT, Nat.reduceLeDiff, fz, nilS, packR, List.take_nil, List.take_length, List.length_map, List.length_append, cond_true, cond_false, Nat.ble_eq, ble_self, List.map_append]
               all_goals rfl
              ·
               have hl9 := cF hl9 h18
               refine awp_skip1 ?_
               refine bq_n ?_
               refine seqW_i ?_
               refine awp_nr1 [1,3,4,6,7] (fun _ => rfl) fun tz => ?_
               refine awp_reg1 fun KK hKK => ?_
               refine xw_id ?_
               try simp only [go_sem, ↓iop_and, ↓iop_or, ↓iop_xor, ↓iop_andn, Nat.reduceEqDiff, reduceIte, Nat.reduceAdd, Nat.reduceMul, Nat.reduceSub, Nat.reduceLT, Nat.reduceLeDiff]
               refine hKK _ ?_; clear hKK KK
               refine lq_n ?_
               exact ⟨n8, IntKind.wrap .u8 (d27 + 1), rfl, hl9, (Wk.canonD [] [] [some 0] rfl trivial rfl (tmOU 0 tmO0 rfl List.not_mem_nil (by simp only [upd_get, ↓iop_and, ↓iop_or, ↓iop_xor, ↓iop_andn, Nat.reduceEqDiff, reduceIte, Nat.reduceAdd, Nat.reduceMul, Nat.reduceSub, Nat.reduceLT, Nat.reduceLeDiff, if_true, if_false] <;> rfl) (e_Traffic_tmx (by rfl) (Tm.clean (Clean.imm (vi_clean _))))) (tmAllU 7 (tmAllU 6 (tmAllU 4 (tmAllU 3 (tmAllU 1 tmAll0 (Tm.ptr rfl)) (Tm.v _)) (Tm.clean (Clean.imm (vu_clean _)))) (Tm.v _)) (Tm.v _)))⟩
        ·
         have hl9 := cF hl9 h10
         refine awp_exit ?_
         refine lq_e ?_
         refine bq_e ?_
         refine sq_n ?_
         obtain rfl := someInj hl9
         exact ⟨_, rfl, (Wk.canonD [] [] [] rfl trivial rfl tmO0 (tmAllU 6 (tmAllU 3 tmAll0 (Tm.v _)) (Tm.v _)))⟩
      ·
       rintro d25 rfl
       have h0 := Ex.k_go h0
       clear hi7
       unfold hotspotlaw33_BitmapShortest_S0
       refine awp_nr [3,6] (fun _ => rfl) fun tz => ?_
       refine awp_regW fun KK hKK => ?_
       refine xw_id ?_
       refine xw_stop 2 (by (try simp only [go_sem]); rfl) (by (try simp only [go_sem]); rfl) (by rfl) fun K1 hK1 => ?_
       refine xw_id ?_
       try simp only [go_sem, ↓iop_and, ↓iop_or, ↓iop_xor, ↓iop_andn, Nat.reduceEqDiff, reduceIte, Nat.reduceAdd, Nat.reduceMul, Nat.reduceSub, Nat.reduceLT, Nat.reduceLeDiff]
       refine hK1 _ ?_; clear hK1 K1
       refine xw_cut 3 [(110, (vb (x20 && (decide (((x24).tmod 128) < 4)))))] (by (try simp only [go_sem]); rfl) (by (try simp only [go_sem]); rfl) (by rfl) (fun K1 hK1 => ?_) fun tz => ?_
       ·
        refine xw_id ?_
        rcases Bool.eq_false_or_eq_true x20 with h19 | h19
        ·
         try simp only [go_sem, ↓iop_and, ↓iop_or, ↓iop_xor, ↓iop_andn, Nat.reduceEqDiff, reduceIte, Nat.reduceAdd, Nat.reduceMul, Nat.reduceSub, Nat.reduceLT, Nat.reduceLeDiff, h19]
         exact hK1 _ ⟨rfl, (by first | rfl | (rw [h19]; rfl) | (simp only [h19, Bool.true_and, Bool.false_and, Bool.true_or, Bool.false_or, cond_true, cond_false]; done)), trivial⟩
        ·
         try simp only [go_sem, ↓iop_and, ↓iop_or, ↓iop_xor, ↓iop_andn, Nat.reduceEqDiff, reduceIte, Nat.reduceAdd, Nat.reduceMul, Nat.reduceSub, Nat.reduceLT, Nat.reduceLeDiff, h19]
         exact hK1 _ ⟨rfl, (by first | rfl | (rw [h19]; rfl) | (simp only [h19, Bool.true_and, Bool.false_and, Bool.true_or, Bool.false_or, cond_true, cond_false]; done)), trivial⟩
       ·
        refine xw_id ?_
        try simp only [go_sem, ↓iop_and, ↓iop_or, ↓iop_xor, ↓iop_andn, Nat.reduceEqDiff, reduceIte, Nat.reduceAdd, Nat.reduceMul, Nat.reduceSub, Nat.reduceLT, Nat.reduceLeDiff]
        refine hKK _ _ (Wk.refl _ _ _) ?_; clear hKK KK
        refine awp_ret1 ?_
        obtain rfl := someInj h0
        refine endW_i ?_
        refine end_ret0 rs4 (rfl) ?_
        try simp only [go_sem, ↓iop_and, ↓iop_or, ↓iop_xor, ↓iop_andn, Nat.reduceEqDiff, reduceIte, Nat.reduceAdd, Nat.reduceMul, Nat.reduceSub, Nat.reduceLT, Nat.reduceLeDiff, fz, nilS, packR, List.take_nil, List.take_length, List.length_map, List.length_append, cond_true, cond_false, Nat.ble_eq, ble_self, List.map_append]
        all_goals rfl

end Go.AX.Z.TE
