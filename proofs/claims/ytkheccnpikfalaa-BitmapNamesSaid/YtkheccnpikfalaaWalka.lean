/- A part of the proof: walks through the functions that the statement reaches. -/
import Derived.Test.YtkheccnpikfalaaPrea
set_option linter.unusedVariables false
set_option linter.unusedSimpArgs false

/-! (TDW bitmap Check) -/

set_option linter.unusedSimpArgs false
set_option linter.unusedVariables false
set_option maxHeartbeats 4000000
set_option maxRecDepth 20000
namespace Go.AX.Z.TD
open Go.AX Go.Proofs
attribute [local irreducible] awp xw xop xcall gsp ob xd xdop xcallD seqQ loopQ blkQ endQ

def bitmap_Check_S0 (d32 : Unit) : AS :=
 { objs := (fun _ => .dead), next := 0, tmps := (fun _ => .unk) }

def bitmap_Check_S1 (a0 : Traffic) (d34 : (Int × Int)) : AS :=
 { objs := (fun _ => .dead), next := 0, tmps := (upd (upd (upd (upd (fun _ => .unk) 3 (vi d34.1)) 7 (.imm (List.map vi a0.Aids) a0.Aids.length)) 8 (vi (a0.Aids.length : Int))) 9 (vi d34.2)) }

theorem bitmap_Check_p (a0 : Traffic) {r : Int} (h0 : bitmap_Check a0 = some r) : SndP K 18 [(.agg (E_Traffic a0))] (vi r) := by
 refine SndP.of_walkW hC (Clean.v _) (clean_cons (Clean.agg (E_Traffic_clean _)) clean_nil) (show K.P.funcs[18]? = some Try.f18 from Try.func18) rfl rfl (by decide +kernel) (Nat.le_of_ble_eq_true rfl) ?_
 unfold bitmap_Check at h0
 refine awp_nr [0] (fun _ => rfl) fun tz => ?_
 refine awp_regW fun KK hKK => ?_
 refine xw_id ?_
 try simp only [go_sem, ↓iop_and, ↓iop_or, ↓iop_xor, ↓iop_andn, Nat.reduceEqDiff, reduceIte, Nat.reduceAdd, Nat.reduceMul, Nat.reduceSub, Nat.reduceLT, Nat.reduceLeDiff]
 refine hKK _ _ (Wk.refl _ _ _) ?_; clear hKK KK
 refine awp_nr [1] (fun _ => rfl) fun tz => ?_
 refine awp_regW fun KK hKK => ?_
 refine xw_id ?_
 try simp only [go_sem, ↓iop_and, ↓iop_or, ↓iop_xor, ↓iop_andn, Nat.reduceEqDiff, reduceIte, Nat.reduceAdd, Nat.reduceMul, Nat.reduceSub, Nat.reduceLT, Nat.reduceLeDiff]
 refine hKK _ _ (Wk.refl _ _ _) ?_; clear hKK KK
 refine awp_assoc ?_
 refine awp_nr [1,3] (fun _ => rfl) fun tz => ?_
 refine awp_regW fun KK hKK => ?_
 refine xw_id ?_
 try simp only [go_sem, ↓iop_and, ↓iop_or, ↓iop_xor, ↓iop_andn, Nat.reduceEqDiff, reduceIte, Nat.reduceAdd, Nat.reduceMul, Nat.reduceSub, Nat.reduceLT, Nat.reduceLeDiff, Int.reduceToNat, Int.reduceBEq, Int.reduceBNe, Int.reduceLT, Int.reduceLE, Int.reduceAdd, Int.reduceSub, Int.reduceMul, Int.reduceNeg, Int.reduceEq, Int.reduceNe]
 refine hKK _ _ (Wk.refl _ _ _) ?_; clear hKK KK
 obtain ⟨o33, hi1, h0⟩ := bnd h0
 refine awp_cut (fun d32 : Unit => o33 = Ex.go d32) (fun d32 : Unit => bitmap_Check_S0 d32) ?_ ?_
 ·
  refine awp_block1 ?_
  refine awp_loopS (fun n (d34 : (Int × Int)) => bitmap_Check_L2 a0 n d34 = some o33) (fun d34 : (Int × Int) => bitmap_Check_S1 a0 d34) big (0, 0) (Wk.canonD [] [] [] rfl trivial rfl tmO0 (tmAllU 9 (tmAllU 8 (tmAllU 7 (tmAllU 3 tmAll0 (Tm.v _)) (Tm.clean (Clean.imm (vi_clean _)))) (Tm.v _)) (Tm.v _))) hi1 ?_
  clear hi1
  rintro n d34 hl3
  rcases n with _ | n2
  ·
   (rw [bitmap_Check_L2] at hl3; cases hl3)
  ·
   rw [bitmap_Check_L2] at hl3
   unfold bitmap_Check_S1
   refine awp_nr [3,7,8,9] (fun _ => rfl) fun tz => ?_
   refine awp_regW fun KK hKK => ?_
   refine xw_id ?_
   try simp only [go_sem, ↓iop_and, ↓iop_or, ↓iop_xor, ↓iop_andn, Nat.reduceEqDiff, reduceIte, Nat.reduceAdd, Nat.reduceMul, Nat.reduceSub, Nat.reduceLT, Nat.reduceLeDiff]
   refine hKK _ _ (Wk.refl _ _ _) ?_; clear hKK KK
   refine awp_cond (b := (decide (d34.2 < (a0.Aids.length : Int)))) rfl (fun h4 => ?_) (fun h4 => ?_)
   ·
    have hl3 := cT hl3 h4
    refine awp_skip ?_
    refine awp_blockW ?_
    refine awp_nr [3,7,8,9] (fun _ => rfl) fun tz => ?_
    refine awp_regW fun KK hKK => ?_
    refine xw_id ?_
    obtain ⟨x35, bx35, hl3⟩ := bnd hl3
    obtain ⟨fx35_0, fx35_1, fx35_2, fx35_3⟩ := idx_some bx35
    try simp only [go_sem, ↓iop_and, ↓iop_or, ↓iop_xor, ↓iop_andn, Nat.reduceEqDiff, reduceIte, Nat.reduceAdd, Nat.reduceMul, Nat.reduceSub, Nat.reduceLT, Nat.reduceLeDiff, fx35_0, fx35_1, fx35_2]
    refine hKK _ _ (Wk.refl _ _ _) ?_; clear hKK KK
    refine awp_assoc ?_
    refine awp_nr [3,5,7,8,9] (fun _ => rfl) fun tz => ?_
    refine awp_regW fun KK hKK => ?_
    refine xw_id ?_
    refine xw_stop 4 (by (try simp only [go_sem]); rfl) (by (try simp only [go_sem]); rfl) (by rfl) fun K1 hK1 => ?_
    refine xw_id ?_
    try simp only [go_sem, ↓iop_and, ↓iop_or, ↓iop_xor, ↓iop_andn, Nat.reduceEqDiff, reduceIte, Nat.reduceAdd, Nat.reduceMul, Nat.reduceSub, Nat.reduceLT, Nat.reduceLeDiff, fx35_0, fx35_1, fx35_2]
    refine hK1 _ ?_; clear hK1 K1
    refine xw_cut 3 [(5, (vi x35)), (7, (.imm (List.map vi a0.Aids) a0.Aids.length)), (8, (vi (a0.Aids.length : Int))), (9, (vi d34.2)), (19, (vb ((decide (x35 ≤ d34.1)) || (decide (255 < x35)))))] (by (try simp only [go_sem]); rfl) (by (try simp only [go_sem]); rfl) (by rfl) (fun K1 hK1 => ?_) fun tz => ?_
    ·
     refine xw_id ?_
     rcases Bool.eq_false_or_eq_true (decide (x35 ≤ d34.1)) with h5 | h5
     ·
      try simp only [go_sem, ↓iop_and, ↓iop_or, ↓iop_xor, ↓iop_andn, Nat.reduceEqDiff, reduceIte, Nat.reduceAdd, Nat.reduceMul, Nat.reduceSub, Nat.reduceLT, Nat.reduceLeDiff, fx35_0, fx35_1, fx35_2, h5]
      exact hK1 _ ⟨rfl, rfl, rfl, rfl, rfl, (by first | rfl | (rw [h5]; rfl) | (simp only [h5, Bool.true_and, Bool.false_and, Bool.true_or, Bool.false_or, cond_true, cond_false]; done)), trivial⟩
     ·
      try simp only [go_sem, ↓iop_and, ↓iop_or, ↓iop_xor, ↓iop_andn, Nat.reduceEqDiff, reduceIte, Nat.reduceAdd, Nat.reduceMul, Nat.reduceSub, Nat.reduceLT, Nat.reduceLeDiff, fx35_0, fx35_1, fx35_2, h5]
      exact hK1 _ ⟨rfl, rfl, rfl, rfl, rfl, (by first | rfl | (rw [h5]; rfl) | (simp only [h5, Bool.true_and, Bool.false_and, Bool.true_or, Bool.false_or, cond_true, cond_false]; done)), trivial⟩
    ·
     refine xw_id ?_
     try simp only [go_sem, ↓iop_and, ↓iop_or, ↓iop_xor, ↓iop_andn, Nat.reduceEqDiff, reduceIte, Nat.reduceAdd, Nat.reduceMul, Nat.reduceSub, Nat.reduceLT, Nat.reduceLeDiff, fx35_0, fx35_1, fx35_2]
     refine hKK _ _ (Wk.refl _ _ _) ?_; clear hKK KK
     refine awp_cond (b := ((decide (x35 ≤ d34.1)) || (decide (255 < x35)))) rfl (fun h6 => ?_) (fun h6 => ?_)
     ·
      have hl3 := cT hl3 h6
      refine awp_assoc ?_
      refine awp_nr [] (fun _ => rfl) fun tz => ?_
      refine awp_regW fun KK hKK => ?_
      refine xw_id ?_
      try simp only [go_sem, ↓iop_and, ↓iop_or, ↓iop_xor, ↓iop_andn, Nat.reduceEqDiff, reduceIte, Nat.reduceAdd, Nat.reduceMul, Nat.reduceSub, Nat.reduceLT, Nat.reduceLeDiff, fx35_0, fx35_1, fx35_2]
      refine hKK _ _ (Wk.refl _ _ _) ?_; clear hKK KK
      refine awp_ret ?_
      refine bq_r ?_
      refine sq_r ?_
      refine lq_r ?_
      refine bq_r ?_
      refine sq_r ?_
      obtain rfl := someInj hl3
      obtain rfl := Ex.k_ret h0
      refine endW_i ?_
      refine end_ret0 rs18 (rfl) ?_
      try simp only [go_sem, ↓iop_and, ↓iop_or, ↓iop_xor, ↓iop_andn, Nat.reduceEqDiff, reduceIte, Nat.reduceAdd, Nat.reduceMul, Nat.reduceSub, Nat.reduceLT, Nat.reduceLeDiff, fz, nilS, packR, List.take_nil, List.take_length, List.length_map, List.length_append, cond_true, cond_false, Nat.ble_eq, ble_self]
      all_goals first | rfl | (simp only [go_sem, ↓iop_and, ↓iop_or, ↓iop_xor, ↓iop_andn, Nat.reduceEqDiff, reduceIte, Nat.reduceAdd, Nat.reduceMul, Nat.reduceSub, Nat.reduceLT, Nat.reduceLeDiff, fz, nilS, packR, List.take_nil, List.take_length, List.length_map, List.length_append, cond_true, cond_false, Nat.ble_eq, ble_self, List.map_append] <;> rfl)
     ·
      have hl3 := cF hl3 h6
      refine awp_skip ?_
      refine awp_nr1 [5,7,8,9] (fun _ => rfl) fun tz => ?_
      refine awp_reg1 fun KK hKK => ?_
      refine xw_id ?_
      try simp only [go_sem, ↓iop_and, ↓iop_or, ↓iop_xor, ↓iop_andn, Nat.reduceEqDiff, reduceIte, Nat.reduceAdd, Nat.reduceMul, Nat.reduceSub, Nat.reduceLT, Nat.reduceLeDiff, fx35_0, fx35_1, fx35_2]
      refine hKK _ ?_; clear hKK KK
      refine bq_n ?_
      refine seqW_i ?_
      refine awp_nr1 [3,7,8,9] (fun _ => rfl) fun tz => ?_
      refine awp_reg1 fun KK hKK => ?_
      refine xw_id ?_
      try simp only [go_sem, ↓iop_and, ↓iop_or, ↓iop_xor, ↓iop_andn, Nat.reduceEqDiff, reduceIte, Nat.reduceAdd, Nat.reduceMul, Nat.reduceSub, Nat.reduceLT, Nat.reduceLeDiff, fx35_0, fx35_1, fx35_2]
      refine hKK _ ?_; clear hKK KK
      refine lq_n ?_
      exact ⟨n2, (x35, IntKind.wrap .i64 (d34.2 + 1)), rfl, hl3, (Wk.canonD [] [] [] rfl trivial rfl tmO0 (tmAllU 9 (tmAllU 8 (tmAllU 7 (tmAllU 3 tmAll0 (Tm.v _)) (Tm.clean (Clean.imm (vi_clean _)))) (Tm.v _)) (Tm.v _)))⟩
   ·
    have hl3 := cF hl3 h4
    refine awp_exit ?_
    refine lq_e ?_
    refine bq_e ?_
    refine sq_n ?_
    obtain rfl := someInj hl3
    exact ⟨_, rfl, (Wk.canonD [] [] [] rfl trivial rfl tmO0 tmAll0)⟩
 ·
  rintro d32 rfl
  have h0 := Ex.k_go h0
  clear hi1
  unfold bitmap_Check_S0
  refine awp_nr [] (fun _ => rfl) fun tz => ?_
  refine awp_regW fun KK hKK => ?_
  refine xw_id ?_
  try simp only [go_sem, ↓iop_and, ↓iop_or, ↓iop_xor, ↓iop_andn, Nat.reduceEqDiff, reduceIte, Nat.reduceAdd, Nat.reduceMul, Nat.reduceSub, Nat.reduceLT, Nat.reduceLeDiff]
  refine hKK _ _ (Wk.refl _ _ _) ?_; clear hKK KK
  refine awp_ret1 ?_
  obtain rfl := someInj h0
  refine endW_i ?_
  refine end_ret0 rs18 (rfl) ?_
  try simp only [go_sem, ↓iop_and, ↓iop_or, ↓iop_xor, ↓iop_andn, Nat.reduceEqDiff, reduceIte, Nat.reduceAdd, Nat.reduceMul, Nat.reduceSub, Nat.reduceLT, Nat.reduceLeDiff, fz, nilS, packR, List.take_nil, List.take_length, List.length_map, List.length_append, cond_true, cond_false, Nat.ble_eq, ble_self]
  all_goals first | rfl | (simp only [go_sem, ↓iop_and, ↓iop_or, ↓iop_xor, ↓iop_andn, Nat.reduceEqDiff, reduceIte, Nat.reduceAdd, Nat.reduceMul, Nat.reduceSub, Nat.reduceLT, Nat.reduceLeDiff, fz, nilS, packR, List.take_nil, List.take_length, List.length_map, List.length_append, cond_true, cond_false, Nat.ble_eq, ble_self, List.map_append] <;> rfl)

end Go.AX.Z.TD

/-! (TDW bitmap encoders) -/

set_option linter.unusedSimpArgs false
set_option linter.unusedVariables false
set_option maxHeartbeats 4000000
set_option maxRecDepth 20000
namespace Go.AX.Z.TD
open Go.AX Go.Proofs
attribute [local irreducible] awp xw xop xcall gsp ob xd xdop xcallD seqQ loopQ blkQ endQ


theorem bitmap_encoders_p {r : Unit} (h0 : bitmap_encoders = some r) : SndP K 28 [] (.agg [(.clo 44 [] []), (.clo 45 [] []), (.clo 46 [] []), (.clo 47 [] [])]) := by
 refine SndP.of_walkW hC (Clean.agg (clean_cons (Clean.clo clean_nil clean_nil) (clean_cons (Clean.clo clean_nil clean_nil) (clean_cons (Clean.clo clean_nil clean_nil) (clean_cons (Clean.clo clean_nil clean_nil) clean_nil))))) clean_nil (show K.P.funcs[28]? = some Try.f28 from Try.func28) rfl rfl (by decide +kernel) (Nat.le_of_ble_eq_true rfl) ?_
 unfold bitmap_encoders at h0
 refine awp_nr [] (fun _ => rfl) fun tz => ?_
 refine awp_regW fun KK hKK => ?_
 refine xw_id ?_
 try simp only [go_sem, ↓iop_and, ↓iop_or, ↓iop_xor, ↓iop_andn, Nat.reduceEqDiff, reduceIte, Nat.reduceAdd, Nat.reduceMul, Nat.reduceSub, Nat.reduceLT, Nat.reduceLeDiff]
 refine hKK _ _ (Wk.refl _ _ _) ?_; clear hKK KK
 refine awp_nr [0] (fun _ => rfl) fun tz => ?_
 refine awp_regW fun KK hKK => ?_
 refine xw_id ?_
 try simp only [go_sem, ↓iop_and, ↓iop_or, ↓iop_xor, ↓iop_andn, Nat.reduceEqDiff, reduceIte, Nat.reduceAdd, Nat.reduceMul, Nat.reduceSub, Nat.reduceLT, Nat.reduceLeDiff]
 refine hKK _ _ (Wk.refl _ _ _) ?_; clear hKK KK
 refine awp_ret1 ?_
 obtain rfl := someInj h0
 refine endW_i ?_
 refine end_ret0 rs28 (by simp only [go_sem, resV, resAll, resOf, packR, ↓iop_and, ↓iop_or, ↓iop_xor, ↓iop_andn, Nat.reduceEqDiff, reduceIte, Nat.reduceAdd, Nat.reduceMul, Nat.reduceSub, Nat.reduceLT, Nat.reduceLeDiff]; rfl) ?_
 try simp only [go_sem, ↓iop_and, ↓iop_or, ↓iop_xor, ↓iop_andn, Nat.reduceEqDiff, reduceIte, Nat.reduceAdd, Nat.reduceMul, Nat.reduceSub, Nat.reduceLT, Nat.reduceLeDiff, fz, nilS, packR, List.take_nil, List.take_length, List.length_map, List.length_append, cond_true, cond_false, Nat.ble_eq, ble_self]
 all_goals first | rfl | (simp only [go_sem, ↓iop_and, ↓iop_or, ↓iop_xor, ↓iop_andn, Nat.reduceEqDiff, reduceIte, Nat.reduceAdd, Nat.reduceMul, Nat.reduceSub, Nat.reduceLT, Nat.reduceLeDiff, fz, nilS, packR, List.take_nil, List.take_length, List.length_map, List.length_append, cond_true, cond_false, Nat.ble_eq, ble_self, List.map_append] <;> rfl)

end Go.AX.Z.TD

/-! (TDW bitmap bytes) -/

set_option linter.unusedSimpArgs false
set_option linter.unusedVariables false
set_option maxHeartbeats 4000000
set_option maxRecDepth 20000
namespace Go.AX.Z.TD
open Go.AX Go.Proofs
attribute [local irreducible] awp xw xop xcall gsp ob xd xdop xcallD seqQ loopQ blkQ endQ

def bitmap_bytes_S0 (d40 : (List Int)) : AS :=
 { objs := (upd (fun _ => .dead) 0 (.live (List.map vu d40))), next := 1, tmps := (upd (fun _ => .unk) 2 (.ptr 0 0)) }

def bitmap_bytes_S1 (a0 : (List Int)) (d41 : (List Int × Int)) : AS :=
 { objs := (upd (fun _ => .dead) 0 (.live (List.map vu d41.1))), next := 1, tmps := (upd (upd (upd (upd (fun _ => .unk) 2 (.ptr 0 0)) 5 (.imm (List.map vi a0) a0.length)) 6 (vi (a0.length : Int))) 7 (vi d41.2)) }

theorem bitmap_bytes_p (a0 : (List Int)) {r : (List Int)} (h0 : bitmap_bytes a0 = some r) : SndP K 55 [(S_vi a0)] (.agg (List.map vu r)) := by
 refine SndP.of_walkW hC (Clean.agg (vu_clean _)) (clean_cons (S_vi_clean _) clean_nil) (show K.P.funcs[55]? = some Try.f55 from Try.func55) rfl rfl (by decide +kernel) (Nat.le_of_ble_eq_true rfl) ?_
 unfold bitmap_bytes at h0
 refine awp_nr [0] (fun _ => rfl) fun tz => ?_
 refine awp_regW fun KK hKK => ?_
 refine xw_id ?_
 try simp only [go_sem, ↓iop_and, ↓iop_or, ↓iop_xor, ↓iop_andn, Nat.reduceEqDiff, reduceIte, Nat.reduceAdd, Nat.reduceMul, Nat.reduceSub, Nat.reduceLT, Nat.reduceLeDiff]
 refine hKK _ _ (Wk.refl _ _ _) ?_; clear hKK KK
 refine awp_assoc ?_
 refine awp_nr [0,2] (fun _ => rfl) fun tz => ?_
 refine awp_regW fun KK hKK => ?_
 refine xw_id ?_
 try simp only [go_sem, ↓iop_and, ↓iop_or, ↓iop_xor, ↓iop_andn, Nat.reduceEqDiff, reduceIte, Nat.reduceAdd, Nat.reduceMul, Nat.reduceSub, Nat.reduceLT, Nat.reduceLeDiff, Int.reduceToNat, Int.reduceBEq, Int.reduceBNe, Int.reduceLT, Int.reduceLE, Int.reduceAdd, Int.reduceSub, Int.reduceMul, Int.reduceNeg, Int.reduceEq, Int.reduceNe]
 refine hKK _ _ (Wk.refl _ _ _) ?_; clear hKK KK
 obtain ⟨d40, hi1, h0⟩ := bnd h0
 refine awp_cut (fun z => d40 = z) (fun d40 : (List Int) => bitmap_bytes_S0 d40) ?_ ?_
 ·
  refine awp_block1 ?_
  refine awp_loopS (fun n (d41 : (List Int × Int)) => bitmap_bytes_L2 a0 n d41 = some d40) (fun d41 : (List Int × Int) => bitmap_bytes_S1 a0 d41) big ((List.replicate 32 0), 0) (Wk.canonD [] [] [some 0] rfl trivial rfl (tmOU 0 tmO0 rfl List.not_mem_nil (by simp only [upd_get, ↓iop_and, ↓iop_or, ↓iop_xor, ↓iop_andn, Nat.reduceEqDiff, reduceIte, Nat.reduceAdd, Nat.reduceMul, Nat.reduceSub, Nat.reduceLT, Nat.reduceLeDiff, if_true, if_false] <;> rfl) (TmL.of_eq (by first | rfl | (simp only [List.flatMap_append, List.flatMap_cons, List.flatMap_nil, List.map_append, List.map_cons, List.map_nil, List.append_nil, List.nil_append]; done) | (simp only [List.flatMap_append, List.flatMap_cons, List.flatMap_nil, List.map_append, List.map_cons, List.map_nil, List.append_nil, List.nil_append]; rfl)) (vu_clean _))) (tmAllU 7 (tmAllU 6 (tmAllU 5 (tmAllU 2 tmAll0 (Tm.ptr rfl)) (Tm.clean (Clean.imm (vi_clean _)))) (Tm.v _)) (Tm.v _))) hi1 ?_
  clear hi1
  rintro n d41 hl3
  rcases n with _ | n2
  ·
   (rw [bitmap_bytes_L2] at hl3; cases hl3)
  ·
   rw [bitmap_bytes_L2] at hl3
   unfold bitmap_bytes_S1
   refine awp_nr [2,5,6,7] (fun _ => rfl) fun tz => ?_
   refine awp_regW fun KK hKK => ?_
   refine xw_id ?_
   try simp only [go_sem, ↓iop_and, ↓iop_or, ↓iop_xor, ↓iop_andn, Nat.reduceEqDiff, reduceIte, Nat.reduceAdd, Nat.reduceMul, Nat.reduceSub, Nat.reduceLT, Nat.reduceLeDiff]
   refine hKK _ _ (Wk.refl _ _ _) ?_; clear hKK KK
   refine awp_cond (b := (decide (d41.2 < (a0.length : Int)))) rfl (fun h4 => ?_) (fun h4 => ?_)
   ·
    have hl3 := cT hl3 h4
    refine awp_skip ?_
    refine awp_blockW ?_
    refine awp_nr [2,5,6,7] (fun _ => rfl) fun tz => ?_
    refine awp_regW fun KK hKK => ?_
    refine xw_id ?_
    obtain ⟨x42, bx42, hl3⟩ := bnd hl3
    obtain ⟨fx42_0, fx42_1, fx42_2, fx42_3⟩ := idx_some bx42
    try simp only [go_sem, ↓iop_and, ↓iop_or, ↓iop_xor, ↓iop_andn, Nat.reduceEqDiff, reduceIte, Nat.reduceAdd, Nat.reduceMul, Nat.reduceSub, Nat.reduceLT, Nat.reduceLeDiff, fx42_0, fx42_1, fx42_2]
    refine hKK _ _ (Wk.refl _ _ _) ?_; clear hKK KK
    refine awp_nr1 [2,4,5,6,7] (fun _ => rfl) fun tz => ?_
    refine awp_regD1 fun KK hKK all hall => ?_
    refine xd_id ?_
    try simp only [List.toList_toArray, List.map_cons, List.map_nil, List.size_toArray, List.length_cons, List.length_nil, Nat.zero_add]
    try simp only [Nat.reduceAdd]
    obtain ⟨x43, bx43, hl3⟩ := bnd hl3
    obtain ⟨fx43_0, fx43_1, fx43_2, fx43_3⟩ := idxA_some bx43
    obtain ⟨x44, bx44, hl3⟩ := bnd hl3
    have bx44 := chk_some bx44
    simp only [Bool.and_eq_true, decide_eq_true_eq] at bx44
    have gx44_0 := bx44
    have gs5 : (((x42).fdiv (2 ^ (min 3 64))).toNat + 1 ≤ d41.1.length) = True := eq_true (by (try simp only [List.length_modify, List.length_set]); omega)
    have gm6 : (d41.1.set (((x42).fdiv (2 ^ (min 3 64))).toNat) (bor .u8 x43 (IntKind.wrap .u8 (1 * 2 ^ (min ((band .i64 x42 7)).toNat 8)))))[((x42).fdiv (2 ^ (min 3 64))).toNat]? = some (bor .u8 x43 (IntKind.wrap .u8 (1 * 2 ^ (min ((band .i64 x42 7)).toNat 8)))) := getSet _ fx43_2
    simp only [go_sem, ↓iop_and, ↓iop_or, ↓iop_xor, ↓iop_andn, Nat.reduceEqDiff, reduceIte, Nat.reduceMul, Nat.reduceSub, Nat.reduceLT, Nat.reduceLeDiff, Int.reduceToNat, Int.reduceBEq, Int.reduceBNe, Int.reduceLT, Int.reduceLE, Int.reduceAdd, Int.reduceSub, Int.reduceMul, Int.reduceNeg, Int.reduceEq, Int.reduceNe, fx42_0, fx42_1, fx42_2, fx43_0, fx43_1, fx43_2, gx44_0, gs5, gm6]
    try simp only [Nat.reduceAdd]
    try simp only [go_sem, ↓iop_and, ↓iop_or, ↓iop_xor, ↓iop_andn, Nat.reduceEqDiff, reduceIte, Nat.reduceMul, Nat.reduceSub, Nat.reduceLT, Nat.reduceLeDiff, Int.reduceToNat, Int.reduceBEq, Int.reduceBNe, Int.reduceLT, Int.reduceLE, Int.reduceAdd, Int.reduceSub, Int.reduceMul, Int.reduceNeg, Int.reduceEq, Int.reduceNe, fx42_0, fx42_1, fx42_2, fx43_0, fx43_1, fx43_2, gx44_0, gs5, gm6]
    try simp only [Nat.reduceAdd]
    try simp only [go_sem, ↓iop_and, ↓iop_or, ↓iop_xor, ↓iop_andn, Nat.reduceEqDiff, reduceIte, Nat.reduceMul, Nat.reduceSub, Nat.reduceLT, Nat.reduceLeDiff, Int.reduceToNat, Int.reduceBEq, Int.reduceBNe, Int.reduceLT, Int.reduceLE, Int.reduceAdd, Int.reduceSub, Int.reduceMul, Int.reduceNeg, Int.reduceEq, Int.reduceNe, fx42_0, fx42_1, fx42_2, fx43_0, fx43_1, fx43_2, gx44_0, gs5, gm6]
    refine And.intro ?_ (hKK _ ?_)
    ·
     subst hall
     clear hKK KK
     first | decide +kernel | (simp [printsOk, apartP, clash, meet]; done) | (simp [printsOk, apartP, clash, meet]; decide +kernel)
    ·
     clear hKK KK hall all
     refine bq_n ?_
     refine seqW_i ?_
     refine awp_nr1 [2,5,6,7] (fun _ => rfl) fun tz => ?_
     refine awp_reg1 fun KK hKK => ?_
     refine xw_id ?_
     try simp only [go_sem, ↓iop_and, ↓iop_or, ↓iop_xor, ↓iop_andn, Nat.reduceEqDiff, reduceIte, Nat.reduceAdd, Nat.reduceMul, Nat.reduceSub, Nat.reduceLT, Nat.reduceLeDiff, fx42_0, fx42_1, fx42_2, fx43_0, fx43_1, fx43_2, gm6]
     refine hKK _ ?_; clear hKK KK
     refine lq_n ?_
     exact ⟨n2, ((d41.1.set (((x42).fdiv (2 ^ (min 3 64))).toNat) (bor .u8 x43 (IntKind.wrap .u8 (1 * 2 ^ (min ((band .i64 x42 7)).toNat 8))))), IntKind.wrap .i64 (d41.2 + 1)), rfl, hl3, (Wk.canonD [] [] [some 0] rfl trivial rfl (tmOU 0 tmO0 rfl List.not_mem_nil (by simp only [upd_get, ↓iop_and, ↓iop_or, ↓iop_xor, ↓iop_andn, Nat.reduceEqDiff, reduceIte, Nat.reduceAdd, Nat.reduceMul, Nat.reduceSub, Nat.reduceLT, Nat.reduceLeDiff, if_true, if_false] <;> rfl) (TmL.of_eq (by first | rfl | (simp only [List.flatMap_append, List.flatMap_cons, List.flatMap_nil, List.map_append, List.map_cons, List.map_nil, List.append_nil, List.nil_append]; done) | (simp only [List.flatMap_append, List.flatMap_cons, List.flatMap_nil, List.map_append, List.map_cons, List.map_nil, List.append_nil, List.nil_append]; rfl)) (vu_clean _))) (tmAllU 7 (tmAllU 6 (tmAllU 5 (tmAllU 2 tmAll0 (Tm.ptr rfl)) (Tm.clean (Clean.imm (vi_clean _)))) (Tm.v _)) (Tm.v _)))⟩
   ·
    have hl3 := cF hl3 h4
    refine awp_exit ?_
    refine lq_e ?_
    refine bq_e ?_
    refine sq_n ?_
    obtain rfl := someInj hl3
    exact ⟨_, rfl, (Wk.canonD [] [] [some 0] rfl trivial rfl (tmOU 0 tmO0 rfl List.not_mem_nil (by simp only [upd_get, ↓iop_and, ↓iop_or, ↓iop_xor, ↓iop_andn, Nat.reduceEqDiff, reduceIte, Nat.reduceAdd, Nat.reduceMul, Nat.reduceSub, Nat.reduceLT, Nat.reduceLeDiff, if_true, if_false] <;> rfl) (TmL.of_eq (by first | rfl | (simp only [List.flatMap_append, List.flatMap_cons, List.flatMap_nil, List.map_append, List.map_cons, List.map_nil, List.append_nil, List.nil_append]; done) | (simp only [List.flatMap_append, List.flatMap_cons, List.flatMap_nil, List.map_append, List.map_cons, List.map_nil, List.append_nil, List.nil_append]; rfl)) (vu_clean _))) (tmAllU 2 tmAll0 (Tm.ptr rfl)))⟩
 ·
  rintro _ rfl
  clear hi1
  unfold bitmap_bytes_S0
  refine awp_nr [2] (fun _ => rfl) fun tz => ?_
  refine awp_regW fun KK hKK => ?_
  refine xw_id ?_
  obtain ⟨x45, bx45, h0⟩ := bnd h0
  have bx45 := chk_some bx45
  simp only [Bool.and_eq_true, decide_eq_true_eq] at bx45
  have gx45_0 := bx45
  have ga7 : sub? (List.map vu d40) 0 32 = some (List.map vu d40) := by unfold sub?; rw [if_pos (by rw [List.length_map]; omega), List.drop_zero, List.take_of_length_le (by rw [List.length_map]; omega)]
  obtain ⟨x46, bx46, h0⟩ := bnd h0
  have bx46 := chk_some bx46
  simp only [Bool.and_eq_true, decide_eq_true_eq] at bx46
  have gx46_0 := bx46
  have gs8 : putAt (List.map vu d40) 0 (List.map vu d40) = (List.map vu d40) := putAt_allL (by first | rfl | (simp only [List.length_map, List.length_replicate, zarr_len]; omega))
  have gs8l : (32 ≤ d40.length) = True := eq_true (by omega)
  try simp only [go_sem, ↓iop_and, ↓iop_or, ↓iop_xor, ↓iop_andn, Nat.reduceEqDiff, reduceIte, Nat.reduceAdd, Nat.reduceMul, Nat.reduceSub, Nat.reduceLT, Nat.reduceLeDiff, gx45_0, ga7, gx46_0, gs8, gs8l, List.length_replicate, zarr_len]
  refine hKK _ _ (Wk.refl _ _ _) ?_; clear hKK KK
  refine awp_ret1 ?_
  have ga9 : sub? (List.map vu d40) 0 32 = some (List.map vu d40) := by unfold sub?; rw [if_pos (by rw [List.length_map]; omega), List.drop_zero, List.take_of_length_le (by rw [List.length_map]; omega)]
  obtain rfl := someInj h0
  refine endW_i ?_
  refine end_ret0 rs55 (by simp only [go_sem, resV, resAll, resOf, packR, ↓iop_and, ↓iop_or, ↓iop_xor, ↓iop_andn, Nat.reduceEqDiff, reduceIte, Nat.reduceAdd, Nat.reduceMul, Nat.reduceSub, Nat.reduceLT, Nat.reduceLeDiff, ga9]; rfl) ?_
  try simp only [go_sem, ↓iop_and, ↓iop_or, ↓iop_xor, ↓iop_andn, Nat.reduceEqDiff, reduceIte, Nat.reduceAdd, Nat.reduceMul, Nat.reduceSub, Nat.reduceLT, Nat.reduceLeDiff, fz, nilS, packR, List.take_nil, List.take_length, List.length_map, List.length_append, cond_true, cond_false, Nat.ble_eq, ble_self]
  all_goals first | rfl | (simp only [go_sem, ↓iop_and, ↓iop_or, ↓iop_xor, ↓iop_andn, Nat.reduceEqDiff, reduceIte, Nat.reduceAdd, Nat.reduceMul, Nat.reduceSub, Nat.reduceLT, Nat.reduceLeDiff, fz, nilS, packR, List.take_nil, List.take_length, List.length_map, List.length_append, cond_true, cond_false, Nat.ble_eq, ble_self, List.map_append] <;> rfl)

end Go.AX.Z.TD

/-! (TDW bitmap full) -/

set_option linter.unusedSimpArgs false
set_option linter.unusedVariables false
set_option maxHeartbeats 4000000
set_option maxRecDepth 20000
namespace Go.AX.Z.TD
open Go.AX Go.Proofs
attribute [local irreducible] awp xw xop xcall gsp ob xd xdop xcallD seqQ loopQ blkQ endQ


theorem bitmap_full_r (a0 : (List Int)) {r : (List Int)} (h0 : bitmap_full a0 = some r) : SndR K 44 [(S_vi a0)] (fun q => (.ref (q 0) 0 r.length 1)) [(List.map vu r)] := by
 refine SndR.of_walkW hC (show K.P.funcs[44]? = some Try.f44 from Try.func44) rfl rfl (by decide +kernel) (Nat.le_of_ble_eq_true rfl) ?_
 unfold bitmap_full at h0
 refine awp_nr [0] (fun _ => rfl) fun tz => ?_
 refine awp_regW fun KK hKK => ?_
 refine xw_id ?_
 try simp only [go_sem, ↓iop_and, ↓iop_or, ↓iop_xor, ↓iop_andn, Nat.reduceEqDiff, reduceIte, Nat.reduceAdd, Nat.reduceMul, Nat.reduceSub, Nat.reduceLT, Nat.reduceLeDiff]
 refine hKK _ _ (Wk.refl _ _ _) ?_; clear hKK KK
 refine awp_nr [0] (fun _ => rfl) fun tz => ?_
 refine awp_regW fun KK hKK => ?_
 refine xw_id ?_
 obtain ⟨x40, bx40, h0⟩ := bnd h0
 try simp only [go_sem, ↓iop_and, ↓iop_or, ↓iop_xor, ↓iop_andn, Nat.reduceEqDiff, reduceIte, Nat.reduceAdd, Nat.reduceMul, Nat.reduceSub, Nat.reduceLT, Nat.reduceLeDiff]
 refine xcall_p (bitmap_bytes_p a0 bx40) ?_; try dsimp only
 try refine xw_id ?_
 obtain ⟨x41, bx41, h0⟩ := bnd h0
 have bx41 := chk_some bx41
 simp only [Bool.and_eq_true, decide_eq_true_eq] at bx41
 obtain ⟨gx41_0, gx41_1⟩ := bx41
 have gs1 : putAt (List.map vu (List.replicate 32 0)) 0 (List.map vu x40) = (List.map vu x40) := putAt_allL (by first | rfl | (simp only [List.length_map, List.length_replicate, zarr_len]; omega))
 have gs1l : (32 ≤ (List.replicate 32 0).length) = True := eq_true (by omega)
 try simp only [go_sem, ↓iop_and, ↓iop_or, ↓iop_xor, ↓iop_andn, Nat.reduceEqDiff, reduceIte, Nat.reduceAdd, Nat.reduceMul, Nat.reduceSub, Nat.reduceLT, Nat.reduceLeDiff, gx41_0, gx41_1, gs1, gs1l, List.length_replicate, zarr_len]
 refine hKK _ _ (Wk.refl _ _ _) ?_; clear hKK KK
 refine awp_nr [3] (fun _ => rfl) fun tz => ?_
 refine awp_regW fun KK hKK => ?_
 refine xw_id ?_
 have gs2 : (32 ≤ x40.length) = True := eq_true (by (try simp only [List.length_replicate]); omega)
 try simp only [go_sem, ↓iop_and, ↓iop_or, ↓iop_xor, ↓iop_andn, Nat.reduceEqDiff, reduceIte, Nat.reduceAdd, Nat.reduceMul, Nat.reduceSub, Nat.reduceLT, Nat.reduceLeDiff, Int.reduceToNat, Int.reduceBEq, Int.reduceBNe, Int.reduceLT, Int.reduceLE, Int.reduceAdd, Int.reduceSub, Int.reduceMul, Int.reduceNeg, Int.reduceEq, Int.reduceNe, gs2, Int.sub_zero, Int.le_refl]
 refine hKK _ _ (Wk.refl _ _ _) ?_; clear hKK KK
 refine awp_ret1 ?_
 obtain rfl := someInj h0
 refine endW_i ?_
 refine end_ret0 rs44 (rfl) ?_
 refine Res.mk [] [some 3] rfl (resOU List.not_mem_nil (by simp only [upd_get, ↓iop_and, ↓iop_or, ↓iop_xor, ↓iop_andn, Nat.reduceEqDiff, reduceIte, Nat.reduceAdd, Nat.reduceMul, Nat.reduceSub, Nat.reduceLT, Nat.reduceLeDiff, if_true, if_false] <;> rfl) (TmL.of_eq (by first | rfl | (simp only [List.flatMap_append, List.flatMap_cons, List.flatMap_nil, List.map_append, List.map_cons, List.map_nil, List.append_nil, List.nil_append]; done) | (simp only [List.flatMap_append, List.flatMap_cons, List.flatMap_nil, List.map_append, List.map_cons, List.map_nil, List.append_nil, List.nil_append]; rfl)) (vu_clean _)) resO0) (Tm.refL rfl ?_)
 all_goals (first | rfl | (simp only [List.length_take]; omega) | (simp only [List.length_append, List.length_cons, List.length_nil, List.length_modify, List.length_set, Nat.zero_add]; done) | (simp only [List.length_append, List.length_take, List.length_drop, List.length_cons, List.length_nil, List.length_modify, List.length_set, Nat.zero_add]; omega) | (simp only [List.length_append, List.length_take, List.length_drop, List.length_cons, List.length_nil, List.length_modify, List.length_set, Nat.zero_add]; done) | omega)

theorem bitmap_full_m (a0 : (List Int)) {r : (List Int)} (h0 : bitmap_full a0 = some r) : SndM K 44 [(S_vi a0)] (fun q => (.ref (q 0) 0 r.length 1)) [(List.map vu r)] :=
 fun hs => Snd.of_newM (RenM.ref 0 0 _ _) (rows_all_cons (vu_clean _) rows_all_nil) (clean_cons (S_vi_clean _) clean_nil) (bitmap_full_r a0 h0) hs

theorem bitmap_full_e (a0 : (List Int)) {r : (List Int)} (h0 : bitmap_full a0 = some r) (fr : Nat) (hs : HS) : SndE K 44 [(S_vi a0)] hs fr ⟨(fun q : Nat → Nat => (.ref (q 0) 0 r.length 1)) fun _ => fr, .new (List.map vu r)⟩ :=
 SndE.of_res (RenM.ref 0 0 _ _) (vu_clean _) (clean_cons (S_vi_clean _) clean_nil) (fun a b h => by simp only [h]) (bitmap_full_r a0 h0) hs fr

theorem bitmap_full_p (a0 : (List Int)) {r : (List Int)} (h0 : bitmap_full a0 = some r) : SndP K 44 [(S_vi a0)] (S_vu r) :=
 SndM.pure (bitmap_full_m a0 h0) (S_vu_clean _) (clean_cons (S_vi_clean _) clean_nil) (by simp only [go_sem, newL_n, newL_c, upd_get, fz, nilS, cond_true, cond_false, List.drop_zero, List.take_length, List.length_map, ble_self, ↓iop_and, ↓iop_or, ↓iop_xor, ↓iop_andn, Nat.reduceEqDiff, reduceIte, Nat.reduceAdd, Nat.reduceMul, Nat.reduceSub, Nat.reduceLT, Nat.reduceLeDiff] <;> rfl)

end Go.AX.Z.TD

/-! (TDW bitmap part) -/

set_option linter.unusedSimpArgs false
set_option linter.unusedVariables false
set_option maxHeartbeats 4000000
set_option maxRecDepth 20000
namespace Go.AX.Z.TD
open Go.AX Go.Proofs
attribute [local irreducible] awp xw xop xcall gsp ob xd xdop xcallD seqQ loopQ blkQ endQ


theorem bitmap_part_r (a0 : (List Int)) {r : (List Int)} (h0 : bitmap_part a0 = some r) : SndR K 45 [(S_vi a0)] (fun q => (.ref (q 0) 0 r.length 1)) [(List.map vu r)] := by
 refine SndR.of_walkW hC (show K.P.funcs[45]? = some Try.f45 from Try.func45) rfl rfl (by decide +kernel) (Nat.le_of_ble_eq_true rfl) ?_
 unfold bitmap_part at h0
 refine awp_nr [0] (fun _ => rfl) fun tz => ?_
 refine awp_regW fun KK hKK => ?_
 refine xw_id ?_
 try simp only [go_sem, ↓iop_and, ↓iop_or, ↓iop_xor, ↓iop_andn, Nat.reduceEqDiff, reduceIte, Nat.reduceAdd, Nat.reduceMul, Nat.reduceSub, Nat.reduceLT, Nat.reduceLeDiff]
 refine hKK _ _ (Wk.refl _ _ _) ?_; clear hKK KK
 refine awp_assoc ?_
 refine awp_nr [0] (fun _ => rfl) fun tz => ?_
 refine awp_regW fun KK hKK => ?_
 refine xw_id ?_
 try simp only [go_sem, ↓iop_and, ↓iop_or, ↓iop_xor, ↓iop_andn, Nat.reduceEqDiff, reduceIte, Nat.reduceAdd, Nat.reduceMul, Nat.reduceSub, Nat.reduceLT, Nat.reduceLeDiff, Int.reduceToNat, Int.reduceBEq, Int.reduceBNe, Int.reduceLT, Int.reduceLE, Int.reduceAdd, Int.reduceSub, Int.reduceMul, Int.reduceNeg, Int.reduceEq, Int.reduceNe]
 refine hKK _ _ (Wk.refl _ _ _) ?_; clear hKK KK
 refine awp_cond (b := ((a0.length : Int) == 0)) rfl (fun h1 => ?_) (fun h1 => ?_)
 ·
  have h0 := cT h0 h1
  refine awp_assoc ?_
  refine awp_nr [] (fun _ => rfl) fun tz => ?_
  refine awp_regW fun KK hKK => ?_
  refine xw_id ?_
  try simp only [go_sem, ↓iop_and, ↓iop_or, ↓iop_xor, ↓iop_andn, Nat.reduceEqDiff, reduceIte, Nat.reduceAdd, Nat.reduceMul, Nat.reduceSub, Nat.reduceLT, Nat.reduceLeDiff]
  refine hKK _ _ (Wk.refl _ _ _) ?_; clear hKK KK
  refine awp_ret ?_
  obtain rfl := someInj h0
  refine endW_i ?_
  refine end_ret0 rs45 (rfl) ?_
  refine Res.mk [] [some 4] rfl (resOU List.not_mem_nil (by simp only [upd_get, ↓iop_and, ↓iop_or, ↓iop_xor, ↓iop_andn, Nat.reduceEqDiff, reduceIte, Nat.reduceAdd, Nat.reduceMul, Nat.reduceSub, Nat.reduceLT, Nat.reduceLeDiff, if_true, if_false] <;> rfl) (TmL.of_eq (by first | rfl | (simp only [List.flatMap_append, List.flatMap_cons, List.flatMap_nil, List.map_append, List.map_cons, List.map_nil, List.append_nil, List.nil_append]; done) | (simp only [List.flatMap_append, List.flatMap_cons, List.flatMap_nil, List.map_append, List.map_cons, List.map_nil, List.append_nil, List.nil_append]; rfl)) (vu_clean _)) resO0) (Tm.refL rfl ?_)
  all_goals (first | rfl | (simp only [List.length_take]; omega) | (simp only [List.length_append, List.length_cons, List.length_nil, List.length_modify, List.length_set, Nat.zero_add]; done) | (simp only [List.length_append, List.length_take, List.length_drop, List.length_cons, List.length_nil, List.length_modify, List.length_set, Nat.zero_add]; omega) | (simp only [List.length_append, List.length_take, List.length_drop, List.length_cons, List.length_nil, List.length_modify, List.length_set, Nat.zero_add]; done) | omega)
 ·
  have h0 := cF h0 h1
  refine awp_skip ?_
  refine awp_nr [0] (fun _ => rfl) fun tz => ?_
  refine awp_regW fun KK hKK => ?_
  refine xw_id ?_
  obtain ⟨x44, bx44, h0⟩ := bnd h0
  try simp only [go_sem, ↓iop_and, ↓iop_or, ↓iop_xor, ↓iop_andn, Nat.reduceEqDiff, reduceIte, Nat.reduceAdd, Nat.reduceMul, Nat.reduceSub, Nat.reduceLT, Nat.reduceLeDiff]
  refine xcall_p (bitmap_bytes_p a0 bx44) ?_; try dsimp only
  try refine xw_id ?_
  obtain ⟨x45, bx45, h0⟩ := bnd h0
  have bx45 := chk_some bx45
  simp only [Bool.and_eq_true, decide_eq_true_eq] at bx45
  obtain ⟨gx45_0, gx45_1⟩ := bx45
  have gs2 : putAt (List.map vu (List.replicate 32 0)) 0 (List.map vu x44) = (List.map vu x44) := putAt_allL (by first | rfl | (simp only [List.length_map, List.length_replicate, zarr_len]; omega))
  have gs2l : (32 ≤ (List.replicate 32 0).length) = True := eq_true (by omega)
  try simp only [go_sem, ↓iop_and, ↓iop_or, ↓iop_xor, ↓iop_andn, Nat.reduceEqDiff, reduceIte, Nat.reduceAdd, Nat.reduceMul, Nat.reduceSub, Nat.reduceLT, Nat.reduceLeDiff, gx45_0, gx45_1, gs2, gs2l, List.length_replicate, zarr_len]
  refine hKK _ _ (Wk.refl _ _ _) ?_; clear hKK KK
  refine awp_nr [0,3] (fun _ => rfl) fun tz => ?_
  refine awp_regW fun KK hKK => ?_
  refine xw_id ?_
  obtain ⟨x46, bx46, h0⟩ := bnd h0
  obtain ⟨fx46_0, fx46_1, fx46_2, fx46_3⟩ := idx_some bx46
  simp only [Int.reduceToNat] at fx46_2 fx46_3
  obtain ⟨x47, bx47, h0⟩ := bnd h0
  obtain ⟨fx47_0, fx47_1, fx47_2, fx47_3⟩ := idx_some bx47
  try simp only [go_sem, ↓iop_and, ↓iop_or, ↓iop_xor, ↓iop_andn, Nat.reduceEqDiff, reduceIte, Nat.reduceAdd, Nat.reduceMul, Nat.reduceSub, Nat.reduceLT, Nat.reduceLeDiff, Int.reduceToNat, Int.reduceBEq, Int.reduceBNe, Int.reduceLT, Int.reduceLE, Int.reduceAdd, Int.reduceSub, Int.reduceMul, Int.reduceNeg, Int.reduceEq, Int.reduceNe, fx46_0, fx46_1, fx46_2, fx47_0, fx47_1, fx47_2]
  refine hKK _ _ (Wk.refl _ _ _) ?_; clear hKK KK
  refine awp_nr [3,4,5] (fun _ => rfl) fun tz => ?_
  refine awp_regW fun KK hKK => ?_
  refine xw_id ?_
  obtain ⟨x48, bx48, h0⟩ := bnd h0
  have bx48 := chk_some bx48
  simp only [Bool.and_eq_true, decide_eq_true_eq] at bx48
  obtain ⟨⟨gx48_0, gx48_1⟩, gx48_2⟩ := bx48
  have gs3 : (32 ≤ x44.length) = True := eq_true (by (try simp only [List.length_replicate]); omega)
  have gp4 : sub? (List.map vu x44) (((x46).fdiv (2 ^ (min 3 64))).toNat) ((((IntKind.wrap .i64 (((x47).fdiv (2 ^ (min 3 64))) + 1)) - ((x46).fdiv (2 ^ (min 3 64)))).toNat)) = some (List.map vu (List.take (((IntKind.wrap .i64 (((x47).fdiv (2 ^ (min 3 64))) + 1)) - ((x46).fdiv (2 ^ (min 3 64)))).toNat) (List.drop (((x46).fdiv (2 ^ (min 3 64))).toNat) x44))) := map_sub2 _ _ _ _ (by omega)
  have gp4l : (List.take (((IntKind.wrap .i64 (((x47).fdiv (2 ^ (min 3 64))) + 1)) - ((x46).fdiv (2 ^ (min 3 64)))).toNat) (List.drop (((x46).fdiv (2 ^ (min 3 64))).toNat) x44)).length = (((IntKind.wrap .i64 (((x47).fdiv (2 ^ (min 3 64))) + 1)) - ((x46).fdiv (2 ^ (min 3 64)))).toNat) := by rw [List.length_take, List.length_drop]; omega
  obtain ⟨x49, bx49, h0⟩ := bnd h0
  have bx49 := chk_some bx49
  simp only [Bool.and_eq_true, decide_eq_true_eq] at bx49
  have gx49_0 := bx49
  try simp only [go_sem, ↓iop_and, ↓iop_or, ↓iop_xor, ↓iop_andn, Nat.reduceEqDiff, reduceIte, Nat.reduceAdd, Nat.reduceMul, Nat.reduceSub, Nat.reduceLT, Nat.reduceLeDiff, Int.reduceToNat, Int.reduceBEq, Int.reduceBNe, Int.reduceLT, Int.reduceLE, Int.reduceAdd, Int.reduceSub, Int.reduceMul, Int.reduceNeg, Int.reduceEq, Int.reduceNe, fx46_0, fx46_1, fx46_2, fx47_0, fx47_1, fx47_2, gx48_0, gx48_1, gx48_2, gs3, Int.sub_zero, Int.le_refl, gp4, gp4l, gx49_0]
  refine hKK _ _ (Wk.refl _ _ _) ?_; clear hKK KK
  refine awp_ret1 ?_
  obtain rfl := someInj h0
  refine endW_i ?_
  refine end_ret0 rs45 (rfl) ?_
  refine Res.mk [] [some 32] rfl (resOU List.not_mem_nil (by simp only [upd_get, ↓iop_and, ↓iop_or, ↓iop_xor, ↓iop_andn, Nat.reduceEqDiff, reduceIte, Nat.reduceAdd, Nat.reduceMul, Nat.reduceSub, Nat.reduceLT, Nat.reduceLeDiff, if_true, if_false] <;> rfl) (TmL.of_eq (by first | rfl | (simp only [List.flatMap_append, List.flatMap_cons, List.flatMap_nil, List.map_append, List.map_cons, List.map_nil, List.append_nil, List.nil_append]; done) | (simp only [List.flatMap_append, List.flatMap_cons, List.flatMap_nil, List.map_append, List.map_cons, List.map_nil, List.append_nil, List.nil_append]; rfl)) (vu_clean _)) resO0) (Tm.refL rfl ?_)
  all_goals (first | rfl | (simp only [List.length_take]; omega) | (simp only [List.length_append, List.length_cons, List.length_nil, List.length_modify, List.length_set, Nat.zero_add]; done) | (simp only [List.length_append, List.length_take, List.length_drop, List.length_cons, List.length_nil, List.length_modify, List.length_set, Nat.zero_add]; omega) | (simp only [List.length_append, List.length_take, List.length_drop, List.length_cons, List.length_nil, List.length_modify, List.length_set, Nat.zero_add]; done) | omega)

theorem bitmap_part_m (a0 : (List Int)) {r : (List Int)} (h0 : bitmap_part a0 = some r) : SndM K 45 [(S_vi a0)] (fun q => (.ref (q 0) 0 r.length 1)) [(List.map vu r)] :=
 fun hs => Snd.of_newM (RenM.ref 0 0 _ _) (rows_all_cons (vu_clean _) rows_all_nil) (clean_cons (S_vi_clean _) clean_nil) (bitmap_part_r a0 h0) hs

theorem bitmap_part_e (a0 : (List Int)) {r : (List Int)} (h0 : bitmap_part a0 = some r) (fr : Nat) (hs : HS) : SndE K 45 [(S_vi a0)] hs fr ⟨(fun q : Nat → Nat => (.ref (q 0) 0 r.length 1)) fun _ => fr, .new (List.map vu r)⟩ :=
 SndE.of_res (RenM.ref 0 0 _ _) (vu_clean _) (clean_cons (S_vi_clean _) clean_nil) (fun a b h => by simp only [h]) (bitmap_part_r a0 h0) hs fr

theorem bitmap_part_p (a0 : (List Int)) {r : (List Int)} (h0 : bitmap_part a0 = some r) : SndP K 45 [(S_vi a0)] (S_vu r) :=
 SndM.pure (bitmap_part_m a0 h0) (S_vu_clean _) (clean_cons (S_vi_clean _) clean_nil) (by simp only [go_sem, newL_n, newL_c, upd_get, fz, nilS, cond_true, cond_false, List.drop_zero, List.take_length, List.length_map, ble_self, ↓iop_and, ↓iop_or, ↓iop_xor, ↓iop_andn, Nat.reduceEqDiff, reduceIte, Nat.reduceAdd, Nat.reduceMul, Nat.reduceSub, Nat.reduceLT, Nat.reduceLeDiff] <;> rfl)

end Go.AX.Z.TD

/-! (TDW bitmap list) -/

set_option linter.unusedSimpArgs false
set_option linter.unusedVariables false
set_option maxHeartbeats 4000000
set_option maxRecDepth 20000
namespace Go.AX.Z.TD
open Go.AX Go.Proofs
attribute [local irreducible] awp xw xop xcall gsp ob xd xdop xcallD seqQ loopQ blkQ endQ

def bitmap_list_S0 (d52 : (List Int)) : AS :=
 { objs := (upd (fun _ => .dead) 0 (.live (List.map vu d52))), next := 1, tmps := (upd (fun _ => .unk) 3 (.ref 0 0 ((d52).length) 1)) }

def bitmap_list_S1 (a0 : (List Int)) (d53 : (List Int × Int)) : AS :=
 { objs := (upd (fun _ => .dead) 0 (.live (List.map vu d53.1))), next := 1, tmps := (upd (upd (upd (upd (fun _ => .unk) 3 (.ref 0 0 ((d53.1).length) 1)) 10 (.imm (List.map vi a0) a0.length)) 11 (vi (a0.length : Int))) 12 (vi d53.2)) }

theorem bitmap_list_r (a0 : (List Int)) {r : (List Int)} (h0 : bitmap_list a0 = some r) : SndR K 46 [(S_vi a0)] (fun q => (.ref (q 0) 0 r.length 1)) [(List.map vu r)] := by
 refine SndR.of_walkW hC (show K.P.funcs[46]? = some Try.f46 from Try.func46) rfl rfl (by decide +kernel) (Nat.le_of_ble_eq_true rfl) ?_
 unfold bitmap_list at h0
 refine awp_nr [0] (fun _ => rfl) fun tz => ?_
 refine awp_regW fun KK hKK => ?_
 refine xw_id ?_
 try simp only [go_sem, ↓iop_and, ↓iop_or, ↓iop_xor, ↓iop_andn, Nat.reduceEqDiff, reduceIte, Nat.reduceAdd, Nat.reduceMul, Nat.reduceSub, Nat.reduceLT, Nat.reduceLeDiff]
 refine hKK _ _ (Wk.refl _ _ _) ?_; clear hKK KK
 refine awp_nr [0] (fun _ => rfl) fun tz => ?_
 refine awp_regW fun KK hKK => ?_
 refine xw_id ?_
 try simp only [go_sem, ↓iop_and, ↓iop_or, ↓iop_xor, ↓iop_andn, Nat.reduceEqDiff, reduceIte, Nat.reduceAdd, Nat.reduceMul, Nat.reduceSub, Nat.reduceLT, Nat.reduceLeDiff, Int.reduceToNat, Int.reduceBEq, Int.reduceBNe, Int.reduceLT, Int.reduceLE, Int.reduceAdd, Int.reduceSub, Int.reduceMul, Int.reduceNeg, Int.reduceEq, Int.reduceNe]
 refine hKK _ _ (Wk.refl _ _ _) ?_; clear hKK KK
 refine awp_assoc ?_
 refine awp_nr [0,3] (fun _ => rfl) fun tz => ?_
 refine awp_regW fun KK hKK => ?_
 refine xw_id ?_
 try simp only [go_sem, ↓iop_and, ↓iop_or, ↓iop_xor, ↓iop_andn, Nat.reduceEqDiff, reduceIte, Nat.reduceAdd, Nat.reduceMul, Nat.reduceSub, Nat.reduceLT, Nat.reduceLeDiff, Int.reduceToNat, Int.reduceBEq, Int.reduceBNe, Int.reduceLT, Int.reduceLE, Int.reduceAdd, Int.reduceSub, Int.reduceMul, Int.reduceNeg, Int.reduceEq, Int.reduceNe]
 refine hKK _ _ (Wk.refl _ _ _) ?_; clear hKK KK
 obtain ⟨d52, hi1, h0⟩ := bnd h0
 refine awp_cut (fun z => d52 = z) (fun d52 : (List Int) => bitmap_list_S0 d52) ?_ ?_
 ·
  refine awp_block1 ?_
  refine awp_loopS (fun n (d53 : (List Int × Int)) => bitmap_list_L2 a0 n d53 = some d52) (fun d53 : (List Int × Int) => bitmap_list_S1 a0 d53) big ([IntKind.wrap .u8 (a0.length : Int)], 0) (by refine Wk.canonD [] [] [some 4] rfl trivial rfl (tmOU 0 tmO0 rfl List.not_mem_nil (by simp only [upd_get, ↓iop_and, ↓iop_or, ↓iop_xor, ↓iop_andn, Nat.reduceEqDiff, reduceIte, Nat.reduceAdd, Nat.reduceMul, Nat.reduceSub, Nat.reduceLT, Nat.reduceLeDiff, if_true, if_false] <;> rfl) (TmL.of_eq (by first | rfl | (simp only [List.flatMap_append, List.flatMap_cons, List.flatMap_nil, List.map_append, List.map_cons, List.map_nil, List.append_nil, List.nil_append]; done) | (simp only [List.flatMap_append, List.flatMap_cons, List.flatMap_nil, List.map_append, List.map_cons, List.map_nil, List.append_nil, List.nil_append]; rfl)) (vu_clean _))) (tmAllU 12 (tmAllU 11 (tmAllU 10 (tmAllU 3 tmAll0 (Tm.refL rfl ?_)) (Tm.clean (Clean.imm (vi_clean _)))) (Tm.v _)) (Tm.v _)); all_goals (first | rfl | (simp only [List.length_take]; omega) | (simp only [List.length_append, List.length_cons, List.length_nil, List.length_modify, List.length_set, Nat.zero_add]; done) | (simp only [List.length_append, List.length_take, List.length_drop, List.length_cons, List.length_nil, List.length_modify, List.length_set, Nat.zero_add]; omega) | (simp only [List.length_append, List.length_take, List.length_drop, List.length_cons, List.length_nil, List.length_modify, List.length_set, Nat.zero_add]; done) | omega)) hi1 ?_
  clear hi1
  rintro n d53 hl3
  rcases n with _ | n2
  ·
   (rw [bitmap_list_L2] at hl3; cases hl3)
  ·
   rw [bitmap_list_L2] at hl3
   unfold bitmap_list_S1
   refine awp_nr [3,10,11,12] (fun _ => rfl) fun tz => ?_
   refine awp_regW fun KK hKK => ?_
   refine xw_id ?_
   try simp only [go_sem, ↓iop_and, ↓iop_or, ↓iop_xor, ↓iop_andn, Nat.reduceEqDiff, reduceIte, Nat.reduceAdd, Nat.reduceMul, Nat.reduceSub, Nat.reduceLT, Nat.reduceLeDiff]
   refine hKK _ _ (Wk.refl _ _ _) ?_; clear hKK KK
   refine awp_cond (b := (decide (d53.2 < (a0.length : Int)))) rfl (fun h4 => ?_) (fun h4 => ?_)
   ·
    have hl3 := cT hl3 h4
    refine awp_skip ?_
    refine awp_blockW ?_
    refine awp_nr [3,10,11,12] (fun _ => rfl) fun tz => ?_
    refine awp_regW fun KK hKK => ?_
    refine xw_id ?_
    obtain ⟨x54, bx54, hl3⟩ := bnd hl3
    obtain ⟨fx54_0, fx54_1, fx54_2, fx54_3⟩ := idx_some bx54
    try simp only [go_sem, ↓iop_and, ↓iop_or, ↓iop_xor, ↓iop_andn, Nat.reduceEqDiff, reduceIte, Nat.reduceAdd, Nat.reduceMul, Nat.reduceSub, Nat.reduceLT, Nat.reduceLeDiff, fx54_0, fx54_1, fx54_2]
    refine hKK _ _ (Wk.refl _ _ _) ?_; clear hKK KK
    refine awp_nr1 [3,5,10,11,12] (fun _ => rfl) fun tz => ?_
    refine awp_reg1 fun KK hKK => ?_
    refine xw_id ?_
    obtain ⟨x55, bx55, hl3⟩ := bnd hl3
    have bx55 := chk_some bx55
    simp only [Bool.and_eq_true, decide_eq_true_eq] at bx55
    have gx55_0 := bx55
    try simp only [go_sem, ↓iop_and, ↓iop_or, ↓iop_xor, ↓iop_andn, Nat.reduceEqDiff, reduceIte, Nat.reduceAdd, Nat.reduceMul, Nat.reduceSub, Nat.reduceLT, Nat.reduceLeDiff, Int.reduceToNat, Int.reduceBEq, Int.reduceBNe, Int.reduceLT, Int.reduceLE, Int.reduceAdd, Int.reduceSub, Int.reduceMul, Int.reduceNeg, Int.reduceEq, Int.reduceNe, fx54_0, fx54_1, fx54_2, gx55_0]
    refine hKK _ ?_; clear hKK KK
    refine bq_n ?_
    refine seqW_i ?_
    refine awp_nr1 [3,10,11,12] (fun _ => rfl) fun tz => ?_
    refine awp_reg1 fun KK hKK => ?_
    refine xw_id ?_
    try simp only [go_sem, ↓iop_and, ↓iop_or, ↓iop_xor, ↓iop_andn, Nat.reduceEqDiff, reduceIte, Nat.reduceAdd, Nat.reduceMul, Nat.reduceSub, Nat.reduceLT, Nat.reduceLeDiff, fx54_0, fx54_1, fx54_2]
    refine hKK _ ?_; clear hKK KK
    refine lq_n ?_
    exact ⟨n2, ((d53.1 ++ [IntKind.wrap .u8 x54]), IntKind.wrap .i64 (d53.2 + 1)), rfl, hl3, (by refine Wk.canonD [] [] [some 9] rfl trivial rfl (tmOU 0 tmO0 rfl List.not_mem_nil (by simp only [upd_get, ↓iop_and, ↓iop_or, ↓iop_xor, ↓iop_andn, Nat.reduceEqDiff, reduceIte, Nat.reduceAdd, Nat.reduceMul, Nat.reduceSub, Nat.reduceLT, Nat.reduceLeDiff, if_true, if_false] <;> rfl) (TmL.of_eq (by first | rfl | (simp only [List.flatMap_append, List.flatMap_cons, List.flatMap_nil, List.map_append, List.map_cons, List.map_nil, List.append_nil, List.nil_append]; done) | (simp only [List.flatMap_append, List.flatMap_cons, List.flatMap_nil, List.map_append, List.map_cons, List.map_nil, List.append_nil, List.nil_append]; rfl)) (vu_clean _))) (tmAllU 12 (tmAllU 11 (tmAllU 10 (tmAllU 3 tmAll0 (Tm.refL rfl ?_)) (Tm.clean (Clean.imm (vi_clean _)))) (Tm.v _)) (Tm.v _)); all_goals (first | rfl | (simp only [List.length_take]; omega) | (simp only [List.length_append, List.length_cons, List.length_nil, List.length_modify, List.length_set, Nat.zero_add]; done) | (simp only [List.length_append, List.length_take, List.length_drop, List.length_cons, List.length_nil, List.length_modify, List.length_set, Nat.zero_add]; omega) | (simp only [List.length_append, List.length_take, List.length_drop, List.length_cons, List.length_nil, List.length_modify, List.length_set, Nat.zero_add]; done) | omega))⟩
   ·
    have hl3 := cF hl3 h4
    refine awp_exit ?_
    refine lq_e ?_
    refine bq_e ?_
    refine sq_n ?_
    obtain rfl := someInj hl3
    exact ⟨_, rfl, (by refine Wk.canonD [] [] [some 0] rfl trivial rfl (tmOU 0 tmO0 rfl List.not_mem_nil (by simp only [upd_get, ↓iop_and, ↓iop_or, ↓iop_xor, ↓iop_andn, Nat.reduceEqDiff, reduceIte, Nat.reduceAdd, Nat.reduceMul, Nat.reduceSub, Nat.reduceLT, Nat.reduceLeDiff, if_true, if_false] <;> rfl) (TmL.of_eq (by first | rfl | (simp only [List.flatMap_append, List.flatMap_cons, List.flatMap_nil, List.map_append, List.map_cons, List.map_nil, List.append_nil, List.nil_append]; done) | (simp only [List.flatMap_append, List.flatMap_cons, List.flatMap_nil, List.map_append, List.map_cons, List.map_nil, List.append_nil, List.nil_append]; rfl)) (vu_clean _))) (tmAllU 3 tmAll0 (Tm.refL rfl ?_)); all_goals (first | rfl | (simp only [List.length_take]; omega) | (simp only [List.length_append, List.length_cons, List.length_nil, List.length_modify, List.length_set, Nat.zero_add]; done) | (simp only [List.length_append, List.length_take, List.length_drop, List.length_cons, List.length_nil, List.length_modify, List.length_set, Nat.zero_add]; omega) | (simp only [List.length_append, List.length_take, List.length_drop, List.length_cons, List.length_nil, List.length_modify, List.length_set, Nat.zero_add]; done) | omega))⟩
 ·
  rintro _ rfl
  clear hi1
  unfold bitmap_list_S0
  refine awp_nr [3] (fun _ => rfl) fun tz => ?_
  refine awp_regW fun KK hKK => ?_
  refine xw_id ?_
  try simp only [go_sem, ↓iop_and, ↓iop_or, ↓iop_xor, ↓iop_andn, Nat.reduceEqDiff, reduceIte, Nat.reduceAdd, Nat.reduceMul, Nat.reduceSub, Nat.reduceLT, Nat.reduceLeDiff]
  refine hKK _ _ (Wk.refl _ _ _) ?_; clear hKK KK
  refine awp_ret1 ?_
  obtain rfl := someInj h0
  refine endW_i ?_
  refine end_ret0 rs46 (rfl) ?_
  refine Res.mk [] [some 0] rfl (resOU List.not_mem_nil (by simp only [upd_get, ↓iop_and, ↓iop_or, ↓iop_xor, ↓iop_andn, Nat.reduceEqDiff, reduceIte, Nat.reduceAdd, Nat.reduceMul, Nat.reduceSub, Nat.reduceLT, Nat.reduceLeDiff, if_true, if_false] <;> rfl) (TmL.of_eq (by first | rfl | (simp only [List.flatMap_append, List.flatMap_cons, List.flatMap_nil, List.map_append, List.map_cons, List.map_nil, List.append_nil, List.nil_append]; done) | (simp only [List.flatMap_append, List.flatMap_cons, List.flatMap_nil, List.map_append, List.map_cons, List.map_nil, List.append_nil, List.nil_append]; rfl)) (vu_clean _)) resO0) (Tm.refL rfl ?_)
  all_goals (first | rfl | (simp only [List.length_take]; omega) | (simp only [List.length_append, List.length_cons, List.length_nil, List.length_modify, List.length_set, Nat.zero_add]; done) | (simp only [List.length_append, List.length_take, List.length_drop, List.length_cons, List.length_nil, List.length_modify, List.length_set, Nat.zero_add]; omega) | (simp only [List.length_append, List.length_take, List.length_drop, List.length_cons, List.length_nil, List.length_modify, List.length_set, Nat.zero_add]; done) | omega)

theorem bitmap_list_m (a0 : (List Int)) {r : (List Int)} (h0 : bitmap_list a0 = some r) : SndM K 46 [(S_vi a0)] (fun q => (.ref (q 0) 0 r.length 1)) [(List.map vu r)] :=
 fun hs => Snd.of_newM (RenM.ref 0 0 _ _) (rows_all_cons (vu_clean _) rows_all_nil) (clean_cons (S_vi_clean _) clean_nil) (bitmap_list_r a0 h0) hs

theorem bitmap_list_e (a0 : (List Int)) {r : (List Int)} (h0 : bitmap_list a0 = some r) (fr : Nat) (hs : HS) : SndE K 46 [(S_vi a0)] hs fr ⟨(fun q : Nat → Nat => (.ref (q 0) 0 r.length 1)) fun _ => fr, .new (List.map vu r)⟩ :=
 SndE.of_res (RenM.ref 0 0 _ _) (vu_clean _) (clean_cons (S_vi_clean _) clean_nil) (fun a b h => by simp only [h]) (bitmap_list_r a0 h0) hs fr

theorem bitmap_list_p (a0 : (List Int)) {r : (List Int)} (h0 : bitmap_list a0 = some r) : SndP K 46 [(S_vi a0)] (S_vu r) :=
 SndM.pure (bitmap_list_m a0 h0) (S_vu_clean _) (clean_cons (S_vi_clean _) clean_nil) (by simp only [go_sem, newL_n, newL_c, upd_get, fz, nilS, cond_true, cond_false, List.drop_zero, List.take_length, List.length_map, ble_self, ↓iop_and, ↓iop_or, ↓iop_xor, ↓iop_andn, Nat.reduceEqDiff, reduceIte, Nat.reduceAdd, Nat.reduceMul, Nat.reduceSub, Nat.reduceLT, Nat.reduceLeDiff] <;> rfl)

end Go.AX.Z.TD

/-! (TDW bitmap holes) -/

set_option linter.unusedSimpArgs false
set_option linter.unusedVariables false
set_option maxHeartbeats 4000000
set_option maxRecDepth 20000
namespace Go.AX.Z.TD
open Go.AX Go.Proofs
attribute [local irreducible] awp xw xop xcall gsp ob xd xdop xcallD seqQ loopQ blkQ endQ

def bitmap_holes_S0 (d58 : (List Int)) : AS :=
 { objs := (upd (fun _ => .dead) 0 (.live (List.map vu d58))), next := 1, tmps := (upd (fun _ => .unk) 3 (.ref 0 0 ((d58).length) 1)) }

def bitmap_holes_S1 (a0 : (List Int)) (d59 : (List Int × Int)) : AS :=
 { objs := (upd (fun _ => .dead) 0 (.live (List.map vu d59.1))), next := 1, tmps := (upd (upd (upd (upd (fun _ => .unk) 3 (.ref 0 0 ((d59.1).length) 1)) 8 (.imm (List.map vi a0) a0.length)) 9 (vi (a0.length : Int))) 10 (vi d59.2)) }

def bitmap_holes_S3 (a0 : (List Int)) (d59 : (List Int × Int)) (d60 : (List Int)) : AS :=
 { objs := (upd (fun _ => .dead) 0 (.live (List.map vu d60))), next := 1, tmps := (upd (upd (upd (upd (fun _ => .unk) 3 (.ref 0 0 ((d60).length) 1)) 8 (.imm (List.map vi a0) a0.length)) 9 (vi (a0.length : Int))) 10 (vi d59.2)) }

def bitmap_holes_S4 (x61 : Int) (a0 : (List Int)) (d59 : (List Int × Int)) (d63 : (List Int)) : AS :=
 { objs := (upd (fun _ => .dead) 0 (.live (List.map vu d63))), next := 1, tmps := (upd (upd (upd (upd (upd (fun _ => .unk) 3 (.ref 0 0 ((d63).length) 1)) 5 (vi x61)) 8 (.imm (List.map vi a0) a0.length)) 9 (vi (a0.length : Int))) 10 (vi d59.2)) }

def bitmap_holes_S5 (x61 : Int) (a0 : (List Int)) (d59 : (List Int × Int)) (d64 : (List Int × Int)) : AS :=
 { objs := (upd (fun _ => .dead) 0 (.live (List.map vu d64.1))), next := 1, tmps := (upd (upd (upd (upd (upd (upd (fun _ => .unk) 3 (.ref 0 0 ((d64.1).length) 1)) 5 (vi x61)) 6 (vi d64.2)) 8 (.imm (List.map vi a0) a0.length)) 9 (vi (a0.length : Int))) 10 (vi d59.2)) }

theorem bitmap_holes_r (a0 : (List Int)) {r : (List Int)} (h0 : bitmap_holes a0 = some r) : SndR K 47 [(S_vi a0)] (fun q => (.ref (q 0) 0 r.length 1)) [(List.map vu r)] := by
 refine SndR.of_walkW hC (show K.P.funcs[47]? = some Try.f47 from Try.func47) rfl rfl (by decide +kernel) (Nat.le_of_ble_eq_true rfl) ?_
 unfold bitmap_holes at h0
 refine awp_nr [0] (fun _ => rfl) fun tz => ?_
 refine awp_regW fun KK hKK => ?_
 refine xw_id ?_
 try simp only [go_sem, ↓iop_and, ↓iop_or, ↓iop_xor, ↓iop_andn, Nat.reduceEqDiff, reduceIte, Nat.reduceAdd, Nat.reduceMul, Nat.reduceSub, Nat.reduceLT, Nat.reduceLeDiff]
 refine hKK _ _ (Wk.refl _ _ _) ?_; clear hKK KK
 refine awp_nr [0] (fun _ => rfl) fun tz => ?_
 refine awp_regW fun KK hKK => ?_
 refine xw_id ?_
 try simp only [go_sem, ↓iop_and, ↓iop_or, ↓iop_xor, ↓iop_andn, Nat.reduceEqDiff, reduceIte, Nat.reduceAdd, Nat.reduceMul, Nat.reduceSub, Nat.reduceLT, Nat.reduceLeDiff]
 refine hKK _ _ (Wk.refl _ _ _) ?_; clear hKK KK
 refine awp_assoc ?_
 refine awp_nr [0,3] (fun _ => rfl) fun tz => ?_
 refine awp_regW fun KK hKK => ?_
 refine xw_id ?_
 try simp only [go_sem, ↓iop_and, ↓iop_or, ↓iop_xor, ↓iop_andn, Nat.reduceEqDiff, reduceIte, Nat.reduceAdd, Nat.reduceMul, Nat.reduceSub, Nat.reduceLT, Nat.reduceLeDiff, Int.reduceToNat, Int.reduceBEq, Int.reduceBNe, Int.reduceLT, Int.reduceLE, Int.reduceAdd, Int.reduceSub, Int.reduceMul, Int.reduceNeg, Int.reduceEq, Int.reduceNe]
 refine hKK _ _ (Wk.refl _ _ _) ?_; clear hKK KK
 obtain ⟨d58, hi1, h0⟩ := bnd h0
 refine awp_cut (fun z => d58 = z) (fun d58 : (List Int) => bitmap_holes_S0 d58) ?_ ?_
 ·
  refine awp_block1 ?_
  refine awp_loopS (fun n (d59 : (List Int × Int)) => bitmap_holes_L2 a0 n d59 = some d58) (fun d59 : (List Int × Int) => bitmap_holes_S1 a0 d59) big ([0, 0], 0) (by refine Wk.canonD [] [] [some 1] rfl trivial rfl (tmOU 0 tmO0 rfl List.not_mem_nil (by simp only [upd_get, ↓iop_and, ↓iop_or, ↓iop_xor, ↓iop_andn, Nat.reduceEqDiff, reduceIte, Nat.reduceAdd, Nat.reduceMul, Nat.reduceSub, Nat.reduceLT, Nat.reduceLeDiff, if_true, if_false] <;> rfl) (TmL.of_eq (by first | rfl | (simp only [List.flatMap_append, List.flatMap_cons, List.flatMap_nil, List.map_append, List.map_cons, List.map_nil, List.append_nil, List.nil_append]; done) | (simp only [List.flatMap_append, List.flatMap_cons, List.flatMap_nil, List.map_append, List.map_cons, List.map_nil, List.append_nil, List.nil_append]; rfl)) (vu_clean _))) (tmAllU 10 (tmAllU 9 (tmAllU 8 (tmAllU 3 tmAll0 (Tm.refL rfl ?_)) (Tm.clean (Clean.imm (vi_clean _)))) (Tm.v _)) (Tm.v _)); all_goals (first | rfl | (simp only [List.length_take]; omega) | (simp only [List.length_append, List.length_cons, List.length_nil, List.length_modify, List.length_set, Nat.zero_add]; done) | (simp only [List.length_append, List.length_take, List.length_drop, List.length_cons, List.length_nil, List.length_modify, List.length_set, Nat.zero_add]; omega) | (simp only [List.length_append, List.length_take, List.length_drop, List.length_cons, List.length_nil, List.length_modify, List.length_set, Nat.zero_add]; done) | omega)) hi1 ?_
  clear hi1
  rintro n d59 hl3
  rcases n with _ | n2
  ·
   (rw [bitmap_holes_L2] at hl3; cases hl3)
  ·
   rw [bitmap_holes_L2] at hl3
   unfold bitmap_holes_S1
   refine awp_nr [3,8,9,10] (fun _ => rfl) fun tz => ?_
   refine awp_regW fun KK hKK => ?_
   refine xw_id ?_
   try simp only [go_sem, ↓iop_and, ↓iop_or, ↓iop_xor, ↓iop_andn, Nat.reduceEqDiff, reduceIte, Nat.reduceAdd, Nat.reduceMul, Nat.reduceSub, Nat.reduceLT, Nat.reduceLeDiff]
   refine hKK _ _ (Wk.refl _ _ _) ?_; clear hKK KK
   refine awp_cond (b := (decide (d59.2 < (a0.length : Int)))) rfl (fun h4 => ?_) (fun h4 => ?_)
   ·
    have hl3 := cT hl3 h4
    refine awp_skip ?_
    obtain ⟨d60, hi5, hl3⟩ := bnd hl3
    refine awp_cut (fun z => d60 = z) (fun d60 : (List Int) => bitmap_holes_S3 a0 d59 d60) ?_ ?_
    ·
     refine awp_block1 ?_
     refine awp_nr [3,8,9,10] (fun _ => rfl) fun tz => ?_
     refine awp_regW fun KK hKK => ?_
     refine xw_id ?_
     obtain ⟨x61, bx61, hi5⟩ := bnd hi5
     obtain ⟨fx61_0, fx61_1, fx61_2, fx61_3⟩ := idx_some bx61
     try simp only [go_sem, ↓iop_and, ↓iop_or, ↓iop_xor, ↓iop_andn, Nat.reduceEqDiff, reduceIte, Nat.reduceAdd, Nat.reduceMul, Nat.reduceSub, Nat.reduceLT, Nat.reduceLeDiff, fx61_0, fx61_1, fx61_2]
     refine hKK _ _ (Wk.refl _ _ _) ?_; clear hKK KK
     refine awp_assoc ?_
     refine awp_nr [3,5,8,9,10] (fun _ => rfl) fun tz => ?_
     refine awp_regW fun KK hKK => ?_
     refine xw_id ?_
     obtain ⟨x62, bx62, hi5⟩ := bnd hi5
     obtain ⟨fx62_0, fx62_1, fx62_2, fx62_3⟩ := idx_some bx62
     have fx62_5 : ((0 : Int) < (((d59.1).length : Nat) : Int)) = True := by first | exact fx62_1 | (simp [List.length_modify, List.length_set]; omega)
     simp only [Int.reduceToNat] at fx62_2 fx62_3
     try simp only [go_sem, ↓iop_and, ↓iop_or, ↓iop_xor, ↓iop_andn, Nat.reduceEqDiff, reduceIte, Nat.reduceAdd, Nat.reduceMul, Nat.reduceSub, Nat.reduceLT, Nat.reduceLeDiff, Int.reduceToNat, Int.reduceBEq, Int.reduceBNe, Int.reduceLT, Int.reduceLE, Int.reduceAdd, Int.reduceSub, Int.reduceMul, Int.reduceNeg, Int.reduceEq, Int.reduceNe, fx61_0, fx61_1, fx61_2, fx62_0, fx62_1, fx62_2, fx62_5]
     refine hKK _ _ (Wk.refl _ _ _) ?_; clear hKK KK
     obtain ⟨d63, hi6, hi5⟩ := bnd hi5
     refine awp_cut (fun z => d63 = z) (fun d63 : (List Int) => bitmap_holes_S4 x61 a0 d59 d63) ?_ ?_
     ·
      refine awp_block1 ?_
      refine awp_loopS (fun n (d64 : (List Int × Int)) => bitmap_holes_L6 x61 n d64 = some d63) (fun d64 : (List Int × Int) => bitmap_holes_S5 x61 a0 d59 d64) big (d59.1, IntKind.wrap .i64 ((IntKind.wrap .i64 x62) + 1)) (by refine Wk.canonD [] [] [some 0] rfl trivial rfl (tmOU 0 tmO0 rfl List.not_mem_nil (by simp only [upd_get, ↓iop_and, ↓iop_or, ↓iop_xor, ↓iop_andn, Nat.reduceEqDiff, reduceIte, Nat.reduceAdd, Nat.reduceMul, Nat.reduceSub, Nat.reduceLT, Nat.reduceLeDiff, if_true, if_false] <;> rfl) (TmL.of_eq (by first | rfl | (simp only [List.flatMap_append, List.flatMap_cons, List.flatMap_nil, List.map_append, List.map_cons, List.map_nil, List.append_nil, List.nil_append]; done) | (simp only [List.flatMap_append, List.flatMap_cons, List.flatMap_nil, List.map_append, List.map_cons, List.map_nil, List.append_nil, List.nil_append]; rfl)) (vu_clean _))) (tmAllU 10 (tmAllU 9 (tmAllU 8 (tmAllU 6 (tmAllU 5 (tmAllU 3 tmAll0 (Tm.refL rfl ?_)) (Tm.v _)) (Tm.v _)) (Tm.clean (Clean.imm (vi_clean _)))) (Tm.v _)) (Tm.v _)); all_goals (first | rfl | (simp only [List.length_take]; omega) | (simp only [List.length_append, List.length_cons, List.length_nil, List.length_modify, List.length_set, Nat.zero_add]; done) | (simp only [List.length_append, List.length_take, List.length_drop, List.length_cons, List.length_nil, List.length_modify, List.length_set, Nat.zero_add]; omega) | (simp only [List.length_append, List.length_take, List.length_drop, List.length_cons, List.length_nil, List.length_modify, List.length_set, Nat.zero_add]; done) | omega)) hi6 ?_
      clear hi6
      rintro n d64 hl8
      rcases n with _ | n7
      ·
       (rw [bitmap_holes_L6] at hl8; cases hl8)
      ·
       rw [bitmap_holes_L6] at hl8
       unfold bitmap_holes_S5
       refine awp_assoc ?_
       refine awp_nr [3,5,6,8,9,10] (fun _ => rfl) fun tz => ?_
       refine awp_regW fun KK hKK => ?_
       refine xw_id ?_
       try simp only [go_sem, ↓iop_and, ↓iop_or, ↓iop_xor, ↓iop_andn, Nat.reduceEqDiff, reduceIte, Nat.reduceAdd, Nat.reduceMul, Nat.reduceSub, Nat.reduceLT, Nat.reduceLeDiff]
       refine hKK _ _ (Wk.refl _ _ _) ?_; clear hKK KK
       refine awp_cond (b := (decide (d64.2 < x61))) rfl (fun h9 => ?_) (fun h9 => ?_)
       ·
        have hl8 := cT hl8 h9
        refine awp_skip ?_
        refine awp_blockW ?_
        refine awp_nr1 [3,5,6,8,9,10] (fun _ => rfl) fun tz => ?_
        refine awp_reg1 fun KK hKK => ?_
        refine xw_id ?_
        obtain ⟨x65, bx65, hl8⟩ := bnd hl8
        have bx65 := chk_some bx65
        simp only [Bool.and_eq_true, decide_eq_true_eq] at bx65
        have gx65_0 := bx65
        try simp only [go_sem, ↓iop_and, ↓iop_or, ↓iop_xor, ↓iop_andn, Nat.reduceEqDiff, reduceIte, Nat.reduceAdd, Nat.reduceMul, Nat.reduceSub, Nat.reduceLT, Nat.reduceLeDiff, Int.reduceToNat, Int.reduceBEq, Int.reduceBNe, Int.reduceLT, Int.reduceLE, Int.reduceAdd, Int.reduceSub, Int.reduceMul, Int.reduceNeg, Int.reduceEq, Int.reduceNe, gx65_0]
        refine hKK _ ?_; clear hKK KK
        refine bq_n ?_
        refine seqW_i ?_
        refine awp_nr1 [3,5,6,8,9,10] (fun _ => rfl) fun tz => ?_
        refine awp_reg1 fun KK hKK => ?_
        refine xw_id ?_
        try simp only [go_sem, ↓iop_and, ↓iop_or, ↓iop_xor, ↓iop_andn, Nat.reduceEqDiff, reduceIte, Nat.reduceAdd, Nat.reduceMul, Nat.reduceSub, Nat.reduceLT, Nat.reduceLeDiff]
        refine hKK _ ?_; clear hKK KK
        refine lq_n ?_
        exact ⟨n7, ((d64.1 ++ [IntKind.wrap .u8 d64.2]), IntKind.wrap .i64 (d64.2 + 1)), rfl, hl8, (by refine Wk.canonD [] [] [some 8] rfl trivial rfl (tmOU 0 tmO0 rfl List.not_mem_nil (by simp only [upd_get, ↓iop_and, ↓iop_or, ↓iop_xor, ↓iop_andn, Nat.reduceEqDiff, reduceIte, Nat.reduceAdd, Nat.reduceMul, Nat.reduceSub, Nat.reduceLT, Nat.reduceLeDiff, if_true, if_false] <;> rfl) (TmL.of_eq (by first | rfl | (simp only [List.flatMap_append, List.flatMap_cons, List.flatMap_nil, List.map_append, List.map_cons, List.map_nil, List.append_nil, List.nil_append]; done) | (simp only [List.flatMap_append, List.flatMap_cons, List.flatMap_nil, List.map_append, List.map_cons, List.map_nil, List.append_nil, List.nil_append]; rfl)) (vu_clean _))) (tmAllU 10 (tmAllU 9 (tmAllU 8 (tmAllU 6 (tmAllU 5 (tmAllU 3 tmAll0 (Tm.refL rfl ?_)) (Tm.v _)) (Tm.v _)) (Tm.clean (Clean.imm (vi_clean _)))) (Tm.v _)) (Tm.v _)); all_goals (first | rfl | (simp only [List.length_take]; omega) | (simp only [List.length_append, List.length_cons, List.length_nil, List.length_modify, List.length_set, Nat.zero_add]; done) | (simp only [List.length_append, List.length_take, List.length_drop, List.length_cons, List.length_nil, List.length_modify, List.length_set, Nat.zero_add]; omega) | (simp only [List.length_append, List.length_take, List.length_drop, List.length_cons, List.length_nil, List.length_modify, List.length_set, Nat.zero_add]; done) | omega))⟩
       ·
        have hl8 := cF hl8 h9
        refine awp_exit ?_
        refine lq_e ?_
        refine bq_e ?_
        refine sq_n ?_
        obtain rfl := someInj hl8
        exact ⟨_, rfl, (by refine Wk.canonD [] [] [some 0] rfl trivial rfl (tmOU 0 tmO0 rfl List.not_mem_nil (by simp only [upd_get, ↓iop_and, ↓iop_or, ↓iop_xor, ↓iop_andn, Nat.reduceEqDiff, reduceIte, Nat.reduceAdd, Nat.reduceMul, Nat.reduceSub, Nat.reduceLT, Nat.reduceLeDiff, if_true, if_false] <;> rfl) (TmL.of_eq (by first | rfl | (simp only [List.flatMap_append, List.flatMap_cons, List.flatMap_nil, List.map_append, List.map_cons, List.map_nil, List.append_nil, List.nil_append]; done) | (simp only [List.flatMap_append, List.flatMap_cons, List.flatMap_nil, List.map_append, List.map_cons, List.map_nil, List.append_nil, List.nil_append]; rfl)) (vu_clean _))) (tmAllU 10 (tmAllU 9 (tmAllU 8 (tmAllU 5 (tmAllU 3 tmAll0 (Tm.refL rfl ?_)) (Tm.v _)) (Tm.clean (Clean.imm (vi_clean _)))) (Tm.v _)) (Tm.v _)); all_goals (first | rfl | (simp only [List.length_take]; omega) | (simp only [List.length_append, List.length_cons, List.length_nil, List.length_modify, List.length_set, Nat.zero_add]; done) | (simp only [List.length_append, List.length_take, List.length_drop, List.length_cons, List.length_nil, List.length_modify, List.length_set, Nat.zero_add]; omega) | (simp only [List.length_append, List.length_take, List.length_drop, List.length_cons, List.length_nil, List.length_modify, List.length_set, Nat.zero_add]; done) | omega))⟩
     ·
      rintro _ rfl
      clear hi6
      unfold bitmap_holes_S4
      refine awp_nr1 [3,5,8,9,10] (fun _ => rfl) fun tz => ?_
      refine awp_reg1 fun KK hKK => ?_
      refine xw_id ?_
      obtain ⟨x66, bx66, hi5⟩ := bnd hi5
      obtain ⟨fx66_0, fx66_1, fx66_2, fx66_3⟩ := idx_some bx66
      have fx66_5 : ((0 : Int) < (((d63).length : Nat) : Int)) = True := by first | exact fx66_1 | (simp [List.length_modify, List.length_set]; omega)
      simp only [Int.reduceToNat] at fx66_2 fx66_3
      have gs10 : (0 + 1 ≤ d63.length) = True := eq_true (by (try simp only [List.length_modify, List.length_set]); omega)
      have gm11 : (d63.set 0 (IntKind.wrap .u8 x61))[0]? = some (IntKind.wrap .u8 x61) := getSet _ fx66_2
      try simp only [go_sem, ↓iop_and, ↓iop_or, ↓iop_xor, ↓iop_andn, Nat.reduceEqDiff, reduceIte, Nat.reduceAdd, Nat.reduceMul, Nat.reduceSub, Nat.reduceLT, Nat.reduceLeDiff, Int.reduceToNat, Int.reduceBEq, Int.reduceBNe, Int.reduceLT, Int.reduceLE, Int.reduceAdd, Int.reduceSub, Int.reduceMul, Int.reduceNeg, Int.reduceEq, Int.reduceNe, fx66_0, fx66_1, fx66_2, fx66_5, gs10, gm11]
      refine hKK _ ?_; clear hKK KK
      refine bq_n ?_
      refine sq_n ?_
      obtain rfl := someInj hi5
      exact ⟨_, rfl, (by refine Wk.canonD [] [] [some 0] rfl trivial rfl (tmOU 0 tmO0 rfl List.not_mem_nil (by simp only [upd_get, ↓iop_and, ↓iop_or, ↓iop_xor, ↓iop_andn, Nat.reduceEqDiff, reduceIte, Nat.reduceAdd, Nat.reduceMul, Nat.reduceSub, Nat.reduceLT, Nat.reduceLeDiff, if_true, if_false] <;> rfl) (TmL.of_eq (by first | rfl | (simp only [List.flatMap_append, List.flatMap_cons, List.flatMap_nil, List.map_append, List.map_cons, List.map_nil, List.append_nil, List.nil_append]; done) | (simp only [List.flatMap_append, List.flatMap_cons, List.flatMap_nil, List.map_append, List.map_cons, List.map_nil, List.append_nil, List.nil_append]; rfl)) (vu_clean _))) (tmAllU 10 (tmAllU 9 (tmAllU 8 (tmAllU 3 tmAll0 (Tm.refL rfl ?_)) (Tm.clean (Clean.imm (vi_clean _)))) (Tm.v _)) (Tm.v _)); all_goals (first | rfl | (simp only [List.length_take]; omega) | (simp only [List.length_append, List.length_cons, List.length_nil, List.length_modify, List.length_set, Nat.zero_add]; done) | (simp only [List.length_append, List.length_take, List.length_drop, List.length_cons, List.length_nil, List.length_modify, List.length_set, Nat.zero_add]; omega) | (simp only [List.length_append, List.length_take, List.length_drop, List.length_cons, List.length_nil, List.length_modify, List.length_set, Nat.zero_add]; done) | omega))⟩
    ·
     rintro _ rfl
     clear hi5
     unfold bitmap_holes_S3
     refine awp_nr1 [3,8,9,10] (fun _ => rfl) fun tz => ?_
     refine awp_reg1 fun KK hKK => ?_
     refine xw_id ?_
     try simp only [go_sem, ↓iop_and, ↓iop_or, ↓iop_xor, ↓iop_andn, Nat.reduceEqDiff, reduceIte, Nat.reduceAdd, Nat.reduceMul, Nat.reduceSub, Nat.reduceLT, Nat.reduceLeDiff]
     refine hKK _ ?_; clear hKK KK
     refine lq_n ?_
     exact ⟨n2, (d60, IntKind.wrap .i64 (d59.2 + 1)), rfl, hl3, (by refine Wk.canonD [] [] [some 0] rfl trivial rfl (tmOU 0 tmO0 rfl List.not_mem_nil (by simp only [upd_get, ↓iop_and, ↓iop_or, ↓iop_xor, ↓iop_andn, Nat.reduceEqDiff, reduceIte, Nat.reduceAdd, Nat.reduceMul, Nat.reduceSub, Nat.reduceLT, Nat.reduceLeDiff, if_true, if_false] <;> rfl) (TmL.of_eq (by first | rfl | (simp only [List.flatMap_append, List.flatMap_cons, List.flatMap_nil, List.map_append, List.map_cons, List.map_nil, List.append_nil, List.nil_append]; done) | (simp only [List.flatMap_append, List.flatMap_cons, List.flatMap_nil, List.map_append, List.map_cons, List.map_nil, List.append_nil, List.nil_append]; rfl)) (vu_clean _))) (tmAllU 10 (tmAllU 9 (tmAllU 8 (tmAllU 3 tmAll0 (Tm.refL rfl ?_)) (Tm.clean (Clean.imm (vi_clean _)))) (Tm.v _)) (Tm.v _)); all_goals (first | rfl | (simp only [List.length_take]; omega) | (simp only [List.length_append, List.length_cons, List.length_nil, List.length_modify, List.length_set, Nat.zero_add]; done) | (simp only [List.length_append, List.length_take, List.length_drop, List.length_cons, List.length_nil, List.length_modify, List.length_set, Nat.zero_add]; omega) | (simp only [List.length_append, List.length_take, List.length_drop, List.length_cons, List.length_nil, List.length_modify, List.length_set, Nat.zero_add]; done) | omega))⟩
   ·
    have hl3 := cF hl3 h4
    refine awp_exit ?_
    refine lq_e ?_
    refine bq_e ?_
    refine sq_n ?_
    obtain rfl := someInj hl3
    exact ⟨_, rfl, (by refine Wk.canonD [] [] [some 0] rfl trivial rfl (tmOU 0 tmO0 rfl List.not_mem_nil (by simp only [upd_get, ↓iop_and, ↓iop_or, ↓iop_xor, ↓iop_andn, Nat.reduceEqDiff, reduceIte, Nat.reduceAdd, Nat.reduceMul, Nat.reduceSub, Nat.reduceLT, Nat.reduceLeDiff, if_true, if_false] <;> rfl) (TmL.of_eq (by first | rfl | (simp only [List.flatMap_append, List.flatMap_cons, List.flatMap_nil, List.map_append, List.map_cons, List.map_nil, List.append_nil, List.nil_append]; done) | (simp only [List.flatMap_append, List.flatMap_cons, List.flatMap_nil, List.map_append, List.map_cons, List.map_nil, List.append_nil, List.nil_append]; rfl)) (vu_clean _))) (tmAllU 3 tmAll0 (Tm.refL rfl ?_)); all_goals (first | rfl | (simp only [List.length_take]; omega) | (simp only [List.length_append, List.length_cons, List.length_nil, List.length_modify, List.length_set, Nat.zero_add]; done) | (simp only [List.length_append, List.length_take, List.length_drop, List.length_cons, List.length_nil, List.length_modify, List.length_set, Nat.zero_add]; omega) | (simp only [List.length_append, List.length_take, List.length_drop, List.length_cons, List.length_nil, List.length_modify, List.length_set, Nat.zero_add]; done) | omega))⟩
 ·
  rintro _ rfl
  clear hi1
  unfold bitmap_holes_S0
  refine awp_nr [3] (fun _ => rfl) fun tz => ?_
  refine awp_regW fun KK hKK => ?_
  refine xw_id ?_
  obtain ⟨x67, bx67, h0⟩ := bnd h0
  obtain ⟨fx67_0, fx67_1, fx67_2, fx67_3⟩ := idx_some bx67
  have fx67_5 : ((1 : Int) < (((d58).length : Nat) : Int)) = True := by first | exact fx67_1 | (simp [List.length_modify, List.length_set]; omega)
  simp only [Int.reduceToNat] at fx67_2 fx67_3
  have gs12 : (1 + 1 ≤ d58.length) = True := eq_true (by (try simp only [List.length_modify, List.length_set]); omega)
  have gm13 : (d58.set 1 (IntKind.wrap .u8 (IntKind.wrap .i64 ((((d58).length : Nat) : Int) - 2))))[1]? = some (IntKind.wrap .u8 (IntKind.wrap .i64 ((((d58).length : Nat) : Int) - 2))) := getSet _ fx67_2
  try simp only [go_sem, ↓iop_and, ↓iop_or, ↓iop_xor, ↓iop_andn, Nat.reduceEqDiff, reduceIte, Nat.reduceAdd, Nat.reduceMul, Nat.reduceSub, Nat.reduceLT, Nat.reduceLeDiff, Int.reduceToNat, Int.reduceBEq, Int.reduceBNe, Int.reduceLT, Int.reduceLE, Int.reduceAdd, Int.reduceSub, Int.reduceMul, Int.reduceNeg, Int.reduceEq, Int.reduceNe, fx67_0, fx67_1, fx67_2, fx67_5, gs12, gm13]
  refine hKK _ _ (Wk.refl _ _ _) ?_; clear hKK KK
  refine awp_nr [3] (fun _ => rfl) fun tz => ?_
  refine awp_regW fun KK hKK => ?_
  refine xw_id ?_
  try simp only [go_sem, ↓iop_and, ↓iop_or, ↓iop_xor, ↓iop_andn, Nat.reduceEqDiff, reduceIte, Nat.reduceAdd, Nat.reduceMul, Nat.reduceSub, Nat.reduceLT, Nat.reduceLeDiff, fx67_0, fx67_1, fx67_2, fx67_5, gm13]
  refine hKK _ _ (Wk.refl _ _ _) ?_; clear hKK KK
  refine awp_ret1 ?_
  obtain rfl := someInj h0
  refine endW_i ?_
  refine end_ret0 rs47 (rfl) ?_
  refine Res.mk [] [some 0] rfl (resOU List.not_mem_nil (by simp only [upd_get, ↓iop_and, ↓iop_or, ↓iop_xor, ↓iop_andn, Nat.reduceEqDiff, reduceIte, Nat.reduceAdd, Nat.reduceMul, Nat.reduceSub, Nat.reduceLT, Nat.reduceLeDiff, if_true, if_false] <;> rfl) (TmL.of_eq (by first | rfl | (simp only [List.flatMap_append, List.flatMap_cons, List.flatMap_nil, List.map_append, List.map_cons, List.map_nil, List.append_nil, List.nil_append]; done) | (simp only [List.flatMap_append, List.flatMap_cons, List.flatMap_nil, List.map_append, List.map_cons, List.map_nil, List.append_nil, List.nil_append]; rfl)) (vu_clean _)) resO0) (Tm.refL rfl ?_)
  all_goals (first | rfl | (simp only [List.length_take]; omega) | (simp only [List.length_append, List.length_cons, List.length_nil, List.length_modify, List.length_set, Nat.zero_add]; done) | (simp only [List.length_append, List.length_take, List.length_drop, List.length_cons, List.length_nil, List.length_modify, List.length_set, Nat.zero_add]; omega) | (simp only [List.length_append, List.length_take, List.length_drop, List.length_cons, List.length_nil, List.length_modify, List.length_set, Nat.zero_add]; done) | omega)

theorem bitmap_holes_m (a0 : (List Int)) {r : (List Int)} (h0 : bitmap_holes a0 = some r) : SndM K 47 [(S_vi a0)] (fun q => (.ref (q 0) 0 r.length 1)) [(List.map vu r)] :=
 fun hs => Snd.of_newM (RenM.ref 0 0 _ _) (rows_all_cons (vu_clean _) rows_all_nil) (clean_cons (S_vi_clean _) clean_nil) (bitmap_holes_r a0 h0) hs

theorem bitmap_holes_e (a0 : (List Int)) {r : (List Int)} (h0 : bitmap_holes a0 = some r) (fr : Nat) (hs : HS) : SndE K 47 [(S_vi a0)] hs fr ⟨(fun q : Nat → Nat => (.ref (q 0) 0 r.length 1)) fun _ => fr, .new (List.map vu r)⟩ :=
 SndE.of_res (RenM.ref 0 0 _ _) (vu_clean _) (clean_cons (S_vi_clean _) clean_nil) (fun a b h => by simp only [h]) (bitmap_holes_r a0 h0) hs fr

theorem bitmap_holes_p (a0 : (List Int)) {r : (List Int)} (h0 : bitmap_holes a0 = some r) : SndP K 47 [(S_vi a0)] (S_vu r) :=
 SndM.pure (bitmap_holes_m a0 h0) (S_vu_clean _) (clean_cons (S_vi_clean _) clean_nil) (by simp only [go_sem, newL_n, newL_c, upd_get, fz, nilS, cond_true, cond_false, List.drop_zero, List.take_length, List.length_map, ble_self, ↓iop_and, ↓iop_or, ↓iop_xor, ↓iop_andn, Nat.reduceEqDiff, reduceIte, Nat.reduceAdd, Nat.reduceMul, Nat.reduceSub, Nat.reduceLT, Nat.reduceLeDiff] <;> rfl)

end Go.AX.Z.TD

/-! (TDW bitmap EncodeAs) -/

set_option linter.unusedSimpArgs false
set_option linter.unusedVariables false
set_option maxHeartbeats 4000000
set_option maxRecDepth 20000
namespace Go.AX.Z.TD
open Go.AX Go.Proofs
attribute [local irreducible] awp xw xop xcall gsp ob xd xdop xcallD seqQ loopQ blkQ endQ

def bitmap_EncodeAs_S0 (a0 : Traffic) (a1 : Int) (d33 : Int) : AS :=
 { objs := (upd (fun _ => .dead) 0 (.live (e_Traffic a0 (.imm (List.map vi a0.Aids) a0.Aids.length)))), next := 1, tmps := (upd (upd (upd (fun _ => .unk) 1 (vu a1)) 2 (.ptr 0 0)) 7 (vu d33)) }

theorem bitmap_EncodeAs_r (a0 : Traffic) (a1 : Int) {r : ((List Int) × Int)} (h0 : bitmap_EncodeAs a0 a1 = some r) : SndR K 11 [(.agg (E_Traffic a0)), (vu a1)] (fun q => (.tup [(.ref (q 0) 0 r.1.length 1), (vi r.2)])) [(List.map vu r.1)] := by
 refine SndR.of_walkW hC (show K.P.funcs[11]? = some Try.f11 from Try.func11) rfl rfl (by decide +kernel) (Nat.le_of_ble_eq_true rfl) ?_
 unfold bitmap_EncodeAs at h0
 refine awp_nr [0,1] (fun _ => rfl) fun tz => ?_
 refine awp_regW fun KK hKK => ?_
 refine xw_id ?_
 try simp only [go_sem, ↓iop_and, ↓iop_or, ↓iop_xor, ↓iop_andn, Nat.reduceEqDiff, reduceIte, Nat.reduceAdd, Nat.reduceMul, Nat.reduceSub, Nat.reduceLT, Nat.reduceLeDiff]
 refine hKK _ _ (Wk.refl _ _ _) ?_; clear hKK KK
 refine awp_assoc ?_
 refine awp_nr [1,2] (fun _ => rfl) fun tz => ?_
 refine awp_regW fun KK hKK => ?_
 refine xw_id ?_
 obtain ⟨x32, bx32, h0⟩ := bnd h0
 try simp only [go_sem, ↓iop_and, ↓iop_or, ↓iop_xor, ↓iop_andn, Nat.reduceEqDiff, reduceIte, Nat.reduceAdd, Nat.reduceMul, Nat.reduceSub, Nat.reduceLT, Nat.reduceLeDiff]
 refine xcall_p (bitmap_Check_p a0 bx32) ?_; try dsimp only
 try refine xw_id ?_
 try simp only [go_sem, ↓iop_and, ↓iop_or, ↓iop_xor, ↓iop_andn, Nat.reduceEqDiff, reduceIte, Nat.reduceAdd, Nat.reduceMul, Nat.reduceSub, Nat.reduceLT, Nat.reduceLeDiff]
 refine hKK _ _ (Wk.refl _ _ _) ?_; clear hKK KK
 refine awp_assoc ?_
 refine awp_nr [1,2,6] (fun _ => rfl) fun tz => ?_
 refine awp_regW fun KK hKK => ?_
 refine xw_id ?_
 try simp only [go_sem, ↓iop_and, ↓iop_or, ↓iop_xor, ↓iop_andn, Nat.reduceEqDiff, reduceIte, Nat.reduceAdd, Nat.reduceMul, Nat.reduceSub, Nat.reduceLT, Nat.reduceLeDiff]
 refine hKK _ _ (Wk.refl _ _ _) ?_; clear hKK KK
 refine awp_cond (b := (x32 != 0)) rfl (fun h1 => ?_) (fun h1 => ?_)
 ·
  have h0 := cT h0 h1
  refine awp_assoc ?_
  refine awp_nr [6] (fun _ => rfl) fun tz => ?_
  refine awp_regW fun KK hKK => ?_
  refine xw_id ?_
  try simp only [go_sem, ↓iop_and, ↓iop_or, ↓iop_xor, ↓iop_andn, Nat.reduceEqDiff, reduceIte, Nat.reduceAdd, Nat.reduceMul, Nat.reduceSub, Nat.reduceLT, Nat.reduceLeDiff]
  refine hKK _ _ (Wk.refl _ _ _) ?_; clear hKK KK
  refine awp_ret ?_
  obtain rfl := someInj h0
  refine endW_i ?_
  refine end_ret0 rs11 (rfl) ?_
  refine Res.mk [] [none] rfl (resON resO0) (Tm.tup (TmL.cons (Tm.thaw _ _ _) (TmL.cons (Tm.v _) TmL.nil)))
 ·
  have h0 := cF h0 h1
  refine awp_skip ?_
  refine awp_assoc ?_
  refine awp_nr [1,2] (fun _ => rfl) fun tz => ?_
  refine awp_regW fun KK hKK => ?_
  refine xw_id ?_
  try simp only [go_sem, ↓iop_and, ↓iop_or, ↓iop_xor, ↓iop_andn, Nat.reduceEqDiff, reduceIte, Nat.reduceAdd, Nat.reduceMul, Nat.reduceSub, Nat.reduceLT, Nat.reduceLeDiff]
  refine hKK _ _ (Wk.refl _ _ _) ?_; clear hKK KK
  refine awp_cond (b := (decide (3 < a1))) rfl (fun h2 => ?_) (fun h2 => ?_)
  ·
   have h0 := cT h0 h2
   refine awp_assoc ?_
   refine awp_nr [] (fun _ => rfl) fun tz => ?_
   refine awp_regW fun KK hKK => ?_
   refine xw_id ?_
   try simp only [go_sem, ↓iop_and, ↓iop_or, ↓iop_xor, ↓iop_andn, Nat.reduceEqDiff, reduceIte, Nat.reduceAdd, Nat.reduceMul, Nat.reduceSub, Nat.reduceLT, Nat.reduceLeDiff]
   refine hKK _ _ (Wk.refl _ _ _) ?_; clear hKK KK
   refine awp_ret ?_
   obtain rfl := someInj h0
   refine endW_i ?_
   refine end_ret0 rs11 (rfl) ?_
   refine Res.mk [] [none] rfl (resON resO0) (Tm.tup (TmL.cons (Tm.thaw _ _ _) (TmL.cons (Tm.v _) TmL.nil)))
  ·
   have h0 := cF h0 h2
   refine awp_skip ?_
   refine awp_nr [1,2] (fun _ => rfl) fun tz => ?_
   refine awp_regW fun KK hKK => ?_
   refine xw_id ?_
   try simp only [go_sem, ↓iop_and, ↓iop_or, ↓iop_xor, ↓iop_andn, Nat.reduceEqDiff, reduceIte, Nat.reduceAdd, Nat.reduceMul, Nat.reduceSub, Nat.reduceLT, Nat.reduceLeDiff]
   refine hKK _ _ (Wk.refl _ _ _) ?_; clear hKK KK
   refine awp_assoc ?_
   refine awp_nr [1,2,7] (fun _ => rfl) fun tz => ?_
   refine awp_regW fun KK hKK => ?_
   refine xw_id ?_
   try simp only [go_sem, ↓iop_and, ↓iop_or, ↓iop_xor, ↓iop_andn, Nat.reduceEqDiff, reduceIte, Nat.reduceAdd, Nat.reduceMul, Nat.reduceSub, Nat.reduceLT, Nat.reduceLeDiff]
   refine hKK _ _ (Wk.refl _ _ _) ?_; clear hKK KK
   obtain ⟨d33, hi3, h0⟩ := bnd h0
   refine awp_cut (fun z => d33 = z) (fun d33 : Int => bitmap_EncodeAs_S0 a0 a1 d33) ?_ ?_
   ·
    refine awp_cond1 (b := a0.Group) rfl (fun h4 => ?_) (fun h4 => ?_)
    ·
     have hi3 := cT hi3 h4
     refine awp_nr1 [1,2,7] (fun _ => rfl) fun tz => ?_
     refine awp_reg1 fun KK hKK => ?_
     refine xw_id ?_
     try simp only [go_sem, ↓iop_and, ↓iop_or, ↓iop_xor, ↓iop_andn, Nat.reduceEqDiff, reduceIte, Nat.reduceAdd, Nat.reduceMul, Nat.reduceSub, Nat.reduceLT, Nat.reduceLeDiff]
     refine hKK _ ?_; clear hKK KK
     refine sq_n ?_
     obtain rfl := someInj hi3
     exact ⟨_, rfl, (Wk.canonD [] [] [some 0] rfl trivial rfl (tmOU 0 tmO0 rfl List.not_mem_nil (by simp only [upd_get, ↓iop_and, ↓iop_or, ↓iop_xor, ↓iop_andn, Nat.reduceEqDiff, reduceIte, Nat.reduceAdd, Nat.reduceMul, Nat.reduceSub, Nat.reduceLT, Nat.reduceLeDiff, if_true, if_false] <;> rfl) (e_Traffic_tmx (by rfl) (Tm.clean (Clean.imm (vi_clean _))))) (tmAllU 7 (tmAllU 2 (tmAllU 1 tmAll0 (Tm.v _)) (Tm.ptr rfl)) (Tm.v _)))⟩
    ·
     have hi3 := cF hi3 h4
     refine awp_skip1 ?_
     refine sq_n ?_
     obtain rfl := someInj hi3
     exact ⟨_, rfl, (Wk.canonD [] [] [some 0] rfl trivial rfl (tmOU 0 tmO0 rfl List.not_mem_nil (by simp only [upd_get, ↓iop_and, ↓iop_or, ↓iop_xor, ↓iop_andn, Nat.reduceEqDiff, reduceIte, Nat.reduceAdd, Nat.reduceMul, Nat.reduceSub, Nat.reduceLT, Nat.reduceLeDiff, if_true, if_false] <;> rfl) (e_Traffic_tmx (by rfl) (Tm.clean (Clean.imm (vi_clean _))))) (tmAllU 7 (tmAllU 2 (tmAllU 1 tmAll0 (Tm.v _)) (Tm.ptr rfl)) (Tm.v _)))⟩
   ·
    rintro _ rfl
    clear hi3
    unfold bitmap_EncodeAs_S0
    refine awp_nr [1,2,7] (fun _ => rfl) fun tz => ?_
    refine awp_regDW fun KK hKK all hall => ?_
    refine xd_id ?_
    try simp only [List.toList_toArray, List.map_cons, List.map_nil, List.size_toArray, List.length_cons, List.length_nil, Nat.zero_add]
    try simp only [Nat.reduceAdd]
    obtain ⟨x34, bx34, h0⟩ := bnd h0
    simp only [go_sem, ↓iop_and, ↓iop_or, ↓iop_xor, ↓iop_andn, Nat.reduceEqDiff, reduceIte, Nat.reduceMul, Nat.reduceSub, Nat.reduceLT, Nat.reduceLeDiff]
    try simp only [Nat.reduceAdd]
    try simp only [go_sem, ↓iop_and, ↓iop_or, ↓iop_xor, ↓iop_andn, Nat.reduceEqDiff, reduceIte, Nat.reduceMul, Nat.reduceSub, Nat.reduceLT, Nat.reduceLeDiff]
    try simp only [Nat.reduceAdd]
    try simp only [go_sem, ↓iop_and, ↓iop_or, ↓iop_xor, ↓iop_andn, Nat.reduceEqDiff, reduceIte, Nat.reduceMul, Nat.reduceSub, Nat.reduceLT, Nat.reduceLeDiff]
    refine xcallD_p (bitmap_encoders_p  bx34) ?_; try dsimp only
    try refine xd_id ?_
    obtain ⟨x35, bx35, h0⟩ := bnd h0
    have bx35 := chk_some bx35
    simp only [Bool.and_eq_true, decide_eq_true_eq] at bx35
    obtain ⟨gx35_0, gx35_1⟩ := bx35
    rcases Bool.eq_false_or_eq_true (a1 == 0) with h6 | h6
    ·
     have h0 := cT h0 h6
     have h6 := eq_of_beq h6
     have gi5 : (a1).toNat = 0 := by omega
     obtain ⟨x36, bx36, h0⟩ := bnd h0
     simp only [go_sem, ↓iop_and, ↓iop_or, ↓iop_xor, ↓iop_andn, Nat.reduceEqDiff, reduceIte, Nat.reduceMul, Nat.reduceSub, Nat.reduceLT, Nat.reduceLeDiff, Int.reduceToNat, Int.reduceBEq, Int.reduceBNe, Int.reduceLT, Int.reduceLE, Int.reduceAdd, Int.reduceSub, Int.reduceMul, Int.reduceNeg, Int.reduceEq, Int.reduceNe, gx35_0, gx35_1, gi5]
     try simp only [Nat.reduceAdd]
     try simp only [go_sem, ↓iop_and, ↓iop_or, ↓iop_xor, ↓iop_andn, Nat.reduceEqDiff, reduceIte, Nat.reduceMul, Nat.reduceSub, Nat.reduceLT, Nat.reduceLeDiff, Int.reduceToNat, Int.reduceBEq, Int.reduceBNe, Int.reduceLT, Int.reduceLE, Int.reduceAdd, Int.reduceSub, Int.reduceMul, Int.reduceNeg, Int.reduceEq, Int.reduceNe, gx35_0, gx35_1, gi5]
     try simp only [Nat.reduceAdd]
     try simp only [go_sem, ↓iop_and, ↓iop_or, ↓iop_xor, ↓iop_andn, Nat.reduceEqDiff, reduceIte, Nat.reduceMul, Nat.reduceSub, Nat.reduceLT, Nat.reduceLeDiff, Int.reduceToNat, Int.reduceBEq, Int.reduceBNe, Int.reduceLT, Int.reduceLE, Int.reduceAdd, Int.reduceSub, Int.reduceMul, Int.reduceNeg, Int.reduceEq, Int.reduceNe, gx35_0, gx35_1, gi5]
     refine xcallD_E (bitmap_full_e a0.Aids bx36 _) ?_; try dsimp only
     try refine xd_id ?_
     obtain ⟨x37, bx37, h0⟩ := bnd h0
     have bx37 := chk_some bx37
     simp only [Bool.and_eq_true, decide_eq_true_eq] at bx37
     have gx37_0 := bx37
     simp only [go_sem, ↓iop_and, ↓iop_or, ↓iop_xor, ↓iop_andn, Nat.reduceEqDiff, reduceIte, Nat.reduceMul, Nat.reduceSub, Nat.reduceLT, Nat.reduceLeDiff, Int.reduceToNat, Int.reduceBEq, Int.reduceBNe, Int.reduceLT, Int.reduceLE, Int.reduceAdd, Int.reduceSub, Int.reduceMul, Int.reduceNeg, Int.reduceEq, Int.reduceNe, gx35_0, gx35_1, gi5, gx37_0]
     try simp only [Nat.reduceAdd]
     try simp only [go_sem, ↓iop_and, ↓iop_or, ↓iop_xor, ↓iop_andn, Nat.reduceEqDiff, reduceIte, Nat.reduceMul, Nat.reduceSub, Nat.reduceLT, Nat.reduceLeDiff, Int.reduceToNat, Int.reduceBEq, Int.reduceBNe, Int.reduceLT, Int.reduceLE, Int.reduceAdd, Int.reduceSub, Int.reduceMul, Int.reduceNeg, Int.reduceEq, Int.reduceNe, gx35_0, gx35_1, gi5, gx37_0]
     try simp only [Nat.reduceAdd]
     try simp only [go_sem, ↓iop_and, ↓iop_or, ↓iop_xor, ↓iop_andn, Nat.reduceEqDiff, reduceIte, Nat.reduceMul, Nat.reduceSub, Nat.reduceLT, Nat.reduceLeDiff, Int.reduceToNat, Int.reduceBEq, Int.reduceBNe, Int.reduceLT, Int.reduceLE, Int.reduceAdd, Int.reduceSub, Int.reduceMul, Int.reduceNeg, Int.reduceEq, Int.reduceNe, gx35_0, gx35_1, gi5, gx37_0]
     refine And.intro ?_ (hKK _ _ (Wk.refl _ _ _) ?_)
     ·
      subst hall
      clear hKK KK
      first | decide +kernel | (simp [printsOk, apartP, clash, meet]; done) | (simp [printsOk, apartP, clash, meet]; decide +kernel)
     ·
      clear hKK KK hall all
      refine awp_ret1 ?_
      obtain rfl := someInj h0
      refine endW_i ?_
      refine end_ret0 rs11 (rfl) ?_
      refine Res.mk [] [some 9] rfl (resOU List.not_mem_nil (by simp only [upd_get, ↓iop_and, ↓iop_or, ↓iop_xor, ↓iop_andn, Nat.reduceEqDiff, reduceIte, Nat.reduceAdd, Nat.reduceMul, Nat.reduceSub, Nat.reduceLT, Nat.reduceLeDiff, if_true, if_false] <;> rfl) (TmL.of_eq (by first | rfl | (simp only [List.flatMap_append, List.flatMap_cons, List.flatMap_nil, List.map_append, List.map_cons, List.map_nil, List.append_nil, List.nil_append]; done) | (simp only [List.flatMap_append, List.flatMap_cons, List.flatMap_nil, List.map_append, List.map_cons, List.map_nil, List.append_nil, List.nil_append]; rfl)) (vu_clean _)) resO0) (Tm.tup (TmL.cons (Tm.refL rfl ?_) (TmL.cons (Tm.v _) TmL.nil)))
      all_goals (first | rfl | (simp only [List.length_take]; omega) | (simp only [List.length_append, List.length_cons, List.length_nil, List.length_modify, List.length_set, Nat.zero_add]; done) | (simp only [List.length_append, List.length_take, List.length_drop, List.length_cons, List.length_nil, List.length_modify, List.length_set, Nat.zero_add]; omega) | (simp only [List.length_append, List.length_take, List.length_drop, List.length_cons, List.length_nil, List.length_modify, List.length_set, Nat.zero_add]; done) | omega)
    ·
     have h0 := cF h0 h6
     have h6 : ¬ a1 = 0 := by simpa using h6
     rcases Bool.eq_false_or_eq_true (a1 == 1) with h8 | h8
     ·
      have h0 := cT h0 h8
      have h8 := eq_of_beq h8
      have gi7 : (a1).toNat = 1 := by omega
      obtain ⟨x38, bx38, h0⟩ := bnd h0
      simp only [go_sem, ↓iop_and, ↓iop_or, ↓iop_xor, ↓iop_andn, Nat.reduceEqDiff, reduceIte, Nat.reduceMul, Nat.reduceSub, Nat.reduceLT, Nat.reduceLeDiff, Int.reduceToNat, Int.reduceBEq, Int.reduceBNe, Int.reduceLT, Int.reduceLE, Int.reduceAdd, Int.reduceSub, Int.reduceMul, Int.reduceNeg, Int.reduceEq, Int.reduceNe, gx35_0, gx35_1, gi7]
      try simp only [Nat.reduceAdd]
      try simp only [go_sem, ↓iop_and, ↓iop_or, ↓iop_xor, ↓iop_andn, Nat.reduceEqDiff, reduceIte, Nat.reduceMul, Nat.reduceSub, Nat.reduceLT, Nat.reduceLeDiff, Int.reduceToNat, Int.reduceBEq, Int.reduceBNe, Int.reduceLT, Int.reduceLE, Int.reduceAdd, Int.reduceSub, Int.reduceMul, Int.reduceNeg, Int.reduceEq, Int.reduceNe, gx35_0, gx35_1, gi7]
      try simp only [Nat.reduceAdd]
      try simp only [go_sem, ↓iop_and, ↓iop_or, ↓iop_xor, ↓iop_andn, Nat.reduceEqDiff, reduceIte, Nat.reduceMul, Nat.reduceSub, Nat.reduceLT, Nat.reduceLeDiff, Int.reduceToNat, Int.reduceBEq, Int.reduceBNe, Int.reduceLT, Int.reduceLE, Int.reduceAdd, Int.reduceSub, Int.reduceMul, Int.reduceNeg, Int.reduceEq, Int.reduceNe, gx35_0, gx35_1, gi7]
      refine xcallD_E (bitmap_part_e a0.Aids bx38 _) ?_; try dsimp only
      try refine xd_id ?_
      obtain ⟨x39, bx39, h0⟩ := bnd h0
      have bx39 := chk_some bx39
      simp only [Bool.and_eq_true, decide_eq_true_eq] at bx39
      have gx39_0 := bx39
      simp only [go_sem, ↓iop_and, ↓iop_or, ↓iop_xor, ↓iop_andn, Nat.reduceEqDiff, reduceIte, Nat.reduceMul, Nat.reduceSub, Nat.reduceLT, Nat.reduceLeDiff, Int.reduceToNat, Int.reduceBEq, Int.reduceBNe, Int.reduceLT, Int.reduceLE, Int.reduceAdd, Int.reduceSub, Int.reduceMul, Int.reduceNeg, Int.reduceEq, Int.reduceNe, gx35_0, gx35_1, gi7, gx39_0]
      try simp only [Nat.reduceAdd]
      try simp only [go_sem, ↓iop_and, ↓iop_or, ↓iop_xor, ↓iop_andn, Nat.reduceEqDiff, reduceIte, Nat.reduceMul, Nat.reduceSub, Nat.reduceLT, Nat.reduceLeDiff, Int.reduceToNat, Int.reduceBEq, Int.reduceBNe, Int.reduceLT, Int.reduceLE, Int.reduceAdd, Int.reduceSub, Int.reduceMul, Int.reduceNeg, Int.reduceEq, Int.reduceNe, gx35_0, gx35_1, gi7, gx39_0]
      try simp only [Nat.reduceAdd]
      try simp only [go_sem, ↓iop_and, ↓iop_or, ↓iop_xor, ↓iop_andn, Nat.reduceEqDiff, reduceIte, Nat.reduceMul, Nat.reduceSub, Nat.reduceLT, Nat.reduceLeDiff, Int.reduceToNat, Int.reduceBEq, Int.reduceBNe, Int.reduceLT, Int.reduceLE, Int.reduceAdd, Int.reduceSub, Int.reduceMul, Int.reduceNeg, Int.reduceEq, Int.reduceNe, gx35_0, gx35_1, gi7, gx39_0]
      refine And.intro ?_ (hKK _ _ (Wk.refl _ _ _) ?_)
      ·
       subst hall
       clear hKK KK
       first | decide +kernel | (simp [printsOk, apartP, clash, meet]; done) | (simp [printsOk, apartP, clash, meet]; decide +kernel)
      ·
       clear hKK KK hall all
       refine awp_ret1 ?_
       obtain rfl := someInj h0
       refine endW_i ?_
       refine end_ret0 rs11 (rfl) ?_
       refine Res.mk [] [some 9] rfl (resOU List.not_mem_nil (by simp only [upd_get, ↓iop_and, ↓iop_or, ↓iop_xor, ↓iop_andn, Nat.reduceEqDiff, reduceIte, Nat.reduceAdd, Nat.reduceMul, Nat.reduceSub, Nat.reduceLT, Nat.reduceLeDiff, if_true, if_false] <;> rfl) (TmL.of_eq (by first | rfl | (simp only [List.flatMap_append, List.flatMap_cons, List.flatMap_nil, List.map_append, List.map_cons, List.map_nil, List.append_nil, List.nil_append]; done) | (simp only [List.flatMap_append, List.flatMap_cons, List.flatMap_nil, List.map_append, List.map_cons, List.map_nil, List.append_nil, List.nil_append]; rfl)) (vu_clean _)) resO0) (Tm.tup (TmL.cons (Tm.refL rfl ?_) (TmL.cons (Tm.v _) TmL.nil)))
       all_goals (first | rfl | (simp only [List.length_take]; omega) | (simp only [List.length_append, List.length_cons, List.length_nil, List.length_modify, List.length_set, Nat.zero_add]; done) | (simp only [List.length_append, List.length_take, List.length_drop, List.length_cons, List.length_nil, List.length_modify, List.length_set, Nat.zero_add]; omega) | (simp only [List.length_append, List.length_take, List.length_drop, List.length_cons, List.length_nil, List.length_modify, List.length_set, Nat.zero_add]; done) | omega)
     ·
      have h0 := cF h0 h8
      have h8 : ¬ a1 = 1 := by simpa using h8
      rcases Bool.eq_false_or_eq_true (a1 == 2) with h10 | h10
      ·
       have h0 := cT h0 h10
       have h10 := eq_of_beq h10
       have gi9 : (a1).toNat = 2 := by omega
       obtain ⟨x40, bx40, h0⟩ := bnd h0
       simp only [go_sem, ↓iop_and, ↓iop_or, ↓iop_xor, ↓iop_andn, Nat.reduceEqDiff, reduceIte, Nat.reduceMul, Nat.reduceSub, Nat.reduceLT, Nat.reduceLeDiff, Int.reduceToNat, Int.reduceBEq, Int.reduceBNe, Int.reduceLT, Int.reduceLE, Int.reduceAdd, Int.reduceSub, Int.reduceMul, Int.reduceNeg, Int.reduceEq, Int.reduceNe, gx35_0, gx35_1, gi9]
       try simp only [Nat.reduceAdd]
       try simp only [go_sem, ↓iop_and, ↓iop_or, ↓iop_xor, ↓iop_andn, Nat.reduceEqDiff, reduceIte, Nat.reduceMul, Nat.reduceSub, Nat.reduceLT, Nat.reduceLeDiff, Int.reduceToNat, Int.reduceBEq, Int.reduceBNe, Int.reduceLT, Int.reduceLE, Int.reduceAdd, Int.reduceSub, Int.reduceMul, Int.reduceNeg, Int.reduceEq, Int.reduceNe, gx35_0, gx35_1, gi9]
       try simp only [Nat.reduceAdd]
       try simp only [go_sem, ↓iop_and, ↓iop_or, ↓iop_xor, ↓iop_andn, Nat.reduceEqDiff, reduceIte, Nat.reduceMul, Nat.reduceSub, Nat.reduceLT, Nat.reduceLeDiff, Int.reduceToNat, Int.reduceBEq, Int.reduceBNe, Int.reduceLT, Int.reduceLE, Int.reduceAdd, Int.reduceSub, Int.reduceMul, Int.reduceNeg, Int.reduceEq, Int.reduceNe, gx35_0, gx35_1, gi9]
       refine xcallD_E (bitmap_list_e a0.Aids bx40 _) ?_; try dsimp only
       try refine xd_id ?_
       obtain ⟨x41, bx41, h0⟩ := bnd h0
       have bx41 := chk_some bx41
       simp only [Bool.and_eq_true, decide_eq_true_eq] at bx41
       have gx41_0 := bx41
       simp only [go_sem, ↓iop_and, ↓iop_or, ↓iop_xor, ↓iop_andn, Nat.reduceEqDiff, reduceIte, Nat.reduceMul, Nat.reduceSub, Nat.reduceLT, Nat.reduceLeDiff, Int.reduceToNat, Int.reduceBEq, Int.reduceBNe, Int.reduceLT, Int.reduceLE, Int.reduceAdd, Int.reduceSub, Int.reduceMul, Int.reduceNeg, Int.reduceEq, Int.reduceNe, gx35_0, gx35_1, gi9, gx41_0]
       try simp only [Nat.reduceAdd]
       try simp only [go_sem, ↓iop_and, ↓iop_or, ↓iop_xor, ↓iop_andn, Nat.reduceEqDiff, reduceIte, Nat.reduceMul, Nat.reduceSub, Nat.reduceLT, Nat.reduceLeDiff, Int.reduceToNat, Int.reduceBEq, Int.reduceBNe, Int.reduceLT, Int.reduceLE, Int.reduceAdd, Int.reduceSub, Int.reduceMul, Int.reduceNeg, Int.reduceEq, Int.reduceNe, gx35_0, gx35_1, gi9, gx41_0]
       try simp only [Nat.reduceAdd]
       try simp only [go_sem, ↓iop_and, ↓iop_or, ↓iop_xor, ↓iop_andn, Nat.reduceEqDiff, reduceIte, Nat.reduceMul, Nat.reduceSub, Nat.reduceLT, Nat.reduceLeDiff, Int.reduceToNat, Int.reduceBEq, Int.reduceBNe, Int.reduceLT, Int.reduceLE, Int.reduceAdd, Int.reduceSub, Int.reduceMul, Int.reduceNeg, Int.reduceEq, Int.reduceNe, gx35_0, gx35_1, gi9, gx41_0]
       refine And.intro ?_ (hKK _ _ (Wk.refl _ _ _) ?_)
       ·
        subst hall
        clear hKK KK
        first | decide +kernel | (simp [printsOk, apartP, clash, meet]; done) | (simp [printsOk, apartP, clash, meet]; decide +kernel)
       ·
        clear hKK KK hall all
        refine awp_ret1 ?_
        obtain rfl := someInj h0
        refine endW_i ?_
        refine end_ret0 rs11 (rfl) ?_
        refine Res.mk [] [some 9] rfl (resOU List.not_mem_nil (by simp only [upd_get, ↓iop_and, ↓iop_or, ↓iop_xor, ↓iop_andn, Nat.reduceEqDiff, reduceIte, Nat.reduceAdd, Nat.reduceMul, Nat.reduceSub, Nat.reduceLT, Nat.reduceLeDiff, if_true, if_false] <;> rfl) (TmL.of_eq (by first | rfl | (simp only [List.flatMap_append, List.flatMap_cons, List.flatMap_nil, List.map_append, List.map_cons, List.map_nil, List.append_nil, List.nil_append]; done) | (simp only [List.flatMap_append, List.flatMap_cons, List.flatMap_nil, List.map_append, List.map_cons, List.map_nil, List.append_nil, List.nil_append]; rfl)) (vu_clean _)) resO0) (Tm.tup (TmL.cons (Tm.refL rfl ?_) (TmL.cons (Tm.v _) TmL.nil)))
        all_goals (first | rfl | (simp only [List.length_take]; omega) | (simp only [List.length_append, List.length_cons, List.length_nil, List.length_modify, List.length_set, Nat.zero_add]; done) | (simp only [List.length_append, List.length_take, List.length_drop, List.length_cons, List.length_nil, List.length_modify, List.length_set, Nat.zero_add]; omega) | (simp only [List.length_append, List.length_take, List.length_drop, List.length_cons, List.length_nil, List.length_modify, List.length_set, Nat.zero_add]; done) | omega)
      ·
       have h0 := cF h0 h10
       have h10 : ¬ a1 = 2 := by simpa using h10
       have gi11 : (a1).toNat = 3 := by omega
       obtain ⟨x42, bx42, h0⟩ := bnd h0
       simp only [go_sem, ↓iop_and, ↓iop_or, ↓iop_xor, ↓iop_andn, Nat.reduceEqDiff, reduceIte, Nat.reduceMul, Nat.reduceSub, Nat.reduceLT, Nat.reduceLeDiff, Int.reduceToNat, Int.reduceBEq, Int.reduceBNe, Int.reduceLT, Int.reduceLE, Int.reduceAdd, Int.reduceSub, Int.reduceMul, Int.reduceNeg, Int.reduceEq, Int.reduceNe, gx35_0, gx35_1, gi11]
       try simp only [Nat.reduceAdd]
       try simp only [go_sem, ↓iop_and, ↓iop_or, ↓iop_xor, ↓iop_andn, Nat.reduceEqDiff, reduceIte, Nat.reduceMul, Nat.reduceSub, Nat.reduceLT, Nat.reduceLeDiff, Int.reduceToNat, Int.reduceBEq, Int.reduceBNe, Int.reduceLT, Int.reduceLE, Int.reduceAdd, Int.reduceSub, Int.reduceMul, Int.reduceNeg, Int.reduceEq, Int.reduceNe, gx35_0, gx35_1, gi11]
       try simp only [Nat.reduceAdd]
       try simp only [go_sem, ↓iop_and, ↓iop_or, ↓iop_xor, ↓iop_andn, Nat.reduceEqDiff, reduceIte, Nat.reduceMul, Nat.reduceSub, Nat.reduceLT, Nat.reduceLeDiff, Int.reduceToNat, Int.reduceBEq, Int.reduceBNe, Int.reduceLT, Int.reduceLE, Int.reduceAdd, Int.reduceSub, Int.reduceMul, Int.reduceNeg, Int.reduceEq, Int.reduceNe, gx35_0, gx35_1, gi11]
       refine xcallD_E (bitmap_holes_e a0.Aids bx42 _) ?_; try dsimp only
       try refine xd_id ?_
       obtain ⟨x43, bx43, h0⟩ := bnd h0
       have bx43 := chk_some bx43
       simp only [Bool.and_eq_true, decide_eq_true_eq] at bx43
       have gx43_0 := bx43
       simp only [go_sem, ↓iop_and, ↓iop_or, ↓iop_xor, ↓iop_andn, Nat.reduceEqDiff, reduceIte, Nat.reduceMul, Nat.reduceSub, Nat.reduceLT, Nat.reduceLeDiff, Int.reduceToNat, Int.reduceBEq, Int.reduceBNe, Int.reduceLT, Int.reduceLE, Int.reduceAdd, Int.reduceSub, Int.reduceMul, Int.reduceNeg, Int.reduceEq, Int.reduceNe, gx35_0, gx35_1, gi11, gx43_0]
       try simp only [Nat.reduceAdd]
       try simp only [go_sem, ↓iop_and, ↓iop_or, ↓iop_xor, ↓iop_andn, Nat.reduceEqDiff, reduceIte, Nat.reduceMul, Nat.reduceSub, Nat.reduceLT, Nat.reduceLeDiff, Int.reduceToNat, Int.reduceBEq, Int.reduceBNe, Int.reduceLT, Int.reduceLE, Int.reduceAdd, Int.reduceSub, Int.reduceMul, Int.reduceNeg, Int.reduceEq, Int.reduceNe, gx35_0, gx35_1, gi11, gx43_0]
       try simp only [Nat.reduceAdd]
       try simp only [go_sem, ↓iop_and, ↓iop_or, ↓iop_xor, ↓iop_andn, Nat.reduceEqDiff, reduceIte, Nat.reduceMul, Nat.reduceSub, Nat.reduceLT, Nat.reduceLeDiff, Int.reduceToNat, Int.reduceBEq, Int.reduceBNe, Int.reduceLT, Int.reduceLE, Int.reduceAdd, Int.reduceSub, Int.reduceMul, Int.reduceNeg, Int.reduceEq, Int.reduceNe, gx35_0, gx35_1, gi11, gx43_0]
       refine And.intro ?_ (hKK _ _ (Wk.refl _ _ _) ?_)
       ·
        subst hall
        clear hKK KK
        first | decide +kernel | (simp [printsOk, apartP, clash, meet]; done) | (simp [printsOk, apartP, clash, meet]; decide +kernel)
       ·
        clear hKK KK hall all
        refine awp_ret1 ?_
        obtain rfl := someInj h0
        refine endW_i ?_
        refine end_ret0 rs11 (rfl) ?_
        refine Res.mk [] [some 9] rfl (resOU List.not_mem_nil (by simp only [upd_get, ↓iop_and, ↓iop_or, ↓iop_xor, ↓iop_andn, Nat.reduceEqDiff, reduceIte, Nat.reduceAdd, Nat.reduceMul, Nat.reduceSub, Nat.reduceLT, Nat.reduceLeDiff, if_true, if_false] <;> rfl) (TmL.of_eq (by first | rfl | (simp only [List.flatMap_append, List.flatMap_cons, List.flatMap_nil, List.map_append, List.map_cons, List.map_nil, List.append_nil, List.nil_append]; done) | (simp only [List.flatMap_append, List.flatMap_cons, List.flatMap_nil, List.map_append, List.map_cons, List.map_nil, List.append_nil, List.nil_append]; rfl)) (vu_clean _)) resO0) (Tm.tup (TmL.cons (Tm.refL rfl ?_) (TmL.cons (Tm.v _) TmL.nil)))
        all_goals (first | rfl | (simp only [List.length_take]; omega) | (simp only [List.length_append, List.length_cons, List.length_nil, List.length_modify, List.length_set, Nat.zero_add]; done) | (simp only [List.length_append, List.length_take, List.length_drop, List.length_cons, List.length_nil, List.length_modify, List.length_set, Nat.zero_add]; omega) | (simp only [List.length_append, List.length_take, List.length_drop, List.length_cons, List.length_nil, List.length_modify, List.length_set, Nat.zero_add]; done) | omega)

theorem bitmap_EncodeAs_m (a0 : Traffic) (a1 : Int) {r : ((List Int) × Int)} (h0 : bitmap_EncodeAs a0 a1 = some r) : SndM K 11 [(.agg (E_Traffic a0)), (vu a1)] (fun q => (.tup [(.ref (q 0) 0 r.1.length 1), (vi r.2)])) [(List.map vu r.1)] :=
 fun hs => Snd.of_newM (RenM.tup (RenML.cons (RenM.ref 0 0 _ _) (RenML.cons (RenM.const (Clean.v _)) RenML.nil))) (rows_all_cons (vu_clean _) rows_all_nil) (clean_cons (Clean.agg (E_Traffic_clean _)) (clean_cons (Clean.v _) clean_nil)) (bitmap_EncodeAs_r a0 a1 h0) hs

theorem bitmap_EncodeAs_e (a0 : Traffic) (a1 : Int) {r : ((List Int) × Int)} (h0 : bitmap_EncodeAs a0 a1 = some r) (fr : Nat) (hs : HS) : SndE K 11 [(.agg (E_Traffic a0)), (vu a1)] hs fr ⟨(fun q : Nat → Nat => (.tup [(.ref (q 0) 0 r.1.length 1), (vi r.2)])) fun _ => fr, .new (List.map vu r.1)⟩ :=
 SndE.of_res (RenM.tup (RenML.cons (RenM.ref 0 0 _ _) (RenML.cons (RenM.const (Clean.v _)) RenML.nil))) (vu_clean _) (clean_cons (Clean.agg (E_Traffic_clean _)) (clean_cons (Clean.v _) clean_nil)) (fun a b h => by simp only [h]) (bitmap_EncodeAs_r a0 a1 h0) hs fr

theorem bitmap_EncodeAs_p (a0 : Traffic) (a1 : Int) {r : ((List Int) × Int)} (h0 : bitmap_EncodeAs a0 a1 = some r) : SndP K 11 [(.agg (E_Traffic a0)), (vu a1)] (.tup [(S_vu r.1), (vi r.2)]) :=
 SndM.pure (bitmap_EncodeAs_m a0 a1 h0) (Clean.tup (clean_cons (S_vu_clean _) (clean_cons (Clean.v _) clean_nil))) (clean_cons (Clean.agg (E_Traffic_clean _)) (clean_cons (Clean.v _) clean_nil)) (by simp only [go_sem, newL_n, newL_c, upd_get, fz, nilS, cond_true, cond_false, List.drop_zero, List.take_length, List.length_map, ble_self, ↓iop_and, ↓iop_or, ↓iop_xor, ↓iop_andn, Nat.reduceEqDiff, reduceIte, Nat.reduceAdd, Nat.reduceMul, Nat.reduceSub, Nat.reduceLT, Nat.reduceLeDiff] <;> rfl)

end Go.AX.Z.TD

/-! (TDW bitmap need) -/

set_option linter.unusedSimpArgs false
set_option linter.unusedVariables false
set_option maxHeartbeats 4000000
set_option maxRecDepth 20000
namespace Go.AX.Z.TD
open Go.AX Go.Proofs
attribute [local irreducible] awp xw xop xcall gsp ob xd xdop xcallD seqQ loopQ blkQ endQ


theorem bitmap_need_p (a0 : (List Int)) {r : Int} (h0 : bitmap_need a0 = some r) : SndP K 31 [(S_vu a0)] (vi r) := by
 refine SndP.of_walkW hC (Clean.v _) (clean_cons (S_vu_clean _) clean_nil) (show K.P.funcs[31]? = some Try.f31 from Try.func31) rfl rfl (by decide +kernel) (Nat.le_of_ble_eq_true rfl) ?_
 unfold bitmap_need at h0
 refine awp_nr [0] (fun _ => rfl) fun tz => ?_
 refine awp_regW fun KK hKK => ?_
 refine xw_id ?_
 try simp only [go_sem, ↓iop_and, ↓iop_or, ↓iop_xor, ↓iop_andn, Nat.reduceEqDiff, reduceIte, Nat.reduceAdd, Nat.reduceMul, Nat.reduceSub, Nat.reduceLT, Nat.reduceLeDiff]
 refine hKK _ _ (Wk.refl _ _ _) ?_; clear hKK KK
 refine awp_nr [0] (fun _ => rfl) fun tz => ?_
 refine awp_regW fun KK hKK => ?_
 refine xw_id ?_
 obtain ⟨x3, bx3, h0⟩ := bnd h0
 obtain ⟨fx3_0, fx3_1, fx3_2, fx3_3⟩ := idx_some bx3
 simp only [Int.reduceToNat] at fx3_2 fx3_3
 obtain ⟨x4, bx4, h0⟩ := bnd h0
 have bx4 := chk_some bx4
 simp only [Bool.and_eq_true, decide_eq_true_eq] at bx4
 obtain ⟨gx4_0, gx4_1⟩ := bx4
 rcases Bool.eq_false_or_eq_true (bandn .u8 x3 128 == 0) with h2 | h2
 ·
  have h0 := cT h0 h2
  have h2 := eq_of_beq h2
  have gi1 : (bandn .u8 x3 128).toNat = 0 := by omega
  try simp only [go_sem, ↓iop_and, ↓iop_or, ↓iop_xor, ↓iop_andn, Nat.reduceEqDiff, reduceIte, Nat.reduceAdd, Nat.reduceMul, Nat.reduceSub, Nat.reduceLT, Nat.reduceLeDiff, Int.reduceToNat, Int.reduceBEq, Int.reduceBNe, Int.reduceLT, Int.reduceLE, Int.reduceAdd, Int.reduceSub, Int.reduceMul, Int.reduceNeg, Int.reduceEq, Int.reduceNe, fx3_0, fx3_1, fx3_2, gx4_0, gx4_1, gi1]
  refine hKK _ _ (Wk.refl _ _ _) ?_; clear hKK KK
  refine awp_assoc ?_
  refine awp_nr [0,3] (fun _ => rfl) fun tz => ?_
  refine awp_regW fun KK hKK => ?_
  refine xw_id ?_
  refine xw_stop 5 (by (try simp only [go_sem]); rfl) (by (try simp only [go_sem]); rfl) (by rfl) fun K1 hK1 => ?_
  refine xw_id ?_
  try simp only [go_sem, ↓iop_and, ↓iop_or, ↓iop_xor, ↓iop_andn, Nat.reduceEqDiff, reduceIte, Nat.reduceAdd, Nat.reduceMul, Nat.reduceSub, Nat.reduceLT, Nat.reduceLeDiff, Int.reduceToNat, Int.reduceBEq, Int.reduceBNe, Int.reduceLT, Int.reduceLE, Int.reduceAdd, Int.reduceSub, Int.reduceMul, Int.reduceNeg, Int.reduceEq, Int.reduceNe, fx3_0, fx3_1, fx3_2]
  refine hK1 _ ?_; clear hK1 K1
  refine xw_cut 6 [(0, (.imm (List.map vu a0) a0.length)), (3, (vi 33)), (20, (vb ((decide ((a0.length : Int) < 33)) || ((bandn .u8 x3 128) == 0))))] (by (try simp only [go_sem]); rfl) (by (try simp only [go_sem]); rfl) (by rfl) (fun K1 hK1 => ?_) fun tz => ?_
  ·
   refine xw_id ?_
   rcases Bool.eq_false_or_eq_true (decide ((a0.length : Int) < 33)) with h3 | h3
   ·
    try simp only [go_sem, ↓iop_and, ↓iop_or, ↓iop_xor, ↓iop_andn, Nat.reduceEqDiff, reduceIte, Nat.reduceAdd, Nat.reduceMul, Nat.reduceSub, Nat.reduceLT, Nat.reduceLeDiff, Int.reduceToNat, Int.reduceBEq, Int.reduceBNe, Int.reduceLT, Int.reduceLE, Int.reduceAdd, Int.reduceSub, Int.reduceMul, Int.reduceNeg, Int.reduceEq, Int.reduceNe, fx3_0, fx3_1, fx3_2, h3]
    exact hK1 _ ⟨rfl, rfl, rfl, (by first | rfl | (rw [h3]; rfl) | (simp only [h3, Bool.true_and, Bool.false_and, Bool.true_or, Bool.false_or, cond_true, cond_false]; done)), trivial⟩
   ·
    try simp only [go_sem, ↓iop_and, ↓iop_or, ↓iop_xor, ↓iop_andn, Nat.reduceEqDiff, reduceIte, Nat.reduceAdd, Nat.reduceMul, Nat.reduceSub, Nat.reduceLT, Nat.reduceLeDiff, Int.reduceToNat, Int.reduceBEq, Int.reduceBNe, Int.reduceLT, Int.reduceLE, Int.reduceAdd, Int.reduceSub, Int.reduceMul, Int.reduceNeg, Int.reduceEq, Int.reduceNe, fx3_0, fx3_1, fx3_2, h3]
    exact hK1 _ ⟨rfl, rfl, rfl, (by first | rfl | (rw [h3]; rfl) | (simp only [h3, Bool.true_and, Bool.false_and, Bool.true_or, Bool.false_or, cond_true, cond_false]; done)), trivial⟩
  ·
   refine xw_id ?_
   try simp only [go_sem, ↓iop_and, ↓iop_or, ↓iop_xor, ↓iop_andn, Nat.reduceEqDiff, reduceIte, Nat.reduceAdd, Nat.reduceMul, Nat.reduceSub, Nat.reduceLT, Nat.reduceLeDiff, Int.reduceToNat, Int.reduceBEq, Int.reduceBNe, Int.reduceLT, Int.reduceLE, Int.reduceAdd, Int.reduceSub, Int.reduceMul, Int.reduceNeg, Int.reduceEq, Int.reduceNe, fx3_0, fx3_1, fx3_2]
   refine hKK _ _ (Wk.refl _ _ _) ?_; clear hKK KK
   refine awp_cond (b := ((decide ((a0.length : Int) < 33)) || ((bandn .u8 x3 128) == 0))) rfl (fun h4 => ?_) (fun h4 => ?_)
   ·
    have h0 := cT h0 h4
    refine awp_assoc ?_
    refine awp_nr [3] (fun _ => rfl) fun tz => ?_
    refine awp_regW fun KK hKK => ?_
    refine xw_id ?_
    try simp only [go_sem, ↓iop_and, ↓iop_or, ↓iop_xor, ↓iop_andn, Nat.reduceEqDiff, reduceIte, Nat.reduceAdd, Nat.reduceMul, Nat.reduceSub, Nat.reduceLT, Nat.reduceLeDiff, fx3_0, fx3_1, fx3_2]
    refine hKK _ _ (Wk.refl _ _ _) ?_; clear hKK KK
    refine awp_ret ?_
    obtain rfl := someInj h0
    refine endW_i ?_
    refine end_ret0 rs31 (rfl) ?_
    try simp only [go_sem, ↓iop_and, ↓iop_or, ↓iop_xor, ↓iop_andn, Nat.reduceEqDiff, reduceIte, Nat.reduceAdd, Nat.reduceMul, Nat.reduceSub, Nat.reduceLT, Nat.reduceLeDiff, fz, nilS, packR, List.take_nil, List.take_length, List.length_map, List.length_append, cond_true, cond_false, Nat.ble_eq, ble_self]
    all_goals first | rfl | (simp only [go_sem, ↓iop_and, ↓iop_or, ↓iop_xor, ↓iop_andn, Nat.reduceEqDiff, reduceIte, Nat.reduceAdd, Nat.reduceMul, Nat.reduceSub, Nat.reduceLT, Nat.reduceLeDiff, fz, nilS, packR, List.take_nil, List.take_length, List.length_map, List.length_append, cond_true, cond_false, Nat.ble_eq, ble_self, List.map_append] <;> rfl)
   ·
    have h0 := cF h0 h4
    refine awp_skip ?_
    refine awp_nr [0,3] (fun _ => rfl) fun tz => ?_
    refine awp_regW fun KK hKK => ?_
    refine xw_id ?_
    obtain ⟨x5, bx5, h0⟩ := bnd h0
    obtain ⟨fx5_0, fx5_1, fx5_2, fx5_3⟩ := idx_some bx5
    try simp only [go_sem, ↓iop_and, ↓iop_or, ↓iop_xor, ↓iop_andn, Nat.reduceEqDiff, reduceIte, Nat.reduceAdd, Nat.reduceMul, Nat.reduceSub, Nat.reduceLT, Nat.reduceLeDiff, Int.reduceToNat, Int.reduceBEq, Int.reduceBNe, Int.reduceLT, Int.reduceLE, Int.reduceAdd, Int.reduceSub, Int.reduceMul, Int.reduceNeg, Int.reduceEq, Int.reduceNe, fx3_0, fx3_1, fx3_2, fx5_0, fx5_1, fx5_2]
    refine hKK _ _ (Wk.refl _ _ _) ?_; clear hKK KK
    refine awp_ret1 ?_
    obtain rfl := someInj h0
    refine endW_i ?_
    refine end_ret0 rs31 (rfl) ?_
    try simp only [go_sem, ↓iop_and, ↓iop_or, ↓iop_xor, ↓iop_andn, Nat.reduceEqDiff, reduceIte, Nat.reduceAdd, Nat.reduceMul, Nat.reduceSub, Nat.reduceLT, Nat.reduceLeDiff, fz, nilS, packR, List.take_nil, List.take_length, List.length_map, List.length_append, cond_true, cond_false, Nat.ble_eq, ble_self]
    all_goals first | rfl | (simp only [go_sem, ↓iop_and, ↓iop_or, ↓iop_xor, ↓iop_andn, Nat.reduceEqDiff, reduceIte, Nat.reduceAdd, Nat.reduceMul, Nat.reduceSub, Nat.reduceLT, Nat.reduceLeDiff, fz, nilS, packR, List.take_nil, List.take_length, List.length_map, List.length_append, cond_true, cond_false, Nat.ble_eq, ble_self, List.map_append] <;> rfl)
 ·
  have h0 := cF h0 h2
  have h2 : ¬ bandn .u8 x3 128 = 0 := by simpa using h2
  rcases Bool.eq_false_or_eq_true (bandn .u8 x3 128 == 1) with h6 | h6
  ·
   have h0 := cT h0 h6
   have h6 := eq_of_beq h6
   have gi5 : (bandn .u8 x3 128).toNat = 1 := by omega
   try simp only [go_sem, ↓iop_and, ↓iop_or, ↓iop_xor, ↓iop_andn, Nat.reduceEqDiff, reduceIte, Nat.reduceAdd, Nat.reduceMul, Nat.reduceSub, Nat.reduceLT, Nat.reduceLeDiff, Int.reduceToNat, Int.reduceBEq, Int.reduceBNe, Int.reduceLT, Int.reduceLE, Int.reduceAdd, Int.reduceSub, Int.reduceMul, Int.reduceNeg, Int.reduceEq, Int.reduceNe, fx3_0, fx3_1, fx3_2, gx4_0, gx4_1, gi5]
   refine hKK _ _ (Wk.refl _ _ _) ?_; clear hKK KK
   refine awp_assoc ?_
   refine awp_nr [0,3] (fun _ => rfl) fun tz => ?_
   refine awp_regW fun KK hKK => ?_
   refine xw_id ?_
   refine xw_stop 5 (by (try simp only [go_sem]); rfl) (by (try simp only [go_sem]); rfl) (by rfl) fun K1 hK1 => ?_
   refine xw_id ?_
   try simp only [go_sem, ↓iop_and, ↓iop_or, ↓iop_xor, ↓iop_andn, Nat.reduceEqDiff, reduceIte, Nat.reduceAdd, Nat.reduceMul, Nat.reduceSub, Nat.reduceLT, Nat.reduceLeDiff, Int.reduceToNat, Int.reduceBEq, Int.reduceBNe, Int.reduceLT, Int.reduceLE, Int.reduceAdd, Int.reduceSub, Int.reduceMul, Int.reduceNeg, Int.reduceEq, Int.reduceNe, fx3_0, fx3_1, fx3_2]
   refine hK1 _ ?_; clear hK1 K1
   refine xw_cut 6 [(0, (.imm (List.map vu a0) a0.length)), (3, (vi 3)), (20, (vb ((decide ((a0.length : Int) < 3)) || ((bandn .u8 x3 128) == 0))))] (by (try simp only [go_sem]); rfl) (by (try simp only [go_sem]); rfl) (by rfl) (fun K1 hK1 => ?_) fun tz => ?_
   ·
    refine xw_id ?_
    rcases Bool.eq_false_or_eq_true (decide ((a0.length : Int) < 3)) with h7 | h7
    ·
     try simp only [go_sem, ↓iop_and, ↓iop_or, ↓iop_xor, ↓iop_andn, Nat.reduceEqDiff, reduceIte, Nat.reduceAdd, Nat.reduceMul, Nat.reduceSub, Nat.reduceLT, Nat.reduceLeDiff, Int.reduceToNat, Int.reduceBEq, Int.reduceBNe, Int.reduceLT, Int.reduceLE, Int.reduceAdd, Int.reduceSub, Int.reduceMul, Int.reduceNeg, Int.reduceEq, Int.reduceNe, fx3_0, fx3_1, fx3_2, h7]
     exact hK1 _ ⟨rfl, rfl, rfl, (by first | rfl | (rw [h7]; rfl) | (simp only [h7, Bool.true_and, Bool.false_and, Bool.true_or, Bool.false_or, cond_true, cond_false]; done)), trivial⟩
    ·
     try simp only [go_sem, ↓iop_and, ↓iop_or, ↓iop_xor, ↓iop_andn, Nat.reduceEqDiff, reduceIte, Nat.reduceAdd, Nat.reduceMul, Nat.reduceSub, Nat.reduceLT, Nat.reduceLeDiff, Int.reduceToNat, Int.reduceBEq, Int.reduceBNe, Int.reduceLT, Int.reduceLE, Int.reduceAdd, Int.reduceSub, Int.reduceMul, Int.reduceNeg, Int.reduceEq, Int.reduceNe, fx3_0, fx3_1, fx3_2, h7]
     exact hK1 _ ⟨rfl, rfl, rfl, (by first | rfl | (rw [h7]; rfl) | (simp only [h7, Bool.true_and, Bool.false_and, Bool.true_or, Bool.false_or, cond_true, cond_false]; done)), trivial⟩
   ·
    refine xw_id ?_
    try simp only [go_sem, ↓iop_and, ↓iop_or, ↓iop_xor, ↓iop_andn, Nat.reduceEqDiff, reduceIte, Nat.reduceAdd, Nat.reduceMul, Nat.reduceSub, Nat.reduceLT, Nat.reduceLeDiff, Int.reduceToNat, Int.reduceBEq, Int.reduceBNe, Int.reduceLT, Int.reduceLE, Int.reduceAdd, Int.reduceSub, Int.reduceMul, Int.reduceNeg, Int.reduceEq, Int.reduceNe, fx3_0, fx3_1, fx3_2]
    refine hKK _ _ (Wk.refl _ _ _) ?_; clear hKK KK
    refine awp_cond (b := ((decide ((a0.length : Int) < 3)) || ((bandn .u8 x3 128) == 0))) rfl (fun h8 => ?_) (fun h8 => ?_)
    ·
     have h0 := cT h0 h8
     refine awp_assoc ?_
     refine awp_nr [3] (fun _ => rfl) fun tz => ?_
     refine awp_regW fun KK hKK => ?_
     refine xw_id ?_
     try simp only [go_sem, ↓iop_and, ↓iop_or, ↓iop_xor, ↓iop_andn, Nat.reduceEqDiff, reduceIte, Nat.reduceAdd, Nat.reduceMul, Nat.reduceSub, Nat.reduceLT, Nat.reduceLeDiff, fx3_0, fx3_1, fx3_2]
     refine hKK _ _ (Wk.refl _ _ _) ?_; clear hKK KK
     refine awp_ret ?_
     obtain rfl := someInj h0
     refine endW_i ?_
     refine end_ret0 rs31 (rfl) ?_
     try simp only [go_sem, ↓iop_and, ↓iop_or, ↓iop_xor, ↓iop_andn, Nat.reduceEqDiff, reduceIte, Nat.reduceAdd, Nat.reduceMul, Nat.reduceSub, Nat.reduceLT, Nat.reduceLeDiff, fz, nilS, packR, List.take_nil, List.take_length, List.length_map, List.length_append, cond_true, cond_false, Nat.ble_eq, ble_self]
     all_goals first | rfl | (simp only [go_sem, ↓iop_and, ↓iop_or, ↓iop_xor, ↓iop_andn, Nat.reduceEqDiff, reduceIte, Nat.reduceAdd, Nat.reduceMul, Nat.reduceSub, Nat.reduceLT, Nat.reduceLeDiff, fz, nilS, packR, List.take_nil, List.take_length, List.length_map, List.length_append, cond_true, cond_false, Nat.ble_eq, ble_self, List.map_append] <;> rfl)
    ·
     have h0 := cF h0 h8
     refine awp_skip ?_
     refine awp_nr [0,3] (fun _ => rfl) fun tz => ?_
     refine awp_regW fun KK hKK => ?_
     refine xw_id ?_
     obtain ⟨x6, bx6, h0⟩ := bnd h0
     obtain ⟨fx6_0, fx6_1, fx6_2, fx6_3⟩ := idx_some bx6
     try simp only [go_sem, ↓iop_and, ↓iop_or, ↓iop_xor, ↓iop_andn, Nat.reduceEqDiff, reduceIte, Nat.reduceAdd, Nat.reduceMul, Nat.reduceSub, Nat.reduceLT, Nat.reduceLeDiff, Int.reduceToNat, Int.reduceBEq, Int.reduceBNe, Int.reduceLT, Int.reduceLE, Int.reduceAdd, Int.reduceSub, Int.reduceMul, Int.reduceNeg, Int.reduceEq, Int.reduceNe, fx3_0, fx3_1, fx3_2, fx6_0, fx6_1, fx6_2]
     refine hKK _ _ (Wk.refl _ _ _) ?_; clear hKK KK
     refine awp_ret1 ?_
     obtain rfl := someInj h0
     refine endW_i ?_
     refine end_ret0 rs31 (rfl) ?_
     try simp only [go_sem, ↓iop_and, ↓iop_or, ↓iop_xor, ↓iop_andn, Nat.reduceEqDiff, reduceIte, Nat.reduceAdd, Nat.reduceMul, Nat.reduceSub, Nat.reduceLT, Nat.reduceLeDiff, fz, nilS, packR, List.take_nil, List.take_length, List.length_map, List.length_append, cond_true, cond_false, Nat.ble_eq, ble_self]
     all_goals first | rfl | (simp only [go_sem, ↓iop_and, ↓iop_or, ↓iop_xor, ↓iop_andn, Nat.reduceEqDiff, reduceIte, Nat.reduceAdd, Nat.reduceMul, Nat.reduceSub, Nat.reduceLT, Nat.reduceLeDiff, fz, nilS, packR, List.take_nil, List.take_length, List.length_map, List.length_append, cond_true, cond_false, Nat.ble_eq, ble_self, List.map_append] <;> rfl)
  ·
   have h0 := cF h0 h6
   have h6 : ¬ bandn .u8 x3 128 = 1 := by simpa using h6
   rcases Bool.eq_false_or_eq_true (bandn .u8 x3 128 == 2) with h10 | h10
   ·
    have h0 := cT h0 h10
    have h10 := eq_of_beq h10
    have gi9 : (bandn .u8 x3 128).toNat = 2 := by omega
    try simp only [go_sem, ↓iop_and, ↓iop_or, ↓iop_xor, ↓iop_andn, Nat.reduceEqDiff, reduceIte, Nat.reduceAdd, Nat.reduceMul, Nat.reduceSub, Nat.reduceLT, Nat.reduceLeDiff, Int.reduceToNat, Int.reduceBEq, Int.reduceBNe, Int.reduceLT, Int.reduceLE, Int.reduceAdd, Int.reduceSub, Int.reduceMul, Int.reduceNeg, Int.reduceEq, Int.reduceNe, fx3_0, fx3_1, fx3_2, gx4_0, gx4_1, gi9]
    refine hKK _ _ (Wk.refl _ _ _) ?_; clear hKK KK
    refine awp_assoc ?_
    refine awp_nr [0,3] (fun _ => rfl) fun tz => ?_
    refine awp_regW fun KK hKK => ?_
    refine xw_id ?_
    refine xw_stop 5 (by (try simp only [go_sem]); rfl) (by (try simp only [go_sem]); rfl) (by rfl) fun K1 hK1 => ?_
    refine xw_id ?_
    try simp only [go_sem, ↓iop_and, ↓iop_or, ↓iop_xor, ↓iop_andn, Nat.reduceEqDiff, reduceIte, Nat.reduceAdd, Nat.reduceMul, Nat.reduceSub, Nat.reduceLT, Nat.reduceLeDiff, Int.reduceToNat, Int.reduceBEq, Int.reduceBNe, Int.reduceLT, Int.reduceLE, Int.reduceAdd, Int.reduceSub, Int.reduceMul, Int.reduceNeg, Int.reduceEq, Int.reduceNe, fx3_0, fx3_1, fx3_2]
    refine hK1 _ ?_; clear hK1 K1
    refine xw_cut 6 [(0, (.imm (List.map vu a0) a0.length)), (3, (vi 2)), (20, (vb ((decide ((a0.length : Int) < 2)) || ((bandn .u8 x3 128) == 0))))] (by (try simp only [go_sem]); rfl) (by (try simp only [go_sem]); rfl) (by rfl) (fun K1 hK1 => ?_) fun tz => ?_
    ·
     refine xw_id ?_
     rcases Bool.eq_false_or_eq_true (decide ((a0.length : Int) < 2)) with h11 | h11
     ·
      try simp only [go_sem, ↓iop_and, ↓iop_or, ↓iop_xor, ↓iop_andn, Nat.reduceEqDiff, reduceIte, Nat.reduceAdd, Nat.reduceMul, Nat.reduceSub, Nat.reduceLT, Nat.reduceLeDiff, Int.reduceToNat, Int.reduceBEq, Int.reduceBNe, Int.reduceLT, Int.reduceLE, Int.reduceAdd, Int.reduceSub, Int.reduceMul, Int.reduceNeg, Int.reduceEq, Int.reduceNe, fx3_0, fx3_1, fx3_2, h11]
      exact hK1 _ ⟨rfl, rfl, rfl, (by first | rfl | (rw [h11]; rfl) | (simp only [h11, Bool.true_and, Bool.false_and, Bool.true_or, Bool.false_or, cond_true, cond_false]; done)), trivial⟩
     ·
      try simp only [go_sem, ↓iop_and, ↓iop_or, ↓iop_xor, ↓iop_andn, Nat.reduceEqDiff, reduceIte, Nat.reduceAdd, Nat.reduceMul, Nat.reduceSub, Nat.reduceLT, Nat.reduceLeDiff, Int.reduceToNat, Int.reduceBEq, Int.reduceBNe, Int.reduceLT, Int.reduceLE, Int.reduceAdd, Int.reduceSub, Int.reduceMul, Int.reduceNeg, Int.reduceEq, Int.reduceNe, fx3_0, fx3_1, fx3_2, h11]
      exact hK1 _ ⟨rfl, rfl, rfl, (by first | rfl | (rw [h11]; rfl) | (simp only [h11, Bool.true_and, Bool.false_and, Bool.true_or, Bool.false_or, cond_true, cond_false]; done)), trivial⟩
    ·
     refine xw_id ?_
     try simp only [go_sem, ↓iop_and, ↓iop_or, ↓iop_xor, ↓iop_andn, Nat.reduceEqDiff, reduceIte, Nat.reduceAdd, Nat.reduceMul, Nat.reduceSub, Nat.reduceLT, Nat.reduceLeDiff, Int.reduceToNat, Int.reduceBEq, Int.reduceBNe, Int.reduceLT, Int.reduceLE, Int.reduceAdd, Int.reduceSub, Int.reduceMul, Int.reduceNeg, Int.reduceEq, Int.reduceNe, fx3_0, fx3_1, fx3_2]
     refine hKK _ _ (Wk.refl _ _ _) ?_; clear hKK KK
     refine awp_cond (b := ((decide ((a0.length : Int) < 2)) || ((bandn .u8 x3 128) == 0))) rfl (fun h12 => ?_) (fun h12 => ?_)
     ·
      have h0 := cT h0 h12
      refine awp_assoc ?_
      refine awp_nr [3] (fun _ => rfl) fun tz => ?_
      refine awp_regW fun KK hKK => ?_
      refine xw_id ?_
      try simp only [go_sem, ↓iop_and, ↓iop_or, ↓iop_xor, ↓iop_andn, Nat.reduceEqDiff, reduceIte, Nat.reduceAdd, Nat.reduceMul, Nat.reduceSub, Nat.reduceLT, Nat.reduceLeDiff, fx3_0, fx3_1, fx3_2]
      refine hKK _ _ (Wk.refl _ _ _) ?_; clear hKK KK
      refine awp_ret ?_
      obtain rfl := someInj h0
      refine endW_i ?_
      refine end_ret0 rs31 (rfl) ?_
      try simp only [go_sem, ↓iop_and, ↓iop_or, ↓iop_xor, ↓iop_andn, Nat.reduceEqDiff, reduceIte, Nat.reduceAdd, Nat.reduceMul, Nat.reduceSub, Nat.reduceLT, Nat.reduceLeDiff, fz, nilS, packR, List.take_nil, List.take_length, List.length_map, List.length_append, cond_true, cond_false, Nat.ble_eq, ble_self]
      all_goals first | rfl | (simp only [go_sem, ↓iop_and, ↓iop_or, ↓iop_xor, ↓iop_andn, Nat.reduceEqDiff, reduceIte, Nat.reduceAdd, Nat.reduceMul, Nat.reduceSub, Nat.reduceLT, Nat.reduceLeDiff, fz, nilS, packR, List.take_nil, List.take_length, List.length_map, List.length_append, cond_true, cond_false, Nat.ble_eq, ble_self, List.map_append] <;> rfl)
     ·
      have h0 := cF h0 h12
      refine awp_skip ?_
      refine awp_nr [0,3] (fun _ => rfl) fun tz => ?_
      refine awp_regW fun KK hKK => ?_
      refine xw_id ?_
      obtain ⟨x7, bx7, h0⟩ := bnd h0
      obtain ⟨fx7_0, fx7_1, fx7_2, fx7_3⟩ := idx_some bx7
      try simp only [go_sem, ↓iop_and, ↓iop_or, ↓iop_xor, ↓iop_andn, Nat.reduceEqDiff, reduceIte, Nat.reduceAdd, Nat.reduceMul, Nat.reduceSub, Nat.reduceLT, Nat.reduceLeDiff, Int.reduceToNat, Int.reduceBEq, Int.reduceBNe, Int.reduceLT, Int.reduceLE, Int.reduceAdd, Int.reduceSub, Int.reduceMul, Int.reduceNeg, Int.reduceEq, Int.reduceNe, fx3_0, fx3_1, fx3_2, fx7_0, fx7_1, fx7_2]
      refine hKK _ _ (Wk.refl _ _ _) ?_; clear hKK KK
      refine awp_ret1 ?_
      obtain rfl := someInj h0
      refine endW_i ?_
      refine end_ret0 rs31 (rfl) ?_
      try simp only [go_sem, ↓iop_and, ↓iop_or, ↓iop_xor, ↓iop_andn, Nat.reduceEqDiff, reduceIte, Nat.reduceAdd, Nat.reduceMul, Nat.reduceSub, Nat.reduceLT, Nat.reduceLeDiff, fz, nilS, packR, List.take_nil, List.take_length, List.length_map, List.length_append, cond_true, cond_false, Nat.ble_eq, ble_self]
      all_goals first | rfl | (simp only [go_sem, ↓iop_and, ↓iop_or, ↓iop_xor, ↓iop_andn, Nat.reduceEqDiff, reduceIte, Nat.reduceAdd, Nat.reduceMul, Nat.reduceSub, Nat.reduceLT, Nat.reduceLeDiff, fz, nilS, packR, List.take_nil, List.take_length, List.length_map, List.length_append, cond_true, cond_false, Nat.ble_eq, ble_self, List.map_append] <;> rfl)
   ·
    have h0 := cF h0 h10
    have h10 : ¬ bandn .u8 x3 128 = 2 := by simpa using h10
    have gi13 : (bandn .u8 x3 128).toNat = 3 := by omega
    try simp only [go_sem, ↓iop_and, ↓iop_or, ↓iop_xor, ↓iop_andn, Nat.reduceEqDiff, reduceIte, Nat.reduceAdd, Nat.reduceMul, Nat.reduceSub, Nat.reduceLT, Nat.reduceLeDiff, Int.reduceToNat, Int.reduceBEq, Int.reduceBNe, Int.reduceLT, Int.reduceLE, Int.reduceAdd, Int.reduceSub, Int.reduceMul, Int.reduceNeg, Int.reduceEq, Int.reduceNe, fx3_0, fx3_1, fx3_2, gx4_0, gx4_1, gi13]
    refine hKK _ _ (Wk.refl _ _ _) ?_; clear hKK KK
    refine awp_assoc ?_
    refine awp_nr [0,3] (fun _ => rfl) fun tz => ?_
    refine awp_regW fun KK hKK => ?_
    refine xw_id ?_
    refine xw_stop 5 (by (try simp only [go_sem]); rfl) (by (try simp only [go_sem]); rfl) (by rfl) fun K1 hK1 => ?_
    refine xw_id ?_
    try simp only [go_sem, ↓iop_and, ↓iop_or, ↓iop_xor, ↓iop_andn, Nat.reduceEqDiff, reduceIte, Nat.reduceAdd, Nat.reduceMul, Nat.reduceSub, Nat.reduceLT, Nat.reduceLeDiff, Int.reduceToNat, Int.reduceBEq, Int.reduceBNe, Int.reduceLT, Int.reduceLE, Int.reduceAdd, Int.reduceSub, Int.reduceMul, Int.reduceNeg, Int.reduceEq, Int.reduceNe, fx3_0, fx3_1, fx3_2]
    refine hK1 _ ?_; clear hK1 K1
    refine xw_cut 6 [(0, (.imm (List.map vu a0) a0.length)), (3, (vi 3)), (20, (vb ((decide ((a0.length : Int) < 3)) || ((bandn .u8 x3 128) == 0))))] (by (try simp only [go_sem]); rfl) (by (try simp only [go_sem]); rfl) (by rfl) (fun K1 hK1 => ?_) fun tz => ?_
    ·
     refine xw_id ?_
     rcases Bool.eq_false_or_eq_true (decide ((a0.length : Int) < 3)) with h14 | h14
     ·
      try simp only [go_sem, ↓iop_and, ↓iop_or, ↓iop_xor, ↓iop_andn, Nat.reduceEqDiff, reduceIte, Nat.reduceAdd, Nat.reduceMul, Nat.reduceSub, Nat.reduceLT, Nat.reduceLeDiff, Int.reduceToNat, Int.reduceBEq, Int.reduceBNe, Int.reduceLT, Int.reduceLE, Int.reduceAdd, Int.reduceSub, Int.reduceMul, Int.reduceNeg, Int.reduceEq, Int.reduceNe, fx3_0, fx3_1, fx3_2, h14]
      exact hK1 _ ⟨rfl, rfl, rfl, (by first | rfl | (rw [h14]; rfl) | (simp only [h14, Bool.true_and, Bool.false_and, Bool.true_or, Bool.false_or, cond_true, cond_false]; done)), trivial⟩
     ·
      try simp only [go_sem, ↓iop_and, ↓iop_or, ↓iop_xor, ↓iop_andn, Nat.reduceEqDiff, reduceIte, Nat.reduceAdd, Nat.reduceMul, Nat.reduceSub, Nat.reduceLT, Nat.reduceLeDiff, Int.reduceToNat, Int.reduceBEq, Int.reduceBNe, Int.reduceLT, Int.reduceLE, Int.reduceAdd, Int.reduceSub, Int.reduceMul, Int.reduceNeg, Int.reduceEq, Int.reduceNe, fx3_0, fx3_1, fx3_2, h14]
      exact hK1 _ ⟨rfl, rfl, rfl, (by first | rfl | (rw [h14]; rfl) | (simp only [h14, Bool.true_and, Bool.false_and, Bool.true_or, Bool.false_or, cond_true, cond_false]; done)), trivial⟩
    ·
     refine xw_id ?_
     try simp only [go_sem, ↓iop_and, ↓iop_or, ↓iop_xor, ↓iop_andn, Nat.reduceEqDiff, reduceIte, Nat.reduceAdd, Nat.reduceMul, Nat.reduceSub, Nat.reduceLT, Nat.reduceLeDiff, Int.reduceToNat, Int.reduceBEq, Int.reduceBNe, Int.reduceLT, Int.reduceLE, Int.reduceAdd, Int.reduceSub, Int.reduceMul, Int.reduceNeg, Int.reduceEq, Int.reduceNe, fx3_0, fx3_1, fx3_2]
     refine hKK _ _ (Wk.refl _ _ _) ?_; clear hKK KK
     refine awp_cond (b := ((decide ((a0.length : Int) < 3)) || ((bandn .u8 x3 128) == 0))) rfl (fun h15 => ?_) (fun h15 => ?_)
     ·
      have h0 := cT h0 h15
      refine awp_assoc ?_
      refine awp_nr [3] (fun _ => rfl) fun tz => ?_
      refine awp_regW fun KK hKK => ?_
      refine xw_id ?_
      try simp only [go_sem, ↓iop_and, ↓iop_or, ↓iop_xor, ↓iop_andn, Nat.reduceEqDiff, reduceIte, Nat.reduceAdd, Nat.reduceMul, Nat.reduceSub, Nat.reduceLT, Nat.reduceLeDiff, fx3_0, fx3_1, fx3_2]
      refine hKK _ _ (Wk.refl _ _ _) ?_; clear hKK KK
      refine awp_ret ?_
      obtain rfl := someInj h0
      refine endW_i ?_
      refine end_ret0 rs31 (rfl) ?_
      try simp only [go_sem, ↓iop_and, ↓iop_or, ↓iop_xor, ↓iop_andn, Nat.reduceEqDiff, reduceIte, Nat.reduceAdd, Nat.reduceMul, Nat.reduceSub, Nat.reduceLT, Nat.reduceLeDiff, fz, nilS, packR, List.take_nil, List.take_length, List.length_map, List.length_append, cond_true, cond_false, Nat.ble_eq, ble_self]
      all_goals first | rfl | (simp only [go_sem, ↓iop_and, ↓iop_or, ↓iop_xor, ↓iop_andn, Nat.reduceEqDiff, reduceIte, Nat.reduceAdd, Nat.reduceMul, Nat.reduceSub, Nat.reduceLT, Nat.reduceLeDiff, fz, nilS, packR, List.take_nil, List.take_length, List.length_map, List.length_append, cond_true, cond_false, Nat.ble_eq, ble_self, List.map_append] <;> rfl)
     ·
      have h0 := cF h0 h15
      refine awp_skip ?_
      refine awp_nr [0,3] (fun _ => rfl) fun tz => ?_
      refine awp_regW fun KK hKK => ?_
      refine xw_id ?_
      obtain ⟨x8, bx8, h0⟩ := bnd h0
      obtain ⟨fx8_0, fx8_1, fx8_2, fx8_3⟩ := idx_some bx8
      try simp only [go_sem, ↓iop_and, ↓iop_or, ↓iop_xor, ↓iop_andn, Nat.reduceEqDiff, reduceIte, Nat.reduceAdd, Nat.reduceMul, Nat.reduceSub, Nat.reduceLT, Nat.reduceLeDiff, Int.reduceToNat, Int.reduceBEq, Int.reduceBNe, Int.reduceLT, Int.reduceLE, Int.reduceAdd, Int.reduceSub, Int.reduceMul, Int.reduceNeg, Int.reduceEq, Int.reduceNe, fx3_0, fx3_1, fx3_2, fx8_0, fx8_1, fx8_2]
      refine hKK _ _ (Wk.refl _ _ _) ?_; clear hKK KK
      refine awp_ret1 ?_
      obtain rfl := someInj h0
      refine endW_i ?_
      refine end_ret0 rs31 (rfl) ?_
      try simp only [go_sem, ↓iop_and, ↓iop_or, ↓iop_xor, ↓iop_andn, Nat.reduceEqDiff, reduceIte, Nat.reduceAdd, Nat.reduceMul, Nat.reduceSub, Nat.reduceLT, Nat.reduceLeDiff, fz, nilS, packR, List.take_nil, List.take_length, List.length_map, List.length_append, cond_true, cond_false, Nat.ble_eq, ble_self]
      all_goals first | rfl | (simp only [go_sem, ↓iop_and, ↓iop_or, ↓iop_xor, ↓iop_andn, Nat.reduceEqDiff, reduceIte, Nat.reduceAdd, Nat.reduceMul, Nat.reduceSub, Nat.reduceLT, Nat.reduceLeDiff, fz, nilS, packR, List.take_nil, List.take_length, List.length_map, List.length_append, cond_true, cond_false, Nat.ble_eq, ble_self, List.map_append] <;> rfl)

end Go.AX.Z.TD

/-! (TDW slices Index byte byte) -/

set_option linter.unusedSimpArgs false
set_option linter.unusedVariables false
set_option maxHeartbeats 4000000
set_option maxRecDepth 20000
namespace Go.AX.Z.TD
open Go.AX Go.Proofs
attribute [local irreducible] awp xw xop xcall gsp ob xd xdop xcallD seqQ loopQ blkQ endQ

def slices_Index_byte_byte_S0 (d25 : Unit) : AS :=
 { objs := (fun _ => .dead), next := 0, tmps := (fun _ => .unk) }

def slices_Index_byte_byte_S1 (a0 : (List Int)) (a1 : Int) (d27 : Int) : AS :=
 { objs := (fun _ => .dead), next := 0, tmps := (upd (upd (upd (upd (fun _ => .unk) 0 (.imm (List.map vu a0) a0.length)) 1 (vu a1)) 7 (vi (a0.length : Int))) 8 (vi d27)) }

theorem slices_Index_byte_byte_p (a0 : (List Int)) (a1 : Int) {r : Int} (h0 : slices_Index_byte_byte a0 a1 = some r) : SndP K 56 [(S_vu a0), (vu a1)] (vi r) := by
 refine SndP.of_walkW hC (Clean.v _) (clean_cons (S_vu_clean _) (clean_cons (Clean.v _) clean_nil)) (show K.P.funcs[56]? = some Try.f56 from Try.func56) rfl rfl (by decide +kernel) (Nat.le_of_ble_eq_true rfl) ?_
 unfold slices_Index_byte_byte at h0
 refine awp_nr [0,1] (fun _ => rfl) fun tz => ?_
 refine awp_regW fun KK hKK => ?_
 refine xw_id ?_
 try simp only [go_sem, ↓iop_and, ↓iop_or, ↓iop_xor, ↓iop_andn, Nat.reduceEqDiff, reduceIte, Nat.reduceAdd, Nat.reduceMul, Nat.reduceSub, Nat.reduceLT, Nat.reduceLeDiff]
 refine hKK _ _ (Wk.refl _ _ _) ?_; clear hKK KK
 refine awp_assoc ?_
 refine awp_nr [0,1] (fun _ => rfl) fun tz => ?_
 refine awp_regW fun KK hKK => ?_
 refine xw_id ?_
 try simp only [go_sem, ↓iop_and, ↓iop_or, ↓iop_xor, ↓iop_andn, Nat.reduceEqDiff, reduceIte, Nat.reduceAdd, Nat.reduceMul, Nat.reduceSub, Nat.reduceLT, Nat.reduceLeDiff, Int.reduceToNat, Int.reduceBEq, Int.reduceBNe, Int.reduceLT, Int.reduceLE, Int.reduceAdd, Int.reduceSub, Int.reduceMul, Int.reduceNeg, Int.reduceEq, Int.reduceNe]
 refine hKK _ _ (Wk.refl _ _ _) ?_; clear hKK KK
 obtain ⟨o26, hi1, h0⟩ := bnd h0
 refine awp_cut (fun d25 : Unit => o26 = Ex.go d25) (fun d25 : Unit => slices_Index_byte_byte_S0 d25) ?_ ?_
 ·
  refine awp_block1 ?_
  refine awp_loopS (fun n (d27 : Int) => slices_Index_byte_byte_L2 a0 a1 n d27 = some o26) (fun d27 : Int => slices_Index_byte_byte_S1 a0 a1 d27) big 0 (Wk.canonD [] [] [] rfl trivial rfl tmO0 (tmAllU 8 (tmAllU 7 (tmAllU 1 (tmAllU 0 tmAll0 (Tm.clean (Clean.imm (vu_clean _)))) (Tm.v _)) (Tm.v _)) (Tm.v _))) hi1 ?_
  clear hi1
  rintro n d27 hl3
  rcases n with _ | n2
  ·
   (rw [slices_Index_byte_byte_L2] at hl3; cases hl3)
  ·
   rw [slices_Index_byte_byte_L2] at hl3
   unfold slices_Index_byte_byte_S1
   refine awp_nr [0,1,7,8] (fun _ => rfl) fun tz => ?_
   refine awp_regW fun KK hKK => ?_
   refine xw_id ?_
   try simp only [go_sem, ↓iop_and, ↓iop_or, ↓iop_xor, ↓iop_andn, Nat.reduceEqDiff, reduceIte, Nat.reduceAdd, Nat.reduceMul, Nat.reduceSub, Nat.reduceLT, Nat.reduceLeDiff]
   refine hKK _ _ (Wk.refl _ _ _) ?_; clear hKK KK
   refine awp_cond (b := (decide (d27 < (a0.length : Int)))) rfl (fun h4 => ?_) (fun h4 => ?_)
   ·
    have hl3 := cT hl3 h4
    refine awp_skip ?_
    refine awp_blockW ?_
    refine awp_nr [0,1,7,8] (fun _ => rfl) fun tz => ?_
    refine awp_regW fun KK hKK => ?_
    refine xw_id ?_
    try simp only [go_sem, ↓iop_and, ↓iop_or, ↓iop_xor, ↓iop_andn, Nat.reduceEqDiff, reduceIte, Nat.reduceAdd, Nat.reduceMul, Nat.reduceSub, Nat.reduceLT, Nat.reduceLeDiff]
    refine hKK _ _ (Wk.refl _ _ _) ?_; clear hKK KK
    refine awp_nr [0,1,5,7,8] (fun _ => rfl) fun tz => ?_
    refine awp_regW fun KK hKK => ?_
    refine xw_id ?_
    obtain ⟨x28, bx28, hl3⟩ := bnd hl3
    obtain ⟨fx28_0, fx28_1, fx28_2, fx28_3⟩ := idx_some bx28
    try simp only [go_sem, ↓iop_and, ↓iop_or, ↓iop_xor, ↓iop_andn, Nat.reduceEqDiff, reduceIte, Nat.reduceAdd, Nat.reduceMul, Nat.reduceSub, Nat.reduceLT, Nat.reduceLeDiff, fx28_0, fx28_1, fx28_2]
    refine hKK _ _ (Wk.refl _ _ _) ?_; clear hKK KK
    refine awp_cond1 (b := (a1 == x28)) rfl (fun h5 => ?_) (fun h5 => ?_)
    ·
     have hl3 := cT hl3 h5
     refine awp_nr [5] (fun _ => rfl) fun tz => ?_
     refine awp_regW fun KK hKK => ?_
     refine xw_id ?_
     try simp only [go_sem, ↓iop_and, ↓iop_or, ↓iop_xor, ↓iop_andn, Nat.reduceEqDiff, reduceIte, Nat.reduceAdd, Nat.reduceMul, Nat.reduceSub, Nat.reduceLT, Nat.reduceLeDiff, fx28_0, fx28_1, fx28_2]
     refine hKK _ _ (Wk.refl _ _ _) ?_; clear hKK KK
     refine awp_ret1 ?_
     refine bq_r ?_
     refine sq_r ?_
     refine lq_r ?_
     refine bq_r ?_
     refine sq_r ?_
     obtain rfl := someInj hl3
     obtain rfl := Ex.k_ret h0
     refine endW_i ?_
     refine end_ret0 rs56 (rfl) ?_
     try simp only [go_sem, ↓iop_and, ↓iop_or, ↓iop_xor, ↓iop_andn, Nat.reduceEqDiff, reduceIte, Nat.reduceAdd, Nat.reduceMul, Nat.reduceSub, Nat.reduceLT, Nat.reduceLeDiff, fz, nilS, packR, List.take_nil, List.take_length, List.length_map, List.length_append, cond_true, cond_false, Nat.ble_eq, ble_self]
     all_goals first | rfl | (simp only [go_sem, ↓iop_and, ↓iop_or, ↓iop_xor, ↓iop_andn, Nat.reduceEqDiff, reduceIte, Nat.reduceAdd, Nat.reduceMul, Nat.reduceSub, Nat.reduceLT, Nat.reduceLeDiff, fz, nilS, packR, List.take_nil, List.take_length, List.length_map, List.length_append, cond_true, cond_false, Nat.ble_eq, ble_self, List.map_append] <;> rfl)
    ·
     have hl3 := cF hl3 h5
     refine awp_skip1 ?_
     refine bq_n ?_
     refine seqW_i ?_
     refine awp_nr1 [0,1,7,8] (fun _ => rfl) fun tz => ?_
     refine awp_reg1 fun KK hKK => ?_
     refine xw_id ?_
     try simp only [go_sem, ↓iop_and, ↓iop_or, ↓iop_xor, ↓iop_andn, Nat.reduceEqDiff, reduceIte, Nat.reduceAdd, Nat.reduceMul, Nat.reduceSub, Nat.reduceLT, Nat.reduceLeDiff, fx28_0, fx28_1, fx28_2]
     refine hKK _ ?_; clear hKK KK
     refine lq_n ?_
     exact ⟨n2, IntKind.wrap .i64 (d27 + 1), rfl, hl3, (Wk.canonD [] [] [] rfl trivial rfl tmO0 (tmAllU 8 (tmAllU 7 (tmAllU 1 (tmAllU 0 tmAll0 (Tm.clean (Clean.imm (vu_clean _)))) (Tm.v _)) (Tm.v _)) (Tm.v _)))⟩
   ·
    have hl3 := cF hl3 h4
    refine awp_exit ?_
    refine lq_e ?_
    refine bq_e ?_
    refine sq_n ?_
    obtain rfl := someInj hl3
    exact ⟨_, rfl, (Wk.canonD [] [] [] rfl trivial rfl tmO0 tmAll0)⟩
 ·
  rintro d25 rfl
  have h0 := Ex.k_go h0
  clear hi1
  unfold slices_Index_byte_byte_S0
  refine awp_nr [] (fun _ => rfl) fun tz => ?_
  refine awp_regW fun KK hKK => ?_
  refine xw_id ?_
  try simp only [go_sem, ↓iop_and, ↓iop_or, ↓iop_xor, ↓iop_andn, Nat.reduceEqDiff, reduceIte, Nat.reduceAdd, Nat.reduceMul, Nat.reduceSub, Nat.reduceLT, Nat.reduceLeDiff]
  refine hKK _ _ (Wk.refl _ _ _) ?_; clear hKK KK
  refine awp_ret1 ?_
  obtain rfl := someInj h0
  refine endW_i ?_
  refine end_ret0 rs56 (rfl) ?_
  try simp only [go_sem, ↓iop_and, ↓iop_or, ↓iop_xor, ↓iop_andn, Nat.reduceEqDiff, reduceIte, Nat.reduceAdd, Nat.reduceMul, Nat.reduceSub, Nat.reduceLT, Nat.reduceLeDiff, fz, nilS, packR, List.take_nil, List.take_length, List.length_map, List.length_append, cond_true, cond_false, Nat.ble_eq, ble_self]
  all_goals first | rfl | (simp only [go_sem, ↓iop_and, ↓iop_or, ↓iop_xor, ↓iop_andn, Nat.reduceEqDiff, reduceIte, Nat.reduceAdd, Nat.reduceMul, Nat.reduceSub, Nat.reduceLT, Nat.reduceLeDiff, fz, nilS, packR, List.take_nil, List.take_length, List.length_map, List.length_append, cond_true, cond_false, Nat.ble_eq, ble_self, List.map_append] <;> rfl)

end Go.AX.Z.TD

/-! (TDW slices Contains byte byte) -/

set_option linter.unusedSimpArgs false
set_option linter.unusedVariables false
set_option maxHeartbeats 4000000
set_option maxRecDepth 20000
namespace Go.AX.Z.TD
open Go.AX Go.Proofs
attribute [local irreducible] awp xw xop xcall gsp ob xd xdop xcallD seqQ loopQ blkQ endQ


theorem slices_Contains_byte_byte_p (a0 : (List Int)) (a1 : Int) {r : Bool} (h0 : slices_Contains_byte_byte a0 a1 = some r) : SndP K 48 [(S_vu a0), (vu a1)] (vb r) := by
 refine SndP.of_walkW hC (Clean.v _) (clean_cons (S_vu_clean _) (clean_cons (Clean.v _) clean_nil)) (show K.P.funcs[48]? = some Try.f48 from Try.func48) rfl rfl (by decide +kernel) (Nat.le_of_ble_eq_true rfl) ?_
 unfold slices_Contains_byte_byte at h0
 refine awp_nr [0,1] (fun _ => rfl) fun tz => ?_
 refine awp_regW fun KK hKK => ?_
 refine xw_id ?_
 try simp only [go_sem, ↓iop_and, ↓iop_or, ↓iop_xor, ↓iop_andn, Nat.reduceEqDiff, reduceIte, Nat.reduceAdd, Nat.reduceMul, Nat.reduceSub, Nat.reduceLT, Nat.reduceLeDiff]
 refine hKK _ _ (Wk.refl _ _ _) ?_; clear hKK KK
 refine awp_nr [0,1] (fun _ => rfl) fun tz => ?_
 refine awp_regW fun KK hKK => ?_
 refine xw_id ?_
 obtain ⟨x25, bx25, h0⟩ := bnd h0
 try simp only [go_sem, ↓iop_and, ↓iop_or, ↓iop_xor, ↓iop_andn, Nat.reduceEqDiff, reduceIte, Nat.reduceAdd, Nat.reduceMul, Nat.reduceSub, Nat.reduceLT, Nat.reduceLeDiff]
 refine xcall_p (slices_Index_byte_byte_p a0 a1 bx25) ?_; try dsimp only
 try refine xw_id ?_
 try simp only [go_sem, ↓iop_and, ↓iop_or, ↓iop_xor, ↓iop_andn, Nat.reduceEqDiff, reduceIte, Nat.reduceAdd, Nat.reduceMul, Nat.reduceSub, Nat.reduceLT, Nat.reduceLeDiff]
 refine hKK _ _ (Wk.refl _ _ _) ?_; clear hKK KK
 refine awp_ret1 ?_
 obtain rfl := someInj h0
 refine endW_i ?_
 refine end_ret0 rs48 (rfl) ?_
 try simp only [go_sem, ↓iop_and, ↓iop_or, ↓iop_xor, ↓iop_andn, Nat.reduceEqDiff, reduceIte, Nat.reduceAdd, Nat.reduceMul, Nat.reduceSub, Nat.reduceLT, Nat.reduceLeDiff, fz, nilS, packR, List.take_nil, List.take_length, List.length_map, List.length_append, cond_true, cond_false, Nat.ble_eq, ble_self]
 all_goals first | rfl | (simp only [go_sem, ↓iop_and, ↓iop_or, ↓iop_xor, ↓iop_andn, Nat.reduceEqDiff, reduceIte, Nat.reduceAdd, Nat.reduceMul, Nat.reduceSub, Nat.reduceLT, Nat.reduceLeDiff, fz, nilS, packR, List.take_nil, List.take_length, List.length_map, List.length_append, cond_true, cond_false, Nat.ble_eq, ble_self, List.map_append] <;> rfl)

end Go.AX.Z.TD

/-! (TDW bitmap read) -/

set_option linter.unusedSimpArgs false
set_option linter.unusedVariables false
set_option maxHeartbeats 4000000
set_option maxRecDepth 20000
namespace Go.AX.Z.TD
open Go.AX Go.Proofs
attribute [local irreducible] awp xw xop xcall gsp ob xd xdop xcallD seqQ loopQ blkQ endQ

def bitmap_read_S0 (d11 : (List Int)) : AS :=
 { objs := (upd (upd (fun _ => .dead) 0 (.live [vnil])) 1 (.live (List.map vu d11))), next := 2, tmps := (upd (upd (fun _ => .unk) 2 (.ptr 0 0)) 3 (.ptr 1 0)) }

def bitmap_read_S1 (d18 : (List Int)) : AS :=
 { objs := (upd (upd (fun _ => .dead) 0 (.live [vnil])) 1 (.live (List.map vu d18))), next := 2, tmps := (upd (upd (fun _ => .unk) 2 (.ptr 0 0)) 3 (.ptr 1 0)) }

def bitmap_read_S2 (a0 : (List Int)) (d19 : (List Int × Int)) : AS :=
 { objs := (upd (upd (fun _ => .dead) 0 (.live [vnil])) 1 (.live (List.map vu d19.1))), next := 2, tmps := (upd (upd (upd (upd (upd (fun _ => .unk) 2 (.ptr 0 0)) 3 (.ptr 1 0)) 58 (.imm (List.map vu (List.drop 2 a0)) (List.drop 2 a0).length)) 59 (vi ((List.drop 2 a0).length : Int))) 60 (vi d19.2)) }

def bitmap_read_S4 (d23 : (List Int)) : AS :=
 { objs := (upd (upd (fun _ => .dead) 0 (.live [vnil])) 1 (.live (List.map vu d23))), next := 2, tmps := (upd (upd (fun _ => .unk) 2 (.ptr 0 0)) 3 (.ptr 1 0)) }

def bitmap_read_S5 (a0 : (List Int)) (d24 : (List Int × Int)) : AS :=
 { objs := (upd (upd (fun _ => .dead) 0 (.live [vnil])) 1 (.live (List.map vu d24.1))), next := 2, tmps := (upd (upd (upd (upd (fun _ => .unk) 0 (.imm (List.map vu a0) a0.length)) 2 (.ptr 0 0)) 3 (.ptr 1 0)) 6 (vi d24.2)) }

theorem bitmap_read_r (a0 : (List Int)) {r : (List Int)} (h0 : bitmap_read a0 = some r) : SndR K 32 [(S_vu a0)] (fun q => (.ref (q 0) 0 r.length 1)) [(List.map vi r)] := by
 refine SndR.of_walkW hC (show K.P.funcs[32]? = some Try.f32 from Try.func32) rfl rfl (by decide +kernel) (Nat.le_of_ble_eq_true rfl) ?_
 unfold bitmap_read at h0
 refine awp_nr [0] (fun _ => rfl) fun tz => ?_
 refine awp_regW fun KK hKK => ?_
 refine xw_id ?_
 try simp only [go_sem, ↓iop_and, ↓iop_or, ↓iop_xor, ↓iop_andn, Nat.reduceEqDiff, reduceIte, Nat.reduceAdd, Nat.reduceMul, Nat.reduceSub, Nat.reduceLT, Nat.reduceLeDiff]
 refine hKK _ _ (Wk.refl _ _ _) ?_; clear hKK KK
 refine awp_nr [0,2] (fun _ => rfl) fun tz => ?_
 refine awp_regW fun KK hKK => ?_
 refine xw_id ?_
 try simp only [go_sem, ↓iop_and, ↓iop_or, ↓iop_xor, ↓iop_andn, Nat.reduceEqDiff, reduceIte, Nat.reduceAdd, Nat.reduceMul, Nat.reduceSub, Nat.reduceLT, Nat.reduceLeDiff]
 refine hKK _ _ (Wk.refl _ _ _) ?_; clear hKK KK
 refine awp_assoc ?_
 refine awp_nr [0,2,3] (fun _ => rfl) fun tz => ?_
 refine awp_regW fun KK hKK => ?_
 refine xw_id ?_
 obtain ⟨x10, bx10, h0⟩ := bnd h0
 obtain ⟨fx10_0, fx10_1, fx10_2, fx10_3⟩ := idx_some bx10
 simp only [Int.reduceToNat] at fx10_2 fx10_3
 try simp only [go_sem, ↓iop_and, ↓iop_or, ↓iop_xor, ↓iop_andn, Nat.reduceEqDiff, reduceIte, Nat.reduceAdd, Nat.reduceMul, Nat.reduceSub, Nat.reduceLT, Nat.reduceLeDiff, Int.reduceToNat, Int.reduceBEq, Int.reduceBNe, Int.reduceLT, Int.reduceLE, Int.reduceAdd, Int.reduceSub, Int.reduceMul, Int.reduceNeg, Int.reduceEq, Int.reduceNe, fx10_0, fx10_1, fx10_2]
 refine hKK _ _ (Wk.refl _ _ _) ?_; clear hKK KK
 obtain ⟨d11, hi1, h0⟩ := bnd h0
 refine awp_cut (fun z => d11 = z) (fun d11 : (List Int) => bitmap_read_S0 d11) ?_ ?_
 ·
  refine awp_block1 ?_
  refine awp_nr [0,2,3,11] (fun _ => rfl) fun tz => ?_
  refine awp_regW fun KK hKK => ?_
  refine xw_id ?_
  try simp only [go_sem, ↓iop_and, ↓iop_or, ↓iop_xor, ↓iop_andn, Nat.reduceEqDiff, reduceIte, Nat.reduceAdd, Nat.reduceMul, Nat.reduceSub, Nat.reduceLT, Nat.reduceLeDiff, fx10_0, fx10_1, fx10_2]
  refine hKK _ _ (Wk.refl _ _ _) ?_; clear hKK KK
  refine awp_cond1 (b := ((bandn .u8 x10 128) == 0)) rfl (fun h2 => ?_) (fun h2 => ?_)
  ·
   have hi1 := cT hi1 h2
   refine awp_nr1 [0,2,3] (fun _ => rfl) fun tz => ?_
   refine awp_regD1 fun KK hKK all hall => ?_
   refine xd_id ?_
   try simp only [List.toList_toArray, List.map_cons, List.map_nil, List.size_toArray, List.length_cons, List.length_nil, Nat.zero_add]
   try simp only [Nat.reduceAdd]
   obtain ⟨x12, bx12, hi1⟩ := bnd hi1
   have bx12 := chk_some bx12
   simp only [Bool.and_eq_true, decide_eq_true_eq] at bx12
   have gx12_0 := bx12
   have gs3 : (32 ≤ ((List.replicate 32 0) : List Int).length) = True := eq_true (by (try simp only [List.length_replicate]); omega)
   obtain ⟨x13, bx13, hi1⟩ := bnd hi1
   have bx13 := chk_some bx13
   simp only [Bool.and_eq_true, decide_eq_true_eq] at bx13
   have gx13_0 := bx13
   have g4 : ((a0.length : Int) - 1).toNat = (List.drop 1 a0).length := by simp only [List.length_take, List.length_drop]; omega
   try simp only [Int.sub_zero] at g4
   have gs5 : (min (List.drop 1 a0).length 32 ≤ ((List.replicate 32 0) : List Int).length) = True := eq_true (by (try simp only [List.length_replicate, List.length_drop]); omega)
   have gs5m : putAt (List.map vu ((List.replicate 32 0) : List Int)) 0 (List.map vu (List.take (min (List.drop 1 a0).length 32) (List.drop 1 a0))) = List.map vu (putL ((List.replicate 32 0) : List Int) 0 (List.take (min (List.drop 1 a0).length 32) (List.drop 1 a0))) := putAt_map (by (try simp only [List.length_replicate, List.length_drop, List.length_take]); omega)
   have gs5r : ((List.replicate 32 0) : List Int).length = 32 := List.length_replicate
   simp only [go_sem, ↓iop_and, ↓iop_or, ↓iop_xor, ↓iop_andn, Nat.reduceEqDiff, reduceIte, Nat.reduceMul, Nat.reduceSub, Nat.reduceLT, Nat.reduceLeDiff, Int.reduceToNat, Int.reduceBEq, Int.reduceBNe, Int.reduceLT, Int.reduceLE, Int.reduceAdd, Int.reduceSub, Int.reduceMul, Int.reduceNeg, Int.reduceEq, Int.reduceNe, fx10_0, fx10_1, fx10_2, gx12_0, gs3, Int.sub_zero, Int.le_refl, gx13_0, g4, Int.sub_zero, gs5, gs5m, Nat.mul_one, List.length_map, true_and, Nat.zero_add]
   try simp only [Nat.reduceAdd]
   try simp only [go_sem, ↓iop_and, ↓iop_or, ↓iop_xor, ↓iop_andn, Nat.reduceEqDiff, reduceIte, Nat.reduceMul, Nat.reduceSub, Nat.reduceLT, Nat.reduceLeDiff, Int.reduceToNat, Int.reduceBEq, Int.reduceBNe, Int.reduceLT, Int.reduceLE, Int.reduceAdd, Int.reduceSub, Int.reduceMul, Int.reduceNeg, Int.reduceEq, Int.reduceNe, fx10_0, fx10_1, fx10_2, gx12_0, gs3, Int.sub_zero, Int.le_refl, gx13_0, g4, Int.sub_zero, gs5, gs5m, Nat.mul_one, List.length_map, true_and, Nat.zero_add]
   try simp only [Nat.reduceAdd]
   try simp only [go_sem, ↓iop_and, ↓iop_or, ↓iop_xor, ↓iop_andn, Nat.reduceEqDiff, reduceIte, Nat.reduceMul, Nat.reduceSub, Nat.reduceLT, Nat.reduceLeDiff, Int.reduceToNat, Int.reduceBEq, Int.reduceBNe, Int.reduceLT, Int.reduceLE, Int.reduceAdd, Int.reduceSub, Int.reduceMul, Int.reduceNeg, Int.reduceEq, Int.reduceNe, fx10_0, fx10_1, fx10_2, gx12_0, gs3, Int.sub_zero, Int.le_refl, gx13_0, g4, Int.sub_zero, gs5, gs5m, Nat.mul_one, List.length_map, true_and, Nat.zero_add]
   refine And.intro ?_ (hKK _ ?_)
   ·
    subst hall
    clear hKK KK
    first | decide +kernel | (simp [printsOk, apartP, clash, meet]; done) | (simp [printsOk, apartP, clash, meet]; decide +kernel)
   ·
    clear hKK KK hall all
    refine bq_n ?_
    refine sq_n ?_
    obtain rfl := someInj hi1
    exact ⟨_, rfl, (Wk.canonD [] [] [some 0, some 1] rfl trivial rfl (tmOU 1 (tmOU 0 tmO0 rfl List.not_mem_nil (by simp only [upd_get, ↓iop_and, ↓iop_or, ↓iop_xor, ↓iop_andn, Nat.reduceEqDiff, reduceIte, Nat.reduceAdd, Nat.reduceMul, Nat.reduceSub, Nat.reduceLT, Nat.reduceLeDiff, if_true, if_false] <;> rfl) (TmL.cons (Tm.v _) TmL.nil)) rfl List.not_mem_nil (by simp only [upd_get, ↓iop_and, ↓iop_or, ↓iop_xor, ↓iop_andn, Nat.reduceEqDiff, reduceIte, Nat.reduceAdd, Nat.reduceMul, Nat.reduceSub, Nat.reduceLT, Nat.reduceLeDiff, if_true, if_false] <;> rfl) (TmL.of_eq (by first | rfl | (simp only [List.flatMap_append, List.flatMap_cons, List.flatMap_nil, List.map_append, List.map_cons, List.map_nil, List.append_nil, List.nil_append]; done) | (simp only [List.flatMap_append, List.flatMap_cons, List.flatMap_nil, List.map_append, List.map_cons, List.map_nil, List.append_nil, List.nil_append]; rfl)) (vu_clean _))) (tmAllU 3 (tmAllU 2 tmAll0 (Tm.ptr rfl)) (Tm.ptr rfl)))⟩
  ·
   have hi1 := cF hi1 h2
   refine awp_nr [0,2,3,11] (fun _ => rfl) fun tz => ?_
   refine awp_regW fun KK hKK => ?_
   refine xw_id ?_
   try simp only [go_sem, ↓iop_and, ↓iop_or, ↓iop_xor, ↓iop_andn, Nat.reduceEqDiff, reduceIte, Nat.reduceAdd, Nat.reduceMul, Nat.reduceSub, Nat.reduceLT, Nat.reduceLeDiff, fx10_0, fx10_1, fx10_2]
   refine hKK _ _ (Wk.refl _ _ _) ?_; clear hKK KK
   refine awp_cond1 (b := ((bandn .u8 x10 128) == 1)) rfl (fun h6 => ?_) (fun h6 => ?_)
   ·
    have hi1 := cT hi1 h6
    refine awp_nr [0,2,3] (fun _ => rfl) fun tz => ?_
    refine awp_regW fun KK hKK => ?_
    refine xw_id ?_
    obtain ⟨x14, bx14, hi1⟩ := bnd hi1
    obtain ⟨fx14_0, fx14_1, fx14_2, fx14_3⟩ := idx_some bx14
    simp only [Int.reduceToNat] at fx14_2 fx14_3
    try simp only [go_sem, ↓iop_and, ↓iop_or, ↓iop_xor, ↓iop_andn, Nat.reduceEqDiff, reduceIte, Nat.reduceAdd, Nat.reduceMul, Nat.reduceSub, Nat.reduceLT, Nat.reduceLeDiff, Int.reduceToNat, Int.reduceBEq, Int.reduceBNe, Int.reduceLT, Int.reduceLE, Int.reduceAdd, Int.reduceSub, Int.reduceMul, Int.reduceNeg, Int.reduceEq, Int.reduceNe, fx10_0, fx10_1, fx10_2, fx14_0, fx14_1, fx14_2]
    refine hKK _ _ (Wk.refl _ _ _) ?_; clear hKK KK
    refine awp_cond1 (b := (decide ((IntKind.wrap .i64 x14) < 32))) rfl (fun h7 => ?_) (fun h7 => ?_)
    ·
     have hi1 := cT hi1 h7
     refine awp_nr1 [0,2,3] (fun _ => rfl) fun tz => ?_
     refine awp_regD1 fun KK hKK all hall => ?_
     refine xd_id ?_
     try simp only [List.toList_toArray, List.map_cons, List.map_nil, List.size_toArray, List.length_cons, List.length_nil, Nat.zero_add]
     try simp only [Nat.reduceAdd]
     obtain ⟨x15, bx15, hi1⟩ := bnd hi1
     have bx15 := chk_some bx15
     simp only [Bool.and_eq_true, decide_eq_true_eq] at bx15
     obtain ⟨⟨gx15_0, gx15_1⟩, gx15_2⟩ := bx15
     have gs8 : (32 ≤ ((List.replicate 32 0) : List Int).length) = True := eq_true (by (try simp only [List.length_replicate]); omega)
     obtain ⟨x16, bx16, hi1⟩ := bnd hi1
     have bx16 := chk_some bx16
     simp only [Bool.and_eq_true, decide_eq_true_eq] at bx16
     have gx16_0 := bx16
     have g9 : ((a0.length : Int) - 3).toNat = (List.drop 3 a0).length := by simp only [List.length_take, List.length_drop]; omega
     try simp only [Int.sub_zero] at g9
     have gs10 : ((x14).toNat + min (List.drop 3 a0).length ((32 - x14).toNat) ≤ ((List.replicate 32 0) : List Int).length) = True := eq_true (by (try simp only [List.length_replicate, List.length_drop]); omega)
     have gs10m : putAt (List.map vu ((List.replicate 32 0) : List Int)) ((x14).toNat) (List.map vu (List.take (min (List.drop 3 a0).length ((32 - x14).toNat)) (List.drop 3 a0))) = List.map vu (putL ((List.replicate 32 0) : List Int) ((x14).toNat) (List.take (min (List.drop 3 a0).length ((32 - x14).toNat)) (List.drop 3 a0))) := putAt_map (by (try simp only [List.length_replicate, List.length_drop, List.length_take]); omega)
     have gs10r : ((List.replicate 32 0) : List Int).length = 32 := List.length_replicate
     simp only [go_sem, ↓iop_and, ↓iop_or, ↓iop_xor, ↓iop_andn, Nat.reduceEqDiff, reduceIte, Nat.reduceMul, Nat.reduceSub, Nat.reduceLT, Nat.reduceLeDiff, Int.reduceToNat, Int.reduceBEq, Int.reduceBNe, Int.reduceLT, Int.reduceLE, Int.reduceAdd, Int.reduceSub, Int.reduceMul, Int.reduceNeg, Int.reduceEq, Int.reduceNe, fx10_0, fx10_1, fx10_2, fx14_0, fx14_1, fx14_2, gx15_0, gx15_1, gx15_2, gs8, Int.sub_zero, Int.le_refl, gx16_0, g9, Int.sub_zero, gs10, gs10m, Nat.mul_one, List.length_map, true_and, Nat.zero_add]
     try simp only [Nat.reduceAdd]
     try simp only [go_sem, ↓iop_and, ↓iop_or, ↓iop_xor, ↓iop_andn, Nat.reduceEqDiff, reduceIte, Nat.reduceMul, Nat.reduceSub, Nat.reduceLT, Nat.reduceLeDiff, Int.reduceToNat, Int.reduceBEq, Int.reduceBNe, Int.reduceLT, Int.reduceLE, Int.reduceAdd, Int.reduceSub, Int.reduceMul, Int.reduceNeg, Int.reduceEq, Int.reduceNe, fx10_0, fx10_1, fx10_2, fx14_0, fx14_1, fx14_2, gx15_0, gx15_1, gx15_2, gs8, Int.sub_zero, Int.le_refl, gx16_0, g9, Int.sub_zero, gs10, gs10m, Nat.mul_one, List.length_map, true_and, Nat.zero_add]
     try simp only [Nat.reduceAdd]
     try simp only [go_sem, ↓iop_and, ↓iop_or, ↓iop_xor, ↓iop_andn, Nat.reduceEqDiff, reduceIte, Nat.reduceMul, Nat.reduceSub, Nat.reduceLT, Nat.reduceLeDiff, Int.reduceToNat, Int.reduceBEq, Int.reduceBNe, Int.reduceLT, Int.reduceLE, Int.reduceAdd, Int.reduceSub, Int.reduceMul, Int.reduceNeg, Int.reduceEq, Int.reduceNe, fx10_0, fx10_1, fx10_2, fx14_0, fx14_1, fx14_2, gx15_0, gx15_1, gx15_2, gs8, Int.sub_zero, Int.le_refl, gx16_0, g9, Int.sub_zero, gs10, gs10m, Nat.mul_one, List.length_map, true_and, Nat.zero_add]
     refine And.intro ?_ (hKK _ ?_)
     ·
      subst hall
      clear hKK KK
      first | decide +kernel | (simp [printsOk, apartP, clash, meet]; done) | (simp [printsOk, apartP, clash, meet]; decide +kernel)
     ·
      clear hKK KK hall all
      refine bq_n ?_
      refine sq_n ?_
      obtain rfl := someInj hi1
      exact ⟨_, rfl, (Wk.canonD [] [] [some 0, some 1] rfl trivial rfl (tmOU 1 (tmOU 0 tmO0 rfl List.not_mem_nil (by simp only [upd_get, ↓iop_and, ↓iop_or, ↓iop_xor, ↓iop_andn, Nat.reduceEqDiff, reduceIte, Nat.reduceAdd, Nat.reduceMul, Nat.reduceSub, Nat.reduceLT, Nat.reduceLeDiff, if_true, if_false] <;> rfl) (TmL.cons (Tm.v _) TmL.nil)) rfl List.not_mem_nil (by simp only [upd_get, ↓iop_and, ↓iop_or, ↓iop_xor, ↓iop_andn, Nat.reduceEqDiff, reduceIte, Nat.reduceAdd, Nat.reduceMul, Nat.reduceSub, Nat.reduceLT, Nat.reduceLeDiff, if_true, if_false] <;> rfl) (TmL.of_eq (by first | rfl | (simp only [List.flatMap_append, List.flatMap_cons, List.flatMap_nil, List.map_append, List.map_cons, List.map_nil, List.append_nil, List.nil_append]; done) | (simp only [List.flatMap_append, List.flatMap_cons, List.flatMap_nil, List.map_append, List.map_cons, List.map_nil, List.append_nil, List.nil_append]; rfl)) (vu_clean _))) (tmAllU 3 (tmAllU 2 tmAll0 (Tm.ptr rfl)) (Tm.ptr rfl)))⟩
    ·
     have hi1 := cF hi1 h7
     refine awp_skip1 ?_
     refine bq_n ?_
     refine sq_n ?_
     obtain rfl := someInj hi1
     exact ⟨_, rfl, (Wk.canonD [] [] [some 0, some 1] rfl trivial rfl (tmOU 1 (tmOU 0 tmO0 rfl List.not_mem_nil (by simp only [upd_get, ↓iop_and, ↓iop_or, ↓iop_xor, ↓iop_andn, Nat.reduceEqDiff, reduceIte, Nat.reduceAdd, Nat.reduceMul, Nat.reduceSub, Nat.reduceLT, Nat.reduceLeDiff, if_true, if_false] <;> rfl) (TmL.cons (Tm.v _) TmL.nil)) rfl List.not_mem_nil (by simp only [upd_get, ↓iop_and, ↓iop_or, ↓iop_xor, ↓iop_andn, Nat.reduceEqDiff, reduceIte, Nat.reduceAdd, Nat.reduceMul, Nat.reduceSub, Nat.reduceLT, Nat.reduceLeDiff, if_true, if_false] <;> rfl) (TmL.of_eq (by first | rfl | (simp only [List.flatMap_append, List.flatMap_cons, List.flatMap_nil, List.map_append, List.map_cons, List.map_nil, List.append_nil, List.nil_append]; done) | (simp only [List.flatMap_append, List.flatMap_cons, List.flatMap_nil, List.map_append, List.map_cons, List.map_nil, List.append_nil, List.nil_append]; rfl)) (vu_clean _))) (tmAllU 3 (tmAllU 2 tmAll0 (Tm.ptr rfl)) (Tm.ptr rfl)))⟩
   ·
    have hi1 := cF hi1 h6
    refine awp_nr [0,2,3,11] (fun _ => rfl) fun tz => ?_
    refine awp_regW fun KK hKK => ?_
    refine xw_id ?_
    try simp only [go_sem, ↓iop_and, ↓iop_or, ↓iop_xor, ↓iop_andn, Nat.reduceEqDiff, reduceIte, Nat.reduceAdd, Nat.reduceMul, Nat.reduceSub, Nat.reduceLT, Nat.reduceLeDiff, fx10_0, fx10_1, fx10_2]
    refine hKK _ _ (Wk.refl _ _ _) ?_; clear hKK KK
    refine awp_cond1 (b := ((bandn .u8 x10 128) == 2)) rfl (fun h11 => ?_) (fun h11 => ?_)
    ·
     have hi1 := cT hi1 h11
     refine awp_nr [0,2,3] (fun _ => rfl) fun tz => ?_
     refine awp_regW fun KK hKK => ?_
     refine xw_id ?_
     obtain ⟨x17, bx17, hi1⟩ := bnd hi1
     have bx17 := chk_some bx17
     simp only [Bool.and_eq_true, decide_eq_true_eq] at bx17
     have gx17_0 := bx17
     have g12 : ((a0.length : Int) - 2).toNat = (List.drop 2 a0).length := by simp only [List.length_take, List.length_drop]; omega
     try simp only [Int.sub_zero] at g12
     try simp only [go_sem, ↓iop_and, ↓iop_or, ↓iop_xor, ↓iop_andn, Nat.reduceEqDiff, reduceIte, Nat.reduceAdd, Nat.reduceMul, Nat.reduceSub, Nat.reduceLT, Nat.reduceLeDiff, Int.reduceToNat, Int.reduceBEq, Int.reduceBNe, Int.reduceLT, Int.reduceLE, Int.reduceAdd, Int.reduceSub, Int.reduceMul, Int.reduceNeg, Int.reduceEq, Int.reduceNe, fx10_0, fx10_1, fx10_2, gx17_0, g12, Int.sub_zero]
     refine hKK _ _ (Wk.refl _ _ _) ?_; clear hKK KK
     obtain ⟨d18, hi13, hi1⟩ := bnd hi1
     refine awp_cutQ (fun z => d18 = z) (fun d18 : (List Int) => bitmap_read_S1 d18) (clQ_blk clQ_cut) ?_ ?_
     ·
      refine awp_block1 ?_
      refine awp_loopS (fun n (d19 : (List Int × Int)) => bitmap_read_L3 a0 n d19 = some d18) (fun d19 : (List Int × Int) => bitmap_read_S2 a0 d19) big ((List.replicate 32 0), 0) (Wk.canonD [] [] [some 0, some 1] rfl trivial rfl (tmOU 1 (tmOU 0 tmO0 rfl List.not_mem_nil (by simp only [upd_get, ↓iop_and, ↓iop_or, ↓iop_xor, ↓iop_andn, Nat.reduceEqDiff, reduceIte, Nat.reduceAdd, Nat.reduceMul, Nat.reduceSub, Nat.reduceLT, Nat.reduceLeDiff, if_true, if_false] <;> rfl) (TmL.cons (Tm.v _) TmL.nil)) rfl List.not_mem_nil (by simp only [upd_get, ↓iop_and, ↓iop_or, ↓iop_xor, ↓iop_andn, Nat.reduceEqDiff, reduceIte, Nat.reduceAdd, Nat.reduceMul, Nat.reduceSub, Nat.reduceLT, Nat.reduceLeDiff, if_true, if_false] <;> rfl) (TmL.of_eq (by first | rfl | (simp only [List.flatMap_append, List.flatMap_cons, List.flatMap_nil, List.map_append, List.map_cons, List.map_nil, List.append_nil, List.nil_append]; done) | (simp only [List.flatMap_append, List.flatMap_cons, List.flatMap_nil, List.map_append, List.map_cons, List.map_nil, List.append_nil, List.nil_append]; rfl)) (vu_clean _))) (tmAllU 60 (tmAllU 59 (tmAllU 58 (tmAllU 3 (tmAllU 2 tmAll0 (Tm.ptr rfl)) (Tm.ptr rfl)) (Tm.clean (Clean.imm (vu_clean _)))) (Tm.v _)) (Tm.v _))) hi13 ?_
      clear hi13
      rintro n d19 hl15
      rcases n with _ | n14
      ·
       (rw [bitmap_read_L3] at hl15; cases hl15)
      ·
       rw [bitmap_read_L3] at hl15
       unfold bitmap_read_S2
       refine awp_nr [2,3,58,59,60] (fun _ => rfl) fun tz => ?_
       refine awp_regW fun KK hKK => ?_
       refine xw_id ?_
       try simp only [go_sem, ↓iop_and, ↓iop_or, ↓iop_xor, ↓iop_andn, Nat.reduceEqDiff, reduceIte, Nat.reduceAdd, Nat.reduceMul, Nat.reduceSub, Nat.reduceLT, Nat.reduceLeDiff]
       refine hKK _ _ (Wk.refl _ _ _) ?_; clear hKK KK
       refine awp_cond (b := (decide (d19.2 < ((List.drop 2 a0).length : Int)))) rfl (fun h16 => ?_) (fun h16 => ?_)
       ·
        have hl15 := cT hl15 h16
        refine awp_skip ?_
        refine awp_blockW ?_
        refine awp_nr [2,3,58,59,60] (fun _ => rfl) fun tz => ?_
        refine awp_regW fun KK hKK => ?_
        refine xw_id ?_
        obtain ⟨x20, bx20, hl15⟩ := bnd hl15
        obtain ⟨fx20_0, fx20_1, fx20_2, fx20_3⟩ := idx_some bx20
        try simp only [go_sem, ↓iop_and, ↓iop_or, ↓iop_xor, ↓iop_andn, Nat.reduceEqDiff, reduceIte, Nat.reduceAdd, Nat.reduceMul, Nat.reduceSub, Nat.reduceLT, Nat.reduceLeDiff, fx20_0, fx20_1, fx20_2]
        refine hKK _ _ (Wk.refl _ _ _) ?_; clear hKK KK
        refine awp_nr1 [2,3,5,58,59,60] (fun _ => rfl) fun tz => ?_
        refine awp_reg1 fun KK hKK => ?_
        refine xw_id ?_
        obtain ⟨x21, bx21, hl15⟩ := bnd hl15
        obtain ⟨fx21_0, fx21_1, fx21_2, fx21_3⟩ := idxA_some bx21
        obtain ⟨x22, bx22, hl15⟩ := bnd hl15
        have bx22 := chk_some bx22
        simp only [Bool.and_eq_true, decide_eq_true_eq] at bx22
        have gx22_0 := bx22
        have gs17 : (((x20).fdiv (2 ^ (min 3 8))).toNat + 1 ≤ d19.1.length) = True := eq_true (by (try simp only [List.length_modify, List.length_set]); omega)
        have gm18 : (d19.1.set (((x20).fdiv (2 ^ (min 3 8))).toNat) (bor .u8 x21 (IntKind.wrap .u8 (1 * 2 ^ (min ((band .u8 x20 7)).toNat 8)))))[((x20).fdiv (2 ^ (min 3 8))).toNat]? = some (bor .u8 x21 (IntKind.wrap .u8 (1 * 2 ^ (min ((band .u8 x20 7)).toNat 8)))) := getSet _ fx21_2
        try simp only [go_sem, ↓iop_and, ↓iop_or, ↓iop_xor, ↓iop_andn, Nat.reduceEqDiff, reduceIte, Nat.reduceAdd, Nat.reduceMul, Nat.reduceSub, Nat.reduceLT, Nat.reduceLeDiff, Int.reduceToNat, Int.reduceBEq, Int.reduceBNe, Int.reduceLT, Int.reduceLE, Int.reduceAdd, Int.reduceSub, Int.reduceMul, Int.reduceNeg, Int.reduceEq, Int.reduceNe, fx20_0, fx20_1, fx20_2, fx21_0, fx21_1, fx21_2, gx22_0, gs17, gm18]
        refine hKK _ ?_; clear hKK KK
        refine bq_n ?_
        refine seqW_i ?_
        refine awp_nr1 [2,3,58,59,60] (fun _ => rfl) fun tz => ?_
        refine awp_reg1 fun KK hKK => ?_
        refine xw_id ?_
        try simp only [go_sem, ↓iop_and, ↓iop_or, ↓iop_xor, ↓iop_andn, Nat.reduceEqDiff, reduceIte, Nat.reduceAdd, Nat.reduceMul, Nat.reduceSub, Nat.reduceLT, Nat.reduceLeDiff, fx20_0, fx20_1, fx20_2, fx21_0, fx21_1, fx21_2, gm18]
        refine hKK _ ?_; clear hKK KK
        refine lq_n ?_
        exact ⟨n14, ((d19.1.set (((x20).fdiv (2 ^ (min 3 8))).toNat) (bor .u8 x21 (IntKind.wrap .u8 (1 * 2 ^ (min ((band .u8 x20 7)).toNat 8))))), IntKind.wrap .i64 (d19.2 + 1)), rfl, hl15, (Wk.canonD [] [] [some 0, some 1] rfl trivial rfl (tmOU 1 (tmOU 0 tmO0 rfl List.not_mem_nil (by simp only [upd_get, ↓iop_and, ↓iop_or, ↓iop_xor, ↓iop_andn, Nat.reduceEqDiff, reduceIte, Nat.reduceAdd, Nat.reduceMul, Nat.reduceSub, Nat.reduceLT, Nat.reduceLeDiff, if_true, if_false] <;> rfl) (TmL.cons (Tm.v _) TmL.nil)) rfl List.not_mem_nil (by simp only [upd_get, ↓iop_and, ↓iop_or, ↓iop_xor, ↓iop_andn, Nat.reduceEqDiff, reduceIte, Nat.reduceAdd, Nat.reduceMul, Nat.reduceSub, Nat.reduceLT, Nat.reduceLeDiff, if_true, if_false] <;> rfl) (TmL.of_eq (by first | rfl | (simp only [List.flatMap_append, List.flatMap_cons, List.flatMap_nil, List.map_append, List.map_cons, List.map_nil, List.append_nil, List.nil_append]; done) | (simp only [List.flatMap_append, List.flatMap_cons, List.flatMap_nil, List.map_append, List.map_cons, List.map_nil, List.append_nil, List.nil_append]; rfl)) (vu_clean _))) (tmAllU 60 (tmAllU 59 (tmAllU 58 (tmAllU 3 (tmAllU 2 tmAll0 (Tm.ptr rfl)) (Tm.ptr rfl)) (Tm.clean (Clean.imm (vu_clean _)))) (Tm.v _)) (Tm.v _)))⟩
       ·
        have hl15 := cF hl15 h16
        refine awp_exit ?_
        refine lq_e ?_
        refine bq_e ?_
        refine sq_n ?_
        obtain rfl := someInj hl15
        exact ⟨_, rfl, (Wk.canonD [] [] [some 0, some 1] rfl trivial rfl (tmOU 1 (tmOU 0 tmO0 rfl List.not_mem_nil (by simp only [upd_get, ↓iop_and, ↓iop_or, ↓iop_xor, ↓iop_andn, Nat.reduceEqDiff, reduceIte, Nat.reduceAdd, Nat.reduceMul, Nat.reduceSub, Nat.reduceLT, Nat.reduceLeDiff, if_true, if_false] <;> rfl) (TmL.cons (Tm.v _) TmL.nil)) rfl List.not_mem_nil (by simp only [upd_get, ↓iop_and, ↓iop_or, ↓iop_xor, ↓iop_andn, Nat.reduceEqDiff, reduceIte, Nat.reduceAdd, Nat.reduceMul, Nat.reduceSub, Nat.reduceLT, Nat.reduceLeDiff, if_true, if_false] <;> rfl) (TmL.of_eq (by first | rfl | (simp only [List.flatMap_append, List.flatMap_cons, List.flatMap_nil, List.map_append, List.map_cons, List.map_nil, List.append_nil, List.nil_append]; done) | (simp only [List.flatMap_append, List.flatMap_cons, List.flatMap_nil, List.map_append, List.map_cons, List.map_nil, List.append_nil, List.nil_append]; rfl)) (vu_clean _))) (tmAllU 3 (tmAllU 2 tmAll0 (Tm.ptr rfl)) (Tm.ptr rfl)))⟩
     ·
      rintro _ rfl
      clear hi13
      unfold bitmap_read_S1
      refine bq_n ?_
      refine sq_n ?_
      obtain rfl := someInj hi1
      exact ⟨_, rfl, (Wk.canonD [] [] [some 0, some 1] rfl trivial rfl (tmOU 1 (tmOU 0 tmO0 rfl List.not_mem_nil (by simp only [upd_get, ↓iop_and, ↓iop_or, ↓iop_xor, ↓iop_andn, Nat.reduceEqDiff, reduceIte, Nat.reduceAdd, Nat.reduceMul, Nat.reduceSub, Nat.reduceLT, Nat.reduceLeDiff, if_true, if_false] <;> rfl) (TmL.cons (Tm.v _) TmL.nil)) rfl List.not_mem_nil (by simp only [upd_get, ↓iop_and, ↓iop_or, ↓iop_xor, ↓iop_andn, Nat.reduceEqDiff, reduceIte, Nat.reduceAdd, Nat.reduceMul, Nat.reduceSub, Nat.reduceLT, Nat.reduceLeDiff, if_true, if_false] <;> rfl) (TmL.of_eq (by first | rfl | (simp only [List.flatMap_append, List.flatMap_cons, List.flatMap_nil, List.map_append, List.map_cons, List.map_nil, List.append_nil, List.nil_append]; done) | (simp only [List.flatMap_append, List.flatMap_cons, List.flatMap_nil, List.map_append, List.map_cons, List.map_nil, List.append_nil, List.nil_append]; rfl)) (vu_clean _))) (tmAllU 3 (tmAllU 2 tmAll0 (Tm.ptr rfl)) (Tm.ptr rfl)))⟩
    ·
     have hi1 := cF hi1 h11
     refine awp_nr [0,2,3] (fun _ => rfl) fun tz => ?_
     refine awp_regW fun KK hKK => ?_
     refine xw_id ?_
     try simp only [go_sem, ↓iop_and, ↓iop_or, ↓iop_xor, ↓iop_andn, Nat.reduceEqDiff, reduceIte, Nat.reduceAdd, Nat.reduceMul, Nat.reduceSub, Nat.reduceLT, Nat.reduceLeDiff, fx10_0, fx10_1, fx10_2]
     refine hKK _ _ (Wk.refl _ _ _) ?_; clear hKK KK
     obtain ⟨d23, hi19, hi1⟩ := bnd hi1
     refine awp_cutQ (fun z => d23 = z) (fun d23 : (List Int) => bitmap_read_S4 d23) (clQ_blk clQ_cut) ?_ ?_
     ·
      refine awp_block1 ?_
      refine awp_loopS (fun n (d24 : (List Int × Int)) => bitmap_read_L6 a0 n d24 = some d23) (fun d24 : (List Int × Int) => bitmap_read_S5 a0 d24) big ((List.replicate 32 0), 1) (Wk.canonD [] [] [some 0, some 1] rfl trivial rfl (tmOU 1 (tmOU 0 tmO0 rfl List.not_mem_nil (by simp only [upd_get, ↓iop_and, ↓iop_or, ↓iop_xor, ↓iop_andn, Nat.reduceEqDiff, reduceIte, Nat.reduceAdd, Nat.reduceMul, Nat.reduceSub, Nat.reduceLT, Nat.reduceLeDiff, if_true, if_false] <;> rfl) (TmL.cons (Tm.v _) TmL.nil)) rfl List.not_mem_nil (by simp only [upd_get, ↓iop_and, ↓iop_or, ↓iop_xor, ↓iop_andn, Nat.reduceEqDiff, reduceIte, Nat.reduceAdd, Nat.reduceMul, Nat.reduceSub, Nat.reduceLT, Nat.reduceLeDiff, if_true, if_false] <;> rfl) (TmL.of_eq (by first | rfl | (simp only [List.flatMap_append, List.flatMap_cons, List.flatMap_nil, List.map_append, List.map_cons, List.map_nil, List.append_nil, List.nil_append]; done) | (simp only [List.flatMap_append, List.flatMap_cons, List.flatMap_nil, List.map_append, List.map_cons, List.map_nil, List.append_nil, List.nil_append]; rfl)) (vu_clean _))) (tmAllU 6 (tmAllU 3 (tmAllU 2 (tmAllU 0 tmAll0 (Tm.clean (Clean.imm (vu_clean _)))) (Tm.ptr rfl)) (Tm.ptr rfl)) (Tm.v _))) hi19 ?_
      clear hi19
      rintro n d24 hl21
      rcases n with _ | n20
      ·
       (rw [bitmap_read_L6] at hl21; cases hl21)
      ·
       rw [bitmap_read_L6] at hl21
       unfold bitmap_read_S5
       refine awp_assoc ?_
       refine awp_nr [0,2,3,6] (fun _ => rfl) fun tz => ?_
       refine awp_regW fun KK hKK => ?_
       refine xw_id ?_
       obtain ⟨x25, bx25, hl21⟩ := bnd hl21
       obtain ⟨fx25_0, fx25_1, fx25_2, fx25_3⟩ := idx_some bx25
       simp only [Int.reduceToNat] at fx25_2 fx25_3
       try simp only [go_sem, ↓iop_and, ↓iop_or, ↓iop_xor, ↓iop_andn, Nat.reduceEqDiff, reduceIte, Nat.reduceAdd, Nat.reduceMul, Nat.reduceSub, Nat.reduceLT, Nat.reduceLeDiff, Int.reduceToNat, Int.reduceBEq, Int.reduceBNe, Int.reduceLT, Int.reduceLE, Int.reduceAdd, Int.reduceSub, Int.reduceMul, Int.reduceNeg, Int.reduceEq, Int.reduceNe, fx25_0, fx25_1, fx25_2]
       refine hKK _ _ (Wk.refl _ _ _) ?_; clear hKK KK
       refine awp_cond (b := (decide (d24.2 ≤ (IntKind.wrap .i64 x25)))) rfl (fun h22 => ?_) (fun h22 => ?_)
       ·
        have hl21 := cT hl21 h22
        refine awp_skip ?_
        refine awp_blockW ?_
        refine awp_nr [0,2,3,6] (fun _ => rfl) fun tz => ?_
        refine awp_regW fun KK hKK => ?_
        refine xw_id ?_
        obtain ⟨x26, bx26, hl21⟩ := bnd hl21
        have bx26 := chk_some bx26
        simp only [Bool.and_eq_true, decide_eq_true_eq] at bx26
        have gx26_0 := bx26
        have g23 : ((a0.length : Int) - 3).toNat = (List.drop 3 a0).length := by simp only [List.length_take, List.length_drop]; omega
        try simp only [Int.sub_zero] at g23
        obtain ⟨x27, bx27, hl21⟩ := bnd hl21
        try simp only [go_sem, ↓iop_and, ↓iop_or, ↓iop_xor, ↓iop_andn, Nat.reduceEqDiff, reduceIte, Nat.reduceAdd, Nat.reduceMul, Nat.reduceSub, Nat.reduceLT, Nat.reduceLeDiff, Int.reduceToNat, Int.reduceBEq, Int.reduceBNe, Int.reduceLT, Int.reduceLE, Int.reduceAdd, Int.reduceSub, Int.reduceMul, Int.reduceNeg, Int.reduceEq, Int.reduceNe, fx25_0, fx25_1, fx25_2, gx26_0, g23, Int.sub_zero]
        refine xcall_p (slices_Contains_byte_byte_p (List.drop 3 a0) (IntKind.wrap .u8 d24.2) bx27) ?_; try dsimp only
        try refine xw_id ?_
        try simp only [go_sem, ↓iop_and, ↓iop_or, ↓iop_xor, ↓iop_andn, Nat.reduceEqDiff, reduceIte, Nat.reduceAdd, Nat.reduceMul, Nat.reduceSub, Nat.reduceLT, Nat.reduceLeDiff, Int.reduceToNat, Int.reduceBEq, Int.reduceBNe, Int.reduceLT, Int.reduceLE, Int.reduceAdd, Int.reduceSub, Int.reduceMul, Int.reduceNeg, Int.reduceEq, Int.reduceNe, fx25_0, fx25_1, fx25_2, gx26_0, g23, Int.sub_zero]
        refine hKK _ _ (Wk.refl _ _ _) ?_; clear hKK KK
        refine awp_cond1 (b := (!x27)) rfl (fun h24 => ?_) (fun h24 => ?_)
        ·
         have hl21 := cT hl21 h24
         refine awp_nr1 [0,2,3,6] (fun _ => rfl) fun tz => ?_
         refine awp_regD1 fun KK hKK all hall => ?_
         refine xd_id ?_
         try simp only [List.toList_toArray, List.map_cons, List.map_nil, List.size_toArray, List.length_cons, List.length_nil, Nat.zero_add]
         try simp only [Nat.reduceAdd]
         obtain ⟨x28, bx28, hl21⟩ := bnd hl21
         obtain ⟨fx28_0, fx28_1, fx28_2, fx28_3⟩ := idxA_some bx28
         obtain ⟨x29, bx29, hl21⟩ := bnd hl21
         have bx29 := chk_some bx29
         simp only [Bool.and_eq_true, decide_eq_true_eq] at bx29
         have gx29_0 := bx29
         have gs25 : (((d24.2).fdiv (2 ^ (min 3 64))).toNat + 1 ≤ d24.1.length) = True := eq_true (by (try simp only [List.length_modify, List.length_set]); omega)
         have gm26 : (d24.1.set (((d24.2).fdiv (2 ^ (min 3 64))).toNat) (bor .u8 x28 (IntKind.wrap .u8 (1 * 2 ^ (min ((band .i64 d24.2 7)).toNat 8)))))[((d24.2).fdiv (2 ^ (min 3 64))).toNat]? = some (bor .u8 x28 (IntKind.wrap .u8 (1 * 2 ^ (min ((band .i64 d24.2 7)).toNat 8)))) := getSet _ fx28_2
         simp only [go_sem, ↓iop_and, ↓iop_or, ↓iop_xor, ↓iop_andn, Nat.reduceEqDiff, reduceIte, Nat.reduceMul, Nat.reduceSub, Nat.reduceLT, Nat.reduceLeDiff, Int.reduceToNat, Int.reduceBEq, Int.reduceBNe, Int.reduceLT, Int.reduceLE, Int.reduceAdd, Int.reduceSub, Int.reduceMul, Int.reduceNeg, Int.reduceEq, Int.reduceNe, fx25_0, fx25_1, fx25_2, fx28_0, fx28_1, fx28_2, gx29_0, gs25, gm26]
         try simp only [Nat.reduceAdd]
         try simp only [go_sem, ↓iop_and, ↓iop_or, ↓iop_xor, ↓iop_andn, Nat.reduceEqDiff, reduceIte, Nat.reduceMul, Nat.reduceSub, Nat.reduceLT, Nat.reduceLeDiff, Int.reduceToNat, Int.reduceBEq, Int.reduceBNe, Int.reduceLT, Int.reduceLE, Int.reduceAdd, Int.reduceSub, Int.reduceMul, Int.reduceNeg, Int.reduceEq, Int.reduceNe, fx25_0, fx25_1, fx25_2, fx28_0, fx28_1, fx28_2, gx29_0, gs25, gm26]
         try simp only [Nat.reduceAdd]
         try simp only [go_sem, ↓iop_and, ↓iop_or, ↓iop_xor, ↓iop_andn, Nat.reduceEqDiff, reduceIte, Nat.reduceMul, Nat.reduceSub, Nat.reduceLT, Nat.reduceLeDiff, Int.reduceToNat, Int.reduceBEq, Int.reduceBNe, Int.reduceLT, Int.reduceLE, Int.reduceAdd, Int.reduceSub, Int.reduceMul, Int.reduceNeg, Int.reduceEq, Int.reduceNe, fx25_0, fx25_1, fx25_2, fx28_0, fx28_1, fx28_2, gx29_0, gs25, gm26]
         refine And.intro ?_ (hKK _ ?_)
         ·
          subst hall
          clear hKK KK
          first | decide +kernel | (simp [printsOk, apartP, clash, meet]; done) | (simp [printsOk, apartP, clash, meet]; decide +kernel)
         ·
          clear hKK KK hall all
          refine bq_n ?_
          refine seqW_i ?_
          refine awp_nr1 [0,2,3,6] (fun _ => rfl) fun tz => ?_
          refine awp_reg1 fun KK hKK => ?_
          refine xw_id ?_
          try simp only [go_sem, ↓iop_and, ↓iop_or, ↓iop_xor, ↓iop_andn, Nat.reduceEqDiff, reduceIte, Nat.reduceAdd, Nat.reduceMul, Nat.reduceSub, Nat.reduceLT, Nat.reduceLeDiff, fx25_0, fx25_1, fx25_2, fx28_0, fx28_1, fx28_2, gm26]
          refine hKK _ ?_; clear hKK KK
          refine lq_n ?_
          exact ⟨n20, ((d24.1.set (((d24.2).fdiv (2 ^ (min 3 64))).toNat) (bor .u8 x28 (IntKind.wrap .u8 (1 * 2 ^ (min ((band .i64 d24.2 7)).toNat 8))))), IntKind.wrap .i64 (d24.2 + 1)), rfl, hl21, (Wk.canonD [] [] [some 0, some 1] rfl trivial rfl (tmOU 1 (tmOU 0 tmO0 rfl List.not_mem_nil (by simp only [upd_get, ↓iop_and, ↓iop_or, ↓iop_xor, ↓iop_andn, Nat.reduceEqDiff, reduceIte, Nat.reduceAdd, Nat.reduceMul, Nat.reduceSub, Nat.reduceLT, Nat.reduceLeDiff, if_true, if_false] <;> rfl) (TmL.cons (Tm.v _) TmL.nil)) rfl List.not_mem_nil (by simp only [upd_get, ↓iop_and, ↓iop_or, ↓iop_xor, ↓iop_andn, Nat.reduceEqDiff, reduceIte, Nat.reduceAdd, Nat.reduceMul, Nat.reduceSub, Nat.reduceLT, Nat.reduceLeDiff, if_true, if_false] <;> rfl) (TmL.of_eq (by first | rfl | (simp only [List.flatMap_append, List.flatMap_cons, List.flatMap_nil, List.map_append, List.map_cons, List.map_nil, List.append_nil, List.nil_append]; done) | (simp only [List.flatMap_append, List.flatMap_cons, List.flatMap_nil, List.map_append, List.map_cons, List.map_nil, List.append_nil, List.nil_append]; rfl)) (vu_clean _))) (tmAllU 6 (tmAllU 3 (tmAllU 2 (tmAllU 0 tmAll0 (Tm.clean (Clean.imm (vu_clean _)))) (Tm.ptr rfl)) (Tm.ptr rfl)) (Tm.v _)))⟩
        ·
         have hl21 := cF hl21 h24
         refine awp_skip1 ?_
         refine bq_n ?_
         refine seqW_i ?_
         refine awp_nr1 [0,2,3,6] (fun _ => rfl) fun tz => ?_
         refine awp_reg1 fun KK hKK => ?_
         refine xw_id ?_
         try simp only [go_sem, ↓iop_and, ↓iop_or, ↓iop_xor, ↓iop_andn, Nat.reduceEqDiff, reduceIte, Nat.reduceAdd, Nat.reduceMul, Nat.reduceSub, Nat.reduceLT, Nat.reduceLeDiff, fx25_0, fx25_1, fx25_2]
         refine hKK _ ?_; clear hKK KK
         refine lq_n ?_
         exact ⟨n20, (d24.1, IntKind.wrap .i64 (d24.2 + 1)), rfl, hl21, (Wk.canonD [] [] [some 0, some 1] rfl trivial rfl (tmOU 1 (tmOU 0 tmO0 rfl List.not_mem_nil (by simp only [upd_get, ↓iop_and, ↓iop_or, ↓iop_xor, ↓iop_andn, Nat.reduceEqDiff, reduceIte, Nat.reduceAdd, Nat.reduceMul, Nat.reduceSub, Nat.reduceLT, Nat.reduceLeDiff, if_true, if_false] <;> rfl) (TmL.cons (Tm.v _) TmL.nil)) rfl List.not_mem_nil (by simp only [upd_get, ↓iop_and, ↓iop_or, ↓iop_xor, ↓iop_andn, Nat.reduceEqDiff, reduceIte, Nat.reduceAdd, Nat.reduceMul, Nat.reduceSub, Nat.reduceLT, Nat.reduceLeDiff, if_true, if_false] <;> rfl) (TmL.of_eq (by first | rfl | (simp only [List.flatMap_append, List.flatMap_cons, List.flatMap_nil, List.map_append, List.map_cons, List.map_nil, List.append_nil, List.nil_append]; done) | (simp only [List.flatMap_append, List.flatMap_cons, List.flatMap_nil, List.map_append, List.map_cons, List.map_nil, List.append_nil, List.nil_append]; rfl)) (vu_clean _))) (tmAllU 6 (tmAllU 3 (tmAllU 2 (tmAllU 0 tmAll0 (Tm.clean (Clean.imm (vu_clean _)))) (Tm.ptr rfl)) (Tm.ptr rfl)) (Tm.v _)))⟩
       ·
        have hl21 := cF hl21 h22
        refine awp_exit ?_
        refine lq_e ?_
        refine bq_e ?_
        refine sq_n ?_
        obtain rfl := someInj hl21
        exact ⟨_, rfl, (Wk.canonD [] [] [some 0, some 1] rfl trivial rfl (tmOU 1 (tmOU 0 tmO0 rfl List.not_mem_nil (by simp only [upd_get, ↓iop_and, ↓iop_or, ↓iop_xor, ↓iop_andn, Nat.reduceEqDiff, reduceIte, Nat.reduceAdd, Nat.reduceMul, Nat.reduceSub, Nat.reduceLT, Nat.reduceLeDiff, if_true, if_false] <;> rfl) (TmL.cons (Tm.v _) TmL.nil)) rfl List.not_mem_nil (by simp only [upd_get, ↓iop_and, ↓iop_or, ↓iop_xor, ↓iop_andn, Nat.reduceEqDiff, reduceIte, Nat.reduceAdd, Nat.reduceMul, Nat.reduceSub, Nat.reduceLT, Nat.reduceLeDiff, if_true, if_false] <;> rfl) (TmL.of_eq (by first | rfl | (simp only [List.flatMap_append, List.flatMap_cons, List.flatMap_nil, List.map_append, List.map_cons, List.map_nil, List.append_nil, List.nil_append]; done) | (simp only [List.flatMap_append, List.flatMap_cons, List.flatMap_nil, List.map_append, List.map_cons, List.map_nil, List.append_nil, List.nil_append]; rfl)) (vu_clean _))) (tmAllU 3 (tmAllU 2 tmAll0 (Tm.ptr rfl)) (Tm.ptr rfl)))⟩
     ·
      rintro _ rfl
      clear hi19
      unfold bitmap_read_S4
      refine bq_n ?_
      refine sq_n ?_
      obtain rfl := someInj hi1
      exact ⟨_, rfl, (Wk.canonD [] [] [some 0, some 1] rfl trivial rfl (tmOU 1 (tmOU 0 tmO0 rfl List.not_mem_nil (by simp only [upd_get, ↓iop_and, ↓iop_or, ↓iop_xor, ↓iop_andn, Nat.reduceEqDiff, reduceIte, Nat.reduceAdd, Nat.reduceMul, Nat.reduceSub, Nat.reduceLT, Nat.reduceLeDiff, if_true, if_false] <;> rfl) (TmL.cons (Tm.v _) TmL.nil)) rfl List.not_mem_nil (by simp only [upd_get, ↓iop_and, ↓iop_or, ↓iop_xor, ↓iop_andn, Nat.reduceEqDiff, reduceIte, Nat.reduceAdd, Nat.reduceMul, Nat.reduceSub, Nat.reduceLT, Nat.reduceLeDiff, if_true, if_false] <;> rfl) (TmL.of_eq (by first | rfl | (simp only [List.flatMap_append, List.flatMap_cons, List.flatMap_nil, List.map_append, List.map_cons, List.map_nil, List.append_nil, List.nil_append]; done) | (simp only [List.flatMap_append, List.flatMap_cons, List.flatMap_nil, List.map_append, List.map_cons, List.map_nil, List.append_nil, List.nil_append]; rfl)) (vu_clean _))) (tmAllU 3 (tmAllU 2 tmAll0 (Tm.ptr rfl)) (Tm.ptr rfl)))⟩
 ·
  rintro _ rfl
  clear hi1
  unfold bitmap_read_S0
  obtain ⟨x30, bx30, h0⟩ := bnd h0
  have bx30 := chk_some bx30
  simp only [decide_eq_true_eq] at bx30
  obtain rfl := someInj h0
  exact read_tail bx30 rfl rfl rfl rfl rfl

theorem bitmap_read_m (a0 : (List Int)) {r : (List Int)} (h0 : bitmap_read a0 = some r) : SndM K 32 [(S_vu a0)] (fun q => (.ref (q 0) 0 r.length 1)) [(List.map vi r)] :=
 fun hs => Snd.of_newM (RenM.ref 0 0 _ _) (rows_all_cons (vi_clean _) rows_all_nil) (clean_cons (S_vu_clean _) clean_nil) (bitmap_read_r a0 h0) hs

theorem bitmap_read_e (a0 : (List Int)) {r : (List Int)} (h0 : bitmap_read a0 = some r) (fr : Nat) (hs : HS) : SndE K 32 [(S_vu a0)] hs fr ⟨(fun q : Nat → Nat => (.ref (q 0) 0 r.length 1)) fun _ => fr, .new (List.map vi r)⟩ :=
 SndE.of_res (RenM.ref 0 0 _ _) (vi_clean _) (clean_cons (S_vu_clean _) clean_nil) (fun a b h => by simp only [h]) (bitmap_read_r a0 h0) hs fr

theorem bitmap_read_p (a0 : (List Int)) {r : (List Int)} (h0 : bitmap_read a0 = some r) : SndP K 32 [(S_vu a0)] (S_vi r) :=
 SndM.pure (bitmap_read_m a0 h0) (S_vi_clean _) (clean_cons (S_vu_clean _) clean_nil) (by simp only [go_sem, newL_n, newL_c, upd_get, fz, nilS, cond_true, cond_false, List.drop_zero, List.take_length, List.length_map, ble_self, ↓iop_and, ↓iop_or, ↓iop_xor, ↓iop_andn, Nat.reduceEqDiff, reduceIte, Nat.reduceAdd, Nat.reduceMul, Nat.reduceSub, Nat.reduceLT, Nat.reduceLeDiff] <;> rfl)

end Go.AX.Z.TD

/-! (TDW slices Equal byte byte) -/

set_option linter.unusedSimpArgs false
set_option linter.unusedVariables false
set_option maxHeartbeats 4000000
set_option maxRecDepth 20000
namespace Go.AX.Z.TD
open Go.AX Go.Proofs
attribute [local irreducible] awp xw xop xcall gsp ob xd xdop xcallD seqQ loopQ blkQ endQ

def slices_Equal_byte_byte_S0 (d45 : Unit) : AS :=
 { objs := (fun _ => .dead), next := 0, tmps := (fun _ => .unk) }

def slices_Equal_byte_byte_S1 (a0 : (List Int)) (a1 : (List Int)) (d47 : Int) : AS :=
 { objs := (fun _ => .dead), next := 0, tmps := (upd (upd (upd (upd (fun _ => .unk) 0 (.imm (List.map vu a0) a0.length)) 1 (.imm (List.map vu a1) a1.length)) 12 (vi (a0.length : Int))) 13 (vi d47)) }

theorem slices_Equal_byte_byte_p (a0 : (List Int)) (a1 : (List Int)) {r : Bool} (h0 : slices_Equal_byte_byte a0 a1 = some r) : SndP K 33 [(S_vu a0), (S_vu a1)] (vb r) := by
 refine SndP.of_walkW hC (Clean.v _) (clean_cons (S_vu_clean _) (clean_cons (S_vu_clean _) clean_nil)) (show K.P.funcs[33]? = some Try.f33 from Try.func33) rfl rfl (by decide +kernel) (Nat.le_of_ble_eq_true rfl) ?_
 unfold slices_Equal_byte_byte at h0
 refine awp_nr [0,1] (fun _ => rfl) fun tz => ?_
 refine awp_regW fun KK hKK => ?_
 refine xw_id ?_
 try simp only [go_sem, ↓iop_and, ↓iop_or, ↓iop_xor, ↓iop_andn, Nat.reduceEqDiff, reduceIte, Nat.reduceAdd, Nat.reduceMul, Nat.reduceSub, Nat.reduceLT, Nat.reduceLeDiff]
 refine hKK _ _ (Wk.refl _ _ _) ?_; clear hKK KK
 refine awp_assoc ?_
 refine awp_nr [0,1] (fun _ => rfl) fun tz => ?_
 refine awp_regW fun KK hKK => ?_
 refine xw_id ?_
 try simp only [go_sem, ↓iop_and, ↓iop_or, ↓iop_xor, ↓iop_andn, Nat.reduceEqDiff, reduceIte, Nat.reduceAdd, Nat.reduceMul, Nat.reduceSub, Nat.reduceLT, Nat.reduceLeDiff, Int.reduceToNat, Int.reduceBEq, Int.reduceBNe, Int.reduceLT, Int.reduceLE, Int.reduceAdd, Int.reduceSub, Int.reduceMul, Int.reduceNeg, Int.reduceEq, Int.reduceNe]
 refine hKK _ _ (Wk.refl _ _ _) ?_; clear hKK KK
 refine awp_cond (b := ((a0.length : Int) != (a1.length : Int))) rfl (fun h1 => ?_) (fun h1 => ?_)
 ·
  have h0 := cT h0 h1
  refine awp_assoc ?_
  refine awp_nr [] (fun _ => rfl) fun tz => ?_
  refine awp_regW fun KK hKK => ?_
  refine xw_id ?_
  try simp only [go_sem, ↓iop_and, ↓iop_or, ↓iop_xor, ↓iop_andn, Nat.reduceEqDiff, reduceIte, Nat.reduceAdd, Nat.reduceMul, Nat.reduceSub, Nat.reduceLT, Nat.reduceLeDiff]
  refine hKK _ _ (Wk.refl _ _ _) ?_; clear hKK KK
  refine awp_ret ?_
  obtain rfl := someInj h0
  refine endW_i ?_
  refine end_ret0 rs33 (rfl) ?_
  try simp only [go_sem, ↓iop_and, ↓iop_or, ↓iop_xor, ↓iop_andn, Nat.reduceEqDiff, reduceIte, Nat.reduceAdd, Nat.reduceMul, Nat.reduceSub, Nat.reduceLT, Nat.reduceLeDiff, fz, nilS, packR, List.take_nil, List.take_length, List.length_map, List.length_append, cond_true, cond_false, Nat.ble_eq, ble_self]
  all_goals first | rfl | (simp only [go_sem, ↓iop_and, ↓iop_or, ↓iop_xor, ↓iop_andn, Nat.reduceEqDiff, reduceIte, Nat.reduceAdd, Nat.reduceMul, Nat.reduceSub, Nat.reduceLT, Nat.reduceLeDiff, fz, nilS, packR, List.take_nil, List.take_length, List.length_map, List.length_append, cond_true, cond_false, Nat.ble_eq, ble_self, List.map_append] <;> rfl)
 ·
  have h0 := cF h0 h1
  refine awp_skip ?_
  refine awp_assoc ?_
  refine awp_nr [0,1] (fun _ => rfl) fun tz => ?_
  refine awp_regW fun KK hKK => ?_
  refine xw_id ?_
  try simp only [go_sem, ↓iop_and, ↓iop_or, ↓iop_xor, ↓iop_andn, Nat.reduceEqDiff, reduceIte, Nat.reduceAdd, Nat.reduceMul, Nat.reduceSub, Nat.reduceLT, Nat.reduceLeDiff, Int.reduceToNat, Int.reduceBEq, Int.reduceBNe, Int.reduceLT, Int.reduceLE, Int.reduceAdd, Int.reduceSub, Int.reduceMul, Int.reduceNeg, Int.reduceEq, Int.reduceNe]
  refine hKK _ _ (Wk.refl _ _ _) ?_; clear hKK KK
  obtain ⟨o46, hi2, h0⟩ := bnd h0
  refine awp_cut (fun d45 : Unit => o46 = Ex.go d45) (fun d45 : Unit => slices_Equal_byte_byte_S0 d45) ?_ ?_
  ·
   refine awp_block1 ?_
   refine awp_loopS (fun n (d47 : Int) => slices_Equal_byte_byte_L2 a0 a1 n d47 = some o46) (fun d47 : Int => slices_Equal_byte_byte_S1 a0 a1 d47) big 0 (Wk.canonD [] [] [] rfl trivial rfl tmO0 (tmAllU 13 (tmAllU 12 (tmAllU 1 (tmAllU 0 tmAll0 (Tm.clean (Clean.imm (vu_clean _)))) (Tm.clean (Clean.imm (vu_clean _)))) (Tm.v _)) (Tm.v _))) hi2 ?_
   clear hi2
   rintro n d47 hl4
   rcases n with _ | n3
   ·
    (rw [slices_Equal_byte_byte_L2] at hl4; cases hl4)
   ·
    rw [slices_Equal_byte_byte_L2] at hl4
    unfold slices_Equal_byte_byte_S1
    refine awp_nr [0,1,12,13] (fun _ => rfl) fun tz => ?_
    refine awp_regW fun KK hKK => ?_
    refine xw_id ?_
    try simp only [go_sem, ↓iop_and, ↓iop_or, ↓iop_xor, ↓iop_andn, Nat.reduceEqDiff, reduceIte, Nat.reduceAdd, Nat.reduceMul, Nat.reduceSub, Nat.reduceLT, Nat.reduceLeDiff]
    refine hKK _ _ (Wk.refl _ _ _) ?_; clear hKK KK
    refine awp_cond (b := (decide (d47 < (a0.length : Int)))) rfl (fun h5 => ?_) (fun h5 => ?_)
    ·
     have hl4 := cT hl4 h5
     refine awp_skip ?_
     refine awp_blockW ?_
     refine awp_nr [0,1,12,13] (fun _ => rfl) fun tz => ?_
     refine awp_regW fun KK hKK => ?_
     refine xw_id ?_
     try simp only [go_sem, ↓iop_and, ↓iop_or, ↓iop_xor, ↓iop_andn, Nat.reduceEqDiff, reduceIte, Nat.reduceAdd, Nat.reduceMul, Nat.reduceSub, Nat.reduceLT, Nat.reduceLeDiff]
     refine hKK _ _ (Wk.refl _ _ _) ?_; clear hKK KK
     refine awp_nr [0,1,5,12,13] (fun _ => rfl) fun tz => ?_
     refine awp_regW fun KK hKK => ?_
     refine xw_id ?_
     obtain ⟨x48, bx48, hl4⟩ := bnd hl4
     obtain ⟨fx48_0, fx48_1, fx48_2, fx48_3⟩ := idx_some bx48
     obtain ⟨x49, bx49, hl4⟩ := bnd hl4
     obtain ⟨fx49_0, fx49_1, fx49_2, fx49_3⟩ := idx_some bx49
     try simp only [go_sem, ↓iop_and, ↓iop_or, ↓iop_xor, ↓iop_andn, Nat.reduceEqDiff, reduceIte, Nat.reduceAdd, Nat.reduceMul, Nat.reduceSub, Nat.reduceLT, Nat.reduceLeDiff, fx48_0, fx48_1, fx48_2, fx49_0, fx49_1, fx49_2]
     refine hKK _ _ (Wk.refl _ _ _) ?_; clear hKK KK
     refine awp_cond1 (b := (x48 != x49)) rfl (fun h6 => ?_) (fun h6 => ?_)
     ·
      have hl4 := cT hl4 h6
      refine awp_nr [] (fun _ => rfl) fun tz => ?_
      refine awp_regW fun KK hKK => ?_
      refine xw_id ?_
      try simp only [go_sem, ↓iop_and, ↓iop_or, ↓iop_xor, ↓iop_andn, Nat.reduceEqDiff, reduceIte, Nat.reduceAdd, Nat.reduceMul, Nat.reduceSub, Nat.reduceLT, Nat.reduceLeDiff, fx48_0, fx48_1, fx48_2, fx49_0, fx49_1, fx49_2]
      refine hKK _ _ (Wk.refl _ _ _) ?_; clear hKK KK
      refine awp_ret1 ?_
      refine bq_r ?_
      refine sq_r ?_
      refine lq_r ?_
      refine bq_r ?_
      refine sq_r ?_
      obtain rfl := someInj hl4
      obtain rfl := Ex.k_ret h0
      refine endW_i ?_
      refine end_ret0 rs33 (rfl) ?_
      try simp only [go_sem, ↓iop_and, ↓iop_or, ↓iop_xor, ↓iop_andn, Nat.reduceEqDiff, reduceIte, Nat.reduceAdd, Nat.reduceMul, Nat.reduceSub, Nat.reduceLT, Nat.reduceLeDiff, fz, nilS, packR, List.take_nil, List.take_length, List.length_map, List.length_append, cond_true, cond_false, Nat.ble_eq, ble_self]
      all_goals first | rfl | (simp only [go_sem, ↓iop_and, ↓iop_or, ↓iop_xor, ↓iop_andn, Nat.reduceEqDiff, reduceIte, Nat.reduceAdd, Nat.reduceMul, Nat.reduceSub, Nat.reduceLT, Nat.reduceLeDiff, fz, nilS, packR, List.take_nil, List.take_length, List.length_map, List.length_append, cond_true, cond_false, Nat.ble_eq, ble_self, List.map_append] <;> rfl)
     ·
      have hl4 := cF hl4 h6
      refine awp_skip1 ?_
      refine bq_n ?_
      refine seqW_i ?_
      refine awp_nr1 [0,1,12,13] (fun _ => rfl) fun tz => ?_
      refine awp_reg1 fun KK hKK => ?_
      refine xw_id ?_
      try simp only [go_sem, ↓iop_and, ↓iop_or, ↓iop_xor, ↓iop_andn, Nat.reduceEqDiff, reduceIte, Nat.reduceAdd, Nat.reduceMul, Nat.reduceSub, Nat.reduceLT, Nat.reduceLeDiff, fx48_0, fx48_1, fx48_2, fx49_0, fx49_1, fx49_2]
      refine hKK _ ?_; clear hKK KK
      refine lq_n ?_
      exact ⟨n3, IntKind.wrap .i64 (d47 + 1), rfl, hl4, (Wk.canonD [] [] [] rfl trivial rfl tmO0 (tmAllU 13 (tmAllU 12 (tmAllU 1 (tmAllU 0 tmAll0 (Tm.clean (Clean.imm (vu_clean _)))) (Tm.clean (Clean.imm (vu_clean _)))) (Tm.v _)) (Tm.v _)))⟩
    ·
     have hl4 := cF hl4 h5
     refine awp_exit ?_
     refine lq_e ?_
     refine bq_e ?_
     refine sq_n ?_
     obtain rfl := someInj hl4
     exact ⟨_, rfl, (Wk.canonD [] [] [] rfl trivial rfl tmO0 tmAll0)⟩
  ·
   rintro d45 rfl
   have h0 := Ex.k_go h0
   clear hi2
   unfold slices_Equal_byte_byte_S0
   refine awp_nr [] (fun _ => rfl) fun tz => ?_
   refine awp_regW fun KK hKK => ?_
   refine xw_id ?_
   try simp only [go_sem, ↓iop_and, ↓iop_or, ↓iop_xor, ↓iop_andn, Nat.reduceEqDiff, reduceIte, Nat.reduceAdd, Nat.reduceMul, Nat.reduceSub, Nat.reduceLT, Nat.reduceLeDiff]
   refine hKK _ _ (Wk.refl _ _ _) ?_; clear hKK KK
   refine awp_ret1 ?_
   obtain rfl := someInj h0
   refine endW_i ?_
   refine end_ret0 rs33 (rfl) ?_
   try simp only [go_sem, ↓iop_and, ↓iop_or, ↓iop_xor, ↓iop_andn, Nat.reduceEqDiff, reduceIte, Nat.reduceAdd, Nat.reduceMul, Nat.reduceSub, Nat.reduceLT, Nat.reduceLeDiff, fz, nilS, packR, List.take_nil, List.take_length, List.length_map, List.length_append, cond_true, cond_false, Nat.ble_eq, ble_self]
   all_goals first | rfl | (simp only [go_sem, ↓iop_and, ↓iop_or, ↓iop_xor, ↓iop_andn, Nat.reduceEqDiff, reduceIte, Nat.reduceAdd, Nat.reduceMul, Nat.reduceSub, Nat.reduceLT, Nat.reduceLeDiff, fz, nilS, packR, List.take_nil, List.take_length, List.length_map, List.length_append, cond_true, cond_false, Nat.ble_eq, ble_self, List.map_append] <;> rfl)

end Go.AX.Z.TD

/-! (TDW bitmap Decode) -/

set_option linter.unusedSimpArgs false
set_option linter.unusedVariables false
set_option maxHeartbeats 4000000
set_option maxRecDepth 20000
namespace Go.AX.Z.TD
open Go.AX Go.Proofs
attribute [local irreducible] awp xw xop xcall gsp ob xd xdop xcallD seqQ loopQ blkQ endQ

def bitmap_Decode_S0 (x2 : Int) (x4 : (List Int)) (a0 : (List Int)) : AS :=
 { objs := (upd (upd (fun _ => .dead) 0 (.live (e_Traffic Traffic.z vnil))) 1 (.live (e_Traffic { Traffic.z with Group := ((band .u8 x2 128) != 0) } (.imm (List.map vi x4) x4.length)))), next := 2, tmps := (upd (upd (upd (fun _ => .unk) 0 (.imm (List.map vu a0) a0.length)) 2 (.ptr 0 0)) 5 (.ptr 1 0)) }

theorem bitmap_Decode_p (a0 : (List Int)) {r : (Traffic × Int)} (h0 : bitmap_Decode a0 = some r) : SndP K 19 [(S_vu a0)] (.tup [(.agg (E_Traffic r.1)), (vi r.2)]) := by
 refine SndP.of_walkW hC (Clean.tup (clean_cons (Clean.agg (E_Traffic_clean _)) (clean_cons (Clean.v _) clean_nil))) (clean_cons (S_vu_clean _) clean_nil) (show K.P.funcs[19]? = some Try.f19 from Try.func19) rfl rfl (by decide +kernel) (Nat.le_of_ble_eq_true rfl) ?_
 unfold bitmap_Decode at h0
 refine awp_nr [0] (fun _ => rfl) fun tz => ?_
 refine awp_regW fun KK hKK => ?_
 refine xw_id ?_
 try simp only [go_sem, ↓iop_and, ↓iop_or, ↓iop_xor, ↓iop_andn, Nat.reduceEqDiff, reduceIte, Nat.reduceAdd, Nat.reduceMul, Nat.reduceSub, Nat.reduceLT, Nat.reduceLeDiff]
 refine hKK _ _ (Wk.refl _ _ _) ?_; clear hKK KK
 refine awp_assoc ?_
 refine awp_nr [0,2] (fun _ => rfl) fun tz => ?_
 refine awp_regW fun KK hKK => ?_
 refine xw_id ?_
 try simp only [go_sem, ↓iop_and, ↓iop_or, ↓iop_xor, ↓iop_andn, Nat.reduceEqDiff, reduceIte, Nat.reduceAdd, Nat.reduceMul, Nat.reduceSub, Nat.reduceLT, Nat.reduceLeDiff, Int.reduceToNat, Int.reduceBEq, Int.reduceBNe, Int.reduceLT, Int.reduceLE, Int.reduceAdd, Int.reduceSub, Int.reduceMul, Int.reduceNeg, Int.reduceEq, Int.reduceNe]
 refine hKK _ _ (Wk.refl _ _ _) ?_; clear hKK KK
 refine awp_cond (b := ((a0.length : Int) == 0)) rfl (fun h1 => ?_) (fun h1 => ?_)
 ·
  have h0 := cT h0 h1
  refine awp_assoc ?_
  refine awp_nr [2] (fun _ => rfl) fun tz => ?_
  refine awp_regW fun KK hKK => ?_
  refine xw_id ?_
  try simp only [go_sem, ↓iop_and, ↓iop_or, ↓iop_xor, ↓iop_andn, Nat.reduceEqDiff, reduceIte, Nat.reduceAdd, Nat.reduceMul, Nat.reduceSub, Nat.reduceLT, Nat.reduceLeDiff]
  refine hKK _ _ (Wk.refl _ _ _) ?_; clear hKK KK
  refine awp_ret ?_
  obtain rfl := someInj h0
  refine endW_i ?_
  refine end_ret0 rs19 (by simp only [go_sem, resV, resAll, resOf, packR, ↓iop_and, ↓iop_or, ↓iop_xor, ↓iop_andn, Nat.reduceEqDiff, reduceIte, Nat.reduceAdd, Nat.reduceMul, Nat.reduceSub, Nat.reduceLT, Nat.reduceLeDiff]; rfl) ?_
  try simp only [go_sem, ↓iop_and, ↓iop_or, ↓iop_xor, ↓iop_andn, Nat.reduceEqDiff, reduceIte, Nat.reduceAdd, Nat.reduceMul, Nat.reduceSub, Nat.reduceLT, Nat.reduceLeDiff, fz, nilS, packR, List.take_nil, List.take_length, List.length_map, List.length_append, cond_true, cond_false, Nat.ble_eq, ble_self]
  all_goals first | rfl | (simp only [go_sem, ↓iop_and, ↓iop_or, ↓iop_xor, ↓iop_andn, Nat.reduceEqDiff, reduceIte, Nat.reduceAdd, Nat.reduceMul, Nat.reduceSub, Nat.reduceLT, Nat.reduceLeDiff, fz, nilS, packR, List.take_nil, List.take_length, List.length_map, List.length_append, cond_true, cond_false, Nat.ble_eq, ble_self, List.map_append] <;> rfl)
 ·
  have h0 := cF h0 h1
  refine awp_skip ?_
  refine awp_assoc ?_
  refine awp_nr [0,2] (fun _ => rfl) fun tz => ?_
  refine awp_regW fun KK hKK => ?_
  refine xw_id ?_
  obtain ⟨x2, bx2, h0⟩ := bnd h0
  obtain ⟨fx2_0, fx2_1, fx2_2, fx2_3⟩ := idx_some bx2
  simp only [Int.reduceToNat] at fx2_2 fx2_3
  try simp only [go_sem, ↓iop_and, ↓iop_or, ↓iop_xor, ↓iop_andn, Nat.reduceEqDiff, reduceIte, Nat.reduceAdd, Nat.reduceMul, Nat.reduceSub, Nat.reduceLT, Nat.reduceLeDiff, Int.reduceToNat, Int.reduceBEq, Int.reduceBNe, Int.reduceLT, Int.reduceLE, Int.reduceAdd, Int.reduceSub, Int.reduceMul, Int.reduceNeg, Int.reduceEq, Int.reduceNe, fx2_0, fx2_1, fx2_2]
  refine hKK _ _ (Wk.refl _ _ _) ?_; clear hKK KK
  refine awp_cond (b := (decide (3 < (bandn .u8 x2 128)))) rfl (fun h2 => ?_) (fun h2 => ?_)
  ·
   have h0 := cT h0 h2
   refine awp_assoc ?_
   refine awp_nr [2] (fun _ => rfl) fun tz => ?_
   refine awp_regW fun KK hKK => ?_
   refine xw_id ?_
   try simp only [go_sem, ↓iop_and, ↓iop_or, ↓iop_xor, ↓iop_andn, Nat.reduceEqDiff, reduceIte, Nat.reduceAdd, Nat.reduceMul, Nat.reduceSub, Nat.reduceLT, Nat.reduceLeDiff, fx2_0, fx2_1, fx2_2]
   refine hKK _ _ (Wk.refl _ _ _) ?_; clear hKK KK
   refine awp_ret ?_
   obtain rfl := someInj h0
   refine endW_i ?_
   refine end_ret0 rs19 (by simp only [go_sem, resV, resAll, resOf, packR, ↓iop_and, ↓iop_or, ↓iop_xor, ↓iop_andn, Nat.reduceEqDiff, reduceIte, Nat.reduceAdd, Nat.reduceMul, Nat.reduceSub, Nat.reduceLT, Nat.reduceLeDiff]; rfl) ?_
   try simp only [go_sem, ↓iop_and, ↓iop_or, ↓iop_xor, ↓iop_andn, Nat.reduceEqDiff, reduceIte, Nat.reduceAdd, Nat.reduceMul, Nat.reduceSub, Nat.reduceLT, Nat.reduceLeDiff, fz, nilS, packR, List.take_nil, List.take_length, List.length_map, List.length_append, cond_true, cond_false, Nat.ble_eq, ble_self]
   all_goals first | rfl | (simp only [go_sem, ↓iop_and, ↓iop_or, ↓iop_xor, ↓iop_andn, Nat.reduceEqDiff, reduceIte, Nat.reduceAdd, Nat.reduceMul, Nat.reduceSub, Nat.reduceLT, Nat.reduceLeDiff, fz, nilS, packR, List.take_nil, List.take_length, List.length_map, List.length_append, cond_true, cond_false, Nat.ble_eq, ble_self, List.map_append] <;> rfl)
  ·
   have h0 := cF h0 h2
   refine awp_skip ?_
   refine awp_assoc ?_
   refine awp_nr [0,2] (fun _ => rfl) fun tz => ?_
   refine awp_regW fun KK hKK => ?_
   refine xw_id ?_
   obtain ⟨x3, bx3, h0⟩ := bnd h0
   try simp only [go_sem, ↓iop_and, ↓iop_or, ↓iop_xor, ↓iop_andn, Nat.reduceEqDiff, reduceIte, Nat.reduceAdd, Nat.reduceMul, Nat.reduceSub, Nat.reduceLT, Nat.reduceLeDiff, fx2_0, fx2_1, fx2_2]
   refine xcall_p (bitmap_need_p a0 bx3) ?_; try dsimp only
   try refine xw_id ?_
   try simp only [go_sem, ↓iop_and, ↓iop_or, ↓iop_xor, ↓iop_andn, Nat.reduceEqDiff, reduceIte, Nat.reduceAdd, Nat.reduceMul, Nat.reduceSub, Nat.reduceLT, Nat.reduceLeDiff, fx2_0, fx2_1, fx2_2]
   refine hKK _ _ (Wk.refl _ _ _) ?_; clear hKK KK
   refine awp_blockW ?_
   refine awp_nr [0,2,4] (fun _ => rfl) fun tz => ?_
   refine awp_regW fun KK hKK => ?_
   refine xw_id ?_
   try simp only [go_sem, ↓iop_and, ↓iop_or, ↓iop_xor, ↓iop_andn, Nat.reduceEqDiff, reduceIte, Nat.reduceAdd, Nat.reduceMul, Nat.reduceSub, Nat.reduceLT, Nat.reduceLeDiff, Int.reduceToNat, Int.reduceBEq, Int.reduceBNe, Int.reduceLT, Int.reduceLE, Int.reduceAdd, Int.reduceSub, Int.reduceMul, Int.reduceNeg, Int.reduceEq, Int.reduceNe, fx2_0, fx2_1, fx2_2]
   refine hKK _ _ (Wk.refl _ _ _) ?_; clear hKK KK
   refine awp_cond1 (b := (decide ((a0.length : Int) < x3))) rfl (fun h3 => ?_) (fun h3 => ?_)
   ·
    have h0 := cT h0 h3
    refine awp_nr [2] (fun _ => rfl) fun tz => ?_
    refine awp_regW fun KK hKK => ?_
    refine xw_id ?_
    try simp only [go_sem, ↓iop_and, ↓iop_or, ↓iop_xor, ↓iop_andn, Nat.reduceEqDiff, reduceIte, Nat.reduceAdd, Nat.reduceMul, Nat.reduceSub, Nat.reduceLT, Nat.reduceLeDiff, fx2_0, fx2_1, fx2_2]
    refine hKK _ _ (Wk.refl _ _ _) ?_; clear hKK KK
    refine awp_ret1 ?_
    refine bq_r ?_
    refine sq_r ?_
    obtain rfl := someInj h0
    refine endW_i ?_
    refine end_ret0 rs19 (by simp only [go_sem, resV, resAll, resOf, packR, ↓iop_and, ↓iop_or, ↓iop_xor, ↓iop_andn, Nat.reduceEqDiff, reduceIte, Nat.reduceAdd, Nat.reduceMul, Nat.reduceSub, Nat.reduceLT, Nat.reduceLeDiff]; rfl) ?_
    try simp only [go_sem, ↓iop_and, ↓iop_or, ↓iop_xor, ↓iop_andn, Nat.reduceEqDiff, reduceIte, Nat.reduceAdd, Nat.reduceMul, Nat.reduceSub, Nat.reduceLT, Nat.reduceLeDiff, fz, nilS, packR, List.take_nil, List.take_length, List.length_map, List.length_append, cond_true, cond_false, Nat.ble_eq, ble_self]
    all_goals first | rfl | (simp only [go_sem, ↓iop_and, ↓iop_or, ↓iop_xor, ↓iop_andn, Nat.reduceEqDiff, reduceIte, Nat.reduceAdd, Nat.reduceMul, Nat.reduceSub, Nat.reduceLT, Nat.reduceLeDiff, fz, nilS, packR, List.take_nil, List.take_length, List.length_map, List.length_append, cond_true, cond_false, Nat.ble_eq, ble_self, List.map_append] <;> rfl)
   ·
    have h0 := cF h0 h3
    refine awp_nr [0,2,4] (fun _ => rfl) fun tz => ?_
    refine awp_regW fun KK hKK => ?_
    refine xw_id ?_
    try simp only [go_sem, ↓iop_and, ↓iop_or, ↓iop_xor, ↓iop_andn, Nat.reduceEqDiff, reduceIte, Nat.reduceAdd, Nat.reduceMul, Nat.reduceSub, Nat.reduceLT, Nat.reduceLeDiff, Int.reduceToNat, Int.reduceBEq, Int.reduceBNe, Int.reduceLT, Int.reduceLE, Int.reduceAdd, Int.reduceSub, Int.reduceMul, Int.reduceNeg, Int.reduceEq, Int.reduceNe, fx2_0, fx2_1, fx2_2]
    refine hKK _ _ (Wk.refl _ _ _) ?_; clear hKK KK
    refine awp_cond1 (b := (decide (x3 < (a0.length : Int)))) rfl (fun h4 => ?_) (fun h4 => ?_)
    ·
     have h0 := cT h0 h4
     refine awp_nr [2] (fun _ => rfl) fun tz => ?_
     refine awp_regW fun KK hKK => ?_
     refine xw_id ?_
     try simp only [go_sem, ↓iop_and, ↓iop_or, ↓iop_xor, ↓iop_andn, Nat.reduceEqDiff, reduceIte, Nat.reduceAdd, Nat.reduceMul, Nat.reduceSub, Nat.reduceLT, Nat.reduceLeDiff, fx2_0, fx2_1, fx2_2]
     refine hKK _ _ (Wk.refl _ _ _) ?_; clear hKK KK
     refine awp_ret1 ?_
     refine bq_r ?_
     refine sq_r ?_
     obtain rfl := someInj h0
     refine endW_i ?_
     refine end_ret0 rs19 (by simp only [go_sem, resV, resAll, resOf, packR, ↓iop_and, ↓iop_or, ↓iop_xor, ↓iop_andn, Nat.reduceEqDiff, reduceIte, Nat.reduceAdd, Nat.reduceMul, Nat.reduceSub, Nat.reduceLT, Nat.reduceLeDiff]; rfl) ?_
     try simp only [go_sem, ↓iop_and, ↓iop_or, ↓iop_xor, ↓iop_andn, Nat.reduceEqDiff, reduceIte, Nat.reduceAdd, Nat.reduceMul, Nat.reduceSub, Nat.reduceLT, Nat.reduceLeDiff, fz, nilS, packR, List.take_nil, List.take_length, List.length_map, List.length_append, cond_true, cond_false, Nat.ble_eq, ble_self]
     all_goals first | rfl | (simp only [go_sem, ↓iop_and, ↓iop_or, ↓iop_xor, ↓iop_andn, Nat.reduceEqDiff, reduceIte, Nat.reduceAdd, Nat.reduceMul, Nat.reduceSub, Nat.reduceLT, Nat.reduceLeDiff, fz, nilS, packR, List.take_nil, List.take_length, List.length_map, List.length_append, cond_true, cond_false, Nat.ble_eq, ble_self, List.map_append] <;> rfl)
    ·
     have h0 := cF h0 h4
     refine awp_skip1 ?_
     refine bq_n ?_
     refine seqW_i ?_
     refine awp_nr [0,2] (fun _ => rfl) fun tz => ?_
     refine awp_regDW fun KK hKK all hall => ?_
     refine xd_id ?_
     try simp only [List.toList_toArray, List.map_cons, List.map_nil, List.size_toArray, List.length_cons, List.length_nil, Nat.zero_add]
     try simp only [Nat.reduceAdd]
     obtain ⟨x4, bx4, h0⟩ := bnd h0
     simp only [go_sem, ↓iop_and, ↓iop_or, ↓iop_xor, ↓iop_andn, Nat.reduceEqDiff, reduceIte, Nat.reduceMul, Nat.reduceSub, Nat.reduceLT, Nat.reduceLeDiff, Int.reduceToNat, Int.reduceBEq, Int.reduceBNe, Int.reduceLT, Int.reduceLE, Int.reduceAdd, Int.reduceSub, Int.reduceMul, Int.reduceNeg, Int.reduceEq, Int.reduceNe, fx2_0, fx2_1, fx2_2]
     try simp only [Nat.reduceAdd]
     try simp only [go_sem, ↓iop_and, ↓iop_or, ↓iop_xor, ↓iop_andn, Nat.reduceEqDiff, reduceIte, Nat.reduceMul, Nat.reduceSub, Nat.reduceLT, Nat.reduceLeDiff, Int.reduceToNat, Int.reduceBEq, Int.reduceBNe, Int.reduceLT, Int.reduceLE, Int.reduceAdd, Int.reduceSub, Int.reduceMul, Int.reduceNeg, Int.reduceEq, Int.reduceNe, fx2_0, fx2_1, fx2_2]
     try simp only [Nat.reduceAdd]
     try simp only [go_sem, ↓iop_and, ↓iop_or, ↓iop_xor, ↓iop_andn, Nat.reduceEqDiff, reduceIte, Nat.reduceMul, Nat.reduceSub, Nat.reduceLT, Nat.reduceLeDiff, Int.reduceToNat, Int.reduceBEq, Int.reduceBNe, Int.reduceLT, Int.reduceLE, Int.reduceAdd, Int.reduceSub, Int.reduceMul, Int.reduceNeg, Int.reduceEq, Int.reduceNe, fx2_0, fx2_1, fx2_2]
     refine xcallD_p (bitmap_read_p a0 bx4) ?_; try dsimp only
     try refine xd_id ?_
     simp only [go_sem, ↓iop_and, ↓iop_or, ↓iop_xor, ↓iop_andn, Nat.reduceEqDiff, reduceIte, Nat.reduceMul, Nat.reduceSub, Nat.reduceLT, Nat.reduceLeDiff, Int.reduceToNat, Int.reduceBEq, Int.reduceBNe, Int.reduceLT, Int.reduceLE, Int.reduceAdd, Int.reduceSub, Int.reduceMul, Int.reduceNeg, Int.reduceEq, Int.reduceNe, fx2_0, fx2_1, fx2_2]
     try simp only [Nat.reduceAdd]
     try simp only [go_sem, ↓iop_and, ↓iop_or, ↓iop_xor, ↓iop_andn, Nat.reduceEqDiff, reduceIte, Nat.reduceMul, Nat.reduceSub, Nat.reduceLT, Nat.reduceLeDiff, Int.reduceToNat, Int.reduceBEq, Int.reduceBNe, Int.reduceLT, Int.reduceLE, Int.reduceAdd, Int.reduceSub, Int.reduceMul, Int.reduceNeg, Int.reduceEq, Int.reduceNe, fx2_0, fx2_1, fx2_2]
     try simp only [Nat.reduceAdd]
     try simp only [go_sem, ↓iop_and, ↓iop_or, ↓iop_xor, ↓iop_andn, Nat.reduceEqDiff, reduceIte, Nat.reduceMul, Nat.reduceSub, Nat.reduceLT, Nat.reduceLeDiff, Int.reduceToNat, Int.reduceBEq, Int.reduceBNe, Int.reduceLT, Int.reduceLE, Int.reduceAdd, Int.reduceSub, Int.reduceMul, Int.reduceNeg, Int.reduceEq, Int.reduceNe, fx2_0, fx2_1, fx2_2]
     refine And.intro ?_ (hKK _ (bitmap_Decode_S0 x2 x4 a0) (Wk.canonD [] [] [some 0, some 31] rfl trivial rfl (tmOU 1 (tmOU 0 tmO0 rfl List.not_mem_nil (by simp only [upd_get, ↓iop_and, ↓iop_or, ↓iop_xor, ↓iop_andn, Nat.reduceEqDiff, reduceIte, Nat.reduceAdd, Nat.reduceMul, Nat.reduceSub, Nat.reduceLT, Nat.reduceLeDiff, if_true, if_false] <;> rfl) (e_Traffic_tmx (by rfl) (Tm.v _))) rfl List.not_mem_nil (by simp only [upd_get, ↓iop_and, ↓iop_or, ↓iop_xor, ↓iop_andn, Nat.reduceEqDiff, reduceIte, Nat.reduceAdd, Nat.reduceMul, Nat.reduceSub, Nat.reduceLT, Nat.reduceLeDiff, if_true, if_false] <;> rfl) (e_Traffic_tmx (by rfl) (Tm.clean (Clean.imm (vi_clean _))))) (tmAllU 5 (tmAllU 2 (tmAllU 0 tmAll0 (Tm.clean (Clean.imm (vu_clean _)))) (Tm.ptr rfl)) (Tm.ptr rfl))) ?_)
     ·
      subst hall
      clear hKK KK
      first | decide +kernel | (simp [printsOk, apartP, clash, meet]; done) | (simp [printsOk, apartP, clash, meet]; decide +kernel)
     ·
      clear hKK KK hall all
      unfold bitmap_Decode_S0
      refine awp_assoc ?_
      refine awp_nr [0,2,5] (fun _ => rfl) fun tz => ?_
      refine awp_regW fun KK hKK => ?_
      refine xw_id ?_
      obtain ⟨x5, bx5, h0⟩ := bnd h0
      try simp only [go_sem, ↓iop_and, ↓iop_or, ↓iop_xor, ↓iop_andn, Nat.reduceEqDiff, reduceIte, Nat.reduceAdd, Nat.reduceMul, Nat.reduceSub, Nat.reduceLT, Nat.reduceLeDiff, Int.reduceToNat, Int.reduceBEq, Int.reduceBNe, Int.reduceLT, Int.reduceLE, Int.reduceAdd, Int.reduceSub, Int.reduceMul, Int.reduceNeg, Int.reduceEq, Int.reduceNe, fx2_0, fx2_1, fx2_2]
      refine xcall_p (bitmap_EncodeAs_p { Traffic.z with Aids := x4, Group := ((band .u8 x2 128) != 0) } (bandn .u8 x2 128) bx5) ?_; try dsimp only
      try refine xw_id ?_
      try simp only [go_sem, ↓iop_and, ↓iop_or, ↓iop_xor, ↓iop_andn, Nat.reduceEqDiff, reduceIte, Nat.reduceAdd, Nat.reduceMul, Nat.reduceSub, Nat.reduceLT, Nat.reduceLeDiff, Int.reduceToNat, Int.reduceBEq, Int.reduceBNe, Int.reduceLT, Int.reduceLE, Int.reduceAdd, Int.reduceSub, Int.reduceMul, Int.reduceNeg, Int.reduceEq, Int.reduceNe, fx2_0, fx2_1, fx2_2]
      refine hKK _ _ (Wk.refl _ _ _) ?_; clear hKK KK
      refine awp_assoc ?_
      refine awp_nr [0,2,5,6,7] (fun _ => rfl) fun tz => ?_
      refine awp_regW fun KK hKK => ?_
      refine xw_id ?_
      refine xw_stop 3 (by (try simp only [go_sem]); rfl) (by (try simp only [go_sem]); rfl) (by rfl) fun K1 hK1 => ?_
      refine xw_id ?_
      try simp only [go_sem, ↓iop_and, ↓iop_or, ↓iop_xor, ↓iop_andn, Nat.reduceEqDiff, reduceIte, Nat.reduceAdd, Nat.reduceMul, Nat.reduceSub, Nat.reduceLT, Nat.reduceLeDiff, fx2_0, fx2_1, fx2_2]
      refine hK1 _ ?_; clear hK1 K1
      obtain ⟨x7, hvh5, h0⟩ := bnd h0
      refine xw_cut 5 [(2, (.ptr 0 0)), (5, (.ptr 1 0)), (56, (vb x7))] (by (try simp only [go_sem]); rfl) (by (try simp only [go_sem]); rfl) (by rfl) (fun K1 hK1 => ?_) fun tz => ?_
      ·
       refine xw_id ?_
       rcases Bool.eq_false_or_eq_true (x5.2 != 0) with h5 | h5
       ·
        have hvh5 := cT hvh5 h5
        try simp only [go_sem, ↓iop_and, ↓iop_or, ↓iop_xor, ↓iop_andn, Nat.reduceEqDiff, reduceIte, Nat.reduceAdd, Nat.reduceMul, Nat.reduceSub, Nat.reduceLT, Nat.reduceLeDiff, fx2_0, fx2_1, fx2_2, h5]
        obtain rfl := someInj hvh5
        exact hK1 _ ⟨rfl, rfl, rfl, (by first | rfl | (rw [h5]; rfl) | (simp only [h5, Bool.true_and, Bool.false_and, Bool.true_or, Bool.false_or, cond_true, cond_false]; done)), trivial⟩
       ·
        have hvh5 := cF hvh5 h5
        obtain ⟨x6, bx6, hvh5⟩ := bnd hvh5
        try simp only [go_sem, ↓iop_and, ↓iop_or, ↓iop_xor, ↓iop_andn, Nat.reduceEqDiff, reduceIte, Nat.reduceAdd, Nat.reduceMul, Nat.reduceSub, Nat.reduceLT, Nat.reduceLeDiff, fx2_0, fx2_1, fx2_2, h5]
        refine xcall_p (slices_Equal_byte_byte_p a0 x5.1 bx6) ?_; try dsimp only
        try refine xw_id ?_
        try simp only [go_sem, ↓iop_and, ↓iop_or, ↓iop_xor, ↓iop_andn, Nat.reduceEqDiff, reduceIte, Nat.reduceAdd, Nat.reduceMul, Nat.reduceSub, Nat.reduceLT, Nat.reduceLeDiff, fx2_0, fx2_1, fx2_2, h5]
        obtain rfl := someInj hvh5
        exact hK1 _ ⟨rfl, rfl, rfl, (by first | rfl | (rw [h5]; rfl) | (simp only [h5, Bool.true_and, Bool.false_and, Bool.true_or, Bool.false_or, cond_true, cond_false]; done)), trivial⟩
      ·
       refine xw_id ?_
       try simp only [go_sem, ↓iop_and, ↓iop_or, ↓iop_xor, ↓iop_andn, Nat.reduceEqDiff, reduceIte, Nat.reduceAdd, Nat.reduceMul, Nat.reduceSub, Nat.reduceLT, Nat.reduceLeDiff, fx2_0, fx2_1, fx2_2]
       refine hKK _ _ (Wk.refl _ _ _) ?_; clear hKK KK
       refine awp_cond (b := x7) rfl (fun h6 => ?_) (fun h6 => ?_)
       ·
        have h0 := cT h0 h6
        refine awp_assoc ?_
        refine awp_nr [2] (fun _ => rfl) fun tz => ?_
        refine awp_regW fun KK hKK => ?_
        refine xw_id ?_
        try simp only [go_sem, ↓iop_and, ↓iop_or, ↓iop_xor, ↓iop_andn, Nat.reduceEqDiff, reduceIte, Nat.reduceAdd, Nat.reduceMul, Nat.reduceSub, Nat.reduceLT, Nat.reduceLeDiff, fx2_0, fx2_1, fx2_2]
        refine hKK _ _ (Wk.refl _ _ _) ?_; clear hKK KK
        refine awp_ret ?_
        obtain rfl := someInj h0
        refine endW_i ?_
        refine end_ret0 rs19 (by simp only [go_sem, resV, resAll, resOf, packR, ↓iop_and, ↓iop_or, ↓iop_xor, ↓iop_andn, Nat.reduceEqDiff, reduceIte, Nat.reduceAdd, Nat.reduceMul, Nat.reduceSub, Nat.reduceLT, Nat.reduceLeDiff]; rfl) ?_
        try simp only [go_sem, ↓iop_and, ↓iop_or, ↓iop_xor, ↓iop_andn, Nat.reduceEqDiff, reduceIte, Nat.reduceAdd, Nat.reduceMul, Nat.reduceSub, Nat.reduceLT, Nat.reduceLeDiff, fz, nilS, packR, List.take_nil, List.take_length, List.length_map, List.length_append, cond_true, cond_false, Nat.ble_eq, ble_self]
        all_goals first | rfl | (simp only [go_sem, ↓iop_and, ↓iop_or, ↓iop_xor, ↓iop_andn, Nat.reduceEqDiff, reduceIte, Nat.reduceAdd, Nat.reduceMul, Nat.reduceSub, Nat.reduceLT, Nat.reduceLeDiff, fz, nilS, packR, List.take_nil, List.take_length, List.length_map, List.length_append, cond_true, cond_false, Nat.ble_eq, ble_self, List.map_append] <;> rfl)
       ·
        have h0 := cF h0 h6
        refine awp_skip ?_
        refine awp_nr [2,5] (fun _ => rfl) fun tz => ?_
        refine awp_regW fun KK hKK => ?_
        refine xw_id ?_
        try simp only [go_sem, ↓iop_and, ↓iop_or, ↓iop_xor, ↓iop_andn, Nat.reduceEqDiff, reduceIte, Nat.reduceAdd, Nat.reduceMul, Nat.reduceSub, Nat.reduceLT, Nat.reduceLeDiff, fx2_0, fx2_1, fx2_2]
        refine hKK _ _ (Wk.refl _ _ _) ?_; clear hKK KK
        refine awp_ret1 ?_
        obtain rfl := someInj h0
        refine endW_i ?_
        refine end_ret0 rs19 (by simp only [go_sem, resV, resAll, resOf, packR, ↓iop_and, ↓iop_or, ↓iop_xor, ↓iop_andn, Nat.reduceEqDiff, reduceIte, Nat.reduceAdd, Nat.reduceMul, Nat.reduceSub, Nat.reduceLT, Nat.reduceLeDiff]; rfl) ?_
        try simp only [go_sem, ↓iop_and, ↓iop_or, ↓iop_xor, ↓iop_andn, Nat.reduceEqDiff, reduceIte, Nat.reduceAdd, Nat.reduceMul, Nat.reduceSub, Nat.reduceLT, Nat.reduceLeDiff, fz, nilS, packR, List.take_nil, List.take_length, List.length_map, List.length_append, cond_true, cond_false, Nat.ble_eq, ble_self]
        all_goals first | rfl | (simp only [go_sem, ↓iop_and, ↓iop_or, ↓iop_xor, ↓iop_andn, Nat.reduceEqDiff, reduceIte, Nat.reduceAdd, Nat.reduceMul, Nat.reduceSub, Nat.reduceLT, Nat.reduceLeDiff, fz, nilS, packR, List.take_nil, List.take_length, List.length_map, List.length_append, cond_true, cond_false, Nat.ble_eq, ble_self, List.map_append] <;> rfl)

end Go.AX.Z.TD

/-! (TDW hotspotref33 Same) -/

set_option linter.unusedSimpArgs false
set_option linter.unusedVariables false
set_option maxHeartbeats 4000000
set_option maxRecDepth 20000
namespace Go.AX.Z.TD
open Go.AX Go.Proofs
attribute [local irreducible] awp xw xop xcall gsp ob xd xdop xcallD seqQ loopQ blkQ endQ

def hotspotref33_Same_S0 (d48 : Unit) : AS :=
 { objs := (fun _ => .dead), next := 0, tmps := (fun _ => .unk) }

def hotspotref33_Same_S1 (a0 : (List Int)) (a1 : (List Int)) (d50 : Int) : AS :=
 { objs := (fun _ => .dead), next := 0, tmps := (upd (upd (upd (fun _ => .unk) 0 (.imm (List.map vu a0) a0.length)) 1 (.imm (List.map vu a1) a1.length)) 5 (vi d50)) }

theorem hotspotref33_Same_p (a0 : (List Int)) (a1 : (List Int)) {r : Bool} (h0 : hotspotref33_Same a0 a1 = some r) : SndP K 16 [(S_vu a0), (S_vu a1)] (vb r) := by
 refine SndP.of_walkW hC (Clean.v _) (clean_cons (S_vu_clean _) (clean_cons (S_vu_clean _) clean_nil)) (show K.P.funcs[16]? = some Try.f16 from Try.func16) rfl rfl (by decide +kernel) (Nat.le_of_ble_eq_true rfl) ?_
 unfold hotspotref33_Same at h0
 refine awp_nr [0,1] (fun _ => rfl) fun tz => ?_
 refine awp_regW fun KK hKK => ?_
 refine xw_id ?_
 try simp only [go_sem, ↓iop_and, ↓iop_or, ↓iop_xor, ↓iop_andn, Nat.reduceEqDiff, reduceIte, Nat.reduceAdd, Nat.reduceMul, Nat.reduceSub, Nat.reduceLT, Nat.reduceLeDiff]
 refine hKK _ _ (Wk.refl _ _ _) ?_; clear hKK KK
 refine awp_assoc ?_
 refine awp_nr [0,1] (fun _ => rfl) fun tz => ?_
 refine awp_regW fun KK hKK => ?_
 refine xw_id ?_
 try simp only [go_sem, ↓iop_and, ↓iop_or, ↓iop_xor, ↓iop_andn, Nat.reduceEqDiff, reduceIte, Nat.reduceAdd, Nat.reduceMul, Nat.reduceSub, Nat.reduceLT, Nat.reduceLeDiff, Int.reduceToNat, Int.reduceBEq, Int.reduceBNe, Int.reduceLT, Int.reduceLE, Int.reduceAdd, Int.reduceSub, Int.reduceMul, Int.reduceNeg, Int.reduceEq, Int.reduceNe]
 refine hKK _ _ (Wk.refl _ _ _) ?_; clear hKK KK
 refine awp_cond (b := ((a0.length : Int) != (a1.length : Int))) rfl (fun h1 => ?_) (fun h1 => ?_)
 ·
  have h0 := cT h0 h1
  refine awp_assoc ?_
  refine awp_nr [] (fun _ => rfl) fun tz => ?_
  refine awp_regW fun KK hKK => ?_
  refine xw_id ?_
  try simp only [go_sem, ↓iop_and, ↓iop_or, ↓iop_xor, ↓iop_andn, Nat.reduceEqDiff, reduceIte, Nat.reduceAdd, Nat.reduceMul, Nat.reduceSub, Nat.reduceLT, Nat.reduceLeDiff]
  refine hKK _ _ (Wk.refl _ _ _) ?_; clear hKK KK
  refine awp_ret ?_
  obtain rfl := someInj h0
  refine endW_i ?_
  refine end_ret0 rs16 (rfl) ?_
  try simp only [go_sem, ↓iop_and, ↓iop_or, ↓iop_xor, ↓iop_andn, Nat.reduceEqDiff, reduceIte, Nat.reduceAdd, Nat.reduceMul, Nat.reduceSub, Nat.reduceLT, Nat.reduceLeDiff, fz, nilS, packR, List.take_nil, List.take_length, List.length_map, List.length_append, cond_true, cond_false, Nat.ble_eq, ble_self]
  all_goals first | rfl | (simp only [go_sem, ↓iop_and, ↓iop_or, ↓iop_xor, ↓iop_andn, Nat.reduceEqDiff, reduceIte, Nat.reduceAdd, Nat.reduceMul, Nat.reduceSub, Nat.reduceLT, Nat.reduceLeDiff, fz, nilS, packR, List.take_nil, List.take_length, List.length_map, List.length_append, cond_true, cond_false, Nat.ble_eq, ble_self, List.map_append] <;> rfl)
 ·
  have h0 := cF h0 h1
  refine awp_skip ?_
  refine awp_assoc ?_
  refine awp_nr [0,1] (fun _ => rfl) fun tz => ?_
  refine awp_regW fun KK hKK => ?_
  refine xw_id ?_
  try simp only [go_sem, ↓iop_and, ↓iop_or, ↓iop_xor, ↓iop_andn, Nat.reduceEqDiff, reduceIte, Nat.reduceAdd, Nat.reduceMul, Nat.reduceSub, Nat.reduceLT, Nat.reduceLeDiff]
  refine hKK _ _ (Wk.refl _ _ _) ?_; clear hKK KK
  obtain ⟨o49, hi2, h0⟩ := bnd h0
  refine awp_cut (fun d48 : Unit => o49 = Ex.go d48) (fun d48 : Unit => hotspotref33_Same_S0 d48) ?_ ?_
  ·
   refine awp_block1 ?_
   refine awp_loopS (fun n (d50 : Int) => hotspotref33_Same_L2 a0 a1 n d50 = some o49) (fun d50 : Int => hotspotref33_Same_S1 a0 a1 d50) big 0 (Wk.canonD [] [] [] rfl trivial rfl tmO0 (tmAllU 5 (tmAllU 1 (tmAllU 0 tmAll0 (Tm.clean (Clean.imm (vu_clean _)))) (Tm.clean (Clean.imm (vu_clean _)))) (Tm.v _))) hi2 ?_
   clear hi2
   rintro n d50 hl4
   rcases n with _ | n3
   ·
    (rw [hotspotref33_Same_L2] at hl4; cases hl4)
   ·
    rw [hotspotref33_Same_L2] at hl4
    unfold hotspotref33_Same_S1
    refine awp_assoc ?_
    refine awp_nr [0,1,5] (fun _ => rfl) fun tz => ?_
    refine awp_regW fun KK hKK => ?_
    refine xw_id ?_
    try simp only [go_sem, ↓iop_and, ↓iop_or, ↓iop_xor, ↓iop_andn, Nat.reduceEqDiff, reduceIte, Nat.reduceAdd, Nat.reduceMul, Nat.reduceSub, Nat.reduceLT, Nat.reduceLeDiff, Int.reduceToNat, Int.reduceBEq, Int.reduceBNe, Int.reduceLT, Int.reduceLE, Int.reduceAdd, Int.reduceSub, Int.reduceMul, Int.reduceNeg, Int.reduceEq, Int.reduceNe]
    refine hKK _ _ (Wk.refl _ _ _) ?_; clear hKK KK
    refine awp_cond (b := (decide (d50 < (a0.length : Int)))) rfl (fun h5 => ?_) (fun h5 => ?_)
    ·
     have hl4 := cT hl4 h5
     refine awp_skip ?_
     refine awp_blockW ?_
     refine awp_nr [0,1,5] (fun _ => rfl) fun tz => ?_
     refine awp_regW fun KK hKK => ?_
     refine xw_id ?_
     obtain ⟨x51, bx51, hl4⟩ := bnd hl4
     obtain ⟨fx51_0, fx51_1, fx51_2, fx51_3⟩ := idx_some bx51
     obtain ⟨x52, bx52, hl4⟩ := bnd hl4
     obtain ⟨fx52_0, fx52_1, fx52_2, fx52_3⟩ := idx_some bx52
     try simp only [go_sem, ↓iop_and, ↓iop_or, ↓iop_xor, ↓iop_andn, Nat.reduceEqDiff, reduceIte, Nat.reduceAdd, Nat.reduceMul, Nat.reduceSub, Nat.reduceLT, Nat.reduceLeDiff, fx51_0, fx51_1, fx51_2, fx52_0, fx52_1, fx52_2]
     refine hKK _ _ (Wk.refl _ _ _) ?_; clear hKK KK
     refine awp_cond1 (b := (x51 != x52)) rfl (fun h6 => ?_) (fun h6 => ?_)
     ·
      have hl4 := cT hl4 h6
      refine awp_nr [] (fun _ => rfl) fun tz => ?_
      refine awp_regW fun KK hKK => ?_
      refine xw_id ?_
      try simp only [go_sem, ↓iop_and, ↓iop_or, ↓iop_xor, ↓iop_andn, Nat.reduceEqDiff, reduceIte, Nat.reduceAdd, Nat.reduceMul, Nat.reduceSub, Nat.reduceLT, Nat.reduceLeDiff, fx51_0, fx51_1, fx51_2, fx52_0, fx52_1, fx52_2]
      refine hKK _ _ (Wk.refl _ _ _) ?_; clear hKK KK
      refine awp_ret1 ?_
      refine bq_r ?_
      refine sq_r ?_
      refine lq_r ?_
      refine bq_r ?_
      refine sq_r ?_
      obtain rfl := someInj hl4
      obtain rfl := Ex.k_ret h0
      refine endW_i ?_
      refine end_ret0 rs16 (rfl) ?_
      try simp only [go_sem, ↓iop_and, ↓iop_or, ↓iop_xor, ↓iop_andn, Nat.reduceEqDiff, reduceIte, Nat.reduceAdd, Nat.reduceMul, Nat.reduceSub, Nat.reduceLT, Nat.reduceLeDiff, fz, nilS, packR, List.take_nil, List.take_length, List.length_map, List.length_append, cond_true, cond_false, Nat.ble_eq, ble_self]
      all_goals first | rfl | (simp only [go_sem, ↓iop_and, ↓iop_or, ↓iop_xor, ↓iop_andn, Nat.reduceEqDiff, reduceIte, Nat.reduceAdd, Nat.reduceMul, Nat.reduceSub, Nat.reduceLT, Nat.reduceLeDiff, fz, nilS, packR, List.take_nil, List.take_length, List.length_map, List.length_append, cond_true, cond_false, Nat.ble_eq, ble_self, List.map_append] <;> rfl)
     ·
      have hl4 := cF hl4 h6
      refine awp_skip1 ?_
      refine bq_n ?_
      refine seqW_i ?_
      refine awp_nr1 [0,1,5] (fun _ => rfl) fun tz => ?_
      refine awp_reg1 fun KK hKK => ?_
      refine xw_id ?_
      try simp only [go_sem, ↓iop_and, ↓iop_or, ↓iop_xor, ↓iop_andn, Nat.reduceEqDiff, reduceIte, Nat.reduceAdd, Nat.reduceMul, Nat.reduceSub, Nat.reduceLT, Nat.reduceLeDiff, fx51_0, fx51_1, fx51_2, fx52_0, fx52_1, fx52_2]
      refine hKK _ ?_; clear hKK KK
      refine lq_n ?_
      exact ⟨n3, IntKind.wrap .i64 (d50 + 1), rfl, hl4, (Wk.canonD [] [] [] rfl trivial rfl tmO0 (tmAllU 5 (tmAllU 1 (tmAllU 0 tmAll0 (Tm.clean (Clean.imm (vu_clean _)))) (Tm.clean (Clean.imm (vu_clean _)))) (Tm.v _)))⟩
    ·
     have hl4 := cF hl4 h5
     refine awp_exit ?_
     refine lq_e ?_
     refine bq_e ?_
     refine sq_n ?_
     obtain rfl := someInj hl4
     exact ⟨_, rfl, (Wk.canonD [] [] [] rfl trivial rfl tmO0 tmAll0)⟩
  ·
   rintro d48 rfl
   have h0 := Ex.k_go h0
   clear hi2
   unfold hotspotref33_Same_S0
   refine awp_nr [] (fun _ => rfl) fun tz => ?_
   refine awp_regW fun KK hKK => ?_
   refine xw_id ?_
   try simp only [go_sem, ↓iop_and, ↓iop_or, ↓iop_xor, ↓iop_andn, Nat.reduceEqDiff, reduceIte, Nat.reduceAdd, Nat.reduceMul, Nat.reduceSub, Nat.reduceLT, Nat.reduceLeDiff]
   refine hKK _ _ (Wk.refl _ _ _) ?_; clear hKK KK
   refine awp_ret1 ?_
   obtain rfl := someInj h0
   refine endW_i ?_
   refine end_ret0 rs16 (rfl) ?_
   try simp only [go_sem, ↓iop_and, ↓iop_or, ↓iop_xor, ↓iop_andn, Nat.reduceEqDiff, reduceIte, Nat.reduceAdd, Nat.reduceMul, Nat.reduceSub, Nat.reduceLT, Nat.reduceLeDiff, fz, nilS, packR, List.take_nil, List.take_length, List.length_map, List.length_append, cond_true, cond_false, Nat.ble_eq, ble_self]
   all_goals first | rfl | (simp only [go_sem, ↓iop_and, ↓iop_or, ↓iop_xor, ↓iop_andn, Nat.reduceEqDiff, reduceIte, Nat.reduceAdd, Nat.reduceMul, Nat.reduceSub, Nat.reduceLT, Nat.reduceLeDiff, fz, nilS, packR, List.take_nil, List.take_length, List.length_map, List.length_append, cond_true, cond_false, Nat.ble_eq, ble_self, List.map_append] <;> rfl)

end Go.AX.Z.TD

/-! (TDW hotspotlaw33 alive) -/

set_option linter.unusedSimpArgs false
set_option linter.unusedVariables false
set_option maxHeartbeats 4000000
set_option maxRecDepth 20000
namespace Go.AX.Z.TD
open Go.AX Go.Proofs
attribute [local irreducible] awp xw xop xcall gsp ob xd xdop xcallD seqQ loopQ blkQ endQ

theorem hotspotlaw33_alive_p {r : Bool} (h0 : hotspotlaw33_alive = some r) : SndP K 17 [] (vb r) := by
 cases h0
 exact SndP.of_runV hC (n := 400) rfl rfl (by kernel_rfl : ranV K 400 17 [] = some (vb true))

end Go.AX.Z.TD

/-! (TDW bitmap check) -/

set_option linter.unusedSimpArgs false
set_option linter.unusedVariables false
set_option maxHeartbeats 4000000
set_option maxRecDepth 20000
namespace Go.AX.Z.TD
open Go.AX Go.Proofs
attribute [local irreducible] awp xw xop xcall gsp ob xd xdop xcallD seqQ loopQ blkQ endQ


theorem bitmap_check_p (a0 : Traffic) (a1 : Int) {r : Int} (h0 : bitmap_check a0 a1 = some r) : SndP K 36 [(.agg (E_Traffic a0)), (vi a1)] (vi r) := by
 refine SndP.of_walkW hC (Clean.v _) (clean_cons (Clean.agg (E_Traffic_clean _)) (clean_cons (Clean.v _) clean_nil)) (show K.P.funcs[36]? = some Try.f36 from Try.func36) rfl rfl (by decide +kernel) (Nat.le_of_ble_eq_true rfl) ?_
 unfold bitmap_check at h0
 refine awp_nr [0,1] (fun _ => rfl) fun tz => ?_
 refine awp_regW fun KK hKK => ?_
 refine xw_id ?_
 try simp only [go_sem, ↓iop_and, ↓iop_or, ↓iop_xor, ↓iop_andn, Nat.reduceEqDiff, reduceIte, Nat.reduceAdd, Nat.reduceMul, Nat.reduceSub, Nat.reduceLT, Nat.reduceLeDiff]
 refine hKK _ _ (Wk.refl _ _ _) ?_; clear hKK KK
 refine awp_assoc ?_
 refine awp_nr [1,2] (fun _ => rfl) fun tz => ?_
 refine awp_regW fun KK hKK => ?_
 refine xw_id ?_
 obtain ⟨x36, bx36, h0⟩ := bnd h0
 try simp only [go_sem, ↓iop_and, ↓iop_or, ↓iop_xor, ↓iop_andn, Nat.reduceEqDiff, reduceIte, Nat.reduceAdd, Nat.reduceMul, Nat.reduceSub, Nat.reduceLT, Nat.reduceLeDiff]
 refine xcall_p (bitmap_Check_p a0 bx36) ?_; try dsimp only
 try refine xw_id ?_
 try simp only [go_sem, ↓iop_and, ↓iop_or, ↓iop_xor, ↓iop_andn, Nat.reduceEqDiff, reduceIte, Nat.reduceAdd, Nat.reduceMul, Nat.reduceSub, Nat.reduceLT, Nat.reduceLeDiff]
 refine hKK _ _ (Wk.refl _ _ _) ?_; clear hKK KK
 refine awp_assoc ?_
 refine awp_nr [1,5] (fun _ => rfl) fun tz => ?_
 refine awp_regW fun KK hKK => ?_
 refine xw_id ?_
 try simp only [go_sem, ↓iop_and, ↓iop_or, ↓iop_xor, ↓iop_andn, Nat.reduceEqDiff, reduceIte, Nat.reduceAdd, Nat.reduceMul, Nat.reduceSub, Nat.reduceLT, Nat.reduceLeDiff]
 refine hKK _ _ (Wk.refl _ _ _) ?_; clear hKK KK
 refine awp_cond (b := (x36 != 0)) rfl (fun h1 => ?_) (fun h1 => ?_)
 ·
  have h0 := cT h0 h1
  refine awp_assoc ?_
  refine awp_nr [5] (fun _ => rfl) fun tz => ?_
  refine awp_regW fun KK hKK => ?_
  refine xw_id ?_
  try simp only [go_sem, ↓iop_and, ↓iop_or, ↓iop_xor, ↓iop_andn, Nat.reduceEqDiff, reduceIte, Nat.reduceAdd, Nat.reduceMul, Nat.reduceSub, Nat.reduceLT, Nat.reduceLeDiff]
  refine hKK _ _ (Wk.refl _ _ _) ?_; clear hKK KK
  refine awp_ret ?_
  obtain rfl := someInj h0
  refine endW_i ?_
  refine end_ret0 rs36 (rfl) ?_
  try simp only [go_sem, ↓iop_and, ↓iop_or, ↓iop_xor, ↓iop_andn, Nat.reduceEqDiff, reduceIte, Nat.reduceAdd, Nat.reduceMul, Nat.reduceSub, Nat.reduceLT, Nat.reduceLeDiff, fz, nilS, packR, List.take_nil, List.take_length, List.length_map, List.length_append, cond_true, cond_false, Nat.ble_eq, ble_self]
  all_goals first | rfl | (simp only [go_sem, ↓iop_and, ↓iop_or, ↓iop_xor, ↓iop_andn, Nat.reduceEqDiff, reduceIte, Nat.reduceAdd, Nat.reduceMul, Nat.reduceSub, Nat.reduceLT, Nat.reduceLeDiff, fz, nilS, packR, List.take_nil, List.take_length, List.length_map, List.length_append, cond_true, cond_false, Nat.ble_eq, ble_self, List.map_append] <;> rfl)
 ·
  have h0 := cF h0 h1
  refine awp_skip ?_
  refine awp_assoc ?_
  refine awp_nr [1] (fun _ => rfl) fun tz => ?_
  refine awp_regW fun KK hKK => ?_
  refine xw_id ?_
  refine xw_stop 3 (by (try simp only [go_sem]); rfl) (by (try simp only [go_sem]); rfl) (by rfl) fun K1 hK1 => ?_
  refine xw_id ?_
  try simp only [go_sem, ↓iop_and, ↓iop_or, ↓iop_xor, ↓iop_andn, Nat.reduceEqDiff, reduceIte, Nat.reduceAdd, Nat.reduceMul, Nat.reduceSub, Nat.reduceLT, Nat.reduceLeDiff]
  refine hK1 _ ?_; clear hK1 K1
  refine xw_cut 3 [(16, (vb ((decide (a1 < 0)) || (decide (255 < a1)))))] (by (try simp only [go_sem]); rfl) (by (try simp only [go_sem]); rfl) (by rfl) (fun K1 hK1 => ?_) fun tz => ?_
  ·
   refine xw_id ?_
   rcases Bool.eq_false_or_eq_true (decide (a1 < 0)) with h2 | h2
   ·
    try simp only [go_sem, ↓iop_and, ↓iop_or, ↓iop_xor, ↓iop_andn, Nat.reduceEqDiff, reduceIte, Nat.reduceAdd, Nat.reduceMul, Nat.reduceSub, Nat.reduceLT, Nat.reduceLeDiff, h2]
    exact hK1 _ ⟨rfl, (by first | rfl | (rw [h2]; rfl) | (simp only [h2, Bool.true_and, Bool.false_and, Bool.true_or, Bool.false_or, cond_true, cond_false]; done)), trivial⟩
   ·
    try simp only [go_sem, ↓iop_and, ↓iop_or, ↓iop_xor, ↓iop_andn, Nat.reduceEqDiff, reduceIte, Nat.reduceAdd, Nat.reduceMul, Nat.reduceSub, Nat.reduceLT, Nat.reduceLeDiff, h2]
    exact hK1 _ ⟨rfl, (by first | rfl | (rw [h2]; rfl) | (simp only [h2, Bool.true_and, Bool.false_and, Bool.true_or, Bool.false_or, cond_true, cond_false]; done)), trivial⟩
  ·
   refine xw_id ?_
   try simp only [go_sem, ↓iop_and, ↓iop_or, ↓iop_xor, ↓iop_andn, Nat.reduceEqDiff, reduceIte, Nat.reduceAdd, Nat.reduceMul, Nat.reduceSub, Nat.reduceLT, Nat.reduceLeDiff]
   refine hKK _ _ (Wk.refl _ _ _) ?_; clear hKK KK
   refine awp_cond (b := ((decide (a1 < 0)) || (decide (255 < a1)))) rfl (fun h3 => ?_) (fun h3 => ?_)
   ·
    have h0 := cT h0 h3
    refine awp_assoc ?_
    refine awp_nr [] (fun _ => rfl) fun tz => ?_
    refine awp_regW fun KK hKK => ?_
    refine xw_id ?_
    try simp only [go_sem, ↓iop_and, ↓iop_or, ↓iop_xor, ↓iop_andn, Nat.reduceEqDiff, reduceIte, Nat.reduceAdd, Nat.reduceMul, Nat.reduceSub, Nat.reduceLT, Nat.reduceLeDiff]
    refine hKK _ _ (Wk.refl _ _ _) ?_; clear hKK KK
    refine awp_ret ?_
    obtain rfl := someInj h0
    refine endW_i ?_
    refine end_ret0 rs36 (rfl) ?_
    try simp only [go_sem, ↓iop_and, ↓iop_or, ↓iop_xor, ↓iop_andn, Nat.reduceEqDiff, reduceIte, Nat.reduceAdd, Nat.reduceMul, Nat.reduceSub, Nat.reduceLT, Nat.reduceLeDiff, fz, nilS, packR, List.take_nil, List.take_length, List.length_map, List.length_append, cond_true, cond_false, Nat.ble_eq, ble_self]
    all_goals first | rfl | (simp only [go_sem, ↓iop_and, ↓iop_or, ↓iop_xor, ↓iop_andn, Nat.reduceEqDiff, reduceIte, Nat.reduceAdd, Nat.reduceMul, Nat.reduceSub, Nat.reduceLT, Nat.reduceLeDiff, fz, nilS, packR, List.take_nil, List.take_length, List.length_map, List.length_append, cond_true, cond_false, Nat.ble_eq, ble_self, List.map_append] <;> rfl)
   ·
    have h0 := cF h0 h3
    refine awp_skip ?_
    refine awp_nr [] (fun _ => rfl) fun tz => ?_
    refine awp_regW fun KK hKK => ?_
    refine xw_id ?_
    try simp only [go_sem, ↓iop_and, ↓iop_or, ↓iop_xor, ↓iop_andn, Nat.reduceEqDiff, reduceIte, Nat.reduceAdd, Nat.reduceMul, Nat.reduceSub, Nat.reduceLT, Nat.reduceLeDiff]
    refine hKK _ _ (Wk.refl _ _ _) ?_; clear hKK KK
    refine awp_ret1 ?_
    obtain rfl := someInj h0
    refine endW_i ?_
    refine end_ret0 rs36 (rfl) ?_
    try simp only [go_sem, ↓iop_and, ↓iop_or, ↓iop_xor, ↓iop_andn, Nat.reduceEqDiff, reduceIte, Nat.reduceAdd, Nat.reduceMul, Nat.reduceSub, Nat.reduceLT, Nat.reduceLeDiff, fz, nilS, packR, List.take_nil, List.take_length, List.length_map, List.length_append, cond_true, cond_false, Nat.ble_eq, ble_self]
    all_goals first | rfl | (simp only [go_sem, ↓iop_and, ↓iop_or, ↓iop_xor, ↓iop_andn, Nat.reduceEqDiff, reduceIte, Nat.reduceAdd, Nat.reduceMul, Nat.reduceSub, Nat.reduceLT, Nat.reduceLeDiff, fz, nilS, packR, List.take_nil, List.take_length, List.length_map, List.length_append, cond_true, cond_false, Nat.ble_eq, ble_self, List.map_append] <;> rfl)

end Go.AX.Z.TD

/-! (TDW slices Clone int int) -/

set_option linter.unusedSimpArgs false
set_option linter.unusedVariables false
set_option maxHeartbeats 4000000
set_option maxRecDepth 20000
namespace Go.AX.Z.TD
open Go.AX Go.Proofs
attribute [local irreducible] awp xw xop xcall gsp ob xd xdop xcallD seqQ loopQ blkQ endQ


theorem slices_Clone_int_int_r (a0 : (List Int)) {r : (List Int)} (h0 : slices_Clone_int_int a0 = some r) : SndR K 37 [(S_vi a0)] (fun q => (.ref (q 0) 0 r.length 1)) [(List.map vi r)] := by
 cases a0 with
 | nil =>
  refine SndR.split_nil (fun cap => ?_) (fun a cap => ?_)
  ·
   unfold slices_Clone_int_int at h0
   obtain ⟨x1, bx1, h0⟩ := bnd h0
   obtain rfl := someInj h0
   refine SndR.of_walkW hC (show K.P.funcs[37]? = some Try.f37 from Try.func37) rfl rfl (by decide +kernel) (Nat.le_of_ble_eq_true rfl) ?_
   refine awp_nr [0] (fun _ => rfl) fun tz => ?_
   refine awp_regW fun KK hKK => ?_
   refine xw_id ?_
   try simp only [go_sem, ↓iop_and, ↓iop_or, ↓iop_xor, ↓iop_andn, Nat.reduceEqDiff, reduceIte, Nat.reduceAdd, Nat.reduceMul, Nat.reduceSub, Nat.reduceLT, Nat.reduceLeDiff, Option.isSome_some, if_true, eq_self]
   refine hKK _ _ (Wk.refl _ _ _) ?_; clear hKK KK
   refine awp_assoc ?_
   refine awp_nr [0] (fun _ => rfl) fun tz => ?_
   refine awp_regW fun KK hKK => ?_
   refine xw_id ?_
   try simp only [go_sem, ↓iop_and, ↓iop_or, ↓iop_xor, ↓iop_andn, Nat.reduceEqDiff, reduceIte, Nat.reduceAdd, Nat.reduceMul, Nat.reduceSub, Nat.reduceLT, Nat.reduceLeDiff, Option.isSome_some, if_true, eq_self]
   refine hKK _ _ (Wk.refl _ _ _) ?_; clear hKK KK
   refine awp_condT rfl ?_
   refine awp_assoc ?_
   refine awp_nr [] (fun _ => rfl) fun tz => ?_
   refine awp_regW fun KK hKK => ?_
   refine xw_id ?_
   try simp only [go_sem, ↓iop_and, ↓iop_or, ↓iop_xor, ↓iop_andn, Nat.reduceEqDiff, reduceIte, Nat.reduceAdd, Nat.reduceMul, Nat.reduceSub, Nat.reduceLT, Nat.reduceLeDiff, Option.isSome_some, if_true, eq_self]
   refine hKK _ _ (Wk.refl _ _ _) ?_; clear hKK KK
   refine awp_ret ?_
   refine endW_i ?_
   refine end_ret0 rs37 (rfl) ?_
   exact Res.mk [] [none] rfl (resON resO0) (Tm.thaw _ _ _)
  ·
   revert h0; intro h0
   refine SndR.of_walkW hC (show K.P.funcs[37]? = some Try.f37 from Try.func37) rfl rfl (by decide +kernel) (Nat.le_of_ble_eq_true rfl) ?_
   unfold slices_Clone_int_int at h0
   refine awp_nr [0] (fun _ => rfl) fun tz => ?_
   refine awp_regW fun KK hKK => ?_
   refine xw_id ?_
   try simp only [go_sem, ↓iop_and, ↓iop_or, ↓iop_xor, ↓iop_andn, Nat.reduceEqDiff, reduceIte, Nat.reduceAdd, Nat.reduceMul, Nat.reduceSub, Nat.reduceLT, Nat.reduceLeDiff, Option.isSome_some, if_true, eq_self]
   refine hKK _ _ (Wk.refl _ _ _) ?_; clear hKK KK
   refine awp_assoc ?_
   refine awp_nr [0] (fun _ => rfl) fun tz => ?_
   refine awp_regW fun KK hKK => ?_
   refine xw_id ?_
   try simp only [go_sem, ↓iop_and, ↓iop_or, ↓iop_xor, ↓iop_andn, Nat.reduceEqDiff, reduceIte, Nat.reduceAdd, Nat.reduceMul, Nat.reduceSub, Nat.reduceLT, Nat.reduceLeDiff, Option.isSome_some, if_true, eq_self]
   refine hKK _ _ (Wk.refl _ _ _) ?_; clear hKK KK
   refine awp_condF rfl ?_
   refine awp_skip ?_
   refine awp_nr [0] (fun _ => rfl) fun tz => ?_
   refine awp_regW fun KK hKK => ?_
   refine xw_id ?_
   obtain ⟨x38, bx38, h0⟩ := bnd h0
   have bx38 := chk_some bx38
   simp only [Bool.and_eq_true, decide_eq_true_eq] at bx38
   have gx38_0 := bx38
   try simp only [go_sem, ↓iop_and, ↓iop_or, ↓iop_xor, ↓iop_andn, Nat.reduceEqDiff, reduceIte, Nat.reduceAdd, Nat.reduceMul, Nat.reduceSub, Nat.reduceLT, Nat.reduceLeDiff, Int.reduceToNat, Int.reduceBEq, Int.reduceBNe, Int.reduceLT, Int.reduceLE, Int.reduceAdd, Int.reduceSub, Int.reduceMul, Int.reduceNeg, Int.reduceEq, Int.reduceNe, Option.isSome_some, if_true, eq_self, gx38_0]
   refine hKK _ _ (Wk.refl _ _ _) ?_; clear hKK KK
   refine awp_ret1 ?_
   obtain rfl := someInj h0
   refine endW_i ?_
   refine end_ret0 rs37 (rfl) ?_
   refine Res.mk [] [some 5] rfl (resOU List.not_mem_nil (by simp only [upd_get, ↓iop_and, ↓iop_or, ↓iop_xor, ↓iop_andn, Nat.reduceEqDiff, reduceIte, Nat.reduceAdd, Nat.reduceMul, Nat.reduceSub, Nat.reduceLT, Nat.reduceLeDiff, if_true, if_false] <;> rfl) (TmL.of_eq (by first | rfl | (simp only [List.flatMap_append, List.flatMap_cons, List.flatMap_nil, List.map_append, List.map_cons, List.map_nil, List.append_nil, List.nil_append]; done) | (simp only [List.flatMap_append, List.flatMap_cons, List.flatMap_nil, List.map_append, List.map_cons, List.map_nil, List.append_nil, List.nil_append]; rfl)) (vi_clean _)) resO0) (Tm.refL rfl ?_)
   all_goals (first | rfl | (simp only [List.length_take]; omega) | (simp only [List.length_append, List.length_cons, List.length_nil, List.length_modify, List.length_set, Nat.zero_add]; done) | (simp only [List.length_append, List.length_take, List.length_drop, List.length_cons, List.length_nil, List.length_modify, List.length_set, Nat.zero_add]; omega) | (simp only [List.length_append, List.length_take, List.length_drop, List.length_cons, List.length_nil, List.length_modify, List.length_set, Nat.zero_add]; done) | omega)
 | cons x l =>
  generalize ha : x :: l = a0 at *
  have nb : nilB (.imm (List.map vi a0) a0.length) = some false := by subst ha; rfl
  refine SndR.of_walkW hC (show K.P.funcs[37]? = some Try.f37 from Try.func37) rfl rfl (by decide +kernel) (Nat.le_of_ble_eq_true rfl) ?_
  unfold slices_Clone_int_int at h0
  refine awp_nr [0] (fun _ => rfl) fun tz => ?_
  refine awp_regW fun KK hKK => ?_
  refine xw_id ?_
  try simp only [go_sem, ↓iop_and, ↓iop_or, ↓iop_xor, ↓iop_andn, Nat.reduceEqDiff, reduceIte, Nat.reduceAdd, Nat.reduceMul, Nat.reduceSub, Nat.reduceLT, Nat.reduceLeDiff, ↓nb, Option.isSome_some, if_true, eq_self]
  refine hKK _ _ (Wk.refl _ _ _) ?_; clear hKK KK
  refine awp_assoc ?_
  refine awp_nr [0] (fun _ => rfl) fun tz => ?_
  refine awp_regW fun KK hKK => ?_
  refine xw_id ?_
  try simp only [go_sem, ↓iop_and, ↓iop_or, ↓iop_xor, ↓iop_andn, Nat.reduceEqDiff, reduceIte, Nat.reduceAdd, Nat.reduceMul, Nat.reduceSub, Nat.reduceLT, Nat.reduceLeDiff, ↓nb, Option.isSome_some, if_true, eq_self]
  refine hKK _ _ (Wk.refl _ _ _) ?_; clear hKK KK
  refine awp_condF rfl ?_
  refine awp_skip ?_
  refine awp_nr [0] (fun _ => rfl) fun tz => ?_
  refine awp_regW fun KK hKK => ?_
  refine xw_id ?_
  obtain ⟨x38, bx38, h0⟩ := bnd h0
  have bx38 := chk_some bx38
  simp only [Bool.and_eq_true, decide_eq_true_eq] at bx38
  have gx38_0 := bx38
  try simp only [go_sem, ↓iop_and, ↓iop_or, ↓iop_xor, ↓iop_andn, Nat.reduceEqDiff, reduceIte, Nat.reduceAdd, Nat.reduceMul, Nat.reduceSub, Nat.reduceLT, Nat.reduceLeDiff, Int.reduceToNat, Int.reduceBEq, Int.reduceBNe, Int.reduceLT, Int.reduceLE, Int.reduceAdd, Int.reduceSub, Int.reduceMul, Int.reduceNeg, Int.reduceEq, Int.reduceNe, ↓nb, Option.isSome_some, if_true, eq_self, gx38_0]
  refine hKK _ _ (Wk.refl _ _ _) ?_; clear hKK KK
  refine awp_ret1 ?_
  obtain rfl := someInj h0
  refine endW_i ?_
  refine end_ret0 rs37 (rfl) ?_
  refine Res.mk [] [some 5] rfl (resOU List.not_mem_nil (by simp only [upd_get, ↓iop_and, ↓iop_or, ↓iop_xor, ↓iop_andn, Nat.reduceEqDiff, reduceIte, Nat.reduceAdd, Nat.reduceMul, Nat.reduceSub, Nat.reduceLT, Nat.reduceLeDiff, if_true, if_false] <;> rfl) (TmL.of_eq (by first | rfl | (simp only [List.flatMap_append, List.flatMap_cons, List.flatMap_nil, List.map_append, List.map_cons, List.map_nil, List.append_nil, List.nil_append]; done) | (simp only [List.flatMap_append, List.flatMap_cons, List.flatMap_nil, List.map_append, List.map_cons, List.map_nil, List.append_nil, List.nil_append]; rfl)) (vi_clean _)) resO0) (Tm.refL rfl ?_)
  all_goals (first | rfl | (simp only [List.length_take]; omega) | (simp only [List.length_append, List.length_cons, List.length_nil, List.length_modify, List.length_set, Nat.zero_add]; done) | (simp only [List.length_append, List.length_take, List.length_drop, List.length_cons, List.length_nil, List.length_modify, List.length_set, Nat.zero_add]; omega) | (simp only [List.length_append, List.length_take, List.length_drop, List.length_cons, List.length_nil, List.length_modify, List.length_set, Nat.zero_add]; done) | omega)

theorem slices_Clone_int_int_m (a0 : (List Int)) {r : (List Int)} (h0 : slices_Clone_int_int a0 = some r) : SndM K 37 [(S_vi a0)] (fun q => (.ref (q 0) 0 r.length 1)) [(List.map vi r)] :=
 fun hs => Snd.of_newM (RenM.ref 0 0 _ _) (rows_all_cons (vi_clean _) rows_all_nil) (clean_cons (S_vi_clean _) clean_nil) (slices_Clone_int_int_r a0 h0) hs

theorem slices_Clone_int_int_e (a0 : (List Int)) {r : (List Int)} (h0 : slices_Clone_int_int a0 = some r) (fr : Nat) (hs : HS) : SndE K 37 [(S_vi a0)] hs fr ⟨(fun q : Nat → Nat => (.ref (q 0) 0 r.length 1)) fun _ => fr, .new (List.map vi r)⟩ :=
 SndE.of_res (RenM.ref 0 0 _ _) (vi_clean _) (clean_cons (S_vi_clean _) clean_nil) (fun a b h => by simp only [h]) (slices_Clone_int_int_r a0 h0) hs fr

theorem slices_Clone_int_int_p (a0 : (List Int)) {r : (List Int)} (h0 : slices_Clone_int_int a0 = some r) : SndP K 37 [(S_vi a0)] (S_vi r) :=
 SndM.pure (slices_Clone_int_int_m a0 h0) (S_vi_clean _) (clean_cons (S_vi_clean _) clean_nil) (by simp only [go_sem, newL_n, newL_c, upd_get, fz, nilS, cond_true, cond_false, List.drop_zero, List.take_length, List.length_map, ble_self, ↓iop_and, ↓iop_or, ↓iop_xor, ↓iop_andn, Nat.reduceEqDiff, reduceIte, Nat.reduceAdd, Nat.reduceMul, Nat.reduceSub, Nat.reduceLT, Nat.reduceLeDiff] <;> rfl)

end Go.AX.Z.TD

/-! (TDW cmp isNaN int) -/

set_option linter.unusedSimpArgs false
set_option linter.unusedVariables false
set_option maxHeartbeats 4000000
set_option maxRecDepth 20000
namespace Go.AX.Z.TD
open Go.AX Go.Proofs
attribute [local irreducible] awp xw xop xcall gsp ob xd xdop xcallD seqQ loopQ blkQ endQ


theorem cmp_isNaN_int_p (a0 : Int) {r : Bool} (h0 : cmp_isNaN_int a0 = some r) : SndP K 58 [(vi a0)] (vb r) := by
 refine SndP.of_walkW hC (Clean.v _) (clean_cons (Clean.v _) clean_nil) (show K.P.funcs[58]? = some Try.f58 from Try.func58) rfl rfl (by decide +kernel) (Nat.le_of_ble_eq_true rfl) ?_
 unfold cmp_isNaN_int at h0
 refine awp_nr [0] (fun _ => rfl) fun tz => ?_
 refine awp_regW fun KK hKK => ?_
 refine xw_id ?_
 try simp only [go_sem, ↓iop_and, ↓iop_or, ↓iop_xor, ↓iop_andn, Nat.reduceEqDiff, reduceIte, Nat.reduceAdd, Nat.reduceMul, Nat.reduceSub, Nat.reduceLT, Nat.reduceLeDiff]
 refine hKK _ _ (Wk.refl _ _ _) ?_; clear hKK KK
 refine awp_nr [0] (fun _ => rfl) fun tz => ?_
 refine awp_regW fun KK hKK => ?_
 refine xw_id ?_
 try simp only [go_sem, ↓iop_and, ↓iop_or, ↓iop_xor, ↓iop_andn, Nat.reduceEqDiff, reduceIte, Nat.reduceAdd, Nat.reduceMul, Nat.reduceSub, Nat.reduceLT, Nat.reduceLeDiff]
 refine hKK _ _ (Wk.refl _ _ _) ?_; clear hKK KK
 refine awp_ret1 ?_
 obtain rfl := someInj h0
 refine endW_i ?_
 refine end_ret0 rs58 (rfl) ?_
 try simp only [go_sem, ↓iop_and, ↓iop_or, ↓iop_xor, ↓iop_andn, Nat.reduceEqDiff, reduceIte, Nat.reduceAdd, Nat.reduceMul, Nat.reduceSub, Nat.reduceLT, Nat.reduceLeDiff, fz, nilS, packR, List.take_nil, List.take_length, List.length_map, List.length_append, cond_true, cond_false, Nat.ble_eq, ble_self]
 all_goals first | rfl | (simp only [go_sem, ↓iop_and, ↓iop_or, ↓iop_xor, ↓iop_andn, Nat.reduceEqDiff, reduceIte, Nat.reduceAdd, Nat.reduceMul, Nat.reduceSub, Nat.reduceLT, Nat.reduceLeDiff, fz, nilS, packR, List.take_nil, List.take_length, List.length_map, List.length_append, cond_true, cond_false, Nat.ble_eq, ble_self, List.map_append] <;> rfl)

end Go.AX.Z.TD

/-! (TDW cmp Less int) -/

set_option linter.unusedSimpArgs false
set_option linter.unusedVariables false
set_option maxHeartbeats 4000000
set_option maxRecDepth 20000
namespace Go.AX.Z.TD
open Go.AX Go.Proofs
attribute [local irreducible] awp xw xop xcall gsp ob xd xdop xcallD seqQ loopQ blkQ endQ


theorem cmp_Less_int_p (a0 : Int) (a1 : Int) {r : Bool} (h0 : cmp_Less_int a0 a1 = some r) : SndP K 50 [(vi a0), (vi a1)] (vb r) := by
 refine SndP.of_walkW hC (Clean.v _) (clean_cons (Clean.v _) (clean_cons (Clean.v _) clean_nil)) (show K.P.funcs[50]? = some Try.f50 from Try.func50) rfl rfl (by decide +kernel) (Nat.le_of_ble_eq_true rfl) ?_
 unfold cmp_Less_int at h0
 refine awp_nr [0,1] (fun _ => rfl) fun tz => ?_
 refine awp_regW fun KK hKK => ?_
 refine xw_id ?_
 try simp only [go_sem, ↓iop_and, ↓iop_or, ↓iop_xor, ↓iop_andn, Nat.reduceEqDiff, reduceIte, Nat.reduceAdd, Nat.reduceMul, Nat.reduceSub, Nat.reduceLT, Nat.reduceLeDiff]
 refine hKK _ _ (Wk.refl _ _ _) ?_; clear hKK KK
 refine awp_nr [0,1] (fun _ => rfl) fun tz => ?_
 refine awp_regW fun KK hKK => ?_
 refine xw_id ?_
 obtain ⟨x42, bx42, h0⟩ := bnd h0
 try simp only [go_sem, ↓iop_and, ↓iop_or, ↓iop_xor, ↓iop_andn, Nat.reduceEqDiff, reduceIte, Nat.reduceAdd, Nat.reduceMul, Nat.reduceSub, Nat.reduceLT, Nat.reduceLeDiff]
 refine xcall_p (cmp_isNaN_int_p a0 bx42) ?_; try dsimp only
 try refine xw_id ?_
 refine xw_stop 1 (by (try simp only [go_sem]); rfl) (by (try simp only [go_sem]); rfl) (by rfl) fun K1 hK1 => ?_
 refine xw_id ?_
 try simp only [go_sem, ↓iop_and, ↓iop_or, ↓iop_xor, ↓iop_andn, Nat.reduceEqDiff, reduceIte, Nat.reduceAdd, Nat.reduceMul, Nat.reduceSub, Nat.reduceLT, Nat.reduceLeDiff]
 refine hK1 _ ?_; clear hK1 K1
 obtain ⟨x44, hvh1, h0⟩ := bnd h0
 refine xw_cut 4 [(0, (vi a0)), (1, (vi a1)), (11, (vb x44))] (by (try simp only [go_sem]); rfl) (by (try simp only [go_sem]); rfl) (by rfl) (fun K1 hK1 => ?_) fun tz => ?_
 ·
  refine xw_id ?_
  rcases Bool.eq_false_or_eq_true x42 with h1 | h1
  ·
   have hvh1 := cT hvh1 h1
   obtain ⟨x43, bx43, hvh1⟩ := bnd hvh1
   try simp only [go_sem, ↓iop_and, ↓iop_or, ↓iop_xor, ↓iop_andn, Nat.reduceEqDiff, reduceIte, Nat.reduceAdd, Nat.reduceMul, Nat.reduceSub, Nat.reduceLT, Nat.reduceLeDiff, h1]
   refine xcall_p (cmp_isNaN_int_p a1 bx43) ?_; try dsimp only
   try refine xw_id ?_
   try simp only [go_sem, ↓iop_and, ↓iop_or, ↓iop_xor, ↓iop_andn, Nat.reduceEqDiff, reduceIte, Nat.reduceAdd, Nat.reduceMul, Nat.reduceSub, Nat.reduceLT, Nat.reduceLeDiff, h1]
   obtain rfl := someInj hvh1
   exact hK1 _ ⟨rfl, rfl, rfl, (by first | rfl | (rw [h1]; rfl) | (simp only [h1, Bool.true_and, Bool.false_and, Bool.true_or, Bool.false_or, cond_true, cond_false]; done)), trivial⟩
  ·
   have hvh1 := cF hvh1 h1
   try simp only [go_sem, ↓iop_and, ↓iop_or, ↓iop_xor, ↓iop_andn, Nat.reduceEqDiff, reduceIte, Nat.reduceAdd, Nat.reduceMul, Nat.reduceSub, Nat.reduceLT, Nat.reduceLeDiff, h1]
   obtain rfl := someInj hvh1
   exact hK1 _ ⟨rfl, rfl, rfl, (by first | rfl | (rw [h1]; rfl) | (simp only [h1, Bool.true_and, Bool.false_and, Bool.true_or, Bool.false_or, cond_true, cond_false]; done)), trivial⟩
 ·
  refine xw_id ?_
  refine xw_stop 1 (by (try simp only [go_sem]); rfl) (by (try simp only [go_sem]); rfl) (by rfl) fun K1 hK1 => ?_
  refine xw_id ?_
  try simp only [go_sem, ↓iop_and, ↓iop_or, ↓iop_xor, ↓iop_andn, Nat.reduceEqDiff, reduceIte, Nat.reduceAdd, Nat.reduceMul, Nat.reduceSub, Nat.reduceLT, Nat.reduceLeDiff]
  refine hK1 _ ?_; clear hK1 K1
  refine xw_cut 4 [(16, (vb (x44 || (decide (a0 < a1)))))] (by (try simp only [go_sem]); rfl) (by (try simp only [go_sem]); rfl) (by rfl) (fun K1 hK1 => ?_) fun tz => ?_
  ·
   refine xw_id ?_
   rcases Bool.eq_false_or_eq_true x44 with h2 | h2
   ·
    try simp only [go_sem, ↓iop_and, ↓iop_or, ↓iop_xor, ↓iop_andn, Nat.reduceEqDiff, reduceIte, Nat.reduceAdd, Nat.reduceMul, Nat.reduceSub, Nat.reduceLT, Nat.reduceLeDiff, h2]
    exact hK1 _ ⟨rfl, (by first | rfl | (rw [h2]; rfl) | (simp only [h2, Bool.true_and, Bool.false_and, Bool.true_or, Bool.false_or, cond_true, cond_false]; done)), trivial⟩
   ·
    try simp only [go_sem, ↓iop_and, ↓iop_or, ↓iop_xor, ↓iop_andn, Nat.reduceEqDiff, reduceIte, Nat.reduceAdd, Nat.reduceMul, Nat.reduceSub, Nat.reduceLT, Nat.reduceLeDiff, h2]
    exact hK1 _ ⟨rfl, (by first | rfl | (rw [h2]; rfl) | (simp only [h2, Bool.true_and, Bool.false_and, Bool.true_or, Bool.false_or, cond_true, cond_false]; done)), trivial⟩
  ·
   refine xw_id ?_
   try simp only [go_sem, ↓iop_and, ↓iop_or, ↓iop_xor, ↓iop_andn, Nat.reduceEqDiff, reduceIte, Nat.reduceAdd, Nat.reduceMul, Nat.reduceSub, Nat.reduceLT, Nat.reduceLeDiff]
   refine hKK _ _ (Wk.refl _ _ _) ?_; clear hKK KK
   refine awp_ret1 ?_
   obtain rfl := someInj h0
   refine endW_i ?_
   refine end_ret0 rs50 (rfl) ?_
   try simp only [go_sem, ↓iop_and, ↓iop_or, ↓iop_xor, ↓iop_andn, Nat.reduceEqDiff, reduceIte, Nat.reduceAdd, Nat.reduceMul, Nat.reduceSub, Nat.reduceLT, Nat.reduceLeDiff, fz, nilS, packR, List.take_nil, List.take_length, List.length_map, List.length_append, cond_true, cond_false, Nat.ble_eq, ble_self]
   all_goals first | rfl | (simp only [go_sem, ↓iop_and, ↓iop_or, ↓iop_xor, ↓iop_andn, Nat.reduceEqDiff, reduceIte, Nat.reduceAdd, Nat.reduceMul, Nat.reduceSub, Nat.reduceLT, Nat.reduceLeDiff, fz, nilS, packR, List.take_nil, List.take_length, List.length_map, List.length_append, cond_true, cond_false, Nat.ble_eq, ble_self, List.map_append] <;> rfl)

end Go.AX.Z.TD

/-! (TDW slices isNaN int) -/

set_option linter.unusedSimpArgs false
set_option linter.unusedVariables false
set_option maxHeartbeats 4000000
set_option maxRecDepth 20000
namespace Go.AX.Z.TD
open Go.AX Go.Proofs
attribute [local irreducible] awp xw xop xcall gsp ob xd xdop xcallD seqQ loopQ blkQ endQ


theorem slices_isNaN_int_p (a0 : Int) {r : Bool} (h0 : slices_isNaN_int a0 = some r) : SndP K 51 [(vi a0)] (vb r) := by
 refine SndP.of_walkW hC (Clean.v _) (clean_cons (Clean.v _) clean_nil) (show K.P.funcs[51]? = some Try.f51 from Try.func51) rfl rfl (by decide +kernel) (Nat.le_of_ble_eq_true rfl) ?_
 unfold slices_isNaN_int at h0
 refine awp_nr [0] (fun _ => rfl) fun tz => ?_
 refine awp_regW fun KK hKK => ?_
 refine xw_id ?_
 try simp only [go_sem, ↓iop_and, ↓iop_or, ↓iop_xor, ↓iop_andn, Nat.reduceEqDiff, reduceIte, Nat.reduceAdd, Nat.reduceMul, Nat.reduceSub, Nat.reduceLT, Nat.reduceLeDiff]
 refine hKK _ _ (Wk.refl _ _ _) ?_; clear hKK KK
 refine awp_nr [0] (fun _ => rfl) fun tz => ?_
 refine awp_regW fun KK hKK => ?_
 refine xw_id ?_
 try simp only [go_sem, ↓iop_and, ↓iop_or, ↓iop_xor, ↓iop_andn, Nat.reduceEqDiff, reduceIte, Nat.reduceAdd, Nat.reduceMul, Nat.reduceSub, Nat.reduceLT, Nat.reduceLeDiff]
 refine hKK _ _ (Wk.refl _ _ _) ?_; clear hKK KK
 refine awp_ret1 ?_
 obtain rfl := someInj h0
 refine endW_i ?_
 refine end_ret0 rs51 (rfl) ?_
 try simp only [go_sem, ↓iop_and, ↓iop_or, ↓iop_xor, ↓iop_andn, Nat.reduceEqDiff, reduceIte, Nat.reduceAdd, Nat.reduceMul, Nat.reduceSub, Nat.reduceLT, Nat.reduceLeDiff, fz, nilS, packR, List.take_nil, List.take_length, List.length_map, List.length_append, cond_true, cond_false, Nat.ble_eq, ble_self]
 all_goals first | rfl | (simp only [go_sem, ↓iop_and, ↓iop_or, ↓iop_xor, ↓iop_andn, Nat.reduceEqDiff, reduceIte, Nat.reduceAdd, Nat.reduceMul, Nat.reduceSub, Nat.reduceLT, Nat.reduceLeDiff, fz, nilS, packR, List.take_nil, List.take_length, List.length_map, List.length_append, cond_true, cond_false, Nat.ble_eq, ble_self, List.map_append] <;> rfl)

end Go.AX.Z.TD

/-! (TDW slices BinarySearch int int) -/

set_option linter.unusedSimpArgs false
set_option linter.unusedVariables false
set_option maxHeartbeats 4000000
set_option maxRecDepth 20000
namespace Go.AX.Z.TD
open Go.AX Go.Proofs
attribute [local irreducible] awp xw xop xcall gsp ob xd xdop xcallD seqQ loopQ blkQ endQ

def slices_BinarySearch_int_int_S0 (a0 : (List Int)) (a1 : Int) (d40 : Int) : AS :=
 { objs := (fun _ => .dead), next := 0, tmps := (upd (upd (upd (upd (fun _ => .unk) 0 (.imm (List.map vi a0) a0.length)) 1 (vi a1)) 6 (vi (a0.length : Int))) 7 (vi d40)) }

def slices_BinarySearch_int_int_S1 (a0 : (List Int)) (a1 : Int) (d41 : (Int × Int)) : AS :=
 { objs := (fun _ => .dead), next := 0, tmps := (upd (upd (upd (upd (upd (fun _ => .unk) 0 (.imm (List.map vi a0) a0.length)) 1 (vi a1)) 6 (vi (a0.length : Int))) 7 (vi d41.1)) 8 (vi d41.2)) }

theorem slices_BinarySearch_int_int_p (a0 : (List Int)) (a1 : Int) {r : (Int × Bool)} (h0 : slices_BinarySearch_int_int a0 a1 = some r) : SndP K 38 [(S_vi a0), (vi a1)] (.tup [(vi r.1), (vb r.2)]) := by
 refine SndP.of_walkW hC (Clean.tup (clean_cons (Clean.v _) (clean_cons (Clean.v _) clean_nil))) (clean_cons (S_vi_clean _) (clean_cons (Clean.v _) clean_nil)) (show K.P.funcs[38]? = some Try.f38 from Try.func38) rfl rfl (by decide +kernel) (Nat.le_of_ble_eq_true rfl) ?_
 unfold slices_BinarySearch_int_int at h0
 refine awp_nr [0,1] (fun _ => rfl) fun tz => ?_
 refine awp_regW fun KK hKK => ?_
 refine xw_id ?_
 try simp only [go_sem, ↓iop_and, ↓iop_or, ↓iop_xor, ↓iop_andn, Nat.reduceEqDiff, reduceIte, Nat.reduceAdd, Nat.reduceMul, Nat.reduceSub, Nat.reduceLT, Nat.reduceLeDiff]
 refine hKK _ _ (Wk.refl _ _ _) ?_; clear hKK KK
 refine awp_nr [0,1] (fun _ => rfl) fun tz => ?_
 refine awp_regW fun KK hKK => ?_
 refine xw_id ?_
 try simp only [go_sem, ↓iop_and, ↓iop_or, ↓iop_xor, ↓iop_andn, Nat.reduceEqDiff, reduceIte, Nat.reduceAdd, Nat.reduceMul, Nat.reduceSub, Nat.reduceLT, Nat.reduceLeDiff, Int.reduceToNat, Int.reduceBEq, Int.reduceBNe, Int.reduceLT, Int.reduceLE, Int.reduceAdd, Int.reduceSub, Int.reduceMul, Int.reduceNeg, Int.reduceEq, Int.reduceNe]
 refine hKK _ _ (Wk.refl _ _ _) ?_; clear hKK KK
 refine awp_nr [0,1,6] (fun _ => rfl) fun tz => ?_
 refine awp_regW fun KK hKK => ?_
 refine xw_id ?_
 try simp only [go_sem, ↓iop_and, ↓iop_or, ↓iop_xor, ↓iop_andn, Nat.reduceEqDiff, reduceIte, Nat.reduceAdd, Nat.reduceMul, Nat.reduceSub, Nat.reduceLT, Nat.reduceLeDiff]
 refine hKK _ _ (Wk.refl _ _ _) ?_; clear hKK KK
 obtain ⟨d40, hi1, h0⟩ := bnd h0
 refine awp_cut (fun z => d40 = z) (fun d40 : Int => slices_BinarySearch_int_int_S0 a0 a1 d40) ?_ ?_
 ·
  refine awp_block1 ?_
  refine awp_loopS (fun n (d41 : (Int × Int)) => slices_BinarySearch_int_int_L2 a0 a1 n d41 = some d40) (fun d41 : (Int × Int) => slices_BinarySearch_int_int_S1 a0 a1 d41) big (0, (a0.length : Int)) (Wk.canonD [] [] [] rfl trivial rfl tmO0 (tmAllU 8 (tmAllU 7 (tmAllU 6 (tmAllU 1 (tmAllU 0 tmAll0 (Tm.clean (Clean.imm (vi_clean _)))) (Tm.v _)) (Tm.v _)) (Tm.v _)) (Tm.v _))) hi1 ?_
  clear hi1
  rintro n d41 hl3
  rcases n with _ | n2
  ·
   (rw [slices_BinarySearch_int_int_L2] at hl3; cases hl3)
  ·
   rw [slices_BinarySearch_int_int_L2] at hl3
   unfold slices_BinarySearch_int_int_S1
   refine awp_assoc ?_
   refine awp_nr [0,1,6,7,8] (fun _ => rfl) fun tz => ?_
   refine awp_regW fun KK hKK => ?_
   refine xw_id ?_
   try simp only [go_sem, ↓iop_and, ↓iop_or, ↓iop_xor, ↓iop_andn, Nat.reduceEqDiff, reduceIte, Nat.reduceAdd, Nat.reduceMul, Nat.reduceSub, Nat.reduceLT, Nat.reduceLeDiff]
   refine hKK _ _ (Wk.refl _ _ _) ?_; clear hKK KK
   refine awp_cond (b := (decide (d41.1 < d41.2))) rfl (fun h4 => ?_) (fun h4 => ?_)
   ·
    have hl3 := cT hl3 h4
    refine awp_skip ?_
    refine awp_block1 ?_
    refine awp_nr [0,1,6,7,8] (fun _ => rfl) fun tz => ?_
    refine awp_regW fun KK hKK => ?_
    refine xw_id ?_
    try simp only [go_sem, ↓iop_and, ↓iop_or, ↓iop_xor, ↓iop_andn, Nat.reduceEqDiff, reduceIte, Nat.reduceAdd, Nat.reduceMul, Nat.reduceSub, Nat.reduceLT, Nat.reduceLeDiff, Int.reduceToNat, Int.reduceBEq, Int.reduceBNe, Int.reduceLT, Int.reduceLE, Int.reduceAdd, Int.reduceSub, Int.reduceMul, Int.reduceNeg, Int.reduceEq, Int.reduceNe]
    refine hKK _ _ (Wk.refl _ _ _) ?_; clear hKK KK
    refine awp_nr [0,1,6,7,8,9] (fun _ => rfl) fun tz => ?_
    refine awp_regW fun KK hKK => ?_
    refine xw_id ?_
    obtain ⟨x42, bx42, hl3⟩ := bnd hl3
    obtain ⟨fx42_0, fx42_1, fx42_2, fx42_3⟩ := idx_some bx42
    obtain ⟨x43, bx43, hl3⟩ := bnd hl3
    try simp only [go_sem, ↓iop_and, ↓iop_or, ↓iop_xor, ↓iop_andn, Nat.reduceEqDiff, reduceIte, Nat.reduceAdd, Nat.reduceMul, Nat.reduceSub, Nat.reduceLT, Nat.reduceLeDiff, fx42_0, fx42_1, fx42_2]
    refine xcall_p (cmp_Less_int_p x42 a1 bx43) ?_; try dsimp only
    try refine xw_id ?_
    try simp only [go_sem, ↓iop_and, ↓iop_or, ↓iop_xor, ↓iop_andn, Nat.reduceEqDiff, reduceIte, Nat.reduceAdd, Nat.reduceMul, Nat.reduceSub, Nat.reduceLT, Nat.reduceLeDiff, fx42_0, fx42_1, fx42_2]
    refine hKK _ _ (Wk.refl _ _ _) ?_; clear hKK KK
    refine awp_cond1 (b := x43) rfl (fun h5 => ?_) (fun h5 => ?_)
    ·
     have hl3 := cT hl3 h5
     refine awp_nr1 [0,1,6,8,9] (fun _ => rfl) fun tz => ?_
     refine awp_reg1 fun KK hKK => ?_
     refine xw_id ?_
     try simp only [go_sem, ↓iop_and, ↓iop_or, ↓iop_xor, ↓iop_andn, Nat.reduceEqDiff, reduceIte, Nat.reduceAdd, Nat.reduceMul, Nat.reduceSub, Nat.reduceLT, Nat.reduceLeDiff, fx42_0, fx42_1, fx42_2]
     refine hKK _ ?_; clear hKK KK
     refine bq_n ?_
     refine lq_n ?_
     exact ⟨n2, (IntKind.wrap .i64 ((IntKind.wrap .i64 (((IntKind.wrap .u64 (IntKind.wrap .i64 (d41.1 + d41.2)))).fdiv (2 ^ (min 1 64)))) + 1), d41.2), rfl, hl3, (Wk.canonD [] [] [] rfl trivial rfl tmO0 (tmAllU 8 (tmAllU 7 (tmAllU 6 (tmAllU 1 (tmAllU 0 tmAll0 (Tm.clean (Clean.imm (vi_clean _)))) (Tm.v _)) (Tm.v _)) (Tm.v _)) (Tm.v _)))⟩
    ·
     have hl3 := cF hl3 h5
     refine awp_nr1 [0,1,6,7,9] (fun _ => rfl) fun tz => ?_
     refine awp_reg1 fun KK hKK => ?_
     refine xw_id ?_
     try simp only [go_sem, ↓iop_and, ↓iop_or, ↓iop_xor, ↓iop_andn, Nat.reduceEqDiff, reduceIte, Nat.reduceAdd, Nat.reduceMul, Nat.reduceSub, Nat.reduceLT, Nat.reduceLeDiff, fx42_0, fx42_1, fx42_2]
     refine hKK _ ?_; clear hKK KK
     refine bq_n ?_
     refine lq_n ?_
     exact ⟨n2, (d41.1, IntKind.wrap .i64 (((IntKind.wrap .u64 (IntKind.wrap .i64 (d41.1 + d41.2)))).fdiv (2 ^ (min 1 64)))), rfl, hl3, (Wk.canonD [] [] [] rfl trivial rfl tmO0 (tmAllU 8 (tmAllU 7 (tmAllU 6 (tmAllU 1 (tmAllU 0 tmAll0 (Tm.clean (Clean.imm (vi_clean _)))) (Tm.v _)) (Tm.v _)) (Tm.v _)) (Tm.v _)))⟩
   ·
    have hl3 := cF hl3 h4
    refine awp_exit ?_
    refine lq_e ?_
    refine bq_e ?_
    refine sq_n ?_
    obtain rfl := someInj hl3
    exact ⟨_, rfl, (Wk.canonD [] [] [] rfl trivial rfl tmO0 (tmAllU 7 (tmAllU 6 (tmAllU 1 (tmAllU 0 tmAll0 (Tm.clean (Clean.imm (vi_clean _)))) (Tm.v _)) (Tm.v _)) (Tm.v _)))⟩
 ·
  rintro _ rfl
  clear hi1
  unfold slices_BinarySearch_int_int_S0
  refine awp_nr [0,1,6,7] (fun _ => rfl) fun tz => ?_
  refine awp_regW fun KK hKK => ?_
  refine xw_id ?_
  refine xw_stop 5 (by (try simp only [go_sem]); rfl) (by (try simp only [go_sem]); rfl) (by rfl) fun K1 hK1 => ?_
  refine xw_id ?_
  try simp only [go_sem, ↓iop_and, ↓iop_or, ↓iop_xor, ↓iop_andn, Nat.reduceEqDiff, reduceIte, Nat.reduceAdd, Nat.reduceMul, Nat.reduceSub, Nat.reduceLT, Nat.reduceLeDiff]
  refine hK1 _ ?_; clear hK1 K1
  obtain ⟨x49, hvh6, h0⟩ := bnd h0
  refine xw_cut 18 [(31, (vi d40)), (53, (vb x49))] (by (try simp only [go_sem]); rfl) (by (try simp only [go_sem]); rfl) (by rfl) (fun K1 hK1 => ?_) fun tz => ?_
  ·
   refine xw_id ?_
   rcases Bool.eq_false_or_eq_true (decide (d40 < (a0.length : Int))) with h6 | h6
   ·
    have hvh6 := cT hvh6 h6
    obtain ⟨x44, bx44, hvh6⟩ := bnd hvh6
    obtain ⟨fx44_0, fx44_1, fx44_2, fx44_3⟩ := idx_some bx44
    refine xw_stop 7 (by (try simp only [go_sem]); rfl) (by (try simp only [go_sem]); rfl) (by rfl) fun K1 hK1 => ?_
    refine xw_id ?_
    try simp only [go_sem, ↓iop_and, ↓iop_or, ↓iop_xor, ↓iop_andn, Nat.reduceEqDiff, reduceIte, Nat.reduceAdd, Nat.reduceMul, Nat.reduceSub, Nat.reduceLT, Nat.reduceLeDiff, h6, fx44_0, fx44_1, fx44_2]
    refine hK1 _ ?_; clear hK1 K1
    obtain ⟨x48, hvh7, hvh6⟩ := bnd hvh6
    refine xw_cut 10 [(31, (vi d40)), (35, (vb true)), (52, (vb x48))] (by (try simp only [go_sem]); rfl) (by (try simp only [go_sem]); rfl) (by rfl) (fun K1 hK1 => ?_) fun tz => ?_
    ·
     refine xw_id ?_
     rcases Bool.eq_false_or_eq_true (x44 == a1) with h7 | h7
     ·
      have hvh7 := cT hvh7 h7
      try simp only [go_sem, ↓iop_and, ↓iop_or, ↓iop_xor, ↓iop_andn, Nat.reduceEqDiff, reduceIte, Nat.reduceAdd, Nat.reduceMul, Nat.reduceSub, Nat.reduceLT, Nat.reduceLeDiff, h6, fx44_0, fx44_1, fx44_2, h7]
      obtain rfl := someInj hvh7
      exact hK1 _ ⟨rfl, rfl, rfl, (by first | rfl | (rw [h7]; rfl) | (simp only [h7, Bool.true_and, Bool.false_and, Bool.true_or, Bool.false_or, cond_true, cond_false]; done)), trivial⟩
     ·
      have hvh7 := cF hvh7 h7
      obtain ⟨x45, bx45, hvh7⟩ := bnd hvh7
      try simp only [go_sem, ↓iop_and, ↓iop_or, ↓iop_xor, ↓iop_andn, Nat.reduceEqDiff, reduceIte, Nat.reduceAdd, Nat.reduceMul, Nat.reduceSub, Nat.reduceLT, Nat.reduceLeDiff, h6, fx44_0, fx44_1, fx44_2, h7]
      refine xcall_p (slices_isNaN_int_p x44 bx45) ?_; try dsimp only
      try refine xw_id ?_
      refine xw_stop 1 (by (try simp only [go_sem]); rfl) (by (try simp only [go_sem]); rfl) (by rfl) fun K1 hK1 => ?_
      refine xw_id ?_
      try simp only [go_sem, ↓iop_and, ↓iop_or, ↓iop_xor, ↓iop_andn, Nat.reduceEqDiff, reduceIte, Nat.reduceAdd, Nat.reduceMul, Nat.reduceSub, Nat.reduceLT, Nat.reduceLeDiff, h6, fx44_0, fx44_1, fx44_2, h7]
      refine hK1 _ ?_; clear hK1 K1
      obtain ⟨x47, hvh8, hvh7⟩ := bnd hvh7
      refine xw_cut 3 [(31, (vi d40)), (35, (vb true)), (42, (vb false)), (51, (vb x47))] (by (try simp only [go_sem]); rfl) (by (try simp only [go_sem]); rfl) (by rfl) (fun K1 hK1 => ?_) fun tz => ?_
      ·
       refine xw_id ?_
       rcases Bool.eq_false_or_eq_true x45 with h8 | h8
       ·
        have hvh8 := cT hvh8 h8
        obtain ⟨x46, bx46, hvh8⟩ := bnd hvh8
        try simp only [go_sem, ↓iop_and, ↓iop_or, ↓iop_xor, ↓iop_andn, Nat.reduceEqDiff, reduceIte, Nat.reduceAdd, Nat.reduceMul, Nat.reduceSub, Nat.reduceLT, Nat.reduceLeDiff, h6, fx44_0, fx44_1, fx44_2, h7, h8]
        refine xcall_p (slices_isNaN_int_p a1 bx46) ?_; try dsimp only
        try refine xw_id ?_
        try simp only [go_sem, ↓iop_and, ↓iop_or, ↓iop_xor, ↓iop_andn, Nat.reduceEqDiff, reduceIte, Nat.reduceAdd, Nat.reduceMul, Nat.reduceSub, Nat.reduceLT, Nat.reduceLeDiff, h6, fx44_0, fx44_1, fx44_2, h7, h8]
        obtain rfl := someInj hvh8
        exact hK1 _ ⟨rfl, rfl, rfl, rfl, (by first | rfl | (rw [h8]; rfl) | (simp only [h8, Bool.true_and, Bool.false_and, Bool.true_or, Bool.false_or, cond_true, cond_false]; done)), trivial⟩
       ·
        have hvh8 := cF hvh8 h8
        try simp only [go_sem, ↓iop_and, ↓iop_or, ↓iop_xor, ↓iop_andn, Nat.reduceEqDiff, reduceIte, Nat.reduceAdd, Nat.reduceMul, Nat.reduceSub, Nat.reduceLT, Nat.reduceLeDiff, h6, fx44_0, fx44_1, fx44_2, h7, h8]
        obtain rfl := someInj hvh8
        exact hK1 _ ⟨rfl, rfl, rfl, rfl, (by first | rfl | (rw [h8]; rfl) | (simp only [h8, Bool.true_and, Bool.false_and, Bool.true_or, Bool.false_or, cond_true, cond_false]; done)), trivial⟩
      ·
       refine xw_id ?_
       try simp only [go_sem, ↓iop_and, ↓iop_or, ↓iop_xor, ↓iop_andn, Nat.reduceEqDiff, reduceIte, Nat.reduceAdd, Nat.reduceMul, Nat.reduceSub, Nat.reduceLT, Nat.reduceLeDiff, h6, fx44_0, fx44_1, fx44_2, h7]
       obtain rfl := someInj hvh7
       exact hK1 _ ⟨rfl, rfl, rfl, (by first | rfl | (rw [h7]; rfl) | (simp only [h7, Bool.true_and, Bool.false_and, Bool.true_or, Bool.false_or, cond_true, cond_false]; done)), trivial⟩
    ·
     refine xw_id ?_
     try simp only [go_sem, ↓iop_and, ↓iop_or, ↓iop_xor, ↓iop_andn, Nat.reduceEqDiff, reduceIte, Nat.reduceAdd, Nat.reduceMul, Nat.reduceSub, Nat.reduceLT, Nat.reduceLeDiff, h6, fx44_0, fx44_1, fx44_2]
     obtain rfl := someInj hvh6
     exact hK1 _ ⟨rfl, rfl, (by first | rfl | (rw [h6]; rfl) | (simp only [h6, Bool.true_and, Bool.false_and, Bool.true_or, Bool.false_or, cond_true, cond_false]; done)), trivial⟩
   ·
    have hvh6 := cF hvh6 h6
    try simp only [go_sem, ↓iop_and, ↓iop_or, ↓iop_xor, ↓iop_andn, Nat.reduceEqDiff, reduceIte, Nat.reduceAdd, Nat.reduceMul, Nat.reduceSub, Nat.reduceLT, Nat.reduceLeDiff, h6]
    obtain rfl := someInj hvh6
    exact hK1 _ ⟨rfl, rfl, (by first | rfl | (rw [h6]; rfl) | (simp only [h6, Bool.true_and, Bool.false_and, Bool.true_or, Bool.false_or, cond_true, cond_false]; done)), trivial⟩
  ·
   refine xw_id ?_
   try simp only [go_sem, ↓iop_and, ↓iop_or, ↓iop_xor, ↓iop_andn, Nat.reduceEqDiff, reduceIte, Nat.reduceAdd, Nat.reduceMul, Nat.reduceSub, Nat.reduceLT, Nat.reduceLeDiff]
   refine hKK _ _ (Wk.refl _ _ _) ?_; clear hKK KK
   refine awp_ret1 ?_
   obtain rfl := someInj h0
   refine endW_i ?_
   refine end_ret0 rs38 (rfl) ?_
   try simp only [go_sem, ↓iop_and, ↓iop_or, ↓iop_xor, ↓iop_andn, Nat.reduceEqDiff, reduceIte, Nat.reduceAdd, Nat.reduceMul, Nat.reduceSub, Nat.reduceLT, Nat.reduceLeDiff, fz, nilS, packR, List.take_nil, List.take_length, List.length_map, List.length_append, cond_true, cond_false, Nat.ble_eq, ble_self]
   all_goals first | rfl | (simp only [go_sem, ↓iop_and, ↓iop_or, ↓iop_xor, ↓iop_andn, Nat.reduceEqDiff, reduceIte, Nat.reduceAdd, Nat.reduceMul, Nat.reduceSub, Nat.reduceLT, Nat.reduceLeDiff, fz, nilS, packR, List.take_nil, List.take_length, List.length_map, List.length_append, cond_true, cond_false, Nat.ble_eq, ble_self, List.map_append] <;> rfl)

end Go.AX.Z.TD
