/- A part of the proof: walks through the functions that the statement reaches. -/
import Derived.Test.YtnkikepecbjfdaaWalka
set_option linter.unusedVariables false
set_option linter.unusedSimpArgs false

/-! (TRW hotspotlaw18 numbers) -/

set_option linter.unusedSimpArgs false
set_option linter.unusedVariables false
set_option maxHeartbeats 4000000
set_option maxRecDepth 20000
namespace Go.AX.Z.TR
open Go.AX Go.Proofs
attribute [local irreducible] awp xw xop xcall gsp ob xd xdop xcallD seqQ loopQ blkQ endQ

def hotspotlaw18_numbers_S0 (d53 : Unit) : AS :=
 { objs := (fun _ => .dead), next := 0, tmps := (fun _ => .unk) }

def hotspotlaw18_numbers_S1 (a0 : (List Frame)) (a1 : (List Int)) (d55 : Int) : AS :=
 { objs := (fun _ => .dead), next := 0, tmps := (upd (upd (upd (fun _ => .unk) 0 (.imm (List.flatMap E_Frame a0) a0.length)) 1 (.imm (List.map vi a1) a1.length)) 5 (vi d55)) }

theorem hotspotlaw18_numbers_p (a0 : (List Frame)) (a1 : (List Int)) {r : Bool} (h0 : hotspotlaw18_numbers a0 a1 = some r) : SndP K 34 [(S_Frame a0), (S_vi a1)] (vb r) := by
 refine SndP.of_walkW hC (Clean.v _) (clean_cons (S_Frame_clean _) (clean_cons (S_vi_clean _) clean_nil)) (show K.P.funcs[34]? = some Try.f34 from Try.func34) rfl rfl (by decide +kernel) (Nat.le_of_ble_eq_true rfl) ?_
 unfold hotspotlaw18_numbers at h0
 refine awp_nr [0,1] (fun _ => rfl) fun tz => ?_
 refine awp_regW fun KK hKK => ?_
 refine xw_id ?_
 try simp only [go_sem, Nat.reduceEqDiff, reduceIte, Nat.reduceAdd, Nat.reduceMul, Nat.reduceSub, Nat.reduceLT, Nat.reduceLeDiff]
 refine hKK _ _ (Wk.refl _ _ _) ?_; clear hKK KK
 refine awp_assoc ?_
 refine awp_nr [0,1] (fun _ => rfl) fun tz => ?_
 refine awp_regW fun KK hKK => ?_
 refine xw_id ?_
 try simp only [go_sem, Nat.reduceEqDiff, reduceIte, Nat.reduceAdd, Nat.reduceMul, Nat.reduceSub, Nat.reduceLT, Nat.reduceLeDiff, Int.reduceToNat, Int.reduceBEq, Int.reduceBNe, Int.reduceLT, Int.reduceLE, Int.reduceAdd, Int.reduceSub, Int.reduceMul, Int.reduceNeg, Int.reduceEq, Int.reduceNe]
 refine hKK _ _ (Wk.refl _ _ _) ?_; clear hKK KK
 refine awp_cond (b := ((a0.length : Int) != (a1.length : Int))) rfl (fun h1 => ?_) (fun h1 => ?_)
 ·
  have h0 := cT h0 h1
  refine awp_assoc ?_
  refine awp_nr [] (fun _ => rfl) fun tz => ?_
  refine awp_regW fun KK hKK => ?_
  refine xw_id ?_
  try simp only [go_sem, Nat.reduceEqDiff, reduceIte, Nat.reduceAdd, Nat.reduceMul, Nat.reduceSub, Nat.reduceLT, Nat.reduceLeDiff]
  refine hKK _ _ (Wk.refl _ _ _) ?_; clear hKK KK
  refine awp_ret ?_
  obtain rfl := someInj h0
  refine endW_i ?_
  refine end_ret0 rs34 (rfl) ?_
  try simp only [go_sem, Nat.reduceEqDiff, reduceIte, Nat.reduceAdd, Nat.reduceMul, Nat.reduceSub, Nat.reduceLT, Nat.reduceLeDiff, fz, nilS, packR, List.take_nil, List.take_length, List.length_map, List.length_append, cond_true, cond_false, Nat.ble_eq, ble_self]
  all_goals first | rfl | (simp only [go_sem, Nat.reduceEqDiff, reduceIte, Nat.reduceAdd, Nat.reduceMul, Nat.reduceSub, Nat.reduceLT, Nat.reduceLeDiff, fz, nilS, packR, List.take_nil, List.take_length, List.length_map, List.length_append, cond_true, cond_false, Nat.ble_eq, ble_self, List.map_append] <;> rfl)
 ·
  have h0 := cF h0 h1
  refine awp_skip ?_
  refine awp_assoc ?_
  refine awp_nr [0,1] (fun _ => rfl) fun tz => ?_
  refine awp_regW fun KK hKK => ?_
  refine xw_id ?_
  try simp only [go_sem, Nat.reduceEqDiff, reduceIte, Nat.reduceAdd, Nat.reduceMul, Nat.reduceSub, Nat.reduceLT, Nat.reduceLeDiff]
  refine hKK _ _ (Wk.refl _ _ _) ?_; clear hKK KK
  obtain ⟨o54, hi2, h0⟩ := bnd h0
  refine awp_cut (fun d53 : Unit => o54 = Ex.go d53) (fun d53 : Unit => hotspotlaw18_numbers_S0 d53) ?_ ?_
  ·
   refine awp_block1 ?_
   refine awp_loopS (fun n (d55 : Int) => hotspotlaw18_numbers_L2 a0 a1 n d55 = some o54) (fun d55 : Int => hotspotlaw18_numbers_S1 a0 a1 d55) big 0 (Wk.canonD [] [] [] rfl trivial rfl tmO0 (tmAllU 5 (tmAllU 1 (tmAllU 0 tmAll0 (Tm.clean (Clean.imm (c_Frame _)))) (Tm.clean (Clean.imm (vi_clean _)))) (Tm.v _))) hi2 ?_
   clear hi2
   rintro n d55 hl4
   rcases n with _ | n3
   ·
    (rw [hotspotlaw18_numbers_L2] at hl4; cases hl4)
   ·
    rw [hotspotlaw18_numbers_L2] at hl4
    unfold hotspotlaw18_numbers_S1
    refine awp_assoc ?_
    refine awp_nr [0,1,5] (fun _ => rfl) fun tz => ?_
    refine awp_regW fun KK hKK => ?_
    refine xw_id ?_
    try simp only [go_sem, Nat.reduceEqDiff, reduceIte, Nat.reduceAdd, Nat.reduceMul, Nat.reduceSub, Nat.reduceLT, Nat.reduceLeDiff, Int.reduceToNat, Int.reduceBEq, Int.reduceBNe, Int.reduceLT, Int.reduceLE, Int.reduceAdd, Int.reduceSub, Int.reduceMul, Int.reduceNeg, Int.reduceEq, Int.reduceNe]
    refine hKK _ _ (Wk.refl _ _ _) ?_; clear hKK KK
    refine awp_cond (b := (decide (d55 < (a0.length : Int)))) rfl (fun h5 => ?_) (fun h5 => ?_)
    ·
     have hl4 := cT hl4 h5
     refine awp_skip ?_
     refine awp_blockW ?_
     refine awp_nr [0,1,5] (fun _ => rfl) fun tz => ?_
     refine awp_regW fun KK hKK => ?_
     refine xw_id ?_
     obtain ⟨x56, bx56, hl4⟩ := bnd hl4
     obtain ⟨fx56_0, fx56_1, fx56_2, fx56_3⟩ := idx_some bx56
     obtain ⟨x57, bx57, hl4⟩ := bnd hl4
     obtain ⟨fx57_0, fx57_1, fx57_2, fx57_3⟩ := idx_some bx57
     obtain ⟨x58, bx58, hl4⟩ := bnd hl4
     try simp only [go_sem, Nat.reduceEqDiff, reduceIte, Nat.reduceAdd, Nat.reduceMul, Nat.reduceSub, Nat.reduceLT, Nat.reduceLeDiff, fx56_0, fx56_1, fx56_2, fx57_0, fx57_1, fx57_2]
     refine xcall_p (hotspotlaw18_frame_p x57 bx58) ?_; try dsimp only
     try refine xw_id ?_
     obtain ⟨x59, bx59, hl4⟩ := bnd hl4
     try simp only [go_sem, Nat.reduceEqDiff, reduceIte, Nat.reduceAdd, Nat.reduceMul, Nat.reduceSub, Nat.reduceLT, Nat.reduceLeDiff, fx56_0, fx56_1, fx56_2, fx57_0, fx57_1, fx57_2]
     refine xcall_p (hotspotref05_Same_p x56 x58 bx59) ?_; try dsimp only
     try refine xw_id ?_
     try simp only [go_sem, Nat.reduceEqDiff, reduceIte, Nat.reduceAdd, Nat.reduceMul, Nat.reduceSub, Nat.reduceLT, Nat.reduceLeDiff, fx56_0, fx56_1, fx56_2, fx57_0, fx57_1, fx57_2]
     refine hKK _ _ (Wk.refl _ _ _) ?_; clear hKK KK
     refine awp_cond1 (b := (!x59)) rfl (fun h6 => ?_) (fun h6 => ?_)
     ·
      have hl4 := cT hl4 h6
      refine awp_nr [] (fun _ => rfl) fun tz => ?_
      refine awp_regW fun KK hKK => ?_
      refine xw_id ?_
      try simp only [go_sem, Nat.reduceEqDiff, reduceIte, Nat.reduceAdd, Nat.reduceMul, Nat.reduceSub, Nat.reduceLT, Nat.reduceLeDiff, fx56_0, fx56_1, fx56_2, fx57_0, fx57_1, fx57_2]
      refine hKK _ _ (Wk.refl _ _ _) ?_; clear hKK KK
      refine awp_ret1 ?_
      refine bq_r ?_
      refine sq_r ?_
      refine lq_r ?_
      refine bq_r ?_
      refine sq_r ?_
      obtain rfl := someInj hl4
      obtain rfl := Ex.k_ret h0
      refine endW_i ?_
      refine end_ret0 rs34 (rfl) ?_
      try simp only [go_sem, Nat.reduceEqDiff, reduceIte, Nat.reduceAdd, Nat.reduceMul, Nat.reduceSub, Nat.reduceLT, Nat.reduceLeDiff, fz, nilS, packR, List.take_nil, List.take_length, List.length_map, List.length_append, cond_true, cond_false, Nat.ble_eq, ble_self]
      all_goals first | rfl | (simp only [go_sem, Nat.reduceEqDiff, reduceIte, Nat.reduceAdd, Nat.reduceMul, Nat.reduceSub, Nat.reduceLT, Nat.reduceLeDiff, fz, nilS, packR, List.take_nil, List.take_length, List.length_map, List.length_append, cond_true, cond_false, Nat.ble_eq, ble_self, List.map_append] <;> rfl)
     ·
      have hl4 := cF hl4 h6
      refine awp_skip1 ?_
      refine bq_n ?_
      refine seqW_i ?_
      refine awp_nr1 [0,1,5] (fun _ => rfl) fun tz => ?_
      refine awp_reg1 fun KK hKK => ?_
      refine xw_id ?_
      try simp only [go_sem, Nat.reduceEqDiff, reduceIte, Nat.reduceAdd, Nat.reduceMul, Nat.reduceSub, Nat.reduceLT, Nat.reduceLeDiff, fx56_0, fx56_1, fx56_2, fx57_0, fx57_1, fx57_2]
      refine hKK _ ?_; clear hKK KK
      refine lq_n ?_
      exact ⟨n3, IntKind.wrap .i64 (d55 + 1), rfl, hl4, (Wk.canonD [] [] [] rfl trivial rfl tmO0 (tmAllU 5 (tmAllU 1 (tmAllU 0 tmAll0 (Tm.clean (Clean.imm (c_Frame _)))) (Tm.clean (Clean.imm (vi_clean _)))) (Tm.v _)))⟩
    ·
     have hl4 := cF hl4 h5
     refine awp_exit ?_
     refine lq_e ?_
     refine bq_e ?_
     refine sq_n ?_
     obtain rfl := someInj hl4
     exact ⟨_, rfl, (Wk.canonD [] [] [] rfl trivial rfl tmO0 tmAll0)⟩
  ·
   rintro d53 rfl
   have h0 := Ex.k_go h0
   clear hi2
   unfold hotspotlaw18_numbers_S0
   refine awp_nr [] (fun _ => rfl) fun tz => ?_
   refine awp_regW fun KK hKK => ?_
   refine xw_id ?_
   try simp only [go_sem, Nat.reduceEqDiff, reduceIte, Nat.reduceAdd, Nat.reduceMul, Nat.reduceSub, Nat.reduceLT, Nat.reduceLeDiff]
   refine hKK _ _ (Wk.refl _ _ _) ?_; clear hKK KK
   refine awp_ret1 ?_
   obtain rfl := someInj h0
   refine endW_i ?_
   refine end_ret0 rs34 (rfl) ?_
   try simp only [go_sem, Nat.reduceEqDiff, reduceIte, Nat.reduceAdd, Nat.reduceMul, Nat.reduceSub, Nat.reduceLT, Nat.reduceLeDiff, fz, nilS, packR, List.take_nil, List.take_length, List.length_map, List.length_append, cond_true, cond_false, Nat.ble_eq, ble_self]
   all_goals first | rfl | (simp only [go_sem, Nat.reduceEqDiff, reduceIte, Nat.reduceAdd, Nat.reduceMul, Nat.reduceSub, Nat.reduceLT, Nat.reduceLeDiff, fz, nilS, packR, List.take_nil, List.take_length, List.length_map, List.length_append, cond_true, cond_false, Nat.ble_eq, ble_self, List.map_append] <;> rfl)

end Go.AX.Z.TR

/-! (TRW reorder Due 1) -/

set_option linter.unusedSimpArgs false
set_option linter.unusedVariables false
set_option maxHeartbeats 4000000
set_option maxRecDepth 20000
namespace Go.AX.Z.TR
open Go.AX Go.Proofs
attribute [local irreducible] awp xw xop xcall gsp ob xd xdop xcallD seqQ loopQ blkQ endQ


theorem reorder_Due_1_p (a0 : HeldSeq) (a1 : HeldSeq) {r : Int} (h0 : reorder_Due_1 a0 a1 = some r) : SndP K 50 [(.agg (E_HeldSeq a0)), (.agg (E_HeldSeq a1))] (vi r) := by
 refine SndP.of_walkW hC (Clean.v _) (clean_cons (Clean.agg (E_HeldSeq_clean _)) (clean_cons (Clean.agg (E_HeldSeq_clean _)) clean_nil)) (show K.P.funcs[50]? = some Try.f50 from Try.func50) rfl rfl (by decide +kernel) (Nat.le_of_ble_eq_true rfl) ?_
 unfold reorder_Due_1 at h0
 refine awp_nr [0,1] (fun _ => rfl) fun tz => ?_
 refine awp_regW fun KK hKK => ?_
 refine xw_id ?_
 try simp only [go_sem, Nat.reduceEqDiff, reduceIte, Nat.reduceAdd, Nat.reduceMul, Nat.reduceSub, Nat.reduceLT, Nat.reduceLeDiff]
 refine hKK _ _ (Wk.refl _ _ _) ?_; clear hKK KK
 refine awp_nr [2,3] (fun _ => rfl) fun tz => ?_
 refine awp_regW fun KK hKK => ?_
 refine xw_id ?_
 try simp only [go_sem, Nat.reduceEqDiff, reduceIte, Nat.reduceAdd, Nat.reduceMul, Nat.reduceSub, Nat.reduceLT, Nat.reduceLeDiff]
 refine hKK _ _ (Wk.refl _ _ _) ?_; clear hKK KK
 refine awp_ret1 ?_
 obtain rfl := someInj h0
 refine endW_i ?_
 refine end_ret0 rs50 (rfl) ?_
 try simp only [go_sem, Nat.reduceEqDiff, reduceIte, Nat.reduceAdd, Nat.reduceMul, Nat.reduceSub, Nat.reduceLT, Nat.reduceLeDiff, fz, nilS, packR, List.take_nil, List.take_length, List.length_map, List.length_append, cond_true, cond_false, Nat.ble_eq, ble_self]
 all_goals first | rfl | (simp only [go_sem, Nat.reduceEqDiff, reduceIte, Nat.reduceAdd, Nat.reduceMul, Nat.reduceSub, Nat.reduceLT, Nat.reduceLeDiff, fz, nilS, packR, List.take_nil, List.take_length, List.length_map, List.length_append, cond_true, cond_false, Nat.ble_eq, ble_self, List.map_append] <;> rfl)

end Go.AX.Z.TR

/-! (TRW slices MinFunc api HeldSeq api HeldSeq) -/

set_option linter.unusedSimpArgs false
set_option linter.unusedVariables false
set_option maxHeartbeats 4000000
set_option maxRecDepth 20000
namespace Go.AX.Z.TR
open Go.AX Go.Proofs
attribute [local irreducible] awp xw xop xcall gsp ob xd xdop xcallD seqQ loopQ blkQ endQ

def slices_MinFunc_api_HeldSeq_api_HeldSeq_S0 (a0 : (List HeldSeq)) (d62 : Unit) : AS :=
 { objs := (upd (fun _ => .dead) 0 (.live (e_HeldSeq HeldSeq.z vnil))), next := 1, tmps := (upd (upd (upd (fun _ => .unk) 0 (.imm (List.flatMap E_HeldSeq a0) a0.length)) 1 (.clo 50 [] [])) 4 (.ptr 0 0)) }

def slices_MinFunc_api_HeldSeq_api_HeldSeq_S1 (d64 : HeldSeq) : AS :=
 { objs := (upd (upd (fun _ => .dead) 0 (.live (e_HeldSeq HeldSeq.z vnil))) 1 (.live (e_HeldSeq d64 (.imm (List.map vu ((d64).Frame.Body)) ((d64).Frame.Body).length)))), next := 2, tmps := (upd (upd (fun _ => .unk) 4 (.ptr 0 0)) 5 (.ptr 1 0)) }

def slices_MinFunc_api_HeldSeq_api_HeldSeq_S2 (a0 : (List HeldSeq)) (d65 : (HeldSeq × Int)) : AS :=
 { objs := (upd (upd (fun _ => .dead) 0 (.live (e_HeldSeq HeldSeq.z vnil))) 1 (.live (e_HeldSeq d65.1 (.imm (List.map vu ((d65.1).Frame.Body)) ((d65.1).Frame.Body).length)))), next := 2, tmps := (upd (upd (upd (upd (upd (fun _ => .unk) 0 (.imm (List.flatMap E_HeldSeq a0) a0.length)) 1 (.clo 50 [] [])) 4 (.ptr 0 0)) 5 (.ptr 1 0)) 6 (vi d65.2)) }

theorem slices_MinFunc_api_HeldSeq_api_HeldSeq_p (a0 : (List HeldSeq)) {r : HeldSeq} (h0 : slices_MinFunc_api_HeldSeq_api_HeldSeq a0 = some r) : SndP K 49 [(S_HeldSeq a0), (.clo 50 [] [])] (.agg (E_HeldSeq r)) := by
 refine SndP.of_walkW hC (Clean.agg (E_HeldSeq_clean _)) (clean_cons (S_HeldSeq_clean _) (clean_cons (Clean.clo clean_nil clean_nil) clean_nil)) (show K.P.funcs[49]? = some Try.f49 from Try.func49) rfl rfl (by decide +kernel) (Nat.le_of_ble_eq_true rfl) ?_
 unfold slices_MinFunc_api_HeldSeq_api_HeldSeq at h0
 refine awp_nr [0,1] (fun _ => rfl) fun tz => ?_
 refine awp_regW fun KK hKK => ?_
 refine xw_id ?_
 try simp only [go_sem, Nat.reduceEqDiff, reduceIte, Nat.reduceAdd, Nat.reduceMul, Nat.reduceSub, Nat.reduceLT, Nat.reduceLeDiff]
 refine hKK _ _ (Wk.refl _ _ _) ?_; clear hKK KK
 refine awp_assoc ?_
 refine awp_nr [0,1,4] (fun _ => rfl) fun tz => ?_
 refine awp_regW fun KK hKK => ?_
 refine xw_id ?_
 try simp only [go_sem, Nat.reduceEqDiff, reduceIte, Nat.reduceAdd, Nat.reduceMul, Nat.reduceSub, Nat.reduceLT, Nat.reduceLeDiff, Int.reduceToNat, Int.reduceBEq, Int.reduceBNe, Int.reduceLT, Int.reduceLE, Int.reduceAdd, Int.reduceSub, Int.reduceMul, Int.reduceNeg, Int.reduceEq, Int.reduceNe]
 refine hKK _ _ (Wk.refl _ _ _) ?_; clear hKK KK
 obtain ⟨d62, hi1, h0⟩ := bnd h0
 refine awp_cut (fun z => d62 = z) (fun d62 : Unit => slices_MinFunc_api_HeldSeq_api_HeldSeq_S0 a0 d62) ?_ ?_
 ·
  refine awp_cond1 (b := (decide ((a0.length : Int) < 1))) rfl (fun h2 => ?_) (fun h2 => ?_)
  ·
   have hi1 := cT hi1 h2
   refine awp_nr1 [0,1,4] (fun _ => rfl) fun tz => ?_
   refine awp_reg1 fun KK hKK => ?_
   refine xw_id ?_
   cases hi1
  ·
   have hi1 := cF hi1 h2
   refine awp_skip1 ?_
   refine sq_n ?_
   obtain rfl := someInj hi1
   exact ⟨_, rfl, (Wk.canonD [] [] [some 0] rfl trivial rfl (tmOU 0 tmO0 rfl List.not_mem_nil (by simp only [upd_get, Nat.reduceEqDiff, reduceIte, Nat.reduceAdd, Nat.reduceMul, Nat.reduceSub, Nat.reduceLT, Nat.reduceLeDiff, if_true, if_false] <;> rfl) (e_HeldSeq_tmx (by rfl) (Tm.v _))) (tmAllU 4 (tmAllU 1 (tmAllU 0 tmAll0 (Tm.clean (Clean.imm (c_HeldSeq _)))) (Tm.clo TmL.nil TmL.nil)) (Tm.ptr rfl)))⟩
 ·
  rintro _ rfl
  clear hi1
  unfold slices_MinFunc_api_HeldSeq_api_HeldSeq_S0
  refine awp_nr [0,1,4] (fun _ => rfl) fun tz => ?_
  refine awp_regW fun KK hKK => ?_
  refine xw_id ?_
  obtain ⟨x63, bx63, h0⟩ := bnd h0
  obtain ⟨fx63_0, fx63_1, fx63_2, fx63_3⟩ := idx_some bx63
  simp only [Int.reduceToNat] at fx63_2 fx63_3
  try simp only [go_sem, Nat.reduceEqDiff, reduceIte, Nat.reduceAdd, Nat.reduceMul, Nat.reduceSub, Nat.reduceLT, Nat.reduceLeDiff, Int.reduceToNat, Int.reduceBEq, Int.reduceBNe, Int.reduceLT, Int.reduceLE, Int.reduceAdd, Int.reduceSub, Int.reduceMul, Int.reduceNeg, Int.reduceEq, Int.reduceNe, fx63_0, fx63_1, fx63_2, r_HeldSeq_getL, r_HeldSeq_subL, Nat.reduceDiv, Nat.reduceMod]
  refine hKK _ _ (Wk.refl _ _ _) ?_; clear hKK KK
  refine awp_assoc ?_
  refine awp_nr [0,1,4,5] (fun _ => rfl) fun tz => ?_
  refine awp_regW fun KK hKK => ?_
  refine xw_id ?_
  try simp only [go_sem, Nat.reduceEqDiff, reduceIte, Nat.reduceAdd, Nat.reduceMul, Nat.reduceSub, Nat.reduceLT, Nat.reduceLeDiff, fx63_0, fx63_1, fx63_2]
  refine hKK _ _ (Wk.refl _ _ _) ?_; clear hKK KK
  obtain ⟨d64, hi3, h0⟩ := bnd h0
  refine awp_cut (fun z => d64 = z) (fun d64 : HeldSeq => slices_MinFunc_api_HeldSeq_api_HeldSeq_S1 d64) ?_ ?_
  ·
   refine awp_block1 ?_
   refine awp_loopS (fun n (d65 : (HeldSeq × Int)) => slices_MinFunc_api_HeldSeq_api_HeldSeq_L3 a0 n d65 = some d64) (fun d65 : (HeldSeq × Int) => slices_MinFunc_api_HeldSeq_api_HeldSeq_S2 a0 d65) big (x63, 1) (Wk.canonD [] [] [some 0, some 4] rfl trivial rfl (tmOU 1 (tmOU 0 tmO0 rfl List.not_mem_nil (by simp only [upd_get, Nat.reduceEqDiff, reduceIte, Nat.reduceAdd, Nat.reduceMul, Nat.reduceSub, Nat.reduceLT, Nat.reduceLeDiff, if_true, if_false] <;> rfl) (e_HeldSeq_tmx (by rfl) (Tm.v _))) rfl List.not_mem_nil (by simp only [upd_get, Nat.reduceEqDiff, reduceIte, Nat.reduceAdd, Nat.reduceMul, Nat.reduceSub, Nat.reduceLT, Nat.reduceLeDiff, if_true, if_false] <;> rfl) (e_HeldSeq_tmx (by rfl) (Tm.clean (Clean.imm (vu_clean _))))) (tmAllU 6 (tmAllU 5 (tmAllU 4 (tmAllU 1 (tmAllU 0 tmAll0 (Tm.clean (Clean.imm (c_HeldSeq _)))) (Tm.clo TmL.nil TmL.nil)) (Tm.ptr rfl)) (Tm.ptr rfl)) (Tm.v _))) hi3 ?_
   clear hi3
   rintro n d65 hl5
   rcases n with _ | n4
   ·
    (rw [slices_MinFunc_api_HeldSeq_api_HeldSeq_L3] at hl5; cases hl5)
   ·
    rw [slices_MinFunc_api_HeldSeq_api_HeldSeq_L3] at hl5
    unfold slices_MinFunc_api_HeldSeq_api_HeldSeq_S2
    refine awp_assoc ?_
    refine awp_nr [0,1,4,5,6] (fun _ => rfl) fun tz => ?_
    refine awp_regW fun KK hKK => ?_
    refine xw_id ?_
    try simp only [go_sem, Nat.reduceEqDiff, reduceIte, Nat.reduceAdd, Nat.reduceMul, Nat.reduceSub, Nat.reduceLT, Nat.reduceLeDiff, Int.reduceToNat, Int.reduceBEq, Int.reduceBNe, Int.reduceLT, Int.reduceLE, Int.reduceAdd, Int.reduceSub, Int.reduceMul, Int.reduceNeg, Int.reduceEq, Int.reduceNe]
    refine hKK _ _ (Wk.refl _ _ _) ?_; clear hKK KK
    refine awp_cond (b := (decide (d65.2 < (a0.length : Int)))) rfl (fun h6 => ?_) (fun h6 => ?_)
    ·
     have hl5 := cT hl5 h6
     refine awp_skip ?_
     refine awp_blockW ?_
     refine awp_nr [0,1,4,5,6] (fun _ => rfl) fun tz => ?_
     refine awp_regW fun KK hKK => ?_
     refine xw_id ?_
     obtain ⟨x66, bx66, hl5⟩ := bnd hl5
     obtain ⟨fx66_0, fx66_1, fx66_2, fx66_3⟩ := idx_some bx66
     obtain ⟨x67, bx67, hl5⟩ := bnd hl5
     try simp only [go_sem, Nat.reduceEqDiff, reduceIte, Nat.reduceAdd, Nat.reduceMul, Nat.reduceSub, Nat.reduceLT, Nat.reduceLeDiff, fx66_0, fx66_1, fx66_2]
     refine xcall_p (reorder_Due_1_p x66 { d65.1 with Frame.Body := (d65.1).Frame.Body } bx67) ?_; try dsimp only
     try refine xw_id ?_
     try simp only [go_sem, Nat.reduceEqDiff, reduceIte, Nat.reduceAdd, Nat.reduceMul, Nat.reduceSub, Nat.reduceLT, Nat.reduceLeDiff, fx66_0, fx66_1, fx66_2]
     refine hKK _ _ (Wk.refl _ _ _) ?_; clear hKK KK
     refine awp_cond1 (b := (decide (x67 < 0))) rfl (fun h7 => ?_) (fun h7 => ?_)
     ·
      have hl5 := cT hl5 h7
      refine awp_nr1 [0,1,4,5,6] (fun _ => rfl) fun tz => ?_
      refine awp_reg1 fun KK hKK => ?_
      refine xw_id ?_
      try simp only [go_sem, Nat.reduceEqDiff, reduceIte, Nat.reduceAdd, Nat.reduceMul, Nat.reduceSub, Nat.reduceLT, Nat.reduceLeDiff, fx66_0, fx66_1, fx66_2]
      refine hKK _ ?_; clear hKK KK
      refine bq_n ?_
      refine seqW_i ?_
      refine awp_nr1 [0,1,4,5,6] (fun _ => rfl) fun tz => ?_
      refine awp_reg1 fun KK hKK => ?_
      refine xw_id ?_
      try simp only [go_sem, Nat.reduceEqDiff, reduceIte, Nat.reduceAdd, Nat.reduceMul, Nat.reduceSub, Nat.reduceLT, Nat.reduceLeDiff, fx66_0, fx66_1, fx66_2]
      refine hKK _ ?_; clear hKK KK
      refine lq_n ?_
      exact ⟨n4, (x66, IntKind.wrap .i64 (d65.2 + 1)), rfl, hl5, (Wk.canonD [] [] [some 0, some 1] rfl trivial rfl (tmOU 1 (tmOU 0 tmO0 rfl List.not_mem_nil (by simp only [upd_get, Nat.reduceEqDiff, reduceIte, Nat.reduceAdd, Nat.reduceMul, Nat.reduceSub, Nat.reduceLT, Nat.reduceLeDiff, if_true, if_false] <;> rfl) (e_HeldSeq_tmx (by rfl) (Tm.v _))) rfl List.not_mem_nil (by simp only [upd_get, Nat.reduceEqDiff, reduceIte, Nat.reduceAdd, Nat.reduceMul, Nat.reduceSub, Nat.reduceLT, Nat.reduceLeDiff, if_true, if_false] <;> rfl) (e_HeldSeq_tmx (by rfl) (Tm.clean (Clean.imm (vu_clean _))))) (tmAllU 6 (tmAllU 5 (tmAllU 4 (tmAllU 1 (tmAllU 0 tmAll0 (Tm.clean (Clean.imm (c_HeldSeq _)))) (Tm.clo TmL.nil TmL.nil)) (Tm.ptr rfl)) (Tm.ptr rfl)) (Tm.v _)))⟩
     ·
      have hl5 := cF hl5 h7
      refine awp_skip1 ?_
      refine bq_n ?_
      refine seqW_i ?_
      refine awp_nr1 [0,1,4,5,6] (fun _ => rfl) fun tz => ?_
      refine awp_reg1 fun KK hKK => ?_
      refine xw_id ?_
      try simp only [go_sem, Nat.reduceEqDiff, reduceIte, Nat.reduceAdd, Nat.reduceMul, Nat.reduceSub, Nat.reduceLT, Nat.reduceLeDiff, fx66_0, fx66_1, fx66_2]
      refine hKK _ ?_; clear hKK KK
      refine lq_n ?_
      exact ⟨n4, ({ d65.1 with Frame.Body := (d65.1).Frame.Body }, IntKind.wrap .i64 (d65.2 + 1)), rfl, hl5, (Wk.canonD [] [] [some 0, some 1] rfl trivial rfl (tmOU 1 (tmOU 0 tmO0 rfl List.not_mem_nil (by simp only [upd_get, Nat.reduceEqDiff, reduceIte, Nat.reduceAdd, Nat.reduceMul, Nat.reduceSub, Nat.reduceLT, Nat.reduceLeDiff, if_true, if_false] <;> rfl) (e_HeldSeq_tmx (by rfl) (Tm.v _))) rfl List.not_mem_nil (by simp only [upd_get, Nat.reduceEqDiff, reduceIte, Nat.reduceAdd, Nat.reduceMul, Nat.reduceSub, Nat.reduceLT, Nat.reduceLeDiff, if_true, if_false] <;> rfl) (e_HeldSeq_tmx (by rfl) (Tm.clean (Clean.imm (vu_clean _))))) (tmAllU 6 (tmAllU 5 (tmAllU 4 (tmAllU 1 (tmAllU 0 tmAll0 (Tm.clean (Clean.imm (c_HeldSeq _)))) (Tm.clo TmL.nil TmL.nil)) (Tm.ptr rfl)) (Tm.ptr rfl)) (Tm.v _)))⟩
    ·
     have hl5 := cF hl5 h6
     refine awp_exit ?_
     refine lq_e ?_
     refine bq_e ?_
     refine sq_n ?_
     obtain rfl := someInj hl5
     exact ⟨_, rfl, (Wk.canonD [] [] [some 0, some 1] rfl trivial rfl (tmOU 1 (tmOU 0 tmO0 rfl List.not_mem_nil (by simp only [upd_get, Nat.reduceEqDiff, reduceIte, Nat.reduceAdd, Nat.reduceMul, Nat.reduceSub, Nat.reduceLT, Nat.reduceLeDiff, if_true, if_false] <;> rfl) (e_HeldSeq_tmx (by rfl) (Tm.v _))) rfl List.not_mem_nil (by simp only [upd_get, Nat.reduceEqDiff, reduceIte, Nat.reduceAdd, Nat.reduceMul, Nat.reduceSub, Nat.reduceLT, Nat.reduceLeDiff, if_true, if_false] <;> rfl) (e_HeldSeq_tmx (by rfl) (Tm.clean (Clean.imm (vu_clean _))))) (tmAllU 5 (tmAllU 4 tmAll0 (Tm.ptr rfl)) (Tm.ptr rfl)))⟩
  ·
   rintro _ rfl
   clear hi3
   unfold slices_MinFunc_api_HeldSeq_api_HeldSeq_S1
   refine awp_nr [4,5] (fun _ => rfl) fun tz => ?_
   refine awp_regW fun KK hKK => ?_
   refine xw_id ?_
   try simp only [go_sem, Nat.reduceEqDiff, reduceIte, Nat.reduceAdd, Nat.reduceMul, Nat.reduceSub, Nat.reduceLT, Nat.reduceLeDiff]
   refine hKK _ _ (Wk.refl _ _ _) ?_; clear hKK KK
   refine awp_ret1 ?_
   obtain rfl := someInj h0
   refine endW_i ?_
   refine end_ret0 rs49 (by simp only [go_sem, resV, resAll, resOf, packR, Nat.reduceEqDiff, reduceIte, Nat.reduceAdd, Nat.reduceMul, Nat.reduceSub, Nat.reduceLT, Nat.reduceLeDiff]; rfl) ?_
   try simp only [go_sem, Nat.reduceEqDiff, reduceIte, Nat.reduceAdd, Nat.reduceMul, Nat.reduceSub, Nat.reduceLT, Nat.reduceLeDiff, fz, nilS, packR, List.take_nil, List.take_length, List.length_map, List.length_append, cond_true, cond_false, Nat.ble_eq, ble_self]
   all_goals first | rfl | (simp only [go_sem, Nat.reduceEqDiff, reduceIte, Nat.reduceAdd, Nat.reduceMul, Nat.reduceSub, Nat.reduceLT, Nat.reduceLeDiff, fz, nilS, packR, List.take_nil, List.take_length, List.length_map, List.length_append, cond_true, cond_false, Nat.ble_eq, ble_self, List.map_append] <;> rfl)

end Go.AX.Z.TR

/-! (TRW reorder Due) -/

set_option linter.unusedSimpArgs false
set_option linter.unusedVariables false
set_option maxHeartbeats 4000000
set_option maxRecDepth 20000
namespace Go.AX.Z.TR
open Go.AX Go.Proofs
attribute [local irreducible] awp xw xop xcall gsp ob xd xdop xcallD seqQ loopQ blkQ endQ

def reorder_Due_S0 (a0 : Reorder) (x62 : HeldSeq) : AS :=
 { objs := (upd (upd (fun _ => .dead) 0 (.live (e_Reorder a0 (.imm (List.flatMap E_HeldSeq a0.Held) a0.Held.length)))) 1 (.live (e_HeldSeq x62 (.imm (List.map vu x62.Frame.Body) x62.Frame.Body.length)))), next := 2, tmps := (upd (upd (fun _ => .unk) 1 (.ptr 0 0)) 4 (.ptr 1 0)) }

theorem reorder_Due_p (a0 : Reorder) {r : (Int × Bool)} (h0 : reorder_Due a0 = some r) : SndP K 23 [(.agg (E_Reorder a0))] (.tup [(vi r.1), (vb r.2)]) := by
 refine SndP.of_walkW hC (Clean.tup (clean_cons (Clean.v _) (clean_cons (Clean.v _) clean_nil))) (clean_cons (Clean.agg (E_Reorder_clean _)) clean_nil) (show K.P.funcs[23]? = some Try.f23 from Try.func23) rfl rfl (by decide +kernel) (Nat.le_of_ble_eq_true rfl) ?_
 unfold reorder_Due at h0
 refine awp_nr [0] (fun _ => rfl) fun tz => ?_
 refine awp_regW fun KK hKK => ?_
 refine xw_id ?_
 try simp only [go_sem, Nat.reduceEqDiff, reduceIte, Nat.reduceAdd, Nat.reduceMul, Nat.reduceSub, Nat.reduceLT, Nat.reduceLeDiff]
 refine hKK _ _ (Wk.refl _ _ _) ?_; clear hKK KK
 refine awp_assoc ?_
 refine awp_nr [1] (fun _ => rfl) fun tz => ?_
 refine awp_regW fun KK hKK => ?_
 refine xw_id ?_
 obtain ⟨x61, bx61, h0⟩ := bnd h0
 try simp only [go_sem, Nat.reduceEqDiff, reduceIte, Nat.reduceAdd, Nat.reduceMul, Nat.reduceSub, Nat.reduceLT, Nat.reduceLeDiff]
 refine xcall_p (reorder_Check_p a0 bx61) ?_; try dsimp only
 try refine xw_id ?_
 refine xw_stop 2 (by (try simp only [go_sem]); rfl) (by (try simp only [go_sem]); rfl) (by rfl) fun K1 hK1 => ?_
 refine xw_id ?_
 try simp only [go_sem, Nat.reduceEqDiff, reduceIte, Nat.reduceAdd, Nat.reduceMul, Nat.reduceSub, Nat.reduceLT, Nat.reduceLeDiff]
 refine hK1 _ ?_; clear hK1 K1
 refine xw_cut 5 [(1, (.ptr 0 0)), (13, (vb ((x61 != 0) || ((a0.Held.length : Int) == 0))))] (by (try simp only [go_sem]); rfl) (by (try simp only [go_sem]); rfl) (by rfl) (fun K1 hK1 => ?_) fun tz => ?_
 ·
  refine xw_id ?_
  rcases Bool.eq_false_or_eq_true (x61 != 0) with h1 | h1
  ·
   try simp only [go_sem, Nat.reduceEqDiff, reduceIte, Nat.reduceAdd, Nat.reduceMul, Nat.reduceSub, Nat.reduceLT, Nat.reduceLeDiff, h1]
   exact hK1 _ ⟨rfl, rfl, (by first | rfl | (rw [h1]; rfl) | (simp only [h1, Bool.true_and, Bool.false_and, Bool.true_or, Bool.false_or, cond_true, cond_false]; done)), trivial⟩
  ·
   try simp only [go_sem, Nat.reduceEqDiff, reduceIte, Nat.reduceAdd, Nat.reduceMul, Nat.reduceSub, Nat.reduceLT, Nat.reduceLeDiff, Int.reduceToNat, Int.reduceBEq, Int.reduceBNe, Int.reduceLT, Int.reduceLE, Int.reduceAdd, Int.reduceSub, Int.reduceMul, Int.reduceNeg, Int.reduceEq, Int.reduceNe, h1]
   exact hK1 _ ⟨rfl, rfl, (by first | rfl | (rw [h1]; rfl) | (simp only [h1, Bool.true_and, Bool.false_and, Bool.true_or, Bool.false_or, cond_true, cond_false]; done)), trivial⟩
 ·
  refine xw_id ?_
  try simp only [go_sem, Nat.reduceEqDiff, reduceIte, Nat.reduceAdd, Nat.reduceMul, Nat.reduceSub, Nat.reduceLT, Nat.reduceLeDiff]
  refine hKK _ _ (Wk.refl _ _ _) ?_; clear hKK KK
  refine awp_cond (b := ((x61 != 0) || ((a0.Held.length : Int) == 0))) rfl (fun h2 => ?_) (fun h2 => ?_)
  ·
   have h0 := cT h0 h2
   refine awp_assoc ?_
   refine awp_nr [] (fun _ => rfl) fun tz => ?_
   refine awp_regW fun KK hKK => ?_
   refine xw_id ?_
   try simp only [go_sem, Nat.reduceEqDiff, reduceIte, Nat.reduceAdd, Nat.reduceMul, Nat.reduceSub, Nat.reduceLT, Nat.reduceLeDiff]
   refine hKK _ _ (Wk.refl _ _ _) ?_; clear hKK KK
   refine awp_ret ?_
   obtain rfl := someInj h0
   refine endW_i ?_
   refine end_ret0 rs23 (rfl) ?_
   try simp only [go_sem, Nat.reduceEqDiff, reduceIte, Nat.reduceAdd, Nat.reduceMul, Nat.reduceSub, Nat.reduceLT, Nat.reduceLeDiff, fz, nilS, packR, List.take_nil, List.take_length, List.length_map, List.length_append, cond_true, cond_false, Nat.ble_eq, ble_self]
   all_goals first | rfl | (simp only [go_sem, Nat.reduceEqDiff, reduceIte, Nat.reduceAdd, Nat.reduceMul, Nat.reduceSub, Nat.reduceLT, Nat.reduceLeDiff, fz, nilS, packR, List.take_nil, List.take_length, List.length_map, List.length_append, cond_true, cond_false, Nat.ble_eq, ble_self, List.map_append] <;> rfl)
  ·
   have h0 := cF h0 h2
   refine awp_skip ?_
   refine awp_nr [1] (fun _ => rfl) fun tz => ?_
   refine awp_regW fun KK hKK => ?_
   refine xw_id ?_
   obtain ⟨x62, bx62, h0⟩ := bnd h0
   try simp only [go_sem, Nat.reduceEqDiff, reduceIte, Nat.reduceAdd, Nat.reduceMul, Nat.reduceSub, Nat.reduceLT, Nat.reduceLeDiff]
   refine xcall_p (slices_MinFunc_api_HeldSeq_api_HeldSeq_p a0.Held bx62) ?_; try dsimp only
   try refine xw_id ?_
   try simp only [go_sem, Nat.reduceEqDiff, reduceIte, Nat.reduceAdd, Nat.reduceMul, Nat.reduceSub, Nat.reduceLT, Nat.reduceLeDiff]
   refine hKK _ (reorder_Due_S0 a0 x62) (Wk.canonD [] [] [some 0, some 15] rfl trivial rfl (tmOU 1 (tmOU 0 tmO0 rfl List.not_mem_nil (by simp only [upd_get, Nat.reduceEqDiff, reduceIte, Nat.reduceAdd, Nat.reduceMul, Nat.reduceSub, Nat.reduceLT, Nat.reduceLeDiff, if_true, if_false] <;> rfl) (e_Reorder_tmx (by rfl) (Tm.clean (Clean.imm (c_HeldSeq _))))) rfl List.not_mem_nil (by simp only [upd_get, Nat.reduceEqDiff, reduceIte, Nat.reduceAdd, Nat.reduceMul, Nat.reduceSub, Nat.reduceLT, Nat.reduceLeDiff, if_true, if_false] <;> rfl) (e_HeldSeq_tmx (by rfl) (Tm.clean (Clean.imm (vu_clean _))))) (tmAllU 4 (tmAllU 1 tmAll0 (Tm.ptr rfl)) (Tm.ptr rfl))) ?_; clear hKK KK
   unfold reorder_Due_S0
   refine awp_nr [1,4] (fun _ => rfl) fun tz => ?_
   refine awp_regW fun KK hKK => ?_
   refine xw_id ?_
   try simp only [go_sem, Nat.reduceEqDiff, reduceIte, Nat.reduceAdd, Nat.reduceMul, Nat.reduceSub, Nat.reduceLT, Nat.reduceLeDiff]
   refine hKK _ _ (Wk.refl _ _ _) ?_; clear hKK KK
   refine awp_ret1 ?_
   obtain rfl := someInj h0
   refine endW_i ?_
   refine end_ret0 rs23 (rfl) ?_
   try simp only [go_sem, Nat.reduceEqDiff, reduceIte, Nat.reduceAdd, Nat.reduceMul, Nat.reduceSub, Nat.reduceLT, Nat.reduceLeDiff, fz, nilS, packR, List.take_nil, List.take_length, List.length_map, List.length_append, cond_true, cond_false, Nat.ble_eq, ble_self]
   all_goals first | rfl | (simp only [go_sem, Nat.reduceEqDiff, reduceIte, Nat.reduceAdd, Nat.reduceMul, Nat.reduceSub, Nat.reduceLT, Nat.reduceLeDiff, fz, nilS, packR, List.take_nil, List.take_length, List.length_map, List.length_append, cond_true, cond_false, Nat.ble_eq, ble_self, List.map_append] <;> rfl)

end Go.AX.Z.TR

/-! (TRW hotspotlaw18 alive) -/

set_option linter.unusedSimpArgs false
set_option linter.unusedVariables false
set_option maxHeartbeats 4000000
set_option maxRecDepth 20000
namespace Go.AX.Z.TR
open Go.AX Go.Proofs
attribute [local irreducible] awp xw xop xcall gsp ob xd xdop xcallD seqQ loopQ blkQ endQ

def hotspotlaw18_alive_S0 (x30 : ((List Frame) × Reorder × Int)) (x28 : (Reorder × Int)) : AS :=
 { objs := (upd (fun _ => .dead) 0 (.live (e_Reorder x30.2.1 (.imm (List.flatMap E_HeldSeq x30.2.1.Held) x30.2.1.Held.length)))), next := 1, tmps := (upd (upd (upd (upd (fun _ => .unk) 1 (.ptr 0 0)) 2 (vi x28.2)) 3 (.imm (List.flatMap E_Frame x30.1) x30.1.length)) 4 (vi x30.2.2)) }

def hotspotlaw18_alive_S1 (x34 : ((List Frame) × Reorder × Int)) (x28 : (Reorder × Int)) (x30 : ((List Frame) × Reorder × Int)) (x32 : ((List Frame) × Reorder × Int)) : AS :=
 { objs := (upd (fun _ => .dead) 0 (.live (e_Reorder x34.2.1 (.imm (List.flatMap E_HeldSeq x34.2.1.Held) x34.2.1.Held.length)))), next := 1, tmps := (upd (upd (upd (upd (upd (upd (upd (upd (upd (fun _ => .unk) 1 (.ptr 0 0)) 2 (vi x28.2)) 3 (.imm (List.flatMap E_Frame x30.1) x30.1.length)) 4 (vi x30.2.2)) 5 (.imm (List.flatMap E_Frame x32.1) x32.1.length)) 6 (vi x32.2.2)) 7 (vi x32.2.1.Start)) 8 (.imm (List.flatMap E_Frame x34.1) x34.1.length)) 9 (vi x34.2.2)) }

def hotspotlaw18_alive_S2 (x38 : ((List Frame) × Reorder × Int)) (x28 : (Reorder × Int)) (x30 : ((List Frame) × Reorder × Int)) (x32 : ((List Frame) × Reorder × Int)) (x34 : ((List Frame) × Reorder × Int)) (x35 : (Int × Bool)) (x36 : ((List Frame) × Reorder × Int)) : AS :=
 { objs := (upd (fun _ => .dead) 0 (.live (e_Reorder x38.2.1 (.imm (List.flatMap E_HeldSeq x38.2.1.Held) x38.2.1.Held.length)))), next := 1, tmps := (upd (upd (upd (upd (upd (upd (upd (upd (upd (upd (upd (upd (upd (upd (upd (upd (fun _ => .unk) 1 (.ptr 0 0)) 2 (vi x28.2)) 3 (.imm (List.flatMap E_Frame x30.1) x30.1.length)) 4 (vi x30.2.2)) 5 (.imm (List.flatMap E_Frame x32.1) x32.1.length)) 6 (vi x32.2.2)) 7 (vi x32.2.1.Start)) 8 (.imm (List.flatMap E_Frame x34.1) x34.1.length)) 9 (vi x34.2.2)) 10 (vi x35.1)) 11 (vb x35.2)) 12 (.imm (List.flatMap E_Frame x36.1) x36.1.length)) 13 (vi x36.2.2)) 14 (vi x36.2.1.Start)) 15 (.imm (List.flatMap E_Frame x38.1) x38.1.length)) 16 (vi x38.2.2)) }

theorem hotspotlaw18_alive_p {r : Bool} (h0 : hotspotlaw18_alive = some r) : SndP K 31 [] (vb r) := by
 refine SndP.of_walkW hC (Clean.v _) clean_nil (show K.P.funcs[31]? = some Try.f31 from Try.func31) rfl rfl (by decide +kernel) (Nat.le_of_ble_eq_true rfl) ?_
 unfold hotspotlaw18_alive at h0
 refine awp_nr [] (fun _ => rfl) fun tz => ?_
 refine awp_regW fun KK hKK => ?_
 refine xw_id ?_
 try simp only [go_sem, Nat.reduceEqDiff, reduceIte, Nat.reduceAdd, Nat.reduceMul, Nat.reduceSub, Nat.reduceLT, Nat.reduceLeDiff]
 refine hKK _ _ (Wk.refl _ _ _) ?_; clear hKK KK
 refine awp_nr [] (fun _ => rfl) fun tz => ?_
 refine awp_regW fun KK hKK => ?_
 refine xw_id ?_
 obtain ⟨x28, bx28, h0⟩ := bnd h0
 try simp only [go_sem, Nat.reduceEqDiff, reduceIte, Nat.reduceAdd, Nat.reduceMul, Nat.reduceSub, Nat.reduceLT, Nat.reduceLeDiff]
 refine xcall_p (reorder_New_p 4094 4 100 bx28) ?_; try dsimp only
 try refine xw_id ?_
 try simp only [go_sem, Nat.reduceEqDiff, reduceIte, Nat.reduceAdd, Nat.reduceMul, Nat.reduceSub, Nat.reduceLT, Nat.reduceLeDiff]
 refine hKK _ _ (Wk.refl _ _ _) ?_; clear hKK KK
 refine awp_nr [1,2] (fun _ => rfl) fun tz => ?_
 refine awp_regDW fun KK hKK all hall => ?_
 refine xd_id ?_
 try simp only [List.toList_toArray, List.map_cons, List.map_nil, List.size_toArray, List.length_cons, List.length_nil, Nat.zero_add]
 try simp only [Nat.reduceAdd]
 obtain ⟨x29, bx29, h0⟩ := bnd h0
 simp only [go_sem, Nat.reduceEqDiff, reduceIte, Nat.reduceMul, Nat.reduceSub, Nat.reduceLT, Nat.reduceLeDiff]
 try simp only [Nat.reduceAdd]
 try simp only [go_sem, Nat.reduceEqDiff, reduceIte, Nat.reduceMul, Nat.reduceSub, Nat.reduceLT, Nat.reduceLeDiff]
 try simp only [Nat.reduceAdd]
 try simp only [go_sem, Nat.reduceEqDiff, reduceIte, Nat.reduceMul, Nat.reduceSub, Nat.reduceLT, Nat.reduceLeDiff]
 refine xcallD_p (hotspotlaw18_frame_p 4095 bx29) ?_; try dsimp only
 try refine xd_id ?_
 obtain ⟨x30, bx30, h0⟩ := bnd h0
 simp only [go_sem, Nat.reduceEqDiff, reduceIte, Nat.reduceMul, Nat.reduceSub, Nat.reduceLT, Nat.reduceLeDiff]
 try simp only [Nat.reduceAdd]
 try simp only [go_sem, Nat.reduceEqDiff, reduceIte, Nat.reduceMul, Nat.reduceSub, Nat.reduceLT, Nat.reduceLeDiff]
 try simp only [Nat.reduceAdd]
 try simp only [go_sem, Nat.reduceEqDiff, reduceIte, Nat.reduceMul, Nat.reduceSub, Nat.reduceLT, Nat.reduceLeDiff]
 refine xcallD_p (reorder_Put_p x28.1 x29 5 bx30) ?_; try dsimp only
 try refine xd_id ?_
 simp only [go_sem, Nat.reduceEqDiff, reduceIte, Nat.reduceMul, Nat.reduceSub, Nat.reduceLT, Nat.reduceLeDiff]
 try simp only [Nat.reduceAdd]
 try simp only [go_sem, Nat.reduceEqDiff, reduceIte, Nat.reduceMul, Nat.reduceSub, Nat.reduceLT, Nat.reduceLeDiff]
 try simp only [Nat.reduceAdd]
 try simp only [go_sem, Nat.reduceEqDiff, reduceIte, Nat.reduceMul, Nat.reduceSub, Nat.reduceLT, Nat.reduceLeDiff]
 refine And.intro ?_ (hKK _ (hotspotlaw18_alive_S0 x30 x28) (Wk.canonD [] [] [some 5] rfl trivial rfl (tmOU 0 tmO0 rfl List.not_mem_nil (by simp only [upd_get, Nat.reduceEqDiff, reduceIte, Nat.reduceAdd, Nat.reduceMul, Nat.reduceSub, Nat.reduceLT, Nat.reduceLeDiff, if_true, if_false] <;> rfl) (e_Reorder_tmx (by rfl) (Tm.clean (Clean.imm (c_HeldSeq _))))) (tmAllU 4 (tmAllU 3 (tmAllU 2 (tmAllU 1 tmAll0 (Tm.ptr rfl)) (Tm.v _)) (Tm.clean (Clean.imm (c_Frame _)))) (Tm.v _))) ?_)
 ·
  subst hall
  clear hKK KK
  first | decide +kernel | (simp [printsOk, apartP, clash, meet]; done) | (simp [printsOk, apartP, clash, meet]; decide +kernel)
 ·
  clear hKK KK hall all
  unfold hotspotlaw18_alive_S0
  refine awp_nr [1,2,3,4] (fun _ => rfl) fun tz => ?_
  refine awp_regDW fun KK hKK all hall => ?_
  refine xd_id ?_
  try simp only [List.toList_toArray, List.map_cons, List.map_nil, List.size_toArray, List.length_cons, List.length_nil, Nat.zero_add]
  try simp only [Nat.reduceAdd]
  obtain ⟨x31, bx31, h0⟩ := bnd h0
  simp only [go_sem, Nat.reduceEqDiff, reduceIte, Nat.reduceMul, Nat.reduceSub, Nat.reduceLT, Nat.reduceLeDiff]
  try simp only [Nat.reduceAdd]
  try simp only [go_sem, Nat.reduceEqDiff, reduceIte, Nat.reduceMul, Nat.reduceSub, Nat.reduceLT, Nat.reduceLeDiff]
  try simp only [Nat.reduceAdd]
  try simp only [go_sem, Nat.reduceEqDiff, reduceIte, Nat.reduceMul, Nat.reduceSub, Nat.reduceLT, Nat.reduceLeDiff]
  refine xcallD_p (hotspotlaw18_frame_p 4094 bx31) ?_; try dsimp only
  try refine xd_id ?_
  obtain ⟨x32, bx32, h0⟩ := bnd h0
  simp only [go_sem, Nat.reduceEqDiff, reduceIte, Nat.reduceMul, Nat.reduceSub, Nat.reduceLT, Nat.reduceLeDiff]
  try simp only [Nat.reduceAdd]
  try simp only [go_sem, Nat.reduceEqDiff, reduceIte, Nat.reduceMul, Nat.reduceSub, Nat.reduceLT, Nat.reduceLeDiff]
  try simp only [Nat.reduceAdd]
  try simp only [go_sem, Nat.reduceEqDiff, reduceIte, Nat.reduceMul, Nat.reduceSub, Nat.reduceLT, Nat.reduceLeDiff]
  refine xcallD_p (reorder_Put_p x30.2.1 x31 6 bx32) ?_; try dsimp only
  try refine xd_id ?_
  simp only [go_sem, Nat.reduceEqDiff, reduceIte, Nat.reduceMul, Nat.reduceSub, Nat.reduceLT, Nat.reduceLeDiff]
  try simp only [Nat.reduceAdd]
  try simp only [go_sem, Nat.reduceEqDiff, reduceIte, Nat.reduceMul, Nat.reduceSub, Nat.reduceLT, Nat.reduceLeDiff]
  try simp only [Nat.reduceAdd]
  try simp only [go_sem, Nat.reduceEqDiff, reduceIte, Nat.reduceMul, Nat.reduceSub, Nat.reduceLT, Nat.reduceLeDiff]
  refine And.intro ?_ (hKK _ _ (Wk.refl _ _ _) ?_)
  ·
   subst hall
   clear hKK KK
   first | decide +kernel | (simp [printsOk, apartP, clash, meet]; done) | (simp [printsOk, apartP, clash, meet]; decide +kernel)
  ·
   clear hKK KK hall all
   refine awp_nr [1,2,3,4,5,6] (fun _ => rfl) fun tz => ?_
   refine awp_regW fun KK hKK => ?_
   refine xw_id ?_
   try simp only [go_sem, Nat.reduceEqDiff, reduceIte, Nat.reduceAdd, Nat.reduceMul, Nat.reduceSub, Nat.reduceLT, Nat.reduceLeDiff]
   refine hKK _ _ (Wk.refl _ _ _) ?_; clear hKK KK
   refine awp_nr [1,2,3,4,5,6,7] (fun _ => rfl) fun tz => ?_
   refine awp_regDW fun KK hKK all hall => ?_
   refine xd_id ?_
   try simp only [List.toList_toArray, List.map_cons, List.map_nil, List.size_toArray, List.length_cons, List.length_nil, Nat.zero_add]
   try simp only [Nat.reduceAdd]
   obtain ⟨x33, bx33, h0⟩ := bnd h0
   simp only [go_sem, Nat.reduceEqDiff, reduceIte, Nat.reduceMul, Nat.reduceSub, Nat.reduceLT, Nat.reduceLeDiff]
   try simp only [Nat.reduceAdd]
   try simp only [go_sem, Nat.reduceEqDiff, reduceIte, Nat.reduceMul, Nat.reduceSub, Nat.reduceLT, Nat.reduceLeDiff]
   try simp only [Nat.reduceAdd]
   try simp only [go_sem, Nat.reduceEqDiff, reduceIte, Nat.reduceMul, Nat.reduceSub, Nat.reduceLT, Nat.reduceLeDiff]
   refine xcallD_p (hotspotlaw18_frame_p 2 bx33) ?_; try dsimp only
   try refine xd_id ?_
   obtain ⟨x34, bx34, h0⟩ := bnd h0
   simp only [go_sem, Nat.reduceEqDiff, reduceIte, Nat.reduceMul, Nat.reduceSub, Nat.reduceLT, Nat.reduceLeDiff]
   try simp only [Nat.reduceAdd]
   try simp only [go_sem, Nat.reduceEqDiff, reduceIte, Nat.reduceMul, Nat.reduceSub, Nat.reduceLT, Nat.reduceLeDiff]
   try simp only [Nat.reduceAdd]
   try simp only [go_sem, Nat.reduceEqDiff, reduceIte, Nat.reduceMul, Nat.reduceSub, Nat.reduceLT, Nat.reduceLeDiff]
   refine xcallD_p (reorder_Put_p x32.2.1 x33 7 bx34) ?_; try dsimp only
   try refine xd_id ?_
   simp only [go_sem, Nat.reduceEqDiff, reduceIte, Nat.reduceMul, Nat.reduceSub, Nat.reduceLT, Nat.reduceLeDiff]
   try simp only [Nat.reduceAdd]
   try simp only [go_sem, Nat.reduceEqDiff, reduceIte, Nat.reduceMul, Nat.reduceSub, Nat.reduceLT, Nat.reduceLeDiff]
   try simp only [Nat.reduceAdd]
   try simp only [go_sem, Nat.reduceEqDiff, reduceIte, Nat.reduceMul, Nat.reduceSub, Nat.reduceLT, Nat.reduceLeDiff]
   refine And.intro ?_ (hKK _ (hotspotlaw18_alive_S1 x34 x28 x30 x32) (Wk.canonD [] [] [some 0] rfl trivial rfl (tmOU 0 tmO0 rfl List.not_mem_nil (by simp only [upd_get, Nat.reduceEqDiff, reduceIte, Nat.reduceAdd, Nat.reduceMul, Nat.reduceSub, Nat.reduceLT, Nat.reduceLeDiff, if_true, if_false] <;> rfl) (e_Reorder_tmx (by rfl) (Tm.clean (Clean.imm (c_HeldSeq _))))) (tmAllU 9 (tmAllU 8 (tmAllU 7 (tmAllU 6 (tmAllU 5 (tmAllU 4 (tmAllU 3 (tmAllU 2 (tmAllU 1 tmAll0 (Tm.ptr rfl)) (Tm.v _)) (Tm.clean (Clean.imm (c_Frame _)))) (Tm.v _)) (Tm.clean (Clean.imm (c_Frame _)))) (Tm.v _)) (Tm.v _)) (Tm.clean (Clean.imm (c_Frame _)))) (Tm.v _))) ?_)
   ·
    subst hall
    clear hKK KK
    first | decide +kernel | (simp [printsOk, apartP, clash, meet]; done) | (simp [printsOk, apartP, clash, meet]; decide +kernel)
   ·
    clear hKK KK hall all
    unfold hotspotlaw18_alive_S1
    refine awp_nr [1,2,3,4,5,6,7,8,9] (fun _ => rfl) fun tz => ?_
    refine awp_regW fun KK hKK => ?_
    refine xw_id ?_
    obtain ⟨x35, bx35, h0⟩ := bnd h0
    try simp only [go_sem, Nat.reduceEqDiff, reduceIte, Nat.reduceAdd, Nat.reduceMul, Nat.reduceSub, Nat.reduceLT, Nat.reduceLeDiff]
    refine xcall_p (reorder_Due_p x34.2.1 bx35) ?_; try dsimp only
    try refine xw_id ?_
    try simp only [go_sem, Nat.reduceEqDiff, reduceIte, Nat.reduceAdd, Nat.reduceMul, Nat.reduceSub, Nat.reduceLT, Nat.reduceLeDiff]
    refine hKK _ _ (Wk.refl _ _ _) ?_; clear hKK KK
    refine awp_nr [1,2,3,4,5,6,7,8,9,10,11] (fun _ => rfl) fun tz => ?_
    refine awp_regW fun KK hKK => ?_
    refine xw_id ?_
    obtain ⟨x36, bx36, h0⟩ := bnd h0
    try simp only [go_sem, Nat.reduceEqDiff, reduceIte, Nat.reduceAdd, Nat.reduceMul, Nat.reduceSub, Nat.reduceLT, Nat.reduceLeDiff]
    refine xcall_p (reorder_Expire_p x34.2.1 107 bx36) ?_; try dsimp only
    try refine xw_id ?_
    try simp only [go_sem, Nat.reduceEqDiff, reduceIte, Nat.reduceAdd, Nat.reduceMul, Nat.reduceSub, Nat.reduceLT, Nat.reduceLeDiff]
    refine hKK _ _ (Wk.refl _ _ _) ?_; clear hKK KK
    refine awp_nr [1,2,3,4,5,6,7,8,9,10,11,12,13] (fun _ => rfl) fun tz => ?_
    refine awp_regW fun KK hKK => ?_
    refine xw_id ?_
    try simp only [go_sem, Nat.reduceEqDiff, reduceIte, Nat.reduceAdd, Nat.reduceMul, Nat.reduceSub, Nat.reduceLT, Nat.reduceLeDiff]
    refine hKK _ _ (Wk.refl _ _ _) ?_; clear hKK KK
    refine awp_nr [1,2,3,4,5,6,7,8,9,10,11,12,13,14] (fun _ => rfl) fun tz => ?_
    refine awp_regDW fun KK hKK all hall => ?_
    refine xd_id ?_
    try simp only [List.toList_toArray, List.map_cons, List.map_nil, List.size_toArray, List.length_cons, List.length_nil, Nat.zero_add]
    try simp only [Nat.reduceAdd]
    obtain ⟨x37, bx37, h0⟩ := bnd h0
    simp only [go_sem, Nat.reduceEqDiff, reduceIte, Nat.reduceMul, Nat.reduceSub, Nat.reduceLT, Nat.reduceLeDiff]
    try simp only [Nat.reduceAdd]
    try simp only [go_sem, Nat.reduceEqDiff, reduceIte, Nat.reduceMul, Nat.reduceSub, Nat.reduceLT, Nat.reduceLeDiff]
    try simp only [Nat.reduceAdd]
    try simp only [go_sem, Nat.reduceEqDiff, reduceIte, Nat.reduceMul, Nat.reduceSub, Nat.reduceLT, Nat.reduceLeDiff]
    refine xcallD_p (hotspotlaw18_frame_p 10 bx37) ?_; try dsimp only
    try refine xd_id ?_
    obtain ⟨x38, bx38, h0⟩ := bnd h0
    simp only [go_sem, Nat.reduceEqDiff, reduceIte, Nat.reduceMul, Nat.reduceSub, Nat.reduceLT, Nat.reduceLeDiff]
    try simp only [Nat.reduceAdd]
    try simp only [go_sem, Nat.reduceEqDiff, reduceIte, Nat.reduceMul, Nat.reduceSub, Nat.reduceLT, Nat.reduceLeDiff]
    try simp only [Nat.reduceAdd]
    try simp only [go_sem, Nat.reduceEqDiff, reduceIte, Nat.reduceMul, Nat.reduceSub, Nat.reduceLT, Nat.reduceLeDiff]
    refine xcallD_p (reorder_Put_p x36.2.1 x37 200 bx38) ?_; try dsimp only
    try refine xd_id ?_
    simp only [go_sem, Nat.reduceEqDiff, reduceIte, Nat.reduceMul, Nat.reduceSub, Nat.reduceLT, Nat.reduceLeDiff]
    try simp only [Nat.reduceAdd]
    try simp only [go_sem, Nat.reduceEqDiff, reduceIte, Nat.reduceMul, Nat.reduceSub, Nat.reduceLT, Nat.reduceLeDiff]
    try simp only [Nat.reduceAdd]
    try simp only [go_sem, Nat.reduceEqDiff, reduceIte, Nat.reduceMul, Nat.reduceSub, Nat.reduceLT, Nat.reduceLeDiff]
    refine And.intro ?_ (hKK _ (hotspotlaw18_alive_S2 x38 x28 x30 x32 x34 x35 x36) (Wk.canonD [] [] [some 0] rfl trivial rfl (tmOU 0 tmO0 rfl List.not_mem_nil (by simp only [upd_get, Nat.reduceEqDiff, reduceIte, Nat.reduceAdd, Nat.reduceMul, Nat.reduceSub, Nat.reduceLT, Nat.reduceLeDiff, if_true, if_false] <;> rfl) (e_Reorder_tmx (by rfl) (Tm.clean (Clean.imm (c_HeldSeq _))))) (tmAllU 16 (tmAllU 15 (tmAllU 14 (tmAllU 13 (tmAllU 12 (tmAllU 11 (tmAllU 10 (tmAllU 9 (tmAllU 8 (tmAllU 7 (tmAllU 6 (tmAllU 5 (tmAllU 4 (tmAllU 3 (tmAllU 2 (tmAllU 1 tmAll0 (Tm.ptr rfl)) (Tm.v _)) (Tm.clean (Clean.imm (c_Frame _)))) (Tm.v _)) (Tm.clean (Clean.imm (c_Frame _)))) (Tm.v _)) (Tm.v _)) (Tm.clean (Clean.imm (c_Frame _)))) (Tm.v _)) (Tm.v _)) (Tm.v _)) (Tm.clean (Clean.imm (c_Frame _)))) (Tm.v _)) (Tm.v _)) (Tm.clean (Clean.imm (c_Frame _)))) (Tm.v _))) ?_)
    ·
     subst hall
     clear hKK KK
     first | decide +kernel | (simp [printsOk, apartP, clash, meet]; done) | (simp [printsOk, apartP, clash, meet]; decide +kernel)
    ·
     clear hKK KK hall all
     unfold hotspotlaw18_alive_S2
     refine awp_nr [1,2,3,4,5,6,7,8,9,10,11,12,13,14,15,16] (fun _ => rfl) fun tz => ?_
     refine awp_regW fun KK hKK => ?_
     refine xw_id ?_
     try simp only [List.append_eq, Array.toList_append, List.append_toArray, List.toList_toArray, List.cons_append, List.nil_append]
     refine xw_stop 3 (by (try simp only [go_sem]); rfl) (by (try simp only [go_sem]); rfl) (by rfl) fun K1 hK1 => ?_
     refine xw_id ?_
     try simp only [go_sem, Nat.reduceEqDiff, reduceIte, Nat.reduceAdd, Nat.reduceMul, Nat.reduceSub, Nat.reduceLT, Nat.reduceLeDiff]
     refine hK1 _ ?_; clear hK1 K1
     refine xw_cut 3 [(1, (.ptr 0 0)), (3, (.imm (List.flatMap E_Frame x30.1) x30.1.length)), (5, (.imm (List.flatMap E_Frame x32.1) x32.1.length)), (6, (vi x32.2.2)), (7, (vi x32.2.1.Start)), (8, (.imm (List.flatMap E_Frame x34.1) x34.1.length)), (9, (vi x34.2.2)), (10, (vi x35.1)), (11, (vb x35.2)), (12, (.imm (List.flatMap E_Frame x36.1) x36.1.length)), (13, (vi x36.2.2)), (14, (vi x36.2.1.Start)), (15, (.imm (List.flatMap E_Frame x38.1) x38.1.length)), (16, (vi x38.2.2)), (69, (vb ((x28.2 == 0) && (x30.2.2 == 0))))] (by (try simp only [go_sem]); rfl) (by (try simp only [go_sem]); rfl) (by rfl) (fun K1 hK1 => ?_) fun tz => ?_
     ·
      refine xw_id ?_
      rcases Bool.eq_false_or_eq_true (x28.2 == 0) with h1 | h1
      ·
       try simp only [go_sem, Nat.reduceEqDiff, reduceIte, Nat.reduceAdd, Nat.reduceMul, Nat.reduceSub, Nat.reduceLT, Nat.reduceLeDiff, h1]
       exact hK1 _ ⟨rfl, rfl, rfl, rfl, rfl, rfl, rfl, rfl, rfl, rfl, rfl, rfl, rfl, rfl, rfl, (by first | rfl | (rw [h1]; rfl) | (simp only [h1, Bool.true_and, Bool.false_and, Bool.true_or, Bool.false_or, cond_true, cond_false]; done)), trivial⟩
      ·
       try simp only [go_sem, Nat.reduceEqDiff, reduceIte, Nat.reduceAdd, Nat.reduceMul, Nat.reduceSub, Nat.reduceLT, Nat.reduceLeDiff, h1]
       exact hK1 _ ⟨rfl, rfl, rfl, rfl, rfl, rfl, rfl, rfl, rfl, rfl, rfl, rfl, rfl, rfl, rfl, (by first | rfl | (rw [h1]; rfl) | (simp only [h1, Bool.true_and, Bool.false_and, Bool.true_or, Bool.false_or, cond_true, cond_false]; done)), trivial⟩
     ·
      refine xw_id ?_
      refine xw_stop 1 (by (try simp only [go_sem]); rfl) (by (try simp only [go_sem]); rfl) (by rfl) fun K1 hK1 => ?_
      refine xw_id ?_
      try simp only [go_sem, Nat.reduceEqDiff, reduceIte, Nat.reduceAdd, Nat.reduceMul, Nat.reduceSub, Nat.reduceLT, Nat.reduceLeDiff]
      refine hK1 _ ?_; clear hK1 K1
      obtain ⟨x40, hvh2, h0⟩ := bnd h0
      refine xw_cut 3 [(1, (.ptr 0 0)), (5, (.imm (List.flatMap E_Frame x32.1) x32.1.length)), (6, (vi x32.2.2)), (7, (vi x32.2.1.Start)), (8, (.imm (List.flatMap E_Frame x34.1) x34.1.length)), (9, (vi x34.2.2)), (10, (vi x35.1)), (11, (vb x35.2)), (12, (.imm (List.flatMap E_Frame x36.1) x36.1.length)), (13, (vi x36.2.2)), (14, (vi x36.2.1.Start)), (15, (.imm (List.flatMap E_Frame x38.1) x38.1.length)), (16, (vi x38.2.2)), (73, (vb x40))] (by (try simp only [go_sem]); rfl) (by (try simp only [go_sem]); rfl) (by rfl) (fun K1 hK1 => ?_) fun tz => ?_
      ·
       refine xw_id ?_
       rcases Bool.eq_false_or_eq_true ((x28.2 == 0) && (x30.2.2 == 0)) with h2 | h2
       ·
        have hvh2 := cT hvh2 h2
        have h2_0 : (x28.2 == 0) = true := by simp only [Bool.and_eq_true] at h2; exact h2.1
        have h2_1 : (x30.2.2 == 0) = true := by simp only [Bool.and_eq_true] at h2; exact h2.2
        obtain ⟨x39, bx39, hvh2⟩ := bnd hvh2
        try simp only [go_sem, Nat.reduceEqDiff, reduceIte, Nat.reduceAdd, Nat.reduceMul, Nat.reduceSub, Nat.reduceLT, Nat.reduceLeDiff, h2, h2_0, h2_1]
        refine xcall_N (by first | (simp only [go_sem, fz, nilS, cond_true, cond_false, Nat.reduceEqDiff, reduceIte, Nat.reduceAdd, Nat.reduceMul, Nat.reduceSub, Nat.reduceLT, Nat.reduceLeDiff]; done) | (simp only [go_sem, fz, nilS, cond_true, cond_false, Nat.reduceEqDiff, reduceIte, Nat.reduceAdd, Nat.reduceMul, Nat.reduceSub, Nat.reduceLT, Nat.reduceLeDiff]; rfl)) (hotspotlaw18_numbers_p x30.1 [] bx39) ?_; try dsimp only
        try refine xw_id ?_
        try simp only [go_sem, Nat.reduceEqDiff, reduceIte, Nat.reduceAdd, Nat.reduceMul, Nat.reduceSub, Nat.reduceLT, Nat.reduceLeDiff, h2, h2_0, h2_1]
        obtain rfl := someInj hvh2
        exact hK1 _ ⟨rfl, (by first | rfl | (rw [h2_0]; rfl) | (rw [h2_1]; rfl)), (by first | rfl | (rw [h2_0]; rfl) | (rw [h2_1]; rfl)), (by first | rfl | (rw [h2_0]; rfl) | (rw [h2_1]; rfl)), (by first | rfl | (rw [h2_0]; rfl) | (rw [h2_1]; rfl)), (by first | rfl | (rw [h2_0]; rfl) | (rw [h2_1]; rfl)), (by first | rfl | (rw [h2_0]; rfl) | (rw [h2_1]; rfl)), (by first | rfl | (rw [h2_0]; rfl) | (rw [h2_1]; rfl)), (by first | rfl | (rw [h2_0]; rfl) | (rw [h2_1]; rfl)), (by first | rfl | (rw [h2_0]; rfl) | (rw [h2_1]; rfl)), (by first | rfl | (rw [h2_0]; rfl) | (rw [h2_1]; rfl)), (by first | rfl | (rw [h2_0]; rfl) | (rw [h2_1]; rfl)), (by first | rfl | (rw [h2_0]; rfl) | (rw [h2_1]; rfl)), (by first | rfl | (rw [h2_0]; rfl) | (rw [h2_1]; rfl)), (by first | rfl | (rw [h2]; rfl) | (simp only [h2, Bool.true_and, Bool.false_and, Bool.true_or, Bool.false_or, cond_true, cond_false]; done)), trivial⟩
       ·
        have hvh2 := cF hvh2 h2
        try simp only [go_sem, Nat.reduceEqDiff, reduceIte, Nat.reduceAdd, Nat.reduceMul, Nat.reduceSub, Nat.reduceLT, Nat.reduceLeDiff, h2]
        obtain rfl := someInj hvh2
        exact hK1 _ ⟨rfl, rfl, rfl, rfl, rfl, rfl, rfl, rfl, rfl, rfl, rfl, rfl, rfl, rfl, (by first | rfl | (rw [h2]; rfl) | (simp only [h2, Bool.true_and, Bool.false_and, Bool.true_or, Bool.false_or, cond_true, cond_false]; done)), trivial⟩
      ·
       refine xw_id ?_
       refine xw_stop 1 (by (try simp only [go_sem]); rfl) (by (try simp only [go_sem]); rfl) (by rfl) fun K1 hK1 => ?_
       refine xw_id ?_
       try simp only [go_sem, Nat.reduceEqDiff, reduceIte, Nat.reduceAdd, Nat.reduceMul, Nat.reduceSub, Nat.reduceLT, Nat.reduceLeDiff]
       refine hK1 _ ?_; clear hK1 K1
       refine xw_cut 3 [(1, (.ptr 0 0)), (5, (.imm (List.flatMap E_Frame x32.1) x32.1.length)), (7, (vi x32.2.1.Start)), (8, (.imm (List.flatMap E_Frame x34.1) x34.1.length)), (9, (vi x34.2.2)), (10, (vi x35.1)), (11, (vb x35.2)), (12, (.imm (List.flatMap E_Frame x36.1) x36.1.length)), (13, (vi x36.2.2)), (14, (vi x36.2.1.Start)), (15, (.imm (List.flatMap E_Frame x38.1) x38.1.length)), (16, (vi x38.2.2)), (77, (vb (x40 && (x32.2.2 == 0))))] (by (try simp only [go_sem]); rfl) (by (try simp only [go_sem]); rfl) (by rfl) (fun K1 hK1 => ?_) fun tz => ?_
       ·
        refine xw_id ?_
        rcases Bool.eq_false_or_eq_true x40 with h3 | h3
        ·
         try simp only [go_sem, Nat.reduceEqDiff, reduceIte, Nat.reduceAdd, Nat.reduceMul, Nat.reduceSub, Nat.reduceLT, Nat.reduceLeDiff, h3]
         exact hK1 _ ⟨rfl, rfl, rfl, rfl, rfl, rfl, rfl, rfl, rfl, rfl, rfl, rfl, rfl, (by first | rfl | (rw [h3]; rfl) | (simp only [h3, Bool.true_and, Bool.false_and, Bool.true_or, Bool.false_or, cond_true, cond_false]; done)), trivial⟩
        ·
         try simp only [go_sem, Nat.reduceEqDiff, reduceIte, Nat.reduceAdd, Nat.reduceMul, Nat.reduceSub, Nat.reduceLT, Nat.reduceLeDiff, h3]
         exact hK1 _ ⟨rfl, rfl, rfl, rfl, rfl, rfl, rfl, rfl, rfl, rfl, rfl, rfl, rfl, (by first | rfl | (rw [h3]; rfl) | (simp only [h3, Bool.true_and, Bool.false_and, Bool.true_or, Bool.false_or, cond_true, cond_false]; done)), trivial⟩
       ·
        refine xw_id ?_
        rcases Bool.eq_false_or_eq_true (x40 && (x32.2.2 == 0)) with h4 | h4
        ·
         have h0 := cT h0 h4
         obtain ⟨x41, bx41, h0⟩ := bnd h0
         try simp only [go_sem, Nat.reduceEqDiff, reduceIte, Nat.reduceAdd, Nat.reduceMul, Nat.reduceSub, Nat.reduceLT, Nat.reduceLeDiff, h4]
         refine xcall_L (by first | (simp only [go_sem, fz, Nat.reduceEqDiff, reduceIte, Nat.reduceAdd, Nat.reduceMul, Nat.reduceSub, Nat.reduceLT, Nat.reduceLeDiff, h4]; done) | (simp only [go_sem, fz, Nat.reduceEqDiff, reduceIte, Nat.reduceAdd, Nat.reduceMul, Nat.reduceSub, Nat.reduceLT, Nat.reduceLeDiff, h4]; rfl) | (simp only [go_sem, fz, List.length_set, ble_self, take_set, cond_true, cond_false, Nat.reduceEqDiff, reduceIte, Nat.reduceAdd, Nat.reduceMul, Nat.reduceSub, Nat.reduceLT, Nat.reduceLeDiff, h4]; done) | (simp only [go_sem, fz, List.length_set, ble_self, take_set, cond_true, cond_false, Nat.reduceEqDiff, reduceIte, Nat.reduceAdd, Nat.reduceMul, Nat.reduceSub, Nat.reduceLT, Nat.reduceLeDiff, h4]; rfl)) (hotspotlaw18_numbers_p x32.1 [4094, 4095] bx41) (Bare.v _) ?_; try dsimp only
         try refine xw_id ?_
         refine xw_stop 2 (by (try simp only [go_sem]); rfl) (by (try simp only [go_sem]); rfl) (by rfl) fun K1 hK1 => ?_
         refine xw_id ?_
         try simp only [go_sem, Nat.reduceEqDiff, reduceIte, Nat.reduceAdd, Nat.reduceMul, Nat.reduceSub, Nat.reduceLT, Nat.reduceLeDiff, h4]
         refine hK1 _ ?_; clear hK1 K1
         refine xw_cut 3 [(1, (.ptr 0 0)), (8, (.imm (List.flatMap E_Frame x34.1) x34.1.length)), (9, (vi x34.2.2)), (10, (vi x35.1)), (11, (vb x35.2)), (12, (.imm (List.flatMap E_Frame x36.1) x36.1.length)), (13, (vi x36.2.2)), (14, (vi x36.2.1.Start)), (15, (.imm (List.flatMap E_Frame x38.1) x38.1.length)), (16, (vi x38.2.2)), (86, (vb (x41 && (x32.2.1.Start == 0))))] (by (try simp only [go_sem]); rfl) (by (try simp only [go_sem]); rfl) (by rfl) (fun K1 hK1 => ?_) fun tz => ?_
         ·
          refine xw_id ?_
          rcases Bool.eq_false_or_eq_true x41 with h5 | h5
          ·
           try simp only [go_sem, Nat.reduceEqDiff, reduceIte, Nat.reduceAdd, Nat.reduceMul, Nat.reduceSub, Nat.reduceLT, Nat.reduceLeDiff, h4, h5]
           exact hK1 _ ⟨rfl, rfl, rfl, rfl, rfl, rfl, rfl, rfl, rfl, rfl, rfl, (by first | rfl | (rw [h5]; rfl) | (simp only [h5, Bool.true_and, Bool.false_and, Bool.true_or, Bool.false_or, cond_true, cond_false]; done)), trivial⟩
          ·
           try simp only [go_sem, Nat.reduceEqDiff, reduceIte, Nat.reduceAdd, Nat.reduceMul, Nat.reduceSub, Nat.reduceLT, Nat.reduceLeDiff, h4, h5]
           exact hK1 _ ⟨rfl, rfl, rfl, rfl, rfl, rfl, rfl, rfl, rfl, rfl, rfl, (by first | rfl | (rw [h5]; rfl) | (simp only [h5, Bool.true_and, Bool.false_and, Bool.true_or, Bool.false_or, cond_true, cond_false]; done)), trivial⟩
         ·
          refine xw_id ?_
          refine xw_stop 1 (by (try simp only [go_sem]); rfl) (by (try simp only [go_sem]); rfl) (by rfl) fun K1 hK1 => ?_
          refine xw_id ?_
          try simp only [go_sem, Nat.reduceEqDiff, reduceIte, Nat.reduceAdd, Nat.reduceMul, Nat.reduceSub, Nat.reduceLT, Nat.reduceLeDiff, h4]
          refine hK1 _ ?_; clear hK1 K1
          refine xw_cut 3 [(1, (.ptr 0 0)), (8, (.imm (List.flatMap E_Frame x34.1) x34.1.length)), (10, (vi x35.1)), (11, (vb x35.2)), (12, (.imm (List.flatMap E_Frame x36.1) x36.1.length)), (13, (vi x36.2.2)), (14, (vi x36.2.1.Start)), (15, (.imm (List.flatMap E_Frame x38.1) x38.1.length)), (16, (vi x38.2.2)), (90, (vb ((x41 && (x32.2.1.Start == 0)) && (x34.2.2 == 0))))] (by (try simp only [go_sem]); rfl) (by (try simp only [go_sem]); rfl) (by rfl) (fun K1 hK1 => ?_) fun tz => ?_
          ·
           refine xw_id ?_
           rcases Bool.eq_false_or_eq_true (x41 && (x32.2.1.Start == 0)) with h6 | h6
           ·
            have h6_0 : (x41) = true := by simp only [Bool.and_eq_true] at h6; exact h6.1
            have h6_1 : (x32.2.1.Start == 0) = true := by simp only [Bool.and_eq_true] at h6; exact h6.2
            try simp only [go_sem, Nat.reduceEqDiff, reduceIte, Nat.reduceAdd, Nat.reduceMul, Nat.reduceSub, Nat.reduceLT, Nat.reduceLeDiff, h4, h6, h6_0, h6_1]
            exact hK1 _ ⟨rfl, (by first | rfl | (rw [h6_0]; rfl) | (rw [h6_1]; rfl)), (by first | rfl | (rw [h6_0]; rfl) | (rw [h6_1]; rfl)), (by first | rfl | (rw [h6_0]; rfl) | (rw [h6_1]; rfl)), (by first | rfl | (rw [h6_0]; rfl) | (rw [h6_1]; rfl)), (by first | rfl | (rw [h6_0]; rfl) | (rw [h6_1]; rfl)), (by first | rfl | (rw [h6_0]; rfl) | (rw [h6_1]; rfl)), (by first | rfl | (rw [h6_0]; rfl) | (rw [h6_1]; rfl)), (by first | rfl | (rw [h6_0]; rfl) | (rw [h6_1]; rfl)), (by first | rfl | (rw [h6_0]; rfl) | (rw [h6_1]; rfl)), (by first | rfl | (rw [h6]; rfl) | (simp only [h6, Bool.true_and, Bool.false_and, Bool.true_or, Bool.false_or, cond_true, cond_false]; done)), trivial⟩
           ·
            try simp only [go_sem, Nat.reduceEqDiff, reduceIte, Nat.reduceAdd, Nat.reduceMul, Nat.reduceSub, Nat.reduceLT, Nat.reduceLeDiff, h4, h6]
            exact hK1 _ ⟨rfl, rfl, rfl, rfl, rfl, rfl, rfl, rfl, rfl, rfl, (by first | rfl | (rw [h6]; rfl) | (simp only [h6, Bool.true_and, Bool.false_and, Bool.true_or, Bool.false_or, cond_true, cond_false]; done)), trivial⟩
          ·
           refine xw_id ?_
           refine xw_stop 1 (by (try simp only [go_sem]); rfl) (by (try simp only [go_sem]); rfl) (by rfl) fun K1 hK1 => ?_
           refine xw_id ?_
           try simp only [go_sem, Nat.reduceEqDiff, reduceIte, Nat.reduceAdd, Nat.reduceMul, Nat.reduceSub, Nat.reduceLT, Nat.reduceLeDiff, h4]
           refine hK1 _ ?_; clear hK1 K1
           obtain ⟨x43, hvh7, h0⟩ := bnd h0
           refine xw_cut 3 [(1, (.ptr 0 0)), (10, (vi x35.1)), (11, (vb x35.2)), (12, (.imm (List.flatMap E_Frame x36.1) x36.1.length)), (13, (vi x36.2.2)), (14, (vi x36.2.1.Start)), (15, (.imm (List.flatMap E_Frame x38.1) x38.1.length)), (16, (vi x38.2.2)), (94, (vb x43))] (by (try simp only [go_sem]); rfl) (by (try simp only [go_sem]); rfl) (by rfl) (fun K1 hK1 => ?_) fun tz => ?_
           ·
            refine xw_id ?_
            rcases Bool.eq_false_or_eq_true ((x41 && (x32.2.1.Start == 0)) && (x34.2.2 == 0)) with h7 | h7
            ·
             have hvh7 := cT hvh7 h7
             have h7_0 : (x41) = true := by simp only [Bool.and_eq_true] at h7; exact h7.1.1
             have h7_1 : (x32.2.1.Start == 0) = true := by simp only [Bool.and_eq_true] at h7; exact h7.1.2
             have h7_2 : (x34.2.2 == 0) = true := by simp only [Bool.and_eq_true] at h7; exact h7.2
             obtain ⟨x42, bx42, hvh7⟩ := bnd hvh7
             try simp only [go_sem, Nat.reduceEqDiff, reduceIte, Nat.reduceAdd, Nat.reduceMul, Nat.reduceSub, Nat.reduceLT, Nat.reduceLeDiff, h4, h7, h7_0, h7_1, h7_2]
             refine xcall_N (by first | (simp only [go_sem, fz, nilS, cond_true, cond_false, Nat.reduceEqDiff, reduceIte, Nat.reduceAdd, Nat.reduceMul, Nat.reduceSub, Nat.reduceLT, Nat.reduceLeDiff]; done) | (simp only [go_sem, fz, nilS, cond_true, cond_false, Nat.reduceEqDiff, reduceIte, Nat.reduceAdd, Nat.reduceMul, Nat.reduceSub, Nat.reduceLT, Nat.reduceLeDiff]; rfl)) (hotspotlaw18_numbers_p x34.1 [] bx42) ?_; try dsimp only
             try refine xw_id ?_
             try simp only [go_sem, Nat.reduceEqDiff, reduceIte, Nat.reduceAdd, Nat.reduceMul, Nat.reduceSub, Nat.reduceLT, Nat.reduceLeDiff, h4, h7, h7_0, h7_1, h7_2]
             obtain rfl := someInj hvh7
             exact hK1 _ ⟨rfl, (by first | rfl | (rw [h7_0]; rfl) | (rw [h7_1]; rfl) | (rw [h7_2]; rfl)), (by first | rfl | (rw [h7_0]; rfl) | (rw [h7_1]; rfl) | (rw [h7_2]; rfl)), (by first | rfl | (rw [h7_0]; rfl) | (rw [h7_1]; rfl) | (rw [h7_2]; rfl)), (by first | rfl | (rw [h7_0]; rfl) | (rw [h7_1]; rfl) | (rw [h7_2]; rfl)), (by first | rfl | (rw [h7_0]; rfl) | (rw [h7_1]; rfl) | (rw [h7_2]; rfl)), (by first | rfl | (rw [h7_0]; rfl) | (rw [h7_1]; rfl) | (rw [h7_2]; rfl)), (by first | rfl | (rw [h7_0]; rfl) | (rw [h7_1]; rfl) | (rw [h7_2]; rfl)), (by first | rfl | (rw [h7_0]; rfl) | (rw [h7_1]; rfl) | (rw [h7_2]; rfl)), (by first | rfl | (rw [h7]; rfl) | (simp only [h7, Bool.true_and, Bool.false_and, Bool.true_or, Bool.false_or, cond_true, cond_false]; done)), trivial⟩
            ·
             have hvh7 := cF hvh7 h7
             try simp only [go_sem, Nat.reduceEqDiff, reduceIte, Nat.reduceAdd, Nat.reduceMul, Nat.reduceSub, Nat.reduceLT, Nat.reduceLeDiff, h4, h7]
             obtain rfl := someInj hvh7
             exact hK1 _ ⟨rfl, rfl, rfl, rfl, rfl, rfl, rfl, rfl, rfl, (by first | rfl | (rw [h7]; rfl) | (simp only [h7, Bool.true_and, Bool.false_and, Bool.true_or, Bool.false_or, cond_true, cond_false]; done)), trivial⟩
           ·
            refine xw_id ?_
            refine xw_stop 1 (by (try simp only [go_sem]); rfl) (by (try simp only [go_sem]); rfl) (by rfl) fun K1 hK1 => ?_
            refine xw_id ?_
            try simp only [go_sem, Nat.reduceEqDiff, reduceIte, Nat.reduceAdd, Nat.reduceMul, Nat.reduceSub, Nat.reduceLT, Nat.reduceLeDiff, h4]
            refine hK1 _ ?_; clear hK1 K1
            refine xw_cut 3 [(1, (.ptr 0 0)), (11, (vb x35.2)), (12, (.imm (List.flatMap E_Frame x36.1) x36.1.length)), (13, (vi x36.2.2)), (14, (vi x36.2.1.Start)), (15, (.imm (List.flatMap E_Frame x38.1) x38.1.length)), (16, (vi x38.2.2)), (98, (vb (x43 && (x35.1 == 107))))] (by (try simp only [go_sem]); rfl) (by (try simp only [go_sem]); rfl) (by rfl) (fun K1 hK1 => ?_) fun tz => ?_
            ·
             refine xw_id ?_
             rcases Bool.eq_false_or_eq_true x43 with h8 | h8
             ·
              try simp only [go_sem, Nat.reduceEqDiff, reduceIte, Nat.reduceAdd, Nat.reduceMul, Nat.reduceSub, Nat.reduceLT, Nat.reduceLeDiff, h4, h8]
              exact hK1 _ ⟨rfl, rfl, rfl, rfl, rfl, rfl, rfl, rfl, (by first | rfl | (rw [h8]; rfl) | (simp only [h8, Bool.true_and, Bool.false_and, Bool.true_or, Bool.false_or, cond_true, cond_false]; done)), trivial⟩
             ·
              try simp only [go_sem, Nat.reduceEqDiff, reduceIte, Nat.reduceAdd, Nat.reduceMul, Nat.reduceSub, Nat.reduceLT, Nat.reduceLeDiff, h4, h8]
              exact hK1 _ ⟨rfl, rfl, rfl, rfl, rfl, rfl, rfl, rfl, (by first | rfl | (rw [h8]; rfl) | (simp only [h8, Bool.true_and, Bool.false_and, Bool.true_or, Bool.false_or, cond_true, cond_false]; done)), trivial⟩
            ·
             refine xw_id ?_
             refine xw_stop 1 (by (try simp only [go_sem]); rfl) (by (try simp only [go_sem]); rfl) (by rfl) fun K1 hK1 => ?_
             refine xw_id ?_
             try simp only [go_sem, Nat.reduceEqDiff, reduceIte, Nat.reduceAdd, Nat.reduceMul, Nat.reduceSub, Nat.reduceLT, Nat.reduceLeDiff, h4]
             refine hK1 _ ?_; clear hK1 K1
             refine xw_cut 2 [(1, (.ptr 0 0)), (12, (.imm (List.flatMap E_Frame x36.1) x36.1.length)), (13, (vi x36.2.2)), (14, (vi x36.2.1.Start)), (15, (.imm (List.flatMap E_Frame x38.1) x38.1.length)), (16, (vi x38.2.2)), (101, (vb ((x43 && (x35.1 == 107)) && x35.2)))] (by (try simp only [go_sem]); rfl) (by (try simp only [go_sem]); rfl) (by rfl) (fun K1 hK1 => ?_) fun tz => ?_
             ·
              refine xw_id ?_
              rcases Bool.eq_false_or_eq_true (x43 && (x35.1 == 107)) with h9 | h9
              ·
               have h9_0 : (x43) = true := by simp only [Bool.and_eq_true] at h9; exact h9.1
               have h9_1 : (x35.1 == 107) = true := by simp only [Bool.and_eq_true] at h9; exact h9.2
               try simp only [go_sem, Nat.reduceEqDiff, reduceIte, Nat.reduceAdd, Nat.reduceMul, Nat.reduceSub, Nat.reduceLT, Nat.reduceLeDiff, h4, h9, h9_0, h9_1]
               exact hK1 _ ⟨rfl, (by first | rfl | (rw [h9_0]; rfl) | (rw [h9_1]; rfl)), (by first | rfl | (rw [h9_0]; rfl) | (rw [h9_1]; rfl)), (by first | rfl | (rw [h9_0]; rfl) | (rw [h9_1]; rfl)), (by first | rfl | (rw [h9_0]; rfl) | (rw [h9_1]; rfl)), (by first | rfl | (rw [h9_0]; rfl) | (rw [h9_1]; rfl)), (by first | rfl | (rw [h9_0]; rfl) | (rw [h9_1]; rfl)), (by first | rfl | (rw [h9]; rfl) | (simp only [h9, Bool.true_and, Bool.false_and, Bool.true_or, Bool.false_or, cond_true, cond_false]; done)), trivial⟩
              ·
               try simp only [go_sem, Nat.reduceEqDiff, reduceIte, Nat.reduceAdd, Nat.reduceMul, Nat.reduceSub, Nat.reduceLT, Nat.reduceLeDiff, h4, h9]
               exact hK1 _ ⟨rfl, rfl, rfl, rfl, rfl, rfl, rfl, (by first | rfl | (rw [h9]; rfl) | (simp only [h9, Bool.true_and, Bool.false_and, Bool.true_or, Bool.false_or, cond_true, cond_false]; done)), trivial⟩
             ·
              refine xw_id ?_
              refine xw_stop 1 (by (try simp only [go_sem]); rfl) (by (try simp only [go_sem]); rfl) (by rfl) fun K1 hK1 => ?_
              refine xw_id ?_
              try simp only [go_sem, Nat.reduceEqDiff, reduceIte, Nat.reduceAdd, Nat.reduceMul, Nat.reduceSub, Nat.reduceLT, Nat.reduceLeDiff, h4]
              refine hK1 _ ?_; clear hK1 K1
              refine xw_cut 3 [(1, (.ptr 0 0)), (12, (.imm (List.flatMap E_Frame x36.1) x36.1.length)), (14, (vi x36.2.1.Start)), (15, (.imm (List.flatMap E_Frame x38.1) x38.1.length)), (16, (vi x38.2.2)), (105, (vb (((x43 && (x35.1 == 107)) && x35.2) && (x36.2.2 == 0))))] (by (try simp only [go_sem]); rfl) (by (try simp only [go_sem]); rfl) (by rfl) (fun K1 hK1 => ?_) fun tz => ?_
              ·
               refine xw_id ?_
               rcases Bool.eq_false_or_eq_true ((x43 && (x35.1 == 107)) && x35.2) with h10 | h10
               ·
                have h10_0 : (x43) = true := by simp only [Bool.and_eq_true] at h10; exact h10.1.1
                have h10_1 : (x35.1 == 107) = true := by simp only [Bool.and_eq_true] at h10; exact h10.1.2
                have h10_2 : (x35.2) = true := by simp only [Bool.and_eq_true] at h10; exact h10.2
                try simp only [go_sem, Nat.reduceEqDiff, reduceIte, Nat.reduceAdd, Nat.reduceMul, Nat.reduceSub, Nat.reduceLT, Nat.reduceLeDiff, h4, h10, h10_0, h10_1, h10_2]
                exact hK1 _ ⟨rfl, (by first | rfl | (rw [h10_0]; rfl) | (rw [h10_1]; rfl) | (rw [h10_2]; rfl)), (by first | rfl | (rw [h10_0]; rfl) | (rw [h10_1]; rfl) | (rw [h10_2]; rfl)), (by first | rfl | (rw [h10_0]; rfl) | (rw [h10_1]; rfl) | (rw [h10_2]; rfl)), (by first | rfl | (rw [h10_0]; rfl) | (rw [h10_1]; rfl) | (rw [h10_2]; rfl)), (by first | rfl | (rw [h10_0]; rfl) | (rw [h10_1]; rfl) | (rw [h10_2]; rfl)), (by first | rfl | (rw [h10]; rfl) | (simp only [h10, Bool.true_and, Bool.false_and, Bool.true_or, Bool.false_or, cond_true, cond_false]; done)), trivial⟩
               ·
                try simp only [go_sem, Nat.reduceEqDiff, reduceIte, Nat.reduceAdd, Nat.reduceMul, Nat.reduceSub, Nat.reduceLT, Nat.reduceLeDiff, h4, h10]
                exact hK1 _ ⟨rfl, rfl, rfl, rfl, rfl, rfl, (by first | rfl | (rw [h10]; rfl) | (simp only [h10, Bool.true_and, Bool.false_and, Bool.true_or, Bool.false_or, cond_true, cond_false]; done)), trivial⟩
              ·
               refine xw_id ?_
               rcases Bool.eq_false_or_eq_true (((x43 && (x35.1 == 107)) && x35.2) && (x36.2.2 == 0)) with h11 | h11
               ·
                have h0 := cT h0 h11
                obtain ⟨x44, bx44, h0⟩ := bnd h0
                try simp only [go_sem, Nat.reduceEqDiff, reduceIte, Nat.reduceAdd, Nat.reduceMul, Nat.reduceSub, Nat.reduceLT, Nat.reduceLeDiff, h4, h11]
                refine xcall_L (by first | (simp only [go_sem, fz, Nat.reduceEqDiff, reduceIte, Nat.reduceAdd, Nat.reduceMul, Nat.reduceSub, Nat.reduceLT, Nat.reduceLeDiff, h4, h11]; done) | (simp only [go_sem, fz, Nat.reduceEqDiff, reduceIte, Nat.reduceAdd, Nat.reduceMul, Nat.reduceSub, Nat.reduceLT, Nat.reduceLeDiff, h4, h11]; rfl) | (simp only [go_sem, fz, List.length_set, ble_self, take_set, cond_true, cond_false, Nat.reduceEqDiff, reduceIte, Nat.reduceAdd, Nat.reduceMul, Nat.reduceSub, Nat.reduceLT, Nat.reduceLeDiff, h4, h11]; done) | (simp only [go_sem, fz, List.length_set, ble_self, take_set, cond_true, cond_false, Nat.reduceEqDiff, reduceIte, Nat.reduceAdd, Nat.reduceMul, Nat.reduceSub, Nat.reduceLT, Nat.reduceLeDiff, h4, h11]; rfl)) (hotspotlaw18_numbers_p x36.1 [2] bx44) (Bare.v _) ?_; try dsimp only
                try refine xw_id ?_
                refine xw_stop 2 (by (try simp only [go_sem]); rfl) (by (try simp only [go_sem]); rfl) (by rfl) fun K1 hK1 => ?_
                refine xw_id ?_
                try simp only [go_sem, Nat.reduceEqDiff, reduceIte, Nat.reduceAdd, Nat.reduceMul, Nat.reduceSub, Nat.reduceLT, Nat.reduceLeDiff, h4, h11]
                refine hK1 _ ?_; clear hK1 K1
                refine xw_cut 3 [(1, (.ptr 0 0)), (15, (.imm (List.flatMap E_Frame x38.1) x38.1.length)), (16, (vi x38.2.2)), (114, (vb (x44 && (x36.2.1.Start == 3))))] (by (try simp only [go_sem]); rfl) (by (try simp only [go_sem]); rfl) (by rfl) (fun K1 hK1 => ?_) fun tz => ?_
                ·
                 refine xw_id ?_
                 rcases Bool.eq_false_or_eq_true x44 with h12 | h12
                 ·
                  try simp only [go_sem, Nat.reduceEqDiff, reduceIte, Nat.reduceAdd, Nat.reduceMul, Nat.reduceSub, Nat.reduceLT, Nat.reduceLeDiff, h4, h11, h12]
                  exact hK1 _ ⟨rfl, rfl, rfl, rfl, (by first | rfl | (rw [h12]; rfl) | (simp only [h12, Bool.true_and, Bool.false_and, Bool.true_or, Bool.false_or, cond_true, cond_false]; done)), trivial⟩
                 ·
                  try simp only [go_sem, Nat.reduceEqDiff, reduceIte, Nat.reduceAdd, Nat.reduceMul, Nat.reduceSub, Nat.reduceLT, Nat.reduceLeDiff, h4, h11, h12]
                  exact hK1 _ ⟨rfl, rfl, rfl, rfl, (by first | rfl | (rw [h12]; rfl) | (simp only [h12, Bool.true_and, Bool.false_and, Bool.true_or, Bool.false_or, cond_true, cond_false]; done)), trivial⟩
                ·
                 refine xw_id ?_
                 refine xw_stop 1 (by (try simp only [go_sem]); rfl) (by (try simp only [go_sem]); rfl) (by rfl) fun K1 hK1 => ?_
                 refine xw_id ?_
                 try simp only [go_sem, Nat.reduceEqDiff, reduceIte, Nat.reduceAdd, Nat.reduceMul, Nat.reduceSub, Nat.reduceLT, Nat.reduceLeDiff, h4, h11]
                 refine hK1 _ ?_; clear hK1 K1
                 refine xw_cut 3 [(1, (.ptr 0 0)), (15, (.imm (List.flatMap E_Frame x38.1) x38.1.length)), (118, (vb ((x44 && (x36.2.1.Start == 3)) && (x38.2.2 == 0))))] (by (try simp only [go_sem]); rfl) (by (try simp only [go_sem]); rfl) (by rfl) (fun K1 hK1 => ?_) fun tz => ?_
                 ·
                  refine xw_id ?_
                  rcases Bool.eq_false_or_eq_true (x44 && (x36.2.1.Start == 3)) with h13 | h13
                  ·
                   have h13_0 : (x44) = true := by simp only [Bool.and_eq_true] at h13; exact h13.1
                   have h13_1 : (x36.2.1.Start == 3) = true := by simp only [Bool.and_eq_true] at h13; exact h13.2
                   try simp only [go_sem, Nat.reduceEqDiff, reduceIte, Nat.reduceAdd, Nat.reduceMul, Nat.reduceSub, Nat.reduceLT, Nat.reduceLeDiff, h4, h11, h13, h13_0, h13_1]
                   exact hK1 _ ⟨rfl, (by first | rfl | (rw [h13_0]; rfl) | (rw [h13_1]; rfl)), (by first | rfl | (rw [h13_0]; rfl) | (rw [h13_1]; rfl)), (by first | rfl | (rw [h13]; rfl) | (simp only [h13, Bool.true_and, Bool.false_and, Bool.true_or, Bool.false_or, cond_true, cond_false]; done)), trivial⟩
                  ·
                   try simp only [go_sem, Nat.reduceEqDiff, reduceIte, Nat.reduceAdd, Nat.reduceMul, Nat.reduceSub, Nat.reduceLT, Nat.reduceLeDiff, h4, h11, h13]
                   exact hK1 _ ⟨rfl, rfl, rfl, (by first | rfl | (rw [h13]; rfl) | (simp only [h13, Bool.true_and, Bool.false_and, Bool.true_or, Bool.false_or, cond_true, cond_false]; done)), trivial⟩
                 ·
                  refine xw_id ?_
                  refine xw_stop 1 (by (try simp only [go_sem]); rfl) (by (try simp only [go_sem]); rfl) (by rfl) fun K1 hK1 => ?_
                  refine xw_id ?_
                  try simp only [go_sem, Nat.reduceEqDiff, reduceIte, Nat.reduceAdd, Nat.reduceMul, Nat.reduceSub, Nat.reduceLT, Nat.reduceLeDiff, h4, h11]
                  refine hK1 _ ?_; clear hK1 K1
                  obtain ⟨x46, hvh14, h0⟩ := bnd h0
                  refine xw_cut 3 [(1, (.ptr 0 0)), (122, (vb x46))] (by (try simp only [go_sem]); rfl) (by (try simp only [go_sem]); rfl) (by rfl) (fun K1 hK1 => ?_) fun tz => ?_
                  ·
                   refine xw_id ?_
                   rcases Bool.eq_false_or_eq_true ((x44 && (x36.2.1.Start == 3)) && (x38.2.2 == 0)) with h14 | h14
                   ·
                    have hvh14 := cT hvh14 h14
                    have h14_0 : (x44) = true := by simp only [Bool.and_eq_true] at h14; exact h14.1.1
                    have h14_1 : (x36.2.1.Start == 3) = true := by simp only [Bool.and_eq_true] at h14; exact h14.1.2
                    have h14_2 : (x38.2.2 == 0) = true := by simp only [Bool.and_eq_true] at h14; exact h14.2
                    obtain ⟨x45, bx45, hvh14⟩ := bnd hvh14
                    try simp only [go_sem, Nat.reduceEqDiff, reduceIte, Nat.reduceAdd, Nat.reduceMul, Nat.reduceSub, Nat.reduceLT, Nat.reduceLeDiff, h4, h11, h14, h14_0, h14_1, h14_2]
                    refine xcall_N (by first | (simp only [go_sem, fz, nilS, cond_true, cond_false, Nat.reduceEqDiff, reduceIte, Nat.reduceAdd, Nat.reduceMul, Nat.reduceSub, Nat.reduceLT, Nat.reduceLeDiff]; done) | (simp only [go_sem, fz, nilS, cond_true, cond_false, Nat.reduceEqDiff, reduceIte, Nat.reduceAdd, Nat.reduceMul, Nat.reduceSub, Nat.reduceLT, Nat.reduceLeDiff]; rfl)) (hotspotlaw18_numbers_p x38.1 [] bx45) ?_; try dsimp only
                    try refine xw_id ?_
                    try simp only [go_sem, Nat.reduceEqDiff, reduceIte, Nat.reduceAdd, Nat.reduceMul, Nat.reduceSub, Nat.reduceLT, Nat.reduceLeDiff, h4, h11, h14, h14_0, h14_1, h14_2]
                    obtain rfl := someInj hvh14
                    exact hK1 _ ⟨rfl, (by first | rfl | (rw [h14_0]; rfl) | (rw [h14_1]; rfl) | (rw [h14_2]; rfl)), (by first | rfl | (rw [h14]; rfl) | (simp only [h14, Bool.true_and, Bool.false_and, Bool.true_or, Bool.false_or, cond_true, cond_false]; done)), trivial⟩
                   ·
                    have hvh14 := cF hvh14 h14
                    try simp only [go_sem, Nat.reduceEqDiff, reduceIte, Nat.reduceAdd, Nat.reduceMul, Nat.reduceSub, Nat.reduceLT, Nat.reduceLeDiff, h4, h11, h14]
                    obtain rfl := someInj hvh14
                    exact hK1 _ ⟨rfl, rfl, (by first | rfl | (rw [h14]; rfl) | (simp only [h14, Bool.true_and, Bool.false_and, Bool.true_or, Bool.false_or, cond_true, cond_false]; done)), trivial⟩
                  ·
                   refine xw_id ?_
                   refine xw_stop 1 (by (try simp only [go_sem]); rfl) (by (try simp only [go_sem]); rfl) (by rfl) fun K1 hK1 => ?_
                   refine xw_id ?_
                   try simp only [go_sem, Nat.reduceEqDiff, reduceIte, Nat.reduceAdd, Nat.reduceMul, Nat.reduceSub, Nat.reduceLT, Nat.reduceLeDiff, h4, h11]
                   refine hK1 _ ?_; clear hK1 K1
                   refine xw_cut 4 [(1, (.ptr 0 0)), (127, (vb (x46 && (x38.2.1.Start == 7))))] (by (try simp only [go_sem]); rfl) (by (try simp only [go_sem]); rfl) (by rfl) (fun K1 hK1 => ?_) fun tz => ?_
                   ·
                    refine xw_id ?_
                    rcases Bool.eq_false_or_eq_true x46 with h15 | h15
                    ·
                     try simp only [go_sem, Nat.reduceEqDiff, reduceIte, Nat.reduceAdd, Nat.reduceMul, Nat.reduceSub, Nat.reduceLT, Nat.reduceLeDiff, h4, h11, h15]
                     exact hK1 _ ⟨rfl, rfl, (by first | rfl | (rw [h15]; rfl) | (simp only [h15, Bool.true_and, Bool.false_and, Bool.true_or, Bool.false_or, cond_true, cond_false]; done)), trivial⟩
                    ·
                     try simp only [go_sem, Nat.reduceEqDiff, reduceIte, Nat.reduceAdd, Nat.reduceMul, Nat.reduceSub, Nat.reduceLT, Nat.reduceLeDiff, h4, h11, h15]
                     exact hK1 _ ⟨rfl, rfl, (by first | rfl | (rw [h15]; rfl) | (simp only [h15, Bool.true_and, Bool.false_and, Bool.true_or, Bool.false_or, cond_true, cond_false]; done)), trivial⟩
                   ·
                    refine xw_id ?_
                    refine xw_stop 1 (by (try simp only [go_sem]); rfl) (by (try simp only [go_sem]); rfl) (by rfl) fun K1 hK1 => ?_
                    refine xw_id ?_
                    try simp only [go_sem, Nat.reduceEqDiff, reduceIte, Nat.reduceAdd, Nat.reduceMul, Nat.reduceSub, Nat.reduceLT, Nat.reduceLeDiff, h4, h11]
                    refine hK1 _ ?_; clear hK1 K1
                    refine xw_cut 5 [(133, (vb ((x46 && (x38.2.1.Start == 7)) && ((x38.2.1.Held.length : Int) == 1))))] (by (try simp only [go_sem]); rfl) (by (try simp only [go_sem]); rfl) (by rfl) (fun K1 hK1 => ?_) fun tz => ?_
                    ·
                     refine xw_id ?_
                     rcases Bool.eq_false_or_eq_true (x46 && (x38.2.1.Start == 7)) with h16 | h16
                     ·
                      have h16_0 : (x46) = true := by simp only [Bool.and_eq_true] at h16; exact h16.1
                      have h16_1 : (x38.2.1.Start == 7) = true := by simp only [Bool.and_eq_true] at h16; exact h16.2
                      try simp only [go_sem, Nat.reduceEqDiff, reduceIte, Nat.reduceAdd, Nat.reduceMul, Nat.reduceSub, Nat.reduceLT, Nat.reduceLeDiff, Int.reduceToNat, Int.reduceBEq, Int.reduceBNe, Int.reduceLT, Int.reduceLE, Int.reduceAdd, Int.reduceSub, Int.reduceMul, Int.reduceNeg, Int.reduceEq, Int.reduceNe, h4, h11, h16, h16_0, h16_1]
                      exact hK1 _ ⟨rfl, (by first | rfl | (rw [h16]; rfl) | (simp only [h16, Bool.true_and, Bool.false_and, Bool.true_or, Bool.false_or, cond_true, cond_false]; done)), trivial⟩
                     ·
                      try simp only [go_sem, Nat.reduceEqDiff, reduceIte, Nat.reduceAdd, Nat.reduceMul, Nat.reduceSub, Nat.reduceLT, Nat.reduceLeDiff, h4, h11, h16]
                      exact hK1 _ ⟨rfl, (by first | rfl | (rw [h16]; rfl) | (simp only [h16, Bool.true_and, Bool.false_and, Bool.true_or, Bool.false_or, cond_true, cond_false]; done)), trivial⟩
                    ·
                     refine xw_id ?_
                     try simp only [go_sem, Nat.reduceEqDiff, reduceIte, Nat.reduceAdd, Nat.reduceMul, Nat.reduceSub, Nat.reduceLT, Nat.reduceLeDiff, h4, h11]
                     refine hKK _ _ (Wk.refl _ _ _) ?_; clear hKK KK
                     refine awp_ret1 ?_
                     obtain rfl := someInj h0
                     refine endW_i ?_
                     refine end_ret0 rs31 (rfl) ?_
                     try simp only [go_sem, Nat.reduceEqDiff, reduceIte, Nat.reduceAdd, Nat.reduceMul, Nat.reduceSub, Nat.reduceLT, Nat.reduceLeDiff, fz, nilS, packR, List.take_nil, List.take_length, List.length_map, List.length_append, cond_true, cond_false, Nat.ble_eq, ble_self]
                     all_goals first | rfl | (simp only [go_sem, Nat.reduceEqDiff, reduceIte, Nat.reduceAdd, Nat.reduceMul, Nat.reduceSub, Nat.reduceLT, Nat.reduceLeDiff, fz, nilS, packR, List.take_nil, List.take_length, List.length_map, List.length_append, cond_true, cond_false, Nat.ble_eq, ble_self, List.map_append] <;> rfl)
               ·
                have h0 := cF h0 h11
                try simp only [go_sem, Nat.reduceEqDiff, reduceIte, Nat.reduceAdd, Nat.reduceMul, Nat.reduceSub, Nat.reduceLT, Nat.reduceLeDiff, h4, h11]
                refine hKK _ _ (Wk.refl _ _ _) ?_; clear hKK KK
                refine awp_ret1 ?_
                obtain rfl := someInj h0
                refine endW_i ?_
                refine end_ret0 rs31 (rfl) ?_
                try simp only [go_sem, Nat.reduceEqDiff, reduceIte, Nat.reduceAdd, Nat.reduceMul, Nat.reduceSub, Nat.reduceLT, Nat.reduceLeDiff, fz, nilS, packR, List.take_nil, List.take_length, List.length_map, List.length_append, cond_true, cond_false, Nat.ble_eq, ble_self]
                all_goals first | rfl | (simp only [go_sem, Nat.reduceEqDiff, reduceIte, Nat.reduceAdd, Nat.reduceMul, Nat.reduceSub, Nat.reduceLT, Nat.reduceLeDiff, fz, nilS, packR, List.take_nil, List.take_length, List.length_map, List.length_append, cond_true, cond_false, Nat.ble_eq, ble_self, List.map_append] <;> rfl)
        ·
         have h0 := cF h0 h4
         try simp only [go_sem, Nat.reduceEqDiff, reduceIte, Nat.reduceAdd, Nat.reduceMul, Nat.reduceSub, Nat.reduceLT, Nat.reduceLeDiff, h4]
         refine hKK _ _ (Wk.refl _ _ _) ?_; clear hKK KK
         refine awp_ret1 ?_
         obtain rfl := someInj h0
         refine endW_i ?_
         refine end_ret0 rs31 (rfl) ?_
         try simp only [go_sem, Nat.reduceEqDiff, reduceIte, Nat.reduceAdd, Nat.reduceMul, Nat.reduceSub, Nat.reduceLT, Nat.reduceLeDiff, fz, nilS, packR, List.take_nil, List.take_length, List.length_map, List.length_append, cond_true, cond_false, Nat.ble_eq, ble_self]
         all_goals first | rfl | (simp only [go_sem, Nat.reduceEqDiff, reduceIte, Nat.reduceAdd, Nat.reduceMul, Nat.reduceSub, Nat.reduceLT, Nat.reduceLeDiff, fz, nilS, packR, List.take_nil, List.take_length, List.length_map, List.length_append, cond_true, cond_false, Nat.ble_eq, ble_self, List.map_append] <;> rfl)

end Go.AX.Z.TR
