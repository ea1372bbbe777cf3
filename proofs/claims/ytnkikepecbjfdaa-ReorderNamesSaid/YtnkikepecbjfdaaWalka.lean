/- A part of the proof: walks through the functions that the statement reaches. -/
import Derived.Test.YtnkikepecbjfdaaPrea
set_option linter.unusedVariables false
set_option linter.unusedSimpArgs false

/-! (TRW reorder number) -/

set_option linter.unusedSimpArgs false
set_option linter.unusedVariables false
set_option maxHeartbeats 4000000
set_option maxRecDepth 20000
namespace Go.AX.Z.TR
open Go.AX Go.Proofs
attribute [local irreducible] awp xw xop xcall gsp ob xd xdop xcallD seqQ loopQ blkQ endQ


theorem reorder_number_p (a0 : Int) {r : Bool} (h0 : reorder_number a0 = some r) : SndP K 39 [(vi a0)] (vb r) := by
 refine SndP.of_walkW hC (Clean.v _) (clean_cons (Clean.v _) clean_nil) (show K.P.funcs[39]? = some Try.f39 from Try.func39) rfl rfl (by decide +kernel) (Nat.le_of_ble_eq_true rfl) ?_
 unfold reorder_number at h0
 refine awp_nr [0] (fun _ => rfl) fun tz => ?_
 refine awp_regW fun KK hKK => ?_
 refine xw_id ?_
 try simp only [go_sem, Nat.reduceEqDiff, reduceIte, Nat.reduceAdd, Nat.reduceMul, Nat.reduceSub, Nat.reduceLT, Nat.reduceLeDiff]
 refine hKK _ _ (Wk.refl _ _ _) ?_; clear hKK KK
 refine awp_nr [0] (fun _ => rfl) fun tz => ?_
 refine awp_regW fun KK hKK => ?_
 refine xw_id ?_
 refine xw_stop 3 (by (try simp only [go_sem]); rfl) (by (try simp only [go_sem]); rfl) (by rfl) fun K1 hK1 => ?_
 refine xw_id ?_
 try simp only [go_sem, Nat.reduceEqDiff, reduceIte, Nat.reduceAdd, Nat.reduceMul, Nat.reduceSub, Nat.reduceLT, Nat.reduceLeDiff]
 refine hK1 _ ?_; clear hK1 K1
 refine xw_cut 3 [(8, (vb ((decide (0 ≤ a0)) && (decide (a0 < 4096)))))] (by (try simp only [go_sem]); rfl) (by (try simp only [go_sem]); rfl) (by rfl) (fun K1 hK1 => ?_) fun tz => ?_
 ·
  refine xw_id ?_
  rcases Bool.eq_false_or_eq_true (decide (0 ≤ a0)) with h1 | h1
  ·
   try simp only [go_sem, Nat.reduceEqDiff, reduceIte, Nat.reduceAdd, Nat.reduceMul, Nat.reduceSub, Nat.reduceLT, Nat.reduceLeDiff, h1]
   exact hK1 _ ⟨rfl, (by first | rfl | (rw [h1]; rfl) | (simp only [h1, Bool.true_and, Bool.false_and, Bool.true_or, Bool.false_or, cond_true, cond_false]; done)), trivial⟩
  ·
   try simp only [go_sem, Nat.reduceEqDiff, reduceIte, Nat.reduceAdd, Nat.reduceMul, Nat.reduceSub, Nat.reduceLT, Nat.reduceLeDiff, h1]
   exact hK1 _ ⟨rfl, (by first | rfl | (rw [h1]; rfl) | (simp only [h1, Bool.true_and, Bool.false_and, Bool.true_or, Bool.false_or, cond_true, cond_false]; done)), trivial⟩
 ·
  refine xw_id ?_
  try simp only [go_sem, Nat.reduceEqDiff, reduceIte, Nat.reduceAdd, Nat.reduceMul, Nat.reduceSub, Nat.reduceLT, Nat.reduceLeDiff]
  refine hKK _ _ (Wk.refl _ _ _) ?_; clear hKK KK
  refine awp_ret1 ?_
  obtain rfl := someInj h0
  refine endW_i ?_
  refine end_ret0 rs39 (rfl) ?_
  try simp only [go_sem, Nat.reduceEqDiff, reduceIte, Nat.reduceAdd, Nat.reduceMul, Nat.reduceSub, Nat.reduceLT, Nat.reduceLeDiff, fz, nilS, packR, List.take_nil, List.take_length, List.length_map, List.length_append, cond_true, cond_false, Nat.ble_eq, ble_self]
  all_goals first | rfl | (simp only [go_sem, Nat.reduceEqDiff, reduceIte, Nat.reduceAdd, Nat.reduceMul, Nat.reduceSub, Nat.reduceLT, Nat.reduceLeDiff, fz, nilS, packR, List.take_nil, List.take_length, List.length_map, List.length_append, cond_true, cond_false, Nat.ble_eq, ble_self, List.map_append] <;> rfl)

end Go.AX.Z.TR

/-! (TRW window number) -/

set_option linter.unusedSimpArgs false
set_option linter.unusedVariables false
set_option maxHeartbeats 4000000
set_option maxRecDepth 20000
namespace Go.AX.Z.TR
open Go.AX Go.Proofs
attribute [local irreducible] awp xw xop xcall gsp ob xd xdop xcallD seqQ loopQ blkQ endQ


theorem window_number_p (a0 : Int) {r : Bool} (h0 : window_number a0 = some r) : SndP K 58 [(vi a0)] (vb r) := by
 refine SndP.of_walkW hC (Clean.v _) (clean_cons (Clean.v _) clean_nil) (show K.P.funcs[58]? = some Try.f58 from Try.func58) rfl rfl (by decide +kernel) (Nat.le_of_ble_eq_true rfl) ?_
 unfold window_number at h0
 refine awp_nr [0] (fun _ => rfl) fun tz => ?_
 refine awp_regW fun KK hKK => ?_
 refine xw_id ?_
 try simp only [go_sem, Nat.reduceEqDiff, reduceIte, Nat.reduceAdd, Nat.reduceMul, Nat.reduceSub, Nat.reduceLT, Nat.reduceLeDiff]
 refine hKK _ _ (Wk.refl _ _ _) ?_; clear hKK KK
 refine awp_nr [0] (fun _ => rfl) fun tz => ?_
 refine awp_regW fun KK hKK => ?_
 refine xw_id ?_
 refine xw_stop 3 (by (try simp only [go_sem]); rfl) (by (try simp only [go_sem]); rfl) (by rfl) fun K1 hK1 => ?_
 refine xw_id ?_
 try simp only [go_sem, Nat.reduceEqDiff, reduceIte, Nat.reduceAdd, Nat.reduceMul, Nat.reduceSub, Nat.reduceLT, Nat.reduceLeDiff]
 refine hK1 _ ?_; clear hK1 K1
 refine xw_cut 3 [(8, (vb ((decide (0 ≤ a0)) && (decide (a0 < 4096)))))] (by (try simp only [go_sem]); rfl) (by (try simp only [go_sem]); rfl) (by rfl) (fun K1 hK1 => ?_) fun tz => ?_
 ·
  refine xw_id ?_
  rcases Bool.eq_false_or_eq_true (decide (0 ≤ a0)) with h1 | h1
  ·
   try simp only [go_sem, Nat.reduceEqDiff, reduceIte, Nat.reduceAdd, Nat.reduceMul, Nat.reduceSub, Nat.reduceLT, Nat.reduceLeDiff, h1]
   exact hK1 _ ⟨rfl, (by first | rfl | (rw [h1]; rfl) | (simp only [h1, Bool.true_and, Bool.false_and, Bool.true_or, Bool.false_or, cond_true, cond_false]; done)), trivial⟩
  ·
   try simp only [go_sem, Nat.reduceEqDiff, reduceIte, Nat.reduceAdd, Nat.reduceMul, Nat.reduceSub, Nat.reduceLT, Nat.reduceLeDiff, h1]
   exact hK1 _ ⟨rfl, (by first | rfl | (rw [h1]; rfl) | (simp only [h1, Bool.true_and, Bool.false_and, Bool.true_or, Bool.false_or, cond_true, cond_false]; done)), trivial⟩
 ·
  refine xw_id ?_
  try simp only [go_sem, Nat.reduceEqDiff, reduceIte, Nat.reduceAdd, Nat.reduceMul, Nat.reduceSub, Nat.reduceLT, Nat.reduceLeDiff]
  refine hKK _ _ (Wk.refl _ _ _) ?_; clear hKK KK
  refine awp_ret1 ?_
  obtain rfl := someInj h0
  refine endW_i ?_
  refine end_ret0 rs58 (rfl) ?_
  try simp only [go_sem, Nat.reduceEqDiff, reduceIte, Nat.reduceAdd, Nat.reduceMul, Nat.reduceSub, Nat.reduceLT, Nat.reduceLeDiff, fz, nilS, packR, List.take_nil, List.take_length, List.length_map, List.length_append, cond_true, cond_false, Nat.ble_eq, ble_self]
  all_goals first | rfl | (simp only [go_sem, Nat.reduceEqDiff, reduceIte, Nat.reduceAdd, Nat.reduceMul, Nat.reduceSub, Nat.reduceLT, Nat.reduceLeDiff, fz, nilS, packR, List.take_nil, List.take_length, List.length_map, List.length_append, cond_true, cond_false, Nat.ble_eq, ble_self, List.map_append] <;> rfl)

end Go.AX.Z.TR

/-! (TRW window Check) -/

set_option linter.unusedSimpArgs false
set_option linter.unusedVariables false
set_option maxHeartbeats 4000000
set_option maxRecDepth 20000
namespace Go.AX.Z.TR
open Go.AX Go.Proofs
attribute [local irreducible] awp xw xop xcall gsp ob xd xdop xcallD seqQ loopQ blkQ endQ


theorem window_Check_p (a0 : Window) {r : Int} (h0 : window_Check a0 = some r) : SndP K 40 [(.agg (e_Window a0))] (vi r) := by
 refine SndP.of_walkW hC (Clean.v _) (clean_cons (Clean.agg (e_Window_clean _)) clean_nil) (show K.P.funcs[40]? = some Try.f40 from Try.func40) rfl rfl (by decide +kernel) (Nat.le_of_ble_eq_true rfl) ?_
 unfold window_Check at h0
 refine awp_nr [0] (fun _ => rfl) fun tz => ?_
 refine awp_regW fun KK hKK => ?_
 refine xw_id ?_
 try simp only [go_sem, Nat.reduceEqDiff, reduceIte, Nat.reduceAdd, Nat.reduceMul, Nat.reduceSub, Nat.reduceLT, Nat.reduceLeDiff]
 refine hKK _ _ (Wk.refl _ _ _) ?_; clear hKK KK
 refine awp_assoc ?_
 refine awp_nr [1] (fun _ => rfl) fun tz => ?_
 refine awp_regW fun KK hKK => ?_
 refine xw_id ?_
 obtain ⟨x16, bx16, h0⟩ := bnd h0
 try simp only [go_sem, Nat.reduceEqDiff, reduceIte, Nat.reduceAdd, Nat.reduceMul, Nat.reduceSub, Nat.reduceLT, Nat.reduceLeDiff]
 refine xcall_p (window_number_p a0.Start bx16) ?_; try dsimp only
 try refine xw_id ?_
 try simp only [go_sem, Nat.reduceEqDiff, reduceIte, Nat.reduceAdd, Nat.reduceMul, Nat.reduceSub, Nat.reduceLT, Nat.reduceLeDiff]
 refine hKK _ _ (Wk.refl _ _ _) ?_; clear hKK KK
 refine awp_cond (b := (!x16)) rfl (fun h1 => ?_) (fun h1 => ?_)
 ·
  have h0 := cT h0 h1
  refine awp_assoc ?_
  refine awp_nr [] (fun _ => rfl) fun tz => ?_
  refine awp_regW fun KK hKK => ?_
  refine xw_id ?_
  try simp only [go_sem, Nat.reduceEqDiff, reduceIte, Nat.reduceAdd, Nat.reduceMul, Nat.reduceSub, Nat.reduceLT, Nat.reduceLeDiff]
  refine hKK _ _ (Wk.refl _ _ _) ?_; clear hKK KK
  refine awp_ret ?_
  obtain rfl := someInj h0
  refine endW_i ?_
  refine end_ret0 rs40 (rfl) ?_
  try simp only [go_sem, Nat.reduceEqDiff, reduceIte, Nat.reduceAdd, Nat.reduceMul, Nat.reduceSub, Nat.reduceLT, Nat.reduceLeDiff, fz, nilS, packR, List.take_nil, List.take_length, List.length_map, List.length_append, cond_true, cond_false, Nat.ble_eq, ble_self]
  all_goals first | rfl | (simp only [go_sem, Nat.reduceEqDiff, reduceIte, Nat.reduceAdd, Nat.reduceMul, Nat.reduceSub, Nat.reduceLT, Nat.reduceLeDiff, fz, nilS, packR, List.take_nil, List.take_length, List.length_map, List.length_append, cond_true, cond_false, Nat.ble_eq, ble_self, List.map_append] <;> rfl)
 ·
  have h0 := cF h0 h1
  refine awp_skip ?_
  refine awp_nr [] (fun _ => rfl) fun tz => ?_
  refine awp_regW fun KK hKK => ?_
  refine xw_id ?_
  try simp only [go_sem, Nat.reduceEqDiff, reduceIte, Nat.reduceAdd, Nat.reduceMul, Nat.reduceSub, Nat.reduceLT, Nat.reduceLeDiff]
  refine hKK _ _ (Wk.refl _ _ _) ?_; clear hKK KK
  refine awp_ret1 ?_
  obtain rfl := someInj h0
  refine endW_i ?_
  refine end_ret0 rs40 (rfl) ?_
  try simp only [go_sem, Nat.reduceEqDiff, reduceIte, Nat.reduceAdd, Nat.reduceMul, Nat.reduceSub, Nat.reduceLT, Nat.reduceLeDiff, fz, nilS, packR, List.take_nil, List.take_length, List.length_map, List.length_append, cond_true, cond_false, Nat.ble_eq, ble_self]
  all_goals first | rfl | (simp only [go_sem, Nat.reduceEqDiff, reduceIte, Nat.reduceAdd, Nat.reduceMul, Nat.reduceSub, Nat.reduceLT, Nat.reduceLeDiff, fz, nilS, packR, List.take_nil, List.take_length, List.length_map, List.length_append, cond_true, cond_false, Nat.ble_eq, ble_self, List.map_append] <;> rfl)

end Go.AX.Z.TR

/-! (TRW window Dist) -/

set_option linter.unusedSimpArgs false
set_option linter.unusedVariables false
set_option maxHeartbeats 4000000
set_option maxRecDepth 20000
namespace Go.AX.Z.TR
open Go.AX Go.Proofs
attribute [local irreducible] awp xw xop xcall gsp ob xd xdop xcallD seqQ loopQ blkQ endQ


theorem window_Dist_p (a0 : Int) (a1 : Int) {r : Int} (h0 : window_Dist a0 a1 = some r) : SndP K 38 [(vi a0), (vi a1)] (vi r) := by
 refine SndP.of_walkW hC (Clean.v _) (clean_cons (Clean.v _) (clean_cons (Clean.v _) clean_nil)) (show K.P.funcs[38]? = some Try.f38 from Try.func38) rfl rfl (by decide +kernel) (Nat.le_of_ble_eq_true rfl) ?_
 unfold window_Dist at h0
 refine awp_nr [0,1] (fun _ => rfl) fun tz => ?_
 refine awp_regW fun KK hKK => ?_
 refine xw_id ?_
 try simp only [go_sem, ↓iop_and, ↓iop_or, ↓iop_xor, ↓iop_andn, Nat.reduceEqDiff, reduceIte, Nat.reduceAdd, Nat.reduceMul, Nat.reduceSub, Nat.reduceLT, Nat.reduceLeDiff]
 refine hKK _ _ (Wk.refl _ _ _) ?_; clear hKK KK
 refine awp_nr [0,1] (fun _ => rfl) fun tz => ?_
 refine awp_regW fun KK hKK => ?_
 refine xw_id ?_
 try simp only [go_sem, ↓iop_and, ↓iop_or, ↓iop_xor, ↓iop_andn, Nat.reduceEqDiff, reduceIte, Nat.reduceAdd, Nat.reduceMul, Nat.reduceSub, Nat.reduceLT, Nat.reduceLeDiff]
 refine hKK _ _ (Wk.refl _ _ _) ?_; clear hKK KK
 refine awp_ret1 ?_
 obtain rfl := someInj h0
 refine endW_i ?_
 refine end_ret0 rs38 (rfl) ?_
 try simp only [go_sem, ↓iop_and, ↓iop_or, ↓iop_xor, ↓iop_andn, Nat.reduceEqDiff, reduceIte, Nat.reduceAdd, Nat.reduceMul, Nat.reduceSub, Nat.reduceLT, Nat.reduceLeDiff, fz, nilS, packR, List.take_nil, List.take_length, List.length_map, List.length_append, cond_true, cond_false, Nat.ble_eq, ble_self]
 all_goals first | rfl | (simp only [go_sem, ↓iop_and, ↓iop_or, ↓iop_xor, ↓iop_andn, Nat.reduceEqDiff, reduceIte, Nat.reduceAdd, Nat.reduceMul, Nat.reduceSub, Nat.reduceLT, Nat.reduceLeDiff, fz, nilS, packR, List.take_nil, List.take_length, List.length_map, List.length_append, cond_true, cond_false, Nat.ble_eq, ble_self, List.map_append] <;> rfl)

end Go.AX.Z.TR

/-! (TRW reorder moment) -/

set_option linter.unusedSimpArgs false
set_option linter.unusedVariables false
set_option maxHeartbeats 4000000
set_option maxRecDepth 20000
namespace Go.AX.Z.TR
open Go.AX Go.Proofs
attribute [local irreducible] awp xw xop xcall gsp ob xd xdop xcallD seqQ loopQ blkQ endQ


theorem reorder_moment_p (a0 : Int) {r : Bool} (h0 : reorder_moment a0 = some r) : SndP K 41 [(vi a0)] (vb r) := by
 refine SndP.of_walkW hC (Clean.v _) (clean_cons (Clean.v _) clean_nil) (show K.P.funcs[41]? = some Try.f41 from Try.func41) rfl rfl (by decide +kernel) (Nat.le_of_ble_eq_true rfl) ?_
 unfold reorder_moment at h0
 refine awp_nr [0] (fun _ => rfl) fun tz => ?_
 refine awp_regW fun KK hKK => ?_
 refine xw_id ?_
 try simp only [go_sem, Nat.reduceEqDiff, reduceIte, Nat.reduceAdd, Nat.reduceMul, Nat.reduceSub, Nat.reduceLT, Nat.reduceLeDiff]
 refine hKK _ _ (Wk.refl _ _ _) ?_; clear hKK KK
 refine awp_nr [0] (fun _ => rfl) fun tz => ?_
 refine awp_regW fun KK hKK => ?_
 refine xw_id ?_
 refine xw_stop 3 (by (try simp only [go_sem]); rfl) (by (try simp only [go_sem]); rfl) (by rfl) fun K1 hK1 => ?_
 refine xw_id ?_
 try simp only [go_sem, Nat.reduceEqDiff, reduceIte, Nat.reduceAdd, Nat.reduceMul, Nat.reduceSub, Nat.reduceLT, Nat.reduceLeDiff]
 refine hK1 _ ?_; clear hK1 K1
 refine xw_cut 3 [(8, (vb ((decide (0 ≤ a0)) && (decide (a0 ≤ 1099511627776)))))] (by (try simp only [go_sem]); rfl) (by (try simp only [go_sem]); rfl) (by rfl) (fun K1 hK1 => ?_) fun tz => ?_
 ·
  refine xw_id ?_
  rcases Bool.eq_false_or_eq_true (decide (0 ≤ a0)) with h1 | h1
  ·
   try simp only [go_sem, Nat.reduceEqDiff, reduceIte, Nat.reduceAdd, Nat.reduceMul, Nat.reduceSub, Nat.reduceLT, Nat.reduceLeDiff, h1]
   exact hK1 _ ⟨rfl, (by first | rfl | (rw [h1]; rfl) | (simp only [h1, Bool.true_and, Bool.false_and, Bool.true_or, Bool.false_or, cond_true, cond_false]; done)), trivial⟩
  ·
   try simp only [go_sem, Nat.reduceEqDiff, reduceIte, Nat.reduceAdd, Nat.reduceMul, Nat.reduceSub, Nat.reduceLT, Nat.reduceLeDiff, h1]
   exact hK1 _ ⟨rfl, (by first | rfl | (rw [h1]; rfl) | (simp only [h1, Bool.true_and, Bool.false_and, Bool.true_or, Bool.false_or, cond_true, cond_false]; done)), trivial⟩
 ·
  refine xw_id ?_
  try simp only [go_sem, Nat.reduceEqDiff, reduceIte, Nat.reduceAdd, Nat.reduceMul, Nat.reduceSub, Nat.reduceLT, Nat.reduceLeDiff]
  refine hKK _ _ (Wk.refl _ _ _) ?_; clear hKK KK
  refine awp_ret1 ?_
  obtain rfl := someInj h0
  refine endW_i ?_
  refine end_ret0 rs41 (rfl) ?_
  try simp only [go_sem, Nat.reduceEqDiff, reduceIte, Nat.reduceAdd, Nat.reduceMul, Nat.reduceSub, Nat.reduceLT, Nat.reduceLeDiff, fz, nilS, packR, List.take_nil, List.take_length, List.length_map, List.length_append, cond_true, cond_false, Nat.ble_eq, ble_self]
  all_goals first | rfl | (simp only [go_sem, Nat.reduceEqDiff, reduceIte, Nat.reduceAdd, Nat.reduceMul, Nat.reduceSub, Nat.reduceLT, Nat.reduceLeDiff, fz, nilS, packR, List.take_nil, List.take_length, List.length_map, List.length_append, cond_true, cond_false, Nat.ble_eq, ble_self, List.map_append] <;> rfl)

end Go.AX.Z.TR

/-! (TRW reorder Check) -/

set_option linter.unusedSimpArgs false
set_option linter.unusedVariables false
set_option maxHeartbeats 4000000
set_option maxRecDepth 20000
namespace Go.AX.Z.TR
open Go.AX Go.Proofs
attribute [local irreducible] awp xw xop xcall gsp ob xd xdop xcallD seqQ loopQ blkQ endQ

def reorder_Check_S0 (d18 : Unit) : AS :=
 { objs := (fun _ => .dead), next := 0, tmps := (fun _ => .unk) }

def reorder_Check_S1 (a0 : Reorder) (d20 : (Int × Int)) : AS :=
 { objs := (upd (fun _ => .dead) 0 (.live (e_Reorder a0 (.imm (List.flatMap E_HeldSeq a0.Held) a0.Held.length)))), next := 1, tmps := (upd (upd (upd (upd (upd (fun _ => .unk) 1 (.ptr 0 0)) 3 (vi d20.1)) 38 (.imm (List.flatMap E_HeldSeq a0.Held) a0.Held.length)) 39 (vi (a0.Held.length : Int))) 40 (vi d20.2)) }

def reorder_Check_S3 (a0 : Reorder) (x22 : Int) (d20 : (Int × Int)) (x25 : Bool) : AS :=
 { objs := (upd (fun _ => .dead) 0 (.live (e_Reorder a0 (.imm (List.flatMap E_HeldSeq a0.Held) a0.Held.length)))), next := 1, tmps := (upd (upd (upd (upd (upd (upd (fun _ => .unk) 1 (.ptr 0 0)) 6 (vi x22)) 38 (.imm (List.flatMap E_HeldSeq a0.Held) a0.Held.length)) 39 (vi (a0.Held.length : Int))) 40 (vi d20.2)) 73 (vb ((x25 || (decide (x22 ≤ d20.1))) || (decide (a0.Size ≤ x22))))) }

theorem reorder_Check_p (a0 : Reorder) {r : Int} (h0 : reorder_Check a0 = some r) : SndP K 14 [(.agg (E_Reorder a0))] (vi r) := by
 refine SndP.of_walkW hC (Clean.v _) (clean_cons (Clean.agg (E_Reorder_clean _)) clean_nil) (show K.P.funcs[14]? = some Try.f14 from Try.func14) rfl rfl (by decide +kernel) (Nat.le_of_ble_eq_true rfl) ?_
 unfold reorder_Check at h0
 refine awp_nr [0] (fun _ => rfl) fun tz => ?_
 refine awp_regW fun KK hKK => ?_
 refine xw_id ?_
 try simp only [go_sem, Nat.reduceEqDiff, reduceIte, Nat.reduceAdd, Nat.reduceMul, Nat.reduceSub, Nat.reduceLT, Nat.reduceLeDiff]
 refine hKK _ _ (Wk.refl _ _ _) ?_; clear hKK KK
 refine awp_assoc ?_
 refine awp_nr [1] (fun _ => rfl) fun tz => ?_
 refine awp_regW fun KK hKK => ?_
 refine xw_id ?_
 obtain ⟨x15, bx15, h0⟩ := bnd h0
 try simp only [go_sem, Nat.reduceEqDiff, reduceIte, Nat.reduceAdd, Nat.reduceMul, Nat.reduceSub, Nat.reduceLT, Nat.reduceLeDiff]
 refine xcall_p (reorder_number_p a0.Start bx15) ?_; try dsimp only
 try refine xw_id ?_
 refine xw_stop 2 (by (try simp only [go_sem]); rfl) (by (try simp only [go_sem]); rfl) (by rfl) fun K1 hK1 => ?_
 refine xw_id ?_
 try simp only [go_sem, Nat.reduceEqDiff, reduceIte, Nat.reduceAdd, Nat.reduceMul, Nat.reduceSub, Nat.reduceLT, Nat.reduceLeDiff]
 refine hK1 _ ?_; clear hK1 K1
 refine xw_cut 4 [(1, (.ptr 0 0)), (15, (vb ((!x15) || (decide (a0.Size < 1)))))] (by (try simp only [go_sem]); rfl) (by (try simp only [go_sem]); rfl) (by rfl) (fun K1 hK1 => ?_) fun tz => ?_
 ·
  refine xw_id ?_
  rcases Bool.eq_false_or_eq_true (!x15) with h1 | h1
  ·
   try simp only [go_sem, Nat.reduceEqDiff, reduceIte, Nat.reduceAdd, Nat.reduceMul, Nat.reduceSub, Nat.reduceLT, Nat.reduceLeDiff, h1]
   exact hK1 _ ⟨rfl, rfl, (by first | rfl | (rw [h1]; rfl) | (simp only [h1, Bool.true_and, Bool.false_and, Bool.true_or, Bool.false_or, cond_true, cond_false]; done)), trivial⟩
  ·
   try simp only [go_sem, Nat.reduceEqDiff, reduceIte, Nat.reduceAdd, Nat.reduceMul, Nat.reduceSub, Nat.reduceLT, Nat.reduceLeDiff, h1]
   exact hK1 _ ⟨rfl, rfl, (by first | rfl | (rw [h1]; rfl) | (simp only [h1, Bool.true_and, Bool.false_and, Bool.true_or, Bool.false_or, cond_true, cond_false]; done)), trivial⟩
 ·
  refine xw_id ?_
  refine xw_stop 1 (by (try simp only [go_sem]); rfl) (by (try simp only [go_sem]); rfl) (by rfl) fun K1 hK1 => ?_
  refine xw_id ?_
  try simp only [go_sem, Nat.reduceEqDiff, reduceIte, Nat.reduceAdd, Nat.reduceMul, Nat.reduceSub, Nat.reduceLT, Nat.reduceLeDiff]
  refine hK1 _ ?_; clear hK1 K1
  refine xw_cut 4 [(1, (.ptr 0 0)), (20, (vb (((!x15) || (decide (a0.Size < 1))) || (decide (64 < a0.Size)))))] (by (try simp only [go_sem]); rfl) (by (try simp only [go_sem]); rfl) (by rfl) (fun K1 hK1 => ?_) fun tz => ?_
  ·
   refine xw_id ?_
   rcases Bool.eq_false_or_eq_true ((!x15) || (decide (a0.Size < 1))) with h2 | h2
   ·
    try simp only [go_sem, Nat.reduceEqDiff, reduceIte, Nat.reduceAdd, Nat.reduceMul, Nat.reduceSub, Nat.reduceLT, Nat.reduceLeDiff, h2]
    exact hK1 _ ⟨rfl, rfl, (by first | rfl | (rw [h2]; rfl) | (simp only [h2, Bool.true_and, Bool.false_and, Bool.true_or, Bool.false_or, cond_true, cond_false]; done)), trivial⟩
   ·
    try simp only [go_sem, Nat.reduceEqDiff, reduceIte, Nat.reduceAdd, Nat.reduceMul, Nat.reduceSub, Nat.reduceLT, Nat.reduceLeDiff, h2]
    exact hK1 _ ⟨rfl, rfl, (by first | rfl | (rw [h2]; rfl) | (simp only [h2, Bool.true_and, Bool.false_and, Bool.true_or, Bool.false_or, cond_true, cond_false]; done)), trivial⟩
  ·
   refine xw_id ?_
   refine xw_stop 1 (by (try simp only [go_sem]); rfl) (by (try simp only [go_sem]); rfl) (by rfl) fun K1 hK1 => ?_
   refine xw_id ?_
   try simp only [go_sem, Nat.reduceEqDiff, reduceIte, Nat.reduceAdd, Nat.reduceMul, Nat.reduceSub, Nat.reduceLT, Nat.reduceLeDiff]
   refine hK1 _ ?_; clear hK1 K1
   refine xw_cut 4 [(1, (.ptr 0 0)), (25, (vb ((((!x15) || (decide (a0.Size < 1))) || (decide (64 < a0.Size))) || (decide (a0.Hold < 0)))))] (by (try simp only [go_sem]); rfl) (by (try simp only [go_sem]); rfl) (by rfl) (fun K1 hK1 => ?_) fun tz => ?_
   ·
    refine xw_id ?_
    rcases Bool.eq_false_or_eq_true (((!x15) || (decide (a0.Size < 1))) || (decide (64 < a0.Size))) with h3 | h3
    ·
     try simp only [go_sem, Nat.reduceEqDiff, reduceIte, Nat.reduceAdd, Nat.reduceMul, Nat.reduceSub, Nat.reduceLT, Nat.reduceLeDiff, h3]
     exact hK1 _ ⟨rfl, rfl, (by first | rfl | (rw [h3]; rfl) | (simp only [h3, Bool.true_and, Bool.false_and, Bool.true_or, Bool.false_or, cond_true, cond_false]; done)), trivial⟩
    ·
     try simp only [go_sem, Nat.reduceEqDiff, reduceIte, Nat.reduceAdd, Nat.reduceMul, Nat.reduceSub, Nat.reduceLT, Nat.reduceLeDiff, h3]
     exact hK1 _ ⟨rfl, rfl, (by first | rfl | (rw [h3]; rfl) | (simp only [h3, Bool.true_and, Bool.false_and, Bool.true_or, Bool.false_or, cond_true, cond_false]; done)), trivial⟩
   ·
    refine xw_id ?_
    refine xw_stop 1 (by (try simp only [go_sem]); rfl) (by (try simp only [go_sem]); rfl) (by rfl) fun K1 hK1 => ?_
    refine xw_id ?_
    try simp only [go_sem, Nat.reduceEqDiff, reduceIte, Nat.reduceAdd, Nat.reduceMul, Nat.reduceSub, Nat.reduceLT, Nat.reduceLeDiff]
    refine hK1 _ ?_; clear hK1 K1
    refine xw_cut 4 [(1, (.ptr 0 0)), (30, (vb (((((!x15) || (decide (a0.Size < 1))) || (decide (64 < a0.Size))) || (decide (a0.Hold < 0))) || (decide (16777216 < a0.Hold)))))] (by (try simp only [go_sem]); rfl) (by (try simp only [go_sem]); rfl) (by rfl) (fun K1 hK1 => ?_) fun tz => ?_
    ·
     refine xw_id ?_
     rcases Bool.eq_false_or_eq_true ((((!x15) || (decide (a0.Size < 1))) || (decide (64 < a0.Size))) || (decide (a0.Hold < 0))) with h4 | h4
     ·
      try simp only [go_sem, Nat.reduceEqDiff, reduceIte, Nat.reduceAdd, Nat.reduceMul, Nat.reduceSub, Nat.reduceLT, Nat.reduceLeDiff, h4]
      exact hK1 _ ⟨rfl, rfl, (by first | rfl | (rw [h4]; rfl) | (simp only [h4, Bool.true_and, Bool.false_and, Bool.true_or, Bool.false_or, cond_true, cond_false]; done)), trivial⟩
     ·
      try simp only [go_sem, Nat.reduceEqDiff, reduceIte, Nat.reduceAdd, Nat.reduceMul, Nat.reduceSub, Nat.reduceLT, Nat.reduceLeDiff, h4]
      exact hK1 _ ⟨rfl, rfl, (by first | rfl | (rw [h4]; rfl) | (simp only [h4, Bool.true_and, Bool.false_and, Bool.true_or, Bool.false_or, cond_true, cond_false]; done)), trivial⟩
    ·
     refine xw_id ?_
     refine xw_stop 1 (by (try simp only [go_sem]); rfl) (by (try simp only [go_sem]); rfl) (by rfl) fun K1 hK1 => ?_
     refine xw_id ?_
     try simp only [go_sem, Nat.reduceEqDiff, reduceIte, Nat.reduceAdd, Nat.reduceMul, Nat.reduceSub, Nat.reduceLT, Nat.reduceLeDiff]
     refine hK1 _ ?_; clear hK1 K1
     obtain ⟨x17, hvh5, h0⟩ := bnd h0
     refine xw_cut 5 [(1, (.ptr 0 0)), (36, (vb x17))] (by (try simp only [go_sem]); rfl) (by (try simp only [go_sem]); rfl) (by rfl) (fun K1 hK1 => ?_) fun tz => ?_
     ·
      refine xw_id ?_
      rcases Bool.eq_false_or_eq_true (((((!x15) || (decide (a0.Size < 1))) || (decide (64 < a0.Size))) || (decide (a0.Hold < 0))) || (decide (16777216 < a0.Hold))) with h5 | h5
      ·
       have hvh5 := cT hvh5 h5
       try simp only [go_sem, Nat.reduceEqDiff, reduceIte, Nat.reduceAdd, Nat.reduceMul, Nat.reduceSub, Nat.reduceLT, Nat.reduceLeDiff, h5]
       obtain rfl := someInj hvh5
       exact hK1 _ ⟨rfl, rfl, (by first | rfl | (rw [h5]; rfl) | (simp only [h5, Bool.true_and, Bool.false_and, Bool.true_or, Bool.false_or, cond_true, cond_false]; done)), trivial⟩
      ·
       have hvh5 := cF hvh5 h5
       obtain ⟨x16, bx16, hvh5⟩ := bnd hvh5
       try simp only [go_sem, Nat.reduceEqDiff, reduceIte, Nat.reduceAdd, Nat.reduceMul, Nat.reduceSub, Nat.reduceLT, Nat.reduceLeDiff, h5]
       refine xcall_p (window_Check_p a0.Seen bx16) ?_; try dsimp only
       try refine xw_id ?_
       try simp only [go_sem, Nat.reduceEqDiff, reduceIte, Nat.reduceAdd, Nat.reduceMul, Nat.reduceSub, Nat.reduceLT, Nat.reduceLeDiff, h5]
       obtain rfl := someInj hvh5
       exact hK1 _ ⟨rfl, rfl, (by first | rfl | (rw [h5]; rfl) | (simp only [h5, Bool.true_and, Bool.false_and, Bool.true_or, Bool.false_or, cond_true, cond_false]; done)), trivial⟩
     ·
      refine xw_id ?_
      try simp only [go_sem, Nat.reduceEqDiff, reduceIte, Nat.reduceAdd, Nat.reduceMul, Nat.reduceSub, Nat.reduceLT, Nat.reduceLeDiff]
      refine hKK _ _ (Wk.refl _ _ _) ?_; clear hKK KK
      refine awp_cond (b := x17) rfl (fun h6 => ?_) (fun h6 => ?_)
      ·
       have h0 := cT h0 h6
       refine awp_assoc ?_
       refine awp_nr [] (fun _ => rfl) fun tz => ?_
       refine awp_regW fun KK hKK => ?_
       refine xw_id ?_
       try simp only [go_sem, Nat.reduceEqDiff, reduceIte, Nat.reduceAdd, Nat.reduceMul, Nat.reduceSub, Nat.reduceLT, Nat.reduceLeDiff]
       refine hKK _ _ (Wk.refl _ _ _) ?_; clear hKK KK
       refine awp_ret ?_
       obtain rfl := someInj h0
       refine endW_i ?_
       refine end_ret0 rs14 (rfl) ?_
       try simp only [go_sem, Nat.reduceEqDiff, reduceIte, Nat.reduceAdd, Nat.reduceMul, Nat.reduceSub, Nat.reduceLT, Nat.reduceLeDiff, fz, nilS, packR, List.take_nil, List.take_length, List.length_map, List.length_append, cond_true, cond_false, Nat.ble_eq, ble_self]
       all_goals first | rfl | (simp only [go_sem, Nat.reduceEqDiff, reduceIte, Nat.reduceAdd, Nat.reduceMul, Nat.reduceSub, Nat.reduceLT, Nat.reduceLeDiff, fz, nilS, packR, List.take_nil, List.take_length, List.length_map, List.length_append, cond_true, cond_false, Nat.ble_eq, ble_self, List.map_append] <;> rfl)
      ·
       have h0 := cF h0 h6
       refine awp_skip ?_
       refine awp_nr [1] (fun _ => rfl) fun tz => ?_
       refine awp_regW fun KK hKK => ?_
       refine xw_id ?_
       try simp only [go_sem, Nat.reduceEqDiff, reduceIte, Nat.reduceAdd, Nat.reduceMul, Nat.reduceSub, Nat.reduceLT, Nat.reduceLeDiff]
       refine hKK _ _ (Wk.refl _ _ _) ?_; clear hKK KK
       refine awp_assoc ?_
       refine awp_nr [1,3] (fun _ => rfl) fun tz => ?_
       refine awp_regW fun KK hKK => ?_
       refine xw_id ?_
       try simp only [go_sem, Nat.reduceEqDiff, reduceIte, Nat.reduceAdd, Nat.reduceMul, Nat.reduceSub, Nat.reduceLT, Nat.reduceLeDiff, Int.reduceToNat, Int.reduceBEq, Int.reduceBNe, Int.reduceLT, Int.reduceLE, Int.reduceAdd, Int.reduceSub, Int.reduceMul, Int.reduceNeg, Int.reduceEq, Int.reduceNe]
       refine hKK _ _ (Wk.refl _ _ _) ?_; clear hKK KK
       obtain ⟨o19, hi7, h0⟩ := bnd h0
       refine awp_cut (fun d18 : Unit => o19 = Ex.go d18) (fun d18 : Unit => reorder_Check_S0 d18) ?_ ?_
       ·
        refine awp_block1 ?_
        refine awp_loopS (fun n (d20 : (Int × Int)) => reorder_Check_L2 a0 n d20 = some o19) (fun d20 : (Int × Int) => reorder_Check_S1 a0 d20) big (0, 0) (Wk.canonD [] [] [some 0] rfl trivial rfl (tmOU 0 tmO0 rfl List.not_mem_nil (by simp only [upd_get, Nat.reduceEqDiff, reduceIte, Nat.reduceAdd, Nat.reduceMul, Nat.reduceSub, Nat.reduceLT, Nat.reduceLeDiff, if_true, if_false] <;> rfl) (e_Reorder_tmx (by rfl) (Tm.clean (Clean.imm (c_HeldSeq _))))) (tmAllU 40 (tmAllU 39 (tmAllU 38 (tmAllU 3 (tmAllU 1 tmAll0 (Tm.ptr rfl)) (Tm.v _)) (Tm.clean (Clean.imm (c_HeldSeq _)))) (Tm.v _)) (Tm.v _))) hi7 ?_
        clear hi7
        rintro n d20 hl9
        rcases n with _ | n8
        ·
         (rw [reorder_Check_L2] at hl9; cases hl9)
        ·
         rw [reorder_Check_L2] at hl9
         unfold reorder_Check_S1
         refine awp_nr [1,3,38,39,40] (fun _ => rfl) fun tz => ?_
         refine awp_regW fun KK hKK => ?_
         refine xw_id ?_
         try simp only [go_sem, Nat.reduceEqDiff, reduceIte, Nat.reduceAdd, Nat.reduceMul, Nat.reduceSub, Nat.reduceLT, Nat.reduceLeDiff]
         refine hKK _ _ (Wk.refl _ _ _) ?_; clear hKK KK
         refine awp_cond (b := (decide (d20.2 < (a0.Held.length : Int)))) rfl (fun h10 => ?_) (fun h10 => ?_)
         ·
          have hl9 := cT hl9 h10
          refine awp_skip ?_
          refine awp_blockW ?_
          refine awp_nr [1,3,38,39,40] (fun _ => rfl) fun tz => ?_
          refine awp_regW fun KK hKK => ?_
          refine xw_id ?_
          obtain ⟨x21, bx21, hl9⟩ := bnd hl9
          obtain ⟨fx21_0, fx21_1, fx21_2, fx21_3⟩ := idx_some bx21
          try simp only [go_sem, Nat.reduceEqDiff, reduceIte, Nat.reduceAdd, Nat.reduceMul, Nat.reduceSub, Nat.reduceLT, Nat.reduceLeDiff, fx21_0, fx21_1, fx21_2]
          refine hKK _ _ (Wk.refl _ _ _) ?_; clear hKK KK
          refine awp_nr [1,3,5,38,39,40] (fun _ => rfl) fun tz => ?_
          refine awp_regW fun KK hKK => ?_
          refine xw_id ?_
          obtain ⟨x22, bx22, hl9⟩ := bnd hl9
          try simp only [go_sem, Nat.reduceEqDiff, reduceIte, Nat.reduceAdd, Nat.reduceMul, Nat.reduceSub, Nat.reduceLT, Nat.reduceLeDiff, fx21_0, fx21_1, fx21_2]
          refine xcall_p (window_Dist_p a0.Start x21.Frame.Head.Seq bx22) ?_; try dsimp only
          try refine xw_id ?_
          try simp only [go_sem, Nat.reduceEqDiff, reduceIte, Nat.reduceAdd, Nat.reduceMul, Nat.reduceSub, Nat.reduceLT, Nat.reduceLeDiff, fx21_0, fx21_1, fx21_2]
          refine hKK _ _ (Wk.refl _ _ _) ?_; clear hKK KK
          refine awp_assoc ?_
          refine awp_nr [1,3,5,6,38,39,40] (fun _ => rfl) fun tz => ?_
          refine awp_regW fun KK hKK => ?_
          refine xw_id ?_
          obtain ⟨x23, bx23, hl9⟩ := bnd hl9
          try simp only [go_sem, Nat.reduceEqDiff, reduceIte, Nat.reduceAdd, Nat.reduceMul, Nat.reduceSub, Nat.reduceLT, Nat.reduceLeDiff, fx21_0, fx21_1, fx21_2]
          refine xcall_p (reorder_number_p x21.Frame.Head.Seq bx23) ?_; try dsimp only
          try refine xw_id ?_
          refine xw_stop 2 (by (try simp only [go_sem]); rfl) (by (try simp only [go_sem]); rfl) (by rfl) fun K1 hK1 => ?_
          refine xw_id ?_
          try simp only [go_sem, Nat.reduceEqDiff, reduceIte, Nat.reduceAdd, Nat.reduceMul, Nat.reduceSub, Nat.reduceLT, Nat.reduceLeDiff, fx21_0, fx21_1, fx21_2]
          refine hK1 _ ?_; clear hK1 K1
          obtain ⟨x25, hvh11, hl9⟩ := bnd hl9
          refine xw_cut 5 [(1, (.ptr 0 0)), (3, (vi d20.1)), (6, (vi x22)), (38, (.imm (List.flatMap E_HeldSeq a0.Held) a0.Held.length)), (39, (vi (a0.Held.length : Int))), (40, (vi d20.2)), (62, (vb x25))] (by (try simp only [go_sem]); rfl) (by (try simp only [go_sem]); rfl) (by rfl) (fun K1 hK1 => ?_) fun tz => ?_
          ·
           refine xw_id ?_
           rcases Bool.eq_false_or_eq_true (!x23) with h11 | h11
           ·
            have hvh11 := cT hvh11 h11
            try simp only [go_sem, Nat.reduceEqDiff, reduceIte, Nat.reduceAdd, Nat.reduceMul, Nat.reduceSub, Nat.reduceLT, Nat.reduceLeDiff, fx21_0, fx21_1, fx21_2, h11]
            obtain rfl := someInj hvh11
            exact hK1 _ ⟨rfl, rfl, rfl, rfl, rfl, rfl, rfl, (by first | rfl | (rw [h11]; rfl) | (simp only [h11, Bool.true_and, Bool.false_and, Bool.true_or, Bool.false_or, cond_true, cond_false]; done)), trivial⟩
           ·
            have hvh11 := cF hvh11 h11
            obtain ⟨x24, bx24, hvh11⟩ := bnd hvh11
            try simp only [go_sem, Nat.reduceEqDiff, reduceIte, Nat.reduceAdd, Nat.reduceMul, Nat.reduceSub, Nat.reduceLT, Nat.reduceLeDiff, fx21_0, fx21_1, fx21_2, h11]
            refine xcall_p (reorder_moment_p x21.At bx24) ?_; try dsimp only
            try refine xw_id ?_
            try simp only [go_sem, Nat.reduceEqDiff, reduceIte, Nat.reduceAdd, Nat.reduceMul, Nat.reduceSub, Nat.reduceLT, Nat.reduceLeDiff, fx21_0, fx21_1, fx21_2, h11]
            obtain rfl := someInj hvh11
            exact hK1 _ ⟨rfl, rfl, rfl, rfl, rfl, rfl, rfl, (by first | rfl | (rw [h11]; rfl) | (simp only [h11, Bool.true_and, Bool.false_and, Bool.true_or, Bool.false_or, cond_true, cond_false]; done)), trivial⟩
          ·
           refine xw_id ?_
           refine xw_stop 1 (by (try simp only [go_sem]); rfl) (by (try simp only [go_sem]); rfl) (by rfl) fun K1 hK1 => ?_
           refine xw_id ?_
           try simp only [go_sem, Nat.reduceEqDiff, reduceIte, Nat.reduceAdd, Nat.reduceMul, Nat.reduceSub, Nat.reduceLT, Nat.reduceLeDiff, fx21_0, fx21_1, fx21_2]
           refine hK1 _ ?_; clear hK1 K1
           refine xw_cut 4 [(1, (.ptr 0 0)), (6, (vi x22)), (38, (.imm (List.flatMap E_HeldSeq a0.Held) a0.Held.length)), (39, (vi (a0.Held.length : Int))), (40, (vi d20.2)), (67, (vb (x25 || (decide (x22 ≤ d20.1)))))] (by (try simp only [go_sem]); rfl) (by (try simp only [go_sem]); rfl) (by rfl) (fun K1 hK1 => ?_) fun tz => ?_
           ·
            refine xw_id ?_
            rcases Bool.eq_false_or_eq_true x25 with h12 | h12
            ·
             try simp only [go_sem, Nat.reduceEqDiff, reduceIte, Nat.reduceAdd, Nat.reduceMul, Nat.reduceSub, Nat.reduceLT, Nat.reduceLeDiff, fx21_0, fx21_1, fx21_2, h12]
             exact hK1 _ ⟨rfl, rfl, rfl, rfl, rfl, rfl, (by first | rfl | (rw [h12]; rfl) | (simp only [h12, Bool.true_and, Bool.false_and, Bool.true_or, Bool.false_or, cond_true, cond_false]; done)), trivial⟩
            ·
             try simp only [go_sem, Nat.reduceEqDiff, reduceIte, Nat.reduceAdd, Nat.reduceMul, Nat.reduceSub, Nat.reduceLT, Nat.reduceLeDiff, fx21_0, fx21_1, fx21_2, h12]
             exact hK1 _ ⟨rfl, rfl, rfl, rfl, rfl, rfl, (by first | rfl | (rw [h12]; rfl) | (simp only [h12, Bool.true_and, Bool.false_and, Bool.true_or, Bool.false_or, cond_true, cond_false]; done)), trivial⟩
           ·
            refine xw_id ?_
            refine xw_stop 1 (by (try simp only [go_sem]); rfl) (by (try simp only [go_sem]); rfl) (by rfl) fun K1 hK1 => ?_
            refine xw_id ?_
            try simp only [go_sem, Nat.reduceEqDiff, reduceIte, Nat.reduceAdd, Nat.reduceMul, Nat.reduceSub, Nat.reduceLT, Nat.reduceLeDiff, fx21_0, fx21_1, fx21_2]
            refine hK1 _ ?_; clear hK1 K1
            refine xw_cut 5 [(1, (.ptr 0 0)), (6, (vi x22)), (38, (.imm (List.flatMap E_HeldSeq a0.Held) a0.Held.length)), (39, (vi (a0.Held.length : Int))), (40, (vi d20.2)), (73, (vb ((x25 || (decide (x22 ≤ d20.1))) || (decide (a0.Size ≤ x22)))))] (by (try simp only [go_sem]); rfl) (by (try simp only [go_sem]); rfl) (by rfl) (fun K1 hK1 => ?_) fun tz => ?_
            ·
             refine xw_id ?_
             rcases Bool.eq_false_or_eq_true (x25 || (decide (x22 ≤ d20.1))) with h13 | h13
             ·
              try simp only [go_sem, Nat.reduceEqDiff, reduceIte, Nat.reduceAdd, Nat.reduceMul, Nat.reduceSub, Nat.reduceLT, Nat.reduceLeDiff, fx21_0, fx21_1, fx21_2, h13]
              exact hK1 _ ⟨rfl, rfl, rfl, rfl, rfl, rfl, (by first | rfl | (rw [h13]; rfl) | (simp only [h13, Bool.true_and, Bool.false_and, Bool.true_or, Bool.false_or, cond_true, cond_false]; done)), trivial⟩
             ·
              try simp only [go_sem, Nat.reduceEqDiff, reduceIte, Nat.reduceAdd, Nat.reduceMul, Nat.reduceSub, Nat.reduceLT, Nat.reduceLeDiff, fx21_0, fx21_1, fx21_2, h13]
              exact hK1 _ ⟨rfl, rfl, rfl, rfl, rfl, rfl, (by first | rfl | (rw [h13]; rfl) | (simp only [h13, Bool.true_and, Bool.false_and, Bool.true_or, Bool.false_or, cond_true, cond_false]; done)), trivial⟩
            ·
             refine xw_id ?_
             try simp only [go_sem, Nat.reduceEqDiff, reduceIte, Nat.reduceAdd, Nat.reduceMul, Nat.reduceSub, Nat.reduceLT, Nat.reduceLeDiff, fx21_0, fx21_1, fx21_2]
             refine hKK _ (reorder_Check_S3 a0 x22 d20 x25) (Wk.canonD [] [] [some 0] rfl trivial rfl (tmOU 0 tmO0 rfl List.not_mem_nil (by simp only [upd_get, Nat.reduceEqDiff, reduceIte, Nat.reduceAdd, Nat.reduceMul, Nat.reduceSub, Nat.reduceLT, Nat.reduceLeDiff, if_true, if_false] <;> rfl) (e_Reorder_tmx (by rfl) (Tm.clean (Clean.imm (c_HeldSeq _))))) (tmAllU 73 (tmAllU 40 (tmAllU 39 (tmAllU 38 (tmAllU 6 (tmAllU 1 tmAll0 (Tm.ptr rfl)) (Tm.v _)) (Tm.clean (Clean.imm (c_HeldSeq _)))) (Tm.v _)) (Tm.v _)) (Tm.v _))) ?_; clear hKK KK
             unfold reorder_Check_S3
             refine awp_cond (b := ((x25 || (decide (x22 ≤ d20.1))) || (decide (a0.Size ≤ x22)))) rfl (fun h14 => ?_) (fun h14 => ?_)
             ·
              have hl9 := cT hl9 h14
              refine awp_assoc ?_
              refine awp_nr [] (fun _ => rfl) fun tz => ?_
              refine awp_regW fun KK hKK => ?_
              refine xw_id ?_
              try simp only [go_sem, Nat.reduceEqDiff, reduceIte, Nat.reduceAdd, Nat.reduceMul, Nat.reduceSub, Nat.reduceLT, Nat.reduceLeDiff, fx21_0, fx21_1, fx21_2]
              refine hKK _ _ (Wk.refl _ _ _) ?_; clear hKK KK
              refine awp_ret ?_
              refine bq_r ?_
              refine sq_r ?_
              refine lq_r ?_
              refine bq_r ?_
              refine sq_r ?_
              obtain rfl := someInj hl9
              obtain rfl := Ex.k_ret h0
              refine endW_i ?_
              refine end_ret0 rs14 (rfl) ?_
              try simp only [go_sem, Nat.reduceEqDiff, reduceIte, Nat.reduceAdd, Nat.reduceMul, Nat.reduceSub, Nat.reduceLT, Nat.reduceLeDiff, fz, nilS, packR, List.take_nil, List.take_length, List.length_map, List.length_append, cond_true, cond_false, Nat.ble_eq, ble_self]
              all_goals first | rfl | (simp only [go_sem, Nat.reduceEqDiff, reduceIte, Nat.reduceAdd, Nat.reduceMul, Nat.reduceSub, Nat.reduceLT, Nat.reduceLeDiff, fz, nilS, packR, List.take_nil, List.take_length, List.length_map, List.length_append, cond_true, cond_false, Nat.ble_eq, ble_self, List.map_append] <;> rfl)
             ·
              have hl9 := cF hl9 h14
              refine awp_skip ?_
              refine awp_nr1 [1,6,38,39,40] (fun _ => rfl) fun tz => ?_
              refine awp_reg1 fun KK hKK => ?_
              refine xw_id ?_
              try simp only [go_sem, Nat.reduceEqDiff, reduceIte, Nat.reduceAdd, Nat.reduceMul, Nat.reduceSub, Nat.reduceLT, Nat.reduceLeDiff, fx21_0, fx21_1, fx21_2]
              refine hKK _ ?_; clear hKK KK
              refine bq_n ?_
              refine seqW_i ?_
              refine awp_nr1 [1,3,38,39,40] (fun _ => rfl) fun tz => ?_
              refine awp_reg1 fun KK hKK => ?_
              refine xw_id ?_
              try simp only [go_sem, Nat.reduceEqDiff, reduceIte, Nat.reduceAdd, Nat.reduceMul, Nat.reduceSub, Nat.reduceLT, Nat.reduceLeDiff, fx21_0, fx21_1, fx21_2]
              refine hKK _ ?_; clear hKK KK
              refine lq_n ?_
              exact ⟨n8, (x22, IntKind.wrap .i64 (d20.2 + 1)), rfl, hl9, (Wk.canonD [] [] [some 0] rfl trivial rfl (tmOU 0 tmO0 rfl List.not_mem_nil (by simp only [upd_get, Nat.reduceEqDiff, reduceIte, Nat.reduceAdd, Nat.reduceMul, Nat.reduceSub, Nat.reduceLT, Nat.reduceLeDiff, if_true, if_false] <;> rfl) (e_Reorder_tmx (by rfl) (Tm.clean (Clean.imm (c_HeldSeq _))))) (tmAllU 40 (tmAllU 39 (tmAllU 38 (tmAllU 3 (tmAllU 1 tmAll0 (Tm.ptr rfl)) (Tm.v _)) (Tm.clean (Clean.imm (c_HeldSeq _)))) (Tm.v _)) (Tm.v _)))⟩
         ·
          have hl9 := cF hl9 h10
          refine awp_exit ?_
          refine lq_e ?_
          refine bq_e ?_
          refine sq_n ?_
          obtain rfl := someInj hl9
          exact ⟨_, rfl, (Wk.canonD [] [] [] rfl trivial rfl tmO0 tmAll0)⟩
       ·
        rintro d18 rfl
        have h0 := Ex.k_go h0
        clear hi7
        unfold reorder_Check_S0
        refine awp_nr [] (fun _ => rfl) fun tz => ?_
        refine awp_regW fun KK hKK => ?_
        refine xw_id ?_
        try simp only [go_sem, Nat.reduceEqDiff, reduceIte, Nat.reduceAdd, Nat.reduceMul, Nat.reduceSub, Nat.reduceLT, Nat.reduceLeDiff]
        refine hKK _ _ (Wk.refl _ _ _) ?_; clear hKK KK
        refine awp_ret1 ?_
        obtain rfl := someInj h0
        refine endW_i ?_
        refine end_ret0 rs14 (rfl) ?_
        try simp only [go_sem, Nat.reduceEqDiff, reduceIte, Nat.reduceAdd, Nat.reduceMul, Nat.reduceSub, Nat.reduceLT, Nat.reduceLeDiff, fz, nilS, packR, List.take_nil, List.take_length, List.length_map, List.length_append, cond_true, cond_false, Nat.ble_eq, ble_self]
        all_goals first | rfl | (simp only [go_sem, Nat.reduceEqDiff, reduceIte, Nat.reduceAdd, Nat.reduceMul, Nat.reduceSub, Nat.reduceLT, Nat.reduceLeDiff, fz, nilS, packR, List.take_nil, List.take_length, List.length_map, List.length_append, cond_true, cond_false, Nat.ble_eq, ble_self, List.map_append] <;> rfl)

end Go.AX.Z.TR

/-! (TRW header Twin) -/

set_option linter.unusedSimpArgs false
set_option linter.unusedVariables false
set_option maxHeartbeats 4000000
set_option maxRecDepth 20000
namespace Go.AX.Z.TR
open Go.AX Go.Proofs
attribute [local irreducible] awp xw xop xcall gsp ob xd xdop xcallD seqQ loopQ blkQ endQ


theorem header_Twin_p (a0 : Frame) {r : Frame} (h0 : header_Twin a0 = some r) : SndP K 54 [(.agg (E_Frame a0))] (.agg (E_Frame r)) := by
 refine SndP.of_walkW hC (Clean.agg (E_Frame_clean _)) (clean_cons (Clean.agg (E_Frame_clean _)) clean_nil) (show K.P.funcs[54]? = some Try.f54 from Try.func54) rfl rfl (by decide +kernel) (Nat.le_of_ble_eq_true rfl) ?_
 unfold header_Twin at h0
 refine awp_nr [0] (fun _ => rfl) fun tz => ?_
 refine awp_regW fun KK hKK => ?_
 refine xw_id ?_
 try simp only [go_sem, Nat.reduceEqDiff, reduceIte, Nat.reduceAdd, Nat.reduceMul, Nat.reduceSub, Nat.reduceLT, Nat.reduceLeDiff]
 refine hKK _ _ (Wk.refl _ _ _) ?_; clear hKK KK
 refine awp_nr [1,2] (fun _ => rfl) fun tz => ?_
 refine awp_regW fun KK hKK => ?_
 refine xw_id ?_
 obtain ⟨x30, bx30, h0⟩ := bnd h0
 have bx30 := chk_some bx30
 simp only [Bool.and_eq_true, decide_eq_true_eq] at bx30
 have gx30_0 := bx30
 try simp only [go_sem, Nat.reduceEqDiff, reduceIte, Nat.reduceAdd, Nat.reduceMul, Nat.reduceSub, Nat.reduceLT, Nat.reduceLeDiff, Int.reduceToNat, Int.reduceBEq, Int.reduceBNe, Int.reduceLT, Int.reduceLE, Int.reduceAdd, Int.reduceSub, Int.reduceMul, Int.reduceNeg, Int.reduceEq, Int.reduceNe, gx30_0]
 refine hKK _ _ (Wk.refl _ _ _) ?_; clear hKK KK
 refine awp_nr [1,2] (fun _ => rfl) fun tz => ?_
 refine awp_regW fun KK hKK => ?_
 refine xw_id ?_
 try simp only [go_sem, Nat.reduceEqDiff, reduceIte, Nat.reduceAdd, Nat.reduceMul, Nat.reduceSub, Nat.reduceLT, Nat.reduceLeDiff]
 refine hKK _ _ (Wk.refl _ _ _) ?_; clear hKK KK
 refine awp_ret1 ?_
 obtain rfl := someInj h0
 refine endW_i ?_
 refine end_ret0 rs54 (by simp only [go_sem, resV, resAll, resOf, packR, Nat.reduceEqDiff, reduceIte, Nat.reduceAdd, Nat.reduceMul, Nat.reduceSub, Nat.reduceLT, Nat.reduceLeDiff]; rfl) ?_
 try simp only [go_sem, Nat.reduceEqDiff, reduceIte, Nat.reduceAdd, Nat.reduceMul, Nat.reduceSub, Nat.reduceLT, Nat.reduceLeDiff, fz, nilS, packR, List.take_nil, List.take_length, List.length_map, List.length_append, cond_true, cond_false, Nat.ble_eq, ble_self]
 all_goals first | rfl | (simp only [go_sem, Nat.reduceEqDiff, reduceIte, Nat.reduceAdd, Nat.reduceMul, Nat.reduceSub, Nat.reduceLT, Nat.reduceLeDiff, fz, nilS, packR, List.take_nil, List.take_length, List.length_map, List.length_append, cond_true, cond_false, Nat.ble_eq, ble_self, List.map_append] <;> rfl)

end Go.AX.Z.TR

/-! (TRW reorder twin) -/

set_option linter.unusedSimpArgs false
set_option linter.unusedVariables false
set_option maxHeartbeats 4000000
set_option maxRecDepth 20000
namespace Go.AX.Z.TR
open Go.AX Go.Proofs
attribute [local irreducible] awp xw xop xcall gsp ob xd xdop xcallD seqQ loopQ blkQ endQ

def reorder_twin_S0 (d28 : (List HeldSeq)) : AS :=
 { objs := (upd (fun _ => .dead) 0 (.live (List.flatMap E_HeldSeq d28))), next := 1, tmps := (upd (fun _ => .unk) 2 (.ref 0 0 ((d28).length) 42)) }

def reorder_twin_S1 (a0 : (List HeldSeq)) (d29 : (List HeldSeq × Int)) : AS :=
 { objs := (upd (fun _ => .dead) 0 (.live (List.flatMap E_HeldSeq d29.1))), next := 1, tmps := (upd (upd (upd (upd (fun _ => .unk) 2 (.ref 0 0 ((d29.1).length) 42)) 5 (.imm (List.flatMap E_HeldSeq a0) a0.length)) 6 (vi (a0.length : Int))) 7 (vi d29.2)) }

theorem reorder_twin_r (a0 : (List HeldSeq)) {r : (List HeldSeq)} (h0 : reorder_twin a0 = some r) : SndR K 43 [(S_HeldSeq a0)] (fun q => (.ref (q 0) 0 r.length 42)) [(List.flatMap E_HeldSeq r)] := by
 refine SndR.of_walkW hC (show K.P.funcs[43]? = some Try.f43 from Try.func43) rfl rfl (by decide +kernel) (Nat.le_of_ble_eq_true rfl) ?_
 unfold reorder_twin at h0
 refine awp_nr [0] (fun _ => rfl) fun tz => ?_
 refine awp_regW fun KK hKK => ?_
 refine xw_id ?_
 try simp only [go_sem, Nat.reduceEqDiff, reduceIte, Nat.reduceAdd, Nat.reduceMul, Nat.reduceSub, Nat.reduceLT, Nat.reduceLeDiff]
 refine hKK _ _ (Wk.refl _ _ _) ?_; clear hKK KK
 refine awp_assoc ?_
 refine awp_nr [0,2] (fun _ => rfl) fun tz => ?_
 refine awp_regW fun KK hKK => ?_
 refine xw_id ?_
 try simp only [go_sem, Nat.reduceEqDiff, reduceIte, Nat.reduceAdd, Nat.reduceMul, Nat.reduceSub, Nat.reduceLT, Nat.reduceLeDiff, Int.reduceToNat, Int.reduceBEq, Int.reduceBNe, Int.reduceLT, Int.reduceLE, Int.reduceAdd, Int.reduceSub, Int.reduceMul, Int.reduceNeg, Int.reduceEq, Int.reduceNe]
 refine hKK _ _ (Wk.refl _ _ _) ?_; clear hKK KK
 obtain ⟨d28, hi1, h0⟩ := bnd h0
 refine awp_cut (fun z => d28 = z) (fun d28 : (List HeldSeq) => reorder_twin_S0 d28) ?_ ?_
 ·
  refine awp_block1 ?_
  refine awp_loopS (fun n (d29 : (List HeldSeq × Int)) => reorder_twin_L2 a0 n d29 = some d28) (fun d29 : (List HeldSeq × Int) => reorder_twin_S1 a0 d29) big ([], 0) (Wk.canonD [] [] [none] rfl trivial rfl (tmON 0 tmO0 rfl) (tmAllU 7 (tmAllU 6 (tmAllU 5 (tmAllU 2 tmAll0 (Tm.thaw _ _ _)) (Tm.clean (Clean.imm (c_HeldSeq _)))) (Tm.v _)) (Tm.v _))) hi1 ?_
  clear hi1
  rintro n d29 hl3
  rcases n with _ | n2
  ·
   (rw [reorder_twin_L2] at hl3; cases hl3)
  ·
   rw [reorder_twin_L2] at hl3
   unfold reorder_twin_S1
   refine awp_nr [2,5,6,7] (fun _ => rfl) fun tz => ?_
   refine awp_regW fun KK hKK => ?_
   refine xw_id ?_
   try simp only [go_sem, Nat.reduceEqDiff, reduceIte, Nat.reduceAdd, Nat.reduceMul, Nat.reduceSub, Nat.reduceLT, Nat.reduceLeDiff]
   refine hKK _ _ (Wk.refl _ _ _) ?_; clear hKK KK
   refine awp_cond (b := (decide (d29.2 < (a0.length : Int)))) rfl (fun h4 => ?_) (fun h4 => ?_)
   ·
    have hl3 := cT hl3 h4
    refine awp_skip ?_
    refine awp_blockW ?_
    refine awp_nr [2,5,6,7] (fun _ => rfl) fun tz => ?_
    refine awp_regW fun KK hKK => ?_
    refine xw_id ?_
    obtain ⟨x30, bx30, hl3⟩ := bnd hl3
    obtain ⟨fx30_0, fx30_1, fx30_2, fx30_3⟩ := idx_some bx30
    try simp only [go_sem, Nat.reduceEqDiff, reduceIte, Nat.reduceAdd, Nat.reduceMul, Nat.reduceSub, Nat.reduceLT, Nat.reduceLeDiff, fx30_0, fx30_1, fx30_2]
    refine hKK _ _ (Wk.refl _ _ _) ?_; clear hKK KK
    refine awp_nr1 [2,4,5,6,7] (fun _ => rfl) fun tz => ?_
    refine awp_regD1 fun KK hKK all hall => ?_
    refine xd_id ?_
    try simp only [List.toList_toArray, List.map_cons, List.map_nil, List.size_toArray, List.length_cons, List.length_nil, Nat.zero_add]
    try simp only [Nat.reduceAdd]
    obtain ⟨x31, bx31, hl3⟩ := bnd hl3
    simp only [go_sem, Nat.reduceEqDiff, reduceIte, Nat.reduceMul, Nat.reduceSub, Nat.reduceLT, Nat.reduceLeDiff, fx30_0, fx30_1, fx30_2]
    try simp only [Nat.reduceAdd]
    try simp only [go_sem, Nat.reduceEqDiff, reduceIte, Nat.reduceMul, Nat.reduceSub, Nat.reduceLT, Nat.reduceLeDiff, fx30_0, fx30_1, fx30_2]
    try simp only [Nat.reduceAdd]
    try simp only [go_sem, Nat.reduceEqDiff, reduceIte, Nat.reduceMul, Nat.reduceSub, Nat.reduceLT, Nat.reduceLeDiff, fx30_0, fx30_1, fx30_2]
    refine xcallD_p (header_Twin_p x30.Frame bx31) ?_; try dsimp only
    try refine xd_id ?_
    obtain ⟨x32, bx32, hl3⟩ := bnd hl3
    have bx32 := chk_some bx32
    simp only [Bool.and_eq_true, decide_eq_true_eq] at bx32
    have gx32_0 := bx32
    simp only [go_sem, Nat.reduceEqDiff, reduceIte, Nat.reduceMul, Nat.reduceSub, Nat.reduceLT, Nat.reduceLeDiff, Int.reduceToNat, Int.reduceBEq, Int.reduceBNe, Int.reduceLT, Int.reduceLE, Int.reduceAdd, Int.reduceSub, Int.reduceMul, Int.reduceNeg, Int.reduceEq, Int.reduceNe, fx30_0, fx30_1, fx30_2, gx32_0]
    try simp only [Nat.reduceAdd]
    try simp only [go_sem, Nat.reduceEqDiff, reduceIte, Nat.reduceMul, Nat.reduceSub, Nat.reduceLT, Nat.reduceLeDiff, Int.reduceToNat, Int.reduceBEq, Int.reduceBNe, Int.reduceLT, Int.reduceLE, Int.reduceAdd, Int.reduceSub, Int.reduceMul, Int.reduceNeg, Int.reduceEq, Int.reduceNe, fx30_0, fx30_1, fx30_2, gx32_0]
    try simp only [Nat.reduceAdd]
    try simp only [go_sem, Nat.reduceEqDiff, reduceIte, Nat.reduceMul, Nat.reduceSub, Nat.reduceLT, Nat.reduceLeDiff, Int.reduceToNat, Int.reduceBEq, Int.reduceBNe, Int.reduceLT, Int.reduceLE, Int.reduceAdd, Int.reduceSub, Int.reduceMul, Int.reduceNeg, Int.reduceEq, Int.reduceNe, fx30_0, fx30_1, fx30_2, gx32_0]
    refine And.intro ?_ (hKK _ ?_)
    ·
     subst hall
     clear hKK KK
     first | decide +kernel | (simp [printsOk, apartP, clash, meet]; done) | (simp [printsOk, apartP, clash, meet]; decide +kernel)
    ·
     clear hKK KK hall all
     refine bq_n ?_
     refine seqW_i ?_
     refine awp_nr1 [2,5,6,7] (fun _ => rfl) fun tz => ?_
     refine awp_reg1 fun KK hKK => ?_
     refine xw_id ?_
     try simp only [go_sem, Nat.reduceEqDiff, reduceIte, Nat.reduceAdd, Nat.reduceMul, Nat.reduceSub, Nat.reduceLT, Nat.reduceLeDiff, fx30_0, fx30_1, fx30_2]
     refine hKK _ ?_; clear hKK KK
     refine lq_n ?_
     exact ⟨n2, ((d29.1 ++ [{ HeldSeq.z with At := x30.At, Frame := { x31 with Body := x31.Body } }]), IntKind.wrap .i64 (d29.2 + 1)), rfl, hl3, (by refine Wk.canonD [] [] [some 14] rfl trivial rfl (tmOU 0 tmO0 rfl List.not_mem_nil (by simp only [upd_get, Nat.reduceEqDiff, reduceIte, Nat.reduceAdd, Nat.reduceMul, Nat.reduceSub, Nat.reduceLT, Nat.reduceLeDiff, if_true, if_false] <;> rfl) (TmL.of_eq (by first | rfl | (simp only [List.flatMap_append, List.flatMap_cons, List.flatMap_nil, List.map_append, List.map_cons, List.map_nil, List.append_nil, List.nil_append]; done) | (simp only [List.flatMap_append, List.flatMap_cons, List.flatMap_nil, List.map_append, List.map_cons, List.map_nil, List.append_nil, List.nil_append]; rfl)) (c_HeldSeq _))) (tmAllU 7 (tmAllU 6 (tmAllU 5 (tmAllU 2 tmAll0 (Tm.refL rfl ?_)) (Tm.clean (Clean.imm (c_HeldSeq _)))) (Tm.v _)) (Tm.v _)); all_goals (first | rfl | (simp only [List.length_take]; omega) | (simp only [List.length_append, List.length_cons, List.length_nil, List.length_modify, List.length_set, Nat.zero_add]; done) | (simp only [List.length_append, List.length_take, List.length_drop, List.length_cons, List.length_nil, List.length_modify, List.length_set, Nat.zero_add]; omega) | (simp only [List.length_append, List.length_take, List.length_drop, List.length_cons, List.length_nil, List.length_modify, List.length_set, Nat.zero_add]; done) | omega))⟩
   ·
    have hl3 := cF hl3 h4
    refine awp_exit ?_
    refine lq_e ?_
    refine bq_e ?_
    refine sq_n ?_
    obtain rfl := someInj hl3
    exact ⟨_, rfl, (by refine Wk.canonD [] [] [some 0] rfl trivial rfl (tmOU 0 tmO0 rfl List.not_mem_nil (by simp only [upd_get, Nat.reduceEqDiff, reduceIte, Nat.reduceAdd, Nat.reduceMul, Nat.reduceSub, Nat.reduceLT, Nat.reduceLeDiff, if_true, if_false] <;> rfl) (TmL.of_eq (by first | rfl | (simp only [List.flatMap_append, List.flatMap_cons, List.flatMap_nil, List.map_append, List.map_cons, List.map_nil, List.append_nil, List.nil_append]; done) | (simp only [List.flatMap_append, List.flatMap_cons, List.flatMap_nil, List.map_append, List.map_cons, List.map_nil, List.append_nil, List.nil_append]; rfl)) (c_HeldSeq _))) (tmAllU 2 tmAll0 (Tm.refL rfl ?_)); all_goals (first | rfl | (simp only [List.length_take]; omega) | (simp only [List.length_append, List.length_cons, List.length_nil, List.length_modify, List.length_set, Nat.zero_add]; done) | (simp only [List.length_append, List.length_take, List.length_drop, List.length_cons, List.length_nil, List.length_modify, List.length_set, Nat.zero_add]; omega) | (simp only [List.length_append, List.length_take, List.length_drop, List.length_cons, List.length_nil, List.length_modify, List.length_set, Nat.zero_add]; done) | omega))⟩
 ·
  rintro _ rfl
  clear hi1
  unfold reorder_twin_S0
  refine awp_nr [2] (fun _ => rfl) fun tz => ?_
  refine awp_regW fun KK hKK => ?_
  refine xw_id ?_
  try simp only [go_sem, Nat.reduceEqDiff, reduceIte, Nat.reduceAdd, Nat.reduceMul, Nat.reduceSub, Nat.reduceLT, Nat.reduceLeDiff]
  refine hKK _ _ (Wk.refl _ _ _) ?_; clear hKK KK
  refine awp_ret1 ?_
  obtain rfl := someInj h0
  refine endW_i ?_
  refine end_ret0 rs43 (rfl) ?_
  refine Res.mk [] [some 0] rfl (resOU List.not_mem_nil (by simp only [upd_get, Nat.reduceEqDiff, reduceIte, Nat.reduceAdd, Nat.reduceMul, Nat.reduceSub, Nat.reduceLT, Nat.reduceLeDiff, if_true, if_false] <;> rfl) (TmL.of_eq (by first | rfl | (simp only [List.flatMap_append, List.flatMap_cons, List.flatMap_nil, List.map_append, List.map_cons, List.map_nil, List.append_nil, List.nil_append]; done) | (simp only [List.flatMap_append, List.flatMap_cons, List.flatMap_nil, List.map_append, List.map_cons, List.map_nil, List.append_nil, List.nil_append]; rfl)) (c_HeldSeq _)) resO0) (Tm.refL rfl ?_)
  all_goals (first | rfl | (simp only [List.length_take]; omega) | (simp only [List.length_append, List.length_cons, List.length_nil, List.length_modify, List.length_set, Nat.zero_add]; done) | (simp only [List.length_append, List.length_take, List.length_drop, List.length_cons, List.length_nil, List.length_modify, List.length_set, Nat.zero_add]; omega) | (simp only [List.length_append, List.length_take, List.length_drop, List.length_cons, List.length_nil, List.length_modify, List.length_set, Nat.zero_add]; done) | omega)

theorem reorder_twin_m (a0 : (List HeldSeq)) {r : (List HeldSeq)} (h0 : reorder_twin a0 = some r) : SndM K 43 [(S_HeldSeq a0)] (fun q => (.ref (q 0) 0 r.length 42)) [(List.flatMap E_HeldSeq r)] :=
 fun hs => Snd.of_newM (RenM.ref 0 0 _ _) (rows_all_cons (c_HeldSeq _) rows_all_nil) (clean_cons (S_HeldSeq_clean _) clean_nil) (reorder_twin_r a0 h0) hs

theorem reorder_twin_e (a0 : (List HeldSeq)) {r : (List HeldSeq)} (h0 : reorder_twin a0 = some r) (fr : Nat) (hs : HS) : SndE K 43 [(S_HeldSeq a0)] hs fr ⟨(fun q : Nat → Nat => (.ref (q 0) 0 r.length 42)) fun _ => fr, .new (List.flatMap E_HeldSeq r)⟩ :=
 SndE.of_res (RenM.ref 0 0 _ _) (c_HeldSeq _) (clean_cons (S_HeldSeq_clean _) clean_nil) (fun a b h => by simp only [h]) (reorder_twin_r a0 h0) hs fr

theorem reorder_twin_p (a0 : (List HeldSeq)) {r : (List HeldSeq)} (h0 : reorder_twin a0 = some r) : SndP K 43 [(S_HeldSeq a0)] (S_HeldSeq r) :=
 SndM.pure (reorder_twin_m a0 h0) (S_HeldSeq_clean _) (clean_cons (S_HeldSeq_clean _) clean_nil) (by simp only [go_sem, newL_n, newL_c, upd_get, fz, nilS, cond_true, cond_false, List.drop_zero, List.take_length, List.length_map, ble_self, Nat.reduceEqDiff, reduceIte, Nat.reduceAdd, Nat.reduceMul, Nat.reduceSub, Nat.reduceLT, Nat.reduceLeDiff] <;> rfl)

end Go.AX.Z.TR

/-! (TRW reorder place 1) -/

set_option linter.unusedSimpArgs false
set_option linter.unusedVariables false
set_option maxHeartbeats 4000000
set_option maxRecDepth 20000
namespace Go.AX.Z.TR
open Go.AX Go.Proofs
attribute [local irreducible] awp xw xop xcall gsp ob xd xdop xcallD seqQ loopQ blkQ endQ


theorem reorder_place_1_p (a0 : HeldSeq) (a1 : Int) (a2 : Reorder) {r : Int} (h0 : reorder_place_1 a0 a1 a2 = some r) : SndP K 63 [(.agg (E_HeldSeq a0)), (vi a1), (.iptr (E_Reorder a2) 0)] (vi r) := by
 refine SndP.of_walkW hC (Clean.v _) (clean_cons (Clean.agg (E_HeldSeq_clean _)) (clean_cons (Clean.v _) (clean_cons (Clean.iptr (E_Reorder_clean _)) clean_nil))) (show K.P.funcs[63]? = some Try.f63 from Try.func63) rfl rfl (by decide +kernel) (Nat.le_of_ble_eq_true rfl) ?_
 unfold reorder_place_1 at h0
 refine awp_nr [0,1,2] (fun _ => rfl) fun tz => ?_
 refine awp_regW fun KK hKK => ?_
 refine xw_id ?_
 try simp only [go_sem, Nat.reduceEqDiff, reduceIte, Nat.reduceAdd, Nat.reduceMul, Nat.reduceSub, Nat.reduceLT, Nat.reduceLeDiff]
 refine hKK _ _ (Wk.refl _ _ _) ?_; clear hKK KK
 refine awp_nr [1,2,3] (fun _ => rfl) fun tz => ?_
 refine awp_regW fun KK hKK => ?_
 refine xw_id ?_
 obtain ⟨x38, bx38, h0⟩ := bnd h0
 try simp only [go_sem, Nat.reduceEqDiff, reduceIte, Nat.reduceAdd, Nat.reduceMul, Nat.reduceSub, Nat.reduceLT, Nat.reduceLeDiff]
 refine xcall_p (window_Dist_p a2.Start a0.Frame.Head.Seq bx38) ?_; try dsimp only
 try refine xw_id ?_
 try simp only [go_sem, Nat.reduceEqDiff, reduceIte, Nat.reduceAdd, Nat.reduceMul, Nat.reduceSub, Nat.reduceLT, Nat.reduceLeDiff]
 refine hKK _ _ (Wk.refl _ _ _) ?_; clear hKK KK
 refine awp_ret1 ?_
 obtain rfl := someInj h0
 refine endW_i ?_
 refine end_ret0 rs63 (rfl) ?_
 try simp only [go_sem, Nat.reduceEqDiff, reduceIte, Nat.reduceAdd, Nat.reduceMul, Nat.reduceSub, Nat.reduceLT, Nat.reduceLeDiff, fz, nilS, packR, List.take_nil, List.take_length, List.length_map, List.length_append, cond_true, cond_false, Nat.ble_eq, ble_self]
 all_goals first | rfl | (simp only [go_sem, Nat.reduceEqDiff, reduceIte, Nat.reduceAdd, Nat.reduceMul, Nat.reduceSub, Nat.reduceLT, Nat.reduceLeDiff, fz, nilS, packR, List.take_nil, List.take_length, List.length_map, List.length_append, cond_true, cond_false, Nat.ble_eq, ble_self, List.map_append] <;> rfl)

end Go.AX.Z.TR

/-! (TRW slices BinarySearchFunc api HeldSeq api HeldSeq int) -/

set_option linter.unusedSimpArgs false
set_option linter.unusedVariables false
set_option maxHeartbeats 4000000
set_option maxRecDepth 20000
namespace Go.AX.Z.TR
open Go.AX Go.Proofs
attribute [local irreducible] awp xw xop xcall gsp ob xd xdop xcallD seqQ loopQ blkQ endQ

def slices_BinarySearchFunc_api_HeldSeq_api_HeldSeq_int_S0 (a0 : (List HeldSeq)) (a1 : Int) (a2 : Reorder) (d36 : Int) : AS :=
 { objs := (fun _ => .dead), next := 0, tmps := (upd (upd (upd (upd (upd (fun _ => .unk) 0 (.imm (List.flatMap E_HeldSeq a0) a0.length)) 1 (vi a1)) 2 (.clo 63 [] [(.iptr (e_Reorder a2 (.imm (List.flatMap E_HeldSeq a2.Held) a2.Held.length)) 0)])) 8 (vi (a0.length : Int))) 9 (vi d36)) }

def slices_BinarySearchFunc_api_HeldSeq_api_HeldSeq_int_S1 (a0 : (List HeldSeq)) (a1 : Int) (a2 : Reorder) (d37 : (Int × Int)) : AS :=
 { objs := (fun _ => .dead), next := 0, tmps := (upd (upd (upd (upd (upd (upd (fun _ => .unk) 0 (.imm (List.flatMap E_HeldSeq a0) a0.length)) 1 (vi a1)) 2 (.clo 63 [] [(.iptr (e_Reorder a2 (.imm (List.flatMap E_HeldSeq a2.Held) a2.Held.length)) 0)])) 8 (vi (a0.length : Int))) 9 (vi d37.1)) 10 (vi d37.2)) }

theorem slices_BinarySearchFunc_api_HeldSeq_api_HeldSeq_int_p (a0 : (List HeldSeq)) (a1 : Int) (a2 : Reorder) {r : (Int × Bool)} (h0 : slices_BinarySearchFunc_api_HeldSeq_api_HeldSeq_int a0 a1 a2 = some r) : SndP K 62 [(S_HeldSeq a0), (vi a1), (.clo 63 [] [(.iptr (E_Reorder a2) 0)])] (.tup [(vi r.1), (vb r.2)]) := by
 refine SndP.of_walkW hC (Clean.tup (clean_cons (Clean.v _) (clean_cons (Clean.v _) clean_nil))) (clean_cons (S_HeldSeq_clean _) (clean_cons (Clean.v _) (clean_cons (Clean.clo clean_nil (clean_cons (Clean.iptr (E_Reorder_clean _)) clean_nil)) clean_nil))) (show K.P.funcs[62]? = some Try.f62 from Try.func62) rfl rfl (by decide +kernel) (Nat.le_of_ble_eq_true rfl) ?_
 unfold slices_BinarySearchFunc_api_HeldSeq_api_HeldSeq_int at h0
 refine awp_nr [0,1,2] (fun _ => rfl) fun tz => ?_
 refine awp_regW fun KK hKK => ?_
 refine xw_id ?_
 try simp only [go_sem, Nat.reduceEqDiff, reduceIte, Nat.reduceAdd, Nat.reduceMul, Nat.reduceSub, Nat.reduceLT, Nat.reduceLeDiff]
 refine hKK _ _ (Wk.refl _ _ _) ?_; clear hKK KK
 refine awp_nr [0,1,2] (fun _ => rfl) fun tz => ?_
 refine awp_regW fun KK hKK => ?_
 refine xw_id ?_
 try simp only [go_sem, Nat.reduceEqDiff, reduceIte, Nat.reduceAdd, Nat.reduceMul, Nat.reduceSub, Nat.reduceLT, Nat.reduceLeDiff, Int.reduceToNat, Int.reduceBEq, Int.reduceBNe, Int.reduceLT, Int.reduceLE, Int.reduceAdd, Int.reduceSub, Int.reduceMul, Int.reduceNeg, Int.reduceEq, Int.reduceNe]
 refine hKK _ _ (Wk.refl _ _ _) ?_; clear hKK KK
 refine awp_nr [0,1,2,8] (fun _ => rfl) fun tz => ?_
 refine awp_regW fun KK hKK => ?_
 refine xw_id ?_
 try simp only [go_sem, Nat.reduceEqDiff, reduceIte, Nat.reduceAdd, Nat.reduceMul, Nat.reduceSub, Nat.reduceLT, Nat.reduceLeDiff]
 refine hKK _ _ (Wk.refl _ _ _) ?_; clear hKK KK
 obtain ⟨d36, hi1, h0⟩ := bnd h0
 refine awp_cut (fun z => d36 = z) (fun d36 : Int => slices_BinarySearchFunc_api_HeldSeq_api_HeldSeq_int_S0 a0 a1 a2 d36) ?_ ?_
 ·
  refine awp_block1 ?_
  refine awp_loopS (fun n (d37 : (Int × Int)) => slices_BinarySearchFunc_api_HeldSeq_api_HeldSeq_int_L2 a0 a1 a2 n d37 = some d36) (fun d37 : (Int × Int) => slices_BinarySearchFunc_api_HeldSeq_api_HeldSeq_int_S1 a0 a1 a2 d37) big (0, (a0.length : Int)) (Wk.canonD [] [] [] rfl trivial rfl tmO0 (tmAllU 10 (tmAllU 9 (tmAllU 8 (tmAllU 2 (tmAllU 1 (tmAllU 0 tmAll0 (Tm.clean (Clean.imm (c_HeldSeq _)))) (Tm.v _)) (Tm.clo TmL.nil (TmL.cons (Tm.clean (Clean.iptr (E_Reorder_clean _))) TmL.nil))) (Tm.v _)) (Tm.v _)) (Tm.v _))) hi1 ?_
  clear hi1
  rintro n d37 hl3
  rcases n with _ | n2
  ·
   (rw [slices_BinarySearchFunc_api_HeldSeq_api_HeldSeq_int_L2] at hl3; cases hl3)
  ·
   rw [slices_BinarySearchFunc_api_HeldSeq_api_HeldSeq_int_L2] at hl3
   unfold slices_BinarySearchFunc_api_HeldSeq_api_HeldSeq_int_S1
   refine awp_assoc ?_
   refine awp_nr [0,1,2,8,9,10] (fun _ => rfl) fun tz => ?_
   refine awp_regW fun KK hKK => ?_
   refine xw_id ?_
   try simp only [go_sem, Nat.reduceEqDiff, reduceIte, Nat.reduceAdd, Nat.reduceMul, Nat.reduceSub, Nat.reduceLT, Nat.reduceLeDiff]
   refine hKK _ _ (Wk.refl _ _ _) ?_; clear hKK KK
   refine awp_cond (b := (decide (d37.1 < d37.2))) rfl (fun h4 => ?_) (fun h4 => ?_)
   ·
    have hl3 := cT hl3 h4
    refine awp_skip ?_
    refine awp_block1 ?_
    refine awp_nr [0,1,2,8,9,10] (fun _ => rfl) fun tz => ?_
    refine awp_regW fun KK hKK => ?_
    refine xw_id ?_
    try simp only [go_sem, Nat.reduceEqDiff, reduceIte, Nat.reduceAdd, Nat.reduceMul, Nat.reduceSub, Nat.reduceLT, Nat.reduceLeDiff, Int.reduceToNat, Int.reduceBEq, Int.reduceBNe, Int.reduceLT, Int.reduceLE, Int.reduceAdd, Int.reduceSub, Int.reduceMul, Int.reduceNeg, Int.reduceEq, Int.reduceNe]
    refine hKK _ _ (Wk.refl _ _ _) ?_; clear hKK KK
    refine awp_nr [0,1,2,8,9,10,11] (fun _ => rfl) fun tz => ?_
    refine awp_regW fun KK hKK => ?_
    refine xw_id ?_
    obtain ⟨x38, bx38, hl3⟩ := bnd hl3
    obtain ⟨fx38_0, fx38_1, fx38_2, fx38_3⟩ := idx_some bx38
    obtain ⟨x39, bx39, hl3⟩ := bnd hl3
    try simp only [go_sem, Nat.reduceEqDiff, reduceIte, Nat.reduceAdd, Nat.reduceMul, Nat.reduceSub, Nat.reduceLT, Nat.reduceLeDiff, fx38_0, fx38_1, fx38_2]
    refine xcall_p (reorder_place_1_p x38 a1 a2 bx39) ?_; try dsimp only
    try refine xw_id ?_
    try simp only [go_sem, Nat.reduceEqDiff, reduceIte, Nat.reduceAdd, Nat.reduceMul, Nat.reduceSub, Nat.reduceLT, Nat.reduceLeDiff, fx38_0, fx38_1, fx38_2]
    refine hKK _ _ (Wk.refl _ _ _) ?_; clear hKK KK
    refine awp_cond1 (b := (decide (x39 < 0))) rfl (fun h5 => ?_) (fun h5 => ?_)
    ·
     have hl3 := cT hl3 h5
     refine awp_nr1 [0,1,2,8,10,11] (fun _ => rfl) fun tz => ?_
     refine awp_reg1 fun KK hKK => ?_
     refine xw_id ?_
     try simp only [go_sem, Nat.reduceEqDiff, reduceIte, Nat.reduceAdd, Nat.reduceMul, Nat.reduceSub, Nat.reduceLT, Nat.reduceLeDiff, fx38_0, fx38_1, fx38_2]
     refine hKK _ ?_; clear hKK KK
     refine bq_n ?_
     refine lq_n ?_
     exact ⟨n2, (IntKind.wrap .i64 ((IntKind.wrap .i64 (((IntKind.wrap .u64 (IntKind.wrap .i64 (d37.1 + d37.2)))).fdiv (2 ^ (min 1 64)))) + 1), d37.2), rfl, hl3, (Wk.canonD [] [] [] rfl trivial rfl tmO0 (tmAllU 10 (tmAllU 9 (tmAllU 8 (tmAllU 2 (tmAllU 1 (tmAllU 0 tmAll0 (Tm.clean (Clean.imm (c_HeldSeq _)))) (Tm.v _)) (Tm.clo TmL.nil (TmL.cons (Tm.clean (Clean.iptr (E_Reorder_clean _))) TmL.nil))) (Tm.v _)) (Tm.v _)) (Tm.v _)))⟩
    ·
     have hl3 := cF hl3 h5
     refine awp_nr1 [0,1,2,8,9,11] (fun _ => rfl) fun tz => ?_
     refine awp_reg1 fun KK hKK => ?_
     refine xw_id ?_
     try simp only [go_sem, Nat.reduceEqDiff, reduceIte, Nat.reduceAdd, Nat.reduceMul, Nat.reduceSub, Nat.reduceLT, Nat.reduceLeDiff, fx38_0, fx38_1, fx38_2]
     refine hKK _ ?_; clear hKK KK
     refine bq_n ?_
     refine lq_n ?_
     exact ⟨n2, (d37.1, IntKind.wrap .i64 (((IntKind.wrap .u64 (IntKind.wrap .i64 (d37.1 + d37.2)))).fdiv (2 ^ (min 1 64)))), rfl, hl3, (Wk.canonD [] [] [] rfl trivial rfl tmO0 (tmAllU 10 (tmAllU 9 (tmAllU 8 (tmAllU 2 (tmAllU 1 (tmAllU 0 tmAll0 (Tm.clean (Clean.imm (c_HeldSeq _)))) (Tm.v _)) (Tm.clo TmL.nil (TmL.cons (Tm.clean (Clean.iptr (E_Reorder_clean _))) TmL.nil))) (Tm.v _)) (Tm.v _)) (Tm.v _)))⟩
   ·
    have hl3 := cF hl3 h4
    refine awp_exit ?_
    refine lq_e ?_
    refine bq_e ?_
    refine sq_n ?_
    obtain rfl := someInj hl3
    exact ⟨_, rfl, (Wk.canonD [] [] [] rfl trivial rfl tmO0 (tmAllU 9 (tmAllU 8 (tmAllU 2 (tmAllU 1 (tmAllU 0 tmAll0 (Tm.clean (Clean.imm (c_HeldSeq _)))) (Tm.v _)) (Tm.clo TmL.nil (TmL.cons (Tm.clean (Clean.iptr (E_Reorder_clean _))) TmL.nil))) (Tm.v _)) (Tm.v _)))⟩
 ·
  rintro _ rfl
  clear hi1
  unfold slices_BinarySearchFunc_api_HeldSeq_api_HeldSeq_int_S0
  refine awp_nr [0,1,2,8,9] (fun _ => rfl) fun tz => ?_
  refine awp_regW fun KK hKK => ?_
  refine xw_id ?_
  refine xw_stop 5 (by (try simp only [go_sem]); rfl) (by (try simp only [go_sem]); rfl) (by rfl) fun K1 hK1 => ?_
  refine xw_id ?_
  try simp only [go_sem, Nat.reduceEqDiff, reduceIte, Nat.reduceAdd, Nat.reduceMul, Nat.reduceSub, Nat.reduceLT, Nat.reduceLeDiff]
  refine hK1 _ ?_; clear hK1 K1
  obtain ⟨x42, hvh6, h0⟩ := bnd h0
  refine xw_cut 9 [(35, (vi d36)), (48, (vb x42))] (by (try simp only [go_sem]); rfl) (by (try simp only [go_sem]); rfl) (by rfl) (fun K1 hK1 => ?_) fun tz => ?_
  ·
   refine xw_id ?_
   rcases Bool.eq_false_or_eq_true (decide (d36 < (a0.length : Int))) with h6 | h6
   ·
    have hvh6 := cT hvh6 h6
    obtain ⟨x40, bx40, hvh6⟩ := bnd hvh6
    obtain ⟨fx40_0, fx40_1, fx40_2, fx40_3⟩ := idx_some bx40
    obtain ⟨x41, bx41, hvh6⟩ := bnd hvh6
    try simp only [go_sem, Nat.reduceEqDiff, reduceIte, Nat.reduceAdd, Nat.reduceMul, Nat.reduceSub, Nat.reduceLT, Nat.reduceLeDiff, h6, fx40_0, fx40_1, fx40_2]
    refine xcall_p (reorder_place_1_p x40 a1 a2 bx41) ?_; try dsimp only
    try refine xw_id ?_
    try simp only [go_sem, Nat.reduceEqDiff, reduceIte, Nat.reduceAdd, Nat.reduceMul, Nat.reduceSub, Nat.reduceLT, Nat.reduceLeDiff, h6, fx40_0, fx40_1, fx40_2]
    obtain rfl := someInj hvh6
    exact hK1 _ ⟨rfl, rfl, (by first | rfl | (rw [h6]; rfl) | (simp only [h6, Bool.true_and, Bool.false_and, Bool.true_or, Bool.false_or, cond_true, cond_false]; done)), trivial⟩
   ·
    have hvh6 := cF hvh6 h6
    try simp only [go_sem, Nat.reduceEqDiff, reduceIte, Nat.reduceAdd, Nat.reduceMul, Nat.reduceSub, Nat.reduceLT, Nat.reduceLeDiff, h6]
    obtain rfl := someInj hvh6
    exact hK1 _ ⟨rfl, rfl, (by first | rfl | (rw [h6]; rfl) | (simp only [h6, Bool.true_and, Bool.false_and, Bool.true_or, Bool.false_or, cond_true, cond_false]; done)), trivial⟩
  ·
   refine xw_id ?_
   try simp only [go_sem, Nat.reduceEqDiff, reduceIte, Nat.reduceAdd, Nat.reduceMul, Nat.reduceSub, Nat.reduceLT, Nat.reduceLeDiff]
   refine hKK _ _ (Wk.refl _ _ _) ?_; clear hKK KK
   refine awp_ret1 ?_
   obtain rfl := someInj h0
   refine endW_i ?_
   refine end_ret0 rs62 (rfl) ?_
   try simp only [go_sem, Nat.reduceEqDiff, reduceIte, Nat.reduceAdd, Nat.reduceMul, Nat.reduceSub, Nat.reduceLT, Nat.reduceLeDiff, fz, nilS, packR, List.take_nil, List.take_length, List.length_map, List.length_append, cond_true, cond_false, Nat.ble_eq, ble_self]
   all_goals first | rfl | (simp only [go_sem, Nat.reduceEqDiff, reduceIte, Nat.reduceAdd, Nat.reduceMul, Nat.reduceSub, Nat.reduceLT, Nat.reduceLeDiff, fz, nilS, packR, List.take_nil, List.take_length, List.length_map, List.length_append, cond_true, cond_false, Nat.ble_eq, ble_self, List.map_append] <;> rfl)

end Go.AX.Z.TR

/-! (TRW reorder place) -/

set_option linter.unusedSimpArgs false
set_option linter.unusedVariables false
set_option maxHeartbeats 4000000
set_option maxRecDepth 20000
namespace Go.AX.Z.TR
open Go.AX Go.Proofs
attribute [local irreducible] awp xw xop xcall gsp ob xd xdop xcallD seqQ loopQ blkQ endQ


theorem reorder_place_p (a0 : Reorder) (a1 : Int) {r : (Int × Bool)} (h0 : reorder_place a0 a1 = some r) : SndP K 51 [(.agg (E_Reorder a0)), (vi a1)] (.tup [(vi r.1), (vb r.2)]) := by
 refine SndP.of_walkW hC (Clean.tup (clean_cons (Clean.v _) (clean_cons (Clean.v _) clean_nil))) (clean_cons (Clean.agg (E_Reorder_clean _)) (clean_cons (Clean.v _) clean_nil)) (show K.P.funcs[51]? = some Try.f51 from Try.func51) rfl rfl (by decide +kernel) (Nat.le_of_ble_eq_true rfl) ?_
 unfold reorder_place at h0
 refine awp_nr [0,1] (fun _ => rfl) fun tz => ?_
 refine awp_regW fun KK hKK => ?_
 refine xw_id ?_
 try simp only [go_sem, Nat.reduceEqDiff, reduceIte, Nat.reduceAdd, Nat.reduceMul, Nat.reduceSub, Nat.reduceLT, Nat.reduceLeDiff]
 refine hKK _ _ (Wk.refl _ _ _) ?_; clear hKK KK
 refine awp_nr [1,2] (fun _ => rfl) fun tz => ?_
 refine awp_regW fun KK hKK => ?_
 refine xw_id ?_
 obtain ⟨x35, bx35, h0⟩ := bnd h0
 try simp only [go_sem, Nat.reduceEqDiff, reduceIte, Nat.reduceAdd, Nat.reduceMul, Nat.reduceSub, Nat.reduceLT, Nat.reduceLeDiff]
 refine xcall_p (window_Dist_p a0.Start a1 bx35) ?_; try dsimp only
 try refine xw_id ?_
 obtain ⟨x36, bx36, h0⟩ := bnd h0
 try simp only [go_sem, Nat.reduceEqDiff, reduceIte, Nat.reduceAdd, Nat.reduceMul, Nat.reduceSub, Nat.reduceLT, Nat.reduceLeDiff]
 refine xcall_L (by first | (simp only [go_sem, fz, Nat.reduceEqDiff, reduceIte, Nat.reduceAdd, Nat.reduceMul, Nat.reduceSub, Nat.reduceLT, Nat.reduceLeDiff]; done) | (simp only [go_sem, fz, Nat.reduceEqDiff, reduceIte, Nat.reduceAdd, Nat.reduceMul, Nat.reduceSub, Nat.reduceLT, Nat.reduceLeDiff]; rfl) | (simp only [go_sem, fz, List.length_set, ble_self, take_set, cond_true, cond_false, Nat.reduceEqDiff, reduceIte, Nat.reduceAdd, Nat.reduceMul, Nat.reduceSub, Nat.reduceLT, Nat.reduceLeDiff]; done) | (simp only [go_sem, fz, List.length_set, ble_self, take_set, cond_true, cond_false, Nat.reduceEqDiff, reduceIte, Nat.reduceAdd, Nat.reduceMul, Nat.reduceSub, Nat.reduceLT, Nat.reduceLeDiff]; rfl)) (slices_BinarySearchFunc_api_HeldSeq_api_HeldSeq_int_p a0.Held x35 a0 bx36) (bare_ok (by rfl)) ?_; try dsimp only
 try refine xw_id ?_
 try simp only [go_sem, Nat.reduceEqDiff, reduceIte, Nat.reduceAdd, Nat.reduceMul, Nat.reduceSub, Nat.reduceLT, Nat.reduceLeDiff]
 refine hKK _ _ (Wk.refl _ _ _) ?_; clear hKK KK
 refine awp_ret1 ?_
 obtain rfl := someInj h0
 refine endW_i ?_
 refine end_ret0 rs51 (rfl) ?_
 try simp only [go_sem, Nat.reduceEqDiff, reduceIte, Nat.reduceAdd, Nat.reduceMul, Nat.reduceSub, Nat.reduceLT, Nat.reduceLeDiff, fz, nilS, packR, List.take_nil, List.take_length, List.length_map, List.length_append, cond_true, cond_false, Nat.ble_eq, ble_self]
 all_goals first | rfl | (simp only [go_sem, Nat.reduceEqDiff, reduceIte, Nat.reduceAdd, Nat.reduceMul, Nat.reduceSub, Nat.reduceLT, Nat.reduceLeDiff, fz, nilS, packR, List.take_nil, List.take_length, List.length_map, List.length_append, cond_true, cond_false, Nat.ble_eq, ble_self, List.map_append] <;> rfl)

end Go.AX.Z.TR

/-! (TRW window Add) -/

set_option linter.unusedSimpArgs false
set_option linter.unusedVariables false
set_option maxHeartbeats 4000000
set_option maxRecDepth 20000
namespace Go.AX.Z.TR
open Go.AX Go.Proofs
attribute [local irreducible] awp xw xop xcall gsp ob xd xdop xcallD seqQ loopQ blkQ endQ


theorem window_Add_p (a0 : Int) (a1 : Int) {r : Int} (h0 : window_Add a0 a1 = some r) : SndP K 32 [(vi a0), (vi a1)] (vi r) := by
 refine SndP.of_walkW hC (Clean.v _) (clean_cons (Clean.v _) (clean_cons (Clean.v _) clean_nil)) (show K.P.funcs[32]? = some Try.f32 from Try.func32) rfl rfl (by decide +kernel) (Nat.le_of_ble_eq_true rfl) ?_
 unfold window_Add at h0
 refine awp_nr [0,1] (fun _ => rfl) fun tz => ?_
 refine awp_regW fun KK hKK => ?_
 refine xw_id ?_
 try simp only [go_sem, ↓iop_and, ↓iop_or, ↓iop_xor, ↓iop_andn, Nat.reduceEqDiff, reduceIte, Nat.reduceAdd, Nat.reduceMul, Nat.reduceSub, Nat.reduceLT, Nat.reduceLeDiff]
 refine hKK _ _ (Wk.refl _ _ _) ?_; clear hKK KK
 refine awp_nr [0,1] (fun _ => rfl) fun tz => ?_
 refine awp_regW fun KK hKK => ?_
 refine xw_id ?_
 try simp only [go_sem, ↓iop_and, ↓iop_or, ↓iop_xor, ↓iop_andn, Nat.reduceEqDiff, reduceIte, Nat.reduceAdd, Nat.reduceMul, Nat.reduceSub, Nat.reduceLT, Nat.reduceLeDiff]
 refine hKK _ _ (Wk.refl _ _ _) ?_; clear hKK KK
 refine awp_ret1 ?_
 obtain rfl := someInj h0
 refine endW_i ?_
 refine end_ret0 rs32 (rfl) ?_
 try simp only [go_sem, ↓iop_and, ↓iop_or, ↓iop_xor, ↓iop_andn, Nat.reduceEqDiff, reduceIte, Nat.reduceAdd, Nat.reduceMul, Nat.reduceSub, Nat.reduceLT, Nat.reduceLeDiff, fz, nilS, packR, List.take_nil, List.take_length, List.length_map, List.length_append, cond_true, cond_false, Nat.ble_eq, ble_self]
 all_goals first | rfl | (simp only [go_sem, ↓iop_and, ↓iop_or, ↓iop_xor, ↓iop_andn, Nat.reduceEqDiff, reduceIte, Nat.reduceAdd, Nat.reduceMul, Nat.reduceSub, Nat.reduceLT, Nat.reduceLeDiff, fz, nilS, packR, List.take_nil, List.take_length, List.length_map, List.length_append, cond_true, cond_false, Nat.ble_eq, ble_self, List.map_append] <;> rfl)

end Go.AX.Z.TR

/-! (TRW reorder move) -/

set_option linter.unusedSimpArgs false
set_option linter.unusedVariables false
set_option maxHeartbeats 4000000
set_option maxRecDepth 20000
namespace Go.AX.Z.TR
open Go.AX Go.Proofs
attribute [local irreducible] awp xw xop xcall gsp ob xd xdop xcallD seqQ loopQ blkQ endQ

def reorder_move_S0 (a0 : Reorder) (a1 : Int) (x35 : (Int × Bool)) (d37 : (List Frame)) : AS :=
 { objs := (upd (upd (upd (upd (fun _ => .dead) 0 (.live (List.flatMap E_HeldSeq a0.Held))) 1 (.live (e_Reorder a0 (.ref 0 0 a0.Held.length 42)))) 2 (.live (List.flatMap E_Frame d37))) 3 (.live (e_Reorder Reorder.z vnil))), next := 4, tmps := (upd (upd (upd (upd (upd (fun _ => .unk) 1 (vi a1)) 2 (.ptr 1 0)) 4 (.ref 2 0 ((d37).length) 41)) 5 (.ptr 3 0)) 6 (vi x35.1)) }

def reorder_move_S1 (a0 : Reorder) (a1 : Int) (x35 : (Int × Bool)) (d38 : (List Frame × Int)) : AS :=
 { objs := (upd (upd (upd (upd (fun _ => .dead) 0 (.live (List.flatMap E_HeldSeq a0.Held))) 1 (.live (e_Reorder a0 (.ref 0 0 a0.Held.length 42)))) 2 (.live (List.flatMap E_Frame d38.1))) 3 (.live (e_Reorder Reorder.z vnil))), next := 4, tmps := (upd (upd (upd (upd (upd (upd (upd (upd (fun _ => .unk) 1 (vi a1)) 2 (.ptr 1 0)) 4 (.ref 2 0 ((d38.1).length) 41)) 5 (.ptr 3 0)) 6 (vi x35.1)) 19 (.ref 0 0 ((x35.1).toNat) 42)) 20 (vi (((x35.1).toNat : Nat) : Int))) 21 (vi d38.2)) }

def reorder_move_S3 (d43 : (Reorder × List HeldSeq × List Frame)) : AS :=
 { objs := (upd (upd (upd (upd (fun _ => .dead) 1 (.live (e_Reorder d43.1 (.ref 2 0 ((d43.2.1).length) 42)))) 2 (.live (List.flatMap E_HeldSeq d43.2.1))) 3 (.live (List.flatMap E_Frame d43.2.2))) 4 (.live (e_Reorder Reorder.z vnil))), next := 5, tmps := (upd (upd (upd (fun _ => .unk) 2 (.ptr 1 0)) 4 (.ref 3 0 ((d43.2.2).length) 41)) 5 (.ptr 4 0)) }

def reorder_move_S4 (d44 : (Reorder × List HeldSeq × List Frame)) : AS :=
 { objs := (upd (upd (upd (upd (fun _ => .dead) 1 (.live (e_Reorder d44.1 (.ref 2 0 ((d44.2.1).length) 42)))) 2 (.live (List.flatMap E_HeldSeq d44.2.1))) 3 (.live (List.flatMap E_Frame d44.2.2))) 4 (.live (e_Reorder Reorder.z vnil))), next := 5, tmps := (upd (upd (upd (fun _ => .unk) 2 (.ptr 1 0)) 4 (.ref 3 0 ((d44.2.2).length) 41)) 5 (.ptr 4 0)) }

theorem reorder_move_io (a0 : Reorder) (a1 : Int) {r : (List Frame × Reorder × List HeldSeq)} (h0 : reorder_move a0 a1 = some r) : SndIO K 44 1 (fun q => [(.agg (e_Reorder a0 (.ref (q 0) 0 a0.Held.length 42))), (vi a1)]) [(fun q => (List.flatMap E_HeldSeq a0.Held))] (fun q => (.tup [(.ref (q 1) 0 ((r.1).length) 41), (.agg (e_Reorder r.2.1 (.ref (q 2) 0 ((r.2.2).length) 42)))])) [none, (some (fun q => (List.flatMap E_Frame r.1))), (some (fun q => (List.flatMap E_HeldSeq r.2.2)))] := by
 refine SndIO.of_walkW hC (RenML.cons (RenM.agg (e_Reorder_ren _ (RenM.ref 0 0 _ _))) (RenML.cons (RenM.const (Clean.v _)) RenML.nil)) (tpl_cons (RenML.const (c_HeldSeq _)) tpl_nil) (otpl_none (otpl_some (RenML.const (c_Frame _)) (otpl_some (RenML.const (c_HeldSeq _)) otpl_nil))) (RenM.tup (RenML.cons (RenM.ref 1 0 _ _) (RenML.cons (RenM.agg (e_Reorder_ren _ (RenM.ref 2 0 _ _))) RenML.nil))) rfl (Nat.le_of_ble_eq_true rfl) (show K.P.funcs[44]? = some Try.f44 from Try.func44) rfl rfl (by decide +kernel) (Nat.le_of_ble_eq_true rfl) ?_
 unfold reorder_move at h0
 refine awp_nr [0,1] (fun _ => rfl) fun tz => ?_
 refine awp_regW fun KK hKK => ?_
 refine xw_id ?_
 try simp only [go_sem, Nat.reduceEqDiff, reduceIte, Nat.reduceAdd, Nat.reduceMul, Nat.reduceSub, Nat.reduceLT, Nat.reduceLeDiff]
 refine hKK _ _ (Wk.refl _ _ _) ?_; clear hKK KK
 refine awp_nr [1,2,4,5] (fun _ => rfl) fun tz => ?_
 refine awp_regW fun KK hKK => ?_
 refine xw_id ?_
 obtain ⟨x35, bx35, h0⟩ := bnd h0
 try simp only [go_sem, Nat.reduceEqDiff, reduceIte, Nat.reduceAdd, Nat.reduceMul, Nat.reduceSub, Nat.reduceLT, Nat.reduceLeDiff]
 refine xcall_L (by first | (simp only [go_sem, fz, Nat.reduceEqDiff, reduceIte, Nat.reduceAdd, Nat.reduceMul, Nat.reduceSub, Nat.reduceLT, Nat.reduceLeDiff]; done) | (simp only [go_sem, fz, Nat.reduceEqDiff, reduceIte, Nat.reduceAdd, Nat.reduceMul, Nat.reduceSub, Nat.reduceLT, Nat.reduceLeDiff]; rfl) | (simp only [go_sem, fz, List.length_set, ble_self, take_set, cond_true, cond_false, Nat.reduceEqDiff, reduceIte, Nat.reduceAdd, Nat.reduceMul, Nat.reduceSub, Nat.reduceLT, Nat.reduceLeDiff]; done) | (simp only [go_sem, fz, List.length_set, ble_self, take_set, cond_true, cond_false, Nat.reduceEqDiff, reduceIte, Nat.reduceAdd, Nat.reduceMul, Nat.reduceSub, Nat.reduceLT, Nat.reduceLeDiff]; rfl)) (reorder_place_p a0 a1 bx35) (bare_ok (by rfl)) ?_; try dsimp only
 try refine xw_id ?_
 try simp only [go_sem, Nat.reduceEqDiff, reduceIte, Nat.reduceAdd, Nat.reduceMul, Nat.reduceSub, Nat.reduceLT, Nat.reduceLeDiff]
 refine hKK _ _ (Wk.refl _ _ _) ?_; clear hKK KK
 refine awp_assoc ?_
 refine awp_nr [1,2,4,5,6] (fun _ => rfl) fun tz => ?_
 refine awp_regW fun KK hKK => ?_
 refine xw_id ?_
 obtain ⟨x36, bx36, h0⟩ := bnd h0
 have bx36 := chk_some bx36
 simp only [Bool.and_eq_true, decide_eq_true_eq] at bx36
 obtain ⟨gx36_0, gx36_1⟩ := bx36
 try simp only [go_sem, Nat.reduceEqDiff, reduceIte, Nat.reduceAdd, Nat.reduceMul, Nat.reduceSub, Nat.reduceLT, Nat.reduceLeDiff, Int.reduceToNat, Int.reduceBEq, Int.reduceBNe, Int.reduceLT, Int.reduceLE, Int.reduceAdd, Int.reduceSub, Int.reduceMul, Int.reduceNeg, Int.reduceEq, Int.reduceNe, gx36_0, gx36_1, Int.sub_zero]
 refine hKK _ _ (Wk.refl _ _ _) ?_; clear hKK KK
 obtain ⟨d37, hi1, h0⟩ := bnd h0
 refine awp_cut (fun z => d37 = z) (fun d37 : (List Frame) => reorder_move_S0 a0 a1 x35 d37) ?_ ?_
 ·
  refine awp_block1 ?_
  refine awp_loopS (fun n (d38 : (List Frame × Int)) => reorder_move_L2 x35 a0 n d38 = some d37) (fun d38 : (List Frame × Int) => reorder_move_S1 a0 a1 x35 d38) big ([], 0) (by refine Wk.canonD [] [] [some 0, some 1, none, some 3] rfl trivial rfl (tmOU 3 (tmON 2 (tmOU 1 (tmOU 0 tmO0 rfl List.not_mem_nil (by simp only [upd_get, Nat.reduceEqDiff, reduceIte, Nat.reduceAdd, Nat.reduceMul, Nat.reduceSub, Nat.reduceLT, Nat.reduceLeDiff, if_true, if_false] <;> rfl) (TmL.of_eq (by first | rfl | (simp only [List.flatMap_append, List.flatMap_cons, List.flatMap_nil, List.map_append, List.map_cons, List.map_nil, List.append_nil, List.nil_append]; done) | (simp only [List.flatMap_append, List.flatMap_cons, List.flatMap_nil, List.map_append, List.map_cons, List.map_nil, List.append_nil, List.nil_append]; rfl)) (c_HeldSeq _))) rfl List.not_mem_nil (by simp only [upd_get, Nat.reduceEqDiff, reduceIte, Nat.reduceAdd, Nat.reduceMul, Nat.reduceSub, Nat.reduceLT, Nat.reduceLeDiff, if_true, if_false] <;> rfl) (e_Reorder_tmx (by rfl) (Tm.refL rfl ?_))) rfl) rfl List.not_mem_nil (by simp only [upd_get, Nat.reduceEqDiff, reduceIte, Nat.reduceAdd, Nat.reduceMul, Nat.reduceSub, Nat.reduceLT, Nat.reduceLeDiff, if_true, if_false] <;> rfl) (e_Reorder_tmx (by rfl) (Tm.v _))) (tmAllU 21 (tmAllU 20 (tmAllU 19 (tmAllU 6 (tmAllU 5 (tmAllU 4 (tmAllU 2 (tmAllU 1 tmAll0 (Tm.v _)) (Tm.ptr rfl)) (Tm.thaw _ _ _)) (Tm.ptr rfl)) (Tm.v _)) (Tm.refL rfl ?_)) (Tm.v _)) (Tm.v _)); all_goals (first | rfl | (simp only [List.length_take]; omega) | (simp only [List.length_append, List.length_cons, List.length_nil, List.length_modify, List.length_set, Nat.zero_add]; done) | (simp only [List.length_append, List.length_take, List.length_drop, List.length_cons, List.length_nil, List.length_modify, List.length_set, Nat.zero_add]; omega) | (simp only [List.length_append, List.length_take, List.length_drop, List.length_cons, List.length_nil, List.length_modify, List.length_set, Nat.zero_add]; done) | omega)) hi1 ?_
  clear hi1
  rintro n d38 hl3
  rcases n with _ | n2
  ·
   (rw [reorder_move_L2] at hl3; cases hl3)
  ·
   rw [reorder_move_L2] at hl3
   unfold reorder_move_S1
   refine awp_nr [1,2,4,5,6,19,20,21] (fun _ => rfl) fun tz => ?_
   refine awp_regW fun KK hKK => ?_
   refine xw_id ?_
   try simp only [go_sem, Nat.reduceEqDiff, reduceIte, Nat.reduceAdd, Nat.reduceMul, Nat.reduceSub, Nat.reduceLT, Nat.reduceLeDiff]
   refine hKK _ _ (Wk.refl _ _ _) ?_; clear hKK KK
   refine awp_cond (b := (decide (d38.2 < (((x35.1).toNat : Nat) : Int)))) rfl (fun h4 => ?_) (fun h4 => ?_)
   ·
    have hl3 := cT hl3 h4
    refine awp_skip ?_
    refine awp_blockW ?_
    refine awp_nr [1,2,4,5,6,19,20,21] (fun _ => rfl) fun tz => ?_
    refine awp_regW fun KK hKK => ?_
    refine xw_id ?_
    obtain ⟨x39, bx39, hl3⟩ := bnd hl3
    have bx39 := chk_some bx39
    simp only [Bool.and_eq_true, decide_eq_true_eq] at bx39
    have gx39_0 := bx39
    obtain ⟨x40, bx40, hl3⟩ := bnd hl3
    obtain ⟨fx40_0, fx40_1, fx40_2, fx40_3⟩ := idx_some bx40
    have fx40_5 : ((d38.2 : Int) < (((x35.1).toNat : Nat) : Int)) = True := by first | exact fx40_1 | (simp [List.length_modify, List.length_set]; omega)
    try simp only [go_sem, Nat.reduceEqDiff, reduceIte, Nat.reduceAdd, Nat.reduceMul, Nat.reduceSub, Nat.reduceLT, Nat.reduceLeDiff, gx39_0, fx40_0, fx40_1, fx40_2, fx40_5]
    refine hKK _ _ (Wk.refl _ _ _) ?_; clear hKK KK
    refine awp_nr1 [1,2,4,5,6,9,19,20,21] (fun _ => rfl) fun tz => ?_
    refine awp_reg1 fun KK hKK => ?_
    refine xw_id ?_
    obtain ⟨x41, bx41, hl3⟩ := bnd hl3
    have bx41 := chk_some bx41
    simp only [Bool.and_eq_true, decide_eq_true_eq] at bx41
    have gx41_0 := bx41
    try simp only [go_sem, Nat.reduceEqDiff, reduceIte, Nat.reduceAdd, Nat.reduceMul, Nat.reduceSub, Nat.reduceLT, Nat.reduceLeDiff, Int.reduceToNat, Int.reduceBEq, Int.reduceBNe, Int.reduceLT, Int.reduceLE, Int.reduceAdd, Int.reduceSub, Int.reduceMul, Int.reduceNeg, Int.reduceEq, Int.reduceNe, fx40_0, fx40_1, fx40_2, fx40_5, gx41_0]
    refine hKK _ ?_; clear hKK KK
    refine bq_n ?_
    refine seqW_i ?_
    refine awp_nr1 [1,2,4,5,6,19,20,21] (fun _ => rfl) fun tz => ?_
    refine awp_reg1 fun KK hKK => ?_
    refine xw_id ?_
    try simp only [go_sem, Nat.reduceEqDiff, reduceIte, Nat.reduceAdd, Nat.reduceMul, Nat.reduceSub, Nat.reduceLT, Nat.reduceLeDiff, fx40_0, fx40_1, fx40_2, fx40_5]
    refine hKK _ ?_; clear hKK KK
    refine lq_n ?_
    exact ⟨n2, ((d38.1 ++ [x40.Frame]), IntKind.wrap .i64 (d38.2 + 1)), rfl, hl3, (by refine Wk.canonD [] [] [some 0, some 1, some 13, some 3] rfl trivial rfl (tmOU 3 (tmOU 2 (tmOU 1 (tmOU 0 tmO0 rfl List.not_mem_nil (by simp only [upd_get, Nat.reduceEqDiff, reduceIte, Nat.reduceAdd, Nat.reduceMul, Nat.reduceSub, Nat.reduceLT, Nat.reduceLeDiff, if_true, if_false] <;> rfl) (TmL.of_eq (by first | rfl | (simp only [List.flatMap_append, List.flatMap_cons, List.flatMap_nil, List.map_append, List.map_cons, List.map_nil, List.append_nil, List.nil_append]; done) | (simp only [List.flatMap_append, List.flatMap_cons, List.flatMap_nil, List.map_append, List.map_cons, List.map_nil, List.append_nil, List.nil_append]; rfl)) (c_HeldSeq _))) rfl List.not_mem_nil (by simp only [upd_get, Nat.reduceEqDiff, reduceIte, Nat.reduceAdd, Nat.reduceMul, Nat.reduceSub, Nat.reduceLT, Nat.reduceLeDiff, if_true, if_false] <;> rfl) (e_Reorder_tmx (by rfl) (Tm.refL rfl ?_))) rfl List.not_mem_nil (by simp only [upd_get, Nat.reduceEqDiff, reduceIte, Nat.reduceAdd, Nat.reduceMul, Nat.reduceSub, Nat.reduceLT, Nat.reduceLeDiff, if_true, if_false] <;> rfl) (TmL.of_eq (by first | rfl | (simp only [List.flatMap_append, List.flatMap_cons, List.flatMap_nil, List.map_append, List.map_cons, List.map_nil, List.append_nil, List.nil_append]; done) | (simp only [List.flatMap_append, List.flatMap_cons, List.flatMap_nil, List.map_append, List.map_cons, List.map_nil, List.append_nil, List.nil_append]; rfl)) (c_Frame _))) rfl List.not_mem_nil (by simp only [upd_get, Nat.reduceEqDiff, reduceIte, Nat.reduceAdd, Nat.reduceMul, Nat.reduceSub, Nat.reduceLT, Nat.reduceLeDiff, if_true, if_false] <;> rfl) (e_Reorder_tmx (by rfl) (Tm.v _))) (tmAllU 21 (tmAllU 20 (tmAllU 19 (tmAllU 6 (tmAllU 5 (tmAllU 4 (tmAllU 2 (tmAllU 1 tmAll0 (Tm.v _)) (Tm.ptr rfl)) (Tm.refL rfl ?_)) (Tm.ptr rfl)) (Tm.v _)) (Tm.refL rfl ?_)) (Tm.v _)) (Tm.v _)); all_goals (first | rfl | (simp only [List.length_take]; omega) | (simp only [List.length_append, List.length_cons, List.length_nil, List.length_modify, List.length_set, Nat.zero_add]; done) | (simp only [List.length_append, List.length_take, List.length_drop, List.length_cons, List.length_nil, List.length_modify, List.length_set, Nat.zero_add]; omega) | (simp only [List.length_append, List.length_take, List.length_drop, List.length_cons, List.length_nil, List.length_modify, List.length_set, Nat.zero_add]; done) | omega))⟩
   ·
    have hl3 := cF hl3 h4
    refine awp_exit ?_
    refine lq_e ?_
    refine bq_e ?_
    refine sq_n ?_
    obtain rfl := someInj hl3
    exact ⟨_, rfl, (by refine Wk.canonD [] [] [some 0, some 1, some 2, some 3] rfl trivial rfl (tmOU 3 (tmOU 2 (tmOU 1 (tmOU 0 tmO0 rfl List.not_mem_nil (by simp only [upd_get, Nat.reduceEqDiff, reduceIte, Nat.reduceAdd, Nat.reduceMul, Nat.reduceSub, Nat.reduceLT, Nat.reduceLeDiff, if_true, if_false] <;> rfl) (TmL.of_eq (by first | rfl | (simp only [List.flatMap_append, List.flatMap_cons, List.flatMap_nil, List.map_append, List.map_cons, List.map_nil, List.append_nil, List.nil_append]; done) | (simp only [List.flatMap_append, List.flatMap_cons, List.flatMap_nil, List.map_append, List.map_cons, List.map_nil, List.append_nil, List.nil_append]; rfl)) (c_HeldSeq _))) rfl List.not_mem_nil (by simp only [upd_get, Nat.reduceEqDiff, reduceIte, Nat.reduceAdd, Nat.reduceMul, Nat.reduceSub, Nat.reduceLT, Nat.reduceLeDiff, if_true, if_false] <;> rfl) (e_Reorder_tmx (by rfl) (Tm.refL rfl ?_))) rfl List.not_mem_nil (by simp only [upd_get, Nat.reduceEqDiff, reduceIte, Nat.reduceAdd, Nat.reduceMul, Nat.reduceSub, Nat.reduceLT, Nat.reduceLeDiff, if_true, if_false] <;> rfl) (TmL.of_eq (by first | rfl | (simp only [List.flatMap_append, List.flatMap_cons, List.flatMap_nil, List.map_append, List.map_cons, List.map_nil, List.append_nil, List.nil_append]; done) | (simp only [List.flatMap_append, List.flatMap_cons, List.flatMap_nil, List.map_append, List.map_cons, List.map_nil, List.append_nil, List.nil_append]; rfl)) (c_Frame _))) rfl List.not_mem_nil (by simp only [upd_get, Nat.reduceEqDiff, reduceIte, Nat.reduceAdd, Nat.reduceMul, Nat.reduceSub, Nat.reduceLT, Nat.reduceLeDiff, if_true, if_false] <;> rfl) (e_Reorder_tmx (by rfl) (Tm.v _))) (tmAllU 6 (tmAllU 5 (tmAllU 4 (tmAllU 2 (tmAllU 1 tmAll0 (Tm.v _)) (Tm.ptr rfl)) (Tm.refL rfl ?_)) (Tm.ptr rfl)) (Tm.v _)); all_goals (first | rfl | (simp only [List.length_take]; omega) | (simp only [List.length_append, List.length_cons, List.length_nil, List.length_modify, List.length_set, Nat.zero_add]; done) | (simp only [List.length_append, List.length_take, List.length_drop, List.length_cons, List.length_nil, List.length_modify, List.length_set, Nat.zero_add]; omega) | (simp only [List.length_append, List.length_take, List.length_drop, List.length_cons, List.length_nil, List.length_modify, List.length_set, Nat.zero_add]; done) | omega))⟩
 ·
  rintro _ rfl
  clear hi1
  unfold reorder_move_S0
  refine awp_nr [1,2,4,5,6] (fun _ => rfl) fun tz => ?_
  refine awp_regDW fun KK hKK all hall => ?_
  refine xd_id ?_
  try simp only [List.toList_toArray, List.map_cons, List.map_nil, List.size_toArray, List.length_cons, List.length_nil, Nat.zero_add]
  try simp only [Nat.reduceAdd]
  obtain ⟨x42, bx42, h0⟩ := bnd h0
  have bx42 := chk_some bx42
  simp only [Bool.and_eq_true, decide_eq_true_eq] at bx42
  obtain ⟨gx42_0, gx42_1⟩ := bx42
  have g5 : (((a0.Held.length : Nat) : Int) - x35.1).toNat = a0.Held.length - (x35.1).toNat := by omega
  simp only [go_sem, Nat.reduceEqDiff, reduceIte, Nat.reduceMul, Nat.reduceSub, Nat.reduceLT, Nat.reduceLeDiff, gx42_0, gx42_1, g5]
  try simp only [Nat.reduceAdd]
  try simp only [go_sem, Nat.reduceEqDiff, reduceIte, Nat.reduceMul, Nat.reduceSub, Nat.reduceLT, Nat.reduceLeDiff, gx42_0, gx42_1, g5]
  try simp only [Nat.reduceAdd]
  try simp only [go_sem, Nat.reduceEqDiff, reduceIte, Nat.reduceMul, Nat.reduceSub, Nat.reduceLT, Nat.reduceLeDiff, gx42_0, gx42_1, g5]
  refine And.intro ?_ (hKK _ _ (Wk.front 0 (((x35.1).toNat) * 42) [] [(1, (e_Reorder { a0 with Start := a1 } (.ref 13 0 (a0.Held.length - (x35.1).toNat) 42)))] (by decide) (by simp only [upd_get, Nat.reduceEqDiff, reduceIte, Nat.reduceAdd, Nat.reduceMul, Nat.reduceSub, Nat.reduceLT, Nat.reduceLeDiff, if_true, if_false] <;> rfl) (split_fm _ ((x35.1).toNat) a0.Held) (by rw [r_HeldSeq_len, List.length_take]; omega) trivial ⟨⟨by decide, by decide, _, (by simp only [upd_get, Nat.reduceEqDiff, reduceIte, Nat.reduceAdd, Nat.reduceMul, Nat.reduceSub, Nat.reduceLT, Nat.reduceLeDiff, if_true, if_false] <;> rfl), (e_Reorder_frl _ (Fr.ref _ _ _ (by first | rfl | omega | (simp; done) | (simp; omega))))⟩, trivial⟩) ?_)
  ·
   subst hall
   clear hKK KK
   first | decide +kernel | (simp [printsOk, apartP, clash, meet]; done) | (simp [printsOk, apartP, clash, meet]; decide +kernel)
  ·
   clear hKK KK hall all
   obtain ⟨d43, hi6, h0⟩ := bnd h0
   refine awp_cut (fun z => d43 = z) (fun d43 : (Reorder × List HeldSeq × List Frame) => reorder_move_S3 d43) ?_ ?_
   ·
    refine awp_block1 ?_
    refine awp_loopS (fun n (d44 : (Reorder × List HeldSeq × List Frame)) => reorder_move_L5 n d44 = some d43) (fun d44 : (Reorder × List HeldSeq × List Frame) => reorder_move_S4 d44) big ({ a0 with Start := a1 }, (List.drop ((x35.1).toNat) a0.Held), d37) (by refine Wk.canonD [] [0] [some 0, some 1, some 13, some 2, some 3] rfl ⟨rfl, trivial⟩ rfl (tmOU 4 (tmOU 3 (tmOU 2 (tmOU 1 tmO0 rfl List.not_mem_nil (by simp only [upd_get, Nat.reduceEqDiff, reduceIte, Nat.reduceAdd, Nat.reduceMul, Nat.reduceSub, Nat.reduceLT, Nat.reduceLeDiff, if_true, if_false] <;> rfl) (e_Reorder_tmx (by rfl) (Tm.refL rfl ?_))) rfl List.not_mem_nil (by simp only [upd_get, Nat.reduceEqDiff, reduceIte, Nat.reduceAdd, Nat.reduceMul, Nat.reduceSub, Nat.reduceLT, Nat.reduceLeDiff, if_true, if_false] <;> rfl) (TmL.of_eq (by first | rfl | (simp only [List.flatMap_append, List.flatMap_cons, List.flatMap_nil, List.map_append, List.map_cons, List.map_nil, List.append_nil, List.nil_append]; done) | (simp only [List.flatMap_append, List.flatMap_cons, List.flatMap_nil, List.map_append, List.map_cons, List.map_nil, List.append_nil, List.nil_append]; rfl)) (c_HeldSeq _))) rfl List.not_mem_nil (by simp only [upd_get, Nat.reduceEqDiff, reduceIte, Nat.reduceAdd, Nat.reduceMul, Nat.reduceSub, Nat.reduceLT, Nat.reduceLeDiff, if_true, if_false] <;> rfl) (TmL.of_eq (by first | rfl | (simp only [List.flatMap_append, List.flatMap_cons, List.flatMap_nil, List.map_append, List.map_cons, List.map_nil, List.append_nil, List.nil_append]; done) | (simp only [List.flatMap_append, List.flatMap_cons, List.flatMap_nil, List.map_append, List.map_cons, List.map_nil, List.append_nil, List.nil_append]; rfl)) (c_Frame _))) rfl List.not_mem_nil (by simp only [upd_get, Nat.reduceEqDiff, reduceIte, Nat.reduceAdd, Nat.reduceMul, Nat.reduceSub, Nat.reduceLT, Nat.reduceLeDiff, if_true, if_false] <;> rfl) (e_Reorder_tmx (by rfl) (Tm.v _))) (tmAllU 5 (tmAllU 4 (tmAllU 2 tmAll0 (Tm.ptr rfl)) (Tm.refL rfl ?_)) (Tm.ptr rfl)); all_goals (first | rfl | (simp only [List.length_take]; omega) | (simp only [List.length_append, List.length_cons, List.length_nil, List.length_modify, List.length_set, Nat.zero_add]; done) | (simp only [List.length_append, List.length_take, List.length_drop, List.length_cons, List.length_nil, List.length_modify, List.length_set, Nat.zero_add]; omega) | (simp only [List.length_append, List.length_take, List.length_drop, List.length_cons, List.length_nil, List.length_modify, List.length_set, Nat.zero_add]; done) | omega)) hi6 ?_
    clear hi6
    rintro n d44 hl8
    rcases n with _ | n7
    ·
     (rw [reorder_move_L5] at hl8; cases hl8)
    ·
     rw [reorder_move_L5] at hl8
     unfold reorder_move_S4
     refine awp_assoc ?_
     refine awp_nr [2,4,5] (fun _ => rfl) fun tz => ?_
     refine awp_regW fun KK hKK => ?_
     refine xw_id ?_
     refine xw_stop 5 (by (try simp only [go_sem]); rfl) (by (try simp only [go_sem]); rfl) (by rfl) fun K1 hK1 => ?_
     refine xw_id ?_
     try simp only [go_sem, Nat.reduceEqDiff, reduceIte, Nat.reduceAdd, Nat.reduceMul, Nat.reduceSub, Nat.reduceLT, Nat.reduceLeDiff, Int.reduceToNat, Int.reduceBEq, Int.reduceBNe, Int.reduceLT, Int.reduceLE, Int.reduceAdd, Int.reduceSub, Int.reduceMul, Int.reduceNeg, Int.reduceEq, Int.reduceNe]
     refine hK1 _ ?_; clear hK1 K1
     obtain ⟨x46, hvh9, hl8⟩ := bnd hl8
     refine xw_cut 11 [(2, (.ptr 1 0)), (4, (.ref 3 0 ((d44.2.2).length) 41)), (5, (.ptr 4 0)), (53, (vb x46))] (by (try simp only [go_sem]); rfl) (by (try simp only [go_sem]); rfl) (by rfl) (fun K1 hK1 => ?_) fun tz => ?_
     ·
      refine xw_id ?_
      rcases Bool.eq_false_or_eq_true (decide (0 < (((d44.2.1).length : Nat) : Int))) with h9 | h9
      ·
       have hvh9 := cT hvh9 h9
       obtain ⟨x45, bx45, hvh9⟩ := bnd hvh9
       obtain ⟨fx45_0, fx45_1, fx45_2, fx45_3⟩ := idx_some bx45
       have fx45_5 : ((0 : Int) < (((d44.2.1).length : Nat) : Int)) = True := by first | exact fx45_1 | (simp [List.length_modify, List.length_set]; omega)
       simp only [Int.reduceToNat] at fx45_2 fx45_3
       try simp only [go_sem, Nat.reduceEqDiff, reduceIte, Nat.reduceAdd, Nat.reduceMul, Nat.reduceSub, Nat.reduceLT, Nat.reduceLeDiff, Int.reduceToNat, Int.reduceBEq, Int.reduceBNe, Int.reduceLT, Int.reduceLE, Int.reduceAdd, Int.reduceSub, Int.reduceMul, Int.reduceNeg, Int.reduceEq, Int.reduceNe, h9, fx45_0, fx45_1, fx45_2, r_HeldSeq_getL, r_HeldSeq_subL, Nat.reduceDiv, Nat.reduceMod, fx45_5]
       obtain rfl := someInj hvh9
       exact hK1 _ ⟨rfl, rfl, rfl, rfl, (by first | rfl | (rw [h9]; rfl) | (simp only [h9, Bool.true_and, Bool.false_and, Bool.true_or, Bool.false_or, cond_true, cond_false]; done)), trivial⟩
      ·
       have hvh9 := cF hvh9 h9
       try simp only [go_sem, Nat.reduceEqDiff, reduceIte, Nat.reduceAdd, Nat.reduceMul, Nat.reduceSub, Nat.reduceLT, Nat.reduceLeDiff, Int.reduceToNat, Int.reduceBEq, Int.reduceBNe, Int.reduceLT, Int.reduceLE, Int.reduceAdd, Int.reduceSub, Int.reduceMul, Int.reduceNeg, Int.reduceEq, Int.reduceNe, h9]
       obtain rfl := someInj hvh9
       exact hK1 _ ⟨rfl, rfl, rfl, rfl, (by first | rfl | (rw [h9]; rfl) | (simp only [h9, Bool.true_and, Bool.false_and, Bool.true_or, Bool.false_or, cond_true, cond_false]; done)), trivial⟩
     ·
      refine xw_id ?_
      try simp only [go_sem, Nat.reduceEqDiff, reduceIte, Nat.reduceAdd, Nat.reduceMul, Nat.reduceSub, Nat.reduceLT, Nat.reduceLeDiff, Int.reduceToNat, Int.reduceBEq, Int.reduceBNe, Int.reduceLT, Int.reduceLE, Int.reduceAdd, Int.reduceSub, Int.reduceMul, Int.reduceNeg, Int.reduceEq, Int.reduceNe]
      refine hKK _ _ (Wk.refl _ _ _) ?_; clear hKK KK
      refine awp_cond (b := x46) rfl (fun h10 => ?_) (fun h10 => ?_)
      ·
       have hl8 := cT hl8 h10
       refine awp_skip ?_
       refine awp_block1 ?_
       refine awp_nr [2,4,5] (fun _ => rfl) fun tz => ?_
       refine awp_regW fun KK hKK => ?_
       refine xw_id ?_
       obtain ⟨x47, bx47, hl8⟩ := bnd hl8
       obtain ⟨fx47_0, fx47_1, fx47_2, fx47_3⟩ := idx_some bx47
       have fx47_5 : ((0 : Int) < (((d44.2.1).length : Nat) : Int)) = True := by first | exact fx47_1 | (simp [List.length_modify, List.length_set]; omega)
       simp only [Int.reduceToNat] at fx47_2 fx47_3
       obtain ⟨x48, bx48, hl8⟩ := bnd hl8
       have bx48 := chk_some bx48
       simp only [Bool.and_eq_true, decide_eq_true_eq] at bx48
       have gx48_0 := bx48
       try simp only [go_sem, Nat.reduceEqDiff, reduceIte, Nat.reduceAdd, Nat.reduceMul, Nat.reduceSub, Nat.reduceLT, Nat.reduceLeDiff, Int.reduceToNat, Int.reduceBEq, Int.reduceBNe, Int.reduceLT, Int.reduceLE, Int.reduceAdd, Int.reduceSub, Int.reduceMul, Int.reduceNeg, Int.reduceEq, Int.reduceNe, fx47_0, fx47_1, fx47_2, r_HeldSeq_getL, r_HeldSeq_subL, Nat.reduceDiv, Nat.reduceMod, fx47_5, gx48_0]
       refine hKK _ _ (Wk.refl _ _ _) ?_; clear hKK KK
       refine awp_nr1 [2,4,5] (fun _ => rfl) fun tz => ?_
       refine awp_regD1 fun KK hKK all hall => ?_
       refine xd_id ?_
       try simp only [List.toList_toArray, List.map_cons, List.map_nil, List.size_toArray, List.length_cons, List.length_nil, Nat.zero_add]
       try simp only [Nat.reduceAdd]
       obtain ⟨x49, bx49, hl8⟩ := bnd hl8
       simp only [go_sem, Nat.reduceEqDiff, reduceIte, Nat.reduceMul, Nat.reduceSub, Nat.reduceLT, Nat.reduceLeDiff, fx47_0, fx47_1, fx47_2, fx47_5]
       try simp only [Nat.reduceAdd]
       try simp only [go_sem, Nat.reduceEqDiff, reduceIte, Nat.reduceMul, Nat.reduceSub, Nat.reduceLT, Nat.reduceLeDiff, fx47_0, fx47_1, fx47_2, fx47_5]
       try simp only [Nat.reduceAdd]
       try simp only [go_sem, Nat.reduceEqDiff, reduceIte, Nat.reduceMul, Nat.reduceSub, Nat.reduceLT, Nat.reduceLeDiff, fx47_0, fx47_1, fx47_2, fx47_5]
       refine xcallD_p (window_Add_p d44.1.Start 1 bx49) ?_; try dsimp only
       try refine xd_id ?_
       obtain ⟨x50, bx50, hl8⟩ := bnd hl8
       have bx50 := chk_some bx50
       simp only [Bool.and_eq_true, decide_eq_true_eq] at bx50
       have gx50_0 := bx50
       have g11 : ((((d44.2.1).length : Nat) : Int) - 1).toNat = ((d44.2.1).length) - 1 := by omega
       simp only [go_sem, Nat.reduceEqDiff, reduceIte, Nat.reduceMul, Nat.reduceSub, Nat.reduceLT, Nat.reduceLeDiff, Int.reduceToNat, Int.reduceBEq, Int.reduceBNe, Int.reduceLT, Int.reduceLE, Int.reduceAdd, Int.reduceSub, Int.reduceMul, Int.reduceNeg, Int.reduceEq, Int.reduceNe, fx47_0, fx47_1, fx47_2, fx47_5, gx50_0, g11]
       try simp only [Nat.reduceAdd]
       try simp only [go_sem, Nat.reduceEqDiff, reduceIte, Nat.reduceMul, Nat.reduceSub, Nat.reduceLT, Nat.reduceLeDiff, Int.reduceToNat, Int.reduceBEq, Int.reduceBNe, Int.reduceLT, Int.reduceLE, Int.reduceAdd, Int.reduceSub, Int.reduceMul, Int.reduceNeg, Int.reduceEq, Int.reduceNe, fx47_0, fx47_1, fx47_2, fx47_5, gx50_0, g11]
       try simp only [Nat.reduceAdd]
       try simp only [go_sem, Nat.reduceEqDiff, reduceIte, Nat.reduceMul, Nat.reduceSub, Nat.reduceLT, Nat.reduceLeDiff, Int.reduceToNat, Int.reduceBEq, Int.reduceBNe, Int.reduceLT, Int.reduceLE, Int.reduceAdd, Int.reduceSub, Int.reduceMul, Int.reduceNeg, Int.reduceEq, Int.reduceNe, fx47_0, fx47_1, fx47_2, fx47_5, gx50_0, g11]
       refine And.intro ?_ (hKK _ ((clQ_blk clQ_loop) _ _ (Wk.front 2 (1 * 42) [] [(1, (e_Reorder { d44.1 with Start := x49 } (.ref 40 0 (((d44.2.1).length) - 1) 42)))] (by decide) (by simp only [upd_get, Nat.reduceEqDiff, reduceIte, Nat.reduceAdd, Nat.reduceMul, Nat.reduceSub, Nat.reduceLT, Nat.reduceLeDiff, if_true, if_false] <;> rfl) (split_fm _ 1 d44.2.1) (by rw [r_HeldSeq_len, List.length_take]; omega) trivial ⟨⟨by decide, by decide, _, (by simp only [upd_get, Nat.reduceEqDiff, reduceIte, Nat.reduceAdd, Nat.reduceMul, Nat.reduceSub, Nat.reduceLT, Nat.reduceLeDiff, if_true, if_false] <;> rfl), (e_Reorder_frl _ (Fr.ref _ _ _ (by first | rfl | omega | (simp; done) | (simp; omega))))⟩, trivial⟩) ?_))
       ·
        subst hall
        clear hKK KK
        first | decide +kernel | (simp [printsOk, apartP, clash, meet]; done) | (simp [printsOk, apartP, clash, meet]; decide +kernel)
       ·
        clear hKK KK hall all
        refine bq_n ?_
        refine lq_n ?_
        exact ⟨n7, ({ d44.1 with Start := x49 }, (List.drop 1 d44.2.1), (d44.2.2 ++ [x47.Frame])), rfl, hl8, (by refine Wk.canonD [] [0] [some 0, some 1, some 40, some 28, some 4] rfl ⟨rfl, trivial⟩ rfl (tmOU 4 (tmOU 3 (tmOU 2 (tmOU 1 tmO0 rfl List.not_mem_nil (by simp only [upd_get, Nat.reduceEqDiff, reduceIte, Nat.reduceAdd, Nat.reduceMul, Nat.reduceSub, Nat.reduceLT, Nat.reduceLeDiff, if_true, if_false] <;> rfl) (e_Reorder_tmx (by rfl) (Tm.refL rfl ?_))) rfl List.not_mem_nil (by simp only [upd_get, Nat.reduceEqDiff, reduceIte, Nat.reduceAdd, Nat.reduceMul, Nat.reduceSub, Nat.reduceLT, Nat.reduceLeDiff, if_true, if_false] <;> rfl) (TmL.of_eq (by first | rfl | (simp only [List.flatMap_append, List.flatMap_cons, List.flatMap_nil, List.map_append, List.map_cons, List.map_nil, List.append_nil, List.nil_append]; done) | (simp only [List.flatMap_append, List.flatMap_cons, List.flatMap_nil, List.map_append, List.map_cons, List.map_nil, List.append_nil, List.nil_append]; rfl)) (c_HeldSeq _))) rfl List.not_mem_nil (by simp only [upd_get, Nat.reduceEqDiff, reduceIte, Nat.reduceAdd, Nat.reduceMul, Nat.reduceSub, Nat.reduceLT, Nat.reduceLeDiff, if_true, if_false] <;> rfl) (TmL.of_eq (by first | rfl | (simp only [List.flatMap_append, List.flatMap_cons, List.flatMap_nil, List.map_append, List.map_cons, List.map_nil, List.append_nil, List.nil_append]; done) | (simp only [List.flatMap_append, List.flatMap_cons, List.flatMap_nil, List.map_append, List.map_cons, List.map_nil, List.append_nil, List.nil_append]; rfl)) (c_Frame _))) rfl List.not_mem_nil (by simp only [upd_get, Nat.reduceEqDiff, reduceIte, Nat.reduceAdd, Nat.reduceMul, Nat.reduceSub, Nat.reduceLT, Nat.reduceLeDiff, if_true, if_false] <;> rfl) (e_Reorder_tmx (by rfl) (Tm.v _))) (tmAllU 5 (tmAllU 4 (tmAllU 2 tmAll0 (Tm.ptr rfl)) (Tm.refL rfl ?_)) (Tm.ptr rfl)); all_goals (first | rfl | (simp only [List.length_take]; omega) | (simp only [List.length_append, List.length_cons, List.length_nil, List.length_modify, List.length_set, Nat.zero_add]; done) | (simp only [List.length_append, List.length_take, List.length_drop, List.length_cons, List.length_nil, List.length_modify, List.length_set, Nat.zero_add]; omega) | (simp only [List.length_append, List.length_take, List.length_drop, List.length_cons, List.length_nil, List.length_modify, List.length_set, Nat.zero_add]; done) | omega))⟩
      ·
       have hl8 := cF hl8 h10
       refine awp_exit ?_
       refine lq_e ?_
       refine bq_e ?_
       refine sq_n ?_
       obtain rfl := someInj hl8
       exact ⟨_, rfl, (by refine Wk.canonD [] [0] [some 0, some 1, some 2, some 3, some 4] rfl ⟨rfl, trivial⟩ rfl (tmOU 4 (tmOU 3 (tmOU 2 (tmOU 1 tmO0 rfl List.not_mem_nil (by simp only [upd_get, Nat.reduceEqDiff, reduceIte, Nat.reduceAdd, Nat.reduceMul, Nat.reduceSub, Nat.reduceLT, Nat.reduceLeDiff, if_true, if_false] <;> rfl) (e_Reorder_tmx (by rfl) (Tm.refL rfl ?_))) rfl List.not_mem_nil (by simp only [upd_get, Nat.reduceEqDiff, reduceIte, Nat.reduceAdd, Nat.reduceMul, Nat.reduceSub, Nat.reduceLT, Nat.reduceLeDiff, if_true, if_false] <;> rfl) (TmL.of_eq (by first | rfl | (simp only [List.flatMap_append, List.flatMap_cons, List.flatMap_nil, List.map_append, List.map_cons, List.map_nil, List.append_nil, List.nil_append]; done) | (simp only [List.flatMap_append, List.flatMap_cons, List.flatMap_nil, List.map_append, List.map_cons, List.map_nil, List.append_nil, List.nil_append]; rfl)) (c_HeldSeq _))) rfl List.not_mem_nil (by simp only [upd_get, Nat.reduceEqDiff, reduceIte, Nat.reduceAdd, Nat.reduceMul, Nat.reduceSub, Nat.reduceLT, Nat.reduceLeDiff, if_true, if_false] <;> rfl) (TmL.of_eq (by first | rfl | (simp only [List.flatMap_append, List.flatMap_cons, List.flatMap_nil, List.map_append, List.map_cons, List.map_nil, List.append_nil, List.nil_append]; done) | (simp only [List.flatMap_append, List.flatMap_cons, List.flatMap_nil, List.map_append, List.map_cons, List.map_nil, List.append_nil, List.nil_append]; rfl)) (c_Frame _))) rfl List.not_mem_nil (by simp only [upd_get, Nat.reduceEqDiff, reduceIte, Nat.reduceAdd, Nat.reduceMul, Nat.reduceSub, Nat.reduceLT, Nat.reduceLeDiff, if_true, if_false] <;> rfl) (e_Reorder_tmx (by rfl) (Tm.v _))) (tmAllU 5 (tmAllU 4 (tmAllU 2 tmAll0 (Tm.ptr rfl)) (Tm.refL rfl ?_)) (Tm.ptr rfl)); all_goals (first | rfl | (simp only [List.length_take]; omega) | (simp only [List.length_append, List.length_cons, List.length_nil, List.length_modify, List.length_set, Nat.zero_add]; done) | (simp only [List.length_append, List.length_take, List.length_drop, List.length_cons, List.length_nil, List.length_modify, List.length_set, Nat.zero_add]; omega) | (simp only [List.length_append, List.length_take, List.length_drop, List.length_cons, List.length_nil, List.length_modify, List.length_set, Nat.zero_add]; done) | omega))⟩
   ·
    rintro _ rfl
    clear hi6
    unfold reorder_move_S3
    refine awp_nr [2,4,5] (fun _ => rfl) fun tz => ?_
    refine awp_regDW fun KK hKK all hall => ?_
    refine xd_id ?_
    try simp only [List.toList_toArray, List.map_cons, List.map_nil, List.size_toArray, List.length_cons, List.length_nil, Nat.zero_add]
    try simp only [Nat.reduceAdd]
    simp only [go_sem, Nat.reduceEqDiff, reduceIte, Nat.reduceMul, Nat.reduceSub, Nat.reduceLT, Nat.reduceLeDiff]
    try simp only [Nat.reduceAdd]
    try simp only [go_sem, Nat.reduceEqDiff, reduceIte, Nat.reduceMul, Nat.reduceSub, Nat.reduceLT, Nat.reduceLeDiff]
    try simp only [Nat.reduceAdd]
    try simp only [go_sem, Nat.reduceEqDiff, reduceIte, Nat.reduceMul, Nat.reduceSub, Nat.reduceLT, Nat.reduceLeDiff]
    refine And.intro ?_ (hKK _ _ (Wk.refl _ _ _) ?_)
    ·
     subst hall
     clear hKK KK
     first | decide +kernel | (simp [printsOk, apartP, clash, meet]; done) | (simp [printsOk, apartP, clash, meet]; decide +kernel)
    ·
     clear hKK KK hall all
     refine awp_ret1 ?_
     obtain rfl := someInj h0
     refine endW_i ?_
     refine end_ret0 rs44 (by simp only [go_sem, resV, resAll, resOf, packR, Nat.reduceEqDiff, reduceIte, Nat.reduceAdd, Nat.reduceMul, Nat.reduceSub, Nat.reduceLT, Nat.reduceLeDiff]; rfl) ?_
     refine ResIO.mk [] [some 0, some 3, some 2] rfl (resED (resEU List.not_mem_nil (by simp only [upd_get, Nat.reduceEqDiff, reduceIte, Nat.reduceAdd, Nat.reduceMul, Nat.reduceSub, Nat.reduceLT, Nat.reduceLeDiff, if_true, if_false] <;> rfl) (TmL.of_eq (by first | rfl | (simp only [List.flatMap_append, List.flatMap_cons, List.flatMap_nil, List.map_append, List.map_cons, List.map_nil, List.append_nil, List.nil_append]; done) | (simp only [List.flatMap_append, List.flatMap_cons, List.flatMap_nil, List.map_append, List.map_cons, List.map_nil, List.append_nil, List.nil_append]; rfl)) (c_Frame _)) (resEU List.not_mem_nil (by simp only [upd_get, Nat.reduceEqDiff, reduceIte, Nat.reduceAdd, Nat.reduceMul, Nat.reduceSub, Nat.reduceLT, Nat.reduceLeDiff, if_true, if_false] <;> rfl) (TmL.of_eq (by first | rfl | (simp only [List.flatMap_append, List.flatMap_cons, List.flatMap_nil, List.map_append, List.map_cons, List.map_nil, List.append_nil, List.nil_append]; done) | (simp only [List.flatMap_append, List.flatMap_cons, List.flatMap_nil, List.map_append, List.map_cons, List.map_nil, List.append_nil, List.nil_append]; rfl)) (c_HeldSeq _)) resE0))) (Tm.tup (TmL.cons (Tm.refL rfl ?_) (TmL.cons (Tm.agg (e_Reorder_tmx (by rfl) (Tm.refL rfl ?_))) TmL.nil)))
     all_goals (first | rfl | (simp only [List.length_take]; omega) | (simp only [List.length_append, List.length_cons, List.length_nil, List.length_modify, List.length_set, Nat.zero_add]; done) | (simp only [List.length_append, List.length_take, List.length_drop, List.length_cons, List.length_nil, List.length_modify, List.length_set, Nat.zero_add]; omega) | (simp only [List.length_append, List.length_take, List.length_drop, List.length_cons, List.length_nil, List.length_modify, List.length_set, Nat.zero_add]; done) | omega)

end Go.AX.Z.TR

/-! (TRW reorder Bar) -/

set_option linter.unusedSimpArgs false
set_option linter.unusedVariables false
set_option maxHeartbeats 4000000
set_option maxRecDepth 20000
namespace Go.AX.Z.TR
open Go.AX Go.Proofs
attribute [local irreducible] awp xw xop xcall gsp ob xd xdop xcallD seqQ loopQ blkQ endQ

def reorder_Bar_S0 (a0 : Reorder) (a1 : Int) (x16 : Bool) : AS :=
 { objs := (upd (upd (fun _ => .dead) 0 (.live (e_Reorder a0 (.imm (List.flatMap E_HeldSeq a0.Held) a0.Held.length)))) 1 (.live (e_Reorder Reorder.z vnil))), next := 2, tmps := (upd (upd (upd (upd (fun _ => .unk) 1 (vi a1)) 2 (.ptr 0 0)) 5 (.ptr 1 0)) 16 (vb (!x16))) }

theorem reorder_Bar_r (a0 : Reorder) (a1 : Int) {r : ((List Frame) × Reorder × Int)} (h0 : reorder_Bar a0 a1 = some r) : SndR K 18 [(.agg (E_Reorder a0)), (vi a1)] (fun q => (.tup [(.ref (q 0) 0 r.1.length 41), (.agg (e_Reorder r.2.1 (.ref (q 1) 0 r.2.1.Held.length 42))), (vi r.2.2)])) [(List.flatMap E_Frame r.1), (List.flatMap E_HeldSeq r.2.1.Held)] := by
 refine SndR.of_walkW hC (show K.P.funcs[18]? = some Try.f18 from Try.func18) rfl rfl (by decide +kernel) (Nat.le_of_ble_eq_true rfl) ?_
 unfold reorder_Bar at h0
 refine awp_nr [0,1] (fun _ => rfl) fun tz => ?_
 refine awp_regW fun KK hKK => ?_
 refine xw_id ?_
 try simp only [go_sem, Nat.reduceEqDiff, reduceIte, Nat.reduceAdd, Nat.reduceMul, Nat.reduceSub, Nat.reduceLT, Nat.reduceLeDiff]
 refine hKK _ _ (Wk.refl _ _ _) ?_; clear hKK KK
 refine awp_assoc ?_
 refine awp_nr [1,2,5] (fun _ => rfl) fun tz => ?_
 refine awp_regW fun KK hKK => ?_
 refine xw_id ?_
 obtain ⟨x15, bx15, h0⟩ := bnd h0
 try simp only [go_sem, Nat.reduceEqDiff, reduceIte, Nat.reduceAdd, Nat.reduceMul, Nat.reduceSub, Nat.reduceLT, Nat.reduceLeDiff]
 refine xcall_p (reorder_Check_p a0 bx15) ?_; try dsimp only
 try refine xw_id ?_
 try simp only [go_sem, Nat.reduceEqDiff, reduceIte, Nat.reduceAdd, Nat.reduceMul, Nat.reduceSub, Nat.reduceLT, Nat.reduceLeDiff]
 refine hKK _ _ (Wk.refl _ _ _) ?_; clear hKK KK
 refine awp_assoc ?_
 refine awp_nr [1,2,5,7] (fun _ => rfl) fun tz => ?_
 refine awp_regW fun KK hKK => ?_
 refine xw_id ?_
 try simp only [go_sem, Nat.reduceEqDiff, reduceIte, Nat.reduceAdd, Nat.reduceMul, Nat.reduceSub, Nat.reduceLT, Nat.reduceLeDiff]
 refine hKK _ _ (Wk.refl _ _ _) ?_; clear hKK KK
 refine awp_cond (b := (x15 != 0)) rfl (fun h1 => ?_) (fun h1 => ?_)
 ·
  have h0 := cT h0 h1
  refine awp_assoc ?_
  refine awp_nr [5,7] (fun _ => rfl) fun tz => ?_
  refine awp_regW fun KK hKK => ?_
  refine xw_id ?_
  try simp only [go_sem, Nat.reduceEqDiff, reduceIte, Nat.reduceAdd, Nat.reduceMul, Nat.reduceSub, Nat.reduceLT, Nat.reduceLeDiff]
  refine hKK _ _ (Wk.refl _ _ _) ?_; clear hKK KK
  refine awp_ret ?_
  obtain rfl := someInj h0
  refine endW_i ?_
  refine end_ret0 rs18 (by simp only [go_sem, resV, resAll, resOf, packR, Nat.reduceEqDiff, reduceIte, Nat.reduceAdd, Nat.reduceMul, Nat.reduceSub, Nat.reduceLT, Nat.reduceLeDiff]; rfl) ?_
  refine Res.mk [] [none, none] rfl (resON (resON resO0)) (Tm.tup (TmL.cons (Tm.thaw _ _ _) (TmL.cons (Tm.agg (e_Reorder_tmx (by rfl) (Tm.thaw _ _ _))) (TmL.cons (Tm.v _) TmL.nil))))
 ·
  have h0 := cF h0 h1
  refine awp_skip ?_
  refine awp_assoc ?_
  refine awp_nr [1,2,5] (fun _ => rfl) fun tz => ?_
  refine awp_regW fun KK hKK => ?_
  refine xw_id ?_
  obtain ⟨x16, bx16, h0⟩ := bnd h0
  try simp only [go_sem, Nat.reduceEqDiff, reduceIte, Nat.reduceAdd, Nat.reduceMul, Nat.reduceSub, Nat.reduceLT, Nat.reduceLeDiff]
  refine xcall_p (reorder_number_p a1 bx16) ?_; try dsimp only
  try refine xw_id ?_
  try simp only [go_sem, Nat.reduceEqDiff, reduceIte, Nat.reduceAdd, Nat.reduceMul, Nat.reduceSub, Nat.reduceLT, Nat.reduceLeDiff]
  refine hKK _ (reorder_Bar_S0 a0 a1 x16) (Wk.canonD [] [] [some 0, some 2] rfl trivial rfl (tmOU 1 (tmOU 0 tmO0 rfl List.not_mem_nil (by simp only [upd_get, Nat.reduceEqDiff, reduceIte, Nat.reduceAdd, Nat.reduceMul, Nat.reduceSub, Nat.reduceLT, Nat.reduceLeDiff, if_true, if_false] <;> rfl) (e_Reorder_tmx (by rfl) (Tm.clean (Clean.imm (c_HeldSeq _))))) rfl List.not_mem_nil (by simp only [upd_get, Nat.reduceEqDiff, reduceIte, Nat.reduceAdd, Nat.reduceMul, Nat.reduceSub, Nat.reduceLT, Nat.reduceLeDiff, if_true, if_false] <;> rfl) (e_Reorder_tmx (by rfl) (Tm.v _))) (tmAllU 16 (tmAllU 5 (tmAllU 2 (tmAllU 1 tmAll0 (Tm.v _)) (Tm.ptr rfl)) (Tm.ptr rfl)) (Tm.v _))) ?_; clear hKK KK
  unfold reorder_Bar_S0
  refine awp_cond (b := (!x16)) rfl (fun h2 => ?_) (fun h2 => ?_)
  ·
   have h0 := cT h0 h2
   refine awp_assoc ?_
   refine awp_nr [5] (fun _ => rfl) fun tz => ?_
   refine awp_regW fun KK hKK => ?_
   refine xw_id ?_
   try simp only [go_sem, Nat.reduceEqDiff, reduceIte, Nat.reduceAdd, Nat.reduceMul, Nat.reduceSub, Nat.reduceLT, Nat.reduceLeDiff]
   refine hKK _ _ (Wk.refl _ _ _) ?_; clear hKK KK
   refine awp_ret ?_
   obtain rfl := someInj h0
   refine endW_i ?_
   refine end_ret0 rs18 (by simp only [go_sem, resV, resAll, resOf, packR, Nat.reduceEqDiff, reduceIte, Nat.reduceAdd, Nat.reduceMul, Nat.reduceSub, Nat.reduceLT, Nat.reduceLeDiff]; rfl) ?_
   refine Res.mk [] [none, none] rfl (resON (resON resO0)) (Tm.tup (TmL.cons (Tm.thaw _ _ _) (TmL.cons (Tm.agg (e_Reorder_tmx (by rfl) (Tm.thaw _ _ _))) (TmL.cons (Tm.v _) TmL.nil))))
  ·
   have h0 := cF h0 h2
   refine awp_skip ?_
   refine awp_nr [1,2,5] (fun _ => rfl) fun tz => ?_
   refine awp_regW fun KK hKK => ?_
   refine xw_id ?_
   obtain ⟨x17, bx17, h0⟩ := bnd h0
   try simp only [go_sem, Nat.reduceEqDiff, reduceIte, Nat.reduceAdd, Nat.reduceMul, Nat.reduceSub, Nat.reduceLT, Nat.reduceLeDiff]
   refine xcall_M (reorder_twin_m a0.Held bx17) ?_; try dsimp only
   try refine xw_id ?_
   try simp only [go_sem, Nat.reduceEqDiff, reduceIte, Nat.reduceAdd, Nat.reduceMul, Nat.reduceSub, Nat.reduceLT, Nat.reduceLeDiff]
   refine hKK _ _ (Wk.refl _ _ _) ?_; clear hKK KK
   refine awp_assoc ?_
   refine awp_nr [1,2,5] (fun _ => rfl) fun tz => ?_
   refine awp_regW fun KK hKK => ?_
   refine xw_id ?_
   obtain ⟨x18, bx18, h0⟩ := bnd h0
   try simp only [go_sem, Nat.reduceEqDiff, reduceIte, Nat.reduceAdd, Nat.reduceMul, Nat.reduceSub, Nat.reduceLT, Nat.reduceLeDiff]
   refine xcall_p (window_Dist_p a0.Start a1 bx18) ?_; try dsimp only
   try refine xw_id ?_
   try simp only [go_sem, Nat.reduceEqDiff, reduceIte, Nat.reduceAdd, Nat.reduceMul, Nat.reduceSub, Nat.reduceLT, Nat.reduceLeDiff]
   refine hKK _ _ (Wk.refl _ _ _) ?_; clear hKK KK
   refine awp_cond (b := (decide (2048 ≤ x18))) rfl (fun h3 => ?_) (fun h3 => ?_)
   ·
    have h0 := cT h0 h3
    refine awp_assoc ?_
    refine awp_nr [2,5] (fun _ => rfl) fun tz => ?_
    refine awp_regDW fun KK hKK all hall => ?_
    refine xd_id ?_
    try simp only [List.toList_toArray, List.map_cons, List.map_nil, List.size_toArray, List.length_cons, List.length_nil, Nat.zero_add]
    try simp only [Nat.reduceAdd]
    simp only [go_sem, Nat.reduceEqDiff, reduceIte, Nat.reduceMul, Nat.reduceSub, Nat.reduceLT, Nat.reduceLeDiff]
    try simp only [Nat.reduceAdd]
    try simp only [go_sem, Nat.reduceEqDiff, reduceIte, Nat.reduceMul, Nat.reduceSub, Nat.reduceLT, Nat.reduceLeDiff]
    try simp only [Nat.reduceAdd]
    try simp only [go_sem, Nat.reduceEqDiff, reduceIte, Nat.reduceMul, Nat.reduceSub, Nat.reduceLT, Nat.reduceLeDiff]
    refine And.intro ?_ (hKK _ _ (Wk.refl _ _ _) ?_)
    ·
     subst hall
     clear hKK KK
     first | decide +kernel | (simp [printsOk, apartP, clash, meet]; done) | (simp [printsOk, apartP, clash, meet]; decide +kernel)
    ·
     clear hKK KK hall all
     refine awp_ret ?_
     obtain rfl := someInj h0
     refine endW_i ?_
     refine end_ret0 rs18 (by simp only [go_sem, resV, resAll, resOf, packR, Nat.reduceEqDiff, reduceIte, Nat.reduceAdd, Nat.reduceMul, Nat.reduceSub, Nat.reduceLT, Nat.reduceLeDiff]; rfl) ?_
     refine Res.mk [] [none, some 7] rfl (resON (resOU List.not_mem_nil (by simp only [upd_get, Nat.reduceEqDiff, reduceIte, Nat.reduceAdd, Nat.reduceMul, Nat.reduceSub, Nat.reduceLT, Nat.reduceLeDiff, if_true, if_false] <;> rfl) (TmL.of_eq (by first | rfl | (simp only [List.flatMap_append, List.flatMap_cons, List.flatMap_nil, List.map_append, List.map_cons, List.map_nil, List.append_nil, List.nil_append]; done) | (simp only [List.flatMap_append, List.flatMap_cons, List.flatMap_nil, List.map_append, List.map_cons, List.map_nil, List.append_nil, List.nil_append]; rfl)) (c_HeldSeq _)) resO0)) (Tm.tup (TmL.cons (Tm.thaw _ _ _) (TmL.cons (Tm.agg (e_Reorder_tmx (by rfl) (Tm.refL rfl ?_))) (TmL.cons (Tm.v _) TmL.nil))))
     all_goals (first | rfl | (simp only [List.length_take]; omega) | (simp only [List.length_append, List.length_cons, List.length_nil, List.length_modify, List.length_set, Nat.zero_add]; done) | (simp only [List.length_append, List.length_take, List.length_drop, List.length_cons, List.length_nil, List.length_modify, List.length_set, Nat.zero_add]; omega) | (simp only [List.length_append, List.length_take, List.length_drop, List.length_cons, List.length_nil, List.length_modify, List.length_set, Nat.zero_add]; done) | omega)
   ·
    have h0 := cF h0 h3
    refine awp_skip ?_
    refine awp_nr [1,2,5] (fun _ => rfl) fun tz => ?_
    refine awp_regW fun KK hKK => ?_
    refine xw_id ?_
    obtain ⟨x19, bx19, h0⟩ := bnd h0
    try simp only [go_sem, Nat.reduceEqDiff, reduceIte, Nat.reduceAdd, Nat.reduceMul, Nat.reduceSub, Nat.reduceLT, Nat.reduceLeDiff]
    refine xcall_O [7] (reorder_move_io { a0 with Held := x17 } a1 bx19) (by decide) (by decide) ⟨(by first | rfl | (simp only [go_sem, Nat.reduceEqDiff, reduceIte, Nat.reduceAdd, Nat.reduceMul, Nat.reduceSub, Nat.reduceLT, Nat.reduceLeDiff]; done) | (simp only [go_sem, Nat.reduceEqDiff, reduceIte, Nat.reduceAdd, Nat.reduceMul, Nat.reduceSub, Nat.reduceLT, Nat.reduceLeDiff]; rfl)), trivial⟩ (by first | rfl | (simp only [go_sem, Nat.reduceEqDiff, reduceIte, Nat.reduceAdd, Nat.reduceMul, Nat.reduceSub, Nat.reduceLT, Nat.reduceLeDiff]; done) | (simp only [go_sem, Nat.reduceEqDiff, reduceIte, Nat.reduceAdd, Nat.reduceMul, Nat.reduceSub, Nat.reduceLT, Nat.reduceLeDiff]; rfl)) ?_; try dsimp only
    try refine xw_id ?_
    try simp only [go_sem, Nat.reduceEqDiff, reduceIte, Nat.reduceAdd, Nat.reduceMul, Nat.reduceSub, Nat.reduceLT, Nat.reduceLeDiff, List.length_cons, List.length_nil]
    refine hKK _ _ (Wk.refl _ _ _) ?_; clear hKK KK
    refine awp_nr [4,5] (fun _ => rfl) fun tz => ?_
    refine awp_regDW fun KK hKK all hall => ?_
    refine xd_id ?_
    try simp only [List.toList_toArray, List.map_cons, List.map_nil, List.size_toArray, List.length_cons, List.length_nil, Nat.zero_add]
    try simp only [Nat.reduceAdd]
    simp only [go_sem, Nat.reduceEqDiff, reduceIte, Nat.reduceMul, Nat.reduceSub, Nat.reduceLT, Nat.reduceLeDiff]
    try simp only [Nat.reduceAdd]
    try simp only [go_sem, Nat.reduceEqDiff, reduceIte, Nat.reduceMul, Nat.reduceSub, Nat.reduceLT, Nat.reduceLeDiff]
    try simp only [Nat.reduceAdd]
    try simp only [go_sem, Nat.reduceEqDiff, reduceIte, Nat.reduceMul, Nat.reduceSub, Nat.reduceLT, Nat.reduceLeDiff]
    refine And.intro ?_ (hKK _ _ (Wk.refl _ _ _) ?_)
    ·
     subst hall
     clear hKK KK
     first | decide +kernel | (simp [printsOk, apartP, clash, meet]; done) | (simp [printsOk, apartP, clash, meet]; decide +kernel)
    ·
     clear hKK KK hall all
     refine awp_ret1 ?_
     obtain rfl := someInj h0
     refine endW_i ?_
     refine end_ret0 rs18 (by simp only [go_sem, resV, resAll, resOf, packR, Nat.reduceEqDiff, reduceIte, Nat.reduceAdd, Nat.reduceMul, Nat.reduceSub, Nat.reduceLT, Nat.reduceLeDiff]; rfl) ?_
     refine Res.mk [] [some 21, some 22] rfl (resOU List.not_mem_nil (by simp only [upd_get, Nat.reduceEqDiff, reduceIte, Nat.reduceAdd, Nat.reduceMul, Nat.reduceSub, Nat.reduceLT, Nat.reduceLeDiff, if_true, if_false] <;> rfl) (TmL.of_eq (by first | rfl | (simp only [List.flatMap_append, List.flatMap_cons, List.flatMap_nil, List.map_append, List.map_cons, List.map_nil, List.append_nil, List.nil_append]; done) | (simp only [List.flatMap_append, List.flatMap_cons, List.flatMap_nil, List.map_append, List.map_cons, List.map_nil, List.append_nil, List.nil_append]; rfl)) (c_Frame _)) (resOU List.not_mem_nil (by simp only [upd_get, Nat.reduceEqDiff, reduceIte, Nat.reduceAdd, Nat.reduceMul, Nat.reduceSub, Nat.reduceLT, Nat.reduceLeDiff, if_true, if_false] <;> rfl) (TmL.of_eq (by first | rfl | (simp only [List.flatMap_append, List.flatMap_cons, List.flatMap_nil, List.map_append, List.map_cons, List.map_nil, List.append_nil, List.nil_append]; done) | (simp only [List.flatMap_append, List.flatMap_cons, List.flatMap_nil, List.map_append, List.map_cons, List.map_nil, List.append_nil, List.nil_append]; rfl)) (c_HeldSeq _)) resO0)) (Tm.tup (TmL.cons (Tm.refL rfl ?_) (TmL.cons (Tm.agg (e_Reorder_tmx (by rfl) (Tm.refL rfl ?_))) (TmL.cons (Tm.v _) TmL.nil))))
     all_goals (first | rfl | (simp only [List.length_take]; omega) | (simp only [List.length_append, List.length_cons, List.length_nil, List.length_modify, List.length_set, Nat.zero_add]; done) | (simp only [List.length_append, List.length_take, List.length_drop, List.length_cons, List.length_nil, List.length_modify, List.length_set, Nat.zero_add]; omega) | (simp only [List.length_append, List.length_take, List.length_drop, List.length_cons, List.length_nil, List.length_modify, List.length_set, Nat.zero_add]; done) | omega)

theorem reorder_Bar_m (a0 : Reorder) (a1 : Int) {r : ((List Frame) × Reorder × Int)} (h0 : reorder_Bar a0 a1 = some r) : SndM K 18 [(.agg (E_Reorder a0)), (vi a1)] (fun q => (.tup [(.ref (q 0) 0 r.1.length 41), (.agg (e_Reorder r.2.1 (.ref (q 1) 0 r.2.1.Held.length 42))), (vi r.2.2)])) [(List.flatMap E_Frame r.1), (List.flatMap E_HeldSeq r.2.1.Held)] :=
 fun hs => Snd.of_newM (RenM.tup (RenML.cons (RenM.ref 0 0 _ _) (RenML.cons (RenM.agg (e_Reorder_ren _ (RenM.ref 1 0 _ _))) (RenML.cons (RenM.const (Clean.v _)) RenML.nil)))) (rows_all_cons (c_Frame _) (rows_all_cons (c_HeldSeq _) rows_all_nil)) (clean_cons (Clean.agg (E_Reorder_clean _)) (clean_cons (Clean.v _) clean_nil)) (reorder_Bar_r a0 a1 h0) hs

theorem reorder_Bar_p (a0 : Reorder) (a1 : Int) {r : ((List Frame) × Reorder × Int)} (h0 : reorder_Bar a0 a1 = some r) : SndP K 18 [(.agg (E_Reorder a0)), (vi a1)] (.tup [(S_Frame r.1), (.agg (E_Reorder r.2.1)), (vi r.2.2)]) :=
 SndM.pure (reorder_Bar_m a0 a1 h0) (Clean.tup (clean_cons (S_Frame_clean _) (clean_cons (Clean.agg (E_Reorder_clean _)) (clean_cons (Clean.v _) clean_nil)))) (clean_cons (Clean.agg (E_Reorder_clean _)) (clean_cons (Clean.v _) clean_nil)) (by simp only [go_sem, newL_n, newL_c, upd_get, fz, nilS, cond_true, cond_false, List.drop_zero, List.take_length, List.length_map, ble_self, Nat.reduceEqDiff, reduceIte, Nat.reduceAdd, Nat.reduceMul, Nat.reduceSub, Nat.reduceLT, Nat.reduceLeDiff] <;> rfl)

end Go.AX.Z.TR

/-! (TRW expire tail) -/

set_option linter.unusedSimpArgs false
set_option linter.unusedVariables false
set_option maxHeartbeats 4000000
set_option maxRecDepth 20000
namespace Go.AX.Z.TR
open Go.AX Go.Proofs
attribute [local irreducible] awp xw xop xcall gsp ob xd xdop xcallD seqQ loopQ blkQ endQ

def tlE (c : Option Code) : Code := match c with
 | some (.seq _ (.seq _ (.seq _ (.seq _ c)))) => c
 | _ => .skip

theorem expire_tail {s : AS} (b : Reorder) (now : Int) (l : List HeldSeq) {r : List Frame × Reorder × Int} (h2 : s.tmps 2 = .ptr 0 0) (h3 : s.tmps 3 = .ptr 2 0) (h4 : s.tmps 4 = .ptr 3 0) (h5 : s.tmps 5 = .ptr 4 0) (h6 : s.tmps 6 = .ptr 5 0)
  (g0 : s.objs 0 = .live (e_Reorder b (.ref 1 0 l.length 42))) (g1 : s.objs 1 = .live (List.flatMap E_HeldSeq l)) (g2 : s.objs 2 = .live [vi now]) (g3 : s.objs 3 = .live [vnil]) (g4 : s.objs 4 = .live (e_Reorder Reorder.z vnil)) (g5 : s.objs 5 = .live [vi 0]) (hn : s.next = 6)
  (hL : l.length < 4611686018427387904) {o : Ex (List Frame × Reorder × Int) Unit} (ho : reorder_Expire_L0 b now l l.length = some o) (h0 : (o.k fun _ => some ([], { b with Held := l }, 0)) = some r) :
  awp 0 K (tlE Try.f20.body) (endW 0 K Try.f20 (fun r' s' => Res r' s' (fun q => .tup [.ref (q 0) 0 r.1.length 41, .agg (e_Reorder r.2.1 (.ref (q 1) 0 r.2.1.Held.length 42)), vi r.2.2]) [List.flatMap E_Frame r.1, List.flatMap E_HeldSeq r.2.1.Held])) s := by
 obtain ⟨⟨objs, nx⟩, tm⟩ := s
 simp only at h2 h3 h4 h5 h6 g0 g1 g2 g3 g4 g5 hn
 subst hn
 show awp 0 K (.seq (.seq _ _) _) _ _
 refine awp_assoc ?_
 refine awp_reg fun KK hKK => ?_
 refine xw_id ?_
 simp only [go_sem, ↓iop_and, ↓iop_or, ↓iop_xor, ↓iop_andn, Nat.reduceEqDiff, reduceIte, Nat.reduceAdd, Nat.reduceMul, Nat.reduceSub, Nat.reduceLT, Nat.reduceLeDiff, Int.reduceToNat, Int.reduceBEq, Int.reduceBNe, Int.reduceLT, Int.reduceLE, Int.reduceAdd, Int.reduceSub, Int.reduceMul, Int.reduceNeg, Int.reduceEq, Int.reduceNe, h2, g0]
 refine xcall_g (back_snd l.length 1 _) ?_
 rintro r' hs' ⟨rfl, hob, hnx⟩
 obtain ⟨objs', nx'⟩ := hs'
 simp only at hob hnx
 try dsimp only
 refine hKK _ ?_; clear hKK KK
 have k9 : objs' 9 = .live [.ref 1 0 l.length 42] := by rw [hob, upd_eq]
 have k0 : objs' 0 = .live (e_Reorder b (.ref 1 0 l.length 42)) := by rw [hob, upd_ne _ _ (by decide)]; exact g0
 have k1 : objs' 1 = .live (List.flatMap E_HeldSeq l) := by rw [hob, upd_ne _ _ (by decide)]; exact g1
 have k2 : objs' 2 = .live [vi now] := by rw [hob, upd_ne _ _ (by decide)]; exact g2
 have k3 : objs' 3 = .live [vnil] := by rw [hob, upd_ne _ _ (by decide)]; exact g3
 have k4 : objs' 4 = .live (e_Reorder Reorder.z vnil) := by rw [hob, upd_ne _ _ (by decide)]; exact g4
 have k5 : objs' 5 = .live [vi 0] := by rw [hob, upd_ne _ _ (by decide)]; exact g5
 clear hob g0 g1 g2 g3 g4 g5
 refine awp_block ?_
 refine awp_rangeFunc hC (gf := 61) (caps := [.ptr 9 0]) (xs := backX l) rfl (back_iter l hL 9 1) ⟨Try.f61, Try.func61, rfl, rfl⟩ (by
   intro x hx
   obtain ⟨i, hi⟩ := List.mem_iff_getElem?.1 hx
   obtain ⟨_, _, _, _, rfl⟩ := backX_inv hi
   rfl) (by decide +kernel) (by decide +kernel)
  (fun i hs => 9 < hs.next ∧ (hs.objs 9 = .live [.ref 1 0 l.length 42] ∧ hs.objs 0 = .live (e_Reorder b (.ref 1 0 l.length 42)) ∧ hs.objs 1 = .live (List.flatMap E_HeldSeq l) ∧ hs.objs 2 = .live [vi now] ∧ hs.objs 3 = .live [vnil] ∧
   hs.objs 4 = .live (e_Reorder Reorder.z vnil) ∧ hs.objs 5 = .live [vi 0]) ∧ ∃ c, i + c = l.length ∧ reorder_Expire_L0 b now l c = some o)
  (fun e hs => e = .ret ∧ ∃ (z : List Frame × Reorder × List HeldSeq) (a c : Nat), o = Ex.ret (z.1, { z.2.1 with Held := z.2.2 }, 0) ∧ (9 < a ∧ 9 < c ∧ a ≠ c ∧ a < hs.next ∧ c < hs.next) ∧ hs.objs 3 = .live [.ref a 0 z.1.length 41] ∧
   hs.objs 4 = .live (e_Reorder z.2.1 (.ref c 0 z.2.2.length 42)) ∧ hs.objs 5 = .live [vi 0] ∧ hs.objs a = .live (List.flatMap E_Frame z.1) ∧ hs.objs c = .live (List.flatMap E_HeldSeq z.2.2)) ?_ ?_ ?_ ?_ ?_ ?_ ?_
 ·
  rintro i ⟨ob, n⟩ n' ⟨a1, a2, a3⟩ hle
  exact ⟨by simp only at a1 hle ⊢; omega, a2, a3⟩
 ·
  rintro e ⟨ob, n⟩ n' ⟨he, z, a, c, b1, ⟨b2, b3, b4, b5, b6⟩, b7⟩ hle
  simp only at b5 b6 hle
  exact ⟨he, z, a, c, b1, ⟨b2, b3, b4, by simp only; omega, by simp only; omega⟩, b7⟩
 ·
  rintro i hs ⟨_, ⟨a2, _, a3, _⟩, _⟩; exact ⟨a2, a3⟩
 ·
  exact ⟨hnx, ⟨k9, k0, k1, k2, k3, k4, k5⟩, l.length, by omega, ho⟩
 ·
  rintro k x ⟨ob, n⟩ hx ⟨a1, ⟨k9, k0, k1, k2, k3, k4, k5⟩, c, hc, hLc⟩
  simp only at a1 k9 k0 k1 k2 k3 k4 k5
  obtain ⟨i, e, hi, he, rfl⟩ := backX_inv hx
  have hci : c = i + 1 := by omega
  subst hci
  rw [reorder_Expire_L0, he, Option.bind_some] at hLc
  have n0 : (0 = n) = False := eq_false (by omega)
  have n1 : (1 = n) = False := eq_false (by omega)
  have n2 : (2 = n) = False := eq_false (by omega)
  have n3 : (3 = n) = False := eq_false (by omega)
  have n4 : (4 = n) = False := eq_false (by omega)
  have n5 : (5 = n) = False := eq_false (by omega)
  have n9 : (9 = n) = False := eq_false (by omega)
  refine awp_reg1 fun KK hKK => ?_
  refine xw_id ?_
  simp only [putAll, go_sem, ↓iop_and, ↓iop_or, ↓iop_xor, ↓iop_andn, Nat.reduceEqDiff, reduceIte, Nat.reduceAdd, Nat.reduceMul, Nat.reduceSub, Nat.reduceLT, Nat.reduceLeDiff, Int.reduceToNat, Int.reduceBEq, Int.reduceBNe, Int.reduceLT, Int.reduceLE, Int.reduceAdd, Int.reduceSub, Int.reduceMul, Int.reduceNeg, Int.reduceEq, Int.reduceNe]
  refine hKK _ ?_; clear hKK KK
  rw [seqQ_n]
  refine awp_block1 ?_
  refine awp_reg fun KK hKK => ?_
  refine xw_id ?_
  simp only [go_sem, ↓iop_and, ↓iop_or, ↓iop_xor, ↓iop_andn, Nat.reduceEqDiff, reduceIte, Nat.reduceAdd, Nat.reduceMul, Nat.reduceSub, Nat.reduceLT, Nat.reduceLeDiff, Int.reduceToNat, Int.reduceBEq, Int.reduceBNe, Int.reduceLT, Int.reduceLE, Int.reduceAdd, Int.reduceSub, Int.reduceMul, Int.reduceNeg, Int.reduceEq, Int.reduceNe, h2, h3, k0, k2, n0, n2]
  refine hKK _ ?_; clear hKK KK
  refine awp_cond1 (b := decide (IntKind.wrap .i64 (e.At + b.Hold) ≤ now)) rfl (fun hT => ?_) (fun hF => ?_)
  ·
   rw [hT, cond_true] at hLc
   obtain ⟨y, by_, hLc⟩ := bnd hLc
   obtain ⟨z, bz, hLc⟩ := bnd hLc
   obtain rfl := someInj hLc
   refine awp_regD fun KK hKK all hall => ?_
   refine xd_id ?_
   try simp only [List.toList_toArray, List.map_cons, List.map_nil, List.size_toArray, List.length_cons, List.length_nil, Nat.zero_add]
   try simp only [Nat.reduceAdd]
   simp only [go_sem, ↓iop_and, ↓iop_or, ↓iop_xor, ↓iop_andn, Nat.reduceEqDiff, reduceIte, Nat.reduceAdd, Nat.reduceMul, Nat.reduceSub, Nat.reduceLT, Nat.reduceLeDiff, Int.reduceToNat, Int.reduceBEq, Int.reduceBNe, Int.reduceLT, Int.reduceLE, Int.reduceAdd, Int.reduceSub, Int.reduceMul, Int.reduceNeg, Int.reduceEq, Int.reduceNe, h2, h3, h4, h5, h6, k0, k1, k2, n0, n1, n2]
   refine xcallD_p (window_Add_p _ _ by_) ?_; try dsimp only
   try refine xd_id ?_
   simp only [go_sem, ↓iop_and, ↓iop_or, ↓iop_xor, ↓iop_andn, Nat.reduceEqDiff, reduceIte, Nat.reduceAdd, Nat.reduceMul, Nat.reduceSub, Nat.reduceLT, Nat.reduceLeDiff, Int.reduceToNat, Int.reduceBEq, Int.reduceBNe, Int.reduceLT, Int.reduceLE, Int.reduceAdd, Int.reduceSub, Int.reduceMul, Int.reduceNeg, Int.reduceEq, Int.reduceNe, h2, h3, h4, h5, h6, k0, k1, k2, n0, n1, n2]
   refine xcallD_O [1] (reorder_move_io { b with Held := l } y bz) (by decide) (by intro x hx; rw [List.mem_singleton.1 hx]; omega) ⟨(by rw [upd_ne _ _ (by omega), upd_ne _ _ (by omega)]; exact k1), trivial⟩ (by simp only [go_sem, ↓iop_and, ↓iop_or, ↓iop_xor, ↓iop_andn, Nat.reduceEqDiff, reduceIte, Nat.reduceAdd, Nat.reduceMul, Nat.reduceSub, Nat.reduceLT, Nat.reduceLeDiff]; rfl) (by subst hall; decide +kernel) (by subst hall; first | decide +kernel | (simp [printsOk, apartP, clash, meet]; done) | (simp [printsOk, apartP, clash, meet]; decide +kernel))  ?_; try dsimp only
   try refine xd_id ?_
   have m3 : (3 = n + 21) = False := eq_false (by omega)
   have m3' : (3 = n + 22) = False := eq_false (by omega)
   have m4 : (4 = n + 21) = False := eq_false (by omega)
   have m4' : (4 = n + 22) = False := eq_false (by omega)
   simp only [go_sem, ↓iop_and, ↓iop_or, ↓iop_xor, ↓iop_andn, Nat.reduceEqDiff, reduceIte, Nat.reduceAdd, Nat.reduceMul, Nat.reduceSub, Nat.reduceLT, Nat.reduceLeDiff, Int.reduceToNat, Int.reduceBEq, Int.reduceBNe, Int.reduceLT, Int.reduceLE, Int.reduceAdd, Int.reduceSub, Int.reduceMul, Int.reduceNeg, Int.reduceEq, Int.reduceNe, h2, h3, h4, h5, h6, k3, k4, n3, n4, m3, m3', m4, m4']
   refine And.intro ?_ (hKK _ ?_)
   ·
    subst hall
    clear hKK KK
    first | decide +kernel | (simp [printsOk, apartP, clash, meet]; done) | (simp [printsOk, apartP, clash, meet]; decide +kernel)
   ·
    clear hKK KK hall all
    have m5 : (5 = n + 21) = False := eq_false (by omega)
    have m5' : (5 = n + 22) = False := eq_false (by omega)
    refine awp_regD fun KK hKK all hall => ?_
    refine xd_id ?_
    try simp only [List.toList_toArray, List.map_cons, List.map_nil, List.size_toArray, List.length_cons, List.length_nil, Nat.zero_add]
    try simp only [Nat.reduceAdd]
    simp only [go_sem, ↓iop_and, ↓iop_or, ↓iop_xor, ↓iop_andn, Nat.reduceEqDiff, reduceIte, Nat.reduceAdd, Nat.reduceMul, Nat.reduceSub, Nat.reduceLT, Nat.reduceLeDiff, Int.reduceToNat, Int.reduceBEq, Int.reduceBNe, Int.reduceLT, Int.reduceLE, Int.reduceAdd, Int.reduceSub, Int.reduceMul, Int.reduceNeg, Int.reduceEq, Int.reduceNe, h2, h3, h4, h5, h6, k5, n5, m5, m5']
    refine And.intro ?_ (hKK _ ?_)
    ·
     subst hall
     clear hKK KK
     first | decide +kernel | (simp [printsOk, apartP, clash, meet]; done) | (simp [printsOk, apartP, clash, meet]; decide +kernel)
    ·
     clear hKK KK hall all
     refine awp_ret1 ?_
     have q1 : (n + 21 = 5) = False := eq_false (by omega)
     have q2 : (n + 21 = 4) = False := eq_false (by omega)
     have q3 : (n + 21 = 3) = False := eq_false (by omega)
     have q4 : (n + 21 = n + 22) = False := eq_false (by omega)
     have q5 : (n + 22 = 5) = False := eq_false (by omega)
     have q6 : (n + 22 = 4) = False := eq_false (by omega)
     have q7 : (n + 22 = 3) = False := eq_false (by omega)
     refine bq_r ?_
     refine ⟨rfl, z, n + 21, n + 22, rfl, ⟨by omega, by omega, by omega, ?_, ?_⟩, ?_, ?_, ?_, ?_, ?_⟩
     ·
      show n + 21 < n + 28; omega
     ·
      show n + 22 < n + 28; omega
     all_goals simp only [upd_get, ↓iop_and, ↓iop_or, ↓iop_xor, ↓iop_andn, Nat.reduceEqDiff, reduceIte, Nat.reduceAdd, Nat.reduceMul, Nat.reduceSub, Nat.reduceLT, Nat.reduceLeDiff, q1, q2, q3, q4, q5, q6, q7, if_true, if_false] <;> rfl
  ·
   rw [hF, cond_false] at hLc
   refine awp_skip1 ?_
   rw [blkQ_n]
   have q0 : (0 = n) = False := eq_false (by omega)
   refine ⟨by show 9 < n + 9; omega, ⟨?_, ?_, ?_, ?_, ?_, ?_, ?_⟩, i, by omega, hLc⟩
   ·
    simp only [upd_get, ↓iop_and, ↓iop_or, ↓iop_xor, ↓iop_andn, Nat.reduceEqDiff, reduceIte, Nat.reduceAdd, Nat.reduceMul, Nat.reduceSub, Nat.reduceLT, Nat.reduceLeDiff, n9, if_false]; exact k9
   ·
    simp only [upd_get, ↓iop_and, ↓iop_or, ↓iop_xor, ↓iop_andn, Nat.reduceEqDiff, reduceIte, Nat.reduceAdd, Nat.reduceMul, Nat.reduceSub, Nat.reduceLT, Nat.reduceLeDiff, n0, if_false]; exact k0
   ·
    simp only [upd_get, ↓iop_and, ↓iop_or, ↓iop_xor, ↓iop_andn, Nat.reduceEqDiff, reduceIte, Nat.reduceAdd, Nat.reduceMul, Nat.reduceSub, Nat.reduceLT, Nat.reduceLeDiff, n1, if_false]; exact k1
   ·
    simp only [upd_get, ↓iop_and, ↓iop_or, ↓iop_xor, ↓iop_andn, Nat.reduceEqDiff, reduceIte, Nat.reduceAdd, Nat.reduceMul, Nat.reduceSub, Nat.reduceLT, Nat.reduceLeDiff, n2, if_false]; exact k2
   ·
    simp only [upd_get, ↓iop_and, ↓iop_or, ↓iop_xor, ↓iop_andn, Nat.reduceEqDiff, reduceIte, Nat.reduceAdd, Nat.reduceMul, Nat.reduceSub, Nat.reduceLT, Nat.reduceLeDiff, n3, if_false]; exact k3
   ·
    simp only [upd_get, ↓iop_and, ↓iop_or, ↓iop_xor, ↓iop_andn, Nat.reduceEqDiff, reduceIte, Nat.reduceAdd, Nat.reduceMul, Nat.reduceSub, Nat.reduceLT, Nat.reduceLeDiff, n4, if_false]; exact k4
   ·
    simp only [upd_get, ↓iop_and, ↓iop_or, ↓iop_xor, ↓iop_andn, Nat.reduceEqDiff, reduceIte, Nat.reduceAdd, Nat.reduceMul, Nat.reduceSub, Nat.reduceLT, Nat.reduceLeDiff, n5, if_false]; exact k5
 ·
  rintro ⟨ob, n⟩ ⟨a1, ⟨k9, k0, k1, k2, k3, k4, k5⟩, c, hc, hLc⟩
  simp only at a1 k9 k0 k1 k2 k3 k4 k5
  rw [backX_len] at hc
  have hc0 : c = 0 := by omega
  subst hc0
  rw [reorder_Expire_L0] at hLc
  obtain rfl := someInj hLc
  obtain rfl := someInj h0
  rw [blkQ_n, seqQ_n]
  refine awp_regD fun KK hKK all hall => ?_
  refine xd_id ?_
  try simp only [List.toList_toArray, List.map_cons, List.map_nil, List.size_toArray, List.length_cons, List.length_nil, Nat.zero_add]
  try simp only [Nat.reduceAdd]
  simp only [go_sem, ↓iop_and, ↓iop_or, ↓iop_xor, ↓iop_andn, Nat.reduceEqDiff, reduceIte, Nat.reduceAdd, Nat.reduceMul, Nat.reduceSub, Nat.reduceLT, Nat.reduceLeDiff, Int.reduceToNat, Int.reduceBEq, Int.reduceBNe, Int.reduceLT, Int.reduceLE, Int.reduceAdd, Int.reduceSub, Int.reduceMul, Int.reduceNeg, Int.reduceEq, Int.reduceNe, h2, h3, h4, h5, h6, k0, k1, k2, k3, k4, k5]
  refine And.intro ?_ (hKK _ ?_)
  ·
   subst hall
   clear hKK KK
   first | decide +kernel | (simp [printsOk, apartP, clash, meet]; done) | (simp [printsOk, apartP, clash, meet]; decide +kernel)
  ·
   clear hKK KK hall all
   refine awp_ret1 ?_
   refine ⟨_, Wk.refl _ _ _, ?_⟩
   refine end_ret0 (fn := Try.f20) (rs := #[.cell 4 46, .cell 5 27, .cell 6 28]) rfl (by simp only [go_sem, resV, resAll, resOf, packR, ↓iop_and, ↓iop_or, ↓iop_xor, ↓iop_andn, Nat.reduceEqDiff, reduceIte, Nat.reduceAdd, Nat.reduceMul, Nat.reduceSub, Nat.reduceLT, Nat.reduceLeDiff, Int.reduceToNat, Int.reduceBEq, Int.reduceBNe, Int.reduceLT, Int.reduceLE, Int.reduceAdd, Int.reduceSub, Int.reduceMul, Int.reduceNeg, Int.reduceEq, Int.reduceNe, h2, h3, h4, h5, h6, k0, k1, k2, k3, k4, k5]; rfl) ?_
   exact Res.mk [] [none, some 1] rfl (resON (resOU List.not_mem_nil (by simp only [upd_get, ↓iop_and, ↓iop_or, ↓iop_xor, ↓iop_andn, Nat.reduceEqDiff, reduceIte, Nat.reduceAdd, Nat.reduceMul, Nat.reduceSub, Nat.reduceLT, Nat.reduceLeDiff, if_true, if_false]; exact k1) (TmL.of_eq rfl (c_HeldSeq _)) resO0)) (Tm.tup (TmL.cons (Tm.thaw _ _ _) (TmL.cons (Tm.agg (e_Reorder_tmx (by rfl) (Tm.refL rfl rfl))) (TmL.cons (Tm.v _) TmL.nil))))
 ·
  rintro e ⟨ob, n⟩ hne ⟨rfl, z, a, c, rfl, ⟨b1, b2, b3, b4, b5⟩, k3, k4, k5, ka, kc⟩
  simp only at b4 b5 k3 k4 k5 ka kc
  obtain rfl := someInj h0
  refine bq_r ?_
  refine sq_r ?_
  refine ⟨_, Wk.refl _ _ _, ?_⟩
  refine end_ret0 (fn := Try.f20) (rs := #[.cell 4 46, .cell 5 27, .cell 6 28]) rfl (by simp only [go_sem, resV, resAll, resOf, packR, ↓iop_and, ↓iop_or, ↓iop_xor, ↓iop_andn, Nat.reduceEqDiff, reduceIte, Nat.reduceAdd, Nat.reduceMul, Nat.reduceSub, Nat.reduceLT, Nat.reduceLeDiff, Int.reduceToNat, Int.reduceBEq, Int.reduceBNe, Int.reduceLT, Int.reduceLE, Int.reduceAdd, Int.reduceSub, Int.reduceMul, Int.reduceNeg, Int.reduceEq, Int.reduceNe, h2, h3, h4, h5, h6, k3, k4, k5]; rfl) ?_
  exact Res.mk [] [some a, some c] (by first | rfl | (simp [sgB]; omega)) (resOU List.not_mem_nil ka (TmL.of_eq rfl (c_Frame _)) (resOU List.not_mem_nil kc (TmL.of_eq rfl (c_HeldSeq _)) resO0)) (Tm.tup (TmL.cons (Tm.refL rfl rfl) (TmL.cons (Tm.agg (e_Reorder_tmx (by rfl) (Tm.refL rfl rfl))) (TmL.cons (Tm.v _) TmL.nil))))

end Go.AX.Z.TR

/-! (TRW reorder Expire) -/

set_option linter.unusedSimpArgs false
set_option linter.unusedVariables false
set_option maxHeartbeats 4000000
set_option maxRecDepth 20000
namespace Go.AX.Z.TR
open Go.AX Go.Proofs
attribute [local irreducible] awp xw xop xcall gsp ob xd xdop xcallD seqQ loopQ blkQ endQ

def reorder_Expire_S0 (a0 : Reorder) (a1 : Int) : AS :=
 { objs := (upd (upd (upd (upd (upd (fun _ => .dead) 0 (.live (e_Reorder a0 (.imm (List.flatMap E_HeldSeq a0.Held) a0.Held.length)))) 1 (.live [(vi a1)])) 2 (.live [vnil])) 3 (.live (e_Reorder Reorder.z vnil))) 4 (.live [(vi 0)])), next := 5, tmps := (upd (upd (upd (upd (upd (fun _ => .unk) 2 (.ptr 0 0)) 3 (.ptr 1 0)) 4 (.ptr 2 0)) 5 (.ptr 3 0)) 6 (.ptr 4 0)) }

def reorder_Expire_S1 (a0 : Reorder) (x28 : (List HeldSeq)) (a1 : Int) : AS :=
 { objs := (upd (upd (upd (upd (upd (upd (fun _ => .dead) 0 (.live (e_Reorder a0 (.ref 1 0 x28.length 42)))) 1 (.live (List.flatMap E_HeldSeq x28))) 2 (.live [(vi a1)])) 3 (.live [vnil])) 4 (.live (e_Reorder Reorder.z vnil))) 5 (.live [(vi 0)])), next := 6, tmps := (upd (upd (upd (upd (upd (fun _ => .unk) 2 (.ptr 0 0)) 3 (.ptr 2 0)) 4 (.ptr 3 0)) 5 (.ptr 4 0)) 6 (.ptr 5 0)) }

theorem reorder_Expire_r (a0 : Reorder) (a1 : Int) {r : ((List Frame) × Reorder × Int)} (h0 : reorder_Expire a0 a1 = some r) : SndR K 20 [(.agg (E_Reorder a0)), (vi a1)] (fun q => (.tup [(.ref (q 0) 0 r.1.length 41), (.agg (e_Reorder r.2.1 (.ref (q 1) 0 r.2.1.Held.length 42))), (vi r.2.2)])) [(List.flatMap E_Frame r.1), (List.flatMap E_HeldSeq r.2.1.Held)] := by
 refine SndR.of_walkW hC (show K.P.funcs[20]? = some Try.f20 from Try.func20) rfl rfl (by decide +kernel) (Nat.le_of_ble_eq_true rfl) ?_
 unfold reorder_Expire at h0
 refine awp_nr [0,1] (fun _ => rfl) fun tz => ?_
 refine awp_regW fun KK hKK => ?_
 refine xw_id ?_
 try simp only [go_sem, Nat.reduceEqDiff, reduceIte, Nat.reduceAdd, Nat.reduceMul, Nat.reduceSub, Nat.reduceLT, Nat.reduceLeDiff]
 refine hKK _ (reorder_Expire_S0 a0 a1) (Wk.canonD [] [] [some 0, some 1, some 2, some 3, some 4] rfl trivial rfl (tmOU 4 (tmOU 3 (tmOU 2 (tmOU 1 (tmOU 0 tmO0 rfl List.not_mem_nil (by simp only [upd_get, Nat.reduceEqDiff, reduceIte, Nat.reduceAdd, Nat.reduceMul, Nat.reduceSub, Nat.reduceLT, Nat.reduceLeDiff, if_true, if_false] <;> rfl) (e_Reorder_tmx (by rfl) (Tm.clean (Clean.imm (c_HeldSeq _))))) rfl List.not_mem_nil (by simp only [upd_get, Nat.reduceEqDiff, reduceIte, Nat.reduceAdd, Nat.reduceMul, Nat.reduceSub, Nat.reduceLT, Nat.reduceLeDiff, if_true, if_false] <;> rfl) (TmL.cons (Tm.v _) TmL.nil)) rfl List.not_mem_nil (by simp only [upd_get, Nat.reduceEqDiff, reduceIte, Nat.reduceAdd, Nat.reduceMul, Nat.reduceSub, Nat.reduceLT, Nat.reduceLeDiff, if_true, if_false] <;> rfl) (TmL.cons (Tm.v _) TmL.nil)) rfl List.not_mem_nil (by simp only [upd_get, Nat.reduceEqDiff, reduceIte, Nat.reduceAdd, Nat.reduceMul, Nat.reduceSub, Nat.reduceLT, Nat.reduceLeDiff, if_true, if_false] <;> rfl) (e_Reorder_tmx (by rfl) (Tm.v _))) rfl List.not_mem_nil (by simp only [upd_get, Nat.reduceEqDiff, reduceIte, Nat.reduceAdd, Nat.reduceMul, Nat.reduceSub, Nat.reduceLT, Nat.reduceLeDiff, if_true, if_false] <;> rfl) (TmL.cons (Tm.v _) TmL.nil)) (tmAllU 6 (tmAllU 5 (tmAllU 4 (tmAllU 3 (tmAllU 2 tmAll0 (Tm.ptr rfl)) (Tm.ptr rfl)) (Tm.ptr rfl)) (Tm.ptr rfl)) (Tm.ptr rfl))) ?_; clear hKK KK
 unfold reorder_Expire_S0
 refine awp_assoc ?_
 refine awp_nr [2,3,4,5,6] (fun _ => rfl) fun tz => ?_
 refine awp_regW fun KK hKK => ?_
 refine xw_id ?_
 obtain ⟨x26, bx26, h0⟩ := bnd h0
 try simp only [go_sem, Nat.reduceEqDiff, reduceIte, Nat.reduceAdd, Nat.reduceMul, Nat.reduceSub, Nat.reduceLT, Nat.reduceLeDiff]
 refine xcall_p (reorder_Check_p a0 bx26) ?_; try dsimp only
 try refine xw_id ?_
 try simp only [go_sem, Nat.reduceEqDiff, reduceIte, Nat.reduceAdd, Nat.reduceMul, Nat.reduceSub, Nat.reduceLT, Nat.reduceLeDiff]
 refine hKK _ _ (Wk.refl _ _ _) ?_; clear hKK KK
 refine awp_assoc ?_
 refine awp_nr [2,3,4,5,6,7] (fun _ => rfl) fun tz => ?_
 refine awp_regW fun KK hKK => ?_
 refine xw_id ?_
 try simp only [go_sem, Nat.reduceEqDiff, reduceIte, Nat.reduceAdd, Nat.reduceMul, Nat.reduceSub, Nat.reduceLT, Nat.reduceLeDiff]
 refine hKK _ _ (Wk.refl _ _ _) ?_; clear hKK KK
 refine awp_cond (b := (x26 != 0)) rfl (fun h1 => ?_) (fun h1 => ?_)
 ·
  have h0 := cT h0 h1
  refine awp_assoc ?_
  refine awp_nr [4,5,6,7] (fun _ => rfl) fun tz => ?_
  refine awp_regW fun KK hKK => ?_
  refine xw_id ?_
  try simp only [go_sem, Nat.reduceEqDiff, reduceIte, Nat.reduceAdd, Nat.reduceMul, Nat.reduceSub, Nat.reduceLT, Nat.reduceLeDiff]
  refine hKK _ _ (Wk.refl _ _ _) ?_; clear hKK KK
  refine awp_ret ?_
  obtain rfl := someInj h0
  refine endW_i ?_
  refine end_ret0 rs20 (by simp only [go_sem, resV, resAll, resOf, packR, Nat.reduceEqDiff, reduceIte, Nat.reduceAdd, Nat.reduceMul, Nat.reduceSub, Nat.reduceLT, Nat.reduceLeDiff]; rfl) ?_
  refine Res.mk [] [none, none] rfl (resON (resON resO0)) (Tm.tup (TmL.cons (Tm.thaw _ _ _) (TmL.cons (Tm.agg (e_Reorder_tmx (by rfl) (Tm.thaw _ _ _))) (TmL.cons (Tm.v _) TmL.nil))))
 ·
  have h0 := cF h0 h1
  refine awp_skip ?_
  refine awp_assoc ?_
  refine awp_nr [2,3,4,5,6] (fun _ => rfl) fun tz => ?_
  refine awp_regW fun KK hKK => ?_
  refine xw_id ?_
  obtain ⟨x27, bx27, h0⟩ := bnd h0
  try simp only [go_sem, Nat.reduceEqDiff, reduceIte, Nat.reduceAdd, Nat.reduceMul, Nat.reduceSub, Nat.reduceLT, Nat.reduceLeDiff]
  refine xcall_p (reorder_moment_p a1 bx27) ?_; try dsimp only
  try refine xw_id ?_
  try simp only [go_sem, Nat.reduceEqDiff, reduceIte, Nat.reduceAdd, Nat.reduceMul, Nat.reduceSub, Nat.reduceLT, Nat.reduceLeDiff]
  refine hKK _ _ (Wk.refl _ _ _) ?_; clear hKK KK
  refine awp_cond (b := (!x27)) rfl (fun h2 => ?_) (fun h2 => ?_)
  ·
   have h0 := cT h0 h2
   refine awp_assoc ?_
   refine awp_nr [4,5,6] (fun _ => rfl) fun tz => ?_
   refine awp_regW fun KK hKK => ?_
   refine xw_id ?_
   try simp only [go_sem, Nat.reduceEqDiff, reduceIte, Nat.reduceAdd, Nat.reduceMul, Nat.reduceSub, Nat.reduceLT, Nat.reduceLeDiff]
   refine hKK _ _ (Wk.refl _ _ _) ?_; clear hKK KK
   refine awp_ret ?_
   obtain rfl := someInj h0
   refine endW_i ?_
   refine end_ret0 rs20 (by simp only [go_sem, resV, resAll, resOf, packR, Nat.reduceEqDiff, reduceIte, Nat.reduceAdd, Nat.reduceMul, Nat.reduceSub, Nat.reduceLT, Nat.reduceLeDiff]; rfl) ?_
   refine Res.mk [] [none, none] rfl (resON (resON resO0)) (Tm.tup (TmL.cons (Tm.thaw _ _ _) (TmL.cons (Tm.agg (e_Reorder_tmx (by rfl) (Tm.thaw _ _ _))) (TmL.cons (Tm.v _) TmL.nil))))
  ·
   have h0 := cF h0 h2
   refine awp_skip ?_
   refine awp_nr [2,3,4,5,6] (fun _ => rfl) fun tz => ?_
   refine awp_regW fun KK hKK => ?_
   refine xw_id ?_
   obtain ⟨x28, bx28, h0⟩ := bnd h0
   try simp only [go_sem, Nat.reduceEqDiff, reduceIte, Nat.reduceAdd, Nat.reduceMul, Nat.reduceSub, Nat.reduceLT, Nat.reduceLeDiff]
   refine xcall_M (reorder_twin_m a0.Held bx28) ?_; try dsimp only
   try refine xw_id ?_
   try simp only [go_sem, Nat.reduceEqDiff, reduceIte, Nat.reduceAdd, Nat.reduceMul, Nat.reduceSub, Nat.reduceLT, Nat.reduceLeDiff]
   refine hKK _ (reorder_Expire_S1 a0 x28 a1) (by refine Wk.canonD [] [] [some 0, some 18, some 1, some 2, some 3, some 4] rfl trivial rfl (tmOU 5 (tmOU 4 (tmOU 3 (tmOU 2 (tmOU 1 (tmOU 0 tmO0 rfl List.not_mem_nil (by simp only [upd_get, Nat.reduceEqDiff, reduceIte, Nat.reduceAdd, Nat.reduceMul, Nat.reduceSub, Nat.reduceLT, Nat.reduceLeDiff, if_true, if_false] <;> rfl) (e_Reorder_tmx (by rfl) (Tm.refL rfl ?_))) rfl List.not_mem_nil (by simp only [upd_get, Nat.reduceEqDiff, reduceIte, Nat.reduceAdd, Nat.reduceMul, Nat.reduceSub, Nat.reduceLT, Nat.reduceLeDiff, if_true, if_false] <;> rfl) (TmL.of_eq (by first | rfl | (simp only [List.flatMap_append, List.flatMap_cons, List.flatMap_nil, List.map_append, List.map_cons, List.map_nil, List.append_nil, List.nil_append]; done) | (simp only [List.flatMap_append, List.flatMap_cons, List.flatMap_nil, List.map_append, List.map_cons, List.map_nil, List.append_nil, List.nil_append]; rfl)) (c_HeldSeq _))) rfl List.not_mem_nil (by simp only [upd_get, Nat.reduceEqDiff, reduceIte, Nat.reduceAdd, Nat.reduceMul, Nat.reduceSub, Nat.reduceLT, Nat.reduceLeDiff, if_true, if_false] <;> rfl) (TmL.cons (Tm.v _) TmL.nil)) rfl List.not_mem_nil (by simp only [upd_get, Nat.reduceEqDiff, reduceIte, Nat.reduceAdd, Nat.reduceMul, Nat.reduceSub, Nat.reduceLT, Nat.reduceLeDiff, if_true, if_false] <;> rfl) (TmL.cons (Tm.v _) TmL.nil)) rfl List.not_mem_nil (by simp only [upd_get, Nat.reduceEqDiff, reduceIte, Nat.reduceAdd, Nat.reduceMul, Nat.reduceSub, Nat.reduceLT, Nat.reduceLeDiff, if_true, if_false] <;> rfl) (e_Reorder_tmx (by rfl) (Tm.v _))) rfl List.not_mem_nil (by simp only [upd_get, Nat.reduceEqDiff, reduceIte, Nat.reduceAdd, Nat.reduceMul, Nat.reduceSub, Nat.reduceLT, Nat.reduceLeDiff, if_true, if_false] <;> rfl) (TmL.cons (Tm.v _) TmL.nil)) (tmAllU 6 (tmAllU 5 (tmAllU 4 (tmAllU 3 (tmAllU 2 tmAll0 (Tm.ptr rfl)) (Tm.ptr rfl)) (Tm.ptr rfl)) (Tm.ptr rfl)) (Tm.ptr rfl)); all_goals (first | rfl | (simp only [List.length_take]; omega) | (simp only [List.length_append, List.length_cons, List.length_nil, List.length_modify, List.length_set, Nat.zero_add]; done) | (simp only [List.length_append, List.length_take, List.length_drop, List.length_cons, List.length_nil, List.length_modify, List.length_set, Nat.zero_add]; omega) | (simp only [List.length_append, List.length_take, List.length_drop, List.length_cons, List.length_nil, List.length_modify, List.length_set, Nat.zero_add]; done) | omega)) ?_; clear hKK KK
   unfold reorder_Expire_S1
   obtain ⟨x29, bx29, h0⟩ := bnd h0
   have bx29 := chk_some bx29
   simp only [decide_eq_true_eq] at bx29
   obtain ⟨o30, bo30, h0⟩ := bnd h0
   refine expire_tail a0 a1 x28 ?_ ?_ ?_ ?_ ?_ ?_ ?_ ?_ ?_ ?_ ?_ ?_ bx29 bo30 h0
   all_goals rfl

theorem reorder_Expire_m (a0 : Reorder) (a1 : Int) {r : ((List Frame) × Reorder × Int)} (h0 : reorder_Expire a0 a1 = some r) : SndM K 20 [(.agg (E_Reorder a0)), (vi a1)] (fun q => (.tup [(.ref (q 0) 0 r.1.length 41), (.agg (e_Reorder r.2.1 (.ref (q 1) 0 r.2.1.Held.length 42))), (vi r.2.2)])) [(List.flatMap E_Frame r.1), (List.flatMap E_HeldSeq r.2.1.Held)] :=
 fun hs => Snd.of_newM (RenM.tup (RenML.cons (RenM.ref 0 0 _ _) (RenML.cons (RenM.agg (e_Reorder_ren _ (RenM.ref 1 0 _ _))) (RenML.cons (RenM.const (Clean.v _)) RenML.nil)))) (rows_all_cons (c_Frame _) (rows_all_cons (c_HeldSeq _) rows_all_nil)) (clean_cons (Clean.agg (E_Reorder_clean _)) (clean_cons (Clean.v _) clean_nil)) (reorder_Expire_r a0 a1 h0) hs

theorem reorder_Expire_p (a0 : Reorder) (a1 : Int) {r : ((List Frame) × Reorder × Int)} (h0 : reorder_Expire a0 a1 = some r) : SndP K 20 [(.agg (E_Reorder a0)), (vi a1)] (.tup [(S_Frame r.1), (.agg (E_Reorder r.2.1)), (vi r.2.2)]) :=
 SndM.pure (reorder_Expire_m a0 a1 h0) (Clean.tup (clean_cons (S_Frame_clean _) (clean_cons (Clean.agg (E_Reorder_clean _)) (clean_cons (Clean.v _) clean_nil)))) (clean_cons (Clean.agg (E_Reorder_clean _)) (clean_cons (Clean.v _) clean_nil)) (by simp only [go_sem, newL_n, newL_c, upd_get, fz, nilS, cond_true, cond_false, List.drop_zero, List.take_length, List.length_map, ble_self, Nat.reduceEqDiff, reduceIte, Nat.reduceAdd, Nat.reduceMul, Nat.reduceSub, Nat.reduceLT, Nat.reduceLeDiff] <;> rfl)

end Go.AX.Z.TR

/-! (TRW hotspotref05 Same) -/

set_option linter.unusedSimpArgs false
set_option linter.unusedVariables false
set_option maxHeartbeats 4000000
set_option maxRecDepth 20000
namespace Go.AX.Z.TR
open Go.AX Go.Proofs
attribute [local irreducible] awp xw xop xcall gsp ob xd xdop xcallD seqQ loopQ blkQ endQ


theorem hotspotref05_Same_p (a0 : Frame) (a1 : Frame) {r : Bool} (h0 : hotspotref05_Same a0 a1 = some r) : SndP K 30 [(.agg (E_Frame a0)), (.agg (E_Frame a1))] (vb r) := by
 refine SndP.of_walkW hC (Clean.v _) (clean_cons (Clean.agg (E_Frame_clean _)) (clean_cons (Clean.agg (E_Frame_clean _)) clean_nil)) (show K.P.funcs[30]? = some Try.f30 from Try.func30) rfl rfl (by decide +kernel) (Nat.le_of_ble_eq_true rfl) ?_
 unfold hotspotref05_Same at h0
 refine awp_nr [0,1] (fun _ => rfl) fun tz => ?_
 refine awp_regW fun KK hKK => ?_
 refine xw_id ?_
 try simp only [go_sem, Nat.reduceEqDiff, reduceIte, Nat.reduceAdd, Nat.reduceMul, Nat.reduceSub, Nat.reduceLT, Nat.reduceLeDiff]
 refine hKK _ _ (Wk.refl _ _ _) ?_; clear hKK KK
 refine awp_nr [2,3] (fun _ => rfl) fun tz => ?_
 refine awp_regW fun KK hKK => ?_
 refine xw_id ?_
 refine xw_stop 6 (by (try simp only [go_sem]); rfl) (by (try simp only [go_sem]); rfl) (by rfl) fun K1 hK1 => ?_
 refine xw_id ?_
 try simp only [go_sem, Nat.reduceEqDiff, reduceIte, Nat.reduceAdd, Nat.reduceMul, Nat.reduceSub, Nat.reduceLT, Nat.reduceLeDiff]
 refine hK1 _ ?_; clear hK1 K1
 refine xw_cut 8 [(18, (vb ((decide (a0.Head = a1.Head)) && (sEq a0.Body a1.Body))))] (by (try simp only [go_sem]); rfl) (by (try simp only [go_sem]); rfl) (by rfl) (fun K1 hK1 => ?_) fun tz => ?_
 ·
  refine xw_id ?_
  rcases Bool.eq_false_or_eq_true (decide (a0.Head = a1.Head)) with h1 | h1
  ·
   try simp only [go_sem, Nat.reduceEqDiff, reduceIte, Nat.reduceAdd, Nat.reduceMul, Nat.reduceSub, Nat.reduceLT, Nat.reduceLeDiff, h1, vu_len, Nat.mul_one, vu_len, Nat.mul_one]
   exact hK1 _ ⟨rfl, (by first | rfl | (rw [h1]; rfl) | (simp only [h1, Bool.true_and, Bool.false_and, Bool.true_or, Bool.false_or, cond_true, cond_false]; done)), trivial⟩
  ·
   try simp only [go_sem, Nat.reduceEqDiff, reduceIte, Nat.reduceAdd, Nat.reduceMul, Nat.reduceSub, Nat.reduceLT, Nat.reduceLeDiff, h1]
   exact hK1 _ ⟨rfl, (by first | rfl | (rw [h1]; rfl) | (simp only [h1, Bool.true_and, Bool.false_and, Bool.true_or, Bool.false_or, cond_true, cond_false]; done)), trivial⟩
 ·
  refine xw_id ?_
  try simp only [go_sem, Nat.reduceEqDiff, reduceIte, Nat.reduceAdd, Nat.reduceMul, Nat.reduceSub, Nat.reduceLT, Nat.reduceLeDiff]
  refine hKK _ _ (Wk.refl _ _ _) ?_; clear hKK KK
  refine awp_ret1 ?_
  obtain rfl := someInj h0
  refine endW_i ?_
  refine end_ret0 rs30 (rfl) ?_
  try simp only [go_sem, Nat.reduceEqDiff, reduceIte, Nat.reduceAdd, Nat.reduceMul, Nat.reduceSub, Nat.reduceLT, Nat.reduceLeDiff, fz, nilS, packR, List.take_nil, List.take_length, List.length_map, List.length_append, cond_true, cond_false, Nat.ble_eq, ble_self]
  all_goals first | rfl | (simp only [go_sem, Nat.reduceEqDiff, reduceIte, Nat.reduceAdd, Nat.reduceMul, Nat.reduceSub, Nat.reduceLT, Nat.reduceLeDiff, fz, nilS, packR, List.take_nil, List.take_length, List.length_map, List.length_append, cond_true, cond_false, Nat.ble_eq, ble_self, List.map_append] <;> rfl)

end Go.AX.Z.TR

/-! (TRW hotspotref18 Same) -/

set_option linter.unusedSimpArgs false
set_option linter.unusedVariables false
set_option maxHeartbeats 4000000
set_option maxRecDepth 20000
namespace Go.AX.Z.TR
open Go.AX Go.Proofs
attribute [local irreducible] awp xw xop xcall gsp ob xd xdop xcallD seqQ loopQ blkQ endQ

def hotspotref18_Same_S0 (d48 : Unit) : AS :=
 { objs := (fun _ => .dead), next := 0, tmps := (fun _ => .unk) }

def hotspotref18_Same_S1 (a0 : Reorder) (a1 : Reorder) (d50 : Int) : AS :=
 { objs := (upd (upd (fun _ => .dead) 0 (.live (e_Reorder a0 (.imm (List.flatMap E_HeldSeq a0.Held) a0.Held.length)))) 1 (.live (e_Reorder a1 (.imm (List.flatMap E_HeldSeq a1.Held) a1.Held.length)))), next := 2, tmps := (upd (upd (upd (fun _ => .unk) 2 (.ptr 0 0)) 3 (.ptr 1 0)) 5 (vi d50)) }

theorem hotspotref18_Same_p (a0 : Reorder) (a1 : Reorder) {r : Bool} (h0 : hotspotref18_Same a0 a1 = some r) : SndP K 13 [(.agg (E_Reorder a0)), (.agg (E_Reorder a1))] (vb r) := by
 refine SndP.of_walkW hC (Clean.v _) (clean_cons (Clean.agg (E_Reorder_clean _)) (clean_cons (Clean.agg (E_Reorder_clean _)) clean_nil)) (show K.P.funcs[13]? = some Try.f13 from Try.func13) rfl rfl (by decide +kernel) (Nat.le_of_ble_eq_true rfl) ?_
 unfold hotspotref18_Same at h0
 refine awp_nr [0,1] (fun _ => rfl) fun tz => ?_
 refine awp_regW fun KK hKK => ?_
 refine xw_id ?_
 try simp only [go_sem, Nat.reduceEqDiff, reduceIte, Nat.reduceAdd, Nat.reduceMul, Nat.reduceSub, Nat.reduceLT, Nat.reduceLeDiff]
 refine hKK _ _ (Wk.refl _ _ _) ?_; clear hKK KK
 refine awp_assoc ?_
 refine awp_nr [2,3] (fun _ => rfl) fun tz => ?_
 refine awp_regW fun KK hKK => ?_
 refine xw_id ?_
 try simp only [List.append_eq, Array.toList_append, List.append_toArray, List.toList_toArray, List.cons_append, List.nil_append]
 refine xw_stop 6 (by (try simp only [go_sem]); rfl) (by (try simp only [go_sem]); rfl) (by rfl) fun K1 hK1 => ?_
 refine xw_id ?_
 try simp only [go_sem, Nat.reduceEqDiff, reduceIte, Nat.reduceAdd, Nat.reduceMul, Nat.reduceSub, Nat.reduceLT, Nat.reduceLeDiff]
 refine hK1 _ ?_; clear hK1 K1
 refine xw_cut 6 [(2, (.ptr 0 0)), (3, (.ptr 1 0)), (17, (vb ((a0.Start != a1.Start) || (a0.Size != a1.Size))))] (by (try simp only [go_sem]); rfl) (by (try simp only [go_sem]); rfl) (by rfl) (fun K1 hK1 => ?_) fun tz => ?_
 ·
  refine xw_id ?_
  rcases Bool.eq_false_or_eq_true (a0.Start != a1.Start) with h1 | h1
  ·
   try simp only [go_sem, Nat.reduceEqDiff, reduceIte, Nat.reduceAdd, Nat.reduceMul, Nat.reduceSub, Nat.reduceLT, Nat.reduceLeDiff, h1]
   exact hK1 _ ⟨rfl, rfl, rfl, (by first | rfl | (rw [h1]; rfl) | (simp only [h1, Bool.true_and, Bool.false_and, Bool.true_or, Bool.false_or, cond_true, cond_false]; done)), trivial⟩
  ·
   try simp only [go_sem, Nat.reduceEqDiff, reduceIte, Nat.reduceAdd, Nat.reduceMul, Nat.reduceSub, Nat.reduceLT, Nat.reduceLeDiff, h1]
   exact hK1 _ ⟨rfl, rfl, rfl, (by first | rfl | (rw [h1]; rfl) | (simp only [h1, Bool.true_and, Bool.false_and, Bool.true_or, Bool.false_or, cond_true, cond_false]; done)), trivial⟩
 ·
  refine xw_id ?_
  refine xw_stop 1 (by (try simp only [go_sem]); rfl) (by (try simp only [go_sem]); rfl) (by rfl) fun K1 hK1 => ?_
  refine xw_id ?_
  try simp only [go_sem, Nat.reduceEqDiff, reduceIte, Nat.reduceAdd, Nat.reduceMul, Nat.reduceSub, Nat.reduceLT, Nat.reduceLeDiff]
  refine hK1 _ ?_; clear hK1 K1
  refine xw_cut 6 [(2, (.ptr 0 0)), (3, (.ptr 1 0)), (24, (vb (((a0.Start != a1.Start) || (a0.Size != a1.Size)) || (a0.Hold != a1.Hold))))] (by (try simp only [go_sem]); rfl) (by (try simp only [go_sem]); rfl) (by rfl) (fun K1 hK1 => ?_) fun tz => ?_
  ·
   refine xw_id ?_
   rcases Bool.eq_false_or_eq_true ((a0.Start != a1.Start) || (a0.Size != a1.Size)) with h2 | h2
   ·
    try simp only [go_sem, Nat.reduceEqDiff, reduceIte, Nat.reduceAdd, Nat.reduceMul, Nat.reduceSub, Nat.reduceLT, Nat.reduceLeDiff, h2]
    exact hK1 _ ⟨rfl, rfl, rfl, (by first | rfl | (rw [h2]; rfl) | (simp only [h2, Bool.true_and, Bool.false_and, Bool.true_or, Bool.false_or, cond_true, cond_false]; done)), trivial⟩
   ·
    try simp only [go_sem, Nat.reduceEqDiff, reduceIte, Nat.reduceAdd, Nat.reduceMul, Nat.reduceSub, Nat.reduceLT, Nat.reduceLeDiff, h2]
    exact hK1 _ ⟨rfl, rfl, rfl, (by first | rfl | (rw [h2]; rfl) | (simp only [h2, Bool.true_and, Bool.false_and, Bool.true_or, Bool.false_or, cond_true, cond_false]; done)), trivial⟩
  ·
   refine xw_id ?_
   refine xw_stop 1 (by (try simp only [go_sem]); rfl) (by (try simp only [go_sem]); rfl) (by rfl) fun K1 hK1 => ?_
   refine xw_id ?_
   try simp only [go_sem, Nat.reduceEqDiff, reduceIte, Nat.reduceAdd, Nat.reduceMul, Nat.reduceSub, Nat.reduceLT, Nat.reduceLeDiff]
   refine hK1 _ ?_; clear hK1 K1
   refine xw_cut 6 [(2, (.ptr 0 0)), (3, (.ptr 1 0)), (31, (vb ((((a0.Start != a1.Start) || (a0.Size != a1.Size)) || (a0.Hold != a1.Hold)) || (!decide (a0.Seen = a1.Seen)))))] (by (try simp only [go_sem]); rfl) (by (try simp only [go_sem]); rfl) (by rfl) (fun K1 hK1 => ?_) fun tz => ?_
   ·
    refine xw_id ?_
    rcases Bool.eq_false_or_eq_true (((a0.Start != a1.Start) || (a0.Size != a1.Size)) || (a0.Hold != a1.Hold)) with h3 | h3
    ·
     try simp only [go_sem, Nat.reduceEqDiff, reduceIte, Nat.reduceAdd, Nat.reduceMul, Nat.reduceSub, Nat.reduceLT, Nat.reduceLeDiff, h3]
     exact hK1 _ ⟨rfl, rfl, rfl, (by first | rfl | (rw [h3]; rfl) | (simp only [h3, Bool.true_and, Bool.false_and, Bool.true_or, Bool.false_or, cond_true, cond_false]; done)), trivial⟩
    ·
     try simp only [go_sem, Nat.reduceEqDiff, reduceIte, Nat.reduceAdd, Nat.reduceMul, Nat.reduceSub, Nat.reduceLT, Nat.reduceLeDiff, h3]
     exact hK1 _ ⟨rfl, rfl, rfl, (by first | rfl | (rw [h3]; rfl) | (simp only [h3, Bool.true_and, Bool.false_and, Bool.true_or, Bool.false_or, cond_true, cond_false]; done)), trivial⟩
   ·
    refine xw_id ?_
    refine xw_stop 1 (by (try simp only [go_sem]); rfl) (by (try simp only [go_sem]); rfl) (by rfl) fun K1 hK1 => ?_
    refine xw_id ?_
    try simp only [go_sem, Nat.reduceEqDiff, reduceIte, Nat.reduceAdd, Nat.reduceMul, Nat.reduceSub, Nat.reduceLT, Nat.reduceLeDiff]
    refine hK1 _ ?_; clear hK1 K1
    refine xw_cut 8 [(2, (.ptr 0 0)), (3, (.ptr 1 0)), (40, (vb (((((a0.Start != a1.Start) || (a0.Size != a1.Size)) || (a0.Hold != a1.Hold)) || (!decide (a0.Seen = a1.Seen))) || ((a0.Held.length : Int) != (a1.Held.length : Int)))))] (by (try simp only [go_sem]); rfl) (by (try simp only [go_sem]); rfl) (by rfl) (fun K1 hK1 => ?_) fun tz => ?_
    ·
     refine xw_id ?_
     rcases Bool.eq_false_or_eq_true ((((a0.Start != a1.Start) || (a0.Size != a1.Size)) || (a0.Hold != a1.Hold)) || (!decide (a0.Seen = a1.Seen))) with h4 | h4
     ·
      try simp only [go_sem, Nat.reduceEqDiff, reduceIte, Nat.reduceAdd, Nat.reduceMul, Nat.reduceSub, Nat.reduceLT, Nat.reduceLeDiff, h4]
      exact hK1 _ ⟨rfl, rfl, rfl, (by first | rfl | (rw [h4]; rfl) | (simp only [h4, Bool.true_and, Bool.false_and, Bool.true_or, Bool.false_or, cond_true, cond_false]; done)), trivial⟩
     ·
      try simp only [go_sem, Nat.reduceEqDiff, reduceIte, Nat.reduceAdd, Nat.reduceMul, Nat.reduceSub, Nat.reduceLT, Nat.reduceLeDiff, Int.reduceToNat, Int.reduceBEq, Int.reduceBNe, Int.reduceLT, Int.reduceLE, Int.reduceAdd, Int.reduceSub, Int.reduceMul, Int.reduceNeg, Int.reduceEq, Int.reduceNe, h4]
      exact hK1 _ ⟨rfl, rfl, rfl, (by first | rfl | (rw [h4]; rfl) | (simp only [h4, Bool.true_and, Bool.false_and, Bool.true_or, Bool.false_or, cond_true, cond_false]; done)), trivial⟩
    ·
     refine xw_id ?_
     try simp only [go_sem, Nat.reduceEqDiff, reduceIte, Nat.reduceAdd, Nat.reduceMul, Nat.reduceSub, Nat.reduceLT, Nat.reduceLeDiff]
     refine hKK _ _ (Wk.refl _ _ _) ?_; clear hKK KK
     refine awp_cond (b := (((((a0.Start != a1.Start) || (a0.Size != a1.Size)) || (a0.Hold != a1.Hold)) || (!decide (a0.Seen = a1.Seen))) || ((a0.Held.length : Int) != (a1.Held.length : Int)))) rfl (fun h5 => ?_) (fun h5 => ?_)
     ·
      have h0 := cT h0 h5
      refine awp_assoc ?_
      refine awp_nr [] (fun _ => rfl) fun tz => ?_
      refine awp_regW fun KK hKK => ?_
      refine xw_id ?_
      try simp only [go_sem, Nat.reduceEqDiff, reduceIte, Nat.reduceAdd, Nat.reduceMul, Nat.reduceSub, Nat.reduceLT, Nat.reduceLeDiff]
      refine hKK _ _ (Wk.refl _ _ _) ?_; clear hKK KK
      refine awp_ret ?_
      obtain rfl := someInj h0
      refine endW_i ?_
      refine end_ret0 rs13 (rfl) ?_
      try simp only [go_sem, Nat.reduceEqDiff, reduceIte, Nat.reduceAdd, Nat.reduceMul, Nat.reduceSub, Nat.reduceLT, Nat.reduceLeDiff, fz, nilS, packR, List.take_nil, List.take_length, List.length_map, List.length_append, cond_true, cond_false, Nat.ble_eq, ble_self]
      all_goals first | rfl | (simp only [go_sem, Nat.reduceEqDiff, reduceIte, Nat.reduceAdd, Nat.reduceMul, Nat.reduceSub, Nat.reduceLT, Nat.reduceLeDiff, fz, nilS, packR, List.take_nil, List.take_length, List.length_map, List.length_append, cond_true, cond_false, Nat.ble_eq, ble_self, List.map_append] <;> rfl)
     ·
      have h0 := cF h0 h5
      refine awp_skip ?_
      refine awp_assoc ?_
      refine awp_nr [2,3] (fun _ => rfl) fun tz => ?_
      refine awp_regW fun KK hKK => ?_
      refine xw_id ?_
      try simp only [go_sem, Nat.reduceEqDiff, reduceIte, Nat.reduceAdd, Nat.reduceMul, Nat.reduceSub, Nat.reduceLT, Nat.reduceLeDiff]
      refine hKK _ _ (Wk.refl _ _ _) ?_; clear hKK KK
      obtain ⟨o49, hi6, h0⟩ := bnd h0
      refine awp_cut (fun d48 : Unit => o49 = Ex.go d48) (fun d48 : Unit => hotspotref18_Same_S0 d48) ?_ ?_
      ·
       refine awp_block1 ?_
       refine awp_loopS (fun n (d50 : Int) => hotspotref18_Same_L2 a0 a1 n d50 = some o49) (fun d50 : Int => hotspotref18_Same_S1 a0 a1 d50) big 0 (Wk.canonD [] [] [some 0, some 1] rfl trivial rfl (tmOU 1 (tmOU 0 tmO0 rfl List.not_mem_nil (by simp only [upd_get, Nat.reduceEqDiff, reduceIte, Nat.reduceAdd, Nat.reduceMul, Nat.reduceSub, Nat.reduceLT, Nat.reduceLeDiff, if_true, if_false] <;> rfl) (e_Reorder_tmx (by rfl) (Tm.clean (Clean.imm (c_HeldSeq _))))) rfl List.not_mem_nil (by simp only [upd_get, Nat.reduceEqDiff, reduceIte, Nat.reduceAdd, Nat.reduceMul, Nat.reduceSub, Nat.reduceLT, Nat.reduceLeDiff, if_true, if_false] <;> rfl) (e_Reorder_tmx (by rfl) (Tm.clean (Clean.imm (c_HeldSeq _))))) (tmAllU 5 (tmAllU 3 (tmAllU 2 tmAll0 (Tm.ptr rfl)) (Tm.ptr rfl)) (Tm.v _))) hi6 ?_
       clear hi6
       rintro n d50 hl8
       rcases n with _ | n7
       ·
        (rw [hotspotref18_Same_L2] at hl8; cases hl8)
       ·
        rw [hotspotref18_Same_L2] at hl8
        unfold hotspotref18_Same_S1
        refine awp_assoc ?_
        refine awp_nr [2,3,5] (fun _ => rfl) fun tz => ?_
        refine awp_regW fun KK hKK => ?_
        refine xw_id ?_
        try simp only [go_sem, Nat.reduceEqDiff, reduceIte, Nat.reduceAdd, Nat.reduceMul, Nat.reduceSub, Nat.reduceLT, Nat.reduceLeDiff, Int.reduceToNat, Int.reduceBEq, Int.reduceBNe, Int.reduceLT, Int.reduceLE, Int.reduceAdd, Int.reduceSub, Int.reduceMul, Int.reduceNeg, Int.reduceEq, Int.reduceNe]
        refine hKK _ _ (Wk.refl _ _ _) ?_; clear hKK KK
        refine awp_cond (b := (decide (d50 < (a0.Held.length : Int)))) rfl (fun h9 => ?_) (fun h9 => ?_)
        ·
         have hl8 := cT hl8 h9
         refine awp_skip ?_
         refine awp_blockW ?_
         refine awp_nr [2,3,5] (fun _ => rfl) fun tz => ?_
         refine awp_regW fun KK hKK => ?_
         refine xw_id ?_
         obtain ⟨x51, bx51, hl8⟩ := bnd hl8
         obtain ⟨fx51_0, fx51_1, fx51_2, fx51_3⟩ := idx_some bx51
         obtain ⟨x52, bx52, hl8⟩ := bnd hl8
         obtain ⟨fx52_0, fx52_1, fx52_2, fx52_3⟩ := idx_some bx52
         refine xw_stop 14 (by (try simp only [go_sem]); rfl) (by (try simp only [go_sem]); rfl) (by rfl) fun K1 hK1 => ?_
         refine xw_id ?_
         try simp only [go_sem, Nat.reduceEqDiff, reduceIte, Nat.reduceAdd, Nat.reduceMul, Nat.reduceSub, Nat.reduceLT, Nat.reduceLeDiff, fx51_0, fx51_1, fx51_2, fx52_0, fx52_1, fx52_2]
         refine hK1 _ ?_; clear hK1 K1
         obtain ⟨x54, hvh10, hl8⟩ := bnd hl8
         refine xw_cut 15 [(2, (.ptr 0 0)), (3, (.ptr 1 0)), (5, (vi d50)), (76, (vb x54))] (by (try simp only [go_sem]); rfl) (by (try simp only [go_sem]); rfl) (by rfl) (fun K1 hK1 => ?_) fun tz => ?_
         ·
          refine xw_id ?_
          rcases Bool.eq_false_or_eq_true (x51.At != x52.At) with h10 | h10
          ·
           have hvh10 := cT hvh10 h10
           try simp only [go_sem, Nat.reduceEqDiff, reduceIte, Nat.reduceAdd, Nat.reduceMul, Nat.reduceSub, Nat.reduceLT, Nat.reduceLeDiff, fx51_0, fx51_1, fx51_2, fx52_0, fx52_1, fx52_2, h10]
           obtain rfl := someInj hvh10
           exact hK1 _ ⟨rfl, rfl, rfl, rfl, (by first | rfl | (rw [h10]; rfl) | (simp only [h10, Bool.true_and, Bool.false_and, Bool.true_or, Bool.false_or, cond_true, cond_false]; done)), trivial⟩
          ·
           have hvh10 := cF hvh10 h10
           obtain ⟨x53, bx53, hvh10⟩ := bnd hvh10
           try simp only [go_sem, Nat.reduceEqDiff, reduceIte, Nat.reduceAdd, Nat.reduceMul, Nat.reduceSub, Nat.reduceLT, Nat.reduceLeDiff, fx51_0, fx51_1, fx51_2, fx52_0, fx52_1, fx52_2, h10]
           refine xcall_p (hotspotref05_Same_p x51.Frame x52.Frame bx53) ?_; try dsimp only
           try refine xw_id ?_
           try simp only [go_sem, Nat.reduceEqDiff, reduceIte, Nat.reduceAdd, Nat.reduceMul, Nat.reduceSub, Nat.reduceLT, Nat.reduceLeDiff, fx51_0, fx51_1, fx51_2, fx52_0, fx52_1, fx52_2, h10]
           obtain rfl := someInj hvh10
           exact hK1 _ ⟨rfl, rfl, rfl, rfl, (by first | rfl | (rw [h10]; rfl) | (simp only [h10, Bool.true_and, Bool.false_and, Bool.true_or, Bool.false_or, cond_true, cond_false]; done)), trivial⟩
         ·
          refine xw_id ?_
          try simp only [go_sem, Nat.reduceEqDiff, reduceIte, Nat.reduceAdd, Nat.reduceMul, Nat.reduceSub, Nat.reduceLT, Nat.reduceLeDiff, fx51_0, fx51_1, fx51_2, fx52_0, fx52_1, fx52_2]
          refine hKK _ _ (Wk.refl _ _ _) ?_; clear hKK KK
          refine awp_cond1 (b := x54) rfl (fun h11 => ?_) (fun h11 => ?_)
          ·
           have hl8 := cT hl8 h11
           refine awp_nr [] (fun _ => rfl) fun tz => ?_
           refine awp_regW fun KK hKK => ?_
           refine xw_id ?_
           try simp only [go_sem, Nat.reduceEqDiff, reduceIte, Nat.reduceAdd, Nat.reduceMul, Nat.reduceSub, Nat.reduceLT, Nat.reduceLeDiff, fx51_0, fx51_1, fx51_2, fx52_0, fx52_1, fx52_2]
           refine hKK _ _ (Wk.refl _ _ _) ?_; clear hKK KK
           refine awp_ret1 ?_
           refine bq_r ?_
           refine sq_r ?_
           refine lq_r ?_
           refine bq_r ?_
           refine sq_r ?_
           obtain rfl := someInj hl8
           obtain rfl := Ex.k_ret h0
           refine endW_i ?_
           refine end_ret0 rs13 (rfl) ?_
           try simp only [go_sem, Nat.reduceEqDiff, reduceIte, Nat.reduceAdd, Nat.reduceMul, Nat.reduceSub, Nat.reduceLT, Nat.reduceLeDiff, fz, nilS, packR, List.take_nil, List.take_length, List.length_map, List.length_append, cond_true, cond_false, Nat.ble_eq, ble_self]
           all_goals first | rfl | (simp only [go_sem, Nat.reduceEqDiff, reduceIte, Nat.reduceAdd, Nat.reduceMul, Nat.reduceSub, Nat.reduceLT, Nat.reduceLeDiff, fz, nilS, packR, List.take_nil, List.take_length, List.length_map, List.length_append, cond_true, cond_false, Nat.ble_eq, ble_self, List.map_append] <;> rfl)
          ·
           have hl8 := cF hl8 h11
           refine awp_skip1 ?_
           refine bq_n ?_
           refine seqW_i ?_
           refine awp_nr1 [2,3,5] (fun _ => rfl) fun tz => ?_
           refine awp_reg1 fun KK hKK => ?_
           refine xw_id ?_
           try simp only [go_sem, Nat.reduceEqDiff, reduceIte, Nat.reduceAdd, Nat.reduceMul, Nat.reduceSub, Nat.reduceLT, Nat.reduceLeDiff, fx51_0, fx51_1, fx51_2, fx52_0, fx52_1, fx52_2]
           refine hKK _ ?_; clear hKK KK
           refine lq_n ?_
           exact ⟨n7, IntKind.wrap .i64 (d50 + 1), rfl, hl8, (Wk.canonD [] [] [some 0, some 1] rfl trivial rfl (tmOU 1 (tmOU 0 tmO0 rfl List.not_mem_nil (by simp only [upd_get, Nat.reduceEqDiff, reduceIte, Nat.reduceAdd, Nat.reduceMul, Nat.reduceSub, Nat.reduceLT, Nat.reduceLeDiff, if_true, if_false] <;> rfl) (e_Reorder_tmx (by rfl) (Tm.clean (Clean.imm (c_HeldSeq _))))) rfl List.not_mem_nil (by simp only [upd_get, Nat.reduceEqDiff, reduceIte, Nat.reduceAdd, Nat.reduceMul, Nat.reduceSub, Nat.reduceLT, Nat.reduceLeDiff, if_true, if_false] <;> rfl) (e_Reorder_tmx (by rfl) (Tm.clean (Clean.imm (c_HeldSeq _))))) (tmAllU 5 (tmAllU 3 (tmAllU 2 tmAll0 (Tm.ptr rfl)) (Tm.ptr rfl)) (Tm.v _)))⟩
        ·
         have hl8 := cF hl8 h9
         refine awp_exit ?_
         refine lq_e ?_
         refine bq_e ?_
         refine sq_n ?_
         obtain rfl := someInj hl8
         exact ⟨_, rfl, (Wk.canonD [] [] [] rfl trivial rfl tmO0 tmAll0)⟩
      ·
       rintro d48 rfl
       have h0 := Ex.k_go h0
       clear hi6
       unfold hotspotref18_Same_S0
       refine awp_nr [] (fun _ => rfl) fun tz => ?_
       refine awp_regW fun KK hKK => ?_
       refine xw_id ?_
       try simp only [go_sem, Nat.reduceEqDiff, reduceIte, Nat.reduceAdd, Nat.reduceMul, Nat.reduceSub, Nat.reduceLT, Nat.reduceLeDiff]
       refine hKK _ _ (Wk.refl _ _ _) ?_; clear hKK KK
       refine awp_ret1 ?_
       obtain rfl := someInj h0
       refine endW_i ?_
       refine end_ret0 rs13 (rfl) ?_
       try simp only [go_sem, Nat.reduceEqDiff, reduceIte, Nat.reduceAdd, Nat.reduceMul, Nat.reduceSub, Nat.reduceLT, Nat.reduceLeDiff, fz, nilS, packR, List.take_nil, List.take_length, List.length_map, List.length_append, cond_true, cond_false, Nat.ble_eq, ble_self]
       all_goals first | rfl | (simp only [go_sem, Nat.reduceEqDiff, reduceIte, Nat.reduceAdd, Nat.reduceMul, Nat.reduceSub, Nat.reduceLT, Nat.reduceLeDiff, fz, nilS, packR, List.take_nil, List.take_length, List.length_map, List.length_append, cond_true, cond_false, Nat.ble_eq, ble_self, List.map_append] <;> rfl)

end Go.AX.Z.TR

/-! (TRW reorder Report) -/

set_option linter.unusedSimpArgs false
set_option linter.unusedVariables false
set_option maxHeartbeats 4000000
set_option maxRecDepth 20000
namespace Go.AX.Z.TR
open Go.AX Go.Proofs
attribute [local irreducible] awp xw xop xcall gsp ob xd xdop xcallD seqQ loopQ blkQ endQ


theorem reorder_Report_p (a0 : Reorder) {r : (Window × Int)} (h0 : reorder_Report a0 = some r) : SndP K 25 [(.agg (E_Reorder a0))] (.tup [(.agg (e_Window r.1)), (vi r.2)]) := by
 refine SndP.of_walkW hC (Clean.tup (clean_cons (Clean.agg (e_Window_clean _)) (clean_cons (Clean.v _) clean_nil))) (clean_cons (Clean.agg (E_Reorder_clean _)) clean_nil) (show K.P.funcs[25]? = some Try.f25 from Try.func25) rfl rfl (by decide +kernel) (Nat.le_of_ble_eq_true rfl) ?_
 unfold reorder_Report at h0
 refine awp_nr [0] (fun _ => rfl) fun tz => ?_
 refine awp_regW fun KK hKK => ?_
 refine xw_id ?_
 try simp only [go_sem, Nat.reduceEqDiff, reduceIte, Nat.reduceAdd, Nat.reduceMul, Nat.reduceSub, Nat.reduceLT, Nat.reduceLeDiff]
 refine hKK _ _ (Wk.refl _ _ _) ?_; clear hKK KK
 refine awp_assoc ?_
 refine awp_nr [1,2] (fun _ => rfl) fun tz => ?_
 refine awp_regW fun KK hKK => ?_
 refine xw_id ?_
 obtain ⟨x70, bx70, h0⟩ := bnd h0
 try simp only [go_sem, Nat.reduceEqDiff, reduceIte, Nat.reduceAdd, Nat.reduceMul, Nat.reduceSub, Nat.reduceLT, Nat.reduceLeDiff]
 refine xcall_p (reorder_Check_p a0 bx70) ?_; try dsimp only
 try refine xw_id ?_
 try simp only [go_sem, Nat.reduceEqDiff, reduceIte, Nat.reduceAdd, Nat.reduceMul, Nat.reduceSub, Nat.reduceLT, Nat.reduceLeDiff]
 refine hKK _ _ (Wk.refl _ _ _) ?_; clear hKK KK
 refine awp_assoc ?_
 refine awp_nr [1,2,4] (fun _ => rfl) fun tz => ?_
 refine awp_regW fun KK hKK => ?_
 refine xw_id ?_
 try simp only [go_sem, Nat.reduceEqDiff, reduceIte, Nat.reduceAdd, Nat.reduceMul, Nat.reduceSub, Nat.reduceLT, Nat.reduceLeDiff]
 refine hKK _ _ (Wk.refl _ _ _) ?_; clear hKK KK
 refine awp_cond (b := (x70 != 0)) rfl (fun h1 => ?_) (fun h1 => ?_)
 ·
  have h0 := cT h0 h1
  refine awp_assoc ?_
  refine awp_nr [2,4] (fun _ => rfl) fun tz => ?_
  refine awp_regW fun KK hKK => ?_
  refine xw_id ?_
  try simp only [go_sem, Nat.reduceEqDiff, reduceIte, Nat.reduceAdd, Nat.reduceMul, Nat.reduceSub, Nat.reduceLT, Nat.reduceLeDiff]
  refine hKK _ _ (Wk.refl _ _ _) ?_; clear hKK KK
  refine awp_ret ?_
  obtain rfl := someInj h0
  refine endW_i ?_
  refine end_ret0 rs25 (by simp only [go_sem, resV, resAll, resOf, packR, Nat.reduceEqDiff, reduceIte, Nat.reduceAdd, Nat.reduceMul, Nat.reduceSub, Nat.reduceLT, Nat.reduceLeDiff]; rfl) ?_
  try simp only [go_sem, Nat.reduceEqDiff, reduceIte, Nat.reduceAdd, Nat.reduceMul, Nat.reduceSub, Nat.reduceLT, Nat.reduceLeDiff, fz, nilS, packR, List.take_nil, List.take_length, List.length_map, List.length_append, cond_true, cond_false, Nat.ble_eq, ble_self]
  all_goals first | rfl | (simp only [go_sem, Nat.reduceEqDiff, reduceIte, Nat.reduceAdd, Nat.reduceMul, Nat.reduceSub, Nat.reduceLT, Nat.reduceLeDiff, fz, nilS, packR, List.take_nil, List.take_length, List.length_map, List.length_append, cond_true, cond_false, Nat.ble_eq, ble_self, List.map_append] <;> rfl)
 ·
  have h0 := cF h0 h1
  refine awp_skip ?_
  refine awp_nr [1,2] (fun _ => rfl) fun tz => ?_
  refine awp_regW fun KK hKK => ?_
  refine xw_id ?_
  try simp only [go_sem, Nat.reduceEqDiff, reduceIte, Nat.reduceAdd, Nat.reduceMul, Nat.reduceSub, Nat.reduceLT, Nat.reduceLeDiff]
  refine hKK _ _ (Wk.refl _ _ _) ?_; clear hKK KK
  refine awp_ret1 ?_
  obtain rfl := someInj h0
  refine endW_i ?_
  refine end_ret0 rs25 (by simp only [go_sem, resV, resAll, resOf, packR, Nat.reduceEqDiff, reduceIte, Nat.reduceAdd, Nat.reduceMul, Nat.reduceSub, Nat.reduceLT, Nat.reduceLeDiff]; rfl) ?_
  try simp only [go_sem, Nat.reduceEqDiff, reduceIte, Nat.reduceAdd, Nat.reduceMul, Nat.reduceSub, Nat.reduceLT, Nat.reduceLeDiff, fz, nilS, packR, List.take_nil, List.take_length, List.length_map, List.length_append, cond_true, cond_false, Nat.ble_eq, ble_self]
  all_goals first | rfl | (simp only [go_sem, Nat.reduceEqDiff, reduceIte, Nat.reduceAdd, Nat.reduceMul, Nat.reduceSub, Nat.reduceLT, Nat.reduceLeDiff, fz, nilS, packR, List.take_nil, List.take_length, List.length_map, List.length_append, cond_true, cond_false, Nat.ble_eq, ble_self, List.map_append] <;> rfl)

end Go.AX.Z.TR

/-! (TRW reorder New) -/

set_option linter.unusedSimpArgs false
set_option linter.unusedVariables false
set_option maxHeartbeats 4000000
set_option maxRecDepth 20000
namespace Go.AX.Z.TR
open Go.AX Go.Proofs
attribute [local irreducible] awp xw xop xcall gsp ob xd xdop xcallD seqQ loopQ blkQ endQ

def reorder_New_S0 (a2 : Int) (a0 : Int) (a1 : Int) (x28 : Int) : AS :=
 { objs := (upd (upd (fun _ => .dead) 0 (.live (e_Reorder Reorder.z vnil))) 1 (.live (e_Reorder { Reorder.z with Hold := a2, Seen := { Window.z with Start := a0 }, Size := a1, Start := a0 } vnil))), next := 2, tmps := (upd (upd (upd (fun _ => .unk) 6 (.ptr 0 0)) 8 (.ptr 1 0)) 17 (vb (x28 != 0))) }

theorem reorder_New_p (a0 : Int) (a1 : Int) (a2 : Int) {r : (Reorder × Int)} (h0 : reorder_New a0 a1 a2 = some r) : SndP K 11 [(vi a0), (vi a1), (vi a2)] (.tup [(.agg (E_Reorder r.1)), (vi r.2)]) := by
 refine SndP.of_walkW hC (Clean.tup (clean_cons (Clean.agg (E_Reorder_clean _)) (clean_cons (Clean.v _) clean_nil))) (clean_cons (Clean.v _) (clean_cons (Clean.v _) (clean_cons (Clean.v _) clean_nil))) (show K.P.funcs[11]? = some Try.f11 from Try.func11) rfl rfl (by decide +kernel) (Nat.le_of_ble_eq_true rfl) ?_
 unfold reorder_New at h0
 refine awp_nr [0,1,2] (fun _ => rfl) fun tz => ?_
 refine awp_regW fun KK hKK => ?_
 refine xw_id ?_
 try simp only [go_sem, Nat.reduceEqDiff, reduceIte, Nat.reduceAdd, Nat.reduceMul, Nat.reduceSub, Nat.reduceLT, Nat.reduceLeDiff]
 refine hKK _ _ (Wk.refl _ _ _) ?_; clear hKK KK
 refine awp_nr [0,1,2,6] (fun _ => rfl) fun tz => ?_
 refine awp_regW fun KK hKK => ?_
 refine xw_id ?_
 try simp only [go_sem, Nat.reduceEqDiff, reduceIte, Nat.reduceAdd, Nat.reduceMul, Nat.reduceSub, Nat.reduceLT, Nat.reduceLeDiff]
 refine hKK _ _ (Wk.refl _ _ _) ?_; clear hKK KK
 refine awp_assoc ?_
 refine awp_nr [6,8] (fun _ => rfl) fun tz => ?_
 refine awp_regW fun KK hKK => ?_
 refine xw_id ?_
 obtain ⟨x28, bx28, h0⟩ := bnd h0
 try simp only [go_sem, Nat.reduceEqDiff, reduceIte, Nat.reduceAdd, Nat.reduceMul, Nat.reduceSub, Nat.reduceLT, Nat.reduceLeDiff]
 refine xcall_N (by first | (simp only [go_sem, fz, nilS, cond_true, cond_false, Nat.reduceEqDiff, reduceIte, Nat.reduceAdd, Nat.reduceMul, Nat.reduceSub, Nat.reduceLT, Nat.reduceLeDiff]; done) | (simp only [go_sem, fz, nilS, cond_true, cond_false, Nat.reduceEqDiff, reduceIte, Nat.reduceAdd, Nat.reduceMul, Nat.reduceSub, Nat.reduceLT, Nat.reduceLeDiff]; rfl)) (reorder_Check_p { Reorder.z with Hold := a2, Seen := { Window.z with Start := a0 }, Size := a1, Start := a0 } bx28) ?_; try dsimp only
 try refine xw_id ?_
 try simp only [go_sem, Nat.reduceEqDiff, reduceIte, Nat.reduceAdd, Nat.reduceMul, Nat.reduceSub, Nat.reduceLT, Nat.reduceLeDiff]
 refine hKK _ (reorder_New_S0 a2 a0 a1 x28) (Wk.canonD [] [] [some 0, some 8] rfl trivial rfl (tmOU 1 (tmOU 0 tmO0 rfl List.not_mem_nil (by simp only [upd_get, Nat.reduceEqDiff, reduceIte, Nat.reduceAdd, Nat.reduceMul, Nat.reduceSub, Nat.reduceLT, Nat.reduceLeDiff, if_true, if_false] <;> rfl) (e_Reorder_tmx (by rfl) (Tm.v _))) rfl List.not_mem_nil (by simp only [upd_get, Nat.reduceEqDiff, reduceIte, Nat.reduceAdd, Nat.reduceMul, Nat.reduceSub, Nat.reduceLT, Nat.reduceLeDiff, if_true, if_false] <;> rfl) (e_Reorder_tmx (by rfl) (Tm.v _))) (tmAllU 17 (tmAllU 8 (tmAllU 6 tmAll0 (Tm.ptr rfl)) (Tm.ptr rfl)) (Tm.v _))) ?_; clear hKK KK
 unfold reorder_New_S0
 refine awp_cond (b := (x28 != 0)) rfl (fun h1 => ?_) (fun h1 => ?_)
 ·
  have h0 := cT h0 h1
  refine awp_assoc ?_
  refine awp_nr [6] (fun _ => rfl) fun tz => ?_
  refine awp_regW fun KK hKK => ?_
  refine xw_id ?_
  try simp only [go_sem, Nat.reduceEqDiff, reduceIte, Nat.reduceAdd, Nat.reduceMul, Nat.reduceSub, Nat.reduceLT, Nat.reduceLeDiff]
  refine hKK _ _ (Wk.refl _ _ _) ?_; clear hKK KK
  refine awp_ret ?_
  obtain rfl := someInj h0
  refine endW_i ?_
  refine end_ret0 rs11 (by simp only [go_sem, resV, resAll, resOf, packR, Nat.reduceEqDiff, reduceIte, Nat.reduceAdd, Nat.reduceMul, Nat.reduceSub, Nat.reduceLT, Nat.reduceLeDiff]; rfl) ?_
  try simp only [go_sem, Nat.reduceEqDiff, reduceIte, Nat.reduceAdd, Nat.reduceMul, Nat.reduceSub, Nat.reduceLT, Nat.reduceLeDiff, fz, nilS, packR, List.take_nil, List.take_length, List.length_map, List.length_append, cond_true, cond_false, Nat.ble_eq, ble_self]
  all_goals first | rfl | (simp only [go_sem, Nat.reduceEqDiff, reduceIte, Nat.reduceAdd, Nat.reduceMul, Nat.reduceSub, Nat.reduceLT, Nat.reduceLeDiff, fz, nilS, packR, List.take_nil, List.take_length, List.length_map, List.length_append, cond_true, cond_false, Nat.ble_eq, ble_self, List.map_append] <;> rfl)
 ·
  have h0 := cF h0 h1
  refine awp_skip ?_
  refine awp_nr [6,8] (fun _ => rfl) fun tz => ?_
  refine awp_regW fun KK hKK => ?_
  refine xw_id ?_
  try simp only [go_sem, Nat.reduceEqDiff, reduceIte, Nat.reduceAdd, Nat.reduceMul, Nat.reduceSub, Nat.reduceLT, Nat.reduceLeDiff]
  refine hKK _ _ (Wk.refl _ _ _) ?_; clear hKK KK
  refine awp_ret1 ?_
  obtain rfl := someInj h0
  refine endW_i ?_
  refine end_ret0 rs11 (by simp only [go_sem, resV, resAll, resOf, packR, Nat.reduceEqDiff, reduceIte, Nat.reduceAdd, Nat.reduceMul, Nat.reduceSub, Nat.reduceLT, Nat.reduceLeDiff]; rfl) ?_
  try simp only [go_sem, Nat.reduceEqDiff, reduceIte, Nat.reduceAdd, Nat.reduceMul, Nat.reduceSub, Nat.reduceLT, Nat.reduceLeDiff, fz, nilS, packR, List.take_nil, List.take_length, List.length_map, List.length_append, cond_true, cond_false, Nat.ble_eq, ble_self]
  all_goals first | rfl | (simp only [go_sem, Nat.reduceEqDiff, reduceIte, Nat.reduceAdd, Nat.reduceMul, Nat.reduceSub, Nat.reduceLT, Nat.reduceLeDiff, fz, nilS, packR, List.take_nil, List.take_length, List.length_map, List.length_append, cond_true, cond_false, Nat.ble_eq, ble_self, List.map_append] <;> rfl)

end Go.AX.Z.TR

/-! (TRW hotspotlaw18 frame) -/

set_option linter.unusedSimpArgs false
set_option linter.unusedVariables false
set_option maxHeartbeats 4000000
set_option maxRecDepth 20000
namespace Go.AX.Z.TR
open Go.AX Go.Proofs
attribute [local irreducible] awp xw xop xcall gsp ob xd xdop xcallD seqQ loopQ blkQ endQ


theorem hotspotlaw18_frame_p (a0 : Int) {r : Frame} (h0 : hotspotlaw18_frame a0 = some r) : SndP K 33 [(vi a0)] (.agg (E_Frame r)) := by
 refine SndP.of_walkW hC (Clean.agg (E_Frame_clean _)) (clean_cons (Clean.v _) clean_nil) (show K.P.funcs[33]? = some Try.f33 from Try.func33) rfl rfl (by decide +kernel) (Nat.le_of_ble_eq_true rfl) ?_
 unfold hotspotlaw18_frame at h0
 refine awp_nr [0] (fun _ => rfl) fun tz => ?_
 refine awp_regW fun KK hKK => ?_
 refine xw_id ?_
 try simp only [go_sem, Nat.reduceEqDiff, reduceIte, Nat.reduceAdd, Nat.reduceMul, Nat.reduceSub, Nat.reduceLT, Nat.reduceLeDiff]
 refine hKK _ _ (Wk.refl _ _ _) ?_; clear hKK KK
 refine awp_nr [0,2] (fun _ => rfl) fun tz => ?_
 refine awp_regW fun KK hKK => ?_
 refine xw_id ?_
 try simp only [go_sem, Nat.reduceEqDiff, reduceIte, Nat.reduceAdd, Nat.reduceMul, Nat.reduceSub, Nat.reduceLT, Nat.reduceLeDiff]
 refine hKK _ _ (Wk.refl _ _ _) ?_; clear hKK KK
 refine awp_ret1 ?_
 obtain rfl := someInj h0
 refine endW_i ?_
 refine end_ret0 rs33 (by simp only [go_sem, resV, resAll, resOf, packR, Nat.reduceEqDiff, reduceIte, Nat.reduceAdd, Nat.reduceMul, Nat.reduceSub, Nat.reduceLT, Nat.reduceLeDiff]; rfl) ?_
 try simp only [go_sem, Nat.reduceEqDiff, reduceIte, Nat.reduceAdd, Nat.reduceMul, Nat.reduceSub, Nat.reduceLT, Nat.reduceLeDiff, fz, nilS, packR, List.take_nil, List.take_length, List.length_map, List.length_append, cond_true, cond_false, Nat.ble_eq, ble_self]
 all_goals first | rfl | (simp only [go_sem, Nat.reduceEqDiff, reduceIte, Nat.reduceAdd, Nat.reduceMul, Nat.reduceSub, Nat.reduceLT, Nat.reduceLeDiff, fz, nilS, packR, List.take_nil, List.take_length, List.length_map, List.length_append, cond_true, cond_false, Nat.ble_eq, ble_self, List.map_append] <;> rfl)

end Go.AX.Z.TR

/-! (TRW window check) -/

set_option linter.unusedSimpArgs false
set_option linter.unusedVariables false
set_option maxHeartbeats 4000000
set_option maxRecDepth 20000
namespace Go.AX.Z.TR
open Go.AX Go.Proofs
attribute [local irreducible] awp xw xop xcall gsp ob xd xdop xcallD seqQ loopQ blkQ endQ


theorem window_check_p (a0 : Window) (a1 : Int) {r : Int} (h0 : window_check a0 a1 = some r) : SndP K 57 [(.agg (e_Window a0)), (vi a1)] (vi r) := by
 refine SndP.of_walkW hC (Clean.v _) (clean_cons (Clean.agg (e_Window_clean _)) (clean_cons (Clean.v _) clean_nil)) (show K.P.funcs[57]? = some Try.f57 from Try.func57) rfl rfl (by decide +kernel) (Nat.le_of_ble_eq_true rfl) ?_
 unfold window_check at h0
 refine awp_nr [0,1] (fun _ => rfl) fun tz => ?_
 refine awp_regW fun KK hKK => ?_
 refine xw_id ?_
 try simp only [go_sem, Nat.reduceEqDiff, reduceIte, Nat.reduceAdd, Nat.reduceMul, Nat.reduceSub, Nat.reduceLT, Nat.reduceLeDiff]
 refine hKK _ _ (Wk.refl _ _ _) ?_; clear hKK KK
 refine awp_assoc ?_
 refine awp_nr [1,2] (fun _ => rfl) fun tz => ?_
 refine awp_regW fun KK hKK => ?_
 refine xw_id ?_
 obtain ⟨x39, bx39, h0⟩ := bnd h0
 try simp only [go_sem, Nat.reduceEqDiff, reduceIte, Nat.reduceAdd, Nat.reduceMul, Nat.reduceSub, Nat.reduceLT, Nat.reduceLeDiff]
 refine xcall_p (window_Check_p a0 bx39) ?_; try dsimp only
 try refine xw_id ?_
 try simp only [go_sem, Nat.reduceEqDiff, reduceIte, Nat.reduceAdd, Nat.reduceMul, Nat.reduceSub, Nat.reduceLT, Nat.reduceLeDiff]
 refine hKK _ _ (Wk.refl _ _ _) ?_; clear hKK KK
 refine awp_assoc ?_
 refine awp_nr [1,5] (fun _ => rfl) fun tz => ?_
 refine awp_regW fun KK hKK => ?_
 refine xw_id ?_
 try simp only [go_sem, Nat.reduceEqDiff, reduceIte, Nat.reduceAdd, Nat.reduceMul, Nat.reduceSub, Nat.reduceLT, Nat.reduceLeDiff]
 refine hKK _ _ (Wk.refl _ _ _) ?_; clear hKK KK
 refine awp_cond (b := (x39 != 0)) rfl (fun h1 => ?_) (fun h1 => ?_)
 ·
  have h0 := cT h0 h1
  refine awp_assoc ?_
  refine awp_nr [5] (fun _ => rfl) fun tz => ?_
  refine awp_regW fun KK hKK => ?_
  refine xw_id ?_
  try simp only [go_sem, Nat.reduceEqDiff, reduceIte, Nat.reduceAdd, Nat.reduceMul, Nat.reduceSub, Nat.reduceLT, Nat.reduceLeDiff]
  refine hKK _ _ (Wk.refl _ _ _) ?_; clear hKK KK
  refine awp_ret ?_
  obtain rfl := someInj h0
  refine endW_i ?_
  refine end_ret0 rs57 (rfl) ?_
  try simp only [go_sem, Nat.reduceEqDiff, reduceIte, Nat.reduceAdd, Nat.reduceMul, Nat.reduceSub, Nat.reduceLT, Nat.reduceLeDiff, fz, nilS, packR, List.take_nil, List.take_length, List.length_map, List.length_append, cond_true, cond_false, Nat.ble_eq, ble_self]
  all_goals first | rfl | (simp only [go_sem, Nat.reduceEqDiff, reduceIte, Nat.reduceAdd, Nat.reduceMul, Nat.reduceSub, Nat.reduceLT, Nat.reduceLeDiff, fz, nilS, packR, List.take_nil, List.take_length, List.length_map, List.length_append, cond_true, cond_false, Nat.ble_eq, ble_self, List.map_append] <;> rfl)
 ·
  have h0 := cF h0 h1
  refine awp_skip ?_
  refine awp_assoc ?_
  refine awp_nr [1] (fun _ => rfl) fun tz => ?_
  refine awp_regW fun KK hKK => ?_
  refine xw_id ?_
  obtain ⟨x40, bx40, h0⟩ := bnd h0
  try simp only [go_sem, Nat.reduceEqDiff, reduceIte, Nat.reduceAdd, Nat.reduceMul, Nat.reduceSub, Nat.reduceLT, Nat.reduceLeDiff]
  refine xcall_p (window_number_p a1 bx40) ?_; try dsimp only
  try refine xw_id ?_
  try simp only [go_sem, Nat.reduceEqDiff, reduceIte, Nat.reduceAdd, Nat.reduceMul, Nat.reduceSub, Nat.reduceLT, Nat.reduceLeDiff]
  refine hKK _ _ (Wk.refl _ _ _) ?_; clear hKK KK
  refine awp_cond (b := (!x40)) rfl (fun h2 => ?_) (fun h2 => ?_)
  ·
   have h0 := cT h0 h2
   refine awp_assoc ?_
   refine awp_nr [] (fun _ => rfl) fun tz => ?_
   refine awp_regW fun KK hKK => ?_
   refine xw_id ?_
   try simp only [go_sem, Nat.reduceEqDiff, reduceIte, Nat.reduceAdd, Nat.reduceMul, Nat.reduceSub, Nat.reduceLT, Nat.reduceLeDiff]
   refine hKK _ _ (Wk.refl _ _ _) ?_; clear hKK KK
   refine awp_ret ?_
   obtain rfl := someInj h0
   refine endW_i ?_
   refine end_ret0 rs57 (rfl) ?_
   try simp only [go_sem, Nat.reduceEqDiff, reduceIte, Nat.reduceAdd, Nat.reduceMul, Nat.reduceSub, Nat.reduceLT, Nat.reduceLeDiff, fz, nilS, packR, List.take_nil, List.take_length, List.length_map, List.length_append, cond_true, cond_false, Nat.ble_eq, ble_self]
   all_goals first | rfl | (simp only [go_sem, Nat.reduceEqDiff, reduceIte, Nat.reduceAdd, Nat.reduceMul, Nat.reduceSub, Nat.reduceLT, Nat.reduceLeDiff, fz, nilS, packR, List.take_nil, List.take_length, List.length_map, List.length_append, cond_true, cond_false, Nat.ble_eq, ble_self, List.map_append] <;> rfl)
  ·
   have h0 := cF h0 h2
   refine awp_skip ?_
   refine awp_nr [] (fun _ => rfl) fun tz => ?_
   refine awp_regW fun KK hKK => ?_
   refine xw_id ?_
   try simp only [go_sem, Nat.reduceEqDiff, reduceIte, Nat.reduceAdd, Nat.reduceMul, Nat.reduceSub, Nat.reduceLT, Nat.reduceLeDiff]
   refine hKK _ _ (Wk.refl _ _ _) ?_; clear hKK KK
   refine awp_ret1 ?_
   obtain rfl := someInj h0
   refine endW_i ?_
   refine end_ret0 rs57 (rfl) ?_
   try simp only [go_sem, Nat.reduceEqDiff, reduceIte, Nat.reduceAdd, Nat.reduceMul, Nat.reduceSub, Nat.reduceLT, Nat.reduceLeDiff, fz, nilS, packR, List.take_nil, List.take_length, List.length_map, List.length_append, cond_true, cond_false, Nat.ble_eq, ble_self]
   all_goals first | rfl | (simp only [go_sem, Nat.reduceEqDiff, reduceIte, Nat.reduceAdd, Nat.reduceMul, Nat.reduceSub, Nat.reduceLT, Nat.reduceLeDiff, fz, nilS, packR, List.take_nil, List.take_length, List.length_map, List.length_append, cond_true, cond_false, Nat.ble_eq, ble_self, List.map_append] <;> rfl)

end Go.AX.Z.TR

/-! (TRW window Move) -/

set_option linter.unusedSimpArgs false
set_option linter.unusedVariables false
set_option maxHeartbeats 4000000
set_option maxRecDepth 20000
namespace Go.AX.Z.TR
open Go.AX Go.Proofs
attribute [local irreducible] awp xw xop xcall gsp ob xd xdop xcallD seqQ loopQ blkQ endQ

def window_Move_S0 (a0 : Window) (a1 : Int) : AS :=
 { objs := (upd (upd (upd (fun _ => .dead) 0 (.live (e_Window a0))) 1 (.live (e_Window Window.z))) 2 (.live (e_Window { Window.z with Start := a1 }))), next := 3, tmps := (upd (upd (upd (upd (fun _ => .unk) 1 (vi a1)) 2 (.ptr 0 0)) 4 (.ptr 1 0)) 7 (.ptr 2 0)) }

theorem window_Move_p (a0 : Window) (a1 : Int) {r : (Window × Int)} (h0 : window_Move a0 a1 = some r) : SndP K 64 [(.agg (e_Window a0)), (vi a1)] (.tup [(.agg (e_Window r.1)), (vi r.2)]) := by
 refine SndP.of_walkW hC (Clean.tup (clean_cons (Clean.agg (e_Window_clean _)) (clean_cons (Clean.v _) clean_nil))) (clean_cons (Clean.agg (e_Window_clean _)) (clean_cons (Clean.v _) clean_nil)) (show K.P.funcs[64]? = some Try.f64 from Try.func64) rfl rfl (by decide +kernel) (Nat.le_of_ble_eq_true rfl) ?_
 unfold window_Move at h0
 refine awp_nr [0,1] (fun _ => rfl) fun tz => ?_
 refine awp_regW fun KK hKK => ?_
 refine xw_id ?_
 try simp only [go_sem, Nat.reduceEqDiff, reduceIte, Nat.reduceAdd, Nat.reduceMul, Nat.reduceSub, Nat.reduceLT, Nat.reduceLeDiff]
 refine hKK _ _ (Wk.refl _ _ _) ?_; clear hKK KK
 refine awp_assoc ?_
 refine awp_nr [1,2,4] (fun _ => rfl) fun tz => ?_
 refine awp_regW fun KK hKK => ?_
 refine xw_id ?_
 obtain ⟨x39, bx39, h0⟩ := bnd h0
 try simp only [go_sem, Nat.reduceEqDiff, reduceIte, Nat.reduceAdd, Nat.reduceMul, Nat.reduceSub, Nat.reduceLT, Nat.reduceLeDiff]
 refine xcall_p (window_check_p a0 a1 bx39) ?_; try dsimp only
 try refine xw_id ?_
 try simp only [go_sem, Nat.reduceEqDiff, reduceIte, Nat.reduceAdd, Nat.reduceMul, Nat.reduceSub, Nat.reduceLT, Nat.reduceLeDiff]
 refine hKK _ _ (Wk.refl _ _ _) ?_; clear hKK KK
 refine awp_assoc ?_
 refine awp_nr [1,2,4,6] (fun _ => rfl) fun tz => ?_
 refine awp_regW fun KK hKK => ?_
 refine xw_id ?_
 try simp only [go_sem, Nat.reduceEqDiff, reduceIte, Nat.reduceAdd, Nat.reduceMul, Nat.reduceSub, Nat.reduceLT, Nat.reduceLeDiff]
 refine hKK _ _ (Wk.refl _ _ _) ?_; clear hKK KK
 refine awp_cond (b := (x39 != 0)) rfl (fun h1 => ?_) (fun h1 => ?_)
 ·
  have h0 := cT h0 h1
  refine awp_assoc ?_
  refine awp_nr [4,6] (fun _ => rfl) fun tz => ?_
  refine awp_regW fun KK hKK => ?_
  refine xw_id ?_
  try simp only [go_sem, Nat.reduceEqDiff, reduceIte, Nat.reduceAdd, Nat.reduceMul, Nat.reduceSub, Nat.reduceLT, Nat.reduceLeDiff]
  refine hKK _ _ (Wk.refl _ _ _) ?_; clear hKK KK
  refine awp_ret ?_
  obtain rfl := someInj h0
  refine endW_i ?_
  refine end_ret0 rs64 (by simp only [go_sem, resV, resAll, resOf, packR, Nat.reduceEqDiff, reduceIte, Nat.reduceAdd, Nat.reduceMul, Nat.reduceSub, Nat.reduceLT, Nat.reduceLeDiff]; rfl) ?_
  try simp only [go_sem, Nat.reduceEqDiff, reduceIte, Nat.reduceAdd, Nat.reduceMul, Nat.reduceSub, Nat.reduceLT, Nat.reduceLeDiff, fz, nilS, packR, List.take_nil, List.take_length, List.length_map, List.length_append, cond_true, cond_false, Nat.ble_eq, ble_self]
  all_goals first | rfl | (simp only [go_sem, Nat.reduceEqDiff, reduceIte, Nat.reduceAdd, Nat.reduceMul, Nat.reduceSub, Nat.reduceLT, Nat.reduceLeDiff, fz, nilS, packR, List.take_nil, List.take_length, List.length_map, List.length_append, cond_true, cond_false, Nat.ble_eq, ble_self, List.map_append] <;> rfl)
 ·
  have h0 := cF h0 h1
  refine awp_skip ?_
  refine awp_nr [1,2,4] (fun _ => rfl) fun tz => ?_
  refine awp_regW fun KK hKK => ?_
  refine xw_id ?_
  try simp only [go_sem, Nat.reduceEqDiff, reduceIte, Nat.reduceAdd, Nat.reduceMul, Nat.reduceSub, Nat.reduceLT, Nat.reduceLeDiff]
  refine hKK _ (window_Move_S0 a0 a1) (Wk.canonD [] [] [some 0, some 1, some 11] rfl trivial rfl (tmOU 2 (tmOU 1 (tmOU 0 tmO0 rfl List.not_mem_nil (by simp only [upd_get, Nat.reduceEqDiff, reduceIte, Nat.reduceAdd, Nat.reduceMul, Nat.reduceSub, Nat.reduceLT, Nat.reduceLeDiff, if_true, if_false] <;> rfl) (TmL.clean (e_Window_clean _))) rfl List.not_mem_nil (by simp only [upd_get, Nat.reduceEqDiff, reduceIte, Nat.reduceAdd, Nat.reduceMul, Nat.reduceSub, Nat.reduceLT, Nat.reduceLeDiff, if_true, if_false] <;> rfl) (TmL.clean (e_Window_clean _))) rfl List.not_mem_nil (by simp only [upd_get, Nat.reduceEqDiff, reduceIte, Nat.reduceAdd, Nat.reduceMul, Nat.reduceSub, Nat.reduceLT, Nat.reduceLeDiff, if_true, if_false] <;> rfl) (TmL.clean (e_Window_clean _))) (tmAllU 7 (tmAllU 4 (tmAllU 2 (tmAllU 1 tmAll0 (Tm.v _)) (Tm.ptr rfl)) (Tm.ptr rfl)) (Tm.ptr rfl))) ?_; clear hKK KK
  unfold window_Move_S0
  refine awp_assoc ?_
  refine awp_nr [1,2,4,7] (fun _ => rfl) fun tz => ?_
  refine awp_regW fun KK hKK => ?_
  refine xw_id ?_
  obtain ⟨x40, bx40, h0⟩ := bnd h0
  try simp only [go_sem, Nat.reduceEqDiff, reduceIte, Nat.reduceAdd, Nat.reduceMul, Nat.reduceSub, Nat.reduceLT, Nat.reduceLeDiff]
  refine xcall_p (window_Dist_p a0.Start a1 bx40) ?_; try dsimp only
  try refine xw_id ?_
  try simp only [go_sem, Nat.reduceEqDiff, reduceIte, Nat.reduceAdd, Nat.reduceMul, Nat.reduceSub, Nat.reduceLT, Nat.reduceLeDiff]
  refine hKK _ _ (Wk.refl _ _ _) ?_; clear hKK KK
  refine awp_assoc ?_
  refine awp_nr [2,4,7,8] (fun _ => rfl) fun tz => ?_
  refine awp_regW fun KK hKK => ?_
  refine xw_id ?_
  try simp only [go_sem, Nat.reduceEqDiff, reduceIte, Nat.reduceAdd, Nat.reduceMul, Nat.reduceSub, Nat.reduceLT, Nat.reduceLeDiff]
  refine hKK _ _ (Wk.refl _ _ _) ?_; clear hKK KK
  refine awp_cond (b := (decide (x40 < 2048))) rfl (fun h2 => ?_) (fun h2 => ?_)
  ·
   have h0 := cT h0 h2
   refine awp_nr [2,4,7,8] (fun _ => rfl) fun tz => ?_
   refine awp_regW fun KK hKK => ?_
   refine xw_id ?_
   obtain ⟨x41, bx41, h0⟩ := bnd h0
   have bx41 := chk_some bx41
   simp only [Bool.and_eq_true, decide_eq_true_eq] at bx41
   have gx41_0 := bx41
   try simp only [go_sem, Nat.reduceEqDiff, reduceIte, Nat.reduceAdd, Nat.reduceMul, Nat.reduceSub, Nat.reduceLT, Nat.reduceLeDiff, gx41_0]
   refine hKK _ _ (Wk.refl _ _ _) ?_; clear hKK KK
   refine awp_nr [4,7] (fun _ => rfl) fun tz => ?_
   refine awp_regW fun KK hKK => ?_
   refine xw_id ?_
   try simp only [go_sem, Nat.reduceEqDiff, reduceIte, Nat.reduceAdd, Nat.reduceMul, Nat.reduceSub, Nat.reduceLT, Nat.reduceLeDiff]
   refine hKK _ _ (Wk.refl _ _ _) ?_; clear hKK KK
   refine awp_ret1 ?_
   obtain rfl := someInj h0
   refine endW_i ?_
   refine end_ret0 rs64 (by simp only [go_sem, resV, resAll, resOf, packR, Nat.reduceEqDiff, reduceIte, Nat.reduceAdd, Nat.reduceMul, Nat.reduceSub, Nat.reduceLT, Nat.reduceLeDiff]; rfl) ?_
   try simp only [go_sem, Nat.reduceEqDiff, reduceIte, Nat.reduceAdd, Nat.reduceMul, Nat.reduceSub, Nat.reduceLT, Nat.reduceLeDiff, fz, nilS, packR, List.take_nil, List.take_length, List.length_map, List.length_append, cond_true, cond_false, Nat.ble_eq, ble_self]
   all_goals first | rfl | (simp only [go_sem, Nat.reduceEqDiff, reduceIte, Nat.reduceAdd, Nat.reduceMul, Nat.reduceSub, Nat.reduceLT, Nat.reduceLeDiff, fz, nilS, packR, List.take_nil, List.take_length, List.length_map, List.length_append, cond_true, cond_false, Nat.ble_eq, ble_self, List.map_append] <;> rfl)
  ·
   have h0 := cF h0 h2
   refine awp_nr [2,4,7,8] (fun _ => rfl) fun tz => ?_
   refine awp_regW fun KK hKK => ?_
   refine xw_id ?_
   obtain ⟨x42, bx42, h0⟩ := bnd h0
   have bx42 := chk_some bx42
   simp only [Bool.and_eq_true, decide_eq_true_eq] at bx42
   have gx42_0 := bx42
   try simp only [go_sem, Nat.reduceEqDiff, reduceIte, Nat.reduceAdd, Nat.reduceMul, Nat.reduceSub, Nat.reduceLT, Nat.reduceLeDiff, gx42_0]
   refine hKK _ _ (Wk.refl _ _ _) ?_; clear hKK KK
   refine awp_nr [4,7] (fun _ => rfl) fun tz => ?_
   refine awp_regW fun KK hKK => ?_
   refine xw_id ?_
   try simp only [go_sem, Nat.reduceEqDiff, reduceIte, Nat.reduceAdd, Nat.reduceMul, Nat.reduceSub, Nat.reduceLT, Nat.reduceLeDiff]
   refine hKK _ _ (Wk.refl _ _ _) ?_; clear hKK KK
   refine awp_ret1 ?_
   obtain rfl := someInj h0
   refine endW_i ?_
   refine end_ret0 rs64 (by simp only [go_sem, resV, resAll, resOf, packR, Nat.reduceEqDiff, reduceIte, Nat.reduceAdd, Nat.reduceMul, Nat.reduceSub, Nat.reduceLT, Nat.reduceLeDiff]; rfl) ?_
   try simp only [go_sem, Nat.reduceEqDiff, reduceIte, Nat.reduceAdd, Nat.reduceMul, Nat.reduceSub, Nat.reduceLT, Nat.reduceLeDiff, fz, nilS, packR, List.take_nil, List.take_length, List.length_map, List.length_append, cond_true, cond_false, Nat.ble_eq, ble_self]
   all_goals first | rfl | (simp only [go_sem, Nat.reduceEqDiff, reduceIte, Nat.reduceAdd, Nat.reduceMul, Nat.reduceSub, Nat.reduceLT, Nat.reduceLeDiff, fz, nilS, packR, List.take_nil, List.take_length, List.length_map, List.length_append, cond_true, cond_false, Nat.ble_eq, ble_self, List.map_append] <;> rfl)

end Go.AX.Z.TR

/-! (TRW window Mark) -/

set_option linter.unusedSimpArgs false
set_option linter.unusedVariables false
set_option maxHeartbeats 4000000
set_option maxRecDepth 20000
namespace Go.AX.Z.TR
open Go.AX Go.Proofs
attribute [local irreducible] awp xw xop xcall gsp ob xd xdop xcallD seqQ loopQ blkQ endQ

def window_Mark_S0 (a0 : Window) (x42 : Int) : AS :=
 { objs := (upd (upd (fun _ => .dead) 0 (.live (e_Window a0))) 1 (.live (e_Window Window.z))), next := 2, tmps := (upd (upd (upd (fun _ => .unk) 2 (.ptr 0 0)) 4 (.ptr 1 0)) 7 (vi x42)) }

theorem window_Mark_p (a0 : Window) (a1 : Int) {r : (Window × Int)} (h0 : window_Mark a0 a1 = some r) : SndP K 65 [(.agg (e_Window a0)), (vi a1)] (.tup [(.agg (e_Window r.1)), (vi r.2)]) := by
 refine SndP.of_walkW hC (Clean.tup (clean_cons (Clean.agg (e_Window_clean _)) (clean_cons (Clean.v _) clean_nil))) (clean_cons (Clean.agg (e_Window_clean _)) (clean_cons (Clean.v _) clean_nil)) (show K.P.funcs[65]? = some Try.f65 from Try.func65) rfl rfl (by decide +kernel) (Nat.le_of_ble_eq_true rfl) ?_
 unfold window_Mark at h0
 refine awp_nr [0,1] (fun _ => rfl) fun tz => ?_
 refine awp_regW fun KK hKK => ?_
 refine xw_id ?_
 try simp only [go_sem, ↓iop_and, ↓iop_or, ↓iop_xor, ↓iop_andn, Nat.reduceEqDiff, reduceIte, Nat.reduceAdd, Nat.reduceMul, Nat.reduceSub, Nat.reduceLT, Nat.reduceLeDiff]
 refine hKK _ _ (Wk.refl _ _ _) ?_; clear hKK KK
 refine awp_assoc ?_
 refine awp_nr [1,2,4] (fun _ => rfl) fun tz => ?_
 refine awp_regW fun KK hKK => ?_
 refine xw_id ?_
 obtain ⟨x41, bx41, h0⟩ := bnd h0
 try simp only [go_sem, ↓iop_and, ↓iop_or, ↓iop_xor, ↓iop_andn, Nat.reduceEqDiff, reduceIte, Nat.reduceAdd, Nat.reduceMul, Nat.reduceSub, Nat.reduceLT, Nat.reduceLeDiff]
 refine xcall_p (window_check_p a0 a1 bx41) ?_; try dsimp only
 try refine xw_id ?_
 try simp only [go_sem, ↓iop_and, ↓iop_or, ↓iop_xor, ↓iop_andn, Nat.reduceEqDiff, reduceIte, Nat.reduceAdd, Nat.reduceMul, Nat.reduceSub, Nat.reduceLT, Nat.reduceLeDiff]
 refine hKK _ _ (Wk.refl _ _ _) ?_; clear hKK KK
 refine awp_assoc ?_
 refine awp_nr [1,2,4,6] (fun _ => rfl) fun tz => ?_
 refine awp_regW fun KK hKK => ?_
 refine xw_id ?_
 try simp only [go_sem, ↓iop_and, ↓iop_or, ↓iop_xor, ↓iop_andn, Nat.reduceEqDiff, reduceIte, Nat.reduceAdd, Nat.reduceMul, Nat.reduceSub, Nat.reduceLT, Nat.reduceLeDiff]
 refine hKK _ _ (Wk.refl _ _ _) ?_; clear hKK KK
 refine awp_cond (b := (x41 != 0)) rfl (fun h1 => ?_) (fun h1 => ?_)
 ·
  have h0 := cT h0 h1
  refine awp_assoc ?_
  refine awp_nr [4,6] (fun _ => rfl) fun tz => ?_
  refine awp_regW fun KK hKK => ?_
  refine xw_id ?_
  try simp only [go_sem, ↓iop_and, ↓iop_or, ↓iop_xor, ↓iop_andn, Nat.reduceEqDiff, reduceIte, Nat.reduceAdd, Nat.reduceMul, Nat.reduceSub, Nat.reduceLT, Nat.reduceLeDiff]
  refine hKK _ _ (Wk.refl _ _ _) ?_; clear hKK KK
  refine awp_ret ?_
  obtain rfl := someInj h0
  refine endW_i ?_
  refine end_ret0 rs65 (by simp only [go_sem, resV, resAll, resOf, packR, ↓iop_and, ↓iop_or, ↓iop_xor, ↓iop_andn, Nat.reduceEqDiff, reduceIte, Nat.reduceAdd, Nat.reduceMul, Nat.reduceSub, Nat.reduceLT, Nat.reduceLeDiff]; rfl) ?_
  try simp only [go_sem, ↓iop_and, ↓iop_or, ↓iop_xor, ↓iop_andn, Nat.reduceEqDiff, reduceIte, Nat.reduceAdd, Nat.reduceMul, Nat.reduceSub, Nat.reduceLT, Nat.reduceLeDiff, fz, nilS, packR, List.take_nil, List.take_length, List.length_map, List.length_append, cond_true, cond_false, Nat.ble_eq, ble_self]
  all_goals first | rfl | (simp only [go_sem, ↓iop_and, ↓iop_or, ↓iop_xor, ↓iop_andn, Nat.reduceEqDiff, reduceIte, Nat.reduceAdd, Nat.reduceMul, Nat.reduceSub, Nat.reduceLT, Nat.reduceLeDiff, fz, nilS, packR, List.take_nil, List.take_length, List.length_map, List.length_append, cond_true, cond_false, Nat.ble_eq, ble_self, List.map_append] <;> rfl)
 ·
  have h0 := cF h0 h1
  refine awp_skip ?_
  refine awp_nr [1,2,4] (fun _ => rfl) fun tz => ?_
  refine awp_regW fun KK hKK => ?_
  refine xw_id ?_
  obtain ⟨x42, bx42, h0⟩ := bnd h0
  try simp only [go_sem, ↓iop_and, ↓iop_or, ↓iop_xor, ↓iop_andn, Nat.reduceEqDiff, reduceIte, Nat.reduceAdd, Nat.reduceMul, Nat.reduceSub, Nat.reduceLT, Nat.reduceLeDiff]
  refine xcall_p (window_Dist_p a0.Start a1 bx42) ?_; try dsimp only
  try refine xw_id ?_
  try simp only [go_sem, ↓iop_and, ↓iop_or, ↓iop_xor, ↓iop_andn, Nat.reduceEqDiff, reduceIte, Nat.reduceAdd, Nat.reduceMul, Nat.reduceSub, Nat.reduceLT, Nat.reduceLeDiff]
  refine hKK _ (window_Mark_S0 a0 x42) (Wk.canonD [] [] [some 0, some 1] rfl trivial rfl (tmOU 1 (tmOU 0 tmO0 rfl List.not_mem_nil (by simp only [upd_get, ↓iop_and, ↓iop_or, ↓iop_xor, ↓iop_andn, Nat.reduceEqDiff, reduceIte, Nat.reduceAdd, Nat.reduceMul, Nat.reduceSub, Nat.reduceLT, Nat.reduceLeDiff, if_true, if_false] <;> rfl) (TmL.clean (e_Window_clean _))) rfl List.not_mem_nil (by simp only [upd_get, ↓iop_and, ↓iop_or, ↓iop_xor, ↓iop_andn, Nat.reduceEqDiff, reduceIte, Nat.reduceAdd, Nat.reduceMul, Nat.reduceSub, Nat.reduceLT, Nat.reduceLeDiff, if_true, if_false] <;> rfl) (TmL.clean (e_Window_clean _))) (tmAllU 7 (tmAllU 4 (tmAllU 2 tmAll0 (Tm.ptr rfl)) (Tm.ptr rfl)) (Tm.v _))) ?_; clear hKK KK
  unfold window_Mark_S0
  refine awp_assoc ?_
  refine awp_nr [2,4,7] (fun _ => rfl) fun tz => ?_
  refine awp_regW fun KK hKK => ?_
  refine xw_id ?_
  try simp only [go_sem, ↓iop_and, ↓iop_or, ↓iop_xor, ↓iop_andn, Nat.reduceEqDiff, reduceIte, Nat.reduceAdd, Nat.reduceMul, Nat.reduceSub, Nat.reduceLT, Nat.reduceLeDiff]
  refine hKK _ _ (Wk.refl _ _ _) ?_; clear hKK KK
  refine awp_cond (b := (decide (64 ≤ x42))) rfl (fun h2 => ?_) (fun h2 => ?_)
  ·
   have h0 := cT h0 h2
   refine awp_assoc ?_
   refine awp_nr [4] (fun _ => rfl) fun tz => ?_
   refine awp_regW fun KK hKK => ?_
   refine xw_id ?_
   try simp only [go_sem, ↓iop_and, ↓iop_or, ↓iop_xor, ↓iop_andn, Nat.reduceEqDiff, reduceIte, Nat.reduceAdd, Nat.reduceMul, Nat.reduceSub, Nat.reduceLT, Nat.reduceLeDiff]
   refine hKK _ _ (Wk.refl _ _ _) ?_; clear hKK KK
   refine awp_ret ?_
   obtain rfl := someInj h0
   refine endW_i ?_
   refine end_ret0 rs65 (by simp only [go_sem, resV, resAll, resOf, packR, ↓iop_and, ↓iop_or, ↓iop_xor, ↓iop_andn, Nat.reduceEqDiff, reduceIte, Nat.reduceAdd, Nat.reduceMul, Nat.reduceSub, Nat.reduceLT, Nat.reduceLeDiff]; rfl) ?_
   try simp only [go_sem, ↓iop_and, ↓iop_or, ↓iop_xor, ↓iop_andn, Nat.reduceEqDiff, reduceIte, Nat.reduceAdd, Nat.reduceMul, Nat.reduceSub, Nat.reduceLT, Nat.reduceLeDiff, fz, nilS, packR, List.take_nil, List.take_length, List.length_map, List.length_append, cond_true, cond_false, Nat.ble_eq, ble_self]
   all_goals first | rfl | (simp only [go_sem, ↓iop_and, ↓iop_or, ↓iop_xor, ↓iop_andn, Nat.reduceEqDiff, reduceIte, Nat.reduceAdd, Nat.reduceMul, Nat.reduceSub, Nat.reduceLT, Nat.reduceLeDiff, fz, nilS, packR, List.take_nil, List.take_length, List.length_map, List.length_append, cond_true, cond_false, Nat.ble_eq, ble_self, List.map_append] <;> rfl)
  ·
   have h0 := cF h0 h2
   refine awp_skip ?_
   refine awp_nr [2,4,7] (fun _ => rfl) fun tz => ?_
   refine awp_regDW fun KK hKK all hall => ?_
   refine xd_id ?_
   try simp only [List.toList_toArray, List.map_cons, List.map_nil, List.size_toArray, List.length_cons, List.length_nil, Nat.zero_add]
   try simp only [Nat.reduceAdd]
   obtain ⟨x43, bx43, h0⟩ := bnd h0
   have bx43 := chk_some bx43
   simp only [Bool.and_eq_true, decide_eq_true_eq] at bx43
   have gx43_0 := bx43
   simp only [go_sem, ↓iop_and, ↓iop_or, ↓iop_xor, ↓iop_andn, Nat.reduceEqDiff, reduceIte, Nat.reduceMul, Nat.reduceSub, Nat.reduceLT, Nat.reduceLeDiff, gx43_0]
   try simp only [Nat.reduceAdd]
   try simp only [go_sem, ↓iop_and, ↓iop_or, ↓iop_xor, ↓iop_andn, Nat.reduceEqDiff, reduceIte, Nat.reduceMul, Nat.reduceSub, Nat.reduceLT, Nat.reduceLeDiff, gx43_0]
   try simp only [Nat.reduceAdd]
   try simp only [go_sem, ↓iop_and, ↓iop_or, ↓iop_xor, ↓iop_andn, Nat.reduceEqDiff, reduceIte, Nat.reduceMul, Nat.reduceSub, Nat.reduceLT, Nat.reduceLeDiff, gx43_0]
   refine And.intro ?_ (hKK _ _ (Wk.refl _ _ _) ?_)
   ·
    subst hall
    clear hKK KK
    first | decide +kernel | (simp [printsOk, apartP, clash, meet]; done) | (simp [printsOk, apartP, clash, meet]; decide +kernel)
   ·
    clear hKK KK hall all
    refine awp_nr [2,4] (fun _ => rfl) fun tz => ?_
    refine awp_regW fun KK hKK => ?_
    refine xw_id ?_
    try simp only [go_sem, ↓iop_and, ↓iop_or, ↓iop_xor, ↓iop_andn, Nat.reduceEqDiff, reduceIte, Nat.reduceAdd, Nat.reduceMul, Nat.reduceSub, Nat.reduceLT, Nat.reduceLeDiff]
    refine hKK _ _ (Wk.refl _ _ _) ?_; clear hKK KK
    refine awp_ret1 ?_
    obtain rfl := someInj h0
    refine endW_i ?_
    refine end_ret0 rs65 (by simp only [go_sem, resV, resAll, resOf, packR, ↓iop_and, ↓iop_or, ↓iop_xor, ↓iop_andn, Nat.reduceEqDiff, reduceIte, Nat.reduceAdd, Nat.reduceMul, Nat.reduceSub, Nat.reduceLT, Nat.reduceLeDiff]; rfl) ?_
    try simp only [go_sem, ↓iop_and, ↓iop_or, ↓iop_xor, ↓iop_andn, Nat.reduceEqDiff, reduceIte, Nat.reduceAdd, Nat.reduceMul, Nat.reduceSub, Nat.reduceLT, Nat.reduceLeDiff, fz, nilS, packR, List.take_nil, List.take_length, List.length_map, List.length_append, cond_true, cond_false, Nat.ble_eq, ble_self]
    all_goals first | rfl | (simp only [go_sem, ↓iop_and, ↓iop_or, ↓iop_xor, ↓iop_andn, Nat.reduceEqDiff, reduceIte, Nat.reduceAdd, Nat.reduceMul, Nat.reduceSub, Nat.reduceLT, Nat.reduceLeDiff, fz, nilS, packR, List.take_nil, List.take_length, List.length_map, List.length_append, cond_true, cond_false, Nat.ble_eq, ble_self, List.map_append] <;> rfl)

end Go.AX.Z.TR

/-! (TRW reorder note) -/

set_option linter.unusedSimpArgs false
set_option linter.unusedVariables false
set_option maxHeartbeats 4000000
set_option maxRecDepth 20000
namespace Go.AX.Z.TR
open Go.AX Go.Proofs
attribute [local irreducible] awp xw xop xcall gsp ob xd xdop xcallD seqQ loopQ blkQ endQ

def reorder_note_S0 (a1 : Int) (d38 : Window) : AS :=
 { objs := (upd (upd (fun _ => .dead) 0 (.live (e_Window d38))) 1 (.live (e_Window Window.z))), next := 2, tmps := (upd (upd (upd (fun _ => .unk) 1 (vi a1)) 2 (.ptr 0 0)) 4 (.ptr 1 0)) }

theorem reorder_note_p (a0 : Window) (a1 : Int) {r : Window} (h0 : reorder_note a0 a1 = some r) : SndP K 52 [(.agg (e_Window a0)), (vi a1)] (.agg (e_Window r)) := by
 refine SndP.of_walkW hC (Clean.agg (e_Window_clean _)) (clean_cons (Clean.agg (e_Window_clean _)) (clean_cons (Clean.v _) clean_nil)) (show K.P.funcs[52]? = some Try.f52 from Try.func52) rfl rfl (by decide +kernel) (Nat.le_of_ble_eq_true rfl) ?_
 unfold reorder_note at h0
 refine awp_nr [0,1] (fun _ => rfl) fun tz => ?_
 refine awp_regW fun KK hKK => ?_
 refine xw_id ?_
 try simp only [go_sem, Nat.reduceEqDiff, reduceIte, Nat.reduceAdd, Nat.reduceMul, Nat.reduceSub, Nat.reduceLT, Nat.reduceLeDiff]
 refine hKK _ _ (Wk.refl _ _ _) ?_; clear hKK KK
 refine awp_nr [1,2,4] (fun _ => rfl) fun tz => ?_
 refine awp_regW fun KK hKK => ?_
 refine xw_id ?_
 obtain ⟨x37, bx37, h0⟩ := bnd h0
 try simp only [go_sem, Nat.reduceEqDiff, reduceIte, Nat.reduceAdd, Nat.reduceMul, Nat.reduceSub, Nat.reduceLT, Nat.reduceLeDiff]
 refine xcall_p (window_Dist_p a0.Start a1 bx37) ?_; try dsimp only
 try refine xw_id ?_
 try simp only [go_sem, Nat.reduceEqDiff, reduceIte, Nat.reduceAdd, Nat.reduceMul, Nat.reduceSub, Nat.reduceLT, Nat.reduceLeDiff]
 refine hKK _ _ (Wk.refl _ _ _) ?_; clear hKK KK
 refine awp_assoc ?_
 refine awp_nr [1,2,4,5] (fun _ => rfl) fun tz => ?_
 refine awp_regW fun KK hKK => ?_
 refine xw_id ?_
 try simp only [go_sem, Nat.reduceEqDiff, reduceIte, Nat.reduceAdd, Nat.reduceMul, Nat.reduceSub, Nat.reduceLT, Nat.reduceLeDiff]
 refine hKK _ _ (Wk.refl _ _ _) ?_; clear hKK KK
 refine awp_cond (b := (decide (2048 ≤ x37))) rfl (fun h1 => ?_) (fun h1 => ?_)
 ·
  have h0 := cT h0 h1
  refine awp_assoc ?_
  refine awp_nr [2,4] (fun _ => rfl) fun tz => ?_
  refine awp_regW fun KK hKK => ?_
  refine xw_id ?_
  try simp only [go_sem, Nat.reduceEqDiff, reduceIte, Nat.reduceAdd, Nat.reduceMul, Nat.reduceSub, Nat.reduceLT, Nat.reduceLeDiff]
  refine hKK _ _ (Wk.refl _ _ _) ?_; clear hKK KK
  refine awp_ret ?_
  obtain rfl := someInj h0
  refine endW_i ?_
  refine end_ret0 rs52 (by simp only [go_sem, resV, resAll, resOf, packR, Nat.reduceEqDiff, reduceIte, Nat.reduceAdd, Nat.reduceMul, Nat.reduceSub, Nat.reduceLT, Nat.reduceLeDiff]; rfl) ?_
  try simp only [go_sem, Nat.reduceEqDiff, reduceIte, Nat.reduceAdd, Nat.reduceMul, Nat.reduceSub, Nat.reduceLT, Nat.reduceLeDiff, fz, nilS, packR, List.take_nil, List.take_length, List.length_map, List.length_append, cond_true, cond_false, Nat.ble_eq, ble_self]
  all_goals first | rfl | (simp only [go_sem, Nat.reduceEqDiff, reduceIte, Nat.reduceAdd, Nat.reduceMul, Nat.reduceSub, Nat.reduceLT, Nat.reduceLeDiff, fz, nilS, packR, List.take_nil, List.take_length, List.length_map, List.length_append, cond_true, cond_false, Nat.ble_eq, ble_self, List.map_append] <;> rfl)
 ·
  have h0 := cF h0 h1
  refine awp_skip ?_
  refine awp_assoc ?_
  refine awp_nr [1,2,4,5] (fun _ => rfl) fun tz => ?_
  refine awp_regW fun KK hKK => ?_
  refine xw_id ?_
  try simp only [go_sem, Nat.reduceEqDiff, reduceIte, Nat.reduceAdd, Nat.reduceMul, Nat.reduceSub, Nat.reduceLT, Nat.reduceLeDiff]
  refine hKK _ _ (Wk.refl _ _ _) ?_; clear hKK KK
  obtain ⟨d38, hi2, h0⟩ := bnd h0
  refine awp_cut (fun z => d38 = z) (fun d38 : Window => reorder_note_S0 a1 d38) ?_ ?_
  ·
   refine awp_cond1 (b := (decide (64 ≤ x37))) rfl (fun h3 => ?_) (fun h3 => ?_)
   ·
    have hi2 := cT hi2 h3
    refine awp_nr1 [1,2,4] (fun _ => rfl) fun tz => ?_
    refine awp_regD1 fun KK hKK all hall => ?_
    refine xd_id ?_
    try simp only [List.toList_toArray, List.map_cons, List.map_nil, List.size_toArray, List.length_cons, List.length_nil, Nat.zero_add]
    try simp only [Nat.reduceAdd]
    obtain ⟨x39, bx39, hi2⟩ := bnd hi2
    simp only [go_sem, Nat.reduceEqDiff, reduceIte, Nat.reduceMul, Nat.reduceSub, Nat.reduceLT, Nat.reduceLeDiff]
    try simp only [Nat.reduceAdd]
    try simp only [go_sem, Nat.reduceEqDiff, reduceIte, Nat.reduceMul, Nat.reduceSub, Nat.reduceLT, Nat.reduceLeDiff]
    try simp only [Nat.reduceAdd]
    try simp only [go_sem, Nat.reduceEqDiff, reduceIte, Nat.reduceMul, Nat.reduceSub, Nat.reduceLT, Nat.reduceLeDiff]
    refine xcallD_p (window_Add_p a1 (-63) bx39) ?_; try dsimp only
    try refine xd_id ?_
    obtain ⟨x40, bx40, hi2⟩ := bnd hi2
    simp only [go_sem, Nat.reduceEqDiff, reduceIte, Nat.reduceMul, Nat.reduceSub, Nat.reduceLT, Nat.reduceLeDiff]
    try simp only [Nat.reduceAdd]
    try simp only [go_sem, Nat.reduceEqDiff, reduceIte, Nat.reduceMul, Nat.reduceSub, Nat.reduceLT, Nat.reduceLeDiff]
    try simp only [Nat.reduceAdd]
    try simp only [go_sem, Nat.reduceEqDiff, reduceIte, Nat.reduceMul, Nat.reduceSub, Nat.reduceLT, Nat.reduceLeDiff]
    refine xcallD_p (window_Move_p a0 x39 bx40) ?_; try dsimp only
    try refine xd_id ?_
    simp only [go_sem, Nat.reduceEqDiff, reduceIte, Nat.reduceMul, Nat.reduceSub, Nat.reduceLT, Nat.reduceLeDiff]
    try simp only [Nat.reduceAdd]
    try simp only [go_sem, Nat.reduceEqDiff, reduceIte, Nat.reduceMul, Nat.reduceSub, Nat.reduceLT, Nat.reduceLeDiff]
    try simp only [Nat.reduceAdd]
    try simp only [go_sem, Nat.reduceEqDiff, reduceIte, Nat.reduceMul, Nat.reduceSub, Nat.reduceLT, Nat.reduceLeDiff]
    refine And.intro ?_ (hKK _ ?_)
    ·
     subst hall
     clear hKK KK
     first | decide +kernel | (simp [printsOk, apartP, clash, meet]; done) | (simp [printsOk, apartP, clash, meet]; decide +kernel)
    ·
     clear hKK KK hall all
     refine sq_n ?_
     obtain rfl := someInj hi2
     exact ⟨_, rfl, (Wk.canonD [] [] [some 0, some 1] rfl trivial rfl (tmOU 1 (tmOU 0 tmO0 rfl List.not_mem_nil (by simp only [upd_get, Nat.reduceEqDiff, reduceIte, Nat.reduceAdd, Nat.reduceMul, Nat.reduceSub, Nat.reduceLT, Nat.reduceLeDiff, if_true, if_false] <;> rfl) (TmL.clean (e_Window_clean _))) rfl List.not_mem_nil (by simp only [upd_get, Nat.reduceEqDiff, reduceIte, Nat.reduceAdd, Nat.reduceMul, Nat.reduceSub, Nat.reduceLT, Nat.reduceLeDiff, if_true, if_false] <;> rfl) (TmL.clean (e_Window_clean _))) (tmAllU 4 (tmAllU 2 (tmAllU 1 tmAll0 (Tm.v _)) (Tm.ptr rfl)) (Tm.ptr rfl)))⟩
   ·
    have hi2 := cF hi2 h3
    refine awp_skip1 ?_
    refine sq_n ?_
    obtain rfl := someInj hi2
    exact ⟨_, rfl, (Wk.canonD [] [] [some 0, some 1] rfl trivial rfl (tmOU 1 (tmOU 0 tmO0 rfl List.not_mem_nil (by simp only [upd_get, Nat.reduceEqDiff, reduceIte, Nat.reduceAdd, Nat.reduceMul, Nat.reduceSub, Nat.reduceLT, Nat.reduceLeDiff, if_true, if_false] <;> rfl) (TmL.clean (e_Window_clean _))) rfl List.not_mem_nil (by simp only [upd_get, Nat.reduceEqDiff, reduceIte, Nat.reduceAdd, Nat.reduceMul, Nat.reduceSub, Nat.reduceLT, Nat.reduceLeDiff, if_true, if_false] <;> rfl) (TmL.clean (e_Window_clean _))) (tmAllU 4 (tmAllU 2 (tmAllU 1 tmAll0 (Tm.v _)) (Tm.ptr rfl)) (Tm.ptr rfl)))⟩
  ·
   rintro _ rfl
   clear hi2
   unfold reorder_note_S0
   refine awp_nr [1,2,4] (fun _ => rfl) fun tz => ?_
   refine awp_regW fun KK hKK => ?_
   refine xw_id ?_
   obtain ⟨x41, bx41, h0⟩ := bnd h0
   try simp only [go_sem, Nat.reduceEqDiff, reduceIte, Nat.reduceAdd, Nat.reduceMul, Nat.reduceSub, Nat.reduceLT, Nat.reduceLeDiff]
   refine xcall_p (window_Mark_p d38 a1 bx41) ?_; try dsimp only
   try refine xw_id ?_
   try simp only [go_sem, Nat.reduceEqDiff, reduceIte, Nat.reduceAdd, Nat.reduceMul, Nat.reduceSub, Nat.reduceLT, Nat.reduceLeDiff]
   refine hKK _ _ (Wk.refl _ _ _) ?_; clear hKK KK
   refine awp_nr [2,4] (fun _ => rfl) fun tz => ?_
   refine awp_regW fun KK hKK => ?_
   refine xw_id ?_
   try simp only [go_sem, Nat.reduceEqDiff, reduceIte, Nat.reduceAdd, Nat.reduceMul, Nat.reduceSub, Nat.reduceLT, Nat.reduceLeDiff]
   refine hKK _ _ (Wk.refl _ _ _) ?_; clear hKK KK
   refine awp_ret1 ?_
   obtain rfl := someInj h0
   refine endW_i ?_
   refine end_ret0 rs52 (by simp only [go_sem, resV, resAll, resOf, packR, Nat.reduceEqDiff, reduceIte, Nat.reduceAdd, Nat.reduceMul, Nat.reduceSub, Nat.reduceLT, Nat.reduceLeDiff]; rfl) ?_
   try simp only [go_sem, Nat.reduceEqDiff, reduceIte, Nat.reduceAdd, Nat.reduceMul, Nat.reduceSub, Nat.reduceLT, Nat.reduceLeDiff, fz, nilS, packR, List.take_nil, List.take_length, List.length_map, List.length_append, cond_true, cond_false, Nat.ble_eq, ble_self]
   all_goals first | rfl | (simp only [go_sem, Nat.reduceEqDiff, reduceIte, Nat.reduceAdd, Nat.reduceMul, Nat.reduceSub, Nat.reduceLT, Nat.reduceLeDiff, fz, nilS, packR, List.take_nil, List.take_length, List.length_map, List.length_append, cond_true, cond_false, Nat.ble_eq, ble_self, List.map_append] <;> rfl)

end Go.AX.Z.TR

/-! (TRW slices Insert api HeldSeq api HeldSeq) -/

set_option linter.unusedSimpArgs false
set_option linter.unusedVariables false
set_option maxHeartbeats 4000000
set_option maxRecDepth 20000
namespace Go.AX.Z.TR
open Go.AX Go.Proofs
attribute [local irreducible] awp xw xop xcall gsp ob xd xdop xcallD seqQ loopQ blkQ endQ


theorem slices_Insert_api_HeldSeq_api_HeldSeq_0_io (a0 : Int) (a1 : List HeldSeq) (a2 : List HeldSeq) {r : (List HeldSeq)} (h0 : slices_Insert_api_HeldSeq_api_HeldSeq_0 a0 a1 a2 = some r) : SndIO K 53 2 (fun q => [(.ref (q 0) 0 a1.length 42), (vi a0), (.ref (q 1) 0 a2.length 42)]) [(fun q => (List.flatMap E_HeldSeq a1)), (fun q => (List.flatMap E_HeldSeq a2))] (fun q => (.ref (q 2) 0 ((r).length) 42)) [none, (some (fun q => (List.flatMap E_HeldSeq a2))), (some (fun q => (List.flatMap E_HeldSeq r)))] := by
 refine SndIO.of_walkW hC (RenML.cons (RenM.ref 0 0 _ _) (RenML.cons (RenM.const (Clean.v _)) (RenML.cons (RenM.ref 1 0 _ _) RenML.nil))) (tpl_cons (RenML.const (c_HeldSeq _)) (tpl_cons (RenML.const (c_HeldSeq _)) tpl_nil)) (otpl_none (otpl_some (RenML.const (c_HeldSeq _)) (otpl_some (RenML.const (c_HeldSeq _)) otpl_nil))) (RenM.ref 2 0 _ _) rfl (Nat.le_of_ble_eq_true rfl) (show K.P.funcs[53]? = some Try.f53 from Try.func53) rfl rfl (by decide +kernel) (Nat.le_of_ble_eq_true rfl) ?_
 unfold slices_Insert_api_HeldSeq_api_HeldSeq_0 at h0
 refine awp_nr [0,1,2] (fun _ => rfl) fun tz => ?_
 refine awp_regW fun KK hKK => ?_
 refine xw_id ?_
 try simp only [go_sem, Nat.reduceEqDiff, reduceIte, Nat.reduceAdd, Nat.reduceMul, Nat.reduceSub, Nat.reduceLT, Nat.reduceLeDiff, Int.reduceToNat, Int.reduceBEq, Int.reduceBNe, Int.reduceLT, Int.reduceLE, Int.reduceAdd, Int.reduceSub, Int.reduceMul, Int.reduceNeg, Int.reduceEq, Int.reduceNe]
 refine hKK _ _ (Wk.refl _ _ _) ?_; clear hKK KK
 refine awp_nr [0,1,2] (fun _ => rfl) fun tz => ?_
 refine awp_regW fun KK hKK => ?_
 refine xw_id ?_
 obtain ⟨x45, bx45, h0⟩ := bnd h0
 have bx45 := chk_some bx45
 simp only [Bool.and_eq_true, decide_eq_true_eq] at bx45
 obtain ⟨gx45_0, gx45_1⟩ := bx45
 have g1 : (((a1.length : Nat) : Int) - a0).toNat = a1.length - (a0).toNat := by omega
 try simp only [go_sem, Nat.reduceEqDiff, reduceIte, Nat.reduceAdd, Nat.reduceMul, Nat.reduceSub, Nat.reduceLT, Nat.reduceLeDiff, gx45_0, gx45_1, g1]
 refine hKK _ _ (Wk.refl _ _ _) ?_; clear hKK KK
 refine awp_nr [0,1,2] (fun _ => rfl) fun tz => ?_
 refine awp_regW fun KK hKK => ?_
 refine xw_id ?_
 try simp only [go_sem, Nat.reduceEqDiff, reduceIte, Nat.reduceAdd, Nat.reduceMul, Nat.reduceSub, Nat.reduceLT, Nat.reduceLeDiff, Int.reduceToNat, Int.reduceBEq, Int.reduceBNe, Int.reduceLT, Int.reduceLE, Int.reduceAdd, Int.reduceSub, Int.reduceMul, Int.reduceNeg, Int.reduceEq, Int.reduceNe]
 refine hKK _ _ (Wk.refl _ _ _) ?_; clear hKK KK
 refine awp_assoc ?_
 refine awp_nr [0,1,2,7] (fun _ => rfl) fun tz => ?_
 refine awp_regW fun KK hKK => ?_
 refine xw_id ?_
 try simp only [go_sem, Nat.reduceEqDiff, reduceIte, Nat.reduceAdd, Nat.reduceMul, Nat.reduceSub, Nat.reduceLT, Nat.reduceLeDiff]
 refine hKK _ _ (Wk.refl _ _ _) ?_; clear hKK KK
 refine awp_cond (b := (((a2.length : Nat) : Int) == 0)) rfl (fun h2 => ?_) (fun h2 => ?_)
 ·
  have h0 := cT h0 h2
  refine awp_assoc ?_
  refine awp_nr [0] (fun _ => rfl) fun tz => ?_
  refine awp_regW fun KK hKK => ?_
  refine xw_id ?_
  try simp only [go_sem, Nat.reduceEqDiff, reduceIte, Nat.reduceAdd, Nat.reduceMul, Nat.reduceSub, Nat.reduceLT, Nat.reduceLeDiff]
  refine hKK _ _ (Wk.refl _ _ _) ?_; clear hKK KK
  refine awp_ret ?_
  obtain rfl := someInj h0
  refine endW_i ?_
  refine end_ret0 rs53 (rfl) ?_
  refine ResIO.mk [] [some 0, some 1, some 0] rfl (resED (resEU List.not_mem_nil (by simp only [upd_get, Nat.reduceEqDiff, reduceIte, Nat.reduceAdd, Nat.reduceMul, Nat.reduceSub, Nat.reduceLT, Nat.reduceLeDiff, if_true, if_false] <;> rfl) (TmL.of_eq (by first | rfl | (simp only [List.flatMap_append, List.flatMap_cons, List.flatMap_nil, List.map_append, List.map_cons, List.map_nil, List.append_nil, List.nil_append]; done) | (simp only [List.flatMap_append, List.flatMap_cons, List.flatMap_nil, List.map_append, List.map_cons, List.map_nil, List.append_nil, List.nil_append]; rfl)) (c_HeldSeq _)) (resEU List.not_mem_nil (by simp only [upd_get, Nat.reduceEqDiff, reduceIte, Nat.reduceAdd, Nat.reduceMul, Nat.reduceSub, Nat.reduceLT, Nat.reduceLeDiff, if_true, if_false] <;> rfl) (TmL.of_eq (by first | rfl | (simp only [List.flatMap_append, List.flatMap_cons, List.flatMap_nil, List.map_append, List.map_cons, List.map_nil, List.append_nil, List.nil_append]; done) | (simp only [List.flatMap_append, List.flatMap_cons, List.flatMap_nil, List.map_append, List.map_cons, List.map_nil, List.append_nil, List.nil_append]; rfl)) (c_HeldSeq _)) resE0))) (Tm.refL rfl ?_)
  all_goals (first | rfl | (simp only [List.length_take]; omega) | (simp only [List.length_append, List.length_cons, List.length_nil, List.length_modify, List.length_set, Nat.zero_add]; done) | (simp only [List.length_append, List.length_take, List.length_drop, List.length_cons, List.length_nil, List.length_modify, List.length_set, Nat.zero_add]; omega) | (simp only [List.length_append, List.length_take, List.length_drop, List.length_cons, List.length_nil, List.length_modify, List.length_set, Nat.zero_add]; done) | omega)
 ·
  have h0 := cF h0 h2
  refine awp_skip ?_
  refine awp_nr [0,1,2,7] (fun _ => rfl) fun tz => ?_
  refine awp_regW fun KK hKK => ?_
  refine xw_id ?_
  try simp only [go_sem, Nat.reduceEqDiff, reduceIte, Nat.reduceAdd, Nat.reduceMul, Nat.reduceSub, Nat.reduceLT, Nat.reduceLeDiff, Int.reduceToNat, Int.reduceBEq, Int.reduceBNe, Int.reduceLT, Int.reduceLE, Int.reduceAdd, Int.reduceSub, Int.reduceMul, Int.reduceNeg, Int.reduceEq, Int.reduceNe]
  refine hKK _ _ (Wk.refl _ _ _) ?_; clear hKK KK
  refine awp_assoc ?_
  refine awp_nr [0,1,2,7,8] (fun _ => rfl) fun tz => ?_
  refine awp_regW fun KK hKK => ?_
  refine xw_id ?_
  try simp only [go_sem, Nat.reduceEqDiff, reduceIte, Nat.reduceAdd, Nat.reduceMul, Nat.reduceSub, Nat.reduceLT, Nat.reduceLeDiff]
  refine hKK _ _ (Wk.refl _ _ _) ?_; clear hKK KK
  refine awp_cond (b := (a0 == ((a1.length : Nat) : Int))) rfl (fun h3 => ?_) (fun h3 => ?_)
  ·
   have h0 := cT h0 h3
   refine awp_assoc ?_
   refine awp_nr [0,2] (fun _ => rfl) fun tz => ?_
   refine awp_regW fun KK hKK => ?_
   refine xw_id ?_
   obtain ⟨x46, bx46, h0⟩ := bnd h0
   have bx46 := chk_some bx46
   simp only [Bool.and_eq_true, decide_eq_true_eq] at bx46
   have gx46_0 := bx46
   try simp only [go_sem, Nat.reduceEqDiff, reduceIte, Nat.reduceAdd, Nat.reduceMul, Nat.reduceSub, Nat.reduceLT, Nat.reduceLeDiff, Int.reduceToNat, Int.reduceBEq, Int.reduceBNe, Int.reduceLT, Int.reduceLE, Int.reduceAdd, Int.reduceSub, Int.reduceMul, Int.reduceNeg, Int.reduceEq, Int.reduceNe, gx46_0]
   refine hKK _ _ (Wk.refl _ _ _) ?_; clear hKK KK
   refine awp_ret ?_
   obtain rfl := someInj h0
   refine endW_i ?_
   refine end_ret0 rs53 (rfl) ?_
   refine ResIO.mk [] [some 0, some 1, some 19] rfl (resED (resEU List.not_mem_nil (by simp only [upd_get, Nat.reduceEqDiff, reduceIte, Nat.reduceAdd, Nat.reduceMul, Nat.reduceSub, Nat.reduceLT, Nat.reduceLeDiff, if_true, if_false] <;> rfl) (TmL.of_eq (by first | rfl | (simp only [List.flatMap_append, List.flatMap_cons, List.flatMap_nil, List.map_append, List.map_cons, List.map_nil, List.append_nil, List.nil_append]; done) | (simp only [List.flatMap_append, List.flatMap_cons, List.flatMap_nil, List.map_append, List.map_cons, List.map_nil, List.append_nil, List.nil_append]; rfl)) (c_HeldSeq _)) (resEU List.not_mem_nil (by simp only [upd_get, Nat.reduceEqDiff, reduceIte, Nat.reduceAdd, Nat.reduceMul, Nat.reduceSub, Nat.reduceLT, Nat.reduceLeDiff, if_true, if_false] <;> rfl) (TmL.of_eq (by first | rfl | (simp only [List.flatMap_append, List.flatMap_cons, List.flatMap_nil, List.map_append, List.map_cons, List.map_nil, List.append_nil, List.nil_append]; done) | (simp only [List.flatMap_append, List.flatMap_cons, List.flatMap_nil, List.map_append, List.map_cons, List.map_nil, List.append_nil, List.nil_append]; rfl)) (c_HeldSeq _)) resE0))) (Tm.refL rfl ?_)
   all_goals (first | rfl | (simp only [List.length_take]; omega) | (simp only [List.length_append, List.length_cons, List.length_nil, List.length_modify, List.length_set, Nat.zero_add]; done) | (simp only [List.length_append, List.length_take, List.length_drop, List.length_cons, List.length_nil, List.length_modify, List.length_set, Nat.zero_add]; omega) | (simp only [List.length_append, List.length_take, List.length_drop, List.length_cons, List.length_nil, List.length_modify, List.length_set, Nat.zero_add]; done) | omega)
  ·
   have h0 := cF h0 h3
   refine awp_skip ?_
   refine awp_assoc ?_
   refine awp_nr [0,1,2,7,8] (fun _ => rfl) fun tz => ?_
   refine awp_regW fun KK hKK => ?_
   refine xw_id ?_
   cases h0

theorem slices_Insert_api_HeldSeq_api_HeldSeq_io (a0 : Int) (a1 : List HeldSeq) (a2 : List HeldSeq) {r : (List HeldSeq)} (h0 : slices_Insert_api_HeldSeq_api_HeldSeq a0 a1 a2 = some r) : SndIO K 53 2 (fun q => [(.ref (q 0) 0 a1.length 42), (vi a0), (.ref (q 1) 0 a2.length 42)]) [(fun q => (List.flatMap E_HeldSeq a1)), (fun q => (List.flatMap E_HeldSeq a2))] (fun q => (.ref (q 2) 0 ((r).length) 42)) [none, (some (fun q => (List.flatMap E_HeldSeq a2))), (some (fun q => (List.flatMap E_HeldSeq r)))] := by
 unfold slices_Insert_api_HeldSeq_api_HeldSeq at h0
 obtain ⟨x13, bx13, h0⟩ := bnd h0
 have bx13' := bx13
 have bx13 := chk_some bx13
 simp only [Bool.and_eq_true, decide_eq_true_eq] at bx13
 obtain ⟨gx13_0, gx13_1⟩ := bx13
 have bx13' := bx13'
 obtain ⟨i, rfl⟩ : ∃ i : Nat, a0 = (i : Int) := ⟨a0.toNat, by omega⟩
 rcases Bool.eq_false_or_eq_true (((a2.length : Nat) : Int) == 0) with h2 | h2
 ·
  exact slices_Insert_api_HeldSeq_api_HeldSeq_0_io _ _ _ (by unfold slices_Insert_api_HeldSeq_api_HeldSeq_0; simp only [bx13', Option.bind_some, h2, cond_true]; exact cT h0 h2)
 have h0 := cF h0 h2
 rcases Bool.eq_false_or_eq_true (((i : Nat) : Int) == ((a1.length : Nat) : Int)) with h3 | h3
 ·
  exact slices_Insert_api_HeldSeq_api_HeldSeq_0_io _ _ _ (by unfold slices_Insert_api_HeldSeq_api_HeldSeq_0; simp only [bx13', Option.bind_some, h2, cond_false, h3, cond_true]; exact cT h0 h3)
 have h0 := cF h0 h3
 obtain ⟨x15, bx15, h0⟩ := bnd h0
 have bx15 := chk_some bx15
 simp only [Bool.and_eq_true, decide_eq_true_eq] at bx15
 obtain ⟨hm, hb⟩ := bx15
 obtain rfl := someInj h0
 have hne : (i : Int) ≠ (a1.length : Int) := by simpa using h3
 have hlt : i < a1.length := by omega
 simp only [Int.toNat_natCast]
 refine SndIO.of_walkC hC (RenML.cons (RenM.ref 0 0 _ _) (RenML.cons (RenM.const (Clean.v _)) (RenML.cons (RenM.ref 1 0 _ _) RenML.nil))) (tpl_cons (RenML.const (c_HeldSeq _)) (tpl_cons (RenML.const (c_HeldSeq _)) tpl_nil)) (otpl_none (otpl_some (RenML.const (c_HeldSeq _)) (otpl_some (RenML.const (c_HeldSeq _)) otpl_nil))) (RenM.ref 2 0 _ _) rfl (Nat.le_of_ble_eq_true rfl) (show K.P.funcs[53]? = some Try.f53 from Try.func53) rfl rfl (by decide +kernel) (Nat.le_of_ble_eq_true rfl) rfl (by omega) fun cap hcap => ?_
 have g0 : (0 ≤ (i : Int)) = True := eq_true (by omega)
 have g1 : ((i : Int) ≤ (a1.length : Int)) = True := eq_true (by omega)
 have g2 : ((a1.length : Int) ≤ (cap : Int)) = True := eq_true (by omega)
 have g3 : ((i : Int) < (cap : Int)) = True := eq_true (by omega)
 have hw1 : IntKind.wrap .i64 ((a1.length : Int) + 1) = (a1.length : Int) + 1 := by rw [IntKind.wrap_i64]; omega
 have hw2 : IntKind.wrap .i64 ((a1.length : Int) + 1 - (i : Int)) = (a1.length : Int) + 1 - (i : Int) := by rw [IntKind.wrap_i64]; omega
 have hLr : ∀ l : List HeldSeq, (List.flatMap E_HeldSeq l).length = l.length * 42 := fun l => r_HeldSeq_len l
 repeat refine awp_assoc ?_
 refine awp_nr [0,1,2] (fun _ => rfl) fun tz => ?_
 refine awp_regW fun KK hKK => ?_
 refine xw_id ?_
 try simp only [go_sem, Nat.reduceEqDiff, reduceIte, Nat.reduceMul, Nat.reduceSub, Nat.reduceLT, Nat.reduceLeDiff, Int.reduceToNat, Int.reduceBEq, Int.reduceBNe, Int.reduceLT, Int.reduceLE, Int.reduceAdd, Int.reduceSub, Int.reduceMul, Int.reduceNeg, Int.reduceEq, Int.reduceNe, Nat.reduceAdd, g0, g1, g2, g3, hm, hLr, Int.sub_zero, Int.toNat_natCast, Nat.sub_zero]
 refine hKK _ _ (Wk.refl _ _ _) ?_; clear hKK KK
 repeat refine awp_assoc ?_
 refine awp_nr [0,1,2] (fun _ => rfl) fun tz => ?_
 refine awp_regW fun KK hKK => ?_
 refine xw_id ?_
 try simp only [go_sem, Nat.reduceEqDiff, reduceIte, Nat.reduceMul, Nat.reduceSub, Nat.reduceLT, Nat.reduceLeDiff, Int.reduceToNat, Int.reduceBEq, Int.reduceBNe, Int.reduceLT, Int.reduceLE, Int.reduceAdd, Int.reduceSub, Int.reduceMul, Int.reduceNeg, Int.reduceEq, Int.reduceNe, Nat.reduceAdd, g0, g1, g2, g3, hm, hLr, Int.sub_zero, Int.toNat_natCast, Nat.sub_zero]
 refine hKK _ _ (Wk.refl _ _ _) ?_; clear hKK KK
 repeat refine awp_assoc ?_
 refine awp_nr [0,1,2] (fun _ => rfl) fun tz => ?_
 refine awp_regW fun KK hKK => ?_
 refine xw_id ?_
 try simp only [go_sem, Nat.reduceEqDiff, reduceIte, Nat.reduceMul, Nat.reduceSub, Nat.reduceLT, Nat.reduceLeDiff, Int.reduceToNat, Int.reduceBEq, Int.reduceBNe, Int.reduceLT, Int.reduceLE, Int.reduceAdd, Int.reduceSub, Int.reduceMul, Int.reduceNeg, Int.reduceEq, Int.reduceNe, Nat.reduceAdd, g0, g1, g2, g3, hm, hLr, Int.sub_zero, Int.toNat_natCast, Nat.sub_zero]
 refine hKK _ _ (Wk.refl _ _ _) ?_; clear hKK KK
 refine awp_assoc ?_
 repeat refine awp_assoc ?_
 refine awp_nr [0,1,2,7] (fun _ => rfl) fun tz => ?_
 refine awp_regW fun KK hKK => ?_
 refine xw_id ?_
 try simp only [go_sem, Nat.reduceEqDiff, reduceIte, Nat.reduceMul, Nat.reduceSub, Nat.reduceLT, Nat.reduceLeDiff, Int.reduceToNat, Int.reduceBEq, Int.reduceBNe, Int.reduceLT, Int.reduceLE, Int.reduceAdd, Int.reduceSub, Int.reduceMul, Int.reduceNeg, Int.reduceEq, Int.reduceNe, Nat.reduceAdd, g0, g1, g2, g3, hm, hLr, Int.sub_zero, Int.toNat_natCast, Nat.sub_zero]
 refine hKK _ _ (Wk.refl _ _ _) ?_; clear hKK KK
 refine awp_cond (b := false) rfl (fun h => by cases h) (fun _ => ?_)
 refine awp_skip ?_
 repeat refine awp_assoc ?_
 refine awp_nr [0,1,2,7] (fun _ => rfl) fun tz => ?_
 refine awp_regW fun KK hKK => ?_
 refine xw_id ?_
 try simp only [go_sem, Nat.reduceEqDiff, reduceIte, Nat.reduceMul, Nat.reduceSub, Nat.reduceLT, Nat.reduceLeDiff, Int.reduceToNat, Int.reduceBEq, Int.reduceBNe, Int.reduceLT, Int.reduceLE, Int.reduceAdd, Int.reduceSub, Int.reduceMul, Int.reduceNeg, Int.reduceEq, Int.reduceNe, Nat.reduceAdd, g0, g1, g2, g3, hm, hLr, Int.sub_zero, Int.toNat_natCast, Nat.sub_zero]
 refine hKK _ _ (Wk.refl _ _ _) ?_; clear hKK KK
 refine awp_assoc ?_
 repeat refine awp_assoc ?_
 refine awp_nr [0,1,2,7,8] (fun _ => rfl) fun tz => ?_
 refine awp_regW fun KK hKK => ?_
 refine xw_id ?_
 try simp only [go_sem, Nat.reduceEqDiff, reduceIte, Nat.reduceMul, Nat.reduceSub, Nat.reduceLT, Nat.reduceLeDiff, Int.reduceToNat, Int.reduceBEq, Int.reduceBNe, Int.reduceLT, Int.reduceLE, Int.reduceAdd, Int.reduceSub, Int.reduceMul, Int.reduceNeg, Int.reduceEq, Int.reduceNe, Nat.reduceAdd, g0, g1, g2, g3, hm, hLr, Int.sub_zero, Int.toNat_natCast, Nat.sub_zero]
 refine hKK _ _ (Wk.refl _ _ _) ?_; clear hKK KK
 refine awp_cond (b := (((i : Nat) : Int) == ((a1.length : Nat) : Int))) rfl (fun h => absurd h (by simp only [beq_iff_eq]; omega)) (fun _ => ?_)
 refine awp_skip ?_
 refine awp_assoc ?_
 repeat refine awp_assoc ?_
 refine awp_nr [0,1,2,7,8] (fun _ => rfl) fun tz => ?_
 refine awp_regW fun KK hKK => ?_
 refine xw_id ?_
 try simp only [go_sem, Nat.reduceEqDiff, reduceIte, Nat.reduceMul, Nat.reduceSub, Nat.reduceLT, Nat.reduceLeDiff, Int.reduceToNat, Int.reduceBEq, Int.reduceBNe, Int.reduceLT, Int.reduceLE, Int.reduceAdd, Int.reduceSub, Int.reduceMul, Int.reduceNeg, Int.reduceEq, Int.reduceNe, Nat.reduceAdd, g0, g1, g2, g3, hm, hLr, Int.sub_zero, Int.toNat_natCast, Nat.sub_zero, hw1]
 refine hKK _ _ (Wk.refl _ _ _) ?_; clear hKK KK
 refine awp_cond (b := decide ((cap : Int) < (a1.length : Int) + 1)) rfl (fun h3 => ?_) (fun h3 => ?_)
 ·
  have h3 := of_decide_eq_true h3
  refine awp_assoc ?_
  have elI : elS K.P 3 = none := by kernel_rfl
  have e1 : ((i : Int) + ((a1.length : Int) + 1 - (i : Int))) = (a1.length : Int) + 1 := by omega
  have e2 : ((a1.length : Int) + 1 - (i : Int)).toNat = a1.length + 1 - i := by omega
  have e3 : (i + (a1.length + 1 - i)) = a1.length + 1 := by omega
  have e4 : (0 < (a1.length : Int) + 1 - (i : Int)) = True := eq_true (by omega)
  have e5 : ((a1.length : Int) + 1 - (i : Int) < 9223372036854775808) = True := eq_true (by omega)
  have e6 : ((cap : Int) < (a1.length : Int) + 1) = True := eq_true h3
  have e7 : (((a1.length : Int) + 1) * 112 ≤ 140737488355328) = True := eq_true (by omega)
  have e8 : (i * 42 ≤ a1.length * 42) = True := eq_true (by omega)
  have e9 : ((i : Int) ≤ (cap : Int)) = True := eq_true (by omega)
  have e10 : ((0 : Int) < (cap : Int)) = True := eq_true (by omega)
  obtain ⟨c0, hc0⟩ : ∃ c, c = (List.flatMap E_HeldSeq (List.take i a1)) ++ rep (a1.length + 1 - i) (e_HeldSeq HeldSeq.z vnil) := ⟨_, rfl⟩
  have hl0 : c0.length = (a1.length + 1) * 42 := by rw [hc0, List.length_append, hLr, List.length_take, rep_length]; rw [e_HeldSeq_len]; omega
  repeat refine awp_assoc ?_
  refine awp_nr [0,1,2,7,8] (fun _ => rfl) fun tz => ?_
  refine awp_regW fun KK hKK => ?_
  refine xw_id ?_
  try simp only [go_sem, Nat.reduceEqDiff, reduceIte, Nat.reduceMul, Nat.reduceSub, Nat.reduceLT, Nat.reduceLeDiff, Int.reduceToNat, Int.reduceBEq, Int.reduceBNe, Int.reduceLT, Int.reduceLE, Int.reduceAdd, Int.reduceSub, Int.reduceMul, Int.reduceNeg, Int.reduceEq, Int.reduceNe, Nat.reduceAdd, g0, g1, g2, g3, hm, hLr, Int.sub_zero, Int.toNat_natCast, Nat.sub_zero, hw1, hw2, e1, e2, e3, e4, e5, e6, e7, e8, e9, e10, elI, ← hc0]
  refine hKK _ _ (Wk.refl _ _ _) ?_; clear hKK KK
  have f1 : ((i : Int) ≤ ((a1.length + 1 : Nat) : Int)) = True := eq_true (by omega)
  have f2 : (((a1.length + 1 : Nat) : Int) - (i : Int)).toNat = a1.length + 1 - i := by omega
  have s2 : sub? (List.flatMap E_HeldSeq a2) 0 42 = some (List.flatMap E_HeldSeq a2) := by unfold sub?; rw [if_pos (by rw [hLr, hm]; omega), List.drop_zero, List.take_of_length_le (by rw [hLr, hm]; omega)]
  have t2 : List.take 42 (List.flatMap E_HeldSeq a2) = (List.flatMap E_HeldSeq a2) := List.take_of_length_le (by rw [hLr, hm]; omega)
  have m1 : min 1 (a1.length + 1 - i) = 1 := by omega
  have q1 : (i * 42 + 42 ≤ c0.length) = True := eq_true (by rw [hl0]; omega)
  obtain ⟨c1, hc1⟩ : ∃ c, c = putAt c0 (i * 42) (List.flatMap E_HeldSeq a2) := ⟨_, rfl⟩
  have hl1 : c1.length = (a1.length + 1) * 42 := by rw [hc1, putAt_length, hl0]
  repeat refine awp_assoc ?_
  refine awp_nr [0,1,2,7,8,9] (fun _ => rfl) fun tz => ?_
  refine awp_regW fun KK hKK => ?_
  refine xw_id ?_
  try simp only [go_sem, Nat.reduceEqDiff, reduceIte, Nat.reduceMul, Nat.reduceSub, Nat.reduceLT, Nat.reduceLeDiff, Int.reduceToNat, Int.reduceBEq, Int.reduceBNe, Int.reduceLT, Int.reduceLE, Int.reduceAdd, Int.reduceSub, Int.reduceMul, Int.reduceNeg, Int.reduceEq, Int.reduceNe, Nat.reduceAdd, g0, g1, g2, g3, hm, hLr, Int.sub_zero, Int.toNat_natCast, Nat.sub_zero, f1, f2, s2, t2, m1, q1, ← hc1]
  refine hKK _ _ (Wk.refl _ _ _) ?_; clear hKK KK
  have f3 : ((i : Int) + 1 ≤ ((a1.length + 1 : Nat) : Int)) = True := eq_true (by omega)
  have f4 : (((a1.length + 1 : Nat) : Int) - ((i : Int) + 1)).toNat = a1.length - i := by omega
  have f5 : ((i : Int) + 1).toNat = i + 1 := by omega
  have f6 : ((a1.length : Int) - (i : Int)).toNat = a1.length - i := by omega
  have f7 : (0 ≤ (i : Int) + 1) = True := eq_true (by omega)
  have hw3 : IntKind.wrap .i64 ((i : Int) + 1) = (i : Int) + 1 := by rw [IntKind.wrap_i64]; omega
  have s3 : sub? (List.flatMap E_HeldSeq a1) (i * 42) ((a1.length - i) * 42) = some (List.flatMap E_HeldSeq (List.drop i a1)) := rows_subD l_HeldSeq a1 i (by omega)
  have t3 : List.take ((a1.length - i) * 42) (List.flatMap E_HeldSeq (List.drop i a1)) = (List.flatMap E_HeldSeq (List.drop i a1)) := List.take_of_length_le (by rw [hLr, List.length_drop]; exact Nat.le_refl _)
  have q2 : ((i + 1) * 42 + (a1.length - i) * 42 ≤ c1.length) = True := eq_true (by rw [hl1]; omega)
  have m2 : min (a1.length - i) (a1.length - i) = a1.length - i := Nat.min_self _
  have hfin : putAt c1 ((i + 1) * 42) (List.flatMap E_HeldSeq (List.drop i a1)) = (List.flatMap E_HeldSeq (List.take i a1 ++ a2 ++ List.drop i a1)) := by
   have := ins_grow (fun l => (List.flatMap E_HeldSeq l)) 42 (fun l => r_HeldSeq_len l) (fun x y => List.flatMap_append) a1 a2 i hm hlt (e_HeldSeq HeldSeq.z vnil) (by rw [e_HeldSeq_len])
   rw [hc1, hc0]; simpa using this
  repeat refine awp_assoc ?_
  refine awp_nr [0,1,2,7,8,9] (fun _ => rfl) fun tz => ?_
  refine awp_regDW fun KK hKK all hall => ?_
  refine xd_id ?_
  try simp only [go_sem, Nat.reduceEqDiff, reduceIte, Nat.reduceMul, Nat.reduceSub, Nat.reduceLT, Nat.reduceLeDiff, Int.reduceToNat, Int.reduceBEq, Int.reduceBNe, Int.reduceLT, Int.reduceLE, Int.reduceAdd, Int.reduceSub, Int.reduceMul, Int.reduceNeg, Int.reduceEq, Int.reduceNe, Nat.reduceAdd, g0, g1, g2, g3, hm, hLr, Int.sub_zero, Int.toNat_natCast, Nat.sub_zero, f3, f4, f5, f6, f7, hw3, s3, t3, q2, m2, hfin]
  refine And.intro ?_ (hKK _ _ (Wk.refl _ _ _) ?_)
  ·
   subst hall
   clear hKK KK
   first | (simp [printsOk, apartP, clash, meet]; done) | (simp [printsOk, apartP, clash, meet]; decide +kernel) | decide +kernel
  ·
   clear hKK KK hall all
   repeat refine awp_assoc ?_
   refine awp_nr [0,1,2,7,8,9] (fun _ => rfl) fun tz => ?_
   refine awp_regW fun KK hKK => ?_
   refine xw_id ?_
   try simp only [go_sem, Nat.reduceEqDiff, reduceIte, Nat.reduceMul, Nat.reduceSub, Nat.reduceLT, Nat.reduceLeDiff, Int.reduceToNat, Int.reduceBEq, Int.reduceBNe, Int.reduceLT, Int.reduceLE, Int.reduceAdd, Int.reduceSub, Int.reduceMul, Int.reduceNeg, Int.reduceEq, Int.reduceNe, Nat.reduceAdd, g0, g1, g2, g3, hm, hLr, Int.sub_zero, Int.toNat_natCast, Nat.sub_zero]
   refine hKK _ _ (Wk.refl _ _ _) ?_; clear hKK KK
   repeat refine awp_assoc ?_
   refine awp_ret ?_
   refine endW_i ?_
   refine end_ret0 rs53 (rfl) ?_
   refine ResIO.mk [] [some 0, some 1, some 31] rfl (resED (resEU List.not_mem_nil (by simp only [upd_get, Nat.reduceEqDiff, reduceIte, Nat.reduceMul, Nat.reduceSub, Nat.reduceLT, Nat.reduceLeDiff, Int.reduceToNat, Int.reduceBEq, Int.reduceBNe, Int.reduceLT, Int.reduceLE, Int.reduceAdd, Int.reduceSub, Int.reduceMul, Int.reduceNeg, Int.reduceEq, Int.reduceNe, Nat.reduceAdd, if_true, if_false] <;> rfl) (TmL.of_eq rfl (c_HeldSeq _)) (resEU List.not_mem_nil (by simp only [upd_get, Nat.reduceEqDiff, reduceIte, Nat.reduceMul, Nat.reduceSub, Nat.reduceLT, Nat.reduceLeDiff, Int.reduceToNat, Int.reduceBEq, Int.reduceBNe, Int.reduceLT, Int.reduceLE, Int.reduceAdd, Int.reduceSub, Int.reduceMul, Int.reduceNeg, Int.reduceEq, Int.reduceNe, Nat.reduceAdd, if_true, if_false] <;> rfl) (TmL.of_eq rfl (c_HeldSeq _)) resE0))) (Tm.refL rfl ?_)
   all_goals (first | rfl | (simp only [List.length_append, List.length_take, List.length_drop, hm]; omega))
 ·
  have h3 := of_decide_eq_false h3
  refine awp_skip ?_
  have k0 : (0 ≤ (a1.length : Int) + 1) = True := eq_true (by omega)
  have k1 : ((a1.length : Int) + 1 ≤ (cap : Int)) = True := eq_true (by omega)
  have k2 : ((0 : Int) < (cap : Int)) = True := eq_true (by omega)
  have k3 : ((a1.length : Int) + 1).toNat = a1.length + 1 := by omega
  repeat refine awp_assoc ?_
  refine awp_nr [0,1,2,7,8] (fun _ => rfl) fun tz => ?_
  refine awp_regW fun KK hKK => ?_
  refine xw_id ?_
  try simp only [go_sem, Nat.reduceEqDiff, reduceIte, Nat.reduceMul, Nat.reduceSub, Nat.reduceLT, Nat.reduceLeDiff, Int.reduceToNat, Int.reduceBEq, Int.reduceBNe, Int.reduceLT, Int.reduceLE, Int.reduceAdd, Int.reduceSub, Int.reduceMul, Int.reduceNeg, Int.reduceEq, Int.reduceNe, Nat.reduceAdd, g0, g1, g2, g3, hm, hLr, Int.sub_zero, Int.toNat_natCast, Nat.sub_zero, hw1, k0, k1, k2, k3]
  refine hKK _ _ (Wk.refl _ _ _) ?_; clear hKK KK
  have f3 : ((i : Int) + 1 ≤ ((a1.length + 1 : Nat) : Int)) = True := eq_true (by omega)
  have f4 : (((a1.length + 1 : Nat) : Int) - ((i : Int) + 1)).toNat = a1.length - i := by omega
  have f5 : ((i : Int) + 1).toNat = i + 1 := by omega
  have f6 : (((a1.length + 1 : Nat) : Int) - (i : Int)).toNat = a1.length + 1 - i := by omega
  have f7 : (0 ≤ (i : Int) + 1) = True := eq_true (by omega)
  have f8 : ((i : Int) + 1 < (cap : Int)) = True := eq_true (by omega)
  have f9 : (((a1.length + 1 : Nat) : Int) ≤ (cap : Int)) = True := eq_true (by omega)
  have f1 : ((i : Int) ≤ ((a1.length + 1 : Nat) : Int)) = True := eq_true (by omega)
  have hw3 : IntKind.wrap .i64 ((i : Int) + 1) = (i : Int) + 1 := by rw [IntKind.wrap_i64]; omega
  repeat refine awp_assoc ?_
  refine awp_nr [0,1,2,7,8] (fun _ => rfl) fun tz => ?_
  refine awp_regW fun KK hKK => ?_
  refine xw_id ?_
  try simp only [go_sem, Nat.reduceEqDiff, reduceIte, Nat.reduceMul, Nat.reduceSub, Nat.reduceLT, Nat.reduceLeDiff, Int.reduceToNat, Int.reduceBEq, Int.reduceBNe, Int.reduceLT, Int.reduceLE, Int.reduceAdd, Int.reduceSub, Int.reduceMul, Int.reduceNeg, Int.reduceEq, Int.reduceNe, Nat.reduceAdd, g0, g1, g2, g3, hm, hLr, Int.sub_zero, Int.toNat_natCast, Nat.sub_zero, f3, f4, f5, f6, f7, f8, f9, hw3]
  refine xcall_g (overlaps_apart (tS := 22) (tR := 4) (show K.P.funcs[66]? = some Try.f66 from Try.func66) rfl rfl rfl (by kernel_rfl) (elS_eq el22) sz58 (by omega) (by simp only [upd_get, Nat.reduceEqDiff, reduceIte]; rfl) (by simp only [upd_get, Nat.reduceEqDiff, reduceIte]; rfl) (by decide) (by omega) (by omega)) ?_
  rintro r hs ⟨rfl, rfl⟩
  refine xw_id ?_
  try simp only [go_sem, Nat.reduceEqDiff, reduceIte, Nat.reduceMul, Nat.reduceSub, Nat.reduceLT, Nat.reduceLeDiff, Int.reduceToNat, Int.reduceBEq, Int.reduceBNe, Int.reduceLT, Int.reduceLE, Int.reduceAdd, Int.reduceSub, Int.reduceMul, Int.reduceNeg, Int.reduceEq, Int.reduceNe, Nat.reduceAdd, g0, g1, g2, g3, hm, hLr, Int.sub_zero, Int.toNat_natCast, Nat.sub_zero]
  refine hKK _ _ (Wk.refl _ _ _) ?_; clear hKK KK
  repeat refine awp_assoc ?_
  refine awp_cond (b := true) rfl (fun _ => ?_) (fun h => by cases h)
  obtain ⟨c1, hc1⟩ : ∃ c, c = (List.flatMap E_HeldSeq (List.take (i + 1) a1 ++ List.drop i a1)) ++ List.drop ((i + 1) * 42 + (a1.length - i) * 42) (List.flatMap E_HeldSeq a1) := ⟨_, rfl⟩
  obtain ⟨hl1, hfin⟩ := ins_room (fun l => (List.flatMap E_HeldSeq l)) 42 (fun l => r_HeldSeq_len l) (fun x y => List.flatMap_append) (fun x n => rows_take l_HeldSeq x n) a1 a2 i hlt (c1 := c1) (by rw [hc1, List.flatMap_append, rows_take l_HeldSeq])
  try simp only [Nat.mul_one] at hfin hl1
  have s3 : sub? (List.flatMap E_HeldSeq a1) (i * 42) ((a1.length - i) * 42) = some (List.flatMap E_HeldSeq (List.drop i a1)) := rows_subD l_HeldSeq a1 i (by omega)
  have m2 : min (a1.length + 1 - i) (a1.length - i) = a1.length - i := by omega
  have q2 : ((i + 1) * 42 ≤ a1.length * 42) = True := eq_true (by omega)
  have s9 : sub? (List.flatMap E_HeldSeq a1) (i * 42) ((a1.length + 1 - i) * 42) = none := by unfold sub?; rw [if_neg]; rw [hLr]; omega
  repeat refine awp_assoc ?_
  refine awp_nr [0,1,2,7,8] (fun _ => rfl) fun tz => ?_
  refine awp_regDW fun KK hKK all hall => ?_
  refine xd_id ?_
  try simp only [go_sem, Nat.reduceEqDiff, reduceIte, Nat.reduceMul, Nat.reduceSub, Nat.reduceLT, Nat.reduceLeDiff, Int.reduceToNat, Int.reduceBEq, Int.reduceBNe, Int.reduceLT, Int.reduceLE, Int.reduceAdd, Int.reduceSub, Int.reduceMul, Int.reduceNeg, Int.reduceEq, Int.reduceNe, Nat.reduceAdd, g0, g1, g2, g3, hm, hLr, Int.sub_zero, Int.toNat_natCast, Nat.sub_zero, f1, f3, f4, f5, f6, f7, f8, f9, hw3, s3, s9, m2, q2, ← hc1]
  refine And.intro ?_ (hKK _ _ (Wk.refl _ _ _) ?_)
  ·
   subst hall
   clear hKK KK
   first | (simp [printsOk, apartP, clash, meet]; done) | (simp [printsOk, apartP, clash, meet]; decide +kernel) | decide +kernel
  ·
   clear hKK KK hall all
   have s2 : sub? (List.flatMap E_HeldSeq a2) 0 42 = some (List.flatMap E_HeldSeq a2) := by unfold sub?; rw [if_pos (by rw [hLr, hm]; omega), List.drop_zero, List.take_of_length_le (by rw [hLr, hm]; omega)]
   have t2 : List.take 42 (List.flatMap E_HeldSeq a2) = (List.flatMap E_HeldSeq a2) := List.take_of_length_le (by rw [hLr, hm]; omega)
   have m1 : min 1 (a1.length + 1 - i) = 1 := by omega
   have q1 : (i * 42 ≤ c1.length) = True := eq_true (by rw [hl1]; omega)
   repeat refine awp_assoc ?_
   refine awp_nr [0,1,2,7,8] (fun _ => rfl) fun tz => ?_
   refine awp_regW fun KK hKK => ?_
   refine xw_id ?_
   try simp only [go_sem, Nat.reduceEqDiff, reduceIte, Nat.reduceMul, Nat.reduceSub, Nat.reduceLT, Nat.reduceLeDiff, Int.reduceToNat, Int.reduceBEq, Int.reduceBNe, Int.reduceLT, Int.reduceLE, Int.reduceAdd, Int.reduceSub, Int.reduceMul, Int.reduceNeg, Int.reduceEq, Int.reduceNe, Nat.reduceAdd, g0, g1, g2, g3, hm, hLr, Int.sub_zero, Int.toNat_natCast, Nat.sub_zero, f1, f6, f7, f9, s2, t2, m1, q1, hfin]
   refine hKK _ _ (Wk.refl _ _ _) ?_; clear hKK KK
   repeat refine awp_assoc ?_
   refine awp_nr [0,1,2,7,8] (fun _ => rfl) fun tz => ?_
   refine awp_regW fun KK hKK => ?_
   refine xw_id ?_
   try simp only [go_sem, Nat.reduceEqDiff, reduceIte, Nat.reduceMul, Nat.reduceSub, Nat.reduceLT, Nat.reduceLeDiff, Int.reduceToNat, Int.reduceBEq, Int.reduceBNe, Int.reduceLT, Int.reduceLE, Int.reduceAdd, Int.reduceSub, Int.reduceMul, Int.reduceNeg, Int.reduceEq, Int.reduceNe, Nat.reduceAdd, g0, g1, g2, g3, hm, hLr, Int.sub_zero, Int.toNat_natCast, Nat.sub_zero]
   refine hKK _ _ (Wk.cap 6 (by simp only [upd_get, Nat.reduceEqDiff, reduceIte]; rfl)) ?_; clear hKK KK
   repeat refine awp_assoc ?_
   refine awp_ret ?_
   refine endW_i ?_
   refine end_ret0 rs53 (rfl) ?_
   refine ResIO.mk [] [some 0, some 1, some 0] rfl (resED (resEU List.not_mem_nil (by simp only [upd_get, Nat.reduceEqDiff, reduceIte, Nat.reduceMul, Nat.reduceSub, Nat.reduceLT, Nat.reduceLeDiff, Int.reduceToNat, Int.reduceBEq, Int.reduceBNe, Int.reduceLT, Int.reduceLE, Int.reduceAdd, Int.reduceSub, Int.reduceMul, Int.reduceNeg, Int.reduceEq, Int.reduceNe, Nat.reduceAdd, if_true, if_false] <;> rfl) (TmL.of_eq rfl (c_HeldSeq _)) (resEU List.not_mem_nil (by simp only [upd_get, Nat.reduceEqDiff, reduceIte, Nat.reduceMul, Nat.reduceSub, Nat.reduceLT, Nat.reduceLeDiff, Int.reduceToNat, Int.reduceBEq, Int.reduceBNe, Int.reduceLT, Int.reduceLE, Int.reduceAdd, Int.reduceSub, Int.reduceMul, Int.reduceNeg, Int.reduceEq, Int.reduceNe, Nat.reduceAdd, if_true, if_false] <;> rfl) (TmL.of_eq rfl (c_HeldSeq _)) resE0))) (Tm.refL rfl ?_)
   all_goals (first | rfl | (simp only [List.length_append, List.length_take, List.length_drop, hm]; omega))

end Go.AX.Z.TR

/-! (TRW reorder Put) -/

set_option linter.unusedSimpArgs false
set_option linter.unusedVariables false
set_option maxHeartbeats 4000000
set_option maxRecDepth 20000
namespace Go.AX.Z.TR
open Go.AX Go.Proofs
attribute [local irreducible] awp xw xop xcall gsp ob xd xdop xcallD seqQ loopQ blkQ endQ

def reorder_Put_S0 (a0 : Reorder) (a1 : Frame) (a2 : Int) (x31 : Int) : AS :=
 { objs := (upd (upd (upd (fun _ => .dead) 0 (.live (e_Reorder a0 (.imm (List.flatMap E_HeldSeq a0.Held) a0.Held.length)))) 1 (.live (e_Frame a1 (.imm (List.map vu a1.Body) a1.Body.length)))) 2 (.live (e_Reorder Reorder.z vnil))), next := 3, tmps := (upd (upd (upd (upd (upd (upd (fun _ => .unk) 2 (vi a2)) 3 (.ptr 0 0)) 4 (.ptr 1 0)) 7 (.ptr 2 0)) 9 (vi a1.Head.Seq)) 10 (vi x31)) }

def reorder_Put_S1 (a0 : Reorder) (a1 : Frame) (a2 : Int) (x35 : Int) (x36 : (Int × Bool)) : AS :=
 { objs := (upd (upd (upd (fun _ => .dead) 0 (.live (e_Reorder a0 (.imm (List.flatMap E_HeldSeq a0.Held) a0.Held.length)))) 1 (.live (e_Frame a1 (.imm (List.map vu a1.Body) a1.Body.length)))) 2 (.live (e_Reorder Reorder.z vnil))), next := 3, tmps := (upd (upd (upd (upd (upd (upd (upd (upd (fun _ => .unk) 2 (vi a2)) 3 (.ptr 0 0)) 4 (.ptr 1 0)) 7 (.ptr 2 0)) 9 (vi a1.Head.Seq)) 11 (vi x35)) 12 (vi x36.1)) 13 (vb x36.2)) }

def reorder_Put_S2 (a0 : Reorder) (x37 : Window) (x40 : (List HeldSeq)) (a1 : Frame) (x35 : Int) : AS :=
 { objs := (upd (upd (upd (fun _ => .dead) 0 (.live (e_Reorder { a0 with Seen := x37 } (.ref 1 0 x40.length 42)))) 1 (.live (List.flatMap E_HeldSeq x40))) 2 (.live (e_Reorder Reorder.z vnil))), next := 3, tmps := (upd (upd (upd (upd (fun _ => .unk) 3 (.ptr 0 0)) 7 (.ptr 2 0)) 9 (vi a1.Head.Seq)) 11 (vi x35)) }

def reorder_Put_S3 (a0 : Reorder) (x37 : Window) (x40 : (List HeldSeq)) (d41 : Int) : AS :=
 { objs := (upd (upd (upd (fun _ => .dead) 0 (.live (e_Reorder { a0 with Seen := x37 } (.ref 1 0 x40.length 42)))) 1 (.live (List.flatMap E_HeldSeq x40))) 2 (.live (e_Reorder Reorder.z vnil))), next := 3, tmps := (upd (upd (upd (fun _ => .unk) 3 (.ptr 0 0)) 7 (.ptr 2 0)) 14 (vi d41)) }

theorem reorder_Put_r (a0 : Reorder) (a1 : Frame) (a2 : Int) {r : ((List Frame) × Reorder × Int)} (h0 : reorder_Put a0 a1 a2 = some r) : SndR K 28 [(.agg (E_Reorder a0)), (.agg (E_Frame a1)), (vi a2)] (fun q => (.tup [(.ref (q 0) 0 r.1.length 41), (.agg (e_Reorder r.2.1 (.ref (q 1) 0 r.2.1.Held.length 42))), (vi r.2.2)])) [(List.flatMap E_Frame r.1), (List.flatMap E_HeldSeq r.2.1.Held)] := by
 refine SndR.of_walkW hC (show K.P.funcs[28]? = some Try.f28 from Try.func28) rfl rfl (by decide +kernel) (Nat.le_of_ble_eq_true rfl) ?_
 unfold reorder_Put at h0
 refine awp_nr [0,1,2] (fun _ => rfl) fun tz => ?_
 refine awp_regW fun KK hKK => ?_
 refine xw_id ?_
 try simp only [go_sem, Nat.reduceEqDiff, reduceIte, Nat.reduceAdd, Nat.reduceMul, Nat.reduceSub, Nat.reduceLT, Nat.reduceLeDiff]
 refine hKK _ _ (Wk.refl _ _ _) ?_; clear hKK KK
 refine awp_nr [2,3,4,7] (fun _ => rfl) fun tz => ?_
 refine awp_regW fun KK hKK => ?_
 refine xw_id ?_
 try simp only [go_sem, Nat.reduceEqDiff, reduceIte, Nat.reduceAdd, Nat.reduceMul, Nat.reduceSub, Nat.reduceLT, Nat.reduceLeDiff]
 refine hKK _ _ (Wk.refl _ _ _) ?_; clear hKK KK
 refine awp_assoc ?_
 refine awp_nr [2,3,4,7,9] (fun _ => rfl) fun tz => ?_
 refine awp_regW fun KK hKK => ?_
 refine xw_id ?_
 obtain ⟨x31, bx31, h0⟩ := bnd h0
 try simp only [go_sem, Nat.reduceEqDiff, reduceIte, Nat.reduceAdd, Nat.reduceMul, Nat.reduceSub, Nat.reduceLT, Nat.reduceLeDiff]
 refine xcall_p (reorder_Check_p a0 bx31) ?_; try dsimp only
 try refine xw_id ?_
 try simp only [go_sem, Nat.reduceEqDiff, reduceIte, Nat.reduceAdd, Nat.reduceMul, Nat.reduceSub, Nat.reduceLT, Nat.reduceLeDiff]
 refine hKK _ (reorder_Put_S0 a0 a1 a2 x31) (Wk.canonD [] [] [some 0, some 1, some 3] rfl trivial rfl (tmOU 2 (tmOU 1 (tmOU 0 tmO0 rfl List.not_mem_nil (by simp only [upd_get, Nat.reduceEqDiff, reduceIte, Nat.reduceAdd, Nat.reduceMul, Nat.reduceSub, Nat.reduceLT, Nat.reduceLeDiff, if_true, if_false] <;> rfl) (e_Reorder_tmx (by rfl) (Tm.clean (Clean.imm (c_HeldSeq _))))) rfl List.not_mem_nil (by simp only [upd_get, Nat.reduceEqDiff, reduceIte, Nat.reduceAdd, Nat.reduceMul, Nat.reduceSub, Nat.reduceLT, Nat.reduceLeDiff, if_true, if_false] <;> rfl) (e_Frame_tmx (by rfl) (Tm.clean (Clean.imm (vu_clean _))))) rfl List.not_mem_nil (by simp only [upd_get, Nat.reduceEqDiff, reduceIte, Nat.reduceAdd, Nat.reduceMul, Nat.reduceSub, Nat.reduceLT, Nat.reduceLeDiff, if_true, if_false] <;> rfl) (e_Reorder_tmx (by rfl) (Tm.v _))) (tmAllU 10 (tmAllU 9 (tmAllU 7 (tmAllU 4 (tmAllU 3 (tmAllU 2 tmAll0 (Tm.v _)) (Tm.ptr rfl)) (Tm.ptr rfl)) (Tm.ptr rfl)) (Tm.v _)) (Tm.v _))) ?_; clear hKK KK
 unfold reorder_Put_S0
 refine awp_assoc ?_
 refine awp_nr [2,3,4,7,9,10] (fun _ => rfl) fun tz => ?_
 refine awp_regW fun KK hKK => ?_
 refine xw_id ?_
 try simp only [go_sem, Nat.reduceEqDiff, reduceIte, Nat.reduceAdd, Nat.reduceMul, Nat.reduceSub, Nat.reduceLT, Nat.reduceLeDiff]
 refine hKK _ _ (Wk.refl _ _ _) ?_; clear hKK KK
 refine awp_cond (b := (x31 != 0)) rfl (fun h1 => ?_) (fun h1 => ?_)
 ·
  have h0 := cT h0 h1
  refine awp_assoc ?_
  refine awp_nr [7,10] (fun _ => rfl) fun tz => ?_
  refine awp_regW fun KK hKK => ?_
  refine xw_id ?_
  try simp only [go_sem, Nat.reduceEqDiff, reduceIte, Nat.reduceAdd, Nat.reduceMul, Nat.reduceSub, Nat.reduceLT, Nat.reduceLeDiff]
  refine hKK _ _ (Wk.refl _ _ _) ?_; clear hKK KK
  refine awp_ret ?_
  obtain rfl := someInj h0
  refine endW_i ?_
  refine end_ret0 rs28 (by simp only [go_sem, resV, resAll, resOf, packR, Nat.reduceEqDiff, reduceIte, Nat.reduceAdd, Nat.reduceMul, Nat.reduceSub, Nat.reduceLT, Nat.reduceLeDiff]; rfl) ?_
  refine Res.mk [] [none, none] rfl (resON (resON resO0)) (Tm.tup (TmL.cons (Tm.thaw _ _ _) (TmL.cons (Tm.agg (e_Reorder_tmx (by rfl) (Tm.thaw _ _ _))) (TmL.cons (Tm.v _) TmL.nil))))
 ·
  have h0 := cF h0 h1
  refine awp_skip ?_
  refine awp_assoc ?_
  refine awp_nr [2,3,4,7,9] (fun _ => rfl) fun tz => ?_
  refine awp_regW fun KK hKK => ?_
  refine xw_id ?_
  obtain ⟨x32, bx32, h0⟩ := bnd h0
  try simp only [go_sem, Nat.reduceEqDiff, reduceIte, Nat.reduceAdd, Nat.reduceMul, Nat.reduceSub, Nat.reduceLT, Nat.reduceLeDiff]
  refine xcall_p (reorder_moment_p a2 bx32) ?_; try dsimp only
  try refine xw_id ?_
  refine xw_stop 2 (by (try simp only [go_sem]); rfl) (by (try simp only [go_sem]); rfl) (by rfl) fun K1 hK1 => ?_
  refine xw_id ?_
  try simp only [go_sem, Nat.reduceEqDiff, reduceIte, Nat.reduceAdd, Nat.reduceMul, Nat.reduceSub, Nat.reduceLT, Nat.reduceLeDiff]
  refine hK1 _ ?_; clear hK1 K1
  obtain ⟨x34, hvh2, h0⟩ := bnd h0
  refine xw_cut 4 [(2, (vi a2)), (3, (.ptr 0 0)), (4, (.ptr 1 0)), (7, (.ptr 2 0)), (9, (vi a1.Head.Seq)), (31, (vb x34))] (by (try simp only [go_sem]); rfl) (by (try simp only [go_sem]); rfl) (by rfl) (fun K1 hK1 => ?_) fun tz => ?_
  ·
   refine xw_id ?_
   rcases Bool.eq_false_or_eq_true (!x32) with h2 | h2
   ·
    have hvh2 := cT hvh2 h2
    try simp only [go_sem, Nat.reduceEqDiff, reduceIte, Nat.reduceAdd, Nat.reduceMul, Nat.reduceSub, Nat.reduceLT, Nat.reduceLeDiff, h2]
    obtain rfl := someInj hvh2
    exact hK1 _ ⟨rfl, rfl, rfl, rfl, rfl, rfl, (by first | rfl | (rw [h2]; rfl) | (simp only [h2, Bool.true_and, Bool.false_and, Bool.true_or, Bool.false_or, cond_true, cond_false]; done)), trivial⟩
   ·
    have hvh2 := cF hvh2 h2
    obtain ⟨x33, bx33, hvh2⟩ := bnd hvh2
    try simp only [go_sem, Nat.reduceEqDiff, reduceIte, Nat.reduceAdd, Nat.reduceMul, Nat.reduceSub, Nat.reduceLT, Nat.reduceLeDiff, h2]
    refine xcall_p (reorder_number_p a1.Head.Seq bx33) ?_; try dsimp only
    try refine xw_id ?_
    try simp only [go_sem, Nat.reduceEqDiff, reduceIte, Nat.reduceAdd, Nat.reduceMul, Nat.reduceSub, Nat.reduceLT, Nat.reduceLeDiff, h2]
    obtain rfl := someInj hvh2
    exact hK1 _ ⟨rfl, rfl, rfl, rfl, rfl, rfl, (by first | rfl | (rw [h2]; rfl) | (simp only [h2, Bool.true_and, Bool.false_and, Bool.true_or, Bool.false_or, cond_true, cond_false]; done)), trivial⟩
  ·
   refine xw_id ?_
   try simp only [go_sem, Nat.reduceEqDiff, reduceIte, Nat.reduceAdd, Nat.reduceMul, Nat.reduceSub, Nat.reduceLT, Nat.reduceLeDiff]
   refine hKK _ _ (Wk.refl _ _ _) ?_; clear hKK KK
   refine awp_cond (b := x34) rfl (fun h3 => ?_) (fun h3 => ?_)
   ·
    have h0 := cT h0 h3
    refine awp_assoc ?_
    refine awp_nr [7] (fun _ => rfl) fun tz => ?_
    refine awp_regW fun KK hKK => ?_
    refine xw_id ?_
    try simp only [go_sem, Nat.reduceEqDiff, reduceIte, Nat.reduceAdd, Nat.reduceMul, Nat.reduceSub, Nat.reduceLT, Nat.reduceLeDiff]
    refine hKK _ _ (Wk.refl _ _ _) ?_; clear hKK KK
    refine awp_ret ?_
    obtain rfl := someInj h0
    refine endW_i ?_
    refine end_ret0 rs28 (by simp only [go_sem, resV, resAll, resOf, packR, Nat.reduceEqDiff, reduceIte, Nat.reduceAdd, Nat.reduceMul, Nat.reduceSub, Nat.reduceLT, Nat.reduceLeDiff]; rfl) ?_
    refine Res.mk [] [none, none] rfl (resON (resON resO0)) (Tm.tup (TmL.cons (Tm.thaw _ _ _) (TmL.cons (Tm.agg (e_Reorder_tmx (by rfl) (Tm.thaw _ _ _))) (TmL.cons (Tm.v _) TmL.nil))))
   ·
    have h0 := cF h0 h3
    refine awp_skip ?_
    refine awp_nr [2,3,4,7,9] (fun _ => rfl) fun tz => ?_
    refine awp_regW fun KK hKK => ?_
    refine xw_id ?_
    obtain ⟨x35, bx35, h0⟩ := bnd h0
    try simp only [go_sem, Nat.reduceEqDiff, reduceIte, Nat.reduceAdd, Nat.reduceMul, Nat.reduceSub, Nat.reduceLT, Nat.reduceLeDiff]
    refine xcall_p (window_Dist_p a0.Start a1.Head.Seq bx35) ?_; try dsimp only
    try refine xw_id ?_
    try simp only [go_sem, Nat.reduceEqDiff, reduceIte, Nat.reduceAdd, Nat.reduceMul, Nat.reduceSub, Nat.reduceLT, Nat.reduceLeDiff]
    refine hKK _ _ (Wk.refl _ _ _) ?_; clear hKK KK
    refine awp_nr [2,3,4,7,9,11] (fun _ => rfl) fun tz => ?_
    refine awp_regW fun KK hKK => ?_
    refine xw_id ?_
    obtain ⟨x36, bx36, h0⟩ := bnd h0
    try simp only [go_sem, Nat.reduceEqDiff, reduceIte, Nat.reduceAdd, Nat.reduceMul, Nat.reduceSub, Nat.reduceLT, Nat.reduceLeDiff]
    refine xcall_p (reorder_place_p a0 a1.Head.Seq bx36) ?_; try dsimp only
    try refine xw_id ?_
    try simp only [go_sem, Nat.reduceEqDiff, reduceIte, Nat.reduceAdd, Nat.reduceMul, Nat.reduceSub, Nat.reduceLT, Nat.reduceLeDiff]
    refine hKK _ (reorder_Put_S1 a0 a1 a2 x35 x36) (Wk.canonD [] [] [some 0, some 1, some 2] rfl trivial rfl (tmOU 2 (tmOU 1 (tmOU 0 tmO0 rfl List.not_mem_nil (by simp only [upd_get, Nat.reduceEqDiff, reduceIte, Nat.reduceAdd, Nat.reduceMul, Nat.reduceSub, Nat.reduceLT, Nat.reduceLeDiff, if_true, if_false] <;> rfl) (e_Reorder_tmx (by rfl) (Tm.clean (Clean.imm (c_HeldSeq _))))) rfl List.not_mem_nil (by simp only [upd_get, Nat.reduceEqDiff, reduceIte, Nat.reduceAdd, Nat.reduceMul, Nat.reduceSub, Nat.reduceLT, Nat.reduceLeDiff, if_true, if_false] <;> rfl) (e_Frame_tmx (by rfl) (Tm.clean (Clean.imm (vu_clean _))))) rfl List.not_mem_nil (by simp only [upd_get, Nat.reduceEqDiff, reduceIte, Nat.reduceAdd, Nat.reduceMul, Nat.reduceSub, Nat.reduceLT, Nat.reduceLeDiff, if_true, if_false] <;> rfl) (e_Reorder_tmx (by rfl) (Tm.v _))) (tmAllU 13 (tmAllU 12 (tmAllU 11 (tmAllU 9 (tmAllU 7 (tmAllU 4 (tmAllU 3 (tmAllU 2 tmAll0 (Tm.v _)) (Tm.ptr rfl)) (Tm.ptr rfl)) (Tm.ptr rfl)) (Tm.v _)) (Tm.v _)) (Tm.v _)) (Tm.v _))) ?_; clear hKK KK
    unfold reorder_Put_S1
    refine awp_assoc ?_
    refine awp_nr [2,3,4,7,9,11,12,13] (fun _ => rfl) fun tz => ?_
    refine awp_regW fun KK hKK => ?_
    refine xw_id ?_
    refine xw_stop 3 (by (try simp only [go_sem]); rfl) (by (try simp only [go_sem]); rfl) (by rfl) fun K1 hK1 => ?_
    refine xw_id ?_
    try simp only [go_sem, Nat.reduceEqDiff, reduceIte, Nat.reduceAdd, Nat.reduceMul, Nat.reduceSub, Nat.reduceLT, Nat.reduceLeDiff]
    refine hK1 _ ?_; clear hK1 K1
    refine xw_cut 2 [(2, (vi a2)), (3, (.ptr 0 0)), (4, (.ptr 1 0)), (7, (.ptr 2 0)), (9, (vi a1.Head.Seq)), (11, (vi x35)), (12, (vi x36.1)), (47, (vb ((decide (2048 ≤ x35)) || x36.2)))] (by (try simp only [go_sem]); rfl) (by (try simp only [go_sem]); rfl) (by rfl) (fun K1 hK1 => ?_) fun tz => ?_
    ·
     refine xw_id ?_
     rcases Bool.eq_false_or_eq_true (decide (2048 ≤ x35)) with h4 | h4
     ·
      try simp only [go_sem, Nat.reduceEqDiff, reduceIte, Nat.reduceAdd, Nat.reduceMul, Nat.reduceSub, Nat.reduceLT, Nat.reduceLeDiff, h4]
      exact hK1 _ ⟨rfl, rfl, rfl, rfl, rfl, rfl, rfl, rfl, (by first | rfl | (rw [h4]; rfl) | (simp only [h4, Bool.true_and, Bool.false_and, Bool.true_or, Bool.false_or, cond_true, cond_false]; done)), trivial⟩
     ·
      try simp only [go_sem, Nat.reduceEqDiff, reduceIte, Nat.reduceAdd, Nat.reduceMul, Nat.reduceSub, Nat.reduceLT, Nat.reduceLeDiff, h4]
      exact hK1 _ ⟨rfl, rfl, rfl, rfl, rfl, rfl, rfl, rfl, (by first | rfl | (rw [h4]; rfl) | (simp only [h4, Bool.true_and, Bool.false_and, Bool.true_or, Bool.false_or, cond_true, cond_false]; done)), trivial⟩
    ·
     refine xw_id ?_
     try simp only [go_sem, Nat.reduceEqDiff, reduceIte, Nat.reduceAdd, Nat.reduceMul, Nat.reduceSub, Nat.reduceLT, Nat.reduceLeDiff]
     refine hKK _ _ (Wk.refl _ _ _) ?_; clear hKK KK
     refine awp_cond (b := ((decide (2048 ≤ x35)) || x36.2)) rfl (fun h5 => ?_) (fun h5 => ?_)
     ·
      have h0 := cT h0 h5
      refine awp_assoc ?_
      refine awp_nr [7] (fun _ => rfl) fun tz => ?_
      refine awp_regW fun KK hKK => ?_
      refine xw_id ?_
      try simp only [go_sem, Nat.reduceEqDiff, reduceIte, Nat.reduceAdd, Nat.reduceMul, Nat.reduceSub, Nat.reduceLT, Nat.reduceLeDiff]
      refine hKK _ _ (Wk.refl _ _ _) ?_; clear hKK KK
      refine awp_ret ?_
      obtain rfl := someInj h0
      refine endW_i ?_
      refine end_ret0 rs28 (by simp only [go_sem, resV, resAll, resOf, packR, Nat.reduceEqDiff, reduceIte, Nat.reduceAdd, Nat.reduceMul, Nat.reduceSub, Nat.reduceLT, Nat.reduceLeDiff]; rfl) ?_
      refine Res.mk [] [none, none] rfl (resON (resON resO0)) (Tm.tup (TmL.cons (Tm.thaw _ _ _) (TmL.cons (Tm.agg (e_Reorder_tmx (by rfl) (Tm.thaw _ _ _))) (TmL.cons (Tm.v _) TmL.nil))))
     ·
      have h0 := cF h0 h5
      refine awp_skip ?_
      refine awp_nr [2,3,4,7,9,11,12] (fun _ => rfl) fun tz => ?_
      refine awp_regW fun KK hKK => ?_
      refine xw_id ?_
      obtain ⟨x37, bx37, h0⟩ := bnd h0
      try simp only [go_sem, Nat.reduceEqDiff, reduceIte, Nat.reduceAdd, Nat.reduceMul, Nat.reduceSub, Nat.reduceLT, Nat.reduceLeDiff]
      refine xcall_p (reorder_note_p a0.Seen a1.Head.Seq bx37) ?_; try dsimp only
      try refine xw_id ?_
      try simp only [go_sem, Nat.reduceEqDiff, reduceIte, Nat.reduceAdd, Nat.reduceMul, Nat.reduceSub, Nat.reduceLT, Nat.reduceLeDiff]
      refine hKK _ _ (Wk.refl _ _ _) ?_; clear hKK KK
      refine awp_nr [2,3,4,7,9,11,12] (fun _ => rfl) fun tz => ?_
      refine awp_regDW fun KK hKK all hall => ?_
      refine xd_id ?_
      try simp only [List.toList_toArray, List.map_cons, List.map_nil, List.size_toArray, List.length_cons, List.length_nil, Nat.zero_add]
      try simp only [Nat.reduceAdd]
      obtain ⟨x38, bx38, h0⟩ := bnd h0
      simp only [go_sem, Nat.reduceEqDiff, reduceIte, Nat.reduceMul, Nat.reduceSub, Nat.reduceLT, Nat.reduceLeDiff]
      try simp only [Nat.reduceAdd]
      try simp only [go_sem, Nat.reduceEqDiff, reduceIte, Nat.reduceMul, Nat.reduceSub, Nat.reduceLT, Nat.reduceLeDiff]
      try simp only [Nat.reduceAdd]
      try simp only [go_sem, Nat.reduceEqDiff, reduceIte, Nat.reduceMul, Nat.reduceSub, Nat.reduceLT, Nat.reduceLeDiff]
      refine xcallD_E (reorder_twin_e a0.Held bx38 _) ?_; try dsimp only
      try refine xd_id ?_
      obtain ⟨x39, bx39, h0⟩ := bnd h0
      simp only [go_sem, Nat.reduceEqDiff, reduceIte, Nat.reduceMul, Nat.reduceSub, Nat.reduceLT, Nat.reduceLeDiff]
      try simp only [Nat.reduceAdd]
      try simp only [go_sem, Nat.reduceEqDiff, reduceIte, Nat.reduceMul, Nat.reduceSub, Nat.reduceLT, Nat.reduceLeDiff]
      try simp only [Nat.reduceAdd]
      try simp only [go_sem, Nat.reduceEqDiff, reduceIte, Nat.reduceMul, Nat.reduceSub, Nat.reduceLT, Nat.reduceLeDiff]
      refine xcallD_p (header_Twin_p a1 bx39) ?_; try dsimp only
      try refine xd_id ?_
      obtain ⟨x40, bx40, h0⟩ := bnd h0
      simp only [go_sem, Nat.reduceEqDiff, reduceIte, Nat.reduceMul, Nat.reduceSub, Nat.reduceLT, Nat.reduceLeDiff]
      try simp only [Nat.reduceAdd]
      try simp only [go_sem, Nat.reduceEqDiff, reduceIte, Nat.reduceMul, Nat.reduceSub, Nat.reduceLT, Nat.reduceLeDiff]
      try simp only [Nat.reduceAdd]
      try simp only [go_sem, Nat.reduceEqDiff, reduceIte, Nat.reduceMul, Nat.reduceSub, Nat.reduceLT, Nat.reduceLeDiff]
      refine xcallD_O [16, 22] (slices_Insert_api_HeldSeq_api_HeldSeq_io x36.1 x38 [{ HeldSeq.z with At := a2, Frame := { x39 with Body := x39.Body } }] bx40) (by decide) (by decide) ⟨(by first | rfl | (simp only [go_sem, Nat.reduceEqDiff, reduceIte, Nat.reduceAdd, Nat.reduceMul, Nat.reduceSub, Nat.reduceLT, Nat.reduceLeDiff]; done) | (simp only [go_sem, Nat.reduceEqDiff, reduceIte, Nat.reduceAdd, Nat.reduceMul, Nat.reduceSub, Nat.reduceLT, Nat.reduceLeDiff]; rfl)), (by first | rfl | (simp only [go_sem, Nat.reduceEqDiff, reduceIte, Nat.reduceAdd, Nat.reduceMul, Nat.reduceSub, Nat.reduceLT, Nat.reduceLeDiff]; done) | (simp only [go_sem, Nat.reduceEqDiff, reduceIte, Nat.reduceAdd, Nat.reduceMul, Nat.reduceSub, Nat.reduceLT, Nat.reduceLeDiff]; rfl)), trivial⟩ (by first | rfl | (simp only [go_sem, Nat.reduceEqDiff, reduceIte, Nat.reduceAdd, Nat.reduceMul, Nat.reduceSub, Nat.reduceLT, Nat.reduceLeDiff]; done) | (simp only [go_sem, Nat.reduceEqDiff, reduceIte, Nat.reduceAdd, Nat.reduceMul, Nat.reduceSub, Nat.reduceLT, Nat.reduceLeDiff]; rfl)) (by subst hall; decide +kernel) (by subst hall; first | decide +kernel | (simp [printsOk, apartP, clash, meet]; done) | (simp [printsOk, apartP, clash, meet]; decide +kernel)) ?_; try dsimp only
      try refine xd_id ?_
      simp only [go_sem, Nat.reduceEqDiff, reduceIte, Nat.reduceMul, Nat.reduceSub, Nat.reduceLT, Nat.reduceLeDiff, List.length_cons, List.length_nil]
      try simp only [Nat.reduceAdd]
      try simp only [go_sem, Nat.reduceEqDiff, reduceIte, Nat.reduceMul, Nat.reduceSub, Nat.reduceLT, Nat.reduceLeDiff, List.length_cons, List.length_nil]
      try simp only [Nat.reduceAdd]
      try simp only [go_sem, Nat.reduceEqDiff, reduceIte, Nat.reduceMul, Nat.reduceSub, Nat.reduceLT, Nat.reduceLeDiff, List.length_cons, List.length_nil]
      refine And.intro ?_ (hKK _ (reorder_Put_S2 a0 x37 x40 a1 x35) (by refine Wk.canonD [] [] [some 0, some 26, some 2] rfl trivial rfl (tmOU 2 (tmOU 1 (tmOU 0 tmO0 rfl List.not_mem_nil (by simp only [upd_get, Nat.reduceEqDiff, reduceIte, Nat.reduceAdd, Nat.reduceMul, Nat.reduceSub, Nat.reduceLT, Nat.reduceLeDiff, if_true, if_false] <;> rfl) (e_Reorder_tmx (by rfl) (Tm.refL rfl ?_))) rfl List.not_mem_nil (by simp only [upd_get, Nat.reduceEqDiff, reduceIte, Nat.reduceAdd, Nat.reduceMul, Nat.reduceSub, Nat.reduceLT, Nat.reduceLeDiff, if_true, if_false] <;> rfl) (TmL.of_eq (by first | rfl | (simp only [List.flatMap_append, List.flatMap_cons, List.flatMap_nil, List.map_append, List.map_cons, List.map_nil, List.append_nil, List.nil_append]; done) | (simp only [List.flatMap_append, List.flatMap_cons, List.flatMap_nil, List.map_append, List.map_cons, List.map_nil, List.append_nil, List.nil_append]; rfl)) (c_HeldSeq _))) rfl List.not_mem_nil (by simp only [upd_get, Nat.reduceEqDiff, reduceIte, Nat.reduceAdd, Nat.reduceMul, Nat.reduceSub, Nat.reduceLT, Nat.reduceLeDiff, if_true, if_false] <;> rfl) (e_Reorder_tmx (by rfl) (Tm.v _))) (tmAllU 11 (tmAllU 9 (tmAllU 7 (tmAllU 3 tmAll0 (Tm.ptr rfl)) (Tm.ptr rfl)) (Tm.v _)) (Tm.v _)); all_goals (first | rfl | (simp only [List.length_take]; omega) | (simp only [List.length_append, List.length_cons, List.length_nil, List.length_modify, List.length_set, Nat.zero_add]; done) | (simp only [List.length_append, List.length_take, List.length_drop, List.length_cons, List.length_nil, List.length_modify, List.length_set, Nat.zero_add]; omega) | (simp only [List.length_append, List.length_take, List.length_drop, List.length_cons, List.length_nil, List.length_modify, List.length_set, Nat.zero_add]; done) | omega)) ?_)
      ·
       subst hall
       clear hKK KK
       first | decide +kernel | (simp [printsOk, apartP, clash, meet]; done) | (simp [printsOk, apartP, clash, meet]; decide +kernel)
      ·
       clear hKK KK hall all
       unfold reorder_Put_S2
       refine awp_nr [3,7,9,11] (fun _ => rfl) fun tz => ?_
       refine awp_regW fun KK hKK => ?_
       refine xw_id ?_
       try simp only [go_sem, Nat.reduceEqDiff, reduceIte, Nat.reduceAdd, Nat.reduceMul, Nat.reduceSub, Nat.reduceLT, Nat.reduceLeDiff]
       refine hKK _ _ (Wk.refl _ _ _) ?_; clear hKK KK
       refine awp_assoc ?_
       refine awp_nr [3,7,9,11,14] (fun _ => rfl) fun tz => ?_
       refine awp_regW fun KK hKK => ?_
       refine xw_id ?_
       try simp only [go_sem, Nat.reduceEqDiff, reduceIte, Nat.reduceAdd, Nat.reduceMul, Nat.reduceSub, Nat.reduceLT, Nat.reduceLeDiff]
       refine hKK _ _ (Wk.refl _ _ _) ?_; clear hKK KK
       obtain ⟨d41, hi6, h0⟩ := bnd h0
       refine awp_cut (fun z => d41 = z) (fun d41 : Int => reorder_Put_S3 a0 x37 x40 d41) ?_ ?_
       ·
        refine awp_cond1 (b := (decide (a0.Size ≤ x35))) rfl (fun h7 => ?_) (fun h7 => ?_)
        ·
         have hi6 := cT hi6 h7
         refine awp_nr1 [3,7,9] (fun _ => rfl) fun tz => ?_
         refine awp_reg1 fun KK hKK => ?_
         refine xw_id ?_
         obtain ⟨x42, bx42, hi6⟩ := bnd hi6
         try simp only [go_sem, Nat.reduceEqDiff, reduceIte, Nat.reduceAdd, Nat.reduceMul, Nat.reduceSub, Nat.reduceLT, Nat.reduceLeDiff]
         refine xcall_p (window_Add_p a1.Head.Seq (IntKind.wrap .i64 (1 - a0.Size)) bx42) ?_; try dsimp only
         try refine xw_id ?_
         try simp only [go_sem, Nat.reduceEqDiff, reduceIte, Nat.reduceAdd, Nat.reduceMul, Nat.reduceSub, Nat.reduceLT, Nat.reduceLeDiff]
         refine hKK _ ?_; clear hKK KK
         refine sq_n ?_
         obtain rfl := someInj hi6
         exact ⟨_, rfl, (by refine Wk.canonD [] [] [some 0, some 1, some 2] rfl trivial rfl (tmOU 2 (tmOU 1 (tmOU 0 tmO0 rfl List.not_mem_nil (by simp only [upd_get, Nat.reduceEqDiff, reduceIte, Nat.reduceAdd, Nat.reduceMul, Nat.reduceSub, Nat.reduceLT, Nat.reduceLeDiff, if_true, if_false] <;> rfl) (e_Reorder_tmx (by rfl) (Tm.refL rfl ?_))) rfl List.not_mem_nil (by simp only [upd_get, Nat.reduceEqDiff, reduceIte, Nat.reduceAdd, Nat.reduceMul, Nat.reduceSub, Nat.reduceLT, Nat.reduceLeDiff, if_true, if_false] <;> rfl) (TmL.of_eq (by first | rfl | (simp only [List.flatMap_append, List.flatMap_cons, List.flatMap_nil, List.map_append, List.map_cons, List.map_nil, List.append_nil, List.nil_append]; done) | (simp only [List.flatMap_append, List.flatMap_cons, List.flatMap_nil, List.map_append, List.map_cons, List.map_nil, List.append_nil, List.nil_append]; rfl)) (c_HeldSeq _))) rfl List.not_mem_nil (by simp only [upd_get, Nat.reduceEqDiff, reduceIte, Nat.reduceAdd, Nat.reduceMul, Nat.reduceSub, Nat.reduceLT, Nat.reduceLeDiff, if_true, if_false] <;> rfl) (e_Reorder_tmx (by rfl) (Tm.v _))) (tmAllU 14 (tmAllU 7 (tmAllU 3 tmAll0 (Tm.ptr rfl)) (Tm.ptr rfl)) (Tm.v _)); all_goals (first | rfl | (simp only [List.length_take]; omega) | (simp only [List.length_append, List.length_cons, List.length_nil, List.length_modify, List.length_set, Nat.zero_add]; done) | (simp only [List.length_append, List.length_take, List.length_drop, List.length_cons, List.length_nil, List.length_modify, List.length_set, Nat.zero_add]; omega) | (simp only [List.length_append, List.length_take, List.length_drop, List.length_cons, List.length_nil, List.length_modify, List.length_set, Nat.zero_add]; done) | omega))⟩
        ·
         have hi6 := cF hi6 h7
         refine awp_skip1 ?_
         refine sq_n ?_
         obtain rfl := someInj hi6
         exact ⟨_, rfl, (by refine Wk.canonD [] [] [some 0, some 1, some 2] rfl trivial rfl (tmOU 2 (tmOU 1 (tmOU 0 tmO0 rfl List.not_mem_nil (by simp only [upd_get, Nat.reduceEqDiff, reduceIte, Nat.reduceAdd, Nat.reduceMul, Nat.reduceSub, Nat.reduceLT, Nat.reduceLeDiff, if_true, if_false] <;> rfl) (e_Reorder_tmx (by rfl) (Tm.refL rfl ?_))) rfl List.not_mem_nil (by simp only [upd_get, Nat.reduceEqDiff, reduceIte, Nat.reduceAdd, Nat.reduceMul, Nat.reduceSub, Nat.reduceLT, Nat.reduceLeDiff, if_true, if_false] <;> rfl) (TmL.of_eq (by first | rfl | (simp only [List.flatMap_append, List.flatMap_cons, List.flatMap_nil, List.map_append, List.map_cons, List.map_nil, List.append_nil, List.nil_append]; done) | (simp only [List.flatMap_append, List.flatMap_cons, List.flatMap_nil, List.map_append, List.map_cons, List.map_nil, List.append_nil, List.nil_append]; rfl)) (c_HeldSeq _))) rfl List.not_mem_nil (by simp only [upd_get, Nat.reduceEqDiff, reduceIte, Nat.reduceAdd, Nat.reduceMul, Nat.reduceSub, Nat.reduceLT, Nat.reduceLeDiff, if_true, if_false] <;> rfl) (e_Reorder_tmx (by rfl) (Tm.v _))) (tmAllU 14 (tmAllU 7 (tmAllU 3 tmAll0 (Tm.ptr rfl)) (Tm.ptr rfl)) (Tm.v _)); all_goals (first | rfl | (simp only [List.length_take]; omega) | (simp only [List.length_append, List.length_cons, List.length_nil, List.length_modify, List.length_set, Nat.zero_add]; done) | (simp only [List.length_append, List.length_take, List.length_drop, List.length_cons, List.length_nil, List.length_modify, List.length_set, Nat.zero_add]; omega) | (simp only [List.length_append, List.length_take, List.length_drop, List.length_cons, List.length_nil, List.length_modify, List.length_set, Nat.zero_add]; done) | omega))⟩
       ·
        rintro _ rfl
        clear hi6
        unfold reorder_Put_S3
        refine awp_nr [3,7,14] (fun _ => rfl) fun tz => ?_
        refine awp_regW fun KK hKK => ?_
        refine xw_id ?_
        obtain ⟨x43, bx43, h0⟩ := bnd h0
        try simp only [go_sem, Nat.reduceEqDiff, reduceIte, Nat.reduceAdd, Nat.reduceMul, Nat.reduceSub, Nat.reduceLT, Nat.reduceLeDiff]
        refine xcall_O [1] (reorder_move_io { a0 with Held := x40, Seen := x37 } d41 bx43) (by decide) (by decide) ⟨(by first | rfl | (simp only [go_sem, Nat.reduceEqDiff, reduceIte, Nat.reduceAdd, Nat.reduceMul, Nat.reduceSub, Nat.reduceLT, Nat.reduceLeDiff]; done) | (simp only [go_sem, Nat.reduceEqDiff, reduceIte, Nat.reduceAdd, Nat.reduceMul, Nat.reduceSub, Nat.reduceLT, Nat.reduceLeDiff]; rfl)), trivial⟩ (by first | rfl | (simp only [go_sem, Nat.reduceEqDiff, reduceIte, Nat.reduceAdd, Nat.reduceMul, Nat.reduceSub, Nat.reduceLT, Nat.reduceLeDiff]; done) | (simp only [go_sem, Nat.reduceEqDiff, reduceIte, Nat.reduceAdd, Nat.reduceMul, Nat.reduceSub, Nat.reduceLT, Nat.reduceLeDiff]; rfl)) ?_; try dsimp only
        try refine xw_id ?_
        try simp only [go_sem, Nat.reduceEqDiff, reduceIte, Nat.reduceAdd, Nat.reduceMul, Nat.reduceSub, Nat.reduceLT, Nat.reduceLeDiff, List.length_cons, List.length_nil]
        refine hKK _ _ (Wk.refl _ _ _) ?_; clear hKK KK
        refine awp_nr [6,7] (fun _ => rfl) fun tz => ?_
        refine awp_regDW fun KK hKK all hall => ?_
        refine xd_id ?_
        try simp only [List.toList_toArray, List.map_cons, List.map_nil, List.size_toArray, List.length_cons, List.length_nil, Nat.zero_add]
        try simp only [Nat.reduceAdd]
        simp only [go_sem, Nat.reduceEqDiff, reduceIte, Nat.reduceMul, Nat.reduceSub, Nat.reduceLT, Nat.reduceLeDiff]
        try simp only [Nat.reduceAdd]
        try simp only [go_sem, Nat.reduceEqDiff, reduceIte, Nat.reduceMul, Nat.reduceSub, Nat.reduceLT, Nat.reduceLeDiff]
        try simp only [Nat.reduceAdd]
        try simp only [go_sem, Nat.reduceEqDiff, reduceIte, Nat.reduceMul, Nat.reduceSub, Nat.reduceLT, Nat.reduceLeDiff]
        refine And.intro ?_ (hKK _ _ (Wk.refl _ _ _) ?_)
        ·
         subst hall
         clear hKK KK
         first | decide +kernel | (simp [printsOk, apartP, clash, meet]; done) | (simp [printsOk, apartP, clash, meet]; decide +kernel)
        ·
         clear hKK KK hall all
         refine awp_ret1 ?_
         obtain rfl := someInj h0
         refine endW_i ?_
         refine end_ret0 rs28 (by simp only [go_sem, resV, resAll, resOf, packR, Nat.reduceEqDiff, reduceIte, Nat.reduceAdd, Nat.reduceMul, Nat.reduceSub, Nat.reduceLT, Nat.reduceLeDiff]; rfl) ?_
         refine Res.mk [] [some 11, some 12] rfl (resOU List.not_mem_nil (by simp only [upd_get, Nat.reduceEqDiff, reduceIte, Nat.reduceAdd, Nat.reduceMul, Nat.reduceSub, Nat.reduceLT, Nat.reduceLeDiff, if_true, if_false] <;> rfl) (TmL.of_eq (by first | rfl | (simp only [List.flatMap_append, List.flatMap_cons, List.flatMap_nil, List.map_append, List.map_cons, List.map_nil, List.append_nil, List.nil_append]; done) | (simp only [List.flatMap_append, List.flatMap_cons, List.flatMap_nil, List.map_append, List.map_cons, List.map_nil, List.append_nil, List.nil_append]; rfl)) (c_Frame _)) (resOU List.not_mem_nil (by simp only [upd_get, Nat.reduceEqDiff, reduceIte, Nat.reduceAdd, Nat.reduceMul, Nat.reduceSub, Nat.reduceLT, Nat.reduceLeDiff, if_true, if_false] <;> rfl) (TmL.of_eq (by first | rfl | (simp only [List.flatMap_append, List.flatMap_cons, List.flatMap_nil, List.map_append, List.map_cons, List.map_nil, List.append_nil, List.nil_append]; done) | (simp only [List.flatMap_append, List.flatMap_cons, List.flatMap_nil, List.map_append, List.map_cons, List.map_nil, List.append_nil, List.nil_append]; rfl)) (c_HeldSeq _)) resO0)) (Tm.tup (TmL.cons (Tm.refL rfl ?_) (TmL.cons (Tm.agg (e_Reorder_tmx (by rfl) (Tm.refL rfl ?_))) (TmL.cons (Tm.v _) TmL.nil))))
         all_goals (first | rfl | (simp only [List.length_take]; omega) | (simp only [List.length_append, List.length_cons, List.length_nil, List.length_modify, List.length_set, Nat.zero_add]; done) | (simp only [List.length_append, List.length_take, List.length_drop, List.length_cons, List.length_nil, List.length_modify, List.length_set, Nat.zero_add]; omega) | (simp only [List.length_append, List.length_take, List.length_drop, List.length_cons, List.length_nil, List.length_modify, List.length_set, Nat.zero_add]; done) | omega)

theorem reorder_Put_m (a0 : Reorder) (a1 : Frame) (a2 : Int) {r : ((List Frame) × Reorder × Int)} (h0 : reorder_Put a0 a1 a2 = some r) : SndM K 28 [(.agg (E_Reorder a0)), (.agg (E_Frame a1)), (vi a2)] (fun q => (.tup [(.ref (q 0) 0 r.1.length 41), (.agg (e_Reorder r.2.1 (.ref (q 1) 0 r.2.1.Held.length 42))), (vi r.2.2)])) [(List.flatMap E_Frame r.1), (List.flatMap E_HeldSeq r.2.1.Held)] :=
 fun hs => Snd.of_newM (RenM.tup (RenML.cons (RenM.ref 0 0 _ _) (RenML.cons (RenM.agg (e_Reorder_ren _ (RenM.ref 1 0 _ _))) (RenML.cons (RenM.const (Clean.v _)) RenML.nil)))) (rows_all_cons (c_Frame _) (rows_all_cons (c_HeldSeq _) rows_all_nil)) (clean_cons (Clean.agg (E_Reorder_clean _)) (clean_cons (Clean.agg (E_Frame_clean _)) (clean_cons (Clean.v _) clean_nil))) (reorder_Put_r a0 a1 a2 h0) hs

theorem reorder_Put_p (a0 : Reorder) (a1 : Frame) (a2 : Int) {r : ((List Frame) × Reorder × Int)} (h0 : reorder_Put a0 a1 a2 = some r) : SndP K 28 [(.agg (E_Reorder a0)), (.agg (E_Frame a1)), (vi a2)] (.tup [(S_Frame r.1), (.agg (E_Reorder r.2.1)), (vi r.2.2)]) :=
 SndM.pure (reorder_Put_m a0 a1 a2 h0) (Clean.tup (clean_cons (S_Frame_clean _) (clean_cons (Clean.agg (E_Reorder_clean _)) (clean_cons (Clean.v _) clean_nil)))) (clean_cons (Clean.agg (E_Reorder_clean _)) (clean_cons (Clean.agg (E_Frame_clean _)) (clean_cons (Clean.v _) clean_nil))) (by simp only [go_sem, newL_n, newL_c, upd_get, fz, nilS, cond_true, cond_false, List.drop_zero, List.take_length, List.length_map, ble_self, Nat.reduceEqDiff, reduceIte, Nat.reduceAdd, Nat.reduceMul, Nat.reduceSub, Nat.reduceLT, Nat.reduceLeDiff] <;> rfl)

end Go.AX.Z.TR
