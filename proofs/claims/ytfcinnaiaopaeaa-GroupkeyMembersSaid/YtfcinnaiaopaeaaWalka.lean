/- A part of the proof: walks through the functions that the statement reaches. -/
import Derived.Test.YtfcinnaiaopaeaaPrea
set_option linter.unusedVariables false
set_option linter.unusedSimpArgs false

/-! (walks) -/

set_option linter.unusedSimpArgs false
set_option linter.unusedVariables false
set_option maxHeartbeats 4000000
set_option maxRecDepth 20000
namespace Go.AX.Z.TG
open Go.AX Go.Proofs
attribute [local irreducible] awp xw xop xcall gsp ob xd xdop xcallD seqQ loopQ blkQ endQ
attribute [local go_sem ↓] iop_and iop_or iop_xor iop_andn
attribute [local go_sem] Nat.reduceAdd
theorem groupkey_New_p (a0 : A6vu) (a1 : A16vu) {r : (GroupOwner × Int)} (h0 : groupkey_New a0 a1 = some r) : SndP K 4 [(.agg (e_A6vu a0)), (.agg (e_A16vu a1))] (.tup [(.agg (E_GroupOwner r.1)), (vi r.2)]) := by
 refine SndP.of_walkW hC (Clean.tup (clean_cons (Clean.agg (E_GroupOwner_clean _)) (clean_cons (Clean.v _) clean_nil))) (clean_cons (Clean.agg (e_A6vu_clean _)) (clean_cons (Clean.agg (e_A16vu_clean _)) clean_nil)) (show K.P.funcs[4]? = some Try.f4 from Try.func4) rfl rfl (by decide +kernel) (Nat.le_of_ble_eq_true rfl) ?_; unfold groupkey_New at h0; refine awp_nw [0,1] fun tz U u => ?_; (try simp only [go_sem]); refine qU u ?_; clear u U; refine awp_nw [2,3,4] fun tz U u => ?_; (try simp only [go_sem]); refine qU u ?_; clear u U; refine awp_ret1 ?_; obtain rfl := someInj h0; refine endW_i ?_; refine end_ret0 rs4 qR ?_; exact qF
def groupkey_Member_S0 (a0 : A6vu) (a1 : A6vu) (a2 : Pairwise) (a3 : GroupKey) : AS :=
 { objs := (upd (upd (upd (upd (upd (fun _ => .dead) 0 (.live (e_A6vu a0))) 1 (.live (e_A6vu a1))) 2 (.live (e_Pairwise a2))) 3 (.live (e_GroupKey a3))) 4 (.live (e_GroupMember GroupMember.z))), next := 5, tmps := (upd (upd (upd (upd (upd (fun _ => .unk) 4 (.ptr 0 0)) 5 (.ptr 1 0)) 6 (.ptr 2 0)) 7 (.ptr 3 0)) 8 (.ptr 4 0)) }

theorem groupkey_Member_p (a0 : A6vu) (a1 : A6vu) (a2 : Pairwise) (a3 : GroupKey) {r : (GroupMember × Int)} (h0 : groupkey_Member a0 a1 a2 a3 = some r) : SndP K 5 [(.agg (e_A6vu a0)), (.agg (e_A6vu a1)), (.agg (e_Pairwise a2)), (.agg (e_GroupKey a3))] (.tup [(.agg (e_GroupMember r.1)), (vi r.2)]) := by
 refine SndP.of_walkW hC (Clean.tup (clean_cons (Clean.agg (e_GroupMember_clean _)) (clean_cons (Clean.v _) clean_nil))) (clean_cons (Clean.agg (e_A6vu_clean _)) (clean_cons (Clean.agg (e_A6vu_clean _)) (clean_cons (Clean.agg (e_Pairwise_clean _)) (clean_cons (Clean.agg (e_GroupKey_clean _)) clean_nil)))) (show K.P.funcs[5]? = some Try.f5 from Try.func5) rfl rfl (by decide +kernel) (Nat.le_of_ble_eq_true rfl) ?_; unfold groupkey_Member at h0; refine awp_nw [0,1,2,3] fun tz U u => ?_; (try simp only [go_sem]); refine u _ (groupkey_Member_S0 a0 a1 a2 a3) (Wk.canonD [] [] [some 0, some 1, some 2, some 3, some 4] rfl trivial rfl (tmOC 4 (tmOC 3 (tmOC 2 (tmOC 1 (tmOC 0 tmO0 (e_A6vu_clean _)) (e_A6vu_clean _)) (e_Pairwise_clean _)) (e_GroupKey_clean _)) (e_GroupMember_clean _)) (tmAllU 8 (tmAllU 7 (tmAllU 6 (tmAllU 5 (tmAllU 4 tmAll0 (Tm.ptr rfl)) (Tm.ptr rfl)) (Tm.ptr rfl)) (Tm.ptr rfl)) (Tm.ptr rfl))) ?_; clear u U; unfold groupkey_Member_S0; refine awp_assoc ?_; refine awp_nw [4,5,6,7,8] fun tz U u => ?_; refine xw_stop 4 qS qS (by rfl) fun V v => ?_; refine xw_id ?_; (try simp only [go_sem]); refine v _ ?_; clear v V; refine xw_cut 9 [(4, (.ptr 0 0)), (5, (.ptr 1 0)), (6, (.ptr 2 0)), (7, (.ptr 3 0)), (8, (.ptr 4 0)), (23, (vb ((decide (a0 = a1)) || ((a3.Id != 2) && (a3.Id != 3)))))] qS qS (by rfl) (fun V v => ?_) fun tz => ?_
 ·
  refine xw_id ?_; rcases Bool.eq_false_or_eq_true (decide (a0 = a1)) with h1 | h1
  ·
   (try simp only [go_sem, h1]); exact v _ ⟨rfl, rfl, rfl, rfl, rfl, rfl, (qB h1), trivial⟩
  ·
   refine xw_stop 4 qS qS (by rfl) fun V v => ?_; refine xw_id ?_; (try simp only [go_sem, h1]); refine v _ ?_; clear v V; refine xw_cut 4 [(4, (.ptr 0 0)), (5, (.ptr 1 0)), (6, (.ptr 2 0)), (7, (.ptr 3 0)), (8, (.ptr 4 0)), (14, (vb false)), (22, (vb ((a3.Id != 2) && (a3.Id != 3))))] qS qS (by rfl) (fun V v => ?_) fun tz => ?_
   ·
    refine xw_id ?_; rcases Bool.eq_false_or_eq_true (a3.Id != 2) with h2 | h2
    ·
     (try simp only [go_sem, h1, h2]); exact v _ ⟨rfl, rfl, rfl, rfl, rfl, rfl, rfl, (qB h2), trivial⟩
    ·
     (try simp only [go_sem, h1, h2]); exact v _ ⟨rfl, rfl, rfl, rfl, rfl, rfl, rfl, (qB h2), trivial⟩
   ·
    refine xw_id ?_; (try simp only [go_sem, h1]); exact v _ ⟨rfl, rfl, rfl, rfl, rfl, rfl, (qB h1), trivial⟩
 ·
  refine xw_id ?_; (try simp only [go_sem]); refine qU u ?_; clear u U; refine awp_cond (b := ((decide (a0 = a1)) || ((a3.Id != 2) && (a3.Id != 3)))) rfl (fun h3 => ?_) (fun h3 => ?_)
  ·
   have h0 := cT h0 h3; refine awp_assoc ?_; refine awp_nw [8] fun tz U u => ?_; (try simp only [go_sem]); refine qU u ?_; clear u U; refine awp_ret ?_; obtain rfl := someInj h0; refine endW_i ?_; refine end_ret0 rs5 qR ?_; exact qF
  ·
   have h0 := cF h0 h3; refine awp_skip ?_; refine awp_nw [4,5,6,7,8] fun tz U u => ?_; (try simp only [go_sem]); refine qU u ?_; clear u U; refine awp_nw [7,8,10] fun tz U u => ?_; obtain ⟨x2, bx2, h0⟩ := bnd h0; obtain ⟨fx2_0, fx2_1, fx2_2, fx2_3⟩ := idxA_some bx2; have gq4 : sub? (e_GroupMember { GroupMember.z with Own := a0, Pair := a2, Peer := a1 }) (61 + ((IntKind.wrap .i64 (a3.Id - 2)).toNat) * 17) 17 = some (e_GroupKey x2) := (sub_sub (m := 34) (by rfl) (by have h0 := of_eq_true fx2_0; have h1 := of_eq_true fx2_1; omega)).trans (e_A2_GroupKey_getA GroupMember.z.Keys fx2_2); (have gs5b : (IntKind.wrap .i64 (a3.Id - 2)).toNat < 2 := by have h0 := of_eq_true fx2_0; have h1 := of_eq_true fx2_1; omega); have gs5 : putAt (e_GroupMember { GroupMember.z with Own := a0, Pair := a2, Peer := a1 }) (61 + ((IntKind.wrap .i64 (a3.Id - 2)).toNat) * 17) (e_GroupKey a3) = (e_GroupMember { GroupMember.z with Keys := (GroupMember.z.Keys.setA ((IntKind.wrap .i64 (a3.Id - 2)).toNat) a3), Own := a0, Pair := a2, Peer := a1 }) := (put_sub (m := 34) (by rfl) (by rw [e_GroupKey_len]; omega) (e_A2_GroupKey_setA _ _ gs5b)).trans (by rfl); have gs5l : (61 + (((IntKind.wrap .i64 (a3.Id - 2)).toNat) * 17 + 17) ≤ 95) = True := eq_true (by omega); (try simp only [go_sem, fx2_0, fx2_1, gq4, gs5, gs5l]); refine qU u ?_; clear u U; refine awp_nw [8,10] fun tz U u => ?_; (try simp only [go_sem, fx2_0, fx2_1]); refine qU u ?_; clear u U; refine awp_ret1 ?_; obtain rfl := someInj h0; refine endW_i ?_; refine end_ret0 rs5 qR ?_; exact qF
def hotspotref26_Member_S0 (a0 : A6vu) (a1 : A6vu) (a2 : Pairwise) (a3 : GroupKey) : AS :=
 { objs := (upd (upd (upd (upd (upd (fun _ => .dead) 0 (.live (e_A6vu a0))) 1 (.live (e_A6vu a1))) 2 (.live (e_Pairwise a2))) 3 (.live (e_GroupKey a3))) 4 (.live (e_GroupMember GroupMember.z))), next := 5, tmps := (upd (upd (upd (upd (upd (fun _ => .unk) 4 (.ptr 0 0)) 5 (.ptr 1 0)) 6 (.ptr 2 0)) 7 (.ptr 3 0)) 8 (.ptr 4 0)) }

theorem hotspotref26_Member_p (a0 : A6vu) (a1 : A6vu) (a2 : Pairwise) (a3 : GroupKey) {r : (GroupMember × Int)} (h0 : hotspotref26_Member a0 a1 a2 a3 = some r) : SndP K 6 [(.agg (e_A6vu a0)), (.agg (e_A6vu a1)), (.agg (e_Pairwise a2)), (.agg (e_GroupKey a3))] (.tup [(.agg (e_GroupMember r.1)), (vi r.2)]) := by
 refine SndP.of_walkW hC (Clean.tup (clean_cons (Clean.agg (e_GroupMember_clean _)) (clean_cons (Clean.v _) clean_nil))) (clean_cons (Clean.agg (e_A6vu_clean _)) (clean_cons (Clean.agg (e_A6vu_clean _)) (clean_cons (Clean.agg (e_Pairwise_clean _)) (clean_cons (Clean.agg (e_GroupKey_clean _)) clean_nil)))) (show K.P.funcs[6]? = some Try.f6 from Try.func6) rfl rfl (by decide +kernel) (Nat.le_of_ble_eq_true rfl) ?_; unfold hotspotref26_Member at h0; refine awp_nw [0,1,2,3] fun tz U u => ?_; (try simp only [go_sem]); refine u _ (hotspotref26_Member_S0 a0 a1 a2 a3) (Wk.canonD [] [] [some 0, some 1, some 2, some 3, some 4] rfl trivial rfl (tmOC 4 (tmOC 3 (tmOC 2 (tmOC 1 (tmOC 0 tmO0 (e_A6vu_clean _)) (e_A6vu_clean _)) (e_Pairwise_clean _)) (e_GroupKey_clean _)) (e_GroupMember_clean _)) (tmAllU 8 (tmAllU 7 (tmAllU 6 (tmAllU 5 (tmAllU 4 tmAll0 (Tm.ptr rfl)) (Tm.ptr rfl)) (Tm.ptr rfl)) (Tm.ptr rfl)) (Tm.ptr rfl))) ?_; clear u U; unfold hotspotref26_Member_S0; refine awp_assoc ?_; refine awp_nw [4,5,6,7,8] fun tz U u => ?_; refine xw_stop 4 qS qS (by rfl) fun V v => ?_; refine xw_id ?_; (try simp only [go_sem]); refine v _ ?_; clear v V; refine xw_cut 4 [(4, (.ptr 0 0)), (5, (.ptr 1 0)), (6, (.ptr 2 0)), (7, (.ptr 3 0)), (8, (.ptr 4 0)), (18, (vb ((decide (a0 = a1)) || (decide (a3.Id < 2)))))] qS qS (by rfl) (fun V v => ?_) fun tz => ?_
 ·
  refine xw_id ?_; rcases Bool.eq_false_or_eq_true (decide (a0 = a1)) with h1 | h1
  ·
   (try simp only [go_sem, h1]); exact v _ ⟨rfl, rfl, rfl, rfl, rfl, rfl, (qB h1), trivial⟩
  ·
   (try simp only [go_sem, h1]); exact v _ ⟨rfl, rfl, rfl, rfl, rfl, rfl, (qB h1), trivial⟩
 ·
  refine xw_id ?_; refine xw_stop 1 qS qS (by rfl) fun V v => ?_; refine xw_id ?_; (try simp only [go_sem]); refine v _ ?_; clear v V; refine xw_cut 4 [(4, (.ptr 0 0)), (5, (.ptr 1 0)), (6, (.ptr 2 0)), (7, (.ptr 3 0)), (8, (.ptr 4 0)), (23, (vb (((decide (a0 = a1)) || (decide (a3.Id < 2))) || (decide (3 < a3.Id)))))] qS qS (by rfl) (fun V v => ?_) fun tz => ?_
  ·
   refine xw_id ?_; rcases Bool.eq_false_or_eq_true ((decide (a0 = a1)) || (decide (a3.Id < 2))) with h2 | h2
   ·
    (try simp only [go_sem, h2]); exact v _ ⟨rfl, rfl, rfl, rfl, rfl, rfl, (qB h2), trivial⟩
   ·
    (try simp only [go_sem, h2]); exact v _ ⟨rfl, rfl, rfl, rfl, rfl, rfl, (qB h2), trivial⟩
  ·
   refine xw_id ?_; (try simp only [go_sem]); refine qU u ?_; clear u U; refine awp_cond (b := (((decide (a0 = a1)) || (decide (a3.Id < 2))) || (decide (3 < a3.Id)))) rfl (fun h3 => ?_) (fun h3 => ?_)
   ·
    have h0 := cT h0 h3; refine awp_assoc ?_; refine awp_nw [8] fun tz U u => ?_; (try simp only [go_sem]); refine qU u ?_; clear u U; refine awp_ret ?_; obtain rfl := someInj h0; refine endW_i ?_; refine end_ret0 rs6 qR ?_; exact qF
   ·
    have h0 := cF h0 h3; refine awp_skip ?_; refine awp_nw [4,5,6,7,8] fun tz U u => ?_; (try simp only [go_sem]); refine qU u ?_; clear u U; refine awp_nw [7,8,10] fun tz U u => ?_; obtain ⟨x4, bx4, h0⟩ := bnd h0; obtain ⟨fx4_0, fx4_1, fx4_2, fx4_3⟩ := idxA_some bx4; have gq4 : sub? (e_GroupMember { GroupMember.z with Own := a0, Pair := a2, Peer := a1 }) (61 + ((IntKind.wrap .i64 (a3.Id - 2)).toNat) * 17) 17 = some (e_GroupKey x4) := (sub_sub (m := 34) (by rfl) (by have h0 := of_eq_true fx4_0; have h1 := of_eq_true fx4_1; omega)).trans (e_A2_GroupKey_getA GroupMember.z.Keys fx4_2); (have gs5b : (IntKind.wrap .i64 (a3.Id - 2)).toNat < 2 := by have h0 := of_eq_true fx4_0; have h1 := of_eq_true fx4_1; omega); have gs5 : putAt (e_GroupMember { GroupMember.z with Own := a0, Pair := a2, Peer := a1 }) (61 + ((IntKind.wrap .i64 (a3.Id - 2)).toNat) * 17) (e_GroupKey a3) = (e_GroupMember { GroupMember.z with Keys := (GroupMember.z.Keys.setA ((IntKind.wrap .i64 (a3.Id - 2)).toNat) a3), Own := a0, Pair := a2, Peer := a1 }) := (put_sub (m := 34) (by rfl) (by rw [e_GroupKey_len]; omega) (e_A2_GroupKey_setA _ _ gs5b)).trans (by rfl); have gs5l : (61 + (((IntKind.wrap .i64 (a3.Id - 2)).toNat) * 17 + 17) ≤ 95) = True := eq_true (by omega); (try simp only [go_sem, fx4_0, fx4_1, gq4, gs5, gs5l]); refine qU u ?_; clear u U; refine awp_nw [8,10] fun tz U u => ?_; (try simp only [go_sem, fx4_0, fx4_1]); refine qU u ?_; clear u U; refine awp_ret1 ?_; obtain rfl := someInj h0; refine endW_i ?_; refine end_ret0 rs6 qR ?_; exact qF
def groupkey_keysFit_S0 (a0 : A2_GroupKey) (d6 : Unit) : AS :=
 { objs := (upd (fun _ => .dead) 0 (.live (e_A2_GroupKey a0))), next := 1, tmps := (upd (fun _ => .unk) 1 (.ptr 0 0)) }

def groupkey_keysFit_S1 (a0 : A2_GroupKey) (d8 : Int) : AS :=
 { objs := (upd (fun _ => .dead) 0 (.live (e_A2_GroupKey a0))), next := 1, tmps := (upd (upd (upd (fun _ => .unk) 1 (.ptr 0 0)) 5 (.agg (e_A2_GroupKey a0))) 6 (vi d8)) }

theorem groupkey_keysFit_p (a0 : A2_GroupKey) {r : Bool} (h0 : groupkey_keysFit a0 = some r) : SndP K 26 [(.agg (e_A2_GroupKey a0))] (vb r) := by
 refine SndP.of_walkW hC (Clean.v _) (clean_cons (Clean.agg (e_A2_GroupKey_clean _)) clean_nil) (show K.P.funcs[26]? = some Try.f26 from Try.func26) rfl rfl (by decide +kernel) (Nat.le_of_ble_eq_true rfl) ?_; unfold groupkey_keysFit at h0; refine awp_nw [0] fun tz U u => ?_; (try simp only [go_sem]); refine qU u ?_; clear u U; refine awp_assoc ?_; refine awp_nw [1] fun tz U u => ?_; (try simp only [go_sem]); refine qU u ?_; clear u U; obtain ⟨o7, hi1, h0⟩ := bnd h0; refine awp_cut (fun d6 : Unit => o7 = Ex.go d6) (fun d6 : Unit => groupkey_keysFit_S0 a0 d6) ?_ ?_
 ·
  refine awp_block1 ?_; refine awp_loopS (fun n (d8 : Int) => groupkey_keysFit_L2 a0 n d8 = some o7) (fun d8 : Int => groupkey_keysFit_S1 a0 d8) big 0 (Wk.canonD [] [] [some 0] rfl trivial rfl (tmOC 0 tmO0 (e_A2_GroupKey_clean _)) (tmAllU 6 (tmAllU 5 (tmAllU 1 tmAll0 (Tm.ptr rfl)) (Tm.clean (Clean.agg (e_A2_GroupKey_clean _)))) (Tm.v _))) hi1 ?_; clear hi1; rintro n d8 hl3; rcases n with _ | n2
  ·
   (rw [groupkey_keysFit_L2] at hl3; cases hl3)
  ·
   rw [groupkey_keysFit_L2] at hl3; unfold groupkey_keysFit_S1; refine awp_nw [1,5,6] fun tz U u => ?_; (try simp only [go_sem]); refine qU u ?_; clear u U; refine awp_cond (b := (decide (d8 < 2))) rfl (fun h4 => ?_) (fun h4 => ?_)
   ·
    have hl3 := cT hl3 h4; refine awp_skip ?_; refine awp_blockW ?_; refine awp_nw [1,5,6] fun tz U u => ?_; obtain ⟨x9, bx9, hl3⟩ := bnd hl3; obtain ⟨fx9_0, fx9_1, fx9_2, fx9_3⟩ := idxA_some bx9; have gq5 : sub? (e_A2_GroupKey a0) (((d8).toNat) * 17) 17 = some (e_GroupKey x9) := e_A2_GroupKey_getA a0 fx9_2; (try simp only [go_sem, fx9_0, fx9_1, gq5]); refine qU u ?_; clear u U; refine awp_nw [1,3,4,5,6] fun tz U u => ?_; refine xw_stop 4 qS qS (by rfl) fun V v => ?_; refine xw_id ?_; (try simp only [go_sem, fx9_0, fx9_1]); refine v _ ?_; clear v V; refine xw_cut 6 [(1, (.ptr 0 0)), (5, (.agg (e_A2_GroupKey a0))), (6, (vi d8)), (19, (vb ((!decide (x9 = GroupKey.z)) && (x9.Id != (IntKind.wrap .i64 (2 + d8))))))] qS qS (by rfl) (fun V v => ?_) fun tz => ?_
    ·
     refine xw_id ?_; rcases Bool.eq_false_or_eq_true (!decide (x9 = GroupKey.z)) with h6 | h6
     ·
      (try simp only [go_sem, fx9_0, fx9_1, h6]); exact v _ ⟨rfl, rfl, rfl, rfl, (qB h6), trivial⟩
     ·
      (try simp only [go_sem, fx9_0, fx9_1, h6]); exact v _ ⟨rfl, rfl, rfl, rfl, (qB h6), trivial⟩
    ·
     refine xw_id ?_; (try simp only [go_sem, fx9_0, fx9_1]); refine qU u ?_; clear u U; refine awp_cond1 (b := ((!decide (x9 = GroupKey.z)) && (x9.Id != (IntKind.wrap .i64 (2 + d8))))) rfl (fun h7 => ?_) (fun h7 => ?_)
     ·
      have hl3 := cT hl3 h7; refine awp_nw [] fun tz U u => ?_; (try simp only [go_sem, fx9_0, fx9_1]); refine qU u ?_; clear u U; refine awp_ret1 ?_; refine bq_r ?_; refine sq_r ?_; refine lq_r ?_; refine bq_r ?_; refine sq_r ?_; obtain rfl := someInj hl3; obtain rfl := Ex.k_ret h0; refine endW_i ?_; refine end_ret0 rs26 (rfl) ?_; exact qF
     ·
      have hl3 := cF hl3 h7; refine awp_skip1 ?_; refine bq_n ?_; refine seqW_i ?_; refine awp_nw1 [1,5,6] fun tz U u => ?_; (try simp only [go_sem, fx9_0, fx9_1]); refine u _ ?_; clear u U; refine lq_n ?_; exact ⟨n2, IntKind.wrap .i64 (d8 + 1), rfl, hl3, (Wk.canonD [] [] [some 0] rfl trivial rfl (tmOC 0 tmO0 (e_A2_GroupKey_clean _)) (tmAllU 6 (tmAllU 5 (tmAllU 1 tmAll0 (Tm.ptr rfl)) (Tm.clean (Clean.agg (e_A2_GroupKey_clean _)))) (Tm.v _)))⟩
   ·
    have hl3 := cF hl3 h4; refine awp_exit ?_; refine lq_e ?_; refine bq_e ?_; refine sq_n ?_; obtain rfl := someInj hl3; exact ⟨_, rfl, (Wk.canonD [] [] [some 0] rfl trivial rfl (tmOC 0 tmO0 (e_A2_GroupKey_clean _)) (tmAllU 1 tmAll0 (Tm.ptr rfl)))⟩
 ·
  rintro d6 rfl; have h0 := Ex.k_go h0; clear hi1; unfold groupkey_keysFit_S0; refine awp_nw [1] fun tz U u => ?_; refine xw_stop 5 qS qS (by rfl) fun V v => ?_; refine xw_id ?_; (try simp only [go_sem]); refine v _ ?_; clear v V; refine xw_cut 5 [(1, (.ptr 0 0)), (30, (vb ((a0.a0.Id == 0) || (a0.a1.Id == 0))))] qS qS (by rfl) (fun V v => ?_) fun tz => ?_
  ·
   refine xw_id ?_; rcases Bool.eq_false_or_eq_true (a0.a0.Id == 0) with h8 | h8
   ·
    (try simp only [go_sem, h8]); exact v _ ⟨rfl, rfl, (qB h8), trivial⟩
   ·
    (try simp only [go_sem, h8]); exact v _ ⟨rfl, rfl, (qB h8), trivial⟩
  ·
   refine xw_id ?_; refine xw_stop 1 qS qS (by rfl) fun V v => ?_; refine xw_id ?_; (try simp only [go_sem]); refine v _ ?_; clear v V; refine xw_cut 8 [(39, (vb (((a0.a0.Id == 0) || (a0.a1.Id == 0)) || (!decide (a0.a0.Key = a0.a1.Key)))))] qS qS (by rfl) (fun V v => ?_) fun tz => ?_
   ·
    refine xw_id ?_; rcases Bool.eq_false_or_eq_true ((a0.a0.Id == 0) || (a0.a1.Id == 0)) with h9 | h9
    ·
     (try simp only [go_sem, h9]); exact v _ ⟨rfl, (qB h9), trivial⟩
    ·
     (try simp only [go_sem, h9]); exact v _ ⟨rfl, (qB h9), trivial⟩
   ·
    refine xw_id ?_; (try simp only [go_sem]); refine qU u ?_; clear u U; refine awp_ret1 ?_; obtain rfl := someInj h0; refine endW_i ?_; refine end_ret0 rs26 (rfl) ?_; exact qF
theorem groupkey_CheckMember_p (a0 : GroupMember) {r : Int} (h0 : groupkey_CheckMember a0 = some r) : SndP K 12 [(.agg (e_GroupMember a0))] (vi r) := by
 refine SndP.of_walkW hC (Clean.v _) (clean_cons (Clean.agg (e_GroupMember_clean _)) clean_nil) (show K.P.funcs[12]? = some Try.f12 from Try.func12) rfl rfl (by decide +kernel) (Nat.le_of_ble_eq_true rfl) ?_; unfold groupkey_CheckMember at h0; refine awp_nw [0] fun tz U u => ?_; (try simp only [go_sem]); refine qU u ?_; clear u U; refine awp_assoc ?_; refine awp_nw [1] fun tz U u => ?_; refine xw_stop 6 qS qS (by rfl) fun V v => ?_; refine xw_id ?_; (try simp only [go_sem]); refine v _ ?_; clear v V; refine xw_cut 4 [(1, (.ptr 0 0)), (12, (vb ((decide (a0.Own = a0.Peer)) || (decide (a0.Replay < 0)))))] qS qS (by rfl) (fun V v => ?_) fun tz => ?_
 ·
  refine xw_id ?_; rcases Bool.eq_false_or_eq_true (decide (a0.Own = a0.Peer)) with h1 | h1
  ·
   (try simp only [go_sem, h1]); exact v _ ⟨rfl, rfl, (qB h1), trivial⟩
  ·
   (try simp only [go_sem, h1]); exact v _ ⟨rfl, rfl, (qB h1), trivial⟩
 ·
  refine xw_id ?_; refine xw_stop 1 qS qS (by rfl) fun V v => ?_; refine xw_id ?_; (try simp only [go_sem]); refine v _ ?_; clear v V; refine xw_cut 4 [(1, (.ptr 0 0)), (17, (vb (((decide (a0.Own = a0.Peer)) || (decide (a0.Replay < 0))) || (decide (4611686018427387904 ≤ a0.Replay)))))] qS qS (by rfl) (fun V v => ?_) fun tz => ?_
  ·
   refine xw_id ?_; rcases Bool.eq_false_or_eq_true ((decide (a0.Own = a0.Peer)) || (decide (a0.Replay < 0))) with h2 | h2
   ·
    (try simp only [go_sem, h2]); exact v _ ⟨rfl, rfl, (qB h2), trivial⟩
   ·
    (try simp only [go_sem, h2]); exact v _ ⟨rfl, rfl, (qB h2), trivial⟩
  ·
   refine xw_id ?_; refine xw_stop 1 qS qS (by rfl) fun V v => ?_; refine xw_id ?_; (try simp only [go_sem]); refine v _ ?_; clear v V; obtain ⟨x7, hvh3, h0⟩ := bnd h0; refine xw_cut 5 [(1, (.ptr 0 0)), (23, (vb x7))] qS qS (by rfl) (fun V v => ?_) fun tz => ?_
   ·
    refine xw_id ?_; rcases Bool.eq_false_or_eq_true (((decide (a0.Own = a0.Peer)) || (decide (a0.Replay < 0))) || (decide (4611686018427387904 ≤ a0.Replay))) with h3 | h3
    ·
     have hvh3 := cT hvh3 h3; (try simp only [go_sem, h3]); obtain rfl := someInj hvh3; exact v _ ⟨rfl, rfl, (qB h3), trivial⟩
    ·
     have hvh3 := cF hvh3 h3; obtain ⟨x6, bx6, hvh3⟩ := bnd hvh3; (try simp only [go_sem, h3]); (refine xcall_p (groupkey_keysFit_p a0.Keys bx6) ?_; try dsimp only); (try refine xw_id ?_); (try simp only [go_sem, h3]); obtain rfl := someInj hvh3; exact v _ ⟨rfl, rfl, (qB h3), trivial⟩
   ·
    refine xw_id ?_; refine xw_stop 1 qS qS (by rfl) fun V v => ?_; refine xw_id ?_; (try simp only [go_sem]); refine v _ ?_; clear v V; refine xw_cut 5 [(29, (vb (x7 || (decide (a0.Keys = A2_GroupKey.z)))))] qS qS (by rfl) (fun V v => ?_) fun tz => ?_
    ·
     refine xw_id ?_; rcases Bool.eq_false_or_eq_true x7 with h4 | h4
     ·
      (try simp only [go_sem, h4]); exact v _ ⟨rfl, (qB h4), trivial⟩
     ·
      (try simp only [go_sem, h4]); exact v _ ⟨rfl, (qB h4), trivial⟩
    ·
     refine xw_id ?_; (try simp only [go_sem]); refine qU u ?_; clear u U; refine awp_cond (b := (x7 || (decide (a0.Keys = A2_GroupKey.z)))) rfl (fun h5 => ?_) (fun h5 => ?_)
     ·
      have h0 := cT h0 h5; refine awp_assoc ?_; refine awp_nw [] fun tz U u => ?_; (try simp only [go_sem]); refine qU u ?_; clear u U; refine awp_ret ?_; obtain rfl := someInj h0; refine endW_i ?_; refine end_ret0 rs12 (rfl) ?_; exact qF
     ·
      have h0 := cF h0 h5; refine awp_skip ?_; refine awp_nw [] fun tz U u => ?_; (try simp only [go_sem]); refine qU u ?_; clear u U; refine awp_ret1 ?_; obtain rfl := someInj h0; refine endW_i ?_; refine end_ret0 rs12 (rfl) ?_; exact qF
theorem groupkey_Receive_1_p (a0 : Int) {r : (GroupMember × (List Int) × Int)} (h0 : groupkey_Receive_1 a0 = some r) : SndP K 14 [(vi a0)] (.tup [(.agg (e_GroupMember r.1)), (S_vu r.2.1), (vi r.2.2)]) := by
 refine SndP.of_walkW hC (Clean.tup (clean_cons (Clean.agg (e_GroupMember_clean _)) (clean_cons (S_vu_clean _) (clean_cons (Clean.v _) clean_nil)))) (clean_cons (Clean.v _) clean_nil) (show K.P.funcs[14]? = some Try.f14 from Try.func14) rfl rfl (by decide +kernel) (Nat.le_of_ble_eq_true rfl) ?_; unfold groupkey_Receive_1 at h0; refine awp_nw [0] fun tz U u => ?_; (try simp only [go_sem]); refine qU u ?_; clear u U; refine awp_nw [0,2] fun tz U u => ?_; (try simp only [go_sem]); refine qU u ?_; clear u U; refine awp_ret1 ?_; obtain rfl := someInj h0; refine endW_i ?_; refine end_ret0 rs14 qR ?_; exact qF
def groupkey_count_S0 (d11 : Int) : AS :=
 { objs := (fun _ => .dead), next := 0, tmps := (upd (fun _ => .unk) 4 (vq d11)) }

def groupkey_count_S1 (a0 : (List Int)) (d12 : (Int × Int)) : AS :=
 { objs := (fun _ => .dead), next := 0, tmps := (upd (upd (upd (fun _ => .unk) 0 (.imm (List.map vu a0) a0.length)) 4 (vq d12.1)) 6 (vi d12.2)) }

theorem groupkey_count_p (a0 : (List Int)) {r : (Int × Bool)} (h0 : groupkey_count a0 = some r) : SndP K 15 [(S_vu a0)] (.tup [(vi r.1), (vb r.2)]) := by
 refine SndP.of_walkW hC (Clean.tup (clean_cons (Clean.v _) (clean_cons (Clean.v _) clean_nil))) (clean_cons (S_vu_clean _) clean_nil) (show K.P.funcs[15]? = some Try.f15 from Try.func15) rfl rfl (by decide +kernel) (Nat.le_of_ble_eq_true rfl) ?_; unfold groupkey_count at h0; refine awp_nw [0] fun tz U u => ?_; (try simp only [go_sem]); refine qU u ?_; clear u U; refine awp_nw [0] fun tz U u => ?_; (try simp only [go_sem]); refine qU u ?_; clear u U; refine awp_assoc ?_; refine awp_nw [0,4] fun tz U u => ?_; (try simp only [go_sem]); refine qU u ?_; clear u U; obtain ⟨d11, hi1, h0⟩ := bnd h0; refine awp_cut (fun z => d11 = z) (fun d11 : Int => groupkey_count_S0 d11) ?_ ?_
 ·
  refine awp_block1 ?_; refine awp_loopS (fun n (d12 : (Int × Int)) => groupkey_count_L2 a0 n d12 = some d11) (fun d12 : (Int × Int) => groupkey_count_S1 a0 d12) big (0, 0) (Wk.canonD [] [] [] rfl trivial rfl tmO0 (tmAllU 6 (tmAllU 4 (tmAllU 0 tmAll0 (Tm.clean (Clean.imm (vu_clean _)))) (Tm.v _)) (Tm.v _))) hi1 ?_; clear hi1; rintro n d12 hl3; rcases n with _ | n2
  ·
   (rw [groupkey_count_L2] at hl3; cases hl3)
  ·
   rw [groupkey_count_L2] at hl3; unfold groupkey_count_S1; refine awp_nw [0,4,6] fun tz U u => ?_; (try simp only [go_sem]); refine qU u ?_; clear u U; refine awp_cond (b := (decide (d12.2 < 8))) rfl (fun h4 => ?_) (fun h4 => ?_)
   ·
    have hl3 := cT hl3 h4; refine awp_skip ?_; refine awp_blockW ?_; refine awp_nw [0,4,6] fun tz U u => ?_; (try simp only [go_sem]); refine qU u ?_; clear u U; refine awp_nw1 [0,4,5,6] fun tz U u => ?_; obtain ⟨x13, bx13, hl3⟩ := bnd hl3; obtain ⟨fx13_0, fx13_1, fx13_2, fx13_3⟩ := idx_some bx13; obtain ⟨x14, bx14, hl3⟩ := bnd hl3; have bx14 := chk_some bx14; simp only [Bool.and_eq_true, decide_eq_true_eq] at bx14; have gx14_0 := bx14; (try simp only [go_sem, fx13_0, fx13_1, fx13_2, gx14_0]); refine u _ ?_; clear u U; refine bq_n ?_; refine seqW_i ?_; refine awp_nw1 [0,4,6] fun tz U u => ?_; (try simp only [go_sem, fx13_0, fx13_1, fx13_2]); refine u _ ?_; clear u U; refine lq_n ?_; exact ⟨n2, (bor .u64 d12.1 (IntKind.wrap .u64 ((IntKind.wrap .u64 x13) * 2 ^ (min ((IntKind.wrap .i64 (8 * d12.2))).toNat 64))), IntKind.wrap .i64 (d12.2 + 1)), rfl, hl3, (Wk.canonD [] [] [] rfl trivial rfl tmO0 (tmAllU 6 (tmAllU 4 (tmAllU 0 tmAll0 (Tm.clean (Clean.imm (vu_clean _)))) (Tm.v _)) (Tm.v _)))⟩
   ·
    have hl3 := cF hl3 h4; refine awp_exit ?_; refine lq_e ?_; refine bq_e ?_; refine sq_n ?_; obtain rfl := someInj hl3; exact ⟨_, rfl, (Wk.canonD [] [] [] rfl trivial rfl tmO0 (tmAllU 4 tmAll0 (Tm.v _)))⟩
 ·
  rintro _ rfl; clear hi1; unfold groupkey_count_S0; refine awp_nw [4] fun tz U u => ?_; (try simp only [go_sem]); refine qU u ?_; clear u U; refine awp_ret1 ?_; obtain rfl := someInj h0; refine endW_i ?_; refine end_ret0 rs15 (rfl) ?_; exact qF
def cipher_Words_S0 (d27 : A4vw) : AS :=
 { objs := (upd (fun _ => .dead) 0 (.live (e_A4vw d27))), next := 1, tmps := (upd (fun _ => .unk) 2 (.ptr 0 0)) }

def cipher_Words_S1 (a0 : A16vu) (d28 : (A4vw × Int)) : AS :=
 { objs := (upd (fun _ => .dead) 0 (.live (e_A4vw d28.1))), next := 1, tmps := (upd (upd (upd (fun _ => .unk) 2 (.ptr 0 0)) 5 (.agg (e_A16vu a0))) 6 (vi d28.2)) }

theorem cipher_Words_p (a0 : A16vu) {r : A4vw} (h0 : cipher_Words a0 = some r) : SndP K 50 [(.agg (e_A16vu a0))] (.agg (e_A4vw r)) := by
 refine SndP.of_walkW hC (Clean.agg (e_A4vw_clean _)) (clean_cons (Clean.agg (e_A16vu_clean _)) clean_nil) (show K.P.funcs[50]? = some Try.f50 from Try.func50) rfl rfl (by decide +kernel) (Nat.le_of_ble_eq_true rfl) ?_; unfold cipher_Words at h0; refine awp_nw [0] fun tz U u => ?_; (try simp only [go_sem]); refine qU u ?_; clear u U; refine awp_assoc ?_; refine awp_nw [1,2] fun tz U u => ?_; (try simp only [go_sem]); refine qU u ?_; clear u U; obtain ⟨d27, hi1, h0⟩ := bnd h0; refine awp_cut (fun z => d27 = z) (fun d27 : A4vw => cipher_Words_S0 d27) ?_ ?_
 ·
  refine awp_block1 ?_; refine awp_loopS (fun n (d28 : (A4vw × Int)) => cipher_Words_L2 a0 n d28 = some d27) (fun d28 : (A4vw × Int) => cipher_Words_S1 a0 d28) big (A4vw.z, 0) (Wk.canonD [] [] [some 1] rfl trivial rfl (tmOC 0 tmO0 (e_A4vw_clean _)) (tmAllU 6 (tmAllU 5 (tmAllU 2 tmAll0 (Tm.ptr rfl)) (Tm.clean (Clean.agg (e_A16vu_clean _)))) (Tm.v _))) hi1 ?_; clear hi1; rintro n d28 hl3; rcases n with _ | n2
  ·
   (rw [cipher_Words_L2] at hl3; cases hl3)
  ·
   rw [cipher_Words_L2] at hl3; unfold cipher_Words_S1; refine awp_nw [2,5,6] fun tz U u => ?_; (try simp only [go_sem]); refine qU u ?_; clear u U; refine awp_cond (b := (decide (d28.2 < 16))) rfl (fun h4 => ?_) (fun h4 => ?_)
   ·
    have hl3 := cT hl3 h4; refine awp_skip ?_; refine awp_blockW ?_; refine awp_nw [2,5,6] fun tz U u => ?_; obtain ⟨x29, bx29, hl3⟩ := bnd hl3; obtain ⟨fx29_0, fx29_1, fx29_2, fx29_3⟩ := idxA_some bx29; (have fx29_6 : (e_A16vu a0)[(d28.2).toNat]? = some (vu x29) := by show (List.map vu [a0.a0, a0.a1, a0.a2, a0.a3, a0.a4, a0.a5, a0.a6, a0.a7, a0.a8, a0.a9, a0.a10, a0.a11, a0.a12, a0.a13, a0.a14, a0.a15])[(d28.2).toNat]? = _; rw [List.getElem?_map, fx29_2]; rfl); (try simp only [go_sem, fx29_0, fx29_1, fx29_6]); refine qU u ?_; clear u U; refine awp_nr1 [2,3,4,5,6] (fun _ => rfl) fun tz => ?_; refine awp_regD1 fun U u all hall => ?_; refine xd_id ?_; (try simp only [List.toList_toArray, List.map_cons, List.map_nil, List.size_toArray, List.length_cons, List.length_nil, Nat.zero_add]); (try simp only [Nat.reduceAdd]); obtain ⟨x30, bx30, hl3⟩ := bnd hl3; obtain ⟨fx30_0, fx30_1, fx30_2, fx30_3⟩ := idxA_some bx30; (have fx30_6 : (e_A4vw d28.1)[(IntKind.wrap .i64 ((d28.2).tdiv 4)).toNat]? = some (vw x30) := by show (List.map vw [d28.1.a0, d28.1.a1, d28.1.a2, d28.1.a3])[(IntKind.wrap .i64 ((d28.2).tdiv 4)).toNat]? = _; rw [List.getElem?_map, fx30_2]; rfl); obtain ⟨x31, bx31, hl3⟩ := bnd hl3; have bx31 := chk_some bx31; simp only [Bool.and_eq_true, decide_eq_true_eq] at bx31; have gx31_0 := bx31; (have gs5b : (IntKind.wrap .i64 ((d28.2).tdiv 4)).toNat < 4 := by have h0 := of_eq_true fx30_0; have h1 := of_eq_true fx30_1; omega); have gs5 : (e_A4vw d28.1).set ((IntKind.wrap .i64 ((d28.2).tdiv 4)).toNat) (vw (bor .u32 x30 (IntKind.wrap .u32 ((IntKind.wrap .u32 x29) * 2 ^ (min ((IntKind.wrap .i64 (((d28.2).tmod 4) * 8))).toNat 32))))) = e_A4vw (d28.1.setA ((IntKind.wrap .i64 ((d28.2).tdiv 4)).toNat) (bor .u32 x30 (IntKind.wrap .u32 ((IntKind.wrap .u32 x29) * 2 ^ (min ((IntKind.wrap .i64 (((d28.2).tmod 4) * 8))).toNat 32))))) := e_A4vw_setA _ _ gs5b; have gs5l : ((IntKind.wrap .i64 ((d28.2).tdiv 4)).toNat + 1 ≤ 4) = True := eq_true (by omega); (iterate 3 ((try simp only [go_sem, -Nat.reduceAdd, fx29_0, fx29_1, fx29_6, Int.reduceEq, fx30_0, fx30_1, fx30_6, gx31_0, gs5, gs5l]); try simp only [Nat.reduceAdd])); refine And.intro ?_ (u _ ?_)
    ·
     subst hall; clear u U; exact qP
    ·
     clear u U hall all; refine bq_n ?_; refine seqW_i ?_; refine awp_nw1 [2,5,6] fun tz U u => ?_; (try simp only [go_sem, fx29_0, fx29_1, fx29_6, fx30_0, fx30_1, fx30_6]); refine u _ ?_; clear u U; refine lq_n ?_; exact ⟨n2, ((d28.1.setA ((IntKind.wrap .i64 ((d28.2).tdiv 4)).toNat) (bor .u32 x30 (IntKind.wrap .u32 ((IntKind.wrap .u32 x29) * 2 ^ (min ((IntKind.wrap .i64 (((d28.2).tmod 4) * 8))).toNat 32))))), IntKind.wrap .i64 (d28.2 + 1)), rfl, hl3, (Wk.canonD [] [] [some 0] rfl trivial rfl (tmOC 0 tmO0 (e_A4vw_clean _)) (tmAllU 6 (tmAllU 5 (tmAllU 2 tmAll0 (Tm.ptr rfl)) (Tm.clean (Clean.agg (e_A16vu_clean _)))) (Tm.v _)))⟩
   ·
    have hl3 := cF hl3 h4; refine awp_exit ?_; refine lq_e ?_; refine bq_e ?_; refine sq_n ?_; obtain rfl := someInj hl3; exact ⟨_, rfl, (Wk.canonD [] [] [some 0] rfl trivial rfl (tmOC 0 tmO0 (e_A4vw_clean _)) (tmAllU 2 tmAll0 (Tm.ptr rfl)))⟩
 ·
  rintro _ rfl; clear hi1; unfold cipher_Words_S0; refine awp_nw [2] fun tz U u => ?_; (try simp only [go_sem]); refine qU u ?_; clear u U; refine awp_ret1 ?_; obtain rfl := someInj h0; refine endW_i ?_; refine end_ret0 rs50 qR ?_; exact qF
theorem math_bits_RotateLeft32_p (a0 : Int) (a1 : Int) {r : Int} (h0 : math_bits_RotateLeft32 a0 a1 = some r) : SndP K 61 [(vw a0), (vi a1)] (vw r) := by
 refine SndP.of_walkW hC (Clean.v _) (clean_cons (Clean.v _) (clean_cons (Clean.v _) clean_nil)) (show K.P.funcs[61]? = some Try.f61 from Try.func61) rfl rfl (by decide +kernel) (Nat.le_of_ble_eq_true rfl) ?_; unfold math_bits_RotateLeft32 at h0; refine awp_nw [0,1] fun tz U u => ?_; (try simp only [go_sem]); refine qU u ?_; clear u U; refine awp_nw [0,1] fun tz U u => ?_; (try simp only [go_sem]); refine qU u ?_; clear u U; refine awp_nw [0,5] fun tz U u => ?_; obtain ⟨x36, bx36, h0⟩ := bnd h0; have bx36 := chk_some bx36; simp only [Bool.and_eq_true, decide_eq_true_eq] at bx36; have gx36_0 := bx36; obtain ⟨x37, bx37, h0⟩ := bnd h0; have bx37 := chk_some bx37; simp only [Bool.and_eq_true, decide_eq_true_eq] at bx37; have gx37_0 := bx37; (try simp only [go_sem, gx36_0, gx37_0]); refine qU u ?_; clear u U; refine awp_ret1 ?_; obtain rfl := someInj h0; refine endW_i ?_; refine end_ret0 rs61 (rfl) ?_; exact qF
def cipher_Schedule_S0 (x27 : A4vw) : AS :=
 { objs := (upd (upd (fun _ => .dead) 0 (.live (e_A36vw A36vw.z))) 1 (.live (e_A4vw x27))), next := 2, tmps := (upd (upd (fun _ => .unk) 2 (.ptr 0 0)) 3 (.ptr 1 0)) }

def cipher_Schedule_S1 (d28 : A36vw) : AS :=
 { objs := (upd (fun _ => .dead) 0 (.live (e_A36vw d28))), next := 1, tmps := (upd (fun _ => .unk) 2 (.ptr 0 0)) }

def cipher_Schedule_S2 (d29 : (A36vw × Int)) : AS :=
 { objs := (upd (fun _ => .dead) 0 (.live (e_A36vw d29.1))), next := 1, tmps := (upd (upd (fun _ => .unk) 2 (.ptr 0 0)) 4 (vi d29.2)) }

theorem cipher_Schedule_p (a0 : A16vu) {r : A36vw} (h0 : cipher_Schedule a0 = some r) : SndP K 48 [(.agg (e_A16vu a0))] (.agg (e_A36vw r)) := by
 refine SndP.of_walkW hC (Clean.agg (e_A36vw_clean _)) (clean_cons (Clean.agg (e_A16vu_clean _)) clean_nil) (show K.P.funcs[48]? = some Try.f48 from Try.func48) rfl rfl (by decide +kernel) (Nat.le_of_ble_eq_true rfl) ?_; unfold cipher_Schedule at h0; refine awp_nw [0] fun tz U u => ?_; (try simp only [go_sem]); refine qU u ?_; clear u U; refine awp_nw [1,2] fun tz U u => ?_; obtain ⟨x27, bx27, h0⟩ := bnd h0; (try simp only [go_sem]); (refine xcall_p (cipher_Words_p a0 bx27) ?_; try dsimp only); (try refine xw_id ?_); (try simp only [go_sem]); refine u _ (cipher_Schedule_S0 x27) (Wk.canonD [] [] [some 1, some 4] rfl trivial rfl (tmOC 1 (tmOC 0 tmO0 (e_A36vw_clean _)) (e_A4vw_clean _)) (tmAllU 3 (tmAllU 2 tmAll0 (Tm.ptr rfl)) (Tm.ptr rfl))) ?_; clear u U; unfold cipher_Schedule_S0; refine awp_nr [2,3] (fun _ => rfl) fun tz => ?_; refine awp_regDW fun U u all hall => ?_; refine xd_id ?_; (try simp only [List.toList_toArray, List.map_cons, List.map_nil, List.size_toArray, List.length_cons, List.length_nil, Nat.zero_add]); (try simp only [Nat.reduceAdd]); (have gs1 : putAt (e_A36vw A36vw.z) 0 (e_A4vw x27) = e_A36vw { A36vw.z with a0 := x27.a0, a1 := x27.a1, a2 := x27.a2, a3 := x27.a3 } := by rfl); (have gs1m : min 4 36 = 4 := by rfl); (iterate 3 ((try simp only [go_sem, -Nat.reduceAdd, Int.sub_zero, Int.sub_zero, gs1, gs1m]); try simp only [Nat.reduceAdd])); refine And.intro ?_ (u _ _ (Wk.refl _ _ _) ?_)
 ·
  subst hall; clear u U; exact qP
 ·
  clear u U hall all; refine awp_assoc ?_; refine awp_nw [2] fun tz U u => ?_; (try simp only [go_sem]); refine qU u ?_; clear u U; obtain ⟨d28, hi2, h0⟩ := bnd h0; refine awp_cut (fun z => d28 = z) (fun d28 : A36vw => cipher_Schedule_S1 d28) ?_ ?_
  ·
   refine awp_block1 ?_; refine awp_loopS (fun n (d29 : (A36vw × Int)) => cipher_Schedule_L3 a0 n d29 = some d28) (fun d29 : (A36vw × Int) => cipher_Schedule_S2 d29) big ({ A36vw.z with a0 := x27.a0, a1 := x27.a1, a2 := x27.a2, a3 := x27.a3 }, 4) (Wk.canonD [] [] [some 0] rfl trivial rfl (tmOC 0 tmO0 (e_A36vw_clean _)) (tmAllU 4 (tmAllU 2 tmAll0 (Tm.ptr rfl)) (Tm.v _))) hi2 ?_; clear hi2; rintro n d29 hl4; rcases n with _ | n3
   ·
    (rw [cipher_Schedule_L3] at hl4; cases hl4)
   ·
    rw [cipher_Schedule_L3] at hl4; unfold cipher_Schedule_S2; refine awp_assoc ?_; refine awp_nw [2,4] fun tz U u => ?_; (try simp only [go_sem]); refine qU u ?_; clear u U; refine awp_cond (b := (decide (d29.2 < 36))) rfl (fun h5 => ?_) (fun h5 => ?_)
    ·
     have hl4 := cT hl4 h5; refine awp_skip ?_; refine awp_blockW ?_; refine awp_nr1 [2,4] (fun _ => rfl) fun tz => ?_; refine awp_regD1 fun U u all hall => ?_; refine xd_id ?_; (try simp only [List.toList_toArray, List.map_cons, List.map_nil, List.size_toArray, List.length_cons, List.length_nil, Nat.zero_add]); (try simp only [Nat.reduceAdd]); obtain ⟨x30, bx30, hl4⟩ := bnd hl4; obtain ⟨fx30_0, fx30_1, fx30_2, fx30_3⟩ := idxA_some bx30; (have fx30_6 : (e_A36vw d29.1)[(IntKind.wrap .i64 (d29.2 - 4)).toNat]? = some (vw x30) := by show (List.map vw [d29.1.a0, d29.1.a1, d29.1.a2, d29.1.a3, d29.1.a4, d29.1.a5, d29.1.a6, d29.1.a7, d29.1.a8, d29.1.a9, d29.1.a10, d29.1.a11, d29.1.a12, d29.1.a13, d29.1.a14, d29.1.a15, d29.1.a16, d29.1.a17, d29.1.a18, d29.1.a19, d29.1.a20, d29.1.a21, d29.1.a22, d29.1.a23, d29.1.a24, d29.1.a25, d29.1.a26, d29.1.a27, d29.1.a28, d29.1.a29, d29.1.a30, d29.1.a31, d29.1.a32, d29.1.a33, d29.1.a34, d29.1.a35])[(IntKind.wrap .i64 (d29.2 - 4)).toNat]? = _; rw [List.getElem?_map, fx30_2]; rfl); obtain ⟨x31, bx31, hl4⟩ := bnd hl4; obtain ⟨fx31_0, fx31_1, fx31_2, fx31_3⟩ := idxA_some bx31; (have fx31_6 : (e_A36vw d29.1)[(IntKind.wrap .i64 (d29.2 - 1)).toNat]? = some (vw x31) := by show (List.map vw [d29.1.a0, d29.1.a1, d29.1.a2, d29.1.a3, d29.1.a4, d29.1.a5, d29.1.a6, d29.1.a7, d29.1.a8, d29.1.a9, d29.1.a10, d29.1.a11, d29.1.a12, d29.1.a13, d29.1.a14, d29.1.a15, d29.1.a16, d29.1.a17, d29.1.a18, d29.1.a19, d29.1.a20, d29.1.a21, d29.1.a22, d29.1.a23, d29.1.a24, d29.1.a25, d29.1.a26, d29.1.a27, d29.1.a28, d29.1.a29, d29.1.a30, d29.1.a31, d29.1.a32, d29.1.a33, d29.1.a34, d29.1.a35])[(IntKind.wrap .i64 (d29.2 - 1)).toNat]? = _; rw [List.getElem?_map, fx31_2]; rfl); obtain ⟨x32, bx32, hl4⟩ := bnd hl4; (iterate 3 ((try simp only [go_sem, -Nat.reduceAdd, fx30_0, fx30_1, fx30_6, fx31_0, fx31_1, fx31_6]); try simp only [Nat.reduceAdd])); (refine xcallD_p (math_bits_RotateLeft32_p x31 7 bx32) ?_; try dsimp only); (try refine xd_id ?_); obtain ⟨x33, bx33, hl4⟩ := bnd hl4; obtain ⟨fx33_0, fx33_1, fx33_2, fx33_3⟩ := idxA_some bx33; (have fx33_6 : (e_A36vw d29.1)[(d29.2).toNat]? = some (vw x33) := by show (List.map vw [d29.1.a0, d29.1.a1, d29.1.a2, d29.1.a3, d29.1.a4, d29.1.a5, d29.1.a6, d29.1.a7, d29.1.a8, d29.1.a9, d29.1.a10, d29.1.a11, d29.1.a12, d29.1.a13, d29.1.a14, d29.1.a15, d29.1.a16, d29.1.a17, d29.1.a18, d29.1.a19, d29.1.a20, d29.1.a21, d29.1.a22, d29.1.a23, d29.1.a24, d29.1.a25, d29.1.a26, d29.1.a27, d29.1.a28, d29.1.a29, d29.1.a30, d29.1.a31, d29.1.a32, d29.1.a33, d29.1.a34, d29.1.a35])[(d29.2).toNat]? = _; rw [List.getElem?_map, fx33_2]; rfl); (have gs6b : (d29.2).toNat < 36 := by have h0 := of_eq_true fx33_0; have h1 := of_eq_true fx33_1; omega); have gs6 : (e_A36vw d29.1).set ((d29.2).toNat) (vw (IntKind.wrap .u32 (x30 + (bxor .u32 x32 (IntKind.wrap .u32 ((IntKind.wrap .u32 ((IntKind.wrap .u32 d29.2) * 2050759141)) + 525043411)))))) = e_A36vw (d29.1.setA ((d29.2).toNat) (IntKind.wrap .u32 (x30 + (bxor .u32 x32 (IntKind.wrap .u32 ((IntKind.wrap .u32 ((IntKind.wrap .u32 d29.2) * 2050759141)) + 525043411)))))) := e_A36vw_setA _ _ gs6b; have gs6l : ((d29.2).toNat + 1 ≤ 36) = True := eq_true (by omega); (iterate 3 ((try simp only [go_sem, -Nat.reduceAdd, fx30_0, fx30_1, fx30_6, fx31_0, fx31_1, fx31_6, fx33_0, fx33_1, fx33_6, gs6, gs6l]); try simp only [Nat.reduceAdd])); refine And.intro ?_ (u _ ?_)
     ·
      subst hall; clear u U; exact qP
     ·
      clear u U hall all; refine bq_n ?_; refine seqW_i ?_; refine awp_nw1 [2,4] fun tz U u => ?_; (try simp only [go_sem, fx30_0, fx30_1, fx30_6, fx31_0, fx31_1, fx31_6, fx33_0, fx33_1, fx33_6]); refine u _ ?_; clear u U; refine lq_n ?_; exact ⟨n3, ((d29.1.setA ((d29.2).toNat) (IntKind.wrap .u32 (x30 + (bxor .u32 x32 (IntKind.wrap .u32 ((IntKind.wrap .u32 ((IntKind.wrap .u32 d29.2) * 2050759141)) + 525043411)))))), IntKind.wrap .i64 (d29.2 + 1)), rfl, hl4, (Wk.canonD [] [] [some 0] rfl trivial rfl (tmOC 0 tmO0 (e_A36vw_clean _)) (tmAllU 4 (tmAllU 2 tmAll0 (Tm.ptr rfl)) (Tm.v _)))⟩
    ·
     have hl4 := cF hl4 h5; refine awp_exit ?_; refine lq_e ?_; refine bq_e ?_; refine sq_n ?_; obtain rfl := someInj hl4; exact ⟨_, rfl, (Wk.canonD [] [] [some 0] rfl trivial rfl (tmOC 0 tmO0 (e_A36vw_clean _)) (tmAllU 2 tmAll0 (Tm.ptr rfl)))⟩
  ·
   rintro _ rfl; clear hi2; unfold cipher_Schedule_S1; refine awp_nw [2] fun tz U u => ?_; (try simp only [go_sem]); refine qU u ?_; clear u U; refine awp_ret1 ?_; obtain rfl := someInj h0; refine endW_i ?_; refine end_ret0 rs48 qR ?_; exact qF
def cipher_mask_S0 (d36 : A4vw) : AS :=
 { objs := (upd (upd (fun _ => .dead) 0 (.live (e_A4vw d36))) 1 (.live (e_A4vw A4vw.z))), next := 2, tmps := (upd (upd (fun _ => .unk) 2 (.ptr 0 0)) 4 (.ptr 1 0)) }

def cipher_mask_S1 (a1 : A36vw) (d37 : (A4vw × Int)) : AS :=
 { objs := (upd (upd (upd (fun _ => .dead) 0 (.live (e_A4vw d37.1))) 1 (.live (e_A36vw a1))) 2 (.live (e_A4vw A4vw.z))), next := 3, tmps := (upd (upd (upd (upd (fun _ => .unk) 2 (.ptr 0 0)) 3 (.ptr 1 0)) 4 (.ptr 2 0)) 6 (vi d37.2)) }

theorem cipher_mask_p (a0 : A4vw) (a1 : A36vw) {r : A4vw} (h0 : cipher_mask a0 a1 = some r) : SndP K 49 [(.agg (e_A4vw a0)), (.agg (e_A36vw a1))] (.agg (e_A4vw r)) := by
 refine SndP.of_walkW hC (Clean.agg (e_A4vw_clean _)) (clean_cons (Clean.agg (e_A4vw_clean _)) (clean_cons (Clean.agg (e_A36vw_clean _)) clean_nil)) (show K.P.funcs[49]? = some Try.f49 from Try.func49) rfl rfl (by decide +kernel) (Nat.le_of_ble_eq_true rfl) ?_; unfold cipher_mask at h0; refine awp_nw [0,1] fun tz U u => ?_; (try simp only [go_sem]); refine qU u ?_; clear u U; refine awp_assoc ?_; refine awp_nw [2,3,4] fun tz U u => ?_; (try simp only [go_sem]); refine qU u ?_; clear u U; obtain ⟨d36, hi1, h0⟩ := bnd h0; refine awp_cut (fun z => d36 = z) (fun d36 : A4vw => cipher_mask_S0 d36) ?_ ?_
 ·
  refine awp_block1 ?_; refine awp_loopS (fun n (d37 : (A4vw × Int)) => cipher_mask_L2 a0 a1 n d37 = some d36) (fun d37 : (A4vw × Int) => cipher_mask_S1 a1 d37) big (a0, 0) (Wk.canonD [] [] [some 0, some 1, some 2] rfl trivial rfl (tmOC 2 (tmOC 1 (tmOC 0 tmO0 (e_A4vw_clean _)) (e_A36vw_clean _)) (e_A4vw_clean _)) (tmAllU 6 (tmAllU 4 (tmAllU 3 (tmAllU 2 tmAll0 (Tm.ptr rfl)) (Tm.ptr rfl)) (Tm.ptr rfl)) (Tm.v _))) hi1 ?_; clear hi1; rintro n d37 hl3; rcases n with _ | n2
  ·
   (rw [cipher_mask_L2] at hl3; cases hl3)
  ·
   rw [cipher_mask_L2] at hl3; unfold cipher_mask_S1; refine awp_nw [2,3,4,6] fun tz U u => ?_; (try simp only [go_sem]); refine qU u ?_; clear u U; refine awp_cond (b := (decide (d37.2 < 4))) rfl (fun h4 => ?_) (fun h4 => ?_)
   ·
    have hl3 := cT hl3 h4; refine awp_skip ?_; refine awp_blockW ?_; refine awp_nw [2,3,4,6] fun tz U u => ?_; (try simp only [go_sem]); refine qU u ?_; clear u U; refine awp_nr1 [2,3,4,5,6] (fun _ => rfl) fun tz => ?_; refine awp_regD1 fun U u all hall => ?_; refine xd_id ?_; (try simp only [List.toList_toArray, List.map_cons, List.map_nil, List.size_toArray, List.length_cons, List.length_nil, Nat.zero_add]); (try simp only [Nat.reduceAdd]); obtain ⟨x38, bx38, hl3⟩ := bnd hl3; obtain ⟨fx38_0, fx38_1, fx38_2, fx38_3⟩ := idxA_some bx38; (have fx38_6 : (e_A4vw d37.1)[(d37.2).toNat]? = some (vw x38) := by show (List.map vw [d37.1.a0, d37.1.a1, d37.1.a2, d37.1.a3])[(d37.2).toNat]? = _; rw [List.getElem?_map, fx38_2]; rfl); obtain ⟨x39, bx39, hl3⟩ := bnd hl3; obtain ⟨fx39_0, fx39_1, fx39_2, fx39_3⟩ := idxA_some bx39; (have fx39_6 : (e_A36vw a1)[(d37.2).toNat]? = some (vw x39) := by show (List.map vw [a1.a0, a1.a1, a1.a2, a1.a3, a1.a4, a1.a5, a1.a6, a1.a7, a1.a8, a1.a9, a1.a10, a1.a11, a1.a12, a1.a13, a1.a14, a1.a15, a1.a16, a1.a17, a1.a18, a1.a19, a1.a20, a1.a21, a1.a22, a1.a23, a1.a24, a1.a25, a1.a26, a1.a27, a1.a28, a1.a29, a1.a30, a1.a31, a1.a32, a1.a33, a1.a34, a1.a35])[(d37.2).toNat]? = _; rw [List.getElem?_map, fx39_2]; rfl); (have gs5b : (d37.2).toNat < 4 := by have h0 := of_eq_true fx38_0; have h1 := of_eq_true fx38_1; omega); have gs5 : (e_A4vw d37.1).set ((d37.2).toNat) (vw (bxor .u32 x38 x39)) = e_A4vw (d37.1.setA ((d37.2).toNat) (bxor .u32 x38 x39)) := e_A4vw_setA _ _ gs5b; have gs5l : ((d37.2).toNat + 1 ≤ 4) = True := eq_true (by omega); (iterate 3 ((try simp only [go_sem, -Nat.reduceAdd, fx38_0, fx38_1, fx38_6, fx39_0, fx39_1, fx39_6, gs5, gs5l]); try simp only [Nat.reduceAdd])); refine And.intro ?_ (u _ ?_)
    ·
     subst hall; clear u U; exact qP
    ·
     clear u U hall all; refine bq_n ?_; refine seqW_i ?_; refine awp_nw1 [2,3,4,6] fun tz U u => ?_; (try simp only [go_sem, fx38_0, fx38_1, fx38_6, fx39_0, fx39_1, fx39_6]); refine u _ ?_; clear u U; refine lq_n ?_; exact ⟨n2, ((d37.1.setA ((d37.2).toNat) (bxor .u32 x38 x39)), IntKind.wrap .i64 (d37.2 + 1)), rfl, hl3, (Wk.canonD [] [] [some 0, some 1, some 2] rfl trivial rfl (tmOC 2 (tmOC 1 (tmOC 0 tmO0 (e_A4vw_clean _)) (e_A36vw_clean _)) (e_A4vw_clean _)) (tmAllU 6 (tmAllU 4 (tmAllU 3 (tmAllU 2 tmAll0 (Tm.ptr rfl)) (Tm.ptr rfl)) (Tm.ptr rfl)) (Tm.v _)))⟩
   ·
    have hl3 := cF hl3 h4; refine awp_exit ?_; refine lq_e ?_; refine bq_e ?_; refine sq_n ?_; obtain rfl := someInj hl3; exact ⟨_, rfl, (Wk.canonD [] [] [some 0, some 2] rfl trivial rfl (tmOC 1 (tmOC 0 tmO0 (e_A4vw_clean _)) (e_A4vw_clean _)) (tmAllU 4 (tmAllU 2 tmAll0 (Tm.ptr rfl)) (Tm.ptr rfl)))⟩
 ·
  rintro _ rfl; clear hi1; unfold cipher_mask_S0; refine awp_nw [2,4] fun tz U u => ?_; (try simp only [go_sem]); refine qU u ?_; clear u U; refine awp_ret1 ?_; obtain rfl := someInj h0; refine endW_i ?_; refine end_ret0 rs49 qR ?_; exact qF
def cipher_Round_S0 (a0 : A4vw) (x44 : Int) (a1 : Int) (a2 : Int) : AS :=
 { objs := (upd (upd (fun _ => .dead) 0 (.live (e_A4vw { a0 with a0 := IntKind.wrap .u32 (a0.a0 + (bxor .u32 x44 a1)) }))) 1 (.live (e_A4vw A4vw.z))), next := 2, tmps := (upd (upd (upd (upd (fun _ => .unk) 1 (vw a1)) 2 (vw a2)) 3 (.ptr 0 0)) 6 (.ptr 1 0)) }

def cipher_Round_S1 (a0 : A4vw) (x44 : Int) (a1 : Int) (x46 : Int) (a2 : Int) (x45 : Int) : AS :=
 { objs := (upd (upd (fun _ => .dead) 0 (.live (e_A4vw { a0 with a0 := IntKind.wrap .u32 (a0.a0 + (bxor .u32 x44 a1)), a1 := bxor .u32 a0.a1 x46, a2 := IntKind.wrap .u32 (a0.a2 + (bxor .u32 x45 a2)) }))) 1 (.live (e_A4vw A4vw.z))), next := 2, tmps := (upd (upd (upd (fun _ => .unk) 2 (vw a2)) 3 (.ptr 0 0)) 6 (.ptr 1 0)) }

theorem cipher_Round_p (a0 : A4vw) (a1 : Int) (a2 : Int) {r : A4vw} (h0 : cipher_Round a0 a1 a2 = some r) : SndP K 51 [(.agg (e_A4vw a0)), (vw a1), (vw a2)] (.agg (e_A4vw r)) := by
 refine SndP.of_walkW hC (Clean.agg (e_A4vw_clean _)) (clean_cons (Clean.agg (e_A4vw_clean _)) (clean_cons (Clean.v _) (clean_cons (Clean.v _) clean_nil))) (show K.P.funcs[51]? = some Try.f51 from Try.func51) rfl rfl (by decide +kernel) (Nat.le_of_ble_eq_true rfl) ?_; unfold cipher_Round at h0; refine awp_nw [0,1,2] fun tz U u => ?_; (try simp only [go_sem]); refine qU u ?_; clear u U; refine awp_nr [1,2,3,6] (fun _ => rfl) fun tz => ?_; refine awp_regDW fun U u all hall => ?_; refine xd_id ?_; (try simp only [List.toList_toArray, List.map_cons, List.map_nil, List.size_toArray, List.length_cons, List.length_nil, Nat.zero_add]); (try simp only [Nat.reduceAdd]); obtain ⟨x44, bx44, h0⟩ := bnd h0; (iterate 3 ((try simp only [go_sem]); try simp only [Nat.reduceAdd])); (refine xcallD_p (math_bits_RotateLeft32_p a0.a1 5 bx44) ?_; try dsimp only); (try refine xd_id ?_); (iterate 3 ((try simp only [go_sem]); try simp only [Nat.reduceAdd])); refine And.intro ?_ (u _ (cipher_Round_S0 a0 x44 a1 a2) (Wk.canonD [] [] [some 0, some 1] rfl trivial rfl (tmOC 1 (tmOC 0 tmO0 (e_A4vw_clean _)) (e_A4vw_clean _)) (tmAllU 6 (tmAllU 3 (tmAllU 2 (tmAllU 1 tmAll0 (Tm.v _)) (Tm.v _)) (Tm.ptr rfl)) (Tm.ptr rfl))) ?_)
 ·
  subst hall; clear u U; exact qP
 ·
  clear u U hall all; unfold cipher_Round_S0; refine awp_nr [1,2,3,6] (fun _ => rfl) fun tz => ?_; refine awp_regDW fun U u all hall => ?_; refine xd_id ?_; (try simp only [List.toList_toArray, List.map_cons, List.map_nil, List.size_toArray, List.length_cons, List.length_nil, Nat.zero_add]); (try simp only [Nat.reduceAdd]); obtain ⟨x45, bx45, h0⟩ := bnd h0; (iterate 3 ((try simp only [go_sem]); try simp only [Nat.reduceAdd])); (refine xcallD_p (math_bits_RotateLeft32_p a0.a3 9 bx45) ?_; try dsimp only); (try refine xd_id ?_); (iterate 3 ((try simp only [go_sem]); try simp only [Nat.reduceAdd])); refine And.intro ?_ (u _ _ (Wk.refl _ _ _) ?_)
  ·
   subst hall; clear u U; exact qP
  ·
   clear u U hall all; refine awp_nr [1,2,3,6] (fun _ => rfl) fun tz => ?_; refine awp_regDW fun U u all hall => ?_; refine xd_id ?_; (try simp only [List.toList_toArray, List.map_cons, List.map_nil, List.size_toArray, List.length_cons, List.length_nil, Nat.zero_add]); (try simp only [Nat.reduceAdd]); obtain ⟨x46, bx46, h0⟩ := bnd h0; (iterate 3 ((try simp only [go_sem]); try simp only [Nat.reduceAdd])); (refine xcallD_p (math_bits_RotateLeft32_p (IntKind.wrap .u32 ((IntKind.wrap .u32 (a0.a2 + (bxor .u32 x45 a2))) + a1)) 13 bx46) ?_; try dsimp only); (try refine xd_id ?_); (iterate 3 ((try simp only [go_sem]); try simp only [Nat.reduceAdd])); refine And.intro ?_ (u _ (cipher_Round_S1 a0 x44 a1 x46 a2 x45) (Wk.canonD [] [] [some 0, some 1] rfl trivial rfl (tmOC 1 (tmOC 0 tmO0 (e_A4vw_clean _)) (e_A4vw_clean _)) (tmAllU 6 (tmAllU 3 (tmAllU 2 tmAll0 (Tm.v _)) (Tm.ptr rfl)) (Tm.ptr rfl))) ?_)
   ·
    subst hall; clear u U; exact qP
   ·
    clear u U hall all; unfold cipher_Round_S1; refine awp_nr [2,3,6] (fun _ => rfl) fun tz => ?_; refine awp_regDW fun U u all hall => ?_; refine xd_id ?_; (try simp only [List.toList_toArray, List.map_cons, List.map_nil, List.size_toArray, List.length_cons, List.length_nil, Nat.zero_add]); (try simp only [Nat.reduceAdd]); obtain ⟨x47, bx47, h0⟩ := bnd h0; (iterate 3 ((try simp only [go_sem]); try simp only [Nat.reduceAdd])); (refine xcallD_p (math_bits_RotateLeft32_p (IntKind.wrap .u32 ((IntKind.wrap .u32 (a0.a0 + (bxor .u32 x44 a1))) + a2)) 19 bx47) ?_; try dsimp only); (try refine xd_id ?_); (iterate 3 ((try simp only [go_sem]); try simp only [Nat.reduceAdd])); refine And.intro ?_ (u _ _ (Wk.refl _ _ _) ?_)
    ·
     subst hall; clear u U; exact qP
    ·
     clear u U hall all; refine awp_nw [3,6] fun tz U u => ?_; (try simp only [go_sem]); refine qU u ?_; clear u U; refine awp_ret1 ?_; obtain rfl := someInj h0; refine endW_i ?_; refine end_ret0 rs51 qR ?_; exact qF
def cipher_Join_S0 (d46 : A16vu) : AS :=
 { objs := (upd (fun _ => .dead) 0 (.live (e_A16vu d46))), next := 1, tmps := (upd (fun _ => .unk) 2 (.ptr 0 0)) }

def cipher_Join_S1 (a0 : A4vw) (d47 : (A16vu × Int)) : AS :=
 { objs := (upd (upd (fun _ => .dead) 0 (.live (e_A4vw a0))) 1 (.live (e_A16vu d47.1))), next := 2, tmps := (upd (upd (upd (fun _ => .unk) 1 (.ptr 0 0)) 2 (.ptr 1 0)) 4 (vi d47.2)) }

theorem cipher_Join_p (a0 : A4vw) {r : A16vu} (h0 : cipher_Join a0 = some r) : SndP K 52 [(.agg (e_A4vw a0))] (.agg (e_A16vu r)) := by
 refine SndP.of_walkW hC (Clean.agg (e_A16vu_clean _)) (clean_cons (Clean.agg (e_A4vw_clean _)) clean_nil) (show K.P.funcs[52]? = some Try.f52 from Try.func52) rfl rfl (by decide +kernel) (Nat.le_of_ble_eq_true rfl) ?_; unfold cipher_Join at h0; refine awp_nw [0] fun tz U u => ?_; (try simp only [go_sem]); refine qU u ?_; clear u U; refine awp_assoc ?_; refine awp_nw [1,2] fun tz U u => ?_; (try simp only [go_sem]); refine qU u ?_; clear u U; obtain ⟨d46, hi1, h0⟩ := bnd h0; refine awp_cut (fun z => d46 = z) (fun d46 : A16vu => cipher_Join_S0 d46) ?_ ?_
 ·
  refine awp_block1 ?_; refine awp_loopS (fun n (d47 : (A16vu × Int)) => cipher_Join_L2 a0 n d47 = some d46) (fun d47 : (A16vu × Int) => cipher_Join_S1 a0 d47) big (A16vu.z, 0) (Wk.canonD [] [] [some 0, some 1] rfl trivial rfl (tmOC 1 (tmOC 0 tmO0 (e_A4vw_clean _)) (e_A16vu_clean _)) (tmAllU 4 (tmAllU 2 (tmAllU 1 tmAll0 (Tm.ptr rfl)) (Tm.ptr rfl)) (Tm.v _))) hi1 ?_; clear hi1; rintro n d47 hl3; rcases n with _ | n2
  ·
   (rw [cipher_Join_L2] at hl3; cases hl3)
  ·
   rw [cipher_Join_L2] at hl3; unfold cipher_Join_S1; refine awp_nw [1,2,4] fun tz U u => ?_; (try simp only [go_sem]); refine qU u ?_; clear u U; refine awp_cond (b := (decide (d47.2 < 16))) rfl (fun h4 => ?_) (fun h4 => ?_)
   ·
    have hl3 := cT hl3 h4; refine awp_skip ?_; refine awp_blockW ?_; refine awp_nw [1,2,4] fun tz U u => ?_; (try simp only [go_sem]); refine qU u ?_; clear u U; refine awp_nw1 [1,2,3,4] fun tz U u => ?_; obtain ⟨x48, bx48, hl3⟩ := bnd hl3; obtain ⟨fx48_0, fx48_1, fx48_2, fx48_3⟩ := idxA_some bx48; (have fx48_6 : (e_A4vw a0)[(IntKind.wrap .i64 ((d47.2).tdiv 4)).toNat]? = some (vw x48) := by show (List.map vw [a0.a0, a0.a1, a0.a2, a0.a3])[(IntKind.wrap .i64 ((d47.2).tdiv 4)).toNat]? = _; rw [List.getElem?_map, fx48_2]; rfl); obtain ⟨x49, bx49, hl3⟩ := bnd hl3; have bx49 := chk_some bx49; simp only [Bool.and_eq_true, decide_eq_true_eq] at bx49; have gx49_0 := bx49; obtain ⟨x50, bx50, hl3⟩ := bnd hl3; obtain ⟨fx50_0, fx50_1, fx50_2, fx50_3⟩ := idxA_some bx50; (have fx50_6 : (e_A16vu d47.1)[(d47.2).toNat]? = some (vu x50) := by show (List.map vu [d47.1.a0, d47.1.a1, d47.1.a2, d47.1.a3, d47.1.a4, d47.1.a5, d47.1.a6, d47.1.a7, d47.1.a8, d47.1.a9, d47.1.a10, d47.1.a11, d47.1.a12, d47.1.a13, d47.1.a14, d47.1.a15])[(d47.2).toNat]? = _; rw [List.getElem?_map, fx50_2]; rfl); (have gs5b : (d47.2).toNat < 16 := by have h0 := of_eq_true fx50_0; have h1 := of_eq_true fx50_1; omega); have gs5 : (e_A16vu d47.1).set ((d47.2).toNat) (vu (IntKind.wrap .u8 ((x48).fdiv (2 ^ (min ((IntKind.wrap .i64 (((d47.2).tmod 4) * 8))).toNat 32))))) = e_A16vu (d47.1.setA ((d47.2).toNat) (IntKind.wrap .u8 ((x48).fdiv (2 ^ (min ((IntKind.wrap .i64 (((d47.2).tmod 4) * 8))).toNat 32))))) := e_A16vu_setA _ _ gs5b; have gs5l : ((d47.2).toNat + 1 ≤ 16) = True := eq_true (by omega); (try simp only [go_sem, Int.reduceEq, fx48_0, fx48_1, fx48_6, gx49_0, fx50_0, fx50_1, fx50_6, gs5, gs5l]); refine u _ ?_; clear u U; refine bq_n ?_; refine seqW_i ?_; refine awp_nw1 [1,2,4] fun tz U u => ?_; (try simp only [go_sem, fx48_0, fx48_1, fx48_6, fx50_0, fx50_1, fx50_6]); refine u _ ?_; clear u U; refine lq_n ?_; exact ⟨n2, ((d47.1.setA ((d47.2).toNat) (IntKind.wrap .u8 ((x48).fdiv (2 ^ (min ((IntKind.wrap .i64 (((d47.2).tmod 4) * 8))).toNat 32))))), IntKind.wrap .i64 (d47.2 + 1)), rfl, hl3, (Wk.canonD [] [] [some 0, some 1] rfl trivial rfl (tmOC 1 (tmOC 0 tmO0 (e_A4vw_clean _)) (e_A16vu_clean _)) (tmAllU 4 (tmAllU 2 (tmAllU 1 tmAll0 (Tm.ptr rfl)) (Tm.ptr rfl)) (Tm.v _)))⟩
   ·
    have hl3 := cF hl3 h4; refine awp_exit ?_; refine lq_e ?_; refine bq_e ?_; refine sq_n ?_; obtain rfl := someInj hl3; exact ⟨_, rfl, (Wk.canonD [] [] [some 1] rfl trivial rfl (tmOC 0 tmO0 (e_A16vu_clean _)) (tmAllU 2 tmAll0 (Tm.ptr rfl)))⟩
 ·
  rintro _ rfl; clear hi1; unfold cipher_Join_S0; refine awp_nw [2] fun tz U u => ?_; (try simp only [go_sem]); refine qU u ?_; clear u U; refine awp_ret1 ?_; obtain rfl := someInj h0; refine endW_i ?_; refine end_ret0 rs52 qR ?_; exact qF
def cipher_Encrypt_S0 (a1 : A16vu) (x27 : A36vw) : AS :=
 { objs := (upd (upd (upd (fun _ => .dead) 0 (.live (e_A16vu a1))) 1 (.live (e_A16vu A16vu.z))) 2 (.live (e_A36vw x27))), next := 3, tmps := (upd (upd (upd (fun _ => .unk) 3 (.ptr 0 0)) 4 (.ptr 1 0)) 5 (.ptr 2 0)) }

def cipher_Encrypt_S1 (x27 : A36vw) (x29 : A4vw) : AS :=
 { objs := (upd (upd (upd (fun _ => .dead) 0 (.live (e_A16vu A16vu.z))) 1 (.live (e_A36vw x27))) 2 (.live (e_A4vw x29))), next := 3, tmps := (upd (upd (upd (fun _ => .unk) 4 (.ptr 0 0)) 5 (.ptr 1 0)) 6 (.ptr 2 0)) }

def cipher_Encrypt_S2 (d30 : A4vw) : AS :=
 { objs := (upd (upd (fun _ => .dead) 0 (.live (e_A16vu A16vu.z))) 1 (.live (e_A4vw d30))), next := 2, tmps := (upd (upd (fun _ => .unk) 4 (.ptr 0 0)) 6 (.ptr 1 0)) }

def cipher_Encrypt_S3 (x27 : A36vw) (d31 : (A4vw × Int)) : AS :=
 { objs := (upd (upd (upd (fun _ => .dead) 0 (.live (e_A16vu A16vu.z))) 1 (.live (e_A36vw x27))) 2 (.live (e_A4vw d31.1))), next := 3, tmps := (upd (upd (upd (upd (fun _ => .unk) 4 (.ptr 0 0)) 5 (.ptr 1 0)) 6 (.ptr 2 0)) 14 (vi d31.2)) }

theorem cipher_Encrypt_p (a0 : A16vu) (a1 : A16vu) {r : A16vu} (h0 : cipher_Encrypt a0 a1 = some r) : SndP K 41 [(.agg (e_A16vu a0)), (.agg (e_A16vu a1))] (.agg (e_A16vu r)) := by
 refine SndP.of_walkW hC (Clean.agg (e_A16vu_clean _)) (clean_cons (Clean.agg (e_A16vu_clean _)) (clean_cons (Clean.agg (e_A16vu_clean _)) clean_nil)) (show K.P.funcs[41]? = some Try.f41 from Try.func41) rfl rfl (by decide +kernel) (Nat.le_of_ble_eq_true rfl) ?_; unfold cipher_Encrypt at h0; refine awp_nw [0,1] fun tz U u => ?_; (try simp only [go_sem]); refine qU u ?_; clear u U; refine awp_nw [2,3,4] fun tz U u => ?_; obtain ⟨x27, bx27, h0⟩ := bnd h0; (try simp only [go_sem]); (refine xcall_p (cipher_Schedule_p a0 bx27) ?_; try dsimp only); (try refine xw_id ?_); (try simp only [go_sem]); refine u _ (cipher_Encrypt_S0 a1 x27) (Wk.canonD [] [] [some 1, some 2, some 5] rfl trivial rfl (tmOC 2 (tmOC 1 (tmOC 0 tmO0 (e_A16vu_clean _)) (e_A16vu_clean _)) (e_A36vw_clean _)) (tmAllU 5 (tmAllU 4 (tmAllU 3 tmAll0 (Tm.ptr rfl)) (Tm.ptr rfl)) (Tm.ptr rfl))) ?_; clear u U; unfold cipher_Encrypt_S0; refine awp_nr [3,4,5] (fun _ => rfl) fun tz => ?_; refine awp_regDW fun U u all hall => ?_; refine xd_id ?_; (try simp only [List.toList_toArray, List.map_cons, List.map_nil, List.size_toArray, List.length_cons, List.length_nil, Nat.zero_add]); (try simp only [Nat.reduceAdd]); obtain ⟨x28, bx28, h0⟩ := bnd h0; (iterate 3 ((try simp only [go_sem, -Nat.reduceAdd]); try simp only [Nat.reduceAdd])); (refine xcallD_p (cipher_Words_p a1 bx28) ?_; try dsimp only); (try refine xd_id ?_); obtain ⟨x29, bx29, h0⟩ := bnd h0; (iterate 3 ((try simp only [go_sem, -Nat.reduceAdd]); try simp only [Nat.reduceAdd])); (refine xcallD_p (cipher_mask_p x28 x27 bx29) ?_; try dsimp only); (try refine xd_id ?_); (iterate 3 ((try simp only [go_sem, -Nat.reduceAdd]); try simp only [Nat.reduceAdd])); refine And.intro ?_ (u _ (cipher_Encrypt_S1 x27 x29) (Wk.canonD [] [] [some 1, some 2, some 7] rfl trivial rfl (tmOC 2 (tmOC 1 (tmOC 0 tmO0 (e_A16vu_clean _)) (e_A36vw_clean _)) (e_A4vw_clean _)) (tmAllU 6 (tmAllU 5 (tmAllU 4 tmAll0 (Tm.ptr rfl)) (Tm.ptr rfl)) (Tm.ptr rfl))) ?_)
 ·
  subst hall; clear u U; exact qP
 ·
  clear u U hall all; unfold cipher_Encrypt_S1; refine awp_assoc ?_; refine awp_nw [4,5,6] fun tz U u => ?_; (try simp only [go_sem]); refine qU u ?_; clear u U; obtain ⟨d30, hi1, h0⟩ := bnd h0; refine awp_cut (fun z => d30 = z) (fun d30 : A4vw => cipher_Encrypt_S2 d30) ?_ ?_
  ·
   refine awp_block1 ?_; refine awp_loopS (fun n (d31 : (A4vw × Int)) => cipher_Encrypt_L4 x27 a0 a1 n d31 = some d30) (fun d31 : (A4vw × Int) => cipher_Encrypt_S3 x27 d31) big (x29, 0) (Wk.canonD [] [] [some 0, some 1, some 2] rfl trivial rfl (tmOC 2 (tmOC 1 (tmOC 0 tmO0 (e_A16vu_clean _)) (e_A36vw_clean _)) (e_A4vw_clean _)) (tmAllU 14 (tmAllU 6 (tmAllU 5 (tmAllU 4 tmAll0 (Tm.ptr rfl)) (Tm.ptr rfl)) (Tm.ptr rfl)) (Tm.v _))) hi1 ?_; clear hi1; rintro n d31 hl3; rcases n with _ | n2
   ·
    (rw [cipher_Encrypt_L4] at hl3; cases hl3)
   ·
    rw [cipher_Encrypt_L4] at hl3; unfold cipher_Encrypt_S3; refine awp_nw [4,5,6,14] fun tz U u => ?_; (try simp only [go_sem]); refine qU u ?_; clear u U; refine awp_cond (b := (decide (d31.2 < 16))) rfl (fun h4 => ?_) (fun h4 => ?_)
    ·
     have hl3 := cT hl3 h4; refine awp_skip ?_; refine awp_blockW ?_; refine awp_nw [4,5,6,14] fun tz U u => ?_; (try simp only [go_sem]); refine qU u ?_; clear u U; refine awp_nr1 [4,5,6,7,14] (fun _ => rfl) fun tz => ?_; refine awp_regD1 fun U u all hall => ?_; refine xd_id ?_; (try simp only [List.toList_toArray, List.map_cons, List.map_nil, List.size_toArray, List.length_cons, List.length_nil, Nat.zero_add]); (try simp only [Nat.reduceAdd]); obtain ⟨x32, bx32, hl3⟩ := bnd hl3; obtain ⟨fx32_0, fx32_1, fx32_2, fx32_3⟩ := idxA_some bx32; (have fx32_6 : (e_A36vw x27)[(IntKind.wrap .i64 (4 + (IntKind.wrap .i64 (2 * d31.2)))).toNat]? = some (vw x32) := by show (List.map vw [x27.a0, x27.a1, x27.a2, x27.a3, x27.a4, x27.a5, x27.a6, x27.a7, x27.a8, x27.a9, x27.a10, x27.a11, x27.a12, x27.a13, x27.a14, x27.a15, x27.a16, x27.a17, x27.a18, x27.a19, x27.a20, x27.a21, x27.a22, x27.a23, x27.a24, x27.a25, x27.a26, x27.a27, x27.a28, x27.a29, x27.a30, x27.a31, x27.a32, x27.a33, x27.a34, x27.a35])[(IntKind.wrap .i64 (4 + (IntKind.wrap .i64 (2 * d31.2)))).toNat]? = _; rw [List.getElem?_map, fx32_2]; rfl); obtain ⟨x33, bx33, hl3⟩ := bnd hl3; obtain ⟨fx33_0, fx33_1, fx33_2, fx33_3⟩ := idxA_some bx33; (have fx33_6 : (e_A36vw x27)[(IntKind.wrap .i64 (5 + (IntKind.wrap .i64 (2 * d31.2)))).toNat]? = some (vw x33) := by show (List.map vw [x27.a0, x27.a1, x27.a2, x27.a3, x27.a4, x27.a5, x27.a6, x27.a7, x27.a8, x27.a9, x27.a10, x27.a11, x27.a12, x27.a13, x27.a14, x27.a15, x27.a16, x27.a17, x27.a18, x27.a19, x27.a20, x27.a21, x27.a22, x27.a23, x27.a24, x27.a25, x27.a26, x27.a27, x27.a28, x27.a29, x27.a30, x27.a31, x27.a32, x27.a33, x27.a34, x27.a35])[(IntKind.wrap .i64 (5 + (IntKind.wrap .i64 (2 * d31.2)))).toNat]? = _; rw [List.getElem?_map, fx33_2]; rfl); obtain ⟨x34, bx34, hl3⟩ := bnd hl3; (iterate 3 ((try simp only [go_sem, -Nat.reduceAdd, fx32_0, fx32_1, fx32_6, fx33_0, fx33_1, fx33_6]); try simp only [Nat.reduceAdd])); (refine xcallD_p (cipher_Round_p d31.1 x32 x33 bx34) ?_; try dsimp only); (try refine xd_id ?_); (iterate 3 ((try simp only [go_sem, -Nat.reduceAdd, fx32_0, fx32_1, fx32_6, fx33_0, fx33_1, fx33_6]); try simp only [Nat.reduceAdd])); refine And.intro ?_ (u _ ?_)
     ·
      subst hall; clear u U; exact qP
     ·
      clear u U hall all; refine bq_n ?_; refine seqW_i ?_; refine awp_nw1 [4,5,6,14] fun tz U u => ?_; (try simp only [go_sem, fx32_0, fx32_1, fx32_6, fx33_0, fx33_1, fx33_6]); refine u _ ?_; clear u U; refine lq_n ?_; exact ⟨n2, (x34, IntKind.wrap .i64 (d31.2 + 1)), rfl, hl3, (Wk.canonD [] [] [some 0, some 1, some 2] rfl trivial rfl (tmOC 2 (tmOC 1 (tmOC 0 tmO0 (e_A16vu_clean _)) (e_A36vw_clean _)) (e_A4vw_clean _)) (tmAllU 14 (tmAllU 6 (tmAllU 5 (tmAllU 4 tmAll0 (Tm.ptr rfl)) (Tm.ptr rfl)) (Tm.ptr rfl)) (Tm.v _)))⟩
    ·
     have hl3 := cF hl3 h4; refine awp_exit ?_; refine lq_e ?_; refine bq_e ?_; refine sq_n ?_; obtain rfl := someInj hl3; exact ⟨_, rfl, (Wk.canonD [] [] [some 0, some 2] rfl trivial rfl (tmOC 1 (tmOC 0 tmO0 (e_A16vu_clean _)) (e_A4vw_clean _)) (tmAllU 6 (tmAllU 4 tmAll0 (Tm.ptr rfl)) (Tm.ptr rfl)))⟩
  ·
   rintro _ rfl; clear hi1; unfold cipher_Encrypt_S2; refine awp_nw [4,6] fun tz U u => ?_; obtain ⟨x35, bx35, h0⟩ := bnd h0; (try simp only [go_sem]); (refine xcall_p (cipher_Join_p d30 bx35) ?_; try dsimp only); (try refine xw_id ?_); (try simp only [go_sem]); refine qU u ?_; clear u U; refine awp_ret1 ?_; obtain rfl := someInj h0; refine endW_i ?_; refine end_ret0 rs41 qR ?_; exact qF
def derive_Mac_S0 (a0 : A16vu) (a1 : (List Int)) : AS :=
 { objs := (upd (upd (upd (fun _ => .dead) 0 (.live (e_A16vu a0))) 1 (.live (e_A16vu A16vu.z))) 2 (.live (e_A16vu { A16vu.z with a0 := 3 }))), next := 3, tmps := (upd (upd (upd (upd (fun _ => .unk) 1 (.imm (List.map vu a1) a1.length)) 2 (.ptr 0 0)) 4 (.ptr 1 0)) 5 (.ptr 2 0)) }

def derive_Mac_S1 (a0 : A16vu) (a1 : (List Int)) (d23 : A16vu) : AS :=
 { objs := (upd (upd (upd (fun _ => .dead) 0 (.live (e_A16vu a0))) 1 (.live (e_A16vu A16vu.z))) 2 (.live (e_A16vu d23))), next := 3, tmps := (upd (upd (upd (upd (fun _ => .unk) 1 (.imm (List.map vu a1) a1.length)) 2 (.ptr 0 0)) 4 (.ptr 1 0)) 5 (.ptr 2 0)) }

def derive_Mac_S2 (a0 : A16vu) (a1 : (List Int)) (d24 : (A16vu × Int)) : AS :=
 { objs := (upd (upd (upd (fun _ => .dead) 0 (.live (e_A16vu a0))) 1 (.live (e_A16vu A16vu.z))) 2 (.live (e_A16vu d24.1))), next := 3, tmps := (upd (upd (upd (upd (upd (fun _ => .unk) 1 (.imm (List.map vu a1) a1.length)) 2 (.ptr 0 0)) 4 (.ptr 1 0)) 5 (.ptr 2 0)) 10 (vi d24.2)) }

def derive_Mac_S4 (d28 : A16vu) : AS :=
 { objs := (upd (upd (fun _ => .dead) 0 (.live (e_A16vu A16vu.z))) 1 (.live (e_A16vu d28))), next := 2, tmps := (upd (upd (fun _ => .unk) 4 (.ptr 0 0)) 5 (.ptr 1 0)) }

def derive_Mac_S5 (a0 : A16vu) (a1 : (List Int)) (d29 : (A16vu × Int)) : AS :=
 { objs := (upd (upd (upd (fun _ => .dead) 0 (.live (e_A16vu a0))) 1 (.live (e_A16vu A16vu.z))) 2 (.live (e_A16vu d29.1))), next := 3, tmps := (upd (upd (upd (upd (upd (upd (upd (fun _ => .unk) 1 (.imm (List.map vu a1) a1.length)) 2 (.ptr 0 0)) 4 (.ptr 1 0)) 5 (.ptr 2 0)) 26 (.imm (List.map vu a1) a1.length)) 27 (vi (a1.length : Int))) 28 (vi d29.2)) }

theorem derive_Mac_p (a0 : A16vu) (a1 : (List Int)) {r : A16vu} (h0 : derive_Mac a0 a1 = some r) : SndP K 32 [(.agg (e_A16vu a0)), (S_vu a1)] (.agg (e_A16vu r)) := by
 refine SndP.of_walkW hC (Clean.agg (e_A16vu_clean _)) (clean_cons (Clean.agg (e_A16vu_clean _)) (clean_cons (S_vu_clean _) clean_nil)) (show K.P.funcs[32]? = some Try.f32 from Try.func32) rfl rfl (by decide +kernel) (Nat.le_of_ble_eq_true rfl) ?_; unfold derive_Mac at h0; refine awp_nw [0,1] fun tz U u => ?_; (try simp only [go_sem]); refine qU u ?_; clear u U; refine awp_nw [1,2,4] fun tz U u => ?_; (try simp only [go_sem]); refine u _ (derive_Mac_S0 a0 a1) (Wk.canonD [] [] [some 0, some 1, some 3] rfl trivial rfl (tmOC 2 (tmOC 1 (tmOC 0 tmO0 (e_A16vu_clean _)) (e_A16vu_clean _)) (e_A16vu_clean _)) (tmAllU 5 (tmAllU 4 (tmAllU 2 (tmAllU 1 tmAll0 (Tm.clean (Clean.imm (vu_clean _)))) (Tm.ptr rfl)) (Tm.ptr rfl)) (Tm.ptr rfl))) ?_; clear u U; unfold derive_Mac_S0; refine awp_assoc ?_; refine awp_nw [1,2,4,5] fun tz U u => ?_; (try simp only [go_sem]); refine qU u ?_; clear u U; obtain ⟨d23, hi1, h0⟩ := bnd h0; refine awp_cut (fun z => d23 = z) (fun d23 : A16vu => derive_Mac_S1 a0 a1 d23) ?_ ?_
 ·
  refine awp_block1 ?_; refine awp_loopS (fun n (d24 : (A16vu × Int)) => derive_Mac_L3 a0 a1 n d24 = some d23) (fun d24 : (A16vu × Int) => derive_Mac_S2 a0 a1 d24) big ({ A16vu.z with a0 := 3 }, 0) (Wk.canonD [] [] [some 0, some 1, some 2] rfl trivial rfl (tmOC 2 (tmOC 1 (tmOC 0 tmO0 (e_A16vu_clean _)) (e_A16vu_clean _)) (e_A16vu_clean _)) (tmAllU 10 (tmAllU 5 (tmAllU 4 (tmAllU 2 (tmAllU 1 tmAll0 (Tm.clean (Clean.imm (vu_clean _)))) (Tm.ptr rfl)) (Tm.ptr rfl)) (Tm.ptr rfl)) (Tm.v _))) hi1 ?_; clear hi1; rintro n d24 hl3; rcases n with _ | n2
  ·
   (rw [derive_Mac_L3] at hl3; cases hl3)
  ·
   rw [derive_Mac_L3] at hl3; unfold derive_Mac_S2; refine awp_nw [1,2,4,5,10] fun tz U u => ?_; (try simp only [go_sem]); refine qU u ?_; clear u U; refine awp_cond (b := (decide (d24.2 < 8))) rfl (fun h4 => ?_) (fun h4 => ?_)
   ·
    have hl3 := cT hl3 h4; refine awp_skip ?_; refine awp_blockW ?_; refine awp_nw [1,2,4,5,10] fun tz U u => ?_; (try simp only [go_sem]); refine qU u ?_; clear u U; refine awp_nw1 [1,2,4,5,6,10] fun tz U u => ?_; obtain ⟨x25, bx25, hl3⟩ := bnd hl3; have bx25 := chk_some bx25; simp only [Bool.and_eq_true, decide_eq_true_eq] at bx25; have gx25_0 := bx25; obtain ⟨x26, bx26, hl3⟩ := bnd hl3; obtain ⟨fx26_0, fx26_1, fx26_2, fx26_3⟩ := idxA_some bx26; (have fx26_6 : (e_A16vu d24.1)[(IntKind.wrap .i64 (1 + d24.2)).toNat]? = some (vu x26) := by show (List.map vu [d24.1.a0, d24.1.a1, d24.1.a2, d24.1.a3, d24.1.a4, d24.1.a5, d24.1.a6, d24.1.a7, d24.1.a8, d24.1.a9, d24.1.a10, d24.1.a11, d24.1.a12, d24.1.a13, d24.1.a14, d24.1.a15])[(IntKind.wrap .i64 (1 + d24.2)).toNat]? = _; rw [List.getElem?_map, fx26_2]; rfl); (have gs5b : (IntKind.wrap .i64 (1 + d24.2)).toNat < 16 := by have h0 := of_eq_true fx26_0; have h1 := of_eq_true fx26_1; omega); have gs5 : (e_A16vu d24.1).set ((IntKind.wrap .i64 (1 + d24.2)).toNat) (vu (IntKind.wrap .u8 (((a1.length : Int)).fdiv (2 ^ (min ((IntKind.wrap .i64 (8 * d24.2))).toNat 64))))) = e_A16vu (d24.1.setA ((IntKind.wrap .i64 (1 + d24.2)).toNat) (IntKind.wrap .u8 (((a1.length : Int)).fdiv (2 ^ (min ((IntKind.wrap .i64 (8 * d24.2))).toNat 64))))) := e_A16vu_setA _ _ gs5b; have gs5l : ((IntKind.wrap .i64 (1 + d24.2)).toNat + 1 ≤ 16) = True := eq_true (by omega); (try simp only [go_sem, gx25_0, fx26_0, fx26_1, fx26_6, gs5, gs5l]); refine u _ ?_; clear u U; refine bq_n ?_; refine seqW_i ?_; refine awp_nw1 [1,2,4,5,10] fun tz U u => ?_; (try simp only [go_sem, fx26_0, fx26_1, fx26_6]); refine u _ ?_; clear u U; refine lq_n ?_; exact ⟨n2, ((d24.1.setA ((IntKind.wrap .i64 (1 + d24.2)).toNat) (IntKind.wrap .u8 (((a1.length : Int)).fdiv (2 ^ (min ((IntKind.wrap .i64 (8 * d24.2))).toNat 64))))), IntKind.wrap .i64 (d24.2 + 1)), rfl, hl3, (Wk.canonD [] [] [some 0, some 1, some 2] rfl trivial rfl (tmOC 2 (tmOC 1 (tmOC 0 tmO0 (e_A16vu_clean _)) (e_A16vu_clean _)) (e_A16vu_clean _)) (tmAllU 10 (tmAllU 5 (tmAllU 4 (tmAllU 2 (tmAllU 1 tmAll0 (Tm.clean (Clean.imm (vu_clean _)))) (Tm.ptr rfl)) (Tm.ptr rfl)) (Tm.ptr rfl)) (Tm.v _)))⟩
   ·
    have hl3 := cF hl3 h4; refine awp_exit ?_; refine lq_e ?_; refine bq_e ?_; refine sq_n ?_; obtain rfl := someInj hl3; exact ⟨_, rfl, (Wk.canonD [] [] [some 0, some 1, some 2] rfl trivial rfl (tmOC 2 (tmOC 1 (tmOC 0 tmO0 (e_A16vu_clean _)) (e_A16vu_clean _)) (e_A16vu_clean _)) (tmAllU 5 (tmAllU 4 (tmAllU 2 (tmAllU 1 tmAll0 (Tm.clean (Clean.imm (vu_clean _)))) (Tm.ptr rfl)) (Tm.ptr rfl)) (Tm.ptr rfl)))⟩
 ·
  rintro _ rfl; clear hi1; unfold derive_Mac_S1; refine awp_nw [1,2,4,5] fun tz U u => ?_; obtain ⟨x27, bx27, h0⟩ := bnd h0; (try simp only [go_sem]); (refine xcall_p (cipher_Encrypt_p a0 d23 bx27) ?_; try dsimp only); (try refine xw_id ?_); (try simp only [go_sem]); refine qU u ?_; clear u U; refine awp_assoc ?_; refine awp_nw [1,2,4,5] fun tz U u => ?_; (try simp only [go_sem]); refine qU u ?_; clear u U; obtain ⟨d28, hi6, h0⟩ := bnd h0; refine awp_cut (fun z => d28 = z) (fun d28 : A16vu => derive_Mac_S4 d28) ?_ ?_
  ·
   refine awp_block1 ?_; refine awp_loopS (fun n (d29 : (A16vu × Int)) => derive_Mac_L6 a1 a0 n d29 = some d28) (fun d29 : (A16vu × Int) => derive_Mac_S5 a0 a1 d29) big (x27, 0) (Wk.canonD [] [] [some 0, some 1, some 2] rfl trivial rfl (tmOC 2 (tmOC 1 (tmOC 0 tmO0 (e_A16vu_clean _)) (e_A16vu_clean _)) (e_A16vu_clean _)) (tmAllU 28 (tmAllU 27 (tmAllU 26 (tmAllU 5 (tmAllU 4 (tmAllU 2 (tmAllU 1 tmAll0 (Tm.clean (Clean.imm (vu_clean _)))) (Tm.ptr rfl)) (Tm.ptr rfl)) (Tm.ptr rfl)) (Tm.clean (Clean.imm (vu_clean _)))) (Tm.v _)) (Tm.v _))) hi6 ?_; clear hi6; rintro n d29 hl8; rcases n with _ | n7
   ·
    (rw [derive_Mac_L6] at hl8; cases hl8)
   ·
    rw [derive_Mac_L6] at hl8; unfold derive_Mac_S5; refine awp_nw [1,2,4,5,26,27,28] fun tz U u => ?_; (try simp only [go_sem]); refine qU u ?_; clear u U; refine awp_cond (b := (decide (d29.2 < (a1.length : Int)))) rfl (fun h9 => ?_) (fun h9 => ?_)
    ·
     have hl8 := cT hl8 h9; refine awp_skip ?_; refine awp_blockW ?_; refine awp_nw [1,2,4,5,26,27,28] fun tz U u => ?_; obtain ⟨x30, bx30, hl8⟩ := bnd hl8; obtain ⟨fx30_0, fx30_1, fx30_2, fx30_3⟩ := idx_some bx30; (try simp only [go_sem, fx30_0, fx30_1, fx30_2]); refine qU u ?_; clear u U; refine awp_nw [1,2,4,5,7,8,26,27,28] fun tz U u => ?_; obtain ⟨x31, bx31, hl8⟩ := bnd hl8; obtain ⟨fx31_0, fx31_1, fx31_2, fx31_3⟩ := idxA_some bx31; (have fx31_6 : (e_A16vu d29.1)[((d29.2).tmod 16).toNat]? = some (vu x31) := by show (List.map vu [d29.1.a0, d29.1.a1, d29.1.a2, d29.1.a3, d29.1.a4, d29.1.a5, d29.1.a6, d29.1.a7, d29.1.a8, d29.1.a9, d29.1.a10, d29.1.a11, d29.1.a12, d29.1.a13, d29.1.a14, d29.1.a15])[((d29.2).tmod 16).toNat]? = _; rw [List.getElem?_map, fx31_2]; rfl); (have gs10b : ((d29.2).tmod 16).toNat < 16 := by have h0 := of_eq_true fx31_0; have h1 := of_eq_true fx31_1; omega); have gs10 : (e_A16vu d29.1).set (((d29.2).tmod 16).toNat) (vu (bxor .u8 x31 x30)) = e_A16vu (d29.1.setA (((d29.2).tmod 16).toNat) (bxor .u8 x31 x30)) := e_A16vu_setA _ _ gs10b; have gs10l : (((d29.2).tmod 16).toNat + 1 ≤ 16) = True := eq_true (by omega); (try simp only [go_sem, fx30_0, fx30_1, fx30_2, Int.reduceEq, fx31_0, fx31_1, fx31_6, gs10, gs10l]); refine qU u ?_; clear u U; refine awp_nw [1,2,4,5,7,26,27,28] fun tz U u => ?_; refine xw_stop 4 qS qS (by rfl) fun V v => ?_; refine xw_id ?_; (try simp only [go_sem, fx30_0, fx30_1, fx30_2, fx31_0, fx31_1, fx31_6, Int.reduceEq]); refine v _ ?_; clear v V; refine xw_cut 6 [(1, (.imm (List.map vu a1) a1.length)), (2, (.ptr 0 0)), (4, (.ptr 1 0)), (5, (.ptr 2 0)), (26, (.imm (List.map vu a1) a1.length)), (27, (vi (a1.length : Int))), (28, (vi d29.2)), (49, (vb ((((d29.2).tmod 16) == 15) || (d29.2 == (IntKind.wrap .i64 ((a1.length : Int) - 1))))))] qS qS (by rfl) (fun V v => ?_) fun tz => ?_
     ·
      refine xw_id ?_; rcases Bool.eq_false_or_eq_true (((d29.2).tmod 16) == 15) with h11 | h11
      ·
       (try simp only [go_sem, fx30_0, fx30_1, fx30_2, fx31_0, fx31_1, fx31_6, Int.reduceEq, h11]); exact v _ ⟨rfl, rfl, rfl, rfl, rfl, rfl, rfl, rfl, (qB h11), trivial⟩
      ·
       (try simp only [go_sem, fx30_0, fx30_1, fx30_2, fx31_0, fx31_1, fx31_6, Int.reduceEq, h11]); exact v _ ⟨rfl, rfl, rfl, rfl, rfl, rfl, rfl, rfl, (qB h11), trivial⟩
     ·
      refine xw_id ?_; (try simp only [go_sem, fx30_0, fx30_1, fx30_2, fx31_0, fx31_1, fx31_6, Int.reduceEq]); refine qU u ?_; clear u U; refine awp_cond1 (b := ((((d29.2).tmod 16) == 15) || (d29.2 == (IntKind.wrap .i64 ((a1.length : Int) - 1))))) rfl (fun h12 => ?_) (fun h12 => ?_)
      ·
       have hl8 := cT hl8 h12; refine awp_nw1 [1,2,4,5,26,27,28] fun tz U u => ?_; obtain ⟨x32, bx32, hl8⟩ := bnd hl8; (try simp only [go_sem, fx30_0, fx30_1, fx30_2, fx31_0, fx31_1, fx31_6]); (refine xcall_p (cipher_Encrypt_p a0 (d29.1.setA (((d29.2).tmod 16).toNat) (bxor .u8 x31 x30)) bx32) ?_; try dsimp only); (try refine xw_id ?_); (try simp only [go_sem, fx30_0, fx30_1, fx30_2, fx31_0, fx31_1, fx31_6]); refine u _ ?_; clear u U; refine bq_n ?_; refine seqW_i ?_; refine awp_nw1 [1,2,4,5,26,27,28] fun tz U u => ?_; (try simp only [go_sem, fx30_0, fx30_1, fx30_2, fx31_0, fx31_1, fx31_6]); refine u _ ?_; clear u U; refine lq_n ?_; exact ⟨n7, (x32, IntKind.wrap .i64 (d29.2 + 1)), rfl, hl8, (Wk.canonD [] [] [some 0, some 1, some 2] rfl trivial rfl (tmOC 2 (tmOC 1 (tmOC 0 tmO0 (e_A16vu_clean _)) (e_A16vu_clean _)) (e_A16vu_clean _)) (tmAllU 28 (tmAllU 27 (tmAllU 26 (tmAllU 5 (tmAllU 4 (tmAllU 2 (tmAllU 1 tmAll0 (Tm.clean (Clean.imm (vu_clean _)))) (Tm.ptr rfl)) (Tm.ptr rfl)) (Tm.ptr rfl)) (Tm.clean (Clean.imm (vu_clean _)))) (Tm.v _)) (Tm.v _)))⟩
      ·
       have hl8 := cF hl8 h12; refine awp_skip1 ?_; refine bq_n ?_; refine seqW_i ?_; refine awp_nw1 [1,2,4,5,26,27,28] fun tz U u => ?_; (try simp only [go_sem, fx30_0, fx30_1, fx30_2, fx31_0, fx31_1, fx31_6]); refine u _ ?_; clear u U; refine lq_n ?_; exact ⟨n7, ((d29.1.setA (((d29.2).tmod 16).toNat) (bxor .u8 x31 x30)), IntKind.wrap .i64 (d29.2 + 1)), rfl, hl8, (Wk.canonD [] [] [some 0, some 1, some 2] rfl trivial rfl (tmOC 2 (tmOC 1 (tmOC 0 tmO0 (e_A16vu_clean _)) (e_A16vu_clean _)) (e_A16vu_clean _)) (tmAllU 28 (tmAllU 27 (tmAllU 26 (tmAllU 5 (tmAllU 4 (tmAllU 2 (tmAllU 1 tmAll0 (Tm.clean (Clean.imm (vu_clean _)))) (Tm.ptr rfl)) (Tm.ptr rfl)) (Tm.ptr rfl)) (Tm.clean (Clean.imm (vu_clean _)))) (Tm.v _)) (Tm.v _)))⟩
    ·
     have hl8 := cF hl8 h9; refine awp_exit ?_; refine lq_e ?_; refine bq_e ?_; refine sq_n ?_; obtain rfl := someInj hl8; exact ⟨_, rfl, (Wk.canonD [] [] [some 1, some 2] rfl trivial rfl (tmOC 1 (tmOC 0 tmO0 (e_A16vu_clean _)) (e_A16vu_clean _)) (tmAllU 5 (tmAllU 4 tmAll0 (Tm.ptr rfl)) (Tm.ptr rfl)))⟩
  ·
   rintro _ rfl; clear hi6; unfold derive_Mac_S4; refine awp_nw [4,5] fun tz U u => ?_; (try simp only [go_sem]); refine qU u ?_; clear u U; refine awp_ret1 ?_; obtain rfl := someInj h0; refine endW_i ?_; refine end_ret0 rs32 qR ?_; exact qF
def groupkey_signed_S0 (a1 : List Int) (x23 : A16vu) : AS :=
 { objs := (upd (upd (fun _ => .dead) 0 (.live (List.map vu a1))) 1 (.live (e_A16vu x23))), next := 2, tmps := (upd (upd (fun _ => .unk) 0 (.ref 0 0 a1.length 1)) 5 (.ptr 1 0)) }

theorem groupkey_signed_io (a0 : A16vu) (a1 : List Int) {r : (List Int)} (h0 : groupkey_signed a0 a1 = some r) : SndIO K 18 1 (fun q => [(.ref (q 0) 0 a1.length 1), (.agg (e_A16vu a0))]) [(fun q => (List.map vu a1))] (fun q => (.ref (q 1) 0 ((r).length) 1)) [none, (some (fun q => (List.map vu r)))] := by
 refine SndIO.of_walkW hC (RenML.cons (RenM.ref 0 0 _ _) (RenML.cons (RenM.const (Clean.agg (e_A16vu_clean _))) RenML.nil)) (tpl_cons (RenML.const (vu_clean _)) tpl_nil) (otpl_none (otpl_some (RenML.const (vu_clean _)) otpl_nil)) (RenM.ref 1 0 _ _) rfl (Nat.le_of_ble_eq_true rfl) (show K.P.funcs[18]? = some Try.f18 from Try.func18) rfl rfl (by decide +kernel) (Nat.le_of_ble_eq_true rfl) ?_; unfold groupkey_signed at h0; refine awp_nw [0,1] fun tz U u => ?_; (try simp only [go_sem]); refine qU u ?_; clear u U; refine awp_nw [0,3] fun tz U u => ?_; obtain ⟨x23, bx23, h0⟩ := bnd h0; (try simp only [go_sem]); (refine xcall_L (by first | (simp only [go_sem, fz] <;> rfl) | (simp only [go_sem, fz, List.length_set, ble_self, take_set, cond_true, cond_false] <;> rfl)) (derive_Mac_p a0 a1 bx23) (bare_ok (by rfl)) ?_; try dsimp only); (try refine xw_id ?_); (try simp only [go_sem]); refine u _ (groupkey_signed_S0 a1 x23) (by refine Wk.canonD [] [] [some 0, some 6] rfl trivial rfl (tmOC 1 (tmOE 0 tmO0 (vu_clean _)) (e_A16vu_clean _)) (tmAllU 5 (tmAllU 0 tmAll0 (Tm.refL rfl ?_)) (Tm.ptr rfl)); all_goals (first | rfl | (simp only [List.length_append, List.length_take, List.length_drop, List.length_cons, List.length_nil, List.length_modify, List.length_set, Nat.zero_add] <;> omega) | omega)) ?_; clear u U; unfold groupkey_signed_S0; refine awp_nw [0,5] fun tz U u => ?_; obtain ⟨x24, bx24, h0⟩ := bnd h0; have bx24 := chk_some bx24; simp only [Bool.and_eq_true, decide_eq_true_eq] at bx24; have gx24_0 := bx24; (try simp only [List.cons_append, List.nil_append, List.length_append, List.length_cons, List.length_nil, Nat.zero_add, Nat.reduceAdd, Nat.add_assoc, Nat.reduceLeDiff] at gx24_0); (try simp only [go_sem, Int.sub_zero, gx24_0, List.length_append, vu_len]); refine qU u ?_; clear u U; refine awp_ret1 ?_; obtain rfl := someInj h0; refine endW_i ?_; refine end_ret0 rs18 (rfl) ?_; refine ResIO.mk [] [some 0, some 4] rfl (resED (resEU List.not_mem_nil rfl (TmL.of_eq qL (vu_clean _)) resE0)) (Tm.refL rfl ?_); (all_goals (first | rfl | (simp only [List.length_append, List.length_take, List.length_drop, List.length_cons, List.length_nil, List.length_modify, List.length_set, Nat.zero_add] <;> omega) | omega))
theorem bytes_Clone_r (a0 : (List Int)) {r : (List Int)} (h0 : bytes_Clone a0 = some r) : SndR K 29 [(S_vu a0)] (fun q => (.ref (q 0) 0 r.length 1)) [(List.map vu r)] := by
 cases a0 with
 | nil =>
  refine SndR.split_nil (fun cap => ?_) (fun a cap => ?_)
  ·
   unfold bytes_Clone at h0; obtain ⟨x1, bx1, h0⟩ := bnd h0; obtain rfl := someInj h0; refine SndR.of_walkW hC (show K.P.funcs[29]? = some Try.f29 from Try.func29) rfl rfl (by decide +kernel) (Nat.le_of_ble_eq_true rfl) ?_; refine awp_nw [0] fun tz U u => ?_; (try simp only [go_sem, Option.isSome_some, if_true, eq_self]); refine qU u ?_; clear u U; refine awp_assoc ?_; refine awp_nw [0] fun tz U u => ?_; (try simp only [go_sem, Option.isSome_some, if_true, eq_self]); refine qU u ?_; clear u U; refine awp_condT rfl ?_; refine awp_assoc ?_; refine awp_nw [] fun tz U u => ?_; (try simp only [go_sem, Option.isSome_some, if_true, eq_self]); refine qU u ?_; clear u U; refine awp_ret ?_; refine endW_i ?_; refine end_ret0 rs29 (rfl) ?_; exact Res.mk [] [none] rfl (resON resO0) (Tm.thaw _ _ _)
  ·
   revert h0; intro h0; refine SndR.of_walkW hC (show K.P.funcs[29]? = some Try.f29 from Try.func29) rfl rfl (by decide +kernel) (Nat.le_of_ble_eq_true rfl) ?_; unfold bytes_Clone at h0; refine awp_nw [0] fun tz U u => ?_; (try simp only [go_sem, Option.isSome_some, if_true, eq_self]); refine qU u ?_; clear u U; refine awp_assoc ?_; refine awp_nw [0] fun tz U u => ?_; (try simp only [go_sem, Option.isSome_some, if_true, eq_self]); refine qU u ?_; clear u U; refine awp_condF rfl ?_; refine awp_skip ?_; refine awp_nw [0] fun tz U u => ?_; obtain ⟨x21, bx21, h0⟩ := bnd h0; have bx21 := chk_some bx21; simp only [Bool.and_eq_true, decide_eq_true_eq] at bx21; have gx21_0 := bx21; (try simp only [go_sem, Option.isSome_some, if_true, eq_self, gx21_0]); refine qU u ?_; clear u U; refine awp_ret1 ?_; obtain rfl := someInj h0; refine endW_i ?_; refine end_ret0 rs29 (rfl) ?_; refine Res.mk [] [some 5] rfl (resOU List.not_mem_nil rfl (TmL.of_eq qL (vu_clean _)) resO0) (Tm.refL rfl ?_); (all_goals (first | rfl | (simp only [List.length_append, List.length_take, List.length_drop, List.length_cons, List.length_nil, List.length_modify, List.length_set, Nat.zero_add] <;> omega) | omega))
 | cons x l =>
  generalize ha : x :: l = a0 at *; (have nb : nilB (.imm (List.map vu a0) a0.length) = some false := by subst ha; rfl); refine SndR.of_walkW hC (show K.P.funcs[29]? = some Try.f29 from Try.func29) rfl rfl (by decide +kernel) (Nat.le_of_ble_eq_true rfl) ?_; unfold bytes_Clone at h0; refine awp_nw [0] fun tz U u => ?_; (try simp only [go_sem, ↓nb, Option.isSome_some, if_true, eq_self]); refine qU u ?_; clear u U; refine awp_assoc ?_; refine awp_nw [0] fun tz U u => ?_; (try simp only [go_sem, ↓nb, Option.isSome_some, if_true, eq_self]); refine qU u ?_; clear u U; refine awp_condF rfl ?_; refine awp_skip ?_; refine awp_nw [0] fun tz U u => ?_; obtain ⟨x21, bx21, h0⟩ := bnd h0; have bx21 := chk_some bx21; simp only [Bool.and_eq_true, decide_eq_true_eq] at bx21; have gx21_0 := bx21; (try simp only [go_sem, ↓nb, Option.isSome_some, if_true, eq_self, gx21_0]); refine qU u ?_; clear u U; refine awp_ret1 ?_; obtain rfl := someInj h0; refine endW_i ?_; refine end_ret0 rs29 (rfl) ?_; refine Res.mk [] [some 5] rfl (resOU List.not_mem_nil rfl (TmL.of_eq qL (vu_clean _)) resO0) (Tm.refL rfl ?_); (all_goals (first | rfl | (simp only [List.length_append, List.length_take, List.length_drop, List.length_cons, List.length_nil, List.length_modify, List.length_set, Nat.zero_add] <;> omega) | omega))

theorem bytes_Clone_m (a0 : (List Int)) {r : (List Int)} (h0 : bytes_Clone a0 = some r) : SndM K 29 [(S_vu a0)] (fun q => (.ref (q 0) 0 r.length 1)) [(List.map vu r)] :=
 fun hs => Snd.of_newM (RenM.ref 0 0 _ _) (rows_all_cons (vu_clean _) rows_all_nil) (clean_cons (S_vu_clean _) clean_nil) (bytes_Clone_r a0 h0) hs

theorem bytes_Clone_e (a0 : (List Int)) {r : (List Int)} (h0 : bytes_Clone a0 = some r) (fr : Nat) (hs : HS) : SndE K 29 [(S_vu a0)] hs fr ⟨(fun q : Nat → Nat => (.ref (q 0) 0 r.length 1)) fun _ => fr, .new (List.map vu r)⟩ :=
 SndE.of_res (RenM.ref 0 0 _ _) (vu_clean _) (clean_cons (S_vu_clean _) clean_nil) (fun a b h => by simp only [h]) (bytes_Clone_r a0 h0) hs fr

theorem bytes_Clone_p (a0 : (List Int)) {r : (List Int)} (h0 : bytes_Clone a0 = some r) : SndP K 29 [(S_vu a0)] (S_vu r) :=
 SndM.pure (bytes_Clone_m a0 h0) (S_vu_clean _) (clean_cons (S_vu_clean _) clean_nil) (by simp only [go_sem, newL_n, newL_c, upd_get, fz, nilS, cond_true, cond_false, List.drop_zero, List.take_length, List.length_map, ble_self] <;> rfl)
theorem bytes_Equal_p (a0 : (List Int)) (a1 : (List Int)) {r : Bool} (h0 : bytes_Equal a0 a1 = some r) : SndP K 28 [(S_vu a0), (S_vu a1)] (vb r) := by
 refine SndP.of_walkW hC (Clean.v _) (clean_cons (S_vu_clean _) (clean_cons (S_vu_clean _) clean_nil)) (show K.P.funcs[28]? = some Try.f28 from Try.func28) rfl rfl (by decide +kernel) (Nat.le_of_ble_eq_true rfl) ?_; unfold bytes_Equal at h0; refine awp_nw [0,1] fun tz U u => ?_; (try simp only [go_sem]); refine qU u ?_; clear u U; refine awp_nw [0,1] fun tz U u => ?_; (try simp only [go_sem, vu_len, Nat.mul_one, vu_len, Nat.mul_one]); refine qU u ?_; clear u U; refine awp_ret1 ?_; obtain rfl := someInj h0; refine endW_i ?_; refine end_ret0 rs28 (rfl) ?_; exact qF
theorem groupkey_right_p (a0 : (List Int)) (a1 : A16vu) {r : Bool} (h0 : groupkey_right a0 a1 = some r) : SndP K 16 [(S_vu a0), (.agg (e_A16vu a1))] (vb r) := by
 refine SndP.of_walkW hC (Clean.v _) (clean_cons (S_vu_clean _) (clean_cons (Clean.agg (e_A16vu_clean _)) clean_nil)) (show K.P.funcs[16]? = some Try.f16 from Try.func16) rfl rfl (by decide +kernel) (Nat.le_of_ble_eq_true rfl) ?_; unfold groupkey_right at h0; refine awp_nw [0,1] fun tz U u => ?_; (try simp only [go_sem]); refine qU u ?_; clear u U; refine awp_nw [0,3] fun tz U u => ?_; (try simp only [go_sem]); refine qU u ?_; clear u U; refine awp_nr [0,3,5] (fun _ => rfl) fun tz => ?_; refine awp_regDW fun U u all hall => ?_; refine xd_id ?_; (try simp only [List.toList_toArray, List.map_cons, List.map_nil, List.size_toArray, List.length_cons, List.length_nil, Nat.zero_add]); (try simp only [Nat.reduceAdd]); obtain ⟨x20, bx20, h0⟩ := bnd h0; have bx20 := chk_some bx20; simp only [Bool.and_eq_true, decide_eq_true_eq] at bx20; obtain ⟨gx20_0, gx20_1⟩ := bx20; (have g1 : AV.imm (List.map vu (List.take ((IntKind.wrap .i64 ((a0.length : Int) - 16)).toNat) a0)) (IntKind.wrap .i64 ((a0.length : Int) - 16)).toNat = AV.imm (List.map vu (List.take ((IntKind.wrap .i64 ((a0.length : Int) - 16)).toNat) a0)) (List.take ((IntKind.wrap .i64 ((a0.length : Int) - 16)).toNat) a0).length := by congr 1; simp only [List.length_take]; omega); obtain ⟨x21, bx21, h0⟩ := bnd h0; (iterate 3 ((try simp only [go_sem, -Nat.reduceAdd, gx20_0, gx20_1, g1, Int.sub_zero]); try simp only [Nat.reduceAdd])); (refine xcallD_E (bytes_Clone_e (List.take ((IntKind.wrap .i64 ((a0.length : Int) - 16)).toNat) a0) bx21 _) ?_; try dsimp only); (try refine xd_id ?_); obtain ⟨x22, bx22, h0⟩ := bnd h0; (iterate 3 ((try simp only [go_sem, -Nat.reduceAdd, gx20_0, gx20_1, g1, Int.sub_zero]); try simp only [Nat.reduceAdd])); (refine xcallD_A 9 (RenML.cons (RenM.ref 0 0 _ _) (RenML.cons (RenM.const (Clean.agg (e_A16vu_clean _))) RenML.nil)) (RenM.ref 1 0 _ _) (vu_clean _) (vu_clean _) (groupkey_signed_io a1 x21 bx22) rfl (by first | rfl | (simp only [go_sem, gx20_0, gx20_1, g1, Int.sub_zero] <;> rfl)) (fun a b h => by simp only [h]) (fun a b h => by simp only [h]) (by decide) ?_; try dsimp only); (try refine xd_id ?_); obtain ⟨x23, bx23, h0⟩ := bnd h0; (iterate 3 ((try simp only [go_sem, -Nat.reduceAdd, gx20_0, gx20_1, g1, Int.sub_zero, List.length_cons, List.length_nil]); try simp only [Nat.reduceAdd])); (have gl2 : (x22).length = x22.length := by first | rfl | (simp only [List.length_append, List.length_take, List.length_drop, List.length_cons, List.length_nil, List.length_modify, List.length_set, Nat.zero_add]; done) | (simp only [List.length_append, List.length_take, List.length_drop, List.length_cons, List.length_nil, List.length_modify, List.length_set, Nat.zero_add]; omega)); (refine xcallD_L (by first | (simp only [go_sem, fz, gx20_0, gx20_1, g1, Int.sub_zero, List.length_cons, List.length_nil, gl2] <;> rfl) | (simp only [go_sem, fz, List.length_set, ble_self, take_set, cond_true, cond_false, gx20_0, gx20_1, g1, Int.sub_zero, List.length_cons, List.length_nil, gl2] <;> rfl)) (by first | (simp only [go_sem, reach, gx20_0, gx20_1, g1, Int.sub_zero, List.length_cons, List.length_nil] <;> rfl)) (bytes_Equal_p x22 a0 bx23) (Bare.v _) ?_; try dsimp only); (try refine xd_id ?_); (iterate 3 ((try simp only [go_sem, -Nat.reduceAdd, gx20_0, gx20_1, g1, Int.sub_zero, List.length_cons, List.length_nil]); try simp only [Nat.reduceAdd])); refine And.intro ?_ (u _ _ (Wk.refl _ _ _) ?_)
 ·
  subst hall; clear u U; exact qP
 ·
  clear u U hall all; refine awp_ret1 ?_; obtain rfl := someInj h0; refine endW_i ?_; refine end_ret0 rs16 (rfl) ?_; exact qF
theorem groupkey_nonce_p (a0 : (List Int)) {r : A13vu} (h0 : groupkey_nonce a0 = some r) : SndP K 31 [(S_vu a0)] (.agg (e_A13vu r)) := by
 refine SndP.of_walkW hC (Clean.agg (e_A13vu_clean _)) (clean_cons (S_vu_clean _) clean_nil) (show K.P.funcs[31]? = some Try.f31 from Try.func31) rfl rfl (by decide +kernel) (Nat.le_of_ble_eq_true rfl) ?_; unfold groupkey_nonce at h0; refine awp_nw [0] fun tz U u => ?_; (try simp only [go_sem]); refine qU u ?_; clear u U; refine awp_nr [0,2] (fun _ => rfl) fun tz => ?_; refine awp_regDW fun U u all hall => ?_; refine xd_id ?_; (try simp only [List.toList_toArray, List.map_cons, List.map_nil, List.size_toArray, List.length_cons, List.length_nil, Nat.zero_add]); (try simp only [Nat.reduceAdd]); obtain ⟨x26, bx26, h0⟩ := bnd h0; have bx26 := chk_some bx26; simp only [Bool.and_eq_true, decide_eq_true_eq] at bx26; have gx26_0 := bx26; (have g1 : AV.imm (List.map vu (List.take 9 a0)) 9 = AV.imm (List.map vu (List.take 9 a0)) (List.take 9 a0).length := by first | rfl | (congr 1; simp only [List.length_take, List.length_drop]; omega)); obtain ⟨x27, bx27, h0⟩ := bnd h0; have bx27 := chk_some bx27; simp only [Bool.and_eq_true, decide_eq_true_eq] at bx27; have gx27_0 := bx27; have gs2 : putAt (e_A13vu A13vu.z) 0 (List.map vu (List.take 9 a0)) = e_A13vu (A13vu.of ((List.take 9 a0) ++ [A13vu.z.a9, A13vu.z.a10, A13vu.z.a11, A13vu.z.a12])) := (putAt_frontL (k := 9) (by rw [List.length_map]; omega) (by decide)).trans (Eq.trans (b := List.map vu (List.take 9 a0) ++ List.map vu [A13vu.z.a9, A13vu.z.a10, A13vu.z.a11, A13vu.z.a12]) (by rfl) (List.map_append.symm.trans ((List.take_of_length_le (by rw [List.length_map, List.length_append]; simp only [List.length_cons, List.length_nil]; omega)).symm.trans (e_A13vu_of _ (by rw [List.length_append]; simp only [List.length_cons, List.length_nil]; omega))))); have gs2t : (List.map vu (List.take 9 a0)).take 9 = List.map vu (List.take 9 a0) := List.take_of_length_le (by rw [List.length_map]; omega); (have gs2m : min (List.take 9 a0).length 13 = 9 := by omega); (have gs2n : min 9 13 = 9 := by rfl); (iterate 3 ((try simp only [go_sem, -Nat.reduceAdd, Int.sub_zero, gx26_0, g1, Int.sub_zero, gx27_0, gs2, gs2t, gs2m, gs2n, Nat.mul_one]); try simp only [Nat.reduceAdd])); refine And.intro ?_ (u _ _ (Wk.refl _ _ _) ?_)
 ·
  subst hall; clear u U; exact qP
 ·
  clear u U hall all; refine awp_nw [2] fun tz U u => ?_; (try simp only [go_sem]); refine qU u ?_; clear u U; refine awp_ret1 ?_; obtain rfl := someInj h0; refine endW_i ?_; refine end_ret0 rs31 qR ?_; exact qF
theorem seal_marked_p (a0 : Int) (a1 : A13vu) (a2 : Int) {r : A16vu} (h0 : seal_marked a0 a1 a2 = some r) : SndP K 45 [(vu a0), (.agg (e_A13vu a1)), (vi a2)] (.agg (e_A16vu r)) := by
 refine SndP.of_walkW hC (Clean.agg (e_A16vu_clean _)) (clean_cons (Clean.v _) (clean_cons (Clean.agg (e_A13vu_clean _)) (clean_cons (Clean.v _) clean_nil))) (show K.P.funcs[45]? = some Try.f45 from Try.func45) rfl rfl (by decide +kernel) (Nat.le_of_ble_eq_true rfl) ?_; unfold seal_marked at h0; refine awp_nw [0,1,2] fun tz U u => ?_; (try simp only [go_sem]); refine qU u ?_; clear u U; refine awp_nw [0,2,4,6] fun tz U u => ?_; (try simp only [go_sem]); refine qU u ?_; clear u U; refine awp_nr [4,6] (fun _ => rfl) fun tz => ?_; refine awp_regDW fun U u all hall => ?_; refine xd_id ?_; (try simp only [List.toList_toArray, List.map_cons, List.map_nil, List.size_toArray, List.length_cons, List.length_nil, Nat.zero_add]); (try simp only [Nat.reduceAdd]); (have gs1 : putAt (e_A16vu { A16vu.z with a0 := a0, a14 := IntKind.wrap .u8 a2, a15 := IntKind.wrap .u8 ((a2).fdiv (2 ^ (min 8 64))) }) 1 (e_A13vu a1) = (e_A16vu { A16vu.z with a0 := a0, a1 := a1.a0, a10 := a1.a9, a11 := a1.a10, a12 := a1.a11, a13 := a1.a12, a14 := IntKind.wrap .u8 a2, a15 := IntKind.wrap .u8 ((a2).fdiv (2 ^ (min 8 64))), a2 := a1.a1, a3 := a1.a2, a4 := a1.a3, a5 := a1.a4, a6 := a1.a5, a7 := a1.a6, a8 := a1.a7, a9 := a1.a8 }) := by rfl); (have gs1m : min 13 15 = 13 := by rfl); (iterate 3 ((try simp only [go_sem, -Nat.reduceAdd, Int.sub_zero, Int.sub_zero, gs1, gs1m]); try simp only [Nat.reduceAdd])); refine And.intro ?_ (u _ _ (Wk.refl _ _ _) ?_)
 ·
  subst hall; clear u U; exact qP
 ·
  clear u U hall all; refine awp_nw [6] fun tz U u => ?_; (try simp only [go_sem]); refine qU u ?_; clear u U; refine awp_ret1 ?_; obtain rfl := someInj h0; refine endW_i ?_; refine end_ret0 rs45 qR ?_; exact qF
theorem seal_Stream_p (a0 : A16vu) (a1 : A13vu) (a2 : Int) {r : A16vu} (h0 : seal_Stream a0 a1 a2 = some r) : SndP K 40 [(.agg (e_A16vu a0)), (.agg (e_A13vu a1)), (vi a2)] (.agg (e_A16vu r)) := by
 refine SndP.of_walkW hC (Clean.agg (e_A16vu_clean _)) (clean_cons (Clean.agg (e_A16vu_clean _)) (clean_cons (Clean.agg (e_A13vu_clean _)) (clean_cons (Clean.v _) clean_nil))) (show K.P.funcs[40]? = some Try.f40 from Try.func40) rfl rfl (by decide +kernel) (Nat.le_of_ble_eq_true rfl) ?_; unfold seal_Stream at h0; refine awp_nw [0,1,2] fun tz U u => ?_; (try simp only [go_sem]); refine qU u ?_; clear u U; refine awp_nr [2,3,4,6] (fun _ => rfl) fun tz => ?_; refine awp_regDW fun U u all hall => ?_; refine xd_id ?_; (try simp only [List.toList_toArray, List.map_cons, List.map_nil, List.size_toArray, List.length_cons, List.length_nil, Nat.zero_add]); (try simp only [Nat.reduceAdd]); obtain ⟨x34, bx34, h0⟩ := bnd h0; (iterate 3 ((try simp only [go_sem, -Nat.reduceAdd]); try simp only [Nat.reduceAdd])); (refine xcallD_p (seal_marked_p 1 a1 a2 bx34) ?_; try dsimp only); (try refine xd_id ?_); obtain ⟨x35, bx35, h0⟩ := bnd h0; (iterate 3 ((try simp only [go_sem, -Nat.reduceAdd]); try simp only [Nat.reduceAdd])); (refine xcallD_p (cipher_Encrypt_p a0 x34 bx35) ?_; try dsimp only); (try refine xd_id ?_); (iterate 3 ((try simp only [go_sem, -Nat.reduceAdd]); try simp only [Nat.reduceAdd])); refine And.intro ?_ (u _ _ (Wk.refl _ _ _) ?_)
 ·
  subst hall; clear u U; exact qP
 ·
  clear u U hall all; refine awp_ret1 ?_; obtain rfl := someInj h0; refine endW_i ?_; refine end_ret0 rs40 qR ?_; exact qF
def seal_mix_S0 (d37 : (List Int)) : AS :=
 { objs := (upd (fun _ => .dead) 0 (.live (List.map vu d37))), next := 1, tmps := (fun _ => .unk) }

def seal_mix_S1 (a2 : A16vu) (a0 : Nat) (a1 : Nat) (d38 : (List Int × Int)) : AS :=
 { objs := (upd (upd (fun _ => .dead) 0 (.live (List.map vu d38.1))) 1 (.live (e_A16vu a2))), next := 2, tmps := (upd (upd (upd (upd (fun _ => .unk) 0 (.ref 0 a0 a1 1)) 3 (.ptr 1 0)) 7 (vi (if 16 < ((a1 : Nat) : Int) then 16 else ((a1 : Nat) : Int)))) 8 (vi d38.2)) }

theorem seal_mix_io (a0 : Nat) (a1 : Nat) (a2 : A16vu) (a3 : List Int) {r : (List Int)} (h0 : seal_mix a0 a1 a2 a3 = some r) : SndIO K 39 1 (fun q => [(.ref (q 0) a0 a1 1), (.agg (e_A16vu a2))]) [(fun q => (List.map vu a3))] (fun q => (.tup [])) [(some (fun q => (List.map vu r)))] := by
 refine SndIO.of_walkW hC (RenML.cons (RenM.ref 0 _ _ _) (RenML.cons (RenM.const (Clean.agg (e_A16vu_clean _))) RenML.nil)) (tpl_cons (RenML.const (vu_clean _)) tpl_nil) (otpl_some (RenML.const (vu_clean _)) otpl_nil) (RenM.tup RenML.nil) rfl (Nat.le_of_ble_eq_true rfl) (show K.P.funcs[39]? = some Try.f39 from Try.func39) rfl rfl (by decide +kernel) (Nat.le_of_ble_eq_true rfl) ?_; unfold seal_mix at h0; refine awp_nw [0,1] fun tz U u => ?_; (try simp only [go_sem]); refine qU u ?_; clear u U; refine awp_nw [0,3] fun tz U u => ?_; (try simp only [go_sem]); refine qU u ?_; clear u U; obtain ⟨d37, hi1, h0⟩ := bnd h0; refine awp_cutQ (fun z => d37 = z) (fun d37 : (List Int) => seal_mix_S0 d37) clQ_end ?_ ?_
 ·
  refine awp_block1 ?_; refine awp_loopS (fun n (d38 : (List Int × Int)) => seal_mix_L2 a1 a0 a2 a3 n d38 = some d37) (fun d38 : (List Int × Int) => seal_mix_S1 a2 a0 a1 d38) big (a3, 0) (by refine Wk.canonD [] [] [some 0, some 1] rfl trivial rfl (tmOC 1 (tmOE 0 tmO0 (vu_clean _)) (e_A16vu_clean _)) (tmAllU 8 (tmAllU 7 (tmAllU 3 (tmAllU 0 tmAll0 (Tm.refL rfl ?_)) (Tm.ptr rfl)) (Tm.v _)) (Tm.v _)); all_goals (first | rfl | (simp only [List.length_append, List.length_take, List.length_drop, List.length_cons, List.length_nil, List.length_modify, List.length_set, Nat.zero_add] <;> omega) | omega)) hi1 ?_; clear hi1; rintro n d38 hl3; rcases n with _ | n2
  ·
   (rw [seal_mix_L2] at hl3; cases hl3)
  ·
   rw [seal_mix_L2] at hl3; unfold seal_mix_S1; refine awp_nw [0,3,7,8] fun tz U u => ?_; (try simp only [go_sem]); refine qU u ?_; clear u U; refine awp_cond (b := (decide (d38.2 < (if 16 < ((a1 : Nat) : Int) then 16 else ((a1 : Nat) : Int))))) rfl (fun h4 => ?_) (fun h4 => ?_)
   ·
    have hl3 := cT hl3 h4; refine awp_skip ?_; refine awp_blockW ?_; refine awp_nw [0,3,7,8] fun tz U u => ?_; (try simp only [go_sem]); refine qU u ?_; clear u U; refine awp_nr1 [0,3,4,7,8] (fun _ => rfl) fun tz => ?_; refine awp_regD1 fun U u all hall => ?_; refine xd_id ?_; (try simp only [List.toList_toArray, List.map_cons, List.map_nil, List.size_toArray, List.length_cons, List.length_nil, Nat.zero_add]); (try simp only [Nat.reduceAdd]); obtain ⟨x39, bx39, hl3⟩ := bnd hl3; have bx39 := chk_some bx39; simp only [Bool.and_eq_true, decide_eq_true_eq] at bx39; obtain ⟨gx39_0, gx39_1⟩ := bx39; obtain ⟨x40, bx40, hl3⟩ := bnd hl3; have fx40_2 : d38.1[(a0 + (d38.2).toNat)]? = some x40 := bx40; have fx40_3 : (a0 + (d38.2).toNat) < d38.1.length := (List.getElem?_eq_some_iff.1 bx40).1; (have fx40_6 : (List.map vu d38.1)[(a0 + (d38.2).toNat)]? = some (vu x40) := by rw [List.getElem?_map, fx40_2]; rfl); obtain ⟨x41, bx41, hl3⟩ := bnd hl3; obtain ⟨fx41_0, fx41_1, fx41_2, fx41_3⟩ := idxA_some bx41; (have fx41_6 : (e_A16vu a2)[(d38.2).toNat]? = some (vu x41) := by show (List.map vu [a2.a0, a2.a1, a2.a2, a2.a3, a2.a4, a2.a5, a2.a6, a2.a7, a2.a8, a2.a9, a2.a10, a2.a11, a2.a12, a2.a13, a2.a14, a2.a15])[(d38.2).toNat]? = _; rw [List.getElem?_map, fx41_2]; rfl); have gs5 : ((a0 + (d38.2).toNat) + 1 ≤ d38.1.length) = True := eq_true (by (try simp only [List.length_modify, List.length_set]); omega); have gs5a : (a0 + ((d38.2).toNat + 1) ≤ d38.1.length) = True := eq_true (by omega); have gm6 : (d38.1.set (a0 + (d38.2).toNat) (bxor .u8 x40 x41))[(a0 + (d38.2).toNat)]? = some (bxor .u8 x40 x41) := getSet _ fx40_2; (iterate 3 ((try simp only [go_sem, -Nat.reduceAdd, gx39_0, gx39_1, fx40_6, fx40_2, fx41_0, fx41_1, fx41_6, gs5, gs5a, gm6]); try simp only [Nat.reduceAdd])); refine And.intro ?_ (u _ ?_)
    ·
     subst hall; clear u U; exact qP
    ·
     clear u U hall all; refine bq_n ?_; refine seqW_i ?_; refine awp_nw1 [0,3,7,8] fun tz U u => ?_; (try simp only [go_sem, fx40_6, fx40_2, fx41_0, fx41_1, fx41_6, gm6]); refine u _ ?_; clear u U; refine lq_n ?_; exact ⟨n2, ((d38.1.set (a0 + (d38.2).toNat) (bxor .u8 x40 x41)), IntKind.wrap .i64 (d38.2 + 1)), rfl, hl3, (by refine Wk.canonD [] [] [some 0, some 1] rfl trivial rfl (tmOC 1 (tmOE 0 tmO0 (vu_clean _)) (e_A16vu_clean _)) (tmAllU 8 (tmAllU 7 (tmAllU 3 (tmAllU 0 tmAll0 (Tm.refL rfl ?_)) (Tm.ptr rfl)) (Tm.v _)) (Tm.v _)); all_goals (first | rfl | (simp only [List.length_append, List.length_take, List.length_drop, List.length_cons, List.length_nil, List.length_modify, List.length_set, Nat.zero_add] <;> omega) | omega))⟩
   ·
    have hl3 := cF hl3 h4; refine awp_exit ?_; refine lq_e ?_; refine bq_e ?_; refine sq_n ?_; obtain rfl := someInj hl3; exact ⟨_, rfl, (Wk.canonD [] [] [some 0] rfl trivial rfl (tmOE 0 tmO0 (vu_clean _)) tmAll0)⟩
 ·
  rintro _ rfl; clear hi1; unfold seal_mix_S0; obtain rfl := someInj h0; refine endW_i ?_; refine end_normal0 rs39 (rfl) ?_; refine ResIO.mk [] [some 0] rfl (resEU List.not_mem_nil rfl (TmL.of_eq qL (vu_clean _)) resE0) (Tm.tup TmL.nil)
def seal_crypt_S0 (d33 : (List Int)) : AS :=
 { objs := (upd (fun _ => .dead) 0 (.live (List.map vu d33))), next := 1, tmps := (fun _ => .unk) }

def seal_crypt_S1 (a0 : A16vu) (a1 : A13vu) (d34 : (List Int × Int)) : AS :=
 { objs := (upd (upd (upd (fun _ => .dead) 0 (.live (List.map vu d34.1))) 1 (.live (e_A16vu a0))) 2 (.live (e_A13vu a1))), next := 3, tmps := (upd (upd (upd (upd (fun _ => .unk) 2 (.ref 0 0 ((d34.1).length) 1)) 3 (.ptr 1 0)) 4 (.ptr 2 0)) 6 (vi d34.2)) }

theorem seal_crypt_io (a0 : A16vu) (a1 : A13vu) (a2 : List Int) {r : (List Int)} (h0 : seal_crypt a0 a1 a2 = some r) : SndIO K 37 1 (fun q => [(.agg (e_A16vu a0)), (.agg (e_A13vu a1)), (.ref (q 0) 0 a2.length 1)]) [(fun q => (List.map vu a2))] (fun q => (.tup [])) [(some (fun q => (List.map vu r)))] := by
 refine SndIO.of_walkW hC (RenML.cons (RenM.const (Clean.agg (e_A16vu_clean _))) (RenML.cons (RenM.const (Clean.agg (e_A13vu_clean _))) (RenML.cons (RenM.ref 0 0 _ _) RenML.nil))) (tpl_cons (RenML.const (vu_clean _)) tpl_nil) (otpl_some (RenML.const (vu_clean _)) otpl_nil) (RenM.tup RenML.nil) rfl (Nat.le_of_ble_eq_true rfl) (show K.P.funcs[37]? = some Try.f37 from Try.func37) rfl rfl (by decide +kernel) (Nat.le_of_ble_eq_true rfl) ?_; unfold seal_crypt at h0; refine awp_nw [0,1,2] fun tz U u => ?_; (try simp only [go_sem]); refine qU u ?_; clear u U; refine awp_nw [2,3,4] fun tz U u => ?_; (try simp only [go_sem]); refine qU u ?_; clear u U; obtain ⟨d33, hi1, h0⟩ := bnd h0; refine awp_cutQ (fun z => d33 = z) (fun d33 : (List Int) => seal_crypt_S0 d33) clQ_end ?_ ?_
 ·
  refine awp_block1 ?_; refine awp_loopS (fun n (d34 : (List Int × Int)) => seal_crypt_L2 a0 a1 n d34 = some d33) (fun d34 : (List Int × Int) => seal_crypt_S1 a0 a1 d34) big (a2, 0) (by refine Wk.canonD [] [] [some 0, some 1, some 2] rfl trivial rfl (tmOC 2 (tmOC 1 (tmOE 0 tmO0 (vu_clean _)) (e_A16vu_clean _)) (e_A13vu_clean _)) (tmAllU 6 (tmAllU 4 (tmAllU 3 (tmAllU 2 tmAll0 (Tm.refL rfl ?_)) (Tm.ptr rfl)) (Tm.ptr rfl)) (Tm.v _)); all_goals (first | rfl | (simp only [List.length_append, List.length_take, List.length_drop, List.length_cons, List.length_nil, List.length_modify, List.length_set, Nat.zero_add] <;> omega) | omega)) hi1 ?_; clear hi1; rintro n d34 hl3; rcases n with _ | n2
  ·
   (rw [seal_crypt_L2] at hl3; cases hl3)
  ·
   rw [seal_crypt_L2] at hl3; unfold seal_crypt_S1; refine awp_assoc ?_; refine awp_nw [2,3,4,6] fun tz U u => ?_; (try simp only [go_sem]); refine qU u ?_; clear u U; refine awp_cond (b := (decide (d34.2 < (((d34.1).length : Nat) : Int)))) rfl (fun h4 => ?_) (fun h4 => ?_)
   ·
    have hl3 := cT hl3 h4; refine awp_skip ?_; refine awp_blockW ?_; refine awp_nr1 [2,3,4,6] (fun _ => rfl) fun tz => ?_; refine awp_regD1 fun U u all hall => ?_; refine xd_id ?_; (try simp only [List.toList_toArray, List.map_cons, List.map_nil, List.size_toArray, List.length_cons, List.length_nil, Nat.zero_add]); (try simp only [Nat.reduceAdd]); obtain ⟨x35, bx35, hl3⟩ := bnd hl3; have bx35 := chk_some bx35; simp only [Bool.and_eq_true, decide_eq_true_eq] at bx35; obtain ⟨gx35_0, gx35_1⟩ := bx35; (have g5 : ((((d34.1).length : Nat) : Int) - d34.2).toNat = ((d34.1).length) - (d34.2).toNat := by omega); obtain ⟨x36, bx36, hl3⟩ := bnd hl3; (iterate 3 ((try simp only [go_sem, -Nat.reduceAdd, gx35_0, gx35_1, g5, Int.reduceEq]); try simp only [Nat.reduceAdd])); (refine xcallD_p (seal_Stream_p a0 a1 (IntKind.wrap .i64 (1 + (IntKind.wrap .i64 ((d34.2).tdiv 16)))) bx36) ?_; try dsimp only); (try refine xd_id ?_); obtain ⟨x37, bx37, hl3⟩ := bnd hl3; (iterate 3 ((try simp only [go_sem, -Nat.reduceAdd, gx35_0, gx35_1, g5, Int.reduceEq]); try simp only [Nat.reduceAdd])); (refine xcallD_O [0] (seal_mix_io ((d34.2).toNat) (((d34.1).length) - (d34.2).toNat) x36 d34.1 bx37) (by decide) (by decide) ⟨(by first | rfl | (simp only [go_sem, gx35_0, gx35_1, g5, Int.reduceEq] <;> rfl)), trivial⟩ (by first | rfl | (simp only [go_sem, gx35_0, gx35_1, g5, Int.reduceEq] <;> rfl)) (by subst hall; decide +kernel) (by subst hall; first | decide +kernel | (simp [printsOk, apartP, clash, meet]; done) | (simp [printsOk, apartP, clash, meet]; decide +kernel)) ?_; try dsimp only); (try refine xd_id ?_); obtain ⟨x38, bx38, hl3⟩ := bnd hl3; have bx38 := chk_some bx38; simp only [decide_eq_true_eq] at bx38; (iterate 3 ((try simp only [go_sem, -Nat.reduceAdd, gx35_0, gx35_1, g5, Int.reduceEq, List.length_cons, List.length_nil]); try simp only [Nat.reduceAdd])); refine And.intro ?_ (u _ ?_)
    ·
     subst hall; clear u U; exact qP
    ·
     clear u U hall all; refine bq_n ?_; refine seqW_i ?_; refine awp_nw1 [2,3,4,6] fun tz U u => ?_; (try simp only [go_sem]); refine u _ ?_; clear u U; refine lq_n ?_; exact ⟨n2, (x37, IntKind.wrap .i64 (d34.2 + 16)), rfl, hl3, (by refine Wk.canonD [] [] [some 0, some 1, some 2] rfl trivial rfl (tmOC 2 (tmOC 1 (tmOE 0 tmO0 (vu_clean _)) (e_A16vu_clean _)) (e_A13vu_clean _)) (tmAllU 6 (tmAllU 4 (tmAllU 3 (tmAllU 2 tmAll0 (Tm.refL rfl ?_)) (Tm.ptr rfl)) (Tm.ptr rfl)) (Tm.v _)); all_goals (first | rfl | (simp only [List.length_append, List.length_take, List.length_drop, List.length_cons, List.length_nil, List.length_modify, List.length_set, Nat.zero_add] <;> omega) | omega))⟩
   ·
    have hl3 := cF hl3 h4; refine awp_exit ?_; refine lq_e ?_; refine bq_e ?_; refine sq_n ?_; obtain rfl := someInj hl3; exact ⟨_, rfl, (Wk.canonD [] [] [some 0] rfl trivial rfl (tmOE 0 tmO0 (vu_clean _)) tmAll0)⟩
 ·
  rintro _ rfl; clear hi1; unfold seal_crypt_S0; obtain rfl := someInj h0; refine endW_i ?_; refine end_normal0 rs37 (rfl) ?_; refine ResIO.mk [] [some 0] rfl (resEU List.not_mem_nil rfl (TmL.of_eq qL (vu_clean _)) resE0) (Tm.tup TmL.nil)
theorem seal_Code_1_io (a0 : A16vu) (a1 : A16vu) (a2 : A16vu) {r : A16vu} (h0 : seal_Code_1 a0 a1 a2 = some r) : SndIO K 46 2 (fun q => [(.agg (e_A16vu a0)), (.ptr (q 0) 0), (.ptr (q 1) 0)]) [(fun q => (e_A16vu a1)), (fun q => (e_A16vu a2))] (fun q => (.tup [])) [(some (fun q => (e_A16vu r))), (some (fun q => (e_A16vu a2)))] := by
 refine SndIO.of_walkW hC (RenML.cons (RenM.const (Clean.agg (e_A16vu_clean _))) (RenML.cons (RenM.ptr 0 0) (RenML.cons (RenM.ptr 1 0) RenML.nil))) (tpl_cons (RenML.const (e_A16vu_clean _)) (tpl_cons (RenML.const (e_A16vu_clean _)) tpl_nil)) (otpl_some (RenML.const (e_A16vu_clean _)) (otpl_some (RenML.const (e_A16vu_clean _)) otpl_nil)) (RenM.tup RenML.nil) rfl (Nat.le_of_ble_eq_true rfl) (show K.P.funcs[46]? = some Try.f46 from Try.func46) rfl rfl (by decide +kernel) (Nat.le_of_ble_eq_true rfl) ?_; unfold seal_Code_1 at h0; refine awp_nw [0,1,2] fun tz U u => ?_; (try simp only [go_sem]); refine qU u ?_; clear u U; refine awp_nr [1,2,3] (fun _ => rfl) fun tz => ?_; refine awp_regDW fun U u all hall => ?_; refine xd_id ?_; (try simp only [List.toList_toArray, List.map_cons, List.map_nil, List.size_toArray, List.length_cons, List.length_nil, Nat.zero_add]); (try simp only [Nat.reduceAdd]); obtain ⟨x44, bx44, h0⟩ := bnd h0; (iterate 3 ((try simp only [go_sem, -Nat.reduceAdd, Int.sub_zero]); try simp only [Nat.reduceAdd])); (refine xcallD_O [0] (seal_mix_io 0 16 a0 [a1.a0, a1.a1, a1.a2, a1.a3, a1.a4, a1.a5, a1.a6, a1.a7, a1.a8, a1.a9, a1.a10, a1.a11, a1.a12, a1.a13, a1.a14, a1.a15] bx44) (by decide) (by decide) ⟨(by first | rfl | (simp only [go_sem, Int.sub_zero] <;> rfl)), trivial⟩ (by first | rfl | (simp only [go_sem, Int.sub_zero] <;> rfl)) (by subst hall; decide +kernel) (by subst hall; first | decide +kernel | (simp [printsOk, apartP, clash, meet]; done) | (simp [printsOk, apartP, clash, meet]; decide +kernel)) ?_; try dsimp only); (try refine xd_id ?_); obtain ⟨x45, bx45, h0⟩ := bnd h0; have bx45 := chk_some bx45; simp only [decide_eq_true_eq] at bx45; have gs1 : List.map vu x44 = e_A16vu (A16vu.of x44) := (List.take_of_length_le (by rw [List.length_map]; omega)).symm.trans (e_A16vu_of _ (by omega)); (iterate 3 ((try simp only [go_sem, -Nat.reduceAdd, Int.sub_zero, gs1, List.length_cons, List.length_nil]); try simp only [Nat.reduceAdd])); refine And.intro ?_ (u _ _ (Wk.refl _ _ _) ?_)
 ·
  subst hall; clear u U; exact qP
 ·
  clear u U hall all; refine awp_nw1 [1,2] fun tz U u => ?_; obtain ⟨x46, bx46, h0⟩ := bnd h0; (try simp only [go_sem]); (refine xcall_p (cipher_Encrypt_p a2 (A16vu.of x44) bx46) ?_; try dsimp only); (try refine xw_id ?_); (try simp only [go_sem]); refine u _ ?_; clear u U; obtain rfl := someInj h0; refine endW_i ?_; refine end_normal0 rs46 (rfl) ?_; refine ResIO.mk [] [some 0, some 1] rfl (resEU List.not_mem_nil rfl (TmL.clean (e_A16vu_clean _)) (resEU List.not_mem_nil rfl (TmL.clean (e_A16vu_clean _)) resE0)) (Tm.tup TmL.nil)
end Go.AX.Z.TG

/-! (walks) -/

set_option linter.unusedSimpArgs false
set_option linter.unusedVariables false
set_option maxHeartbeats 4000000
set_option maxRecDepth 20000
namespace Go.AX.Z.TG
open Go.AX Go.Proofs
attribute [local irreducible] awp xw xop xcall gsp ob xd xdop xcallD seqQ loopQ blkQ endQ
theorem blkN_nil (n : Nat) : blkN n [] = [] := by cases n <;> rfl
theorem blkN_cons {n : Nat} {l : List Int} (h : 0 < l.length) : blkN (n + 1) l = A16vu.of (l.take 16 ++ List.replicate 16 0) :: blkN n (l.drop 16) := by
 rw [blkN, decide_eq_true h, cond_true]
/-- What seal.blocks hands out. -/
def blkX (l : List A16vu) : List (List AV) := l.map fun b => [.agg (e_A16vu b)]
theorem blkX_get {l m : List A16vu} {b : A16vu} {k : Nat} (h : l.drop k = b :: m) : (blkX l)[k]? = some [.agg (e_A16vu b)] := by
 have : l[k]? = some b := by
  have := congrArg (fun q => q[0]?) h
  simpa [List.getElem?_drop] using this
 unfold blkX
 rw [List.getElem?_map, this]; rfl
theorem blkX_drop {l m : List A16vu} {b : A16vu} {k : Nat} (h : l.drop k = b :: m) : l.drop (k + 1) = m := by
 rw [← List.drop_drop, h]; rfl

def tB (y : Value) (q : Nat) : Nat → AV := upd (upd (fun _ => .unk) 1 (.ptr q 0)) 0 (.v y)

/-- What the inner loop has in hand: a part of the first list, or of the second. -/
def Part (h : Nat) (hd bd : List Int) (j : Nat) (av : AV) (r : List Int) : Prop :=
 (j = 0 ∧ ∃ off, off + r.length = hd.length ∧ r = hd.drop off ∧ av = .ref h off r.length 1) ∨ (j = 1 ∧ av = .imm (List.map vu r) r.length)

def RdB (p q h : Nat) (hd bd : List Int) (hs : HS) : Prop :=
 (hs.objs p = .live [.ref q 0 2 1] ∧ hs.objs q = .live [.ref h 0 hd.length 1, .imm (List.map vu bd) bd.length] ∧ hs.objs h = .live (List.map vu hd)) ∧ (p < hs.next ∧ q < hs.next ∧ h < hs.next) ∧
  ∀ id c, (hs.objs id = .live c ∨ hs.objs id = .froz c) → ∀ x ∈ c, ∀ n, hs.next ≤ n → Av n x

def restB (hd bd : List Int) : Nat → List A16vu
 | 0 => blkL hd ++ blkL bd
 | 1 => blkL bd
 | _ => []
theorem restB_len {hd bd : List Int} : restB hd bd 0 = blkL hd ++ blkL bd := rfl

theorem putB (x : List Int) : putAt (e_A16vu A16vu.z) 0 (List.map vu (List.take (min x.length 16) x)) = e_A16vu (A16vu.of (x.take 16 ++ List.replicate 16 0)) := by
 rw [← e_A16vu_of _ (by rw [List.length_append, List.length_replicate]; omega), putAt_frontL (k := min x.length 16) (by rw [List.length_map, List.length_take]; omega) (by show min x.length 16 ≤ 16; omega), List.map_append, List.take_append, List.take_of_length_le (l := List.map vu (List.take 16 x)) (by rw [List.length_map, List.length_take]; omega), List.length_map, List.length_take,
  show List.take (min x.length 16) x = List.take 16 x by
   by_cases hx : x.length ≤ 16
   ·
    rw [Nat.min_eq_left hx, List.take_length, List.take_of_length_le hx]
   ·
    rw [Nat.min_eq_right (by omega)]]
 congr 1
 show List.drop (min x.length 16) (List.replicate 16 (vu 0)) = _
 rw [List.drop_replicate, ← List.map_take, List.take_replicate, List.map_replicate]
 congr 1
 omega

theorem htU {tm tm' : Nat → AV} {n i : Nat} {x : AV} (h : ∀ j, tm' j = .unk ∨ (tm' j = tm j ∧ Av n (tm j))) (e : tm i = x) (ha : Av n x) : ∀ j, upd tm' i x j = .unk ∨ (upd tm' i x j = tm j ∧ Av n (tm j)) := by
 intro j
 by_cases hj : j = i
 ·
  subst hj; exact .inr ⟨by rw [upd_eq, e], e ▸ ha⟩
 ·
  rw [upd_ne _ _ hj]; exact h j
theorem updB (o : Nat → Ob) (n : Nat) (x y : Ob) : upd (upd o n x) n y = upd o n y := by
 funext i; unfold upd; by_cases h : i = n <;> simp [h]

theorem blk_iter (hd bd : List Int) (p q h : Nat) : Iter K 60 [.ptr p 0] (RdB p q h hd bd) (blkX (blkL hd ++ blkL bd)) := by
 intro lo lb ρ0 V0 J Jx hlb hJ hJx hJc hJxc hy ρ V hs W h0
 have hAb : ∀ i, Abides K (J i) := fun i => ⟨fun ρ V hs W h => ⟨(hJ i ρ V hs W h).2.1, (hJ i ρ V hs W h).2.2.1⟩, hJc i⟩
 have hAx : Abides K Jx := ⟨hJx, hJxc⟩
 obtain ⟨loc, hloc, rfl⟩ : ∃ loc, ρ0 p = some loc ∧ lb = #[.pointer (some ⟨loc.b, loc.base + 0, none⟩)] := by
  obtain ⟨e1, e2⟩ := hlb
  obtain ⟨lb⟩ := lb
  match lb, e1, e2 with
  | [y], _, e2 =>
   have := e2 0 _ y rfl rfl
   cases this with
   | ptr _ _ loc h => exact ⟨loc, h, rfl⟩
 obtain ⟨Y, hY⟩ : ∃ Y, Value.func (.yield lo) #[] #[] = Y := ⟨_, rfl⟩
 refine callsIn_of_wp (fn := Try.f60) Try.func60 rfl trivial ?_ rfl
 have hst0 := StJ.start (N := Try.f60.ntmps) (t := tB Y p) (J := J 0) (args := #[.func (.yield lo) #[] #[]] ++ #[.pointer (some ⟨loc.b, loc.base + 0, none⟩)]) (by show 2 ≤ 25; decide) h0 (fun i y hy => by
  match i, hy with
  | 0, hy => cases hy; rw [hY]; exact .v _
  | 1, hy => cases hy; exact .ptr p 0 loc ((hJ 0 _ _ _ _ h0).1.rho _ _ hloc)) (fun i hi => by
  have hi : 2 ≤ i := hi
  unfold tB
  rw [upd_ne _ _ (by omega), upd_ne _ _ (by omega)])
 have hRd : ∀ i ρ V hs W, J i ρ V hs W → RdB p q h hd bd hs := fun i ρ V hs W h => (hJ i ρ V hs W h).2.2.2
 generalize hL : blkL hd ++ blkL bd = L at *
 have hr0 : restB hd bd 0 = L := hL
 refine wpIn_seq ?_
 obtain ⟨⟨r1, r2, r3⟩, _⟩ := hRd _ _ _ _ _ hst0.j
 refine iter_region hC (hAb 0) (by decide +kernel) (by decide +kernel) (K := fun t => t 0 = .v Y ∧ t 1 = .ptr p 0 ∧ t 6 = .ref q 0 2 1 ∧ t 7 = vi 2 ∧ t 8 = vi 0) hst0 ?_ ?_
 ·
  unfold tB
  simp only [go_sem, Nat.reduceEqDiff, reduceIte, Nat.reduceAdd, Nat.reduceMul, Nat.reduceSub, Nat.reduceLT, Nat.reduceLeDiff, Int.reduceToNat, Int.reduceBEq, Int.reduceBNe, Int.reduceLT, Int.reduceLE, Int.reduceAdd, Int.reduceSub, Int.reduceMul, Int.reduceNeg, Int.reduceEq, Int.reduceNe, r1]
  try exact ⟨rfl, rfl, rfl, rfl, rfl, rfl⟩
 intro ρ1 V1 hs1 a1 W1 t1 ⟨e0, e1, e6, e7, e8⟩ _ hst1
 refine wpIn_block ?_
 refine wpIn_loop (I := fun a w => ∃ (k j : Nat) (ρ : Rho) (V : View) (hs : HS) (t : Nat → AV), j ≤ 2 ∧ (L.drop k = restB hd bd j ∧ k ≤ L.length) ∧ (t 0 = .v Y ∧ t 1 = .ptr p 0 ∧ t 6 = .ref q 0 2 1 ∧ t 7 = vi 2 ∧ t 8 = vi (j : Int)) ∧ StJ Try.f60.ntmps t (J k) ρ V hs a w)
  (fun a _ => (match a.tmps.getD 8 undef with | .int _ n => (2 - n).toNat | _ => 0)) ⟨0, 0, ρ1, V1, hs1, t1, by omega, ⟨by rw [hr0]; rfl, Nat.zero_le _⟩, ⟨e0, e1, e6, e7, e8⟩, hst1⟩ ?_
 rintro a w ⟨k, j, ρ2, V2, hs2, t2, hj, ⟨hk, hkl⟩, ⟨e0, e1, e6, e7, e8⟩, hst2⟩
 have hk8 : a.tmps.getD 8 undef = .int .i64 (j : Int) := by
  have := hst2.tm 8
  rw [e8] at this
  exact Rel.v_inv this
 refine wpIn_seq ?_
 refine iter_region hC (hAb _) (by decide +kernel) (by decide +kernel) (K := fun t => t 0 = .v Y ∧ t 1 = .ptr p 0 ∧ t 6 = .ref q 0 2 1 ∧ t 7 = vi 2 ∧ t 8 = vi (j : Int) ∧ t 9 = vb (decide ((j : Int) < 2))) hst2 ?_ ?_
 ·
  simp only [go_sem, Nat.reduceEqDiff, reduceIte, Nat.reduceAdd, Nat.reduceMul, Nat.reduceSub, Nat.reduceLT, Nat.reduceLeDiff, Int.reduceToNat, Int.reduceBEq, Int.reduceBNe, Int.reduceLT, Int.reduceLE, Int.reduceAdd, Int.reduceSub, Int.reduceMul, Int.reduceNeg, Int.reduceEq, Int.reduceNe, e0, e1, e6, e7, e8]
  try exact ⟨rfl, rfl, rfl, rfl, rfl, rfl, rfl⟩
 intro ρ3 V3 hs3 a3 W3 t3 ⟨e0, e1, e6, e7, e8, e9⟩ _ hst3
 have hc9 : a3.eval (.tmp 9) = .bool (decide ((j : Int) < 2)) := by
  have := ev_rel (C := K) (s := { toHS := hs3, tmps := t3 }) hst3.tm ((hAb _).inv _ _ _ _ hst3.j).2 (.tmp 9)
  rw [show ev K { toHS := hs3, tmps := t3 } (.tmp 9) = t3 9 from rfl, e9] at this
  exact Rel.v_inv this
 refine wpIn_seq ?_
 refine wpIn_cond_split hc9 (fun hlt => ?_) (fun hge => ?_)
 ·
  have hlt : j < 2 := by have := of_decide_eq_true hlt; omega
  refine wpIn_skip ?_
  refine wpIn_seq ?_
  refine wpIn_block ?_
  refine wpIn_seq ?_
  obtain ⟨⟨r1, r2, r3⟩, _⟩ := hRd _ _ _ _ _ hst3.j
  refine iter_region hC (hAb _) (by decide +kernel) (by decide +kernel) (K := fun t => (t 0 = .v Y ∧ t 1 = .ptr p 0 ∧ t 6 = .ref q 0 2 1 ∧ t 7 = vi 2 ∧ t 8 = vi (j : Int)) ∧ Part h hd bd j (t 4) (if j = 0 then hd else bd)) hst3 ?_ ?_
  ·
   obtain rfl | rfl : j = 0 ∨ j = 1 := by omega
   ·
    simp only [go_sem, Nat.reduceEqDiff, reduceIte, Nat.reduceAdd, Nat.reduceMul, Nat.reduceSub, Nat.reduceLT, Nat.reduceLeDiff, Int.reduceToNat, Int.reduceBEq, Int.reduceBNe, Int.reduceLT, Int.reduceLE, Int.reduceAdd, Int.reduceSub, Int.reduceMul, Int.reduceNeg, Int.reduceEq, Int.reduceNe, e0, e1, e6, e7, e8, r2, Int.toNat_natCast, Int.cast_ofNat_Int, Int.toNat_zero, List.getElem?_cons_zero]
    exact .inl ⟨rfl, 0, by simp, rfl, rfl⟩
   ·
    simp only [go_sem, Nat.reduceEqDiff, reduceIte, Nat.reduceAdd, Nat.reduceMul, Nat.reduceSub, Nat.reduceLT, Nat.reduceLeDiff, Int.reduceToNat, Int.reduceBEq, Int.reduceBNe, Int.reduceLT, Int.reduceLE, Int.reduceAdd, Int.reduceSub, Int.reduceMul, Int.reduceNeg, Int.reduceEq, Int.reduceNe, e0, e1, e6, e7, e8, r2, Int.toNat_natCast, Int.cast_ofNat_Int, Int.toNat_one, List.getElem?_cons_succ, List.getElem?_cons_zero]
    exact .inr ⟨rfl, rfl⟩
  intro ρ4 V4 hs4 a4 W4 t4 ⟨⟨e0, e1, e6, e7, e8⟩, hp⟩ _ hst4
  refine wpIn_block ?_
  refine wpIn_loop (I := fun a w => ∃ (k n : Nat) (r : List Int) (ρ : Rho) (V : View) (hs : HS) (t : Nat → AV), (L.drop k = blkN n r ++ restB hd bd (j + 1) ∧ r.length ≤ n ∧ k ≤ L.length) ∧ (t 0 = .v Y ∧ t 1 = .ptr p 0 ∧ t 6 = .ref q 0 2 1 ∧ t 7 = vi 2 ∧ t 8 = vi (j : Int)) ∧ Part h hd bd j (t 4) r ∧ StJ Try.f60.ntmps t (J k) ρ V hs a w)
   (fun a _ => slen (a.tmps.getD 4 undef)) ⟨k, (if j = 0 then hd else bd).length, _, ρ4, V4, hs4, t4, ⟨?_, Nat.le_refl _, hkl⟩, ⟨e0, e1, e6, e7, e8⟩, hp, hst4⟩ ?_
  ·
   rw [hk]
   obtain rfl | rfl : j = 0 ∨ j = 1 := by omega
   ·
    rfl
   ·
    exact (List.append_nil _).symm
  clear hst4 hp e0 e1 e6 e7 e8 e9 hc9 r1 r2 r3 hst3 hst2 hk hkl
  rintro a4 w4 ⟨k, n, r, ρ5, V5, hs5, t5, ⟨hk, hn, hkl⟩, ⟨e0, e1, e6, e7, e8⟩, hp, hst5⟩
  have hsl : slen (a4.tmps.getD 4 undef) = r.length := by
   rcases hp with ⟨_, off, _, _, e4⟩ | ⟨_, e4⟩
   ·
    exact slen_ref (e4 ▸ hst5.tm 4)
   ·
    exact slen_imm (e4 ▸ hst5.tm 4)
  refine wpIn_seq ?_
  refine wpIn_seq ?_
  refine iter_region hC (hAb _) (by decide +kernel) (by decide +kernel) (K := fun t => (t 0 = .v Y ∧ t 1 = .ptr p 0 ∧ t 6 = .ref q 0 2 1 ∧ t 7 = vi 2 ∧ t 8 = vi (j : Int)) ∧ Part h hd bd j (t 4) r ∧ t 14 = vb (decide (0 < (r.length : Int)))) hst5 ?_ ?_
  ·
   rcases hp with ⟨rfl, off, x1, x2, e4⟩ | ⟨rfl, e4⟩
   ·
    simp only [go_sem, Nat.reduceEqDiff, reduceIte, Nat.reduceAdd, Nat.reduceMul, Nat.reduceSub, Nat.reduceLT, Nat.reduceLeDiff, Int.reduceToNat, Int.reduceBEq, Int.reduceBNe, Int.reduceLT, Int.reduceLE, Int.reduceAdd, Int.reduceSub, Int.reduceMul, Int.reduceNeg, Int.reduceEq, Int.reduceNe, e0, e1, e6, e7, e8, e4]
    exact .inl ⟨rfl, off, x1, x2, rfl⟩
   ·
    simp only [go_sem, Nat.reduceEqDiff, reduceIte, Nat.reduceAdd, Nat.reduceMul, Nat.reduceSub, Nat.reduceLT, Nat.reduceLeDiff, Int.reduceToNat, Int.reduceBEq, Int.reduceBNe, Int.reduceLT, Int.reduceLE, Int.reduceAdd, Int.reduceSub, Int.reduceMul, Int.reduceNeg, Int.reduceEq, Int.reduceNe, e0, e1, e6, e7, e8, e4]
    exact .inr ⟨rfl, rfl⟩
  intro ρ6 V6 hs6 a6 W6 t6 ⟨⟨e0, e1, e6, e7, e8⟩, hp, e14⟩ _ hst6
  have hsl6 : slen (a6.tmps.getD 4 undef) = r.length := by
   rcases hp with ⟨_, off, _, _, e4⟩ | ⟨_, e4⟩
   ·
    exact slen_ref (e4 ▸ hst6.tm 4)
   ·
    exact slen_imm (e4 ▸ hst6.tm 4)
  have hc14 : a6.eval (.tmp 14) = .bool (decide (0 < (r.length : Int))) := by
   have := ev_rel (C := K) (s := { toHS := hs6, tmps := t6 }) hst6.tm ((hAb _).inv _ _ _ _ hst6.j).2 (.tmp 14)
   rw [show ev K { toHS := hs6, tmps := t6 } (.tmp 14) = t6 14 from rfl, e14] at this
   exact Rel.v_inv this
  refine wpIn_cond_split hc14 (fun hlt4 => ?_) (fun hge4 => ?_)
  ·
   have hr : 0 < r.length := by have := of_decide_eq_true hlt4; omega
   obtain ⟨n, rfl⟩ : ∃ m, n = m + 1 := ⟨n - 1, by omega⟩
   rw [blkN_cons hr, List.cons_append] at hk
   refine wpIn_skip ?_
   refine wpIn_block ?_
   refine wpIn_seq ?_
   obtain ⟨⟨r1, r2, r3⟩, ⟨n1, n2, n3⟩, hav⟩ := hRd _ _ _ _ _ hst6.j
   have hLo := StJ.lo (hAb k) hst6.j
   refine iter_awp hC hLo (by decide +kernel) (by decide +kernel) (K := fun s' => s' = { objs := upd hs6.objs hs6.next (.live (e_A16vu A16vu.z)), next := hs6.next + 1, tmps := upd t6 5 (.ptr hs6.next 0) }) (GS.weak (hst6.gs (hAb k) 0)) ?_ ?_
   ·
    refine awp_reg1 fun KK hKK => ?_
    refine xw_id ?_
    simp only [go_sem, Nat.reduceEqDiff, reduceIte, Nat.reduceAdd, Nat.reduceMul, Nat.reduceSub, Nat.reduceLT, Nat.reduceLeDiff, Int.reduceToNat, Int.reduceBEq, Int.reduceBNe, Int.reduceLT, Int.reduceLE, Int.reduceAdd, Int.reduceSub, Int.reduceMul, Int.reduceNeg, Int.reduceEq, Int.reduceNe]
    exact hKK _ ⟨rfl, rfl⟩
   rintro s7 a7 W7 rfl hg7
   refine wpIn_seq ?_
   refine iter_awp hC hLo (by decide +kernel) (by decide +kernel) (K := fun s' => s'.objs = upd hs6.objs hs6.next (.live (e_A16vu (A16vu.of (r.take 16 ++ List.replicate 16 0)))) ∧ (s'.tmps 0 = .v Y ∧ s'.tmps 1 = .ptr p 0 ∧ s'.tmps 6 = .ref q 0 2 1 ∧ s'.tmps 7 = vi 2 ∧ s'.tmps 8 = vi (j : Int) ∧ s'.tmps 5 = .ptr hs6.next 0) ∧ Part h hd bd j (s'.tmps 4) (r.drop 16)) hg7 ?_ ?_
   ·
    refine awp_reg1 fun KK hKK => ?_
    refine xw_id ?_
    have nh : (h = hs6.next) = False := eq_false (by omega)
    have gp := putB r
    have gm : ((min r.length 16 : Nat) : Int).toNat = min r.length 16 := Int.toNat_natCast _
    have gl : (((min r.length 16 : Nat) : Int) ≤ ((r.length : Nat) : Int)) = True := eq_true (by omega)
    have g0 : ((0 : Int) ≤ ((min r.length 16 : Nat) : Int)) = True := eq_true (by omega)
    have gx : (min r.length 16 ≤ 16) = True := eq_true (by omega)
    have gt : ((r.length : Int) - ((min r.length 16 : Nat) : Int)).toNat = (r.drop 16).length := by rw [List.length_drop]; omega
    have gd : List.drop (min r.length 16) r = r.drop 16 := by
     by_cases hx : r.length ≤ 16
     ·
      rw [Nat.min_eq_left hx, List.drop_length, List.drop_of_length_le hx]
     ·
      rw [Nat.min_eq_right (by omega)]
    rcases hp with ⟨rfl, off, x1, x2, e4⟩ | ⟨rfl, e4⟩
    ·
     have gs : sub? (List.map vu hd) off r.length = some (List.map vu r) := by
      have := map_subD vu hd off (by omega)
      rwa [show hd.length - off = r.length by omega, ← x2] at this
     simp only [go_sem, Nat.reduceEqDiff, reduceIte, Nat.reduceAdd, Nat.reduceMul, Nat.reduceSub, Nat.reduceLT, Nat.reduceLeDiff, Int.reduceToNat, Int.reduceBEq, Int.reduceBNe, Int.reduceLT, Int.reduceLE, Int.reduceAdd, Int.reduceSub, Int.reduceMul, Int.reduceNeg, Int.reduceEq, Int.reduceNe, e0, e1, e6, e7, e8, e4, nh, r3, gs, gp, gm, gl, g0, gx]
     refine hKK _ ⟨rfl, updB _ _ _ _, ⟨e0, e1, e6, e7, e8, rfl⟩, .inl ⟨rfl, off + min r.length 16, by rw [List.length_drop]; omega, ?_, by show AV.ref h _ _ 1 = AV.ref h _ _ 1; rw [gt]⟩⟩
     rw [← List.drop_drop, ← x2, gd]
    ·
     simp only [go_sem, Nat.reduceEqDiff, reduceIte, Nat.reduceAdd, Nat.reduceMul, Nat.reduceSub, Nat.reduceLT, Nat.reduceLeDiff, Int.reduceToNat, Int.reduceBEq, Int.reduceBNe, Int.reduceLT, Int.reduceLE, Int.reduceAdd, Int.reduceSub, Int.reduceMul, Int.reduceNeg, Int.reduceEq, Int.reduceNe, e0, e1, e6, e7, e8, e4, nh, r3, gp, gm, gl, g0, gx]
     refine hKK _ ⟨rfl, updB _ _ _ _, ⟨e0, e1, e6, e7, e8, rfl⟩, .inr ⟨rfl, ?_⟩⟩
     show AV.imm _ _ = AV.imm _ _
     rw [gt, gd, List.take_length]
   rintro ⟨⟨o8, n8⟩, t8⟩ a8 W8 ⟨k1, ⟨e0, e1, e6, e7, e8, e5⟩, hp8⟩ hg8
   simp only at k1 e0 e1 e6 e7 e8 e5 hp8
   refine wpIn_seq ?_
   refine iter_yieldG hC (hAb k) (hAb (k + 1)) hAx (by decide +kernel) (by decide +kernel) 2 _ rfl (l := lo) rfl rfl rfl rfl (x := [.agg (e_A16vu (A16vu.of (r.take 16 ++ List.replicate 16 0)))])
    (K1 := fun t => (t 0 = .v Y ∧ t 1 = .ptr p 0 ∧ t 6 = .ref q 0 2 1 ∧ t 7 = vi 2 ∧ t 8 = vi (j : Int)) ∧ Part h hd bd j (t 4) (r.drop 16) ∧ t 20 = .v Y ∧ t 21 = .agg (e_A16vu (A16vu.of (r.take 16 ++ List.replicate 16 0))))
    (K2 := fun b t => (t 0 = .v Y ∧ t 1 = .ptr p 0 ∧ t 6 = .ref q 0 2 1 ∧ t 7 = vi 2 ∧ t 8 = vi (j : Int)) ∧ Part h hd bd j (t 4) (r.drop 16) ∧ t 23 = vb (!b)) hst6.j hg8 ?_ ?_ ?_ ?_ ?_ ?_
   ·
    have g5 : o8 hs6.next = .live (e_A16vu (A16vu.of (r.take 16 ++ List.replicate 16 0))) := by rw [k1, upd_eq]
    simp only [List.take_succ_cons, List.take_zero, go_sem, Nat.reduceEqDiff, reduceIte, Nat.reduceAdd, Nat.reduceMul, Nat.reduceSub, Nat.reduceLT, Nat.reduceLeDiff, Int.reduceToNat, Int.reduceBEq, Int.reduceBNe, Int.reduceLT, Int.reduceLE, Int.reduceAdd, Int.reduceSub, Int.reduceMul, Int.reduceNeg, Int.reduceEq, Int.reduceNe, e0, e1, e6, e7, e8, e5, g5]
    have a4 : Av hs6.next (t8 4) := by
     rcases hp8 with ⟨_, off, _, _, e4⟩ | ⟨_, e4⟩
     ·
      rw [e4]; exact Av.ref (by omega)
     ·
      rw [e4]; exact Av.clean (Clean.imm (vu_clean _))
    refine ⟨{ objs := hs6.objs, next := _, tmps := upd (upd (upd (upd (upd (upd (upd (upd (fun _ => .unk) 0 (.v Y)) 1 (.ptr p 0)) 6 (.ref q 0 2 1)) 7 (vi 2)) 8 (vi (j : Int))) 4 (t8 4)) 20 (.v Y)) 21 (.agg (e_A16vu (A16vu.of (r.take 16 ++ List.replicate 16 0)))) },
     Wk.forget hs6.next (Nat.le_refl _) (fun id hid => by rw [k1, upd_ne _ _ hid]) (fun id c _ h x hx => hav id c h x hx _ (Nat.le_refl _))
      (htU (htU (htU (htU (htU (htU (htU (htU (fun _ => .inl rfl) e0 (Av.clean (Clean.v _))) e1 (Av.ptr (by omega))) e6 (Av.ref (by omega))) e7 (Av.clean (Clean.v _))) e8 (Av.clean (Clean.v _))) rfl a4) rfl (Av.clean (Clean.v _))) rfl (Av.clean (Clean.agg (e_A16vu_clean _)))), rfl, ⟨rfl, rfl, rfl, rfl, rfl⟩, hp8, rfl, rfl⟩
   ·
    rintro t1 hs' ⟨_, _, h20, h21⟩
    exact ⟨by rw [hY]; exact h20, by show [t1 21] = _; rw [h21]⟩
   ·
    intro ρ' V' hs' W' args' _ hj hargs
    exact hy _ _ _ _ _ _ _ hj (blkX_get hk) hargs
   ·
    rintro b t1 hs' ⟨⟨e0, e1, e6, e7, e8⟩, hp, _⟩
    simp only [go_sem, Nat.reduceEqDiff, reduceIte, Nat.reduceAdd, Nat.reduceMul, Nat.reduceSub, Nat.reduceLT, Nat.reduceLeDiff, Int.reduceToNat, Int.reduceBEq, Int.reduceBNe, Int.reduceLT, Int.reduceLE, Int.reduceAdd, Int.reduceSub, Int.reduceMul, Int.reduceNeg, Int.reduceEq, Int.reduceNe, e0, e1, e6, e7, e8]
    exact hp
   ·
    rintro ρ9 V9 hs9 a9 W9 t9 ⟨⟨e0, e1, e6, e7, e8⟩, hp9, e23⟩ _ hst9
    have hc : a9.eval (.tmp 23) = .bool false := by
     have := ev_rel (C := K) (s := { toHS := hs9, tmps := t9 }) hst9.tm ((hAb _).inv _ _ _ _ hst9.j).2 (.tmp 23)
     rw [show ev K { toHS := hs9, tmps := t9 } (.tmp 23) = t9 23 from rfl, e23] at this
     exact Rel.v_inv this
    refine wpIn_cond_false hc (wpIn_skip ?_)
    have hkl' : k + 1 ≤ L.length := by
     have := congrArg List.length hk
     simp only [List.length_drop, List.length_cons] at this
     omega
    refine ⟨⟨k + 1, n, r.drop 16, ρ9, V9, hs9, t9, ⟨blkX_drop hk, by rw [List.length_drop]; omega, hkl'⟩, ⟨e0, e1, e6, e7, e8⟩, hp9, hst9⟩, ?_⟩
    show slen (a9.tmps.getD 4 undef) < slen (a4.tmps.getD 4 undef)
    have hsl9 : slen (a9.tmps.getD 4 undef) = (r.drop 16).length := by
     rcases hp9 with ⟨_, off, _, _, e4⟩ | ⟨_, e4⟩
     ·
      exact slen_ref (e4 ▸ hst9.tm 4)
     ·
      exact slen_imm (e4 ▸ hst9.tm 4)
    rw [hsl9, hsl, List.length_drop]
    omega
   ·
    rintro ρ9 V9 hs9 a9 W9 t9 ⟨_, _, e23⟩ _ hst9
    have hc : a9.eval (.tmp 23) = .bool true := by
     have := ev_rel (C := K) (s := { toHS := hs9, tmps := t9 }) hst9.tm (hAx.inv _ _ _ _ hst9.j).2 (.tmp 23)
     rw [show ev K { toHS := hs9, tmps := t9 } (.tmp 23) = t9 23 from rfl, e23] at this
     exact Rel.v_inv this
    refine wpIn_cond_true hc (wpIn_ret ?_)
    exact iter_end (R := fun e W' => (∃ v, e = .returned v) ∧ ∃ ρ' V' hs', J (blkX L).length ρ' V' hs' W' ∨ Jx ρ' V' hs' W') hst9 rfl (fun v h => ⟨⟨v, rfl⟩, _, _, _, .inr h⟩)
  ·
   have hr : r = [] := by
    have := of_decide_eq_false hge4
    exact List.eq_nil_of_length_eq_zero (by omega)
   subst hr
   rw [blkN_nil, List.nil_append] at hk
   refine wpIn_exit ?_
   show Code.wpIn _ _ _ _ _ _ _
   refine iter_region hC (hAb _) (by decide +kernel) (by decide +kernel) (K := fun t => t 0 = .v Y ∧ t 1 = .ptr p 0 ∧ t 6 = .ref q 0 2 1 ∧ t 7 = vi 2 ∧ t 8 = vi ((j : Int) + 1)) hst6 ?_ ?_
   ·
    simp only [go_sem, Nat.reduceEqDiff, reduceIte, Nat.reduceAdd, Nat.reduceMul, Nat.reduceSub, Nat.reduceLT, Nat.reduceLeDiff, Int.reduceToNat, Int.reduceBEq, Int.reduceBNe, Int.reduceLT, Int.reduceLE, Int.reduceAdd, Int.reduceSub, Int.reduceMul, Int.reduceNeg, Int.reduceEq, Int.reduceNe, e0, e1, e6, e7, e8, wrapI (show -4611686018427387904 ≤ (j : Int) + 1 by omega) (show (j : Int) + 1 < 4611686018427387904 by omega)]
    try exact ⟨rfl, rfl, rfl, rfl, rfl, rfl⟩
   rintro ρ9 V9 hs9 a9 W9 t9 ⟨e0, e1, e6, e7, e8⟩ _ hst9
   refine ⟨⟨k, j + 1, ρ9, V9, hs9, t9, by omega, ⟨hk, hkl⟩, ⟨e0, e1, e6, e7, by rw [e8]; rfl⟩, hst9⟩, ?_⟩
   have h8 : a9.tmps.getD 8 undef = .int .i64 ((j : Int) + 1) := by
    have := hst9.tm 8
    rw [e8] at this
    exact Rel.v_inv this
   show (match a9.tmps.getD 8 undef with | .int _ n => (2 - n).toNat | _ => 0) < (match a.tmps.getD 8 undef with | .int _ n => (2 - n).toNat | _ => 0)
   rw [h8, hk8]
   show (2 - ((j : Int) + 1)).toNat < (2 - (j : Int)).toNat
   omega
 ·
  have hj2 : j = 2 := by have := of_decide_eq_false hge; omega
  subst hj2
  have hkL : k = L.length := by
   have : L.drop k = [] := hk
   have := congrArg List.length this
   simp only [List.length_drop, List.length_nil] at this
   omega
  subst hkL
  refine wpIn_exit ?_
  exact iter_end (R := fun e W' => (∃ v, e = .returned v) ∧ ∃ ρ' V' hs', J (blkX L).length ρ' V' hs' W' ∨ Jx ρ' V' hs' W') hst3 rfl (fun v h => ⟨⟨v, rfl⟩, _, _, _, .inl (by rw [show (blkX L).length = L.length from List.length_map _]; exact h)⟩)

theorem blk_snd (q : Nat) (hs : HS) : Snd K 47 [.ref q 0 2 1] hs (fun r hs' => r = .clo 60 [] [.ptr hs.next 0] ∧ hs'.objs = upd hs.objs hs.next (.live [.ref q 0 2 1]) ∧ hs.next < hs'.next) := by
 obtain ⟨objs, nx⟩ := hs
 refine snd_of_awp hC (fn := Try.f47) Try.func47 rfl rfl (by decide +kernel) (Nat.le_of_ble_eq_true rfl) ?_
 refine awp_reg fun KK hKK => ?_
 refine xw_id ?_
 simp only [init, List.getD_cons_zero, go_sem, Nat.reduceEqDiff, reduceIte, Nat.reduceAdd]
 refine hKK _ ?_; clear hKK KK
 refine awp_reg fun KK hKK => ?_
 refine xw_id ?_
 simp only [go_sem, Nat.reduceEqDiff, reduceIte, Nat.reduceAdd]
 refine hKK _ ?_; clear hKK KK
 refine awp_ret1 ?_
 refine end_ret0 (fn := Try.f47) (rs := #[.tmp 2]) rfl (by simp only [go_sem, resV, resAll, resOf, packR, Nat.reduceEqDiff, reduceIte, Nat.reduceAdd]; rfl) ?_
 exact ⟨rfl, rfl, by show nx < nx + 2 + 2; omega⟩

def tlC (c : Option Code) : Code := match c with
 | some (.seq _ (.seq _ (.seq _ (.seq _ (.seq _ (.seq x _)))))) => x
 | _ => .skip

theorem code_loop {rest : Code} {Q : AExit → AS → Prop} {s : AS} (key c0 : A16vu) (hd bd : List Int) {cF : A16vu} (h3 : s.tmps 3 = .imm (List.map vu bd) bd.length) (h8 : s.tmps 8 = .ptr 0 0) (h10 : s.tmps 10 = .ptr 1 0) (h11 : s.tmps 11 = .ptr 2 0) (h12 : s.tmps 12 = .ref 4 0 hd.length 1)
  (g0 : s.objs 0 = .live (e_A8vu A8vu.z)) (g1 : s.objs 1 = .live (e_A16vu c0)) (g2 : s.objs 2 = .live [.clo 46 [] [.ptr 1 0, .ptr 3 0]]) (g3 : s.objs 3 = .live (e_A16vu key)) (g4 : s.objs 4 = .live (List.map vu hd)) (hn : s.next = 5) (gx : ∀ id, 5 ≤ id → s.objs id = .dead)
  (hc : codeL key c0 (blkL hd ++ blkL bd) = some cF)
  (h : awp 0 K rest Q { objs := upd (upd (fun _ => .dead) 0 (.live (e_A8vu A8vu.z))) 1 (.live (e_A16vu cF)), next := 2, tmps := upd (upd (fun _ => .unk) 8 (.ptr 0 0)) 10 (.ptr 1 0) }) :
  awp 0 K (.seq (tlC Try.f38.body) rest) Q s := by
 obtain ⟨⟨objs, nx⟩, tm⟩ := s
 simp only at h3 h8 h10 h11 h12 g0 g1 g2 g3 g4 gx hn
 subst hn
 show awp 0 K (.seq (.seq _ _) rest) Q _
 refine awp_assoc ?_
 refine awp_reg fun KK hKK => ?_
 refine xw_id ?_
 simp only [go_sem, Nat.reduceEqDiff, reduceIte, Nat.reduceAdd, Nat.reduceMul, Nat.reduceSub, Nat.reduceLT, Nat.reduceLeDiff, Int.reduceToNat, Int.reduceBEq, Int.reduceBNe, Int.reduceLT, Int.reduceLE, Int.reduceAdd, Int.reduceSub, Int.reduceMul, Int.reduceNeg, Int.reduceEq, Int.reduceNe, h3, h12]
 refine xcall_g (blk_snd 7 _) ?_
 rintro r' hs' ⟨rfl, hob, hnx⟩
 obtain ⟨objs', nx'⟩ := hs'
 simp only at hob hnx
 try dsimp only
 refine hKK _ ?_; clear hKK KK
 have k9 : objs' 9 = .live [.ref 7 0 2 1] := by rw [hob, upd_eq]
 have k7 : objs' 7 = .live [.ref 4 0 hd.length 1, .imm (List.map vu bd) bd.length] := by rw [hob, upd_ne _ _ (by decide), upd_eq]
 have k0 : objs' 0 = .live (e_A8vu A8vu.z) := by rw [hob, upd_ne _ _ (by decide), upd_ne _ _ (by decide)]; exact g0
 have k1 : objs' 1 = .live (e_A16vu c0) := by rw [hob, upd_ne _ _ (by decide), upd_ne _ _ (by decide)]; exact g1
 have k2 : objs' 2 = .live [.clo 46 [] [.ptr 1 0, .ptr 3 0]] := by rw [hob, upd_ne _ _ (by decide), upd_ne _ _ (by decide)]; exact g2
 have k3 : objs' 3 = .live (e_A16vu key) := by rw [hob, upd_ne _ _ (by decide), upd_ne _ _ (by decide)]; exact g3
 have k4 : objs' 4 = .live (List.map vu hd) := by rw [hob, upd_ne _ _ (by decide), upd_ne _ _ (by decide)]; exact g4
 have kx : ∀ id, 5 ≤ id → id ≠ 7 → id ≠ 9 → objs' id = .dead := fun id h1 h2 h3 => by rw [hob, upd_ne _ _ h3, upd_ne _ _ h2]; exact gx id h1
 clear hob g0 g1 g2 g3 g4 gx
 generalize hL : blkL hd ++ blkL bd = L at *
 refine awp_blockW ?_
 refine awp_rangeFunc hC (gf := 60) (caps := [.ptr 9 0]) (xs := blkX L) rfl (hL ▸ blk_iter hd bd 9 7 4) ⟨Try.f60, Try.func60, rfl, rfl⟩ (by
   intro x hx
   obtain ⟨b, _, rfl⟩ := List.mem_map.1 hx
   rfl) (by decide +kernel) (by decide +kernel)
  (fun i hs => 9 < hs.next ∧ (hs.objs 9 = .live [.ref 7 0 2 1] ∧ hs.objs 7 = .live [.ref 4 0 hd.length 1, .imm (List.map vu bd) bd.length] ∧ hs.objs 0 = .live (e_A8vu A8vu.z) ∧ hs.objs 2 = .live [.clo 46 [] [.ptr 1 0, .ptr 3 0]] ∧
   hs.objs 3 = .live (e_A16vu key) ∧ hs.objs 4 = .live (List.map vu hd)) ∧ (∃ c, hs.objs 1 = .live (e_A16vu c) ∧ codeL key c (L.drop i) = some cF) ∧ ∀ id, 5 ≤ id → id ≠ 7 → id ≠ 9 → ∀ c, hs.objs id = .live c ∨ hs.objs id = .froz c → ∀ x ∈ c, Clean x)
  (fun e hs => False) ?_ ?_ ?_ ?_ ?_ ?_ ?_
 ·
  rintro i ⟨ob, n⟩ n' ⟨a1, a2⟩ hle
  exact ⟨by simp only at a1 hle ⊢; omega, a2⟩
 ·
  intro e hs n hf _; exact hf
 ·
  rintro i ⟨ob, n⟩ ⟨a1, ⟨k9, k7, k0, k2, k3, k4⟩, ⟨c, k1, _⟩, kc⟩
  simp only at a1 k9 k7 k0 k2 k3 k4 k1 kc
  refine ⟨⟨k9, k7, k4⟩, ⟨by show 9 < n; omega, by show 7 < n; omega, by show 4 < n; omega⟩, ?_⟩
  intro id d hd' x hx m hm
  simp only at hd' hm
  by_cases h5 : 5 ≤ id ∧ id ≠ 7 ∧ id ≠ 9
  ·
   exact Av.clean (kc id h5.1 h5.2.1 h5.2.2 d hd' x hx)
  ·
   have : id = 0 ∨ id = 1 ∨ id = 2 ∨ id = 3 ∨ id = 4 ∨ id = 7 ∨ id = 9 := by omega
   rcases this with rfl | rfl | rfl | rfl | rfl | rfl | rfl
   ·
    rw [k0] at hd'; rcases hd' with hd' | hd' <;> cases hd'; exact Av.clean (e_A8vu_clean _ x hx)
   ·
    rw [k1] at hd'; rcases hd' with hd' | hd' <;> cases hd'; exact Av.clean (e_A16vu_clean _ x hx)
   ·
    rw [k2] at hd'; rcases hd' with hd' | hd' <;> cases hd'
    rw [List.mem_singleton.1 hx]
    refine Av.clo (fun x h => by cases h) (fun x h => ?_)
    simp only [List.mem_cons, List.not_mem_nil, or_false] at h
    rcases h with rfl | rfl <;> exact Av.ptr (by omega)
   ·
    rw [k3] at hd'; rcases hd' with hd' | hd' <;> cases hd'; exact Av.clean (e_A16vu_clean _ x hx)
   ·
    rw [k4] at hd'; rcases hd' with hd' | hd' <;> cases hd'; exact Av.clean (vu_clean _ x hx)
   ·
    rw [k7] at hd'; rcases hd' with hd' | hd' <;> cases hd'
    simp only [List.mem_cons, List.not_mem_nil, or_false] at hx
    rcases hx with rfl | rfl
    ·
     exact Av.ref (by omega)
    ·
     exact Av.clean (Clean.imm (vu_clean _))
   ·
    rw [k9] at hd'; rcases hd' with hd' | hd' <;> cases hd'
    rw [List.mem_singleton.1 hx]; exact Av.ref (by omega)
 ·
  refine ⟨hnx, ⟨k9, k7, k0, k2, k3, k4⟩, ⟨c0, k1, hc⟩, ?_⟩
  intro id h1 h2 h3 c hc'
  simp only at hc'
  rw [kx id h1 h2 h3] at hc'
  rcases hc' with hc' | hc' <;> cases hc'
 ·
  rintro i x ⟨ob, n⟩ hx ⟨a1, ⟨k9, k7, k0, k2, k3, k4⟩, ⟨c, k1, hcc⟩, kc⟩
  simp only at a1 k9 k7 k0 k2 k3 k4 k1 kc
  obtain ⟨b, hb, rfl⟩ : ∃ b, L[i]? = some b ∧ x = [.agg (e_A16vu b)] := by
   unfold blkX at hx
   rw [List.getElem?_map] at hx
   obtain ⟨b, hb, hx⟩ := Option.map_eq_some_iff.1 hx
   exact ⟨b, hb, hx.symm⟩
  have hdr : L.drop i = b :: L.drop (i + 1) := by
   obtain ⟨hi, rfl⟩ := List.getElem?_eq_some_iff.1 hb
   exact List.drop_eq_getElem_cons hi
  rw [hdr, codeL] at hcc
  obtain ⟨c', hc1, hcc⟩ := bnd hcc
  have n0 : (0 = n) = False := eq_false (by omega)
  have n1 : (1 = n) = False := eq_false (by omega)
  have n2 : (2 = n) = False := eq_false (by omega)
  have n3 : (3 = n) = False := eq_false (by omega)
  refine awp_reg1 fun KK hKK => ?_
  refine xw_id ?_
  simp only [putAll, go_sem, Nat.reduceEqDiff, reduceIte, Nat.reduceAdd, Nat.reduceMul, Nat.reduceSub, Nat.reduceLT, Nat.reduceLeDiff, Int.reduceToNat, Int.reduceBEq, Int.reduceBNe, Int.reduceLT, Int.reduceLE, Int.reduceAdd, Int.reduceSub, Int.reduceMul, Int.reduceNeg, Int.reduceEq, Int.reduceNe]
  refine hKK _ ?_; clear hKK KK
  rw [seqQ_n]
  refine awp_block1 ?_
  refine awp_reg1 fun KK hKK => ?_
  refine xw_id ?_
  simp only [go_sem, Nat.reduceEqDiff, reduceIte, Nat.reduceAdd, Nat.reduceMul, Nat.reduceSub, Nat.reduceLT, Nat.reduceLeDiff, Int.reduceToNat, Int.reduceBEq, Int.reduceBNe, Int.reduceLT, Int.reduceLE, Int.reduceAdd, Int.reduceSub, Int.reduceMul, Int.reduceNeg, Int.reduceEq, Int.reduceNe, h11, k2, n2]
  refine xcall_O [1, 3] (seal_Code_1_io b c key hc1) (by decide) (by intro x hx; simp only [List.mem_cons, List.not_mem_nil, or_false] at hx; rcases hx with rfl | rfl <;> omega) ⟨(by simp only [upd_get, Nat.reduceEqDiff, reduceIte, Nat.reduceAdd, Nat.reduceMul, Nat.reduceSub, Nat.reduceLT, Nat.reduceLeDiff, Int.reduceToNat, Int.reduceBEq, Int.reduceBNe, Int.reduceLT, Int.reduceLE, Int.reduceAdd, Int.reduceSub, Int.reduceMul, Int.reduceNeg, Int.reduceEq, Int.reduceNe, n1, if_false]; exact k1), (by simp only [upd_get, Nat.reduceEqDiff, reduceIte, Nat.reduceAdd, Nat.reduceMul, Nat.reduceSub, Nat.reduceLT, Nat.reduceLeDiff, Int.reduceToNat, Int.reduceBEq, Int.reduceBNe, Int.reduceLT, Int.reduceLE, Int.reduceAdd, Int.reduceSub, Int.reduceMul, Int.reduceNeg, Int.reduceEq, Int.reduceNe, n3, if_false]; exact k3), trivial⟩ (by rfl) ?_; try dsimp only
  try refine xw_id ?_
  try simp only [go_sem, Nat.reduceEqDiff, reduceIte, Nat.reduceAdd, Nat.reduceMul, Nat.reduceSub, Nat.reduceLT, Nat.reduceLeDiff, Int.reduceToNat, Int.reduceBEq, Int.reduceBNe, Int.reduceLT, Int.reduceLE, Int.reduceAdd, Int.reduceSub, Int.reduceMul, Int.reduceNeg, Int.reduceEq, Int.reduceNe]
  refine hKK _ ?_; clear hKK KK
  rw [blkQ_n]
  have m9 : (9 = n) = False := eq_false (by omega)
  have m7 : (7 = n) = False := eq_false (by omega)
  have m4 : (4 = n) = False := eq_false (by omega)
  refine ⟨by show 9 < _; simp only; omega, ⟨?_, ?_, ?_, ?_, ?_, ?_⟩, ⟨c', ?_, hcc⟩, ?_⟩
  ·
   simp only [upd_get, Nat.reduceEqDiff, reduceIte, Nat.reduceAdd, Nat.reduceMul, Nat.reduceSub, Nat.reduceLT, Nat.reduceLeDiff, Int.reduceToNat, Int.reduceBEq, Int.reduceBNe, Int.reduceLT, Int.reduceLE, Int.reduceAdd, Int.reduceSub, Int.reduceMul, Int.reduceNeg, Int.reduceEq, Int.reduceNe, m9, if_false]; exact k9
  ·
   simp only [upd_get, Nat.reduceEqDiff, reduceIte, Nat.reduceAdd, Nat.reduceMul, Nat.reduceSub, Nat.reduceLT, Nat.reduceLeDiff, Int.reduceToNat, Int.reduceBEq, Int.reduceBNe, Int.reduceLT, Int.reduceLE, Int.reduceAdd, Int.reduceSub, Int.reduceMul, Int.reduceNeg, Int.reduceEq, Int.reduceNe, m7, if_false]; exact k7
  ·
   simp only [upd_get, Nat.reduceEqDiff, reduceIte, Nat.reduceAdd, Nat.reduceMul, Nat.reduceSub, Nat.reduceLT, Nat.reduceLeDiff, Int.reduceToNat, Int.reduceBEq, Int.reduceBNe, Int.reduceLT, Int.reduceLE, Int.reduceAdd, Int.reduceSub, Int.reduceMul, Int.reduceNeg, Int.reduceEq, Int.reduceNe, n0, if_false]; exact k0
  ·
   simp only [upd_get, Nat.reduceEqDiff, reduceIte, Nat.reduceAdd, Nat.reduceMul, Nat.reduceSub, Nat.reduceLT, Nat.reduceLeDiff, Int.reduceToNat, Int.reduceBEq, Int.reduceBNe, Int.reduceLT, Int.reduceLE, Int.reduceAdd, Int.reduceSub, Int.reduceMul, Int.reduceNeg, Int.reduceEq, Int.reduceNe, n2, if_false]; exact k2
  ·
   simp only [upd_get, Nat.reduceEqDiff, reduceIte, Nat.reduceAdd, Nat.reduceMul, Nat.reduceSub, Nat.reduceLT, Nat.reduceLeDiff, Int.reduceToNat, Int.reduceBEq, Int.reduceBNe, Int.reduceLT, Int.reduceLE, Int.reduceAdd, Int.reduceSub, Int.reduceMul, Int.reduceNeg, Int.reduceEq, Int.reduceNe, n3, if_true, if_false]
  ·
   simp only [upd_get, Nat.reduceEqDiff, reduceIte, Nat.reduceAdd, Nat.reduceMul, Nat.reduceSub, Nat.reduceLT, Nat.reduceLeDiff, Int.reduceToNat, Int.reduceBEq, Int.reduceBNe, Int.reduceLT, Int.reduceLE, Int.reduceAdd, Int.reduceSub, Int.reduceMul, Int.reduceNeg, Int.reduceEq, Int.reduceNe, m4, if_false]; exact k4
  ·
   simp only [upd_get, Nat.reduceEqDiff, reduceIte, Nat.reduceAdd, Nat.reduceMul, Nat.reduceSub, Nat.reduceLT, Nat.reduceLeDiff, Int.reduceToNat, Int.reduceBEq, Int.reduceBNe, Int.reduceLT, Int.reduceLE, Int.reduceAdd, Int.reduceSub, Int.reduceMul, Int.reduceNeg, Int.reduceEq, Int.reduceNe, n1, if_true, if_false]
  ·
   intro id q1 q2 q3 d hd' y hy'
   have p1 : (id = 1) = False := eq_false (by omega)
   have p3 : (id = 3) = False := eq_false (by omega)
   by_cases hin : id = n
   ·
    subst hin
    simp only [upd_get, p1, p3, if_true, if_false] at hd'
    rcases hd' with hd' | hd' <;> cases hd'
    exact e_A16vu_clean _ y hy'
   ·
    have pn : (id = n) = False := eq_false hin
    simp only [upd_get, p1, p3, pn, if_false] at hd'
    exact kc id q1 q2 q3 d hd' y hy'
 ·
  rintro ⟨ob, n⟩ ⟨a1, ⟨k9, k7, k0, k2, k3, k4⟩, ⟨c, k1, hcc⟩, kc⟩
  simp only at a1 k9 k7 k0 k2 k3 k4 k1 kc
  rw [show (blkX L).length = L.length from List.length_map _, List.drop_length, codeL] at hcc
  cases hcc
  rw [blkQ_n, seqQ_n]
  exact ⟨_, Wk.canonD [] [] [some 0, some 1] rfl trivial rfl (tmOU 1 (tmOU 0 tmO0 rfl List.not_mem_nil k0 (TmL.clean (e_A8vu_clean _))) rfl List.not_mem_nil k1 (TmL.clean (e_A16vu_clean _)))
   (tmAllU 10 (tmAllU 8 tmAll0 (by show Tm _ _ _ (tm 8) _; rw [h8]; exact Tm.ptr rfl)) (by show Tm _ _ _ (tm 10) _; rw [h10]; exact Tm.ptr rfl)), h⟩
 ·
  intro e hs _ hf; exact hf.elim
end Go.AX.Z.TG

/-! (walks) -/

set_option linter.unusedSimpArgs false
set_option linter.unusedVariables false
set_option maxHeartbeats 4000000
set_option maxRecDepth 20000
namespace Go.AX.Z.TG
open Go.AX Go.Proofs
attribute [local irreducible] awp xw xop xcall gsp ob xd xdop xcallD seqQ loopQ blkQ endQ
attribute [local go_sem ↓] iop_and iop_or iop_xor iop_andn
attribute [local go_sem] Nat.reduceAdd
def seal_Code_S0 (a0 : A16vu) (x42 : A16vu) (a2 : (List Int)) (a3 : (List Int)) : AS :=
 { objs := (upd (upd (upd (fun _ => .dead) 0 (.live (e_A16vu a0))) 1 (.live (e_A8vu A8vu.z))) 2 (.live (e_A16vu x42))), next := 3, tmps := (upd (upd (upd (upd (upd (fun _ => .unk) 2 (.imm (List.map vu a2) a2.length)) 3 (.imm (List.map vu a3) a3.length)) 4 (.ptr 0 0)) 8 (.ptr 1 0)) 10 (.ptr 2 0)) }

def seal_Code_S1 (x42 : A16vu) (a0 : A16vu) (a2 : (List Int)) (a3 : (List Int)) : AS :=
 { objs := (upd (upd (upd (upd (upd (fun _ => .dead) 0 (.live (e_A8vu A8vu.z))) 1 (.live (e_A16vu x42))) 2 (.live [(.clo 46 [] [(.ptr 1 0), (.ptr 3 0)])])) 3 (.live (e_A16vu a0))) 4 (.live (List.map vu ([IntKind.wrap .u8 (a2.length : Int), IntKind.wrap .u8 (((a2.length : Int)).fdiv (2 ^ (min 8 64)))] ++ a2)))), next := 5, tmps := (upd (upd (upd (upd (upd (fun _ => .unk) 3 (.imm (List.map vu a3) a3.length)) 8 (.ptr 0 0)) 10 (.ptr 1 0)) 11 (.ptr 2 0)) 12 (.ref 4 0 (([IntKind.wrap .u8 (a2.length : Int), IntKind.wrap .u8 (((a2.length : Int)).fdiv (2 ^ (min 8 64)))] ++ a2).length) 1)) }

theorem seal_Code_p (a0 : A16vu) (a1 : A13vu) (a2 : (List Int)) (a3 : (List Int)) {r : (A8vu × Int)} (h0 : seal_Code a0 a1 a2 a3 = some r) : SndP K 38 [(.agg (e_A16vu a0)), (.agg (e_A13vu a1)), (S_vu a2), (S_vu a3)] (.tup [(.agg (e_A8vu r.1)), (vi r.2)]) := by
 refine SndP.of_walkW hC (Clean.tup (clean_cons (Clean.agg (e_A8vu_clean _)) (clean_cons (Clean.v _) clean_nil))) (clean_cons (Clean.agg (e_A16vu_clean _)) (clean_cons (Clean.agg (e_A13vu_clean _)) (clean_cons (S_vu_clean _) (clean_cons (S_vu_clean _) clean_nil)))) (show K.P.funcs[38]? = some Try.f38 from Try.func38) rfl rfl (by decide +kernel) (Nat.le_of_ble_eq_true rfl) ?_; unfold seal_Code at h0; refine awp_nw [0,1,2,3] fun tz U u => ?_; (try simp only [go_sem]); refine qU u ?_; clear u U; refine awp_assoc ?_; refine awp_nw [2,3,4,5,8] fun tz U u => ?_; refine xw_stop 4 qS qS (by rfl) fun V v => ?_; refine xw_id ?_; (try simp only [go_sem]); refine v _ ?_; clear v V; refine xw_cut 4 [(2, (.imm (List.map vu a2) a2.length)), (3, (.imm (List.map vu a3) a3.length)), (4, (.ptr 0 0)), (5, (.ptr 1 0)), (8, (.ptr 2 0)), (21, (vb ((decide (256 < (a2.length : Int))) || (decide (4096 < (a3.length : Int))))))] qS qS (by rfl) (fun V v => ?_) fun tz => ?_
 ·
  refine xw_id ?_; rcases Bool.eq_false_or_eq_true (decide (256 < (a2.length : Int))) with h1 | h1
  ·
   (try simp only [go_sem, h1]); exact v _ ⟨rfl, rfl, rfl, rfl, rfl, rfl, (qB h1), trivial⟩
  ·
   (try simp only [go_sem, h1]); exact v _ ⟨rfl, rfl, rfl, rfl, rfl, rfl, (qB h1), trivial⟩
 ·
  refine xw_id ?_; (try simp only [go_sem]); refine qU u ?_; clear u U; refine awp_cond (b := ((decide (256 < (a2.length : Int))) || (decide (4096 < (a3.length : Int))))) rfl (fun h2 => ?_) (fun h2 => ?_)
  ·
   have h0 := cT h0 h2; refine awp_assoc ?_; refine awp_nw [8] fun tz U u => ?_; (try simp only [go_sem]); refine qU u ?_; clear u U; refine awp_ret ?_; obtain rfl := someInj h0; refine endW_i ?_; refine end_ret0 rs38 qR ?_; exact qF
  ·
   have h0 := cF h0 h2; refine awp_skip ?_; refine awp_nr [2,3,4,5,8] (fun _ => rfl) fun tz => ?_; refine awp_regDW fun U u all hall => ?_; refine xd_id ?_; (try simp only [List.toList_toArray, List.map_cons, List.map_nil, List.size_toArray, List.length_cons, List.length_nil, Nat.zero_add]); (try simp only [Nat.reduceAdd]); obtain ⟨x41, bx41, h0⟩ := bnd h0; (iterate 3 ((try simp only [go_sem, -Nat.reduceAdd]); try simp only [Nat.reduceAdd])); (refine xcallD_p (seal_marked_p 2 a1 (a3.length : Int) bx41) ?_; try dsimp only); (try refine xd_id ?_); obtain ⟨x42, bx42, h0⟩ := bnd h0; (iterate 3 ((try simp only [go_sem, -Nat.reduceAdd]); try simp only [Nat.reduceAdd])); (refine xcallD_p (cipher_Encrypt_p a0 x41 bx42) ?_; try dsimp only); (try refine xd_id ?_); (iterate 3 ((try simp only [go_sem, -Nat.reduceAdd]); try simp only [Nat.reduceAdd])); refine And.intro ?_ (u _ (seal_Code_S0 a0 x42 a2 a3) (Wk.canonD [] [] [some 0, some 2, some 18] rfl trivial rfl (tmOC 2 (tmOC 1 (tmOC 0 tmO0 (e_A16vu_clean _)) (e_A8vu_clean _)) (e_A16vu_clean _)) (tmAllU 10 (tmAllU 8 (tmAllU 4 (tmAllU 3 (tmAllU 2 tmAll0 (Tm.clean (Clean.imm (vu_clean _)))) (Tm.clean (Clean.imm (vu_clean _)))) (Tm.ptr rfl)) (Tm.ptr rfl)) (Tm.ptr rfl))) ?_)
   ·
    subst hall; clear u U; exact qP
   ·
    clear u U hall all; unfold seal_Code_S0; refine awp_nw [2,3,4,8,10] fun tz U u => ?_; (try simp only [go_sem]); refine qU u ?_; clear u U; refine awp_nw [2,3,8,10,11] fun tz U u => ?_; obtain ⟨x43, bx43, h0⟩ := bnd h0; have bx43 := chk_some bx43; simp only [Bool.and_eq_true, decide_eq_true_eq] at bx43; have gx43_0 := bx43; (try simp only [go_sem, gx43_0]); refine u _ (seal_Code_S1 x42 a0 a2 a3) (by refine Wk.canonD [] [] [some 1, some 2, some 4, some 0, some 15] rfl trivial rfl (tmOE 4 (tmOC 3 (tmOU 2 (tmOC 1 (tmOC 0 tmO0 (e_A8vu_clean _)) (e_A16vu_clean _)) rfl List.not_mem_nil rfl (TmL.cons (Tm.clo TmL.nil (TmL.cons (Tm.ptr rfl) (TmL.cons (Tm.ptr rfl) TmL.nil))) TmL.nil)) (e_A16vu_clean _)) (vu_clean _)) (tmAllU 12 (tmAllU 11 (tmAllU 10 (tmAllU 8 (tmAllU 3 tmAll0 (Tm.clean (Clean.imm (vu_clean _)))) (Tm.ptr rfl)) (Tm.ptr rfl)) (Tm.ptr rfl)) (Tm.refL rfl ?_)); all_goals (first | rfl | (simp only [List.length_append, List.length_take, List.length_drop, List.length_cons, List.length_nil, List.length_modify, List.length_set, Nat.zero_add] <;> omega) | omega)) ?_; clear u U; unfold seal_Code_S1; obtain ⟨x44, bx44, h0⟩ := bnd h0; refine code_loop a0 x42 ([IntKind.wrap .u8 (a2.length : Int), IntKind.wrap .u8 (((a2.length : Int)).fdiv (2 ^ (min 8 64)))] ++ a2) a3 (by rfl) (by rfl) (by rfl) (by rfl) (by rfl) (by rfl) (by rfl) (by rfl) (by rfl) (by rfl) (by rfl) (fun id hid => by show upd _ _ _ id = _; (repeat rw [upd_ne _ _ (by omega)])) bx44 ?_; refine awp_nr [8,10] (fun _ => rfl) fun tz => ?_; refine awp_regDW fun U u all hall => ?_; refine xd_id ?_; (try simp only [List.toList_toArray, List.map_cons, List.map_nil, List.size_toArray, List.length_cons, List.length_nil, Nat.zero_add]); (try simp only [Nat.reduceAdd]); (have gs3s : sub? (e_A16vu x44) 0 8 = some [(vu x44.a0), (vu x44.a1), (vu x44.a2), (vu x44.a3), (vu x44.a4), (vu x44.a5), (vu x44.a6), (vu x44.a7)] := by rfl); (have gs3u : putAt (e_A8vu A8vu.z) 0 (List.take 8 (e_A16vu x44)) = (e_A8vu { A8vu.z with a0 := x44.a0, a1 := x44.a1, a2 := x44.a2, a3 := x44.a3, a4 := x44.a4, a5 := x44.a5, a6 := x44.a6, a7 := x44.a7 }) := by rfl); (have gs3 : putAt (e_A8vu A8vu.z) 0 [(vu x44.a0), (vu x44.a1), (vu x44.a2), (vu x44.a3), (vu x44.a4), (vu x44.a5), (vu x44.a6), (vu x44.a7)] = (e_A8vu { A8vu.z with a0 := x44.a0, a1 := x44.a1, a2 := x44.a2, a3 := x44.a3, a4 := x44.a4, a5 := x44.a5, a6 := x44.a6, a7 := x44.a7 }) := by rfl); (have gs3m : min 16 8 = 8 := by rfl); (iterate 3 ((try simp only [go_sem, -Nat.reduceAdd, Int.sub_zero, Int.sub_zero, gs3s, gs3u, gs3, gs3m]); try simp only [Nat.reduceAdd])); refine And.intro ?_ (u _ _ (Wk.refl _ _ _) ?_)
    ·
     subst hall; clear u U; exact qP
    ·
     clear u U hall all; refine awp_nw [8] fun tz U u => ?_; (try simp only [go_sem]); refine qU u ?_; clear u U; refine awp_ret1 ?_; obtain rfl := someInj h0; refine endW_i ?_; refine end_ret0 rs38 qR ?_; exact qF
def seal_Open_S0 (a0 : A16vu) (a1 : A13vu) (x33 : (List Int)) (a2 : (List Int)) (a3 : (List Int)) : AS :=
 { objs := (upd (upd (upd (fun _ => .dead) 0 (.live (e_A16vu a0))) 1 (.live (e_A13vu a1))) 2 (.live (List.map vu x33))), next := 3, tmps := (upd (upd (upd (upd (upd (upd (fun _ => .unk) 2 (.imm (List.map vu a2) a2.length)) 3 (.imm (List.map vu a3) a3.length)) 4 (.ptr 0 0)) 5 (.ptr 1 0)) 10 (vi (IntKind.wrap .i64 ((a3.length : Int) - 8)))) 11 (.ref 2 0 x33.length 1)) }

def seal_Open_S1 (x33 : (List Int)) (x37 : (List Int)) (a3 : (List Int)) : AS :=
 { objs := (upd (upd (fun _ => .dead) 0 (.live (List.map vu x33))) 1 (.live (e_A8vu (A8vu.of x37)))), next := 2, tmps := (upd (upd (upd (upd (fun _ => .unk) 3 (.imm (List.map vu a3) a3.length)) 10 (vi (IntKind.wrap .i64 ((a3.length : Int) - 8)))) 11 (.ref 0 0 x33.length 1)) 12 (.ptr 1 0)) }

theorem seal_Open_r (a0 : A16vu) (a1 : A13vu) (a2 : (List Int)) (a3 : (List Int)) {r : ((List Int) × Int)} (h0 : seal_Open a0 a1 a2 a3 = some r) : SndR K 30 [(.agg (e_A16vu a0)), (.agg (e_A13vu a1)), (S_vu a2), (S_vu a3)] (fun q => (.tup [(.ref (q 0) 0 r.1.length 1), (vi r.2)])) [(List.map vu r.1)] := by
 refine SndR.of_walkW hC (show K.P.funcs[30]? = some Try.f30 from Try.func30) rfl rfl (by decide +kernel) (Nat.le_of_ble_eq_true rfl) ?_; unfold seal_Open at h0; refine awp_nw [0,1,2,3] fun tz U u => ?_; (try simp only [go_sem]); refine qU u ?_; clear u U; refine awp_nw [2,3,4,5] fun tz U u => ?_; (try simp only [go_sem]); refine qU u ?_; clear u U; refine awp_blockW ?_; refine awp_nw [2,3,4,5,10] fun tz U u => ?_; refine xw_stop 4 qS qS (by rfl) fun V v => ?_; refine xw_id ?_; (try simp only [go_sem]); refine v _ ?_; clear v V; refine xw_cut 3 [(2, (.imm (List.map vu a2) a2.length)), (3, (.imm (List.map vu a3) a3.length)), (4, (.ptr 0 0)), (5, (.ptr 1 0)), (10, (vi (IntKind.wrap .i64 ((a3.length : Int) - 8)))), (24, (vb ((decide (256 < (a2.length : Int))) || (decide (4096 < (IntKind.wrap .i64 ((a3.length : Int) - 8)))))))] qS qS (by rfl) (fun V v => ?_) fun tz => ?_
 ·
  refine xw_id ?_; rcases Bool.eq_false_or_eq_true (decide (256 < (a2.length : Int))) with h1 | h1
  ·
   (try simp only [go_sem, h1]); exact v _ ⟨rfl, rfl, rfl, rfl, rfl, rfl, (qB h1), trivial⟩
  ·
   (try simp only [go_sem, h1]); exact v _ ⟨rfl, rfl, rfl, rfl, rfl, rfl, (qB h1), trivial⟩
 ·
  refine xw_id ?_; (try simp only [go_sem]); refine qU u ?_; clear u U; refine awp_cond1 (b := ((decide (256 < (a2.length : Int))) || (decide (4096 < (IntKind.wrap .i64 ((a3.length : Int) - 8)))))) rfl (fun h2 => ?_) (fun h2 => ?_)
  ·
   have h0 := cT h0 h2; refine awp_nw [] fun tz U u => ?_; (try simp only [go_sem]); refine qU u ?_; clear u U; refine awp_ret1 ?_; refine bq_r ?_; refine sq_r ?_; obtain rfl := someInj h0; refine endW_i ?_; refine end_ret0 rs30 (rfl) ?_; refine Res.mk [] [none] rfl (resON resO0) (Tm.tup (TmL.cons (Tm.thaw _ _ _) (TmL.cons (Tm.v _) TmL.nil)))
  ·
   have h0 := cF h0 h2; refine awp_nw [2,3,4,5,10] fun tz U u => ?_; (try simp only [go_sem]); refine qU u ?_; clear u U; refine awp_cond1 (b := (decide ((IntKind.wrap .i64 ((a3.length : Int) - 8)) < 0))) rfl (fun h3 => ?_) (fun h3 => ?_)
   ·
    have h0 := cT h0 h3; refine awp_nw [] fun tz U u => ?_; (try simp only [go_sem]); refine qU u ?_; clear u U; refine awp_ret1 ?_; refine bq_r ?_; refine sq_r ?_; obtain rfl := someInj h0; refine endW_i ?_; refine end_ret0 rs30 (rfl) ?_; refine Res.mk [] [none] rfl (resON resO0) (Tm.tup (TmL.cons (Tm.thaw _ _ _) (TmL.cons (Tm.v _) TmL.nil)))
   ·
    have h0 := cF h0 h3; refine awp_skip1 ?_; refine bq_n ?_; refine seqW_i ?_; refine awp_nw [2,3,4,5,10] fun tz U u => ?_; obtain ⟨x31, bx31, h0⟩ := bnd h0; have bx31 := chk_some bx31; simp only [Bool.and_eq_true, decide_eq_true_eq] at bx31; obtain ⟨gx31_0, gx31_1⟩ := bx31; (have g4 : AV.imm (List.map vu (List.take ((IntKind.wrap .i64 ((a3.length : Int) - 8)).toNat) a3)) (IntKind.wrap .i64 ((a3.length : Int) - 8)).toNat = AV.imm (List.map vu (List.take ((IntKind.wrap .i64 ((a3.length : Int) - 8)).toNat) a3)) (List.take ((IntKind.wrap .i64 ((a3.length : Int) - 8)).toNat) a3).length := by congr 1; simp only [List.length_take]; omega); obtain ⟨x32, bx32, h0⟩ := bnd h0; (try simp only [go_sem, gx31_0, gx31_1, g4, Int.sub_zero]); (refine xcall_M (bytes_Clone_m (List.take ((IntKind.wrap .i64 ((a3.length : Int) - 8)).toNat) a3) bx32) ?_; try dsimp only); (try refine xw_id ?_); (try simp only [go_sem, gx31_0, gx31_1, g4, Int.sub_zero]); refine qU u ?_; clear u U; refine awp_nw [2,3,4,5,10,11] fun tz U u => ?_; obtain ⟨x33, bx33, h0⟩ := bnd h0; (try simp only [go_sem]); (refine xcall_O [24] (seal_crypt_io a0 a1 x32 bx33) (by decide) (by decide) ⟨(by first | rfl | (simp only [go_sem] <;> rfl)), trivial⟩ (by first | rfl | (simp only [go_sem] <;> rfl)) ?_; try dsimp only); (try refine xw_id ?_); obtain ⟨x34, bx34, h0⟩ := bnd h0; have bx34 := chk_some bx34; simp only [decide_eq_true_eq] at bx34; (try simp only [go_sem, List.length_cons, List.length_nil]); refine u _ (seal_Open_S0 a0 a1 x33 a2 a3) (by refine Wk.canonD [] [] [some 0, some 1, some 24] rfl trivial rfl (tmOE 2 (tmOC 1 (tmOC 0 tmO0 (e_A16vu_clean _)) (e_A13vu_clean _)) (vu_clean _)) (tmAllU 11 (tmAllU 10 (tmAllU 5 (tmAllU 4 (tmAllU 3 (tmAllU 2 tmAll0 (Tm.clean (Clean.imm (vu_clean _)))) (Tm.clean (Clean.imm (vu_clean _)))) (Tm.ptr rfl)) (Tm.ptr rfl)) (Tm.v _)) (Tm.refL rfl ?_)); all_goals (first | rfl | (simp only [List.length_append, List.length_take, List.length_drop, List.length_cons, List.length_nil, List.length_modify, List.length_set, Nat.zero_add] <;> omega) | omega)) ?_; clear u U; unfold seal_Open_S0; refine awp_nw [2,3,4,5,10,11] fun tz U u => ?_; obtain ⟨x35, bx35, h0⟩ := bnd h0; (try simp only [go_sem]); (refine xcall_L (by first | (simp only [go_sem, fz] <;> rfl) | (simp only [go_sem, fz, List.length_set, ble_self, take_set, cond_true, cond_false] <;> rfl)) (seal_Code_p a0 a1 a2 x33 bx35) (bare_ok (by rfl)) ?_; try dsimp only); (try refine xw_id ?_); (try simp only [go_sem]); refine qU u ?_; clear u U; refine awp_nr [3,4,5,10,11,12] (fun _ => rfl) fun tz => ?_; refine awp_regDW fun U u all hall => ?_; refine xd_id ?_; (try simp only [List.toList_toArray, List.map_cons, List.map_nil, List.size_toArray, List.length_cons, List.length_nil, Nat.zero_add]); (try simp only [Nat.reduceAdd]); obtain ⟨x36, bx36, h0⟩ := bnd h0; (iterate 3 ((try simp only [go_sem, -Nat.reduceAdd, Int.sub_zero]); try simp only [Nat.reduceAdd])); (refine xcallD_p (seal_Stream_p a0 a1 0 bx36) ?_; try dsimp only); (try refine xd_id ?_); obtain ⟨x37, bx37, h0⟩ := bnd h0; (iterate 3 ((try simp only [go_sem, -Nat.reduceAdd, Int.sub_zero]); try simp only [Nat.reduceAdd])); (refine xcallD_O [11] (seal_mix_io 0 8 x36 [x35.1.a0, x35.1.a1, x35.1.a2, x35.1.a3, x35.1.a4, x35.1.a5, x35.1.a6, x35.1.a7] bx37) (by decide) (by decide) ⟨(by first | rfl | (simp only [go_sem, Int.sub_zero] <;> rfl)), trivial⟩ (by first | rfl | (simp only [go_sem, Int.sub_zero] <;> rfl)) (by subst hall; decide +kernel) (by subst hall; first | decide +kernel | (simp [printsOk, apartP, clash, meet]; done) | (simp [printsOk, apartP, clash, meet]; decide +kernel)) ?_; try dsimp only); (try refine xd_id ?_); obtain ⟨x38, bx38, h0⟩ := bnd h0; have bx38 := chk_some bx38; simp only [decide_eq_true_eq] at bx38; have gs5 : List.map vu x37 = e_A8vu (A8vu.of x37) := (List.take_of_length_le (by rw [List.length_map]; omega)).symm.trans (e_A8vu_of _ (by omega)); (iterate 3 ((try simp only [go_sem, -Nat.reduceAdd, Int.sub_zero, gs5, List.length_cons, List.length_nil]); try simp only [Nat.reduceAdd])); refine And.intro ?_ (u _ (seal_Open_S1 x33 x37 a3) (by refine Wk.canonD [] [] [some 2, some 11] rfl trivial rfl (tmOC 1 (tmOE 0 tmO0 (vu_clean _)) (e_A8vu_clean _)) (tmAllU 12 (tmAllU 11 (tmAllU 10 (tmAllU 3 tmAll0 (Tm.clean (Clean.imm (vu_clean _)))) (Tm.v _)) (Tm.refL rfl ?_)) (Tm.ptr rfl)); all_goals (first | rfl | (simp only [List.length_append, List.length_take, List.length_drop, List.length_cons, List.length_nil, List.length_modify, List.length_set, Nat.zero_add] <;> omega) | omega)) ?_)
    ·
     subst hall; clear u U; exact qP
    ·
     clear u U hall all; unfold seal_Open_S1; refine awp_assoc ?_; refine awp_nw [3,10,11,12] fun tz U u => ?_; obtain ⟨x39, bx39, h0⟩ := bnd h0; have bx39 := chk_some bx39; simp only [Bool.and_eq_true, decide_eq_true_eq] at bx39; obtain ⟨gx39_0, gx39_1⟩ := bx39; (have g6 : ((a3.length : Int) - (IntKind.wrap .i64 ((a3.length : Int) - 8))).toNat = (List.drop ((IntKind.wrap .i64 ((a3.length : Int) - 8)).toNat) a3).length := by simp only [List.length_take, List.length_drop]; omega); (try simp only [Int.sub_zero] at g6); obtain ⟨x40, bx40, h0⟩ := bnd h0; (try simp only [go_sem, Int.sub_zero, gx39_0, gx39_1, g6, Int.sub_zero]); (refine xcall_L (by first | (simp only [go_sem, fz, Int.sub_zero, gx39_0, gx39_1, g6, Int.sub_zero] <;> rfl) | (simp only [go_sem, fz, List.length_set, ble_self, take_set, cond_true, cond_false, Int.sub_zero, gx39_0, gx39_1, g6, Int.sub_zero] <;> rfl)) (bytes_Equal_p [(A8vu.of x37).a0, (A8vu.of x37).a1, (A8vu.of x37).a2, (A8vu.of x37).a3, (A8vu.of x37).a4, (A8vu.of x37).a5, (A8vu.of x37).a6, (A8vu.of x37).a7] (List.drop ((IntKind.wrap .i64 ((a3.length : Int) - 8)).toNat) a3) bx40) (Bare.v _) ?_; try dsimp only); (try refine xw_id ?_); (try simp only [go_sem, Int.sub_zero, gx39_0, gx39_1, g6, Int.sub_zero]); refine qU u ?_; clear u U; refine awp_cond (b := (!x40)) rfl (fun h7 => ?_) (fun h7 => ?_)
     ·
      have h0 := cT h0 h7; refine awp_assoc ?_; refine awp_nw [] fun tz U u => ?_; (try simp only [go_sem]); refine qU u ?_; clear u U; refine awp_ret ?_; obtain rfl := someInj h0; refine endW_i ?_; refine end_ret0 rs30 (rfl) ?_; refine Res.mk [] [none] rfl (resON resO0) (Tm.tup (TmL.cons (Tm.thaw _ _ _) (TmL.cons (Tm.v _) TmL.nil)))
     ·
      have h0 := cF h0 h7; refine awp_skip ?_; refine awp_nw [11] fun tz U u => ?_; (try simp only [go_sem]); refine qU u ?_; clear u U; refine awp_ret1 ?_; obtain rfl := someInj h0; refine endW_i ?_; refine end_ret0 rs30 (rfl) ?_; refine Res.mk [] [some 0] rfl (resOU List.not_mem_nil rfl (TmL.of_eq qL (vu_clean _)) resO0) (Tm.tup (TmL.cons (Tm.refL rfl ?_) (TmL.cons (Tm.v _) TmL.nil))); (all_goals (first | rfl | (simp only [List.length_append, List.length_take, List.length_drop, List.length_cons, List.length_nil, List.length_modify, List.length_set, Nat.zero_add] <;> omega) | omega))

theorem seal_Open_m (a0 : A16vu) (a1 : A13vu) (a2 : (List Int)) (a3 : (List Int)) {r : ((List Int) × Int)} (h0 : seal_Open a0 a1 a2 a3 = some r) : SndM K 30 [(.agg (e_A16vu a0)), (.agg (e_A13vu a1)), (S_vu a2), (S_vu a3)] (fun q => (.tup [(.ref (q 0) 0 r.1.length 1), (vi r.2)])) [(List.map vu r.1)] :=
 fun hs => Snd.of_newM (RenM.tup (RenML.cons (RenM.ref 0 0 _ _) (RenML.cons (RenM.const (Clean.v _)) RenML.nil))) (rows_all_cons (vu_clean _) rows_all_nil) (clean_cons (Clean.agg (e_A16vu_clean _)) (clean_cons (Clean.agg (e_A13vu_clean _)) (clean_cons (S_vu_clean _) (clean_cons (S_vu_clean _) clean_nil)))) (seal_Open_r a0 a1 a2 a3 h0) hs

theorem seal_Open_e (a0 : A16vu) (a1 : A13vu) (a2 : (List Int)) (a3 : (List Int)) {r : ((List Int) × Int)} (h0 : seal_Open a0 a1 a2 a3 = some r) (fr : Nat) (hs : HS) : SndE K 30 [(.agg (e_A16vu a0)), (.agg (e_A13vu a1)), (S_vu a2), (S_vu a3)] hs fr ⟨(fun q : Nat → Nat => (.tup [(.ref (q 0) 0 r.1.length 1), (vi r.2)])) fun _ => fr, .new (List.map vu r.1)⟩ :=
 SndE.of_res (RenM.tup (RenML.cons (RenM.ref 0 0 _ _) (RenML.cons (RenM.const (Clean.v _)) RenML.nil))) (vu_clean _) (clean_cons (Clean.agg (e_A16vu_clean _)) (clean_cons (Clean.agg (e_A13vu_clean _)) (clean_cons (S_vu_clean _) (clean_cons (S_vu_clean _) clean_nil)))) (fun a b h => by simp only [h]) (seal_Open_r a0 a1 a2 a3 h0) hs fr

theorem seal_Open_p (a0 : A16vu) (a1 : A13vu) (a2 : (List Int)) (a3 : (List Int)) {r : ((List Int) × Int)} (h0 : seal_Open a0 a1 a2 a3 = some r) : SndP K 30 [(.agg (e_A16vu a0)), (.agg (e_A13vu a1)), (S_vu a2), (S_vu a3)] (.tup [(S_vu r.1), (vi r.2)]) :=
 SndM.pure (seal_Open_m a0 a1 a2 a3 h0) (Clean.tup (clean_cons (S_vu_clean _) (clean_cons (Clean.v _) clean_nil))) (clean_cons (Clean.agg (e_A16vu_clean _)) (clean_cons (Clean.agg (e_A13vu_clean _)) (clean_cons (S_vu_clean _) (clean_cons (S_vu_clean _) clean_nil)))) (by simp only [go_sem, newL_n, newL_c, upd_get, fz, nilS, cond_true, cond_false, List.drop_zero, List.take_length, List.length_map, ble_self] <;> rfl)
def groupkey_opened_S0 (x29 : ((List Int) × Int)) : AS :=
 { objs := (upd (fun _ => .dead) 0 (.live (e_GroupKey GroupKey.z))), next := 1, tmps := (upd (upd (upd (fun _ => .unk) 4 (.ptr 0 0)) 6 (.imm (List.map vu x29.1) x29.1.length)) 7 (vi x29.2)) }

theorem groupkey_opened_p (a0 : (List Int)) (a1 : A16vu) {r : (GroupKey × Bool)} (h0 : groupkey_opened a0 a1 = some r) : SndP K 17 [(S_vu a0), (.agg (e_A16vu a1))] (.tup [(.agg (e_GroupKey r.1)), (vb r.2)]) := by
 refine SndP.of_walkW hC (Clean.tup (clean_cons (Clean.agg (e_GroupKey_clean _)) (clean_cons (Clean.v _) clean_nil))) (clean_cons (S_vu_clean _) (clean_cons (Clean.agg (e_A16vu_clean _)) clean_nil)) (show K.P.funcs[17]? = some Try.f17 from Try.func17) rfl rfl (by decide +kernel) (Nat.le_of_ble_eq_true rfl) ?_; unfold groupkey_opened at h0; refine awp_nw [0,1] fun tz U u => ?_; (try simp only [go_sem]); refine qU u ?_; clear u U; refine awp_nw [0,3,4] fun tz U u => ?_; obtain ⟨x26, bx26, h0⟩ := bnd h0; (try simp only [go_sem]); (refine xcall_p (groupkey_nonce_p a0 bx26) ?_; try dsimp only); (try refine xw_id ?_); obtain ⟨x27, bx27, h0⟩ := bnd h0; have bx27 := chk_some bx27; simp only [Bool.and_eq_true, decide_eq_true_eq] at bx27; have gx27_0 := bx27; (have g1 : AV.imm (List.map vu (List.take 9 a0)) 9 = AV.imm (List.map vu (List.take 9 a0)) (List.take 9 a0).length := by first | rfl | (congr 1; simp only [List.length_take, List.length_drop]; omega)); obtain ⟨x28, bx28, h0⟩ := bnd h0; have bx28 := chk_some bx28; simp only [Bool.and_eq_true, decide_eq_true_eq] at bx28; obtain ⟨gx28_0, gx28_1⟩ := bx28; (have g2 : AV.imm (List.map vu (List.take (((IntKind.wrap .i64 ((a0.length : Int) - 16)) - 9).toNat) (List.drop 9 a0))) ((IntKind.wrap .i64 ((a0.length : Int) - 16)) - 9).toNat = AV.imm (List.map vu (List.take (((IntKind.wrap .i64 ((a0.length : Int) - 16)) - 9).toNat) (List.drop 9 a0))) (List.take (((IntKind.wrap .i64 ((a0.length : Int) - 16)) - 9).toNat) (List.drop 9 a0)).length := by congr 1; simp only [List.length_take, List.length_drop]; omega); obtain ⟨x29, bx29, h0⟩ := bnd h0; (try simp only [go_sem, gx27_0, g1, Int.sub_zero, gx28_0, gx28_1, g2, Int.sub_zero]); (refine xcall_p (seal_Open_p a1 x26 (List.take 9 a0) (List.take (((IntKind.wrap .i64 ((a0.length : Int) - 16)) - 9).toNat) (List.drop 9 a0)) bx29) ?_; try dsimp only); (try refine xw_id ?_); (try simp only [go_sem, gx27_0, g1, Int.sub_zero, gx28_0, gx28_1, g2, Int.sub_zero]); refine u _ (groupkey_opened_S0 x29) (Wk.canonD [] [] [some 1] rfl trivial rfl (tmOC 0 tmO0 (e_GroupKey_clean _)) (tmAllU 7 (tmAllU 6 (tmAllU 4 tmAll0 (Tm.ptr rfl)) (Tm.clean (Clean.imm (vu_clean _)))) (Tm.v _))) ?_; clear u U; unfold groupkey_opened_S0; refine awp_assoc ?_; refine awp_nw [4,6,7] fun tz U u => ?_; refine xw_stop 3 qS qS (by rfl) fun V v => ?_; refine xw_id ?_; (try simp only [go_sem]); refine v _ ?_; clear v V; refine xw_cut 4 [(4, (.ptr 0 0)), (6, (.imm (List.map vu x29.1) x29.1.length)), (28, (vb ((x29.2 != 0) || ((x29.1.length : Int) != 17))))] qS qS (by rfl) (fun V v => ?_) fun tz => ?_
 ·
  refine xw_id ?_; rcases Bool.eq_false_or_eq_true (x29.2 != 0) with h3 | h3
  ·
   (try simp only [go_sem, h3]); exact v _ ⟨rfl, rfl, rfl, (qB h3), trivial⟩
  ·
   (try simp only [go_sem, h3]); exact v _ ⟨rfl, rfl, rfl, (qB h3), trivial⟩
 ·
  refine xw_id ?_; refine xw_stop 1 qS qS (by rfl) fun V v => ?_; refine xw_id ?_; (try simp only [go_sem]); refine v _ ?_; clear v V; obtain ⟨x31, hvh4, h0⟩ := bnd h0; refine xw_cut 11 [(4, (.ptr 0 0)), (6, (.imm (List.map vu x29.1) x29.1.length)), (40, (vb x31))] qS qS (by rfl) (fun V v => ?_) fun tz => ?_
  ·
   refine xw_id ?_; rcases Bool.eq_false_or_eq_true ((x29.2 != 0) || ((x29.1.length : Int) != 17)) with h4 | h4
   ·
    have hvh4 := cT hvh4 h4; (try simp only [go_sem, h4]); obtain rfl := someInj hvh4; exact v _ ⟨rfl, rfl, rfl, (qB h4), trivial⟩
   ·
    have hvh4 := cF hvh4 h4; obtain ⟨x30, bx30, hvh4⟩ := bnd hvh4; obtain ⟨fx30_0, fx30_1, fx30_2, fx30_3⟩ := idx_some bx30; simp only [Int.reduceToNat] at fx30_2 fx30_3; refine xw_stop 5 qS qS (by rfl) fun V v => ?_; refine xw_id ?_; (try simp only [go_sem, h4, fx30_0, fx30_1, fx30_2]); refine v _ ?_; clear v V; refine xw_cut 5 [(4, (.ptr 0 0)), (6, (.imm (List.map vu x29.1) x29.1.length)), (29, (vb false)), (39, (vb ((x30 != 2) && (x30 != 3))))] qS qS (by rfl) (fun V v => ?_) fun tz => ?_
    ·
     refine xw_id ?_; rcases Bool.eq_false_or_eq_true (x30 != 2) with h5 | h5
     ·
      (try simp only [go_sem, h4, fx30_0, fx30_1, fx30_2, h5]); exact v _ ⟨rfl, rfl, rfl, rfl, (qB h5), trivial⟩
     ·
      (try simp only [go_sem, h4, fx30_0, fx30_1, fx30_2, h5]); exact v _ ⟨rfl, rfl, rfl, rfl, (qB h5), trivial⟩
    ·
     refine xw_id ?_; (try simp only [go_sem, h4, fx30_0, fx30_1, fx30_2]); obtain rfl := someInj hvh4; exact v _ ⟨rfl, rfl, rfl, (qB h4), trivial⟩
  ·
   refine xw_id ?_; (try simp only [go_sem]); refine qU u ?_; clear u U; refine awp_cond (b := x31) rfl (fun h6 => ?_) (fun h6 => ?_)
   ·
    have h0 := cT h0 h6; refine awp_assoc ?_; refine awp_nw [4] fun tz U u => ?_; (try simp only [go_sem]); refine qU u ?_; clear u U; refine awp_ret ?_; obtain rfl := someInj h0; refine endW_i ?_; refine end_ret0 rs17 qR ?_; exact qF
   ·
    have h0 := cF h0 h6; refine awp_skip ?_; refine awp_nw [4,6] fun tz U u => ?_; obtain ⟨x32, bx32, h0⟩ := bnd h0; obtain ⟨fx32_0, fx32_1, fx32_2, fx32_3⟩ := idx_some bx32; simp only [Int.reduceToNat] at fx32_2 fx32_3; (try simp only [go_sem, fx32_0, fx32_1, fx32_2]); refine qU u ?_; clear u U; refine awp_nr [4,6] (fun _ => rfl) fun tz => ?_; refine awp_regDW fun U u all hall => ?_; refine xd_id ?_; (try simp only [List.toList_toArray, List.map_cons, List.map_nil, List.size_toArray, List.length_cons, List.length_nil, Nat.zero_add]); (try simp only [Nat.reduceAdd]); obtain ⟨x33, bx33, h0⟩ := bnd h0; have bx33 := chk_some bx33; simp only [Bool.and_eq_true, decide_eq_true_eq] at bx33; have gx33_0 := bx33; (have g7 : ((x29.1.length : Int) - 1).toNat = (List.drop 1 x29.1).length := by simp only [List.length_take, List.length_drop]; omega); (try simp only [Int.sub_zero] at g7); obtain ⟨x34, bx34, h0⟩ := bnd h0; have bx34 := chk_some bx34; simp only [Bool.and_eq_true, decide_eq_true_eq] at bx34; have gx34_0 := bx34; have gs8 : (List.map vu (List.drop 1 x29.1)).take 16 = e_A16vu (A16vu.of (List.drop 1 x29.1)) := e_A16vu_of _ (by (try simp only [List.length_drop]); omega); have gs8m : min ((List.drop 1 x29.1).length) 16 = 16 := Nat.min_eq_right (by omega); (iterate 3 ((try simp only [go_sem, -Nat.reduceAdd, fx32_0, fx32_1, fx32_2, Int.sub_zero, gx33_0, g7, Int.sub_zero, gx34_0, gs8, gs8m, Nat.mul_one]); try simp only [Nat.reduceAdd])); refine And.intro ?_ (u _ _ (Wk.refl _ _ _) ?_)
    ·
     subst hall; clear u U; exact qP
    ·
     clear u U hall all; refine awp_nw [4] fun tz U u => ?_; (try simp only [go_sem, fx32_0, fx32_1, fx32_2]); refine qU u ?_; clear u U; refine awp_ret1 ?_; obtain rfl := someInj h0; refine endW_i ?_; refine end_ret0 rs17 qR ?_; exact qF
def groupkey_begin_S0 (d40 : (List Int)) : AS :=
 { objs := (upd (fun _ => .dead) 0 (.live (List.map vu d40))), next := 1, tmps := (upd (fun _ => .unk) 5 (.ref 0 0 ((d40).length) 1)) }

def groupkey_begin_S1 (a1 : Int) (d41 : (List Int × Int)) : AS :=
 { objs := (upd (fun _ => .dead) 0 (.live (List.map vu d41.1))), next := 1, tmps := (upd (upd (upd (fun _ => .unk) 1 (vi a1)) 5 (.ref 0 0 ((d41.1).length) 1)) 9 (vi d41.2)) }

theorem groupkey_begin_r (a0 : Int) (a1 : Int) {r : (List Int)} (h0 : groupkey_begin a0 a1 = some r) : SndR K 19 [(vu a0), (vi a1)] (fun q => (.ref (q 0) 0 r.length 1)) [(List.map vu r)] := by
 refine SndR.of_walkW hC (show K.P.funcs[19]? = some Try.f19 from Try.func19) rfl rfl (by decide +kernel) (Nat.le_of_ble_eq_true rfl) ?_; unfold groupkey_begin at h0; refine awp_nw [0,1] fun tz U u => ?_; (try simp only [go_sem]); refine qU u ?_; clear u U; refine awp_nw [0,1] fun tz U u => ?_; (try simp only [go_sem]); refine qU u ?_; clear u U; refine awp_assoc ?_; refine awp_nw [1,5] fun tz U u => ?_; (try simp only [go_sem]); refine qU u ?_; clear u U; obtain ⟨d40, hi1, h0⟩ := bnd h0; refine awp_cut (fun z => d40 = z) (fun d40 : (List Int) => groupkey_begin_S0 d40) ?_ ?_
 ·
  refine awp_block1 ?_; refine awp_loopS (fun n (d41 : (List Int × Int)) => groupkey_begin_L2 a1 n d41 = some d40) (fun d41 : (List Int × Int) => groupkey_begin_S1 a1 d41) big ([a0], 0) (by refine Wk.canonD [] [] [some 2] rfl trivial rfl (tmOE 0 tmO0 (vu_clean _)) (tmAllU 9 (tmAllU 5 (tmAllU 1 tmAll0 (Tm.v _)) (Tm.refL rfl ?_)) (Tm.v _)); all_goals (first | rfl | (simp only [List.length_append, List.length_take, List.length_drop, List.length_cons, List.length_nil, List.length_modify, List.length_set, Nat.zero_add] <;> omega) | omega)) hi1 ?_; clear hi1; rintro n d41 hl3; rcases n with _ | n2
  ·
   (rw [groupkey_begin_L2] at hl3; cases hl3)
  ·
   rw [groupkey_begin_L2] at hl3; unfold groupkey_begin_S1; refine awp_nw [1,5,9] fun tz U u => ?_; (try simp only [go_sem]); refine qU u ?_; clear u U; refine awp_cond (b := (decide (d41.2 < 8))) rfl (fun h4 => ?_) (fun h4 => ?_)
   ·
    have hl3 := cT hl3 h4; refine awp_skip ?_; refine awp_blockW ?_; refine awp_nw [1,5,9] fun tz U u => ?_; (try simp only [go_sem]); refine qU u ?_; clear u U; refine awp_nw1 [1,5,6,9] fun tz U u => ?_; obtain ⟨x42, bx42, hl3⟩ := bnd hl3; have bx42 := chk_some bx42; simp only [Bool.and_eq_true, decide_eq_true_eq] at bx42; have gx42_0 := bx42; obtain ⟨x43, bx43, hl3⟩ := bnd hl3; have bx43 := chk_some bx43; simp only [Bool.and_eq_true, decide_eq_true_eq] at bx43; have gx43_0 := bx43; (try simp only [go_sem, gx42_0, gx43_0]); refine u _ ?_; clear u U; refine bq_n ?_; refine seqW_i ?_; refine awp_nw1 [1,5,9] fun tz U u => ?_; (try simp only [go_sem]); refine u _ ?_; clear u U; refine lq_n ?_; exact ⟨n2, ((d41.1 ++ [IntKind.wrap .u8 ((a1).fdiv (2 ^ (min ((IntKind.wrap .i64 (8 * d41.2))).toNat 64)))]), IntKind.wrap .i64 (d41.2 + 1)), rfl, hl3, (by refine Wk.canonD [] [] [some 11] rfl trivial rfl (tmOE 0 tmO0 (vu_clean _)) (tmAllU 9 (tmAllU 5 (tmAllU 1 tmAll0 (Tm.v _)) (Tm.refL rfl ?_)) (Tm.v _)); all_goals (first | rfl | (simp only [List.length_append, List.length_take, List.length_drop, List.length_cons, List.length_nil, List.length_modify, List.length_set, Nat.zero_add] <;> omega) | omega))⟩
   ·
    have hl3 := cF hl3 h4; refine awp_exit ?_; refine lq_e ?_; refine bq_e ?_; refine sq_n ?_; obtain rfl := someInj hl3; exact ⟨_, rfl, (by refine Wk.canonD [] [] [some 0] rfl trivial rfl (tmOE 0 tmO0 (vu_clean _)) (tmAllU 5 tmAll0 (Tm.refL rfl ?_)); all_goals (first | rfl | (simp only [List.length_append, List.length_take, List.length_drop, List.length_cons, List.length_nil, List.length_modify, List.length_set, Nat.zero_add] <;> omega) | omega))⟩
 ·
  rintro _ rfl; clear hi1; unfold groupkey_begin_S0; refine awp_nw [5] fun tz U u => ?_; (try simp only [go_sem]); refine qU u ?_; clear u U; refine awp_ret1 ?_; obtain rfl := someInj h0; refine endW_i ?_; refine end_ret0 rs19 (rfl) ?_; refine Res.mk [] [some 0] rfl (resOU List.not_mem_nil rfl (TmL.of_eq qL (vu_clean _)) resO0) (Tm.refL rfl ?_); (all_goals (first | rfl | (simp only [List.length_append, List.length_take, List.length_drop, List.length_cons, List.length_nil, List.length_modify, List.length_set, Nat.zero_add] <;> omega) | omega))

theorem groupkey_begin_m (a0 : Int) (a1 : Int) {r : (List Int)} (h0 : groupkey_begin a0 a1 = some r) : SndM K 19 [(vu a0), (vi a1)] (fun q => (.ref (q 0) 0 r.length 1)) [(List.map vu r)] :=
 fun hs => Snd.of_newM (RenM.ref 0 0 _ _) (rows_all_cons (vu_clean _) rows_all_nil) (clean_cons (Clean.v _) (clean_cons (Clean.v _) clean_nil)) (groupkey_begin_r a0 a1 h0) hs

theorem groupkey_begin_e (a0 : Int) (a1 : Int) {r : (List Int)} (h0 : groupkey_begin a0 a1 = some r) (fr : Nat) (hs : HS) : SndE K 19 [(vu a0), (vi a1)] hs fr ⟨(fun q : Nat → Nat => (.ref (q 0) 0 r.length 1)) fun _ => fr, .new (List.map vu r)⟩ :=
 SndE.of_res (RenM.ref 0 0 _ _) (vu_clean _) (clean_cons (Clean.v _) (clean_cons (Clean.v _) clean_nil)) (fun a b h => by simp only [h]) (groupkey_begin_r a0 a1 h0) hs fr

theorem groupkey_begin_p (a0 : Int) (a1 : Int) {r : (List Int)} (h0 : groupkey_begin a0 a1 = some r) : SndP K 19 [(vu a0), (vi a1)] (S_vu r) :=
 SndM.pure (groupkey_begin_m a0 a1 h0) (S_vu_clean _) (clean_cons (Clean.v _) (clean_cons (Clean.v _) clean_nil)) (by simp only [go_sem, newL_n, newL_c, upd_get, fz, nilS, cond_true, cond_false, List.drop_zero, List.take_length, List.length_map, ble_self] <;> rfl)
def groupkey_Receive_S0 (a0 : GroupMember) (a1 : (List Int)) (x9 : (Int × Bool)) : AS :=
 { objs := (upd (upd (fun _ => .dead) 0 (.live (e_GroupMember a0))) 1 (.live (e_GroupMember GroupMember.z))), next := 2, tmps := (upd (upd (upd (upd (upd (upd (fun _ => .unk) 1 (.imm (List.map vu a1) a1.length)) 2 (.ptr 0 0)) 4 (.ptr 1 0)) 7 (.clo 14 [] [])) 9 (vi x9.1)) 10 (vb x9.2)) }

def groupkey_Receive_S1 (a0 : GroupMember) (x16 : (GroupKey × Bool)) (x9 : (Int × Bool)) : AS :=
 { objs := (upd (upd (upd (fun _ => .dead) 0 (.live (e_GroupMember a0))) 1 (.live (e_GroupMember GroupMember.z))) 2 (.live (e_GroupKey x16.1))), next := 3, tmps := (upd (upd (upd (upd (upd (upd (fun _ => .unk) 2 (.ptr 0 0)) 4 (.ptr 1 0)) 7 (.clo 14 [] [])) 9 (vi x9.1)) 11 (.ptr 2 0)) 12 (vb x16.2)) }

def groupkey_Receive_S2 (a0 : GroupMember) (x16 : (GroupKey × Bool)) (x9 : (Int × Bool)) : AS :=
 { objs := (upd (upd (fun _ => .dead) 0 (.live (e_GroupMember { a0 with Keys := (a0.Keys.setA ((IntKind.wrap .i64 (x16.1.Id - 2)).toNat) x16.1), Replay := x9.1 }))) 1 (.live (e_GroupMember GroupMember.z))), next := 2, tmps := (upd (upd (upd (fun _ => .unk) 2 (.ptr 0 0)) 4 (.ptr 1 0)) 9 (vi x9.1)) }

theorem groupkey_Receive_p (a0 : GroupMember) (a1 : (List Int)) {r : (GroupMember × (List Int) × Int)} (h0 : groupkey_Receive a0 a1 = some r) : SndP K 7 [(.agg (e_GroupMember a0)), (S_vu a1)] (.tup [(.agg (e_GroupMember r.1)), (S_vu r.2.1), (vi r.2.2)]) := by
 refine SndP.of_walkW hC (Clean.tup (clean_cons (Clean.agg (e_GroupMember_clean _)) (clean_cons (S_vu_clean _) (clean_cons (Clean.v _) clean_nil)))) (clean_cons (Clean.agg (e_GroupMember_clean _)) (clean_cons (S_vu_clean _) clean_nil)) (show K.P.funcs[7]? = some Try.f7 from Try.func7) rfl rfl (by decide +kernel) (Nat.le_of_ble_eq_true rfl) ?_; unfold groupkey_Receive at h0; refine awp_nw [0,1] fun tz U u => ?_; (try simp only [go_sem]); refine qU u ?_; clear u U; refine awp_nw [1,2,4] fun tz U u => ?_; (try simp only [go_sem]); refine qU u ?_; clear u U; refine awp_assoc ?_; refine awp_nw [1,2,4,7] fun tz U u => ?_; obtain ⟨x6, bx6, h0⟩ := bnd h0; (try simp only [go_sem]); (refine xcall_p (groupkey_CheckMember_p a0 bx6) ?_; try dsimp only); (try refine xw_id ?_); (try simp only [go_sem]); refine qU u ?_; clear u U; refine awp_assoc ?_; refine awp_nw [1,2,4,7,8] fun tz U u => ?_; (try simp only [go_sem]); refine qU u ?_; clear u U; refine awp_cond (b := (x6 != 0)) rfl (fun h1 => ?_) (fun h1 => ?_)
 ·
  have h0 := cT h0 h1; refine awp_assoc ?_; refine awp_nw [4,7,8] fun tz U u => ?_; obtain ⟨x7, bx7, h0⟩ := bnd h0; (try simp only [go_sem]); (refine xcall_p (groupkey_Receive_1_p x6 bx7) ?_; try dsimp only); (try refine xw_id ?_); (try simp only [go_sem]); refine qU u ?_; clear u U; refine awp_ret ?_; obtain rfl := someInj h0; refine endW_i ?_; refine end_ret0 rs7 qR ?_; exact qF
 ·
  have h0 := cF h0 h1; refine awp_skip ?_; refine awp_assoc ?_; refine awp_nw [1,2,4,7] fun tz U u => ?_; (try simp only [go_sem]); refine qU u ?_; clear u U; refine awp_cond (b := (decide ((a1.length : Int) < 50))) rfl (fun h2 => ?_) (fun h2 => ?_)
  ·
   have h0 := cT h0 h2; refine awp_assoc ?_; refine awp_nw [4,7] fun tz U u => ?_; obtain ⟨x8, bx8, h0⟩ := bnd h0; (try simp only [go_sem]); (refine xcall_p (groupkey_Receive_1_p 10 bx8) ?_; try dsimp only); (try refine xw_id ?_); (try simp only [go_sem]); refine qU u ?_; clear u U; refine awp_ret ?_; obtain rfl := someInj h0; refine endW_i ?_; refine end_ret0 rs7 qR ?_; exact qF
  ·
   have h0 := cF h0 h2; refine awp_skip ?_; refine awp_nw [1,2,4,7] fun tz U u => ?_; obtain ⟨x9, bx9, h0⟩ := bnd h0; (try simp only [go_sem]); (refine xcall_p (groupkey_count_p a1 bx9) ?_; try dsimp only); (try refine xw_id ?_); (try simp only [go_sem]); refine u _ (groupkey_Receive_S0 a0 a1 x9) (Wk.canonD [] [] [some 0, some 1] rfl trivial rfl (tmOC 1 (tmOC 0 tmO0 (e_GroupMember_clean _)) (e_GroupMember_clean _)) (tmAllU 10 (tmAllU 9 (tmAllU 7 (tmAllU 4 (tmAllU 2 (tmAllU 1 tmAll0 (Tm.clean (Clean.imm (vu_clean _)))) (Tm.ptr rfl)) (Tm.ptr rfl)) (Tm.clo TmL.nil TmL.nil)) (Tm.v _)) (Tm.v _))) ?_; clear u U; unfold groupkey_Receive_S0; refine awp_blockW ?_; refine awp_nw [1,2,4,7,9,10] fun tz U u => ?_; refine xw_stop 4 qS qS (by rfl) fun V v => ?_; refine xw_id ?_; (try simp only [go_sem]); refine v _ ?_; clear v V; obtain ⟨x11, hvh3, h0⟩ := bnd h0; refine xw_cut 5 [(1, (.imm (List.map vu a1) a1.length)), (2, (.ptr 0 0)), (4, (.ptr 1 0)), (7, (.clo 14 [] [])), (9, (vi x9.1)), (10, (vb x9.2)), (46, (vb x11))] qS qS (by rfl) (fun V v => ?_) fun tz => ?_
   ·
    refine xw_id ?_; rcases Bool.eq_false_or_eq_true (decide (50 < (a1.length : Int))) with h3 | h3
    ·
     have hvh3 := cT hvh3 h3; (try simp only [go_sem, h3]); obtain rfl := someInj hvh3; exact v _ ⟨rfl, rfl, rfl, rfl, rfl, rfl, rfl, (qB h3), trivial⟩
    ·
     have hvh3 := cF hvh3 h3; obtain ⟨x10, bx10, hvh3⟩ := bnd hvh3; obtain ⟨fx10_0, fx10_1, fx10_2, fx10_3⟩ := idx_some bx10; simp only [Int.reduceToNat] at fx10_2 fx10_3; (try simp only [go_sem, h3, fx10_0, fx10_1, fx10_2]); obtain rfl := someInj hvh3; exact v _ ⟨rfl, rfl, rfl, rfl, rfl, rfl, rfl, (qB h3), trivial⟩
   ·
    refine xw_id ?_; refine xw_stop 1 qS qS (by rfl) fun V v => ?_; refine xw_id ?_; (try simp only [go_sem]); refine v _ ?_; clear v V; refine xw_cut 3 [(1, (.imm (List.map vu a1) a1.length)), (2, (.ptr 0 0)), (4, (.ptr 1 0)), (7, (.clo 14 [] [])), (9, (vi x9.1)), (50, (vb (x11 || (!x9.2))))] qS qS (by rfl) (fun V v => ?_) fun tz => ?_
    ·
     refine xw_id ?_; rcases Bool.eq_false_or_eq_true x11 with h4 | h4
     ·
      (try simp only [go_sem, h4]); exact v _ ⟨rfl, rfl, rfl, rfl, rfl, rfl, (qB h4), trivial⟩
     ·
      (try simp only [go_sem, h4]); exact v _ ⟨rfl, rfl, rfl, rfl, rfl, rfl, (qB h4), trivial⟩
    ·
     refine xw_id ?_; (try simp only [go_sem]); refine qU u ?_; clear u U; refine awp_cond1 (b := (x11 || (!x9.2))) rfl (fun h5 => ?_) (fun h5 => ?_)
     ·
      have h0 := cT h0 h5; refine awp_nw [4,7] fun tz U u => ?_; obtain ⟨x12, bx12, h0⟩ := bnd h0; (try simp only [go_sem]); (refine xcall_p (groupkey_Receive_1_p 12 bx12) ?_; try dsimp only); (try refine xw_id ?_); (try simp only [go_sem]); refine qU u ?_; clear u U; refine awp_ret1 ?_; refine bq_r ?_; refine sq_r ?_; obtain rfl := someInj h0; refine endW_i ?_; refine end_ret0 rs7 qR ?_; exact qF
     ·
      have h0 := cF h0 h5; refine awp_nw [1,2,4,7,9] fun tz U u => ?_; (try simp only [go_sem]); refine qU u ?_; clear u U; refine awp_cond1 (b := (decide (x9.1 ≤ a0.Replay))) rfl (fun h6 => ?_) (fun h6 => ?_)
      ·
       have h0 := cT h0 h6; refine awp_nw [4,7] fun tz U u => ?_; obtain ⟨x13, bx13, h0⟩ := bnd h0; (try simp only [go_sem]); (refine xcall_p (groupkey_Receive_1_p 21 bx13) ?_; try dsimp only); (try refine xw_id ?_); (try simp only [go_sem]); refine qU u ?_; clear u U; refine awp_ret1 ?_; refine bq_r ?_; refine sq_r ?_; obtain rfl := someInj h0; refine endW_i ?_; refine end_ret0 rs7 qR ?_; exact qF
      ·
       have h0 := cF h0 h6; refine awp_nw [1,2,4,7,9] fun tz U u => ?_; obtain ⟨x14, bx14, h0⟩ := bnd h0; (try simp only [go_sem]); (refine xcall_p (groupkey_right_p a1 a0.Pair.Confirm bx14) ?_; try dsimp only); (try refine xw_id ?_); (try simp only [go_sem]); refine qU u ?_; clear u U; refine awp_cond1 (b := (!x14)) rfl (fun h7 => ?_) (fun h7 => ?_)
       ·
        have h0 := cT h0 h7; refine awp_nw [4,7] fun tz U u => ?_; obtain ⟨x15, bx15, h0⟩ := bnd h0; (try simp only [go_sem]); (refine xcall_p (groupkey_Receive_1_p 33 bx15) ?_; try dsimp only); (try refine xw_id ?_); (try simp only [go_sem]); refine qU u ?_; clear u U; refine awp_ret1 ?_; refine bq_r ?_; refine sq_r ?_; obtain rfl := someInj h0; refine endW_i ?_; refine end_ret0 rs7 qR ?_; exact qF
       ·
        have h0 := cF h0 h7; refine awp_skip1 ?_; refine bq_n ?_; refine seqW_i ?_; refine awp_nw [1,2,4,7,9] fun tz U u => ?_; obtain ⟨x16, bx16, h0⟩ := bnd h0; (try simp only [go_sem]); (refine xcall_p (groupkey_opened_p a1 a0.Pair.Wrap bx16) ?_; try dsimp only); (try refine xw_id ?_); (try simp only [go_sem]); refine u _ (groupkey_Receive_S1 a0 x16 x9) (Wk.canonD [] [] [some 0, some 1, some 36] rfl trivial rfl (tmOC 2 (tmOC 1 (tmOC 0 tmO0 (e_GroupMember_clean _)) (e_GroupMember_clean _)) (e_GroupKey_clean _)) (tmAllU 12 (tmAllU 11 (tmAllU 9 (tmAllU 7 (tmAllU 4 (tmAllU 2 tmAll0 (Tm.ptr rfl)) (Tm.ptr rfl)) (Tm.clo TmL.nil TmL.nil)) (Tm.v _)) (Tm.ptr rfl)) (Tm.v _))) ?_; clear u U; unfold groupkey_Receive_S1; refine awp_assoc ?_; refine awp_nw [2,4,7,9,11,12] fun tz U u => ?_; (try simp only [go_sem]); refine qU u ?_; clear u U; refine awp_cond (b := (!x16.2)) rfl (fun h8 => ?_) (fun h8 => ?_)
        ·
         have h0 := cT h0 h8; refine awp_assoc ?_; refine awp_nw [4,7] fun tz U u => ?_; obtain ⟨x17, bx17, h0⟩ := bnd h0; (try simp only [go_sem]); (refine xcall_p (groupkey_Receive_1_p 31 bx17) ?_; try dsimp only); (try refine xw_id ?_); (try simp only [go_sem]); refine qU u ?_; clear u U; refine awp_ret ?_; obtain rfl := someInj h0; refine endW_i ?_; refine end_ret0 rs7 qR ?_; exact qF
        ·
         have h0 := cF h0 h8; refine awp_skip ?_; refine awp_assoc ?_; refine awp_nw [2,4,7,9,11] fun tz U u => ?_; obtain ⟨x18, bx18, h0⟩ := bnd h0; obtain ⟨fx18_0, fx18_1, fx18_2, fx18_3⟩ := idxA_some bx18; have gq9 : sub? (e_GroupMember a0) (61 + ((IntKind.wrap .i64 (3 - x16.1.Id)).toNat) * 17) 17 = some (e_GroupKey x18) := (sub_sub (m := 34) (by rfl) (by have h0 := of_eq_true fx18_0; have h1 := of_eq_true fx18_1; omega)).trans (e_A2_GroupKey_getA a0.Keys fx18_2); (try simp only [go_sem, fx18_0, fx18_1, gq9]); refine qU u ?_; clear u U; refine awp_assoc ?_; refine awp_nw [2,4,7,9,11,13] fun tz U u => ?_; refine xw_stop 4 qS qS (by rfl) fun V v => ?_; refine xw_id ?_; (try simp only [go_sem, fx18_0, fx18_1]); refine v _ ?_; clear v V; refine xw_cut 6 [(2, (.ptr 0 0)), (4, (.ptr 1 0)), (7, (.clo 14 [] [])), (9, (vi x9.1)), (11, (.ptr 2 0)), (108, (vb ((x18.Id != 0) && (decide (x18.Key = x16.1.Key)))))] qS qS (by rfl) (fun V v => ?_) fun tz => ?_
         ·
          refine xw_id ?_; rcases Bool.eq_false_or_eq_true (x18.Id != 0) with h10 | h10
          ·
           (try simp only [go_sem, fx18_0, fx18_1, h10]); exact v _ ⟨rfl, rfl, rfl, rfl, rfl, rfl, (qB h10), trivial⟩
          ·
           (try simp only [go_sem, fx18_0, fx18_1, h10]); exact v _ ⟨rfl, rfl, rfl, rfl, rfl, rfl, (qB h10), trivial⟩
         ·
          refine xw_id ?_; (try simp only [go_sem, fx18_0, fx18_1]); refine qU u ?_; clear u U; refine awp_cond (b := ((x18.Id != 0) && (decide (x18.Key = x16.1.Key)))) rfl (fun h11 => ?_) (fun h11 => ?_)
          ·
           have h0 := cT h0 h11; refine awp_assoc ?_; refine awp_nw [4,7] fun tz U u => ?_; obtain ⟨x19, bx19, h0⟩ := bnd h0; (try simp only [go_sem, fx18_0, fx18_1]); (refine xcall_p (groupkey_Receive_1_p 21 bx19) ?_; try dsimp only); (try refine xw_id ?_); (try simp only [go_sem, fx18_0, fx18_1]); refine qU u ?_; clear u U; refine awp_ret ?_; obtain rfl := someInj h0; refine endW_i ?_; refine end_ret0 rs7 qR ?_; exact qF
          ·
           have h0 := cF h0 h11; refine awp_skip ?_; refine awp_nw [2,4,9,11] fun tz U u => ?_; obtain ⟨x20, bx20, h0⟩ := bnd h0; obtain ⟨fx20_0, fx20_1, fx20_2, fx20_3⟩ := idxA_some bx20; have gq12 : sub? (e_GroupMember a0) (61 + ((IntKind.wrap .i64 (x16.1.Id - 2)).toNat) * 17) 17 = some (e_GroupKey x20) := (sub_sub (m := 34) (by rfl) (by have h0 := of_eq_true fx20_0; have h1 := of_eq_true fx20_1; omega)).trans (e_A2_GroupKey_getA a0.Keys fx20_2); (have gs13b : (IntKind.wrap .i64 (x16.1.Id - 2)).toNat < 2 := by have h0 := of_eq_true fx20_0; have h1 := of_eq_true fx20_1; omega); have gs13 : putAt (e_GroupMember a0) (61 + ((IntKind.wrap .i64 (x16.1.Id - 2)).toNat) * 17) (e_GroupKey x16.1) = (e_GroupMember { a0 with Keys := (a0.Keys.setA ((IntKind.wrap .i64 (x16.1.Id - 2)).toNat) x16.1) }) := (put_sub (m := 34) (by rfl) (by rw [e_GroupKey_len]; omega) (e_A2_GroupKey_setA _ _ gs13b)).trans (by rfl); have gs13l : (61 + (((IntKind.wrap .i64 (x16.1.Id - 2)).toNat) * 17 + 17) ≤ 95) = True := eq_true (by omega); (try simp only [go_sem, fx18_0, fx18_1, fx20_0, fx20_1, gq12, gs13, gs13l]); refine u _ (groupkey_Receive_S2 a0 x16 x9) (Wk.canonD [] [] [some 0, some 1] rfl trivial rfl (tmOC 1 (tmOC 0 tmO0 (e_GroupMember_clean _)) (e_GroupMember_clean _)) (tmAllU 9 (tmAllU 4 (tmAllU 2 tmAll0 (Tm.ptr rfl)) (Tm.ptr rfl)) (Tm.v _))) ?_; clear u U; unfold groupkey_Receive_S2; refine awp_nr [2,4,9] (fun _ => rfl) fun tz => ?_; refine awp_regDW fun U u all hall => ?_; refine xd_id ?_; (try simp only [List.toList_toArray, List.map_cons, List.map_nil, List.size_toArray, List.length_cons, List.length_nil, Nat.zero_add]); (try simp only [Nat.reduceAdd]); obtain ⟨x21, bx21, h0⟩ := bnd h0; (iterate 3 ((try simp only [go_sem, -Nat.reduceAdd, fx18_0, fx18_1, fx20_0, fx20_1]); try simp only [Nat.reduceAdd])); (refine xcallD_E (groupkey_begin_e 6 x9.1 bx21 _) ?_; try dsimp only); (try refine xd_id ?_); obtain ⟨x22, bx22, h0⟩ := bnd h0; (iterate 3 ((try simp only [go_sem, -Nat.reduceAdd, fx18_0, fx18_1, fx20_0, fx20_1]); try simp only [Nat.reduceAdd])); (refine xcallD_A 4 (RenML.cons (RenM.ref 0 0 _ _) (RenML.cons (RenM.const (Clean.agg (e_A16vu_clean _))) RenML.nil)) (RenM.ref 1 0 _ _) (vu_clean _) (vu_clean _) (groupkey_signed_io a0.Pair.Confirm x21 bx22) rfl (by first | rfl | (simp only [go_sem, fx18_0, fx18_1, fx20_0, fx20_1] <;> rfl)) (fun a b h => by simp only [h]) (fun a b h => by simp only [h]) (by decide) ?_; try dsimp only); (try refine xd_id ?_); (iterate 3 ((try simp only [go_sem, -Nat.reduceAdd, fx18_0, fx18_1, fx20_0, fx20_1, List.length_cons, List.length_nil]); try simp only [Nat.reduceAdd])); refine And.intro ?_ (u _ _ (Wk.refl _ _ _) ?_)
           ·
            subst hall; clear u U; exact qP
           ·
            clear u U hall all; refine awp_ret1 ?_; obtain rfl := someInj h0; refine endW_i ?_; refine end_ret0 rs7 qR ?_; exact qF
theorem hotspotref26_fit_p (a0 : A2_GroupKey) {r : Bool} (h0 : hotspotref26_fit a0 = some r) : SndP K 27 [(.agg (e_A2_GroupKey a0))] (vb r) := by
 refine SndP.of_walkW hC (Clean.v _) (clean_cons (Clean.agg (e_A2_GroupKey_clean _)) clean_nil) (show K.P.funcs[27]? = some Try.f27 from Try.func27) rfl rfl (by decide +kernel) (Nat.le_of_ble_eq_true rfl) ?_; unfold hotspotref26_fit at h0; refine awp_nw [0] fun tz U u => ?_; (try simp only [go_sem]); refine qU u ?_; clear u U; refine awp_nw [1] fun tz U u => ?_; (try simp only [go_sem]); refine qU u ?_; clear u U; refine awp_assoc ?_; refine awp_nw [1,3,4] fun tz U u => ?_; refine xw_stop 2 qS qS (by rfl) fun V v => ?_; refine xw_id ?_; (try simp only [go_sem]); refine v _ ?_; clear v V; refine xw_cut 5 [(1, (.ptr 0 0)), (3, (vb (!decide (a0.a0 = GroupKey.z)))), (4, (vb (!decide (a0.a1 = GroupKey.z)))), (19, (vb ((!decide (a0.a0 = GroupKey.z)) && (a0.a0.Id != 2))))] qS qS (by rfl) (fun V v => ?_) fun tz => ?_
 ·
  refine xw_id ?_; rcases Bool.eq_false_or_eq_true (!decide (a0.a0 = GroupKey.z)) with h1 | h1
  ·
   (try simp only [go_sem, h1]); exact v _ ⟨rfl, rfl, (qB h1), rfl, (qB h1), trivial⟩
  ·
   (try simp only [go_sem, h1]); exact v _ ⟨rfl, rfl, (qB h1), rfl, (qB h1), trivial⟩
 ·
  refine xw_id ?_; refine xw_stop 1 qS qS (by rfl) fun V v => ?_; refine xw_id ?_; (try simp only [go_sem]); refine v _ ?_; clear v V; refine xw_cut 8 [(1, (.ptr 0 0)), (3, (vb (!decide (a0.a0 = GroupKey.z)))), (4, (vb (!decide (a0.a1 = GroupKey.z)))), (28, (vb (((!decide (a0.a0 = GroupKey.z)) && (a0.a0.Id != 2)) || ((!decide (a0.a1 = GroupKey.z)) && (a0.a1.Id != 3)))))] qS qS (by rfl) (fun V v => ?_) fun tz => ?_
  ·
   refine xw_id ?_; rcases Bool.eq_false_or_eq_true ((!decide (a0.a0 = GroupKey.z)) && (a0.a0.Id != 2)) with h2 | h2
   ·
    (have h2_0 : (!decide (a0.a0 = GroupKey.z)) = true := by simp only [Bool.and_eq_true] at h2; exact h2.1); (have h2_1 : (a0.a0.Id != 2) = true := by simp only [Bool.and_eq_true] at h2; exact h2.2); (try simp only [go_sem, h2, h2_0, h2_1]); exact v _ ⟨rfl, rfl, (by first | rfl | (rw [h2_0]; rfl) | (rw [h2_1]; rfl) | (simp only [h2_0, h2_1, Bool.true_and] <;> rfl)), rfl, (qB h2), trivial⟩
   ·
    refine xw_stop 2 qS qS (by rfl) fun V v => ?_; refine xw_id ?_; (try simp only [go_sem, h2]); refine v _ ?_; clear v V; refine xw_cut 5 [(1, (.ptr 0 0)), (3, (vb (!decide (a0.a0 = GroupKey.z)))), (4, (vb (!decide (a0.a1 = GroupKey.z)))), (20, (vb false)), (27, (vb ((!decide (a0.a1 = GroupKey.z)) && (a0.a1.Id != 3))))] qS qS (by rfl) (fun V v => ?_) fun tz => ?_
    ·
     refine xw_id ?_; rcases Bool.eq_false_or_eq_true (!decide (a0.a1 = GroupKey.z)) with h3 | h3
     ·
      (try simp only [go_sem, h2, h3]); exact v _ ⟨rfl, rfl, rfl, (qB h3), rfl, (qB h3), trivial⟩
     ·
      (try simp only [go_sem, h2, h3]); exact v _ ⟨rfl, rfl, rfl, (qB h3), rfl, (qB h3), trivial⟩
    ·
     refine xw_id ?_; (try simp only [go_sem, h2]); exact v _ ⟨rfl, rfl, rfl, rfl, (qB h2), trivial⟩
  ·
   refine xw_id ?_; (try simp only [go_sem]); refine qU u ?_; clear u U; refine awp_cond (b := (((!decide (a0.a0 = GroupKey.z)) && (a0.a0.Id != 2)) || ((!decide (a0.a1 = GroupKey.z)) && (a0.a1.Id != 3)))) rfl (fun h4 => ?_) (fun h4 => ?_)
   ·
    have h0 := cT h0 h4; refine awp_assoc ?_; refine awp_nw [] fun tz U u => ?_; (try simp only [go_sem]); refine qU u ?_; clear u U; refine awp_ret ?_; obtain rfl := someInj h0; refine endW_i ?_; refine end_ret0 rs27 (rfl) ?_; exact qF
   ·
    have h0 := cF h0 h4; refine awp_skip ?_; refine awp_nw [1,3,4] fun tz U u => ?_; refine xw_stop 3 qS qS (by rfl) fun V v => ?_; refine xw_id ?_; (try simp only [go_sem]); refine v _ ?_; clear v V; refine xw_cut 3 [(1, (.ptr 0 0)), (34, (vb ((!(!decide (a0.a0 = GroupKey.z))) || (!(!decide (a0.a1 = GroupKey.z))))))] qS qS (by rfl) (fun V v => ?_) fun tz => ?_
    ·
     refine xw_id ?_; rcases Bool.eq_false_or_eq_true (!(!decide (a0.a0 = GroupKey.z))) with h5 | h5
     ·
      (try simp only [go_sem, h5]); exact v _ ⟨rfl, rfl, (qB h5), trivial⟩
     ·
      (try simp only [go_sem, h5]); exact v _ ⟨rfl, rfl, (qB h5), trivial⟩
    ·
     refine xw_id ?_; refine xw_stop 1 qS qS (by rfl) fun V v => ?_; refine xw_id ?_; (try simp only [go_sem]); refine v _ ?_; clear v V; refine xw_cut 8 [(43, (vb (((!(!decide (a0.a0 = GroupKey.z))) || (!(!decide (a0.a1 = GroupKey.z)))) || (!decide (a0.a0.Key = a0.a1.Key)))))] qS qS (by rfl) (fun V v => ?_) fun tz => ?_
     ·
      refine xw_id ?_; rcases Bool.eq_false_or_eq_true ((!(!decide (a0.a0 = GroupKey.z))) || (!(!decide (a0.a1 = GroupKey.z)))) with h6 | h6
      ·
       (try simp only [go_sem, h6]); exact v _ ⟨rfl, (qB h6), trivial⟩
      ·
       (try simp only [go_sem, h6]); exact v _ ⟨rfl, (qB h6), trivial⟩
     ·
      refine xw_id ?_; (try simp only [go_sem]); refine qU u ?_; clear u U; refine awp_ret1 ?_; obtain rfl := someInj h0; refine endW_i ?_; refine end_ret0 rs27 (rfl) ?_; exact qF
theorem hotspotref26_CheckMember_p (a0 : GroupMember) {r : Int} (h0 : hotspotref26_CheckMember a0 = some r) : SndP K 13 [(.agg (e_GroupMember a0))] (vi r) := by
 refine SndP.of_walkW hC (Clean.v _) (clean_cons (Clean.agg (e_GroupMember_clean _)) clean_nil) (show K.P.funcs[13]? = some Try.f13 from Try.func13) rfl rfl (by decide +kernel) (Nat.le_of_ble_eq_true rfl) ?_; unfold hotspotref26_CheckMember at h0; refine awp_nw [0] fun tz U u => ?_; (try simp only [go_sem]); refine qU u ?_; clear u U; refine awp_assoc ?_; refine awp_nw [1] fun tz U u => ?_; (try simp only [List.append_eq, Array.toList_append, List.append_toArray, List.toList_toArray, List.cons_append, List.nil_append]); refine xw_stop 6 qS qS (by rfl) fun V v => ?_; refine xw_id ?_; (try simp only [go_sem]); refine v _ ?_; clear v V; refine xw_cut 4 [(1, (.ptr 0 0)), (12, (vb ((decide (a0.Own = a0.Peer)) || (decide (a0.Replay < 0)))))] qS qS (by rfl) (fun V v => ?_) fun tz => ?_
 ·
  refine xw_id ?_; rcases Bool.eq_false_or_eq_true (decide (a0.Own = a0.Peer)) with h1 | h1
  ·
   (try simp only [go_sem, h1]); exact v _ ⟨rfl, rfl, (qB h1), trivial⟩
  ·
   (try simp only [go_sem, h1]); exact v _ ⟨rfl, rfl, (qB h1), trivial⟩
 ·
  refine xw_id ?_; refine xw_stop 1 qS qS (by rfl) fun V v => ?_; refine xw_id ?_; (try simp only [go_sem]); refine v _ ?_; clear v V; refine xw_cut 4 [(1, (.ptr 0 0)), (17, (vb (((decide (a0.Own = a0.Peer)) || (decide (a0.Replay < 0))) || (decide (4611686018427387904 ≤ a0.Replay)))))] qS qS (by rfl) (fun V v => ?_) fun tz => ?_
  ·
   refine xw_id ?_; rcases Bool.eq_false_or_eq_true ((decide (a0.Own = a0.Peer)) || (decide (a0.Replay < 0))) with h2 | h2
   ·
    (try simp only [go_sem, h2]); exact v _ ⟨rfl, rfl, (qB h2), trivial⟩
   ·
    (try simp only [go_sem, h2]); exact v _ ⟨rfl, rfl, (qB h2), trivial⟩
  ·
   refine xw_id ?_; refine xw_stop 1 qS qS (by rfl) fun V v => ?_; refine xw_id ?_; (try simp only [go_sem]); refine v _ ?_; clear v V; obtain ⟨x25, hvh3, h0⟩ := bnd h0; refine xw_cut 5 [(1, (.ptr 0 0)), (23, (vb x25))] qS qS (by rfl) (fun V v => ?_) fun tz => ?_
   ·
    refine xw_id ?_; rcases Bool.eq_false_or_eq_true (((decide (a0.Own = a0.Peer)) || (decide (a0.Replay < 0))) || (decide (4611686018427387904 ≤ a0.Replay))) with h3 | h3
    ·
     have hvh3 := cT hvh3 h3; (try simp only [go_sem, h3]); obtain rfl := someInj hvh3; exact v _ ⟨rfl, rfl, (qB h3), trivial⟩
    ·
     have hvh3 := cF hvh3 h3; obtain ⟨x24, bx24, hvh3⟩ := bnd hvh3; (try simp only [go_sem, h3]); (refine xcall_p (hotspotref26_fit_p a0.Keys bx24) ?_; try dsimp only); (try refine xw_id ?_); (try simp only [go_sem, h3]); obtain rfl := someInj hvh3; exact v _ ⟨rfl, rfl, (qB h3), trivial⟩
   ·
    refine xw_id ?_; refine xw_stop 1 qS qS (by rfl) fun V v => ?_; refine xw_id ?_; (try simp only [go_sem]); refine v _ ?_; clear v V; refine xw_cut 13 [(37, (vb (x25 || ((a0.Keys.a0.Id == 0) && (a0.Keys.a1.Id == 0)))))] qS qS (by rfl) (fun V v => ?_) fun tz => ?_
    ·
     refine xw_id ?_; rcases Bool.eq_false_or_eq_true x25 with h4 | h4
     ·
      (try simp only [go_sem, h4]); exact v _ ⟨rfl, (qB h4), trivial⟩
     ·
      refine xw_stop 6 qS qS (by rfl) fun V v => ?_; refine xw_id ?_; (try simp only [go_sem, h4]); refine v _ ?_; clear v V; refine xw_cut 6 [(24, (vb false)), (36, (vb ((a0.Keys.a0.Id == 0) && (a0.Keys.a1.Id == 0))))] qS qS (by rfl) (fun V v => ?_) fun tz => ?_
      ·
       refine xw_id ?_; rcases Bool.eq_false_or_eq_true (a0.Keys.a0.Id == 0) with h5 | h5
       ·
        (try simp only [go_sem, h4, h5]); exact v _ ⟨rfl, rfl, (qB h5), trivial⟩
       ·
        (try simp only [go_sem, h4, h5]); exact v _ ⟨rfl, rfl, (qB h5), trivial⟩
      ·
       refine xw_id ?_; (try simp only [go_sem, h4]); exact v _ ⟨rfl, (qB h4), trivial⟩
    ·
     refine xw_id ?_; (try simp only [go_sem]); refine qU u ?_; clear u U; refine awp_cond (b := (x25 || ((a0.Keys.a0.Id == 0) && (a0.Keys.a1.Id == 0)))) rfl (fun h6 => ?_) (fun h6 => ?_)
     ·
      have h0 := cT h0 h6; refine awp_assoc ?_; refine awp_nw [] fun tz U u => ?_; (try simp only [go_sem]); refine qU u ?_; clear u U; refine awp_ret ?_; obtain rfl := someInj h0; refine endW_i ?_; refine end_ret0 rs13 (rfl) ?_; exact qF
     ·
      have h0 := cF h0 h6; refine awp_skip ?_; refine awp_nw [] fun tz U u => ?_; (try simp only [go_sem]); refine qU u ?_; clear u U; refine awp_ret1 ?_; obtain rfl := someInj h0; refine endW_i ?_; refine end_ret0 rs13 (rfl) ?_; exact qF
def hotspotref22_Same_S0 (d41 : Unit) : AS :=
 { objs := (fun _ => .dead), next := 0, tmps := (fun _ => .unk) }

def hotspotref22_Same_S1 (a0 : (List Int)) (a1 : (List Int)) (d43 : Int) : AS :=
 { objs := (fun _ => .dead), next := 0, tmps := (upd (upd (upd (fun _ => .unk) 0 (.imm (List.map vu a0) a0.length)) 1 (.imm (List.map vu a1) a1.length)) 5 (vi d43)) }

theorem hotspotref22_Same_p (a0 : (List Int)) (a1 : (List Int)) {r : Bool} (h0 : hotspotref22_Same a0 a1 = some r) : SndP K 11 [(S_vu a0), (S_vu a1)] (vb r) := by
 refine SndP.of_walkW hC (Clean.v _) (clean_cons (S_vu_clean _) (clean_cons (S_vu_clean _) clean_nil)) (show K.P.funcs[11]? = some Try.f11 from Try.func11) rfl rfl (by decide +kernel) (Nat.le_of_ble_eq_true rfl) ?_; unfold hotspotref22_Same at h0; refine awp_nw [0,1] fun tz U u => ?_; (try simp only [go_sem]); refine qU u ?_; clear u U; refine awp_assoc ?_; refine awp_nw [0,1] fun tz U u => ?_; (try simp only [go_sem]); refine qU u ?_; clear u U; refine awp_cond (b := ((a0.length : Int) != (a1.length : Int))) rfl (fun h1 => ?_) (fun h1 => ?_)
 ·
  have h0 := cT h0 h1; refine awp_assoc ?_; refine awp_nw [] fun tz U u => ?_; (try simp only [go_sem]); refine qU u ?_; clear u U; refine awp_ret ?_; obtain rfl := someInj h0; refine endW_i ?_; refine end_ret0 rs11 (rfl) ?_; exact qF
 ·
  have h0 := cF h0 h1; refine awp_skip ?_; refine awp_assoc ?_; refine awp_nw [0,1] fun tz U u => ?_; (try simp only [go_sem]); refine qU u ?_; clear u U; obtain ⟨o42, hi2, h0⟩ := bnd h0; refine awp_cut (fun d41 : Unit => o42 = Ex.go d41) (fun d41 : Unit => hotspotref22_Same_S0 d41) ?_ ?_
  ·
   refine awp_block1 ?_; refine awp_loopS (fun n (d43 : Int) => hotspotref22_Same_L2 a0 a1 n d43 = some o42) (fun d43 : Int => hotspotref22_Same_S1 a0 a1 d43) big 0 (Wk.canonD [] [] [] rfl trivial rfl tmO0 (tmAllU 5 (tmAllU 1 (tmAllU 0 tmAll0 (Tm.clean (Clean.imm (vu_clean _)))) (Tm.clean (Clean.imm (vu_clean _)))) (Tm.v _))) hi2 ?_; clear hi2; rintro n d43 hl4; rcases n with _ | n3
   ·
    (rw [hotspotref22_Same_L2] at hl4; cases hl4)
   ·
    rw [hotspotref22_Same_L2] at hl4; unfold hotspotref22_Same_S1; refine awp_assoc ?_; refine awp_nw [0,1,5] fun tz U u => ?_; (try simp only [go_sem]); refine qU u ?_; clear u U; refine awp_cond (b := (decide (d43 < (a0.length : Int)))) rfl (fun h5 => ?_) (fun h5 => ?_)
    ·
     have hl4 := cT hl4 h5; refine awp_skip ?_; refine awp_blockW ?_; refine awp_nw [0,1,5] fun tz U u => ?_; obtain ⟨x44, bx44, hl4⟩ := bnd hl4; obtain ⟨fx44_0, fx44_1, fx44_2, fx44_3⟩ := idx_some bx44; obtain ⟨x45, bx45, hl4⟩ := bnd hl4; obtain ⟨fx45_0, fx45_1, fx45_2, fx45_3⟩ := idx_some bx45; (try simp only [go_sem, fx44_0, fx44_1, fx44_2, fx45_0, fx45_1, fx45_2]); refine qU u ?_; clear u U; refine awp_cond1 (b := (x44 != x45)) rfl (fun h6 => ?_) (fun h6 => ?_)
     ·
      have hl4 := cT hl4 h6; refine awp_nw [] fun tz U u => ?_; (try simp only [go_sem, fx44_0, fx44_1, fx44_2, fx45_0, fx45_1, fx45_2]); refine qU u ?_; clear u U; refine awp_ret1 ?_; refine bq_r ?_; refine sq_r ?_; refine lq_r ?_; refine bq_r ?_; refine sq_r ?_; obtain rfl := someInj hl4; obtain rfl := Ex.k_ret h0; refine endW_i ?_; refine end_ret0 rs11 (rfl) ?_; exact qF
     ·
      have hl4 := cF hl4 h6; refine awp_skip1 ?_; refine bq_n ?_; refine seqW_i ?_; refine awp_nw1 [0,1,5] fun tz U u => ?_; (try simp only [go_sem, fx44_0, fx44_1, fx44_2, fx45_0, fx45_1, fx45_2]); refine u _ ?_; clear u U; refine lq_n ?_; exact ⟨n3, IntKind.wrap .i64 (d43 + 1), rfl, hl4, (Wk.canonD [] [] [] rfl trivial rfl tmO0 (tmAllU 5 (tmAllU 1 (tmAllU 0 tmAll0 (Tm.clean (Clean.imm (vu_clean _)))) (Tm.clean (Clean.imm (vu_clean _)))) (Tm.v _)))⟩
    ·
     have hl4 := cF hl4 h5; refine awp_exit ?_; refine lq_e ?_; refine bq_e ?_; refine sq_n ?_; obtain rfl := someInj hl4; exact ⟨_, rfl, (Wk.canonD [] [] [] rfl trivial rfl tmO0 tmAll0)⟩
  ·
   rintro d41 rfl; have h0 := Ex.k_go h0; clear hi2; unfold hotspotref22_Same_S0; refine awp_nw [] fun tz U u => ?_; (try simp only [go_sem]); refine qU u ?_; clear u U; refine awp_ret1 ?_; obtain rfl := someInj h0; refine endW_i ?_; refine end_ret0 rs11 (rfl) ?_; exact qF
theorem hotspotref26_formed_p (a0 : (List Int)) (a1 : Int) (a2 : Int) {r : Bool} (h0 : hotspotref26_formed a0 a1 a2 = some r) : SndP K 20 [(S_vu a0), (vi a1), (vu a2)] (vb r) := by
 refine SndP.of_walkW hC (Clean.v _) (clean_cons (S_vu_clean _) (clean_cons (Clean.v _) (clean_cons (Clean.v _) clean_nil))) (show K.P.funcs[20]? = some Try.f20 from Try.func20) rfl rfl (by decide +kernel) (Nat.le_of_ble_eq_true rfl) ?_; unfold hotspotref26_formed at h0; refine awp_nw [0,1,2] fun tz U u => ?_; (try simp only [go_sem]); refine qU u ?_; clear u U; refine awp_nw [0,1,2] fun tz U u => ?_; refine xw_stop 5 qS qS (by rfl) fun V v => ?_; refine xw_id ?_; (try simp only [go_sem]); refine v _ ?_; clear v V; obtain ⟨x28, hvh1, h0⟩ := bnd h0; refine xw_cut 6 [(0, (.imm (List.map vu a0) a0.length)), (17, (vb x28))] qS qS (by rfl) (fun V v => ?_) fun tz => ?_
 ·
  refine xw_id ?_; rcases Bool.eq_false_or_eq_true ((a0.length : Int) == a1) with h1 | h1
  ·
   have hvh1 := cT hvh1 h1; obtain ⟨x27, bx27, hvh1⟩ := bnd hvh1; obtain ⟨fx27_0, fx27_1, fx27_2, fx27_3⟩ := idx_some bx27; simp only [Int.reduceToNat] at fx27_2 fx27_3; (try simp only [go_sem, h1, fx27_0, fx27_1, fx27_2]); obtain rfl := someInj hvh1; exact v _ ⟨rfl, rfl, (qB h1), trivial⟩
  ·
   have hvh1 := cF hvh1 h1; (try simp only [go_sem, h1]); obtain rfl := someInj hvh1; exact v _ ⟨rfl, rfl, (qB h1), trivial⟩
 ·
  refine xw_id ?_; refine xw_stop 1 qS qS (by rfl) fun V v => ?_; refine xw_id ?_; (try simp only [go_sem]); refine v _ ?_; clear v V; obtain ⟨x30, hvh2, h0⟩ := bnd h0; refine xw_cut 5 [(23, (vb x30))] qS qS (by rfl) (fun V v => ?_) fun tz => ?_
  ·
   refine xw_id ?_; rcases Bool.eq_false_or_eq_true x28 with h2 | h2
   ·
    have hvh2 := cT hvh2 h2; obtain ⟨x29, bx29, hvh2⟩ := bnd hvh2; obtain ⟨fx29_0, fx29_1, fx29_2, fx29_3⟩ := idx_some bx29; simp only [Int.reduceToNat] at fx29_2 fx29_3; (try simp only [go_sem, h2, fx29_0, fx29_1, fx29_2]); obtain rfl := someInj hvh2; exact v _ ⟨rfl, (qB h2), trivial⟩
   ·
    have hvh2 := cF hvh2 h2; (try simp only [go_sem, h2]); obtain rfl := someInj hvh2; exact v _ ⟨rfl, (qB h2), trivial⟩
  ·
   refine xw_id ?_; (try simp only [go_sem]); refine qU u ?_; clear u U; refine awp_ret1 ?_; obtain rfl := someInj h0; refine endW_i ?_; refine end_ret0 rs20 (rfl) ?_; exact qF
def hotspotref26_counter_S0 (d32 : Int) : AS :=
 { objs := (fun _ => .dead), next := 0, tmps := (upd (fun _ => .unk) 3 (vi d32)) }

def hotspotref26_counter_S1 (a0 : (List Int)) (d33 : (Int × Int)) : AS :=
 { objs := (fun _ => .dead), next := 0, tmps := (upd (upd (upd (fun _ => .unk) 0 (.imm (List.map vu a0) a0.length)) 3 (vi d33.1)) 4 (vi d33.2)) }

theorem hotspotref26_counter_p (a0 : (List Int)) {r : Int} (h0 : hotspotref26_counter a0 = some r) : SndP K 21 [(S_vu a0)] (vi r) := by
 refine SndP.of_walkW hC (Clean.v _) (clean_cons (S_vu_clean _) clean_nil) (show K.P.funcs[21]? = some Try.f21 from Try.func21) rfl rfl (by decide +kernel) (Nat.le_of_ble_eq_true rfl) ?_; unfold hotspotref26_counter at h0; refine awp_nw [0] fun tz U u => ?_; (try simp only [go_sem]); refine qU u ?_; clear u U; refine awp_nw [0] fun tz U u => ?_; (try simp only [go_sem]); refine qU u ?_; clear u U; refine awp_assoc ?_; refine awp_nw [0,3] fun tz U u => ?_; (try simp only [go_sem]); refine qU u ?_; clear u U; obtain ⟨d32, hi1, h0⟩ := bnd h0; refine awp_cut (fun z => d32 = z) (fun d32 : Int => hotspotref26_counter_S0 d32) ?_ ?_
 ·
  refine awp_block1 ?_; refine awp_loopS (fun n (d33 : (Int × Int)) => hotspotref26_counter_L2 a0 n d33 = some d32) (fun d33 : (Int × Int) => hotspotref26_counter_S1 a0 d33) big (0, 8) (Wk.canonD [] [] [] rfl trivial rfl tmO0 (tmAllU 4 (tmAllU 3 (tmAllU 0 tmAll0 (Tm.clean (Clean.imm (vu_clean _)))) (Tm.v _)) (Tm.v _))) hi1 ?_; clear hi1; rintro n d33 hl3; rcases n with _ | n2
  ·
   (rw [hotspotref26_counter_L2] at hl3; cases hl3)
  ·
   rw [hotspotref26_counter_L2] at hl3; unfold hotspotref26_counter_S1; refine awp_assoc ?_; refine awp_nw [0,3,4] fun tz U u => ?_; (try simp only [go_sem]); refine qU u ?_; clear u U; refine awp_cond (b := (decide (1 ≤ d33.2))) rfl (fun h4 => ?_) (fun h4 => ?_)
   ·
    have hl3 := cT hl3 h4; refine awp_skip ?_; refine awp_blockW ?_; refine awp_nw1 [0,3,4] fun tz U u => ?_; obtain ⟨x34, bx34, hl3⟩ := bnd hl3; obtain ⟨fx34_0, fx34_1, fx34_2, fx34_3⟩ := idx_some bx34; (try simp only [go_sem, fx34_0, fx34_1, fx34_2]); refine u _ ?_; clear u U; refine bq_n ?_; refine seqW_i ?_; refine awp_nw1 [0,3,4] fun tz U u => ?_; (try simp only [go_sem, fx34_0, fx34_1, fx34_2]); refine u _ ?_; clear u U; refine lq_n ?_; exact ⟨n2, (IntKind.wrap .i64 ((IntKind.wrap .i64 (256 * d33.1)) + (IntKind.wrap .i64 x34)), IntKind.wrap .i64 (d33.2 - 1)), rfl, hl3, (Wk.canonD [] [] [] rfl trivial rfl tmO0 (tmAllU 4 (tmAllU 3 (tmAllU 0 tmAll0 (Tm.clean (Clean.imm (vu_clean _)))) (Tm.v _)) (Tm.v _)))⟩
   ·
    have hl3 := cF hl3 h4; refine awp_exit ?_; refine lq_e ?_; refine bq_e ?_; refine sq_n ?_; obtain rfl := someInj hl3; exact ⟨_, rfl, (Wk.canonD [] [] [] rfl trivial rfl tmO0 (tmAllU 3 tmAll0 (Tm.v _)))⟩
 ·
  rintro _ rfl; clear hi1; unfold hotspotref26_counter_S0; refine awp_nw [3] fun tz U u => ?_; (try simp only [go_sem]); refine qU u ?_; clear u U; refine awp_ret1 ?_; obtain rfl := someInj h0; refine endW_i ?_; refine end_ret0 rs21 (rfl) ?_; exact qF
theorem hotspotref21_word_p (a0 : Int) (a1 : Int) (a2 : Int) (a3 : Int) {r : Int} (h0 : hotspotref21_word a0 a1 a2 a3 = some r) : SndP K 63 [(vu a0), (vu a1), (vu a2), (vu a3)] (vw r) := by
 refine SndP.of_walkW hC (Clean.v _) (clean_cons (Clean.v _) (clean_cons (Clean.v _) (clean_cons (Clean.v _) (clean_cons (Clean.v _) clean_nil)))) (show K.P.funcs[63]? = some Try.f63 from Try.func63) rfl rfl (by decide +kernel) (Nat.le_of_ble_eq_true rfl) ?_; unfold hotspotref21_word at h0; refine awp_nw [0,1,2,3] fun tz U u => ?_; (try simp only [go_sem]); refine qU u ?_; clear u U; refine awp_nw [0,1,2,3] fun tz U u => ?_; (try simp only [go_sem]); refine qU u ?_; clear u U; refine awp_ret1 ?_; obtain rfl := someInj h0; refine endW_i ?_; refine end_ret0 rs63 (rfl) ?_; exact qF
def hotspotref21_Words_S0 (d44 : A4vw) : AS :=
 { objs := (upd (upd (fun _ => .dead) 0 (.live (e_A4vw A4vw.z))) 1 (.live (e_A4vw d44))), next := 2, tmps := (upd (upd (fun _ => .unk) 2 (.ptr 0 0)) 3 (.ptr 1 0)) }

def hotspotref21_Words_S1 (a0 : A16vu) (d45 : (A4vw × Int)) : AS :=
 { objs := (upd (upd (upd (fun _ => .dead) 0 (.live (e_A16vu a0))) 1 (.live (e_A4vw A4vw.z))) 2 (.live (e_A4vw d45.1))), next := 3, tmps := (upd (upd (upd (upd (fun _ => .unk) 1 (.ptr 0 0)) 2 (.ptr 1 0)) 3 (.ptr 2 0)) 4 (vi d45.2)) }

theorem hotspotref21_Words_p (a0 : A16vu) {r : A4vw} (h0 : hotspotref21_Words a0 = some r) : SndP K 54 [(.agg (e_A16vu a0))] (.agg (e_A4vw r)) := by
 refine SndP.of_walkW hC (Clean.agg (e_A4vw_clean _)) (clean_cons (Clean.agg (e_A16vu_clean _)) clean_nil) (show K.P.funcs[54]? = some Try.f54 from Try.func54) rfl rfl (by decide +kernel) (Nat.le_of_ble_eq_true rfl) ?_; unfold hotspotref21_Words at h0; refine awp_nw [0] fun tz U u => ?_; (try simp only [go_sem]); refine qU u ?_; clear u U; refine awp_nw [1,2] fun tz U u => ?_; (try simp only [go_sem]); refine qU u ?_; clear u U; refine awp_assoc ?_; refine awp_nw [1,2,3] fun tz U u => ?_; (try simp only [go_sem]); refine qU u ?_; clear u U; obtain ⟨d44, hi1, h0⟩ := bnd h0; refine awp_cut (fun z => d44 = z) (fun d44 : A4vw => hotspotref21_Words_S0 d44) ?_ ?_
 ·
  refine awp_block1 ?_; refine awp_loopS (fun n (d45 : (A4vw × Int)) => hotspotref21_Words_L2 a0 n d45 = some d44) (fun d45 : (A4vw × Int) => hotspotref21_Words_S1 a0 d45) big (A4vw.z, 0) (Wk.canonD [] [] [some 0, some 1, some 2] rfl trivial rfl (tmOC 2 (tmOC 1 (tmOC 0 tmO0 (e_A16vu_clean _)) (e_A4vw_clean _)) (e_A4vw_clean _)) (tmAllU 4 (tmAllU 3 (tmAllU 2 (tmAllU 1 tmAll0 (Tm.ptr rfl)) (Tm.ptr rfl)) (Tm.ptr rfl)) (Tm.v _))) hi1 ?_; clear hi1; rintro n d45 hl3; rcases n with _ | n2
  ·
   (rw [hotspotref21_Words_L2] at hl3; cases hl3)
  ·
   rw [hotspotref21_Words_L2] at hl3; unfold hotspotref21_Words_S1; refine awp_assoc ?_; refine awp_nw [1,2,3,4] fun tz U u => ?_; (try simp only [go_sem]); refine qU u ?_; clear u U; refine awp_cond (b := (decide (d45.2 < 4))) rfl (fun h4 => ?_) (fun h4 => ?_)
   ·
    have hl3 := cT hl3 h4; refine awp_skip ?_; refine awp_blockW ?_; refine awp_nr1 [1,2,3,4] (fun _ => rfl) fun tz => ?_; refine awp_regD1 fun U u all hall => ?_; refine xd_id ?_; (try simp only [List.toList_toArray, List.map_cons, List.map_nil, List.size_toArray, List.length_cons, List.length_nil, Nat.zero_add]); (try simp only [Nat.reduceAdd]); obtain ⟨x46, bx46, hl3⟩ := bnd hl3; obtain ⟨fx46_0, fx46_1, fx46_2, fx46_3⟩ := idxA_some bx46; (have fx46_6 : (e_A16vu a0)[(IntKind.wrap .i64 (4 * d45.2)).toNat]? = some (vu x46) := by show (List.map vu [a0.a0, a0.a1, a0.a2, a0.a3, a0.a4, a0.a5, a0.a6, a0.a7, a0.a8, a0.a9, a0.a10, a0.a11, a0.a12, a0.a13, a0.a14, a0.a15])[(IntKind.wrap .i64 (4 * d45.2)).toNat]? = _; rw [List.getElem?_map, fx46_2]; rfl); obtain ⟨x47, bx47, hl3⟩ := bnd hl3; obtain ⟨fx47_0, fx47_1, fx47_2, fx47_3⟩ := idxA_some bx47; (have fx47_6 : (e_A16vu a0)[(IntKind.wrap .i64 ((IntKind.wrap .i64 (4 * d45.2)) + 1)).toNat]? = some (vu x47) := by show (List.map vu [a0.a0, a0.a1, a0.a2, a0.a3, a0.a4, a0.a5, a0.a6, a0.a7, a0.a8, a0.a9, a0.a10, a0.a11, a0.a12, a0.a13, a0.a14, a0.a15])[(IntKind.wrap .i64 ((IntKind.wrap .i64 (4 * d45.2)) + 1)).toNat]? = _; rw [List.getElem?_map, fx47_2]; rfl); obtain ⟨x48, bx48, hl3⟩ := bnd hl3; obtain ⟨fx48_0, fx48_1, fx48_2, fx48_3⟩ := idxA_some bx48; (have fx48_6 : (e_A16vu a0)[(IntKind.wrap .i64 ((IntKind.wrap .i64 (4 * d45.2)) + 2)).toNat]? = some (vu x48) := by show (List.map vu [a0.a0, a0.a1, a0.a2, a0.a3, a0.a4, a0.a5, a0.a6, a0.a7, a0.a8, a0.a9, a0.a10, a0.a11, a0.a12, a0.a13, a0.a14, a0.a15])[(IntKind.wrap .i64 ((IntKind.wrap .i64 (4 * d45.2)) + 2)).toNat]? = _; rw [List.getElem?_map, fx48_2]; rfl); obtain ⟨x49, bx49, hl3⟩ := bnd hl3; obtain ⟨fx49_0, fx49_1, fx49_2, fx49_3⟩ := idxA_some bx49; (have fx49_6 : (e_A16vu a0)[(IntKind.wrap .i64 ((IntKind.wrap .i64 (4 * d45.2)) + 3)).toNat]? = some (vu x49) := by show (List.map vu [a0.a0, a0.a1, a0.a2, a0.a3, a0.a4, a0.a5, a0.a6, a0.a7, a0.a8, a0.a9, a0.a10, a0.a11, a0.a12, a0.a13, a0.a14, a0.a15])[(IntKind.wrap .i64 ((IntKind.wrap .i64 (4 * d45.2)) + 3)).toNat]? = _; rw [List.getElem?_map, fx49_2]; rfl); obtain ⟨x50, bx50, hl3⟩ := bnd hl3; (iterate 3 ((try simp only [go_sem, -Nat.reduceAdd, fx46_0, fx46_1, fx46_6, fx47_0, fx47_1, fx47_6, fx48_0, fx48_1, fx48_6, fx49_0, fx49_1, fx49_6]); try simp only [Nat.reduceAdd])); (refine xcallD_p (hotspotref21_word_p x46 x47 x48 x49 bx50) ?_; try dsimp only); (try refine xd_id ?_); obtain ⟨x51, bx51, hl3⟩ := bnd hl3; obtain ⟨fx51_0, fx51_1, fx51_2, fx51_3⟩ := idxA_some bx51; (have fx51_6 : (e_A4vw d45.1)[(d45.2).toNat]? = some (vw x51) := by show (List.map vw [d45.1.a0, d45.1.a1, d45.1.a2, d45.1.a3])[(d45.2).toNat]? = _; rw [List.getElem?_map, fx51_2]; rfl); (have gs5b : (d45.2).toNat < 4 := by have h0 := of_eq_true fx51_0; have h1 := of_eq_true fx51_1; omega); have gs5 : (e_A4vw d45.1).set ((d45.2).toNat) (vw x50) = e_A4vw (d45.1.setA ((d45.2).toNat) x50) := e_A4vw_setA _ _ gs5b; have gs5l : ((d45.2).toNat + 1 ≤ 4) = True := eq_true (by omega); (iterate 3 ((try simp only [go_sem, -Nat.reduceAdd, fx46_0, fx46_1, fx46_6, fx47_0, fx47_1, fx47_6, fx48_0, fx48_1, fx48_6, fx49_0, fx49_1, fx49_6, fx51_0, fx51_1, fx51_6, gs5, gs5l]); try simp only [Nat.reduceAdd])); refine And.intro ?_ (u _ ?_)
    ·
     subst hall; clear u U; exact qP
    ·
     clear u U hall all; refine bq_n ?_; refine seqW_i ?_; refine awp_nw1 [1,2,3,4] fun tz U u => ?_; (try simp only [go_sem, fx46_0, fx46_1, fx46_6, fx47_0, fx47_1, fx47_6, fx48_0, fx48_1, fx48_6, fx49_0, fx49_1, fx49_6, fx51_0, fx51_1, fx51_6]); refine u _ ?_; clear u U; refine lq_n ?_; exact ⟨n2, ((d45.1.setA ((d45.2).toNat) x50), IntKind.wrap .i64 (d45.2 + 1)), rfl, hl3, (Wk.canonD [] [] [some 0, some 1, some 2] rfl trivial rfl (tmOC 2 (tmOC 1 (tmOC 0 tmO0 (e_A16vu_clean _)) (e_A4vw_clean _)) (e_A4vw_clean _)) (tmAllU 4 (tmAllU 3 (tmAllU 2 (tmAllU 1 tmAll0 (Tm.ptr rfl)) (Tm.ptr rfl)) (Tm.ptr rfl)) (Tm.v _)))⟩
   ·
    have hl3 := cF hl3 h4; refine awp_exit ?_; refine lq_e ?_; refine bq_e ?_; refine sq_n ?_; obtain rfl := someInj hl3; exact ⟨_, rfl, (Wk.canonD [] [] [some 1, some 2] rfl trivial rfl (tmOC 1 (tmOC 0 tmO0 (e_A4vw_clean _)) (e_A4vw_clean _)) (tmAllU 3 (tmAllU 2 tmAll0 (Tm.ptr rfl)) (Tm.ptr rfl)))⟩
 ·
  rintro _ rfl; clear hi1; unfold hotspotref21_Words_S0; refine awp_nw [2,3] fun tz U u => ?_; (try simp only [go_sem]); refine qU u ?_; clear u U; refine awp_ret1 ?_; obtain rfl := someInj h0; refine endW_i ?_; refine end_ret0 rs54 qR ?_; exact qF
theorem hotspotref21_Left_p (a0 : Int) (a1 : Int) {r : Int} (h0 : hotspotref21_Left a0 a1 = some r) : SndP K 62 [(vw a0), (vi a1)] (vw r) := by
 refine SndP.of_walkW hC (Clean.v _) (clean_cons (Clean.v _) (clean_cons (Clean.v _) clean_nil)) (show K.P.funcs[62]? = some Try.f62 from Try.func62) rfl rfl (by decide +kernel) (Nat.le_of_ble_eq_true rfl) ?_; unfold hotspotref21_Left at h0; refine awp_nw [0,1] fun tz U u => ?_; (try simp only [go_sem]); refine qU u ?_; clear u U; refine awp_nw [0,1] fun tz U u => ?_; obtain ⟨x58, bx58, h0⟩ := bnd h0; have bx58 := chk_some bx58; simp only [Bool.and_eq_true, decide_eq_true_eq] at bx58; have gx58_0 := bx58; obtain ⟨x59, bx59, h0⟩ := bnd h0; have bx59 := chk_some bx59; simp only [Bool.and_eq_true, decide_eq_true_eq] at bx59; have gx59_0 := bx59; (try simp only [go_sem, gx58_0, gx59_0]); refine qU u ?_; clear u U; refine awp_ret1 ?_; obtain rfl := someInj h0; refine endW_i ?_; refine end_ret0 rs62 (rfl) ?_; exact qF
def hotspotref21_Schedule_S0 (x44 : A4vw) : AS :=
 { objs := (upd (upd (upd (fun _ => .dead) 0 (.live (e_A36vw A36vw.z))) 1 (.live (e_A36vw A36vw.z))) 2 (.live (e_A4vw x44))), next := 3, tmps := (upd (upd (upd (fun _ => .unk) 2 (.ptr 0 0)) 3 (.ptr 1 0)) 4 (.ptr 2 0)) }

def hotspotref21_Schedule_S1 (d45 : A36vw) : AS :=
 { objs := (upd (upd (fun _ => .dead) 0 (.live (e_A36vw A36vw.z))) 1 (.live (e_A36vw d45))), next := 2, tmps := (upd (upd (fun _ => .unk) 2 (.ptr 0 0)) 3 (.ptr 1 0)) }

def hotspotref21_Schedule_S2 (x44 : A4vw) (d46 : (A36vw × Int)) : AS :=
 { objs := (upd (upd (upd (fun _ => .dead) 0 (.live (e_A36vw A36vw.z))) 1 (.live (e_A36vw d46.1))) 2 (.live (e_A4vw x44))), next := 3, tmps := (upd (upd (upd (upd (fun _ => .unk) 2 (.ptr 0 0)) 3 (.ptr 1 0)) 4 (.ptr 2 0)) 5 (vi d46.2)) }

theorem hotspotref21_Schedule_p (a0 : A16vu) {r : A36vw} (h0 : hotspotref21_Schedule a0 = some r) : SndP K 53 [(.agg (e_A16vu a0))] (.agg (e_A36vw r)) := by
 refine SndP.of_walkW hC (Clean.agg (e_A36vw_clean _)) (clean_cons (Clean.agg (e_A16vu_clean _)) clean_nil) (show K.P.funcs[53]? = some Try.f53 from Try.func53) rfl rfl (by decide +kernel) (Nat.le_of_ble_eq_true rfl) ?_; unfold hotspotref21_Schedule at h0; refine awp_nw [0] fun tz U u => ?_; (try simp only [go_sem]); refine qU u ?_; clear u U; refine awp_nw [1,2] fun tz U u => ?_; (try simp only [go_sem]); refine qU u ?_; clear u U; refine awp_nw [1,2,3] fun tz U u => ?_; obtain ⟨x44, bx44, h0⟩ := bnd h0; (try simp only [go_sem]); (refine xcall_p (hotspotref21_Words_p a0 bx44) ?_; try dsimp only); (try refine xw_id ?_); (try simp only [go_sem]); refine u _ (hotspotref21_Schedule_S0 x44) (Wk.canonD [] [] [some 1, some 2, some 5] rfl trivial rfl (tmOC 2 (tmOC 1 (tmOC 0 tmO0 (e_A36vw_clean _)) (e_A36vw_clean _)) (e_A4vw_clean _)) (tmAllU 4 (tmAllU 3 (tmAllU 2 tmAll0 (Tm.ptr rfl)) (Tm.ptr rfl)) (Tm.ptr rfl))) ?_; clear u U; unfold hotspotref21_Schedule_S0; refine awp_assoc ?_; refine awp_nw [2,3,4] fun tz U u => ?_; (try simp only [go_sem]); refine qU u ?_; clear u U; obtain ⟨d45, hi1, h0⟩ := bnd h0; refine awp_cut (fun z => d45 = z) (fun d45 : A36vw => hotspotref21_Schedule_S1 d45) ?_ ?_
 ·
  refine awp_block1 ?_; refine awp_loopS (fun n (d46 : (A36vw × Int)) => hotspotref21_Schedule_L3 x44 a0 n d46 = some d45) (fun d46 : (A36vw × Int) => hotspotref21_Schedule_S2 x44 d46) big (A36vw.z, 0) (Wk.canonD [] [] [some 0, some 1, some 2] rfl trivial rfl (tmOC 2 (tmOC 1 (tmOC 0 tmO0 (e_A36vw_clean _)) (e_A36vw_clean _)) (e_A4vw_clean _)) (tmAllU 5 (tmAllU 4 (tmAllU 3 (tmAllU 2 tmAll0 (Tm.ptr rfl)) (Tm.ptr rfl)) (Tm.ptr rfl)) (Tm.v _))) hi1 ?_; clear hi1; rintro n d46 hl3; rcases n with _ | n2
  ·
   (rw [hotspotref21_Schedule_L3] at hl3; cases hl3)
  ·
   rw [hotspotref21_Schedule_L3] at hl3; unfold hotspotref21_Schedule_S2; refine awp_assoc ?_; refine awp_nw [2,3,4,5] fun tz U u => ?_; (try simp only [go_sem]); refine qU u ?_; clear u U; refine awp_cond (b := (decide (d46.2 < 36))) rfl (fun h4 => ?_) (fun h4 => ?_)
   ·
    have hl3 := cT hl3 h4; refine awp_skip ?_; refine awp_blockW ?_; refine awp_nw [2,3,4,5] fun tz U u => ?_; (try simp only [go_sem]); refine qU u ?_; clear u U; refine awp_cond1 (b := (decide (d46.2 < 4))) rfl (fun h5 => ?_) (fun h5 => ?_)
    ·
     have hl3 := cT hl3 h5; refine awp_nw1 [2,3,4,5] fun tz U u => ?_; obtain ⟨x47, bx47, hl3⟩ := bnd hl3; obtain ⟨fx47_0, fx47_1, fx47_2, fx47_3⟩ := idxA_some bx47; (have fx47_6 : (e_A4vw x44)[(d46.2).toNat]? = some (vw x47) := by show (List.map vw [x44.a0, x44.a1, x44.a2, x44.a3])[(d46.2).toNat]? = _; rw [List.getElem?_map, fx47_2]; rfl); obtain ⟨x48, bx48, hl3⟩ := bnd hl3; obtain ⟨fx48_0, fx48_1, fx48_2, fx48_3⟩ := idxA_some bx48; (have fx48_6 : (e_A36vw d46.1)[(d46.2).toNat]? = some (vw x48) := by show (List.map vw [d46.1.a0, d46.1.a1, d46.1.a2, d46.1.a3, d46.1.a4, d46.1.a5, d46.1.a6, d46.1.a7, d46.1.a8, d46.1.a9, d46.1.a10, d46.1.a11, d46.1.a12, d46.1.a13, d46.1.a14, d46.1.a15, d46.1.a16, d46.1.a17, d46.1.a18, d46.1.a19, d46.1.a20, d46.1.a21, d46.1.a22, d46.1.a23, d46.1.a24, d46.1.a25, d46.1.a26, d46.1.a27, d46.1.a28, d46.1.a29, d46.1.a30, d46.1.a31, d46.1.a32, d46.1.a33, d46.1.a34, d46.1.a35])[(d46.2).toNat]? = _; rw [List.getElem?_map, fx48_2]; rfl); (have gs6b : (d46.2).toNat < 36 := by have h0 := of_eq_true fx48_0; have h1 := of_eq_true fx48_1; omega); have gs6 : (e_A36vw d46.1).set ((d46.2).toNat) (vw x47) = e_A36vw (d46.1.setA ((d46.2).toNat) x47) := e_A36vw_setA _ _ gs6b; have gs6l : ((d46.2).toNat + 1 ≤ 36) = True := eq_true (by omega); (try simp only [go_sem, fx47_0, fx47_1, fx47_6, fx48_0, fx48_1, fx48_6, gs6, gs6l]); refine u _ ?_; clear u U; refine bq_n ?_; refine seqW_i ?_; refine awp_nw1 [2,3,4,5] fun tz U u => ?_; (try simp only [go_sem, fx47_0, fx47_1, fx47_6, fx48_0, fx48_1, fx48_6]); refine u _ ?_; clear u U; refine lq_n ?_; exact ⟨n2, ((d46.1.setA ((d46.2).toNat) x47), IntKind.wrap .i64 (d46.2 + 1)), rfl, hl3, (Wk.canonD [] [] [some 0, some 1, some 2] rfl trivial rfl (tmOC 2 (tmOC 1 (tmOC 0 tmO0 (e_A36vw_clean _)) (e_A36vw_clean _)) (e_A4vw_clean _)) (tmAllU 5 (tmAllU 4 (tmAllU 3 (tmAllU 2 tmAll0 (Tm.ptr rfl)) (Tm.ptr rfl)) (Tm.ptr rfl)) (Tm.v _)))⟩
    ·
     have hl3 := cF hl3 h5; refine awp_nr1 [2,3,4,5] (fun _ => rfl) fun tz => ?_; refine awp_regD1 fun U u all hall => ?_; refine xd_id ?_; (try simp only [List.toList_toArray, List.map_cons, List.map_nil, List.size_toArray, List.length_cons, List.length_nil, Nat.zero_add]); (try simp only [Nat.reduceAdd]); obtain ⟨x49, bx49, hl3⟩ := bnd hl3; obtain ⟨fx49_0, fx49_1, fx49_2, fx49_3⟩ := idxA_some bx49; (have fx49_6 : (e_A36vw d46.1)[(IntKind.wrap .i64 (d46.2 - 4)).toNat]? = some (vw x49) := by show (List.map vw [d46.1.a0, d46.1.a1, d46.1.a2, d46.1.a3, d46.1.a4, d46.1.a5, d46.1.a6, d46.1.a7, d46.1.a8, d46.1.a9, d46.1.a10, d46.1.a11, d46.1.a12, d46.1.a13, d46.1.a14, d46.1.a15, d46.1.a16, d46.1.a17, d46.1.a18, d46.1.a19, d46.1.a20, d46.1.a21, d46.1.a22, d46.1.a23, d46.1.a24, d46.1.a25, d46.1.a26, d46.1.a27, d46.1.a28, d46.1.a29, d46.1.a30, d46.1.a31, d46.1.a32, d46.1.a33, d46.1.a34, d46.1.a35])[(IntKind.wrap .i64 (d46.2 - 4)).toNat]? = _; rw [List.getElem?_map, fx49_2]; rfl); obtain ⟨x50, bx50, hl3⟩ := bnd hl3; obtain ⟨fx50_0, fx50_1, fx50_2, fx50_3⟩ := idxA_some bx50; (have fx50_6 : (e_A36vw d46.1)[(IntKind.wrap .i64 (d46.2 - 1)).toNat]? = some (vw x50) := by show (List.map vw [d46.1.a0, d46.1.a1, d46.1.a2, d46.1.a3, d46.1.a4, d46.1.a5, d46.1.a6, d46.1.a7, d46.1.a8, d46.1.a9, d46.1.a10, d46.1.a11, d46.1.a12, d46.1.a13, d46.1.a14, d46.1.a15, d46.1.a16, d46.1.a17, d46.1.a18, d46.1.a19, d46.1.a20, d46.1.a21, d46.1.a22, d46.1.a23, d46.1.a24, d46.1.a25, d46.1.a26, d46.1.a27, d46.1.a28, d46.1.a29, d46.1.a30, d46.1.a31, d46.1.a32, d46.1.a33, d46.1.a34, d46.1.a35])[(IntKind.wrap .i64 (d46.2 - 1)).toNat]? = _; rw [List.getElem?_map, fx50_2]; rfl); obtain ⟨x51, bx51, hl3⟩ := bnd hl3; (iterate 3 ((try simp only [go_sem, -Nat.reduceAdd, fx49_0, fx49_1, fx49_6, fx50_0, fx50_1, fx50_6]); try simp only [Nat.reduceAdd])); (refine xcallD_p (hotspotref21_Left_p x50 7 bx51) ?_; try dsimp only); (try refine xd_id ?_); obtain ⟨x52, bx52, hl3⟩ := bnd hl3; obtain ⟨fx52_0, fx52_1, fx52_2, fx52_3⟩ := idxA_some bx52; (have fx52_6 : (e_A36vw d46.1)[(d46.2).toNat]? = some (vw x52) := by show (List.map vw [d46.1.a0, d46.1.a1, d46.1.a2, d46.1.a3, d46.1.a4, d46.1.a5, d46.1.a6, d46.1.a7, d46.1.a8, d46.1.a9, d46.1.a10, d46.1.a11, d46.1.a12, d46.1.a13, d46.1.a14, d46.1.a15, d46.1.a16, d46.1.a17, d46.1.a18, d46.1.a19, d46.1.a20, d46.1.a21, d46.1.a22, d46.1.a23, d46.1.a24, d46.1.a25, d46.1.a26, d46.1.a27, d46.1.a28, d46.1.a29, d46.1.a30, d46.1.a31, d46.1.a32, d46.1.a33, d46.1.a34, d46.1.a35])[(d46.2).toNat]? = _; rw [List.getElem?_map, fx52_2]; rfl); (have gs7b : (d46.2).toNat < 36 := by have h0 := of_eq_true fx52_0; have h1 := of_eq_true fx52_1; omega); have gs7 : (e_A36vw d46.1).set ((d46.2).toNat) (vw (IntKind.wrap .u32 (x49 + (bxor .u32 x51 (IntKind.wrap .u32 ((IntKind.wrap .u32 ((IntKind.wrap .u32 d46.2) * 2050759141)) + 525043411)))))) = e_A36vw (d46.1.setA ((d46.2).toNat) (IntKind.wrap .u32 (x49 + (bxor .u32 x51 (IntKind.wrap .u32 ((IntKind.wrap .u32 ((IntKind.wrap .u32 d46.2) * 2050759141)) + 525043411)))))) := e_A36vw_setA _ _ gs7b; have gs7l : ((d46.2).toNat + 1 ≤ 36) = True := eq_true (by omega); (iterate 3 ((try simp only [go_sem, -Nat.reduceAdd, fx49_0, fx49_1, fx49_6, fx50_0, fx50_1, fx50_6, fx52_0, fx52_1, fx52_6, gs7, gs7l]); try simp only [Nat.reduceAdd])); refine And.intro ?_ (u _ ?_)
     ·
      subst hall; clear u U; exact qP
     ·
      clear u U hall all; refine bq_n ?_; refine seqW_i ?_; refine awp_nw1 [2,3,4,5] fun tz U u => ?_; (try simp only [go_sem, fx49_0, fx49_1, fx49_6, fx50_0, fx50_1, fx50_6, fx52_0, fx52_1, fx52_6]); refine u _ ?_; clear u U; refine lq_n ?_; exact ⟨n2, ((d46.1.setA ((d46.2).toNat) (IntKind.wrap .u32 (x49 + (bxor .u32 x51 (IntKind.wrap .u32 ((IntKind.wrap .u32 ((IntKind.wrap .u32 d46.2) * 2050759141)) + 525043411)))))), IntKind.wrap .i64 (d46.2 + 1)), rfl, hl3, (Wk.canonD [] [] [some 0, some 1, some 2] rfl trivial rfl (tmOC 2 (tmOC 1 (tmOC 0 tmO0 (e_A36vw_clean _)) (e_A36vw_clean _)) (e_A4vw_clean _)) (tmAllU 5 (tmAllU 4 (tmAllU 3 (tmAllU 2 tmAll0 (Tm.ptr rfl)) (Tm.ptr rfl)) (Tm.ptr rfl)) (Tm.v _)))⟩
   ·
    have hl3 := cF hl3 h4; refine awp_exit ?_; refine lq_e ?_; refine bq_e ?_; refine sq_n ?_; obtain rfl := someInj hl3; exact ⟨_, rfl, (Wk.canonD [] [] [some 0, some 1] rfl trivial rfl (tmOC 1 (tmOC 0 tmO0 (e_A36vw_clean _)) (e_A36vw_clean _)) (tmAllU 3 (tmAllU 2 tmAll0 (Tm.ptr rfl)) (Tm.ptr rfl)))⟩
 ·
  rintro _ rfl; clear hi1; unfold hotspotref21_Schedule_S1; refine awp_nw [2,3] fun tz U u => ?_; (try simp only [go_sem]); refine qU u ?_; clear u U; refine awp_ret1 ?_; obtain rfl := someInj h0; refine endW_i ?_; refine end_ret0 rs53 qR ?_; exact qF
def hotspotref21_Round_S0 (a0 : A4vw) (a1 : Int) (a2 : Int) (x62 : Int) (x63 : Int) : AS :=
 { objs := (upd (upd (fun _ => .dead) 0 (.live (e_A4vw a0))) 1 (.live (e_A4vw A4vw.z))), next := 2, tmps := (upd (upd (upd (upd (upd (upd (fun _ => .unk) 1 (vw a1)) 2 (vw a2)) 3 (.ptr 0 0)) 6 (.ptr 1 0)) 7 (vw (IntKind.wrap .u32 (a0.a0 + (bxor .u32 x62 a1))))) 8 (vw (IntKind.wrap .u32 (a0.a2 + (bxor .u32 x63 a2))))) }

theorem hotspotref21_Round_p (a0 : A4vw) (a1 : Int) (a2 : Int) {r : A4vw} (h0 : hotspotref21_Round a0 a1 a2 = some r) : SndP K 55 [(.agg (e_A4vw a0)), (vw a1), (vw a2)] (.agg (e_A4vw r)) := by
 refine SndP.of_walkW hC (Clean.agg (e_A4vw_clean _)) (clean_cons (Clean.agg (e_A4vw_clean _)) (clean_cons (Clean.v _) (clean_cons (Clean.v _) clean_nil))) (show K.P.funcs[55]? = some Try.f55 from Try.func55) rfl rfl (by decide +kernel) (Nat.le_of_ble_eq_true rfl) ?_; unfold hotspotref21_Round at h0; refine awp_nw [0,1,2] fun tz U u => ?_; (try simp only [go_sem]); refine qU u ?_; clear u U; refine awp_nw [1,2,3,6] fun tz U u => ?_; obtain ⟨x62, bx62, h0⟩ := bnd h0; (try simp only [go_sem]); (refine xcall_p (hotspotref21_Left_p a0.a1 5 bx62) ?_; try dsimp only); (try refine xw_id ?_); (try simp only [go_sem]); refine qU u ?_; clear u U; refine awp_nw [1,2,3,6,7] fun tz U u => ?_; obtain ⟨x63, bx63, h0⟩ := bnd h0; (try simp only [go_sem]); (refine xcall_p (hotspotref21_Left_p a0.a3 9 bx63) ?_; try dsimp only); (try refine xw_id ?_); (try simp only [go_sem]); refine u _ (hotspotref21_Round_S0 a0 a1 a2 x62 x63) (Wk.canonD [] [] [some 0, some 1] rfl trivial rfl (tmOC 1 (tmOC 0 tmO0 (e_A4vw_clean _)) (e_A4vw_clean _)) (tmAllU 8 (tmAllU 7 (tmAllU 6 (tmAllU 3 (tmAllU 2 (tmAllU 1 tmAll0 (Tm.v _)) (Tm.v _)) (Tm.ptr rfl)) (Tm.ptr rfl)) (Tm.v _)) (Tm.v _))) ?_; clear u U; unfold hotspotref21_Round_S0; refine awp_nw [1,2,3,6,7,8] fun tz U u => ?_; obtain ⟨x64, bx64, h0⟩ := bnd h0; (try simp only [go_sem]); (refine xcall_p (hotspotref21_Left_p (IntKind.wrap .u32 ((IntKind.wrap .u32 (a0.a2 + (bxor .u32 x63 a2))) + a1)) 13 bx64) ?_; try dsimp only); (try refine xw_id ?_); (try simp only [go_sem]); refine qU u ?_; clear u U; refine awp_nw [2,3,6,7,8,9] fun tz U u => ?_; obtain ⟨x65, bx65, h0⟩ := bnd h0; (try simp only [go_sem]); (refine xcall_p (hotspotref21_Left_p (IntKind.wrap .u32 ((IntKind.wrap .u32 (a0.a0 + (bxor .u32 x62 a1))) + a2)) 19 bx65) ?_; try dsimp only); (try refine xw_id ?_); (try simp only [go_sem]); refine qU u ?_; clear u U; refine awp_nw [6,7,8,9,10] fun tz U u => ?_; (try simp only [go_sem]); refine qU u ?_; clear u U; refine awp_ret1 ?_; obtain rfl := someInj h0; refine endW_i ?_; refine end_ret0 rs55 qR ?_; exact qF
def hotspotref21_Join_S0 (d64 : A16vu) : AS :=
 { objs := (upd (upd (fun _ => .dead) 0 (.live (e_A16vu A16vu.z))) 1 (.live (e_A16vu d64))), next := 2, tmps := (upd (upd (fun _ => .unk) 2 (.ptr 0 0)) 3 (.ptr 1 0)) }

def hotspotref21_Join_S1 (a0 : A4vw) (d65 : (A16vu × Int)) : AS :=
 { objs := (upd (upd (upd (fun _ => .dead) 0 (.live (e_A4vw a0))) 1 (.live (e_A16vu A16vu.z))) 2 (.live (e_A16vu d65.1))), next := 3, tmps := (upd (upd (upd (upd (fun _ => .unk) 1 (.ptr 0 0)) 2 (.ptr 1 0)) 3 (.ptr 2 0)) 4 (vi d65.2)) }

def hotspotref21_Join_S3 (a0 : A4vw) (d65 : (A16vu × Int)) (d66 : A16vu) : AS :=
 { objs := (upd (upd (upd (fun _ => .dead) 0 (.live (e_A4vw a0))) 1 (.live (e_A16vu A16vu.z))) 2 (.live (e_A16vu d66))), next := 3, tmps := (upd (upd (upd (upd (fun _ => .unk) 1 (.ptr 0 0)) 2 (.ptr 1 0)) 3 (.ptr 2 0)) 4 (vi d65.2)) }

def hotspotref21_Join_S4 (a0 : A4vw) (d65 : (A16vu × Int)) (d68 : A16vu) : AS :=
 { objs := (upd (upd (upd (fun _ => .dead) 0 (.live (e_A4vw a0))) 1 (.live (e_A16vu A16vu.z))) 2 (.live (e_A16vu d68))), next := 3, tmps := (upd (upd (upd (upd (fun _ => .unk) 1 (.ptr 0 0)) 2 (.ptr 1 0)) 3 (.ptr 2 0)) 4 (vi d65.2)) }

def hotspotref21_Join_S5 (a0 : A4vw) (d65 : (A16vu × Int)) (d69 : (A16vu × Int × Int)) : AS :=
 { objs := (upd (upd (upd (fun _ => .dead) 0 (.live (e_A4vw a0))) 1 (.live (e_A16vu A16vu.z))) 2 (.live (e_A16vu d69.1))), next := 3, tmps := (upd (upd (upd (upd (upd (upd (fun _ => .unk) 1 (.ptr 0 0)) 2 (.ptr 1 0)) 3 (.ptr 2 0)) 4 (vi d65.2)) 5 (vw d69.2.1)) 6 (vi d69.2.2)) }

theorem hotspotref21_Join_p (a0 : A4vw) {r : A16vu} (h0 : hotspotref21_Join a0 = some r) : SndP K 56 [(.agg (e_A4vw a0))] (.agg (e_A16vu r)) := by
 refine SndP.of_walkW hC (Clean.agg (e_A16vu_clean _)) (clean_cons (Clean.agg (e_A4vw_clean _)) clean_nil) (show K.P.funcs[56]? = some Try.f56 from Try.func56) rfl rfl (by decide +kernel) (Nat.le_of_ble_eq_true rfl) ?_; unfold hotspotref21_Join at h0; refine awp_nw [0] fun tz U u => ?_; (try simp only [go_sem]); refine qU u ?_; clear u U; refine awp_nw [1,2] fun tz U u => ?_; (try simp only [go_sem]); refine qU u ?_; clear u U; refine awp_assoc ?_; refine awp_nw [1,2,3] fun tz U u => ?_; (try simp only [go_sem]); refine qU u ?_; clear u U; obtain ⟨d64, hi1, h0⟩ := bnd h0; refine awp_cut (fun z => d64 = z) (fun d64 : A16vu => hotspotref21_Join_S0 d64) ?_ ?_
 ·
  refine awp_block1 ?_; refine awp_loopS (fun n (d65 : (A16vu × Int)) => hotspotref21_Join_L2 a0 n d65 = some d64) (fun d65 : (A16vu × Int) => hotspotref21_Join_S1 a0 d65) big (A16vu.z, 0) (Wk.canonD [] [] [some 0, some 1, some 2] rfl trivial rfl (tmOC 2 (tmOC 1 (tmOC 0 tmO0 (e_A4vw_clean _)) (e_A16vu_clean _)) (e_A16vu_clean _)) (tmAllU 4 (tmAllU 3 (tmAllU 2 (tmAllU 1 tmAll0 (Tm.ptr rfl)) (Tm.ptr rfl)) (Tm.ptr rfl)) (Tm.v _))) hi1 ?_; clear hi1; rintro n d65 hl3; rcases n with _ | n2
  ·
   (rw [hotspotref21_Join_L2] at hl3; cases hl3)
  ·
   rw [hotspotref21_Join_L2] at hl3; unfold hotspotref21_Join_S1; refine awp_assoc ?_; refine awp_nw [1,2,3,4] fun tz U u => ?_; (try simp only [go_sem]); refine qU u ?_; clear u U; refine awp_cond (b := (decide (d65.2 < 4))) rfl (fun h4 => ?_) (fun h4 => ?_)
   ·
    have hl3 := cT hl3 h4; refine awp_skip ?_; obtain ⟨d66, hi5, hl3⟩ := bnd hl3; refine awp_cut (fun z => d66 = z) (fun d66 : A16vu => hotspotref21_Join_S3 a0 d65 d66) ?_ ?_
    ·
     refine awp_block1 ?_; refine awp_nw [1,2,3,4] fun tz U u => ?_; obtain ⟨x67, bx67, hi5⟩ := bnd hi5; obtain ⟨fx67_0, fx67_1, fx67_2, fx67_3⟩ := idxA_some bx67; (have fx67_6 : (e_A4vw a0)[(d65.2).toNat]? = some (vw x67) := by show (List.map vw [a0.a0, a0.a1, a0.a2, a0.a3])[(d65.2).toNat]? = _; rw [List.getElem?_map, fx67_2]; rfl); (try simp only [go_sem, fx67_0, fx67_1, fx67_6]); refine qU u ?_; clear u U; refine awp_nw [1,2,3,4,5] fun tz U u => ?_; (try simp only [go_sem, fx67_0, fx67_1, fx67_6]); refine qU u ?_; clear u U; obtain ⟨d68, hi6, hi5⟩ := bnd hi5; refine awp_cutQ (fun z => d68 = z) (fun d68 : A16vu => hotspotref21_Join_S4 a0 d65 d68) (clQ_blk clQ_cut) ?_ ?_
     ·
      refine awp_block1 ?_; refine awp_loopS (fun n (d69 : (A16vu × Int × Int)) => hotspotref21_Join_L6 a0 d65 n d69 = some d68) (fun d69 : (A16vu × Int × Int) => hotspotref21_Join_S5 a0 d65 d69) big (d65.1, x67, 0) (Wk.canonD [] [] [some 0, some 1, some 2] rfl trivial rfl (tmOC 2 (tmOC 1 (tmOC 0 tmO0 (e_A4vw_clean _)) (e_A16vu_clean _)) (e_A16vu_clean _)) (tmAllU 6 (tmAllU 5 (tmAllU 4 (tmAllU 3 (tmAllU 2 (tmAllU 1 tmAll0 (Tm.ptr rfl)) (Tm.ptr rfl)) (Tm.ptr rfl)) (Tm.v _)) (Tm.v _)) (Tm.v _))) hi6 ?_; clear hi6; rintro n d69 hl8; rcases n with _ | n7
      ·
       (rw [hotspotref21_Join_L6] at hl8; cases hl8)
      ·
       rw [hotspotref21_Join_L6] at hl8; unfold hotspotref21_Join_S5; refine awp_assoc ?_; refine awp_nw [1,2,3,4,5,6] fun tz U u => ?_; (try simp only [go_sem]); refine qU u ?_; clear u U; refine awp_cond (b := (decide (d69.2.2 < 4))) rfl (fun h9 => ?_) (fun h9 => ?_)
       ·
        have hl8 := cT hl8 h9; refine awp_skip ?_; refine awp_blockW ?_; refine awp_nw [1,2,3,4,5,6] fun tz U u => ?_; obtain ⟨x70, bx70, hl8⟩ := bnd hl8; obtain ⟨fx70_0, fx70_1, fx70_2, fx70_3⟩ := idxA_some bx70; (have fx70_6 : (e_A16vu d69.1)[(IntKind.wrap .i64 ((IntKind.wrap .i64 (4 * d65.2)) + d69.2.2)).toNat]? = some (vu x70) := by show (List.map vu [d69.1.a0, d69.1.a1, d69.1.a2, d69.1.a3, d69.1.a4, d69.1.a5, d69.1.a6, d69.1.a7, d69.1.a8, d69.1.a9, d69.1.a10, d69.1.a11, d69.1.a12, d69.1.a13, d69.1.a14, d69.1.a15])[(IntKind.wrap .i64 ((IntKind.wrap .i64 (4 * d65.2)) + d69.2.2)).toNat]? = _; rw [List.getElem?_map, fx70_2]; rfl); (have gs10b : (IntKind.wrap .i64 ((IntKind.wrap .i64 (4 * d65.2)) + d69.2.2)).toNat < 16 := by have h0 := of_eq_true fx70_0; have h1 := of_eq_true fx70_1; omega); have gs10 : (e_A16vu d69.1).set ((IntKind.wrap .i64 ((IntKind.wrap .i64 (4 * d65.2)) + d69.2.2)).toNat) (vu (IntKind.wrap .u8 ((d69.2.1).tmod 256))) = e_A16vu (d69.1.setA ((IntKind.wrap .i64 ((IntKind.wrap .i64 (4 * d65.2)) + d69.2.2)).toNat) (IntKind.wrap .u8 ((d69.2.1).tmod 256))) := e_A16vu_setA _ _ gs10b; have gs10l : ((IntKind.wrap .i64 ((IntKind.wrap .i64 (4 * d65.2)) + d69.2.2)).toNat + 1 ≤ 16) = True := eq_true (by omega); (try simp only [go_sem, Int.reduceEq, fx70_0, fx70_1, fx70_6, gs10, gs10l]); refine qU u ?_; clear u U; refine awp_nw1 [1,2,3,4,5,6] fun tz U u => ?_; (try simp only [go_sem, fx70_0, fx70_1, fx70_6, Int.reduceEq]); refine u _ ?_; clear u U; refine bq_n ?_; refine seqW_i ?_; refine awp_nw1 [1,2,3,4,5,6] fun tz U u => ?_; (try simp only [go_sem, fx70_0, fx70_1, fx70_6]); refine u _ ?_; clear u U; refine lq_n ?_; exact ⟨n7, ((d69.1.setA ((IntKind.wrap .i64 ((IntKind.wrap .i64 (4 * d65.2)) + d69.2.2)).toNat) (IntKind.wrap .u8 ((d69.2.1).tmod 256))), IntKind.wrap .u32 ((d69.2.1).tdiv 256), IntKind.wrap .i64 (d69.2.2 + 1)), rfl, hl8, (Wk.canonD [] [] [some 0, some 1, some 2] rfl trivial rfl (tmOC 2 (tmOC 1 (tmOC 0 tmO0 (e_A4vw_clean _)) (e_A16vu_clean _)) (e_A16vu_clean _)) (tmAllU 6 (tmAllU 5 (tmAllU 4 (tmAllU 3 (tmAllU 2 (tmAllU 1 tmAll0 (Tm.ptr rfl)) (Tm.ptr rfl)) (Tm.ptr rfl)) (Tm.v _)) (Tm.v _)) (Tm.v _)))⟩
       ·
        have hl8 := cF hl8 h9; refine awp_exit ?_; refine lq_e ?_; refine bq_e ?_; refine sq_n ?_; obtain rfl := someInj hl8; exact ⟨_, rfl, (Wk.canonD [] [] [some 0, some 1, some 2] rfl trivial rfl (tmOC 2 (tmOC 1 (tmOC 0 tmO0 (e_A4vw_clean _)) (e_A16vu_clean _)) (e_A16vu_clean _)) (tmAllU 4 (tmAllU 3 (tmAllU 2 (tmAllU 1 tmAll0 (Tm.ptr rfl)) (Tm.ptr rfl)) (Tm.ptr rfl)) (Tm.v _)))⟩
     ·
      rintro _ rfl; clear hi6; unfold hotspotref21_Join_S4; refine bq_n ?_; refine sq_n ?_; obtain rfl := someInj hi5; exact ⟨_, rfl, (Wk.canonD [] [] [some 0, some 1, some 2] rfl trivial rfl (tmOC 2 (tmOC 1 (tmOC 0 tmO0 (e_A4vw_clean _)) (e_A16vu_clean _)) (e_A16vu_clean _)) (tmAllU 4 (tmAllU 3 (tmAllU 2 (tmAllU 1 tmAll0 (Tm.ptr rfl)) (Tm.ptr rfl)) (Tm.ptr rfl)) (Tm.v _)))⟩
    ·
     rintro _ rfl; clear hi5; unfold hotspotref21_Join_S3; refine awp_nw1 [1,2,3,4] fun tz U u => ?_; (try simp only [go_sem]); refine u _ ?_; clear u U; refine lq_n ?_; exact ⟨n2, (d66, IntKind.wrap .i64 (d65.2 + 1)), rfl, hl3, (Wk.canonD [] [] [some 0, some 1, some 2] rfl trivial rfl (tmOC 2 (tmOC 1 (tmOC 0 tmO0 (e_A4vw_clean _)) (e_A16vu_clean _)) (e_A16vu_clean _)) (tmAllU 4 (tmAllU 3 (tmAllU 2 (tmAllU 1 tmAll0 (Tm.ptr rfl)) (Tm.ptr rfl)) (Tm.ptr rfl)) (Tm.v _)))⟩
   ·
    have hl3 := cF hl3 h4; refine awp_exit ?_; refine lq_e ?_; refine bq_e ?_; refine sq_n ?_; obtain rfl := someInj hl3; exact ⟨_, rfl, (Wk.canonD [] [] [some 1, some 2] rfl trivial rfl (tmOC 1 (tmOC 0 tmO0 (e_A16vu_clean _)) (e_A16vu_clean _)) (tmAllU 3 (tmAllU 2 tmAll0 (Tm.ptr rfl)) (Tm.ptr rfl)))⟩
 ·
  rintro _ rfl; clear hi1; unfold hotspotref21_Join_S0; refine awp_nw [2,3] fun tz U u => ?_; (try simp only [go_sem]); refine qU u ?_; clear u U; refine awp_ret1 ?_; obtain rfl := someInj h0; refine endW_i ?_; refine end_ret0 rs56 qR ?_; exact qF
def hotspotref21_Encrypt_S0 (a1 : A16vu) (x44 : A36vw) : AS :=
 { objs := (upd (upd (upd (fun _ => .dead) 0 (.live (e_A16vu a1))) 1 (.live (e_A16vu A16vu.z))) 2 (.live (e_A36vw x44))), next := 3, tmps := (upd (upd (upd (fun _ => .unk) 3 (.ptr 0 0)) 4 (.ptr 1 0)) 5 (.ptr 2 0)) }

def hotspotref21_Encrypt_S1 (x44 : A36vw) (d46 : A4vw) : AS :=
 { objs := (upd (upd (upd (fun _ => .dead) 0 (.live (e_A16vu A16vu.z))) 1 (.live (e_A36vw x44))) 2 (.live (e_A4vw d46))), next := 3, tmps := (upd (upd (upd (fun _ => .unk) 4 (.ptr 0 0)) 5 (.ptr 1 0)) 6 (.ptr 2 0)) }

def hotspotref21_Encrypt_S2 (x44 : A36vw) (d47 : (A4vw × Int)) : AS :=
 { objs := (upd (upd (upd (fun _ => .dead) 0 (.live (e_A16vu A16vu.z))) 1 (.live (e_A36vw x44))) 2 (.live (e_A4vw d47.1))), next := 3, tmps := (upd (upd (upd (upd (fun _ => .unk) 4 (.ptr 0 0)) 5 (.ptr 1 0)) 6 (.ptr 2 0)) 7 (vi d47.2)) }

def hotspotref21_Encrypt_S4 (d50 : A4vw) : AS :=
 { objs := (upd (upd (fun _ => .dead) 0 (.live (e_A16vu A16vu.z))) 1 (.live (e_A4vw d50))), next := 2, tmps := (upd (upd (fun _ => .unk) 4 (.ptr 0 0)) 6 (.ptr 1 0)) }

def hotspotref21_Encrypt_S5 (x44 : A36vw) (d51 : (A4vw × Int)) : AS :=
 { objs := (upd (upd (upd (fun _ => .dead) 0 (.live (e_A16vu A16vu.z))) 1 (.live (e_A36vw x44))) 2 (.live (e_A4vw d51.1))), next := 3, tmps := (upd (upd (upd (upd (fun _ => .unk) 4 (.ptr 0 0)) 5 (.ptr 1 0)) 6 (.ptr 2 0)) 8 (vi d51.2)) }

theorem hotspotref21_Encrypt_p (a0 : A16vu) (a1 : A16vu) {r : A16vu} (h0 : hotspotref21_Encrypt a0 a1 = some r) : SndP K 42 [(.agg (e_A16vu a0)), (.agg (e_A16vu a1))] (.agg (e_A16vu r)) := by
 refine SndP.of_walkW hC (Clean.agg (e_A16vu_clean _)) (clean_cons (Clean.agg (e_A16vu_clean _)) (clean_cons (Clean.agg (e_A16vu_clean _)) clean_nil)) (show K.P.funcs[42]? = some Try.f42 from Try.func42) rfl rfl (by decide +kernel) (Nat.le_of_ble_eq_true rfl) ?_; unfold hotspotref21_Encrypt at h0; refine awp_nw [0,1] fun tz U u => ?_; (try simp only [go_sem]); refine qU u ?_; clear u U; refine awp_nw [2,3,4] fun tz U u => ?_; obtain ⟨x44, bx44, h0⟩ := bnd h0; (try simp only [go_sem]); (refine xcall_p (hotspotref21_Schedule_p a0 bx44) ?_; try dsimp only); (try refine xw_id ?_); (try simp only [go_sem]); refine u _ (hotspotref21_Encrypt_S0 a1 x44) (Wk.canonD [] [] [some 1, some 2, some 5] rfl trivial rfl (tmOC 2 (tmOC 1 (tmOC 0 tmO0 (e_A16vu_clean _)) (e_A16vu_clean _)) (e_A36vw_clean _)) (tmAllU 5 (tmAllU 4 (tmAllU 3 tmAll0 (Tm.ptr rfl)) (Tm.ptr rfl)) (Tm.ptr rfl))) ?_; clear u U; unfold hotspotref21_Encrypt_S0; refine awp_nw [3,4,5] fun tz U u => ?_; obtain ⟨x45, bx45, h0⟩ := bnd h0; (try simp only [go_sem]); (refine xcall_p (hotspotref21_Words_p a1 bx45) ?_; try dsimp only); (try refine xw_id ?_); (try simp only [go_sem]); refine qU u ?_; clear u U; refine awp_assoc ?_; refine awp_nw [4,5,6] fun tz U u => ?_; (try simp only [go_sem]); refine qU u ?_; clear u U; obtain ⟨d46, hi1, h0⟩ := bnd h0; refine awp_cut (fun z => d46 = z) (fun d46 : A4vw => hotspotref21_Encrypt_S1 x44 d46) ?_ ?_
 ·
  refine awp_block1 ?_; refine awp_loopS (fun n (d47 : (A4vw × Int)) => hotspotref21_Encrypt_L3 a0 a1 x44 n d47 = some d46) (fun d47 : (A4vw × Int) => hotspotref21_Encrypt_S2 x44 d47) big (x45, 0) (Wk.canonD [] [] [some 1, some 2, some 5] rfl trivial rfl (tmOC 2 (tmOC 1 (tmOC 0 tmO0 (e_A16vu_clean _)) (e_A36vw_clean _)) (e_A4vw_clean _)) (tmAllU 7 (tmAllU 6 (tmAllU 5 (tmAllU 4 tmAll0 (Tm.ptr rfl)) (Tm.ptr rfl)) (Tm.ptr rfl)) (Tm.v _))) hi1 ?_; clear hi1; rintro n d47 hl3; rcases n with _ | n2
  ·
   (rw [hotspotref21_Encrypt_L3] at hl3; cases hl3)
  ·
   rw [hotspotref21_Encrypt_L3] at hl3; unfold hotspotref21_Encrypt_S2; refine awp_assoc ?_; refine awp_nw [4,5,6,7] fun tz U u => ?_; (try simp only [go_sem]); refine qU u ?_; clear u U; refine awp_cond (b := (decide (d47.2 < 4))) rfl (fun h4 => ?_) (fun h4 => ?_)
   ·
    have hl3 := cT hl3 h4; refine awp_skip ?_; refine awp_blockW ?_; refine awp_nr1 [4,5,6,7] (fun _ => rfl) fun tz => ?_; refine awp_regD1 fun U u all hall => ?_; refine xd_id ?_; (try simp only [List.toList_toArray, List.map_cons, List.map_nil, List.size_toArray, List.length_cons, List.length_nil, Nat.zero_add]); (try simp only [Nat.reduceAdd]); obtain ⟨x48, bx48, hl3⟩ := bnd hl3; obtain ⟨fx48_0, fx48_1, fx48_2, fx48_3⟩ := idxA_some bx48; (have fx48_6 : (e_A4vw d47.1)[(d47.2).toNat]? = some (vw x48) := by show (List.map vw [d47.1.a0, d47.1.a1, d47.1.a2, d47.1.a3])[(d47.2).toNat]? = _; rw [List.getElem?_map, fx48_2]; rfl); obtain ⟨x49, bx49, hl3⟩ := bnd hl3; obtain ⟨fx49_0, fx49_1, fx49_2, fx49_3⟩ := idxA_some bx49; (have fx49_6 : (e_A36vw x44)[(d47.2).toNat]? = some (vw x49) := by show (List.map vw [x44.a0, x44.a1, x44.a2, x44.a3, x44.a4, x44.a5, x44.a6, x44.a7, x44.a8, x44.a9, x44.a10, x44.a11, x44.a12, x44.a13, x44.a14, x44.a15, x44.a16, x44.a17, x44.a18, x44.a19, x44.a20, x44.a21, x44.a22, x44.a23, x44.a24, x44.a25, x44.a26, x44.a27, x44.a28, x44.a29, x44.a30, x44.a31, x44.a32, x44.a33, x44.a34, x44.a35])[(d47.2).toNat]? = _; rw [List.getElem?_map, fx49_2]; rfl); (have gs5b : (d47.2).toNat < 4 := by have h0 := of_eq_true fx48_0; have h1 := of_eq_true fx48_1; omega); have gs5 : (e_A4vw d47.1).set ((d47.2).toNat) (vw (bxor .u32 x48 x49)) = e_A4vw (d47.1.setA ((d47.2).toNat) (bxor .u32 x48 x49)) := e_A4vw_setA _ _ gs5b; have gs5l : ((d47.2).toNat + 1 ≤ 4) = True := eq_true (by omega); (iterate 3 ((try simp only [go_sem, -Nat.reduceAdd, fx48_0, fx48_1, fx48_6, fx49_0, fx49_1, fx49_6, gs5, gs5l]); try simp only [Nat.reduceAdd])); refine And.intro ?_ (u _ ?_)
    ·
     subst hall; clear u U; exact qP
    ·
     clear u U hall all; refine bq_n ?_; refine seqW_i ?_; refine awp_nw1 [4,5,6,7] fun tz U u => ?_; (try simp only [go_sem, fx48_0, fx48_1, fx48_6, fx49_0, fx49_1, fx49_6]); refine u _ ?_; clear u U; refine lq_n ?_; exact ⟨n2, ((d47.1.setA ((d47.2).toNat) (bxor .u32 x48 x49)), IntKind.wrap .i64 (d47.2 + 1)), rfl, hl3, (Wk.canonD [] [] [some 0, some 1, some 2] rfl trivial rfl (tmOC 2 (tmOC 1 (tmOC 0 tmO0 (e_A16vu_clean _)) (e_A36vw_clean _)) (e_A4vw_clean _)) (tmAllU 7 (tmAllU 6 (tmAllU 5 (tmAllU 4 tmAll0 (Tm.ptr rfl)) (Tm.ptr rfl)) (Tm.ptr rfl)) (Tm.v _)))⟩
   ·
    have hl3 := cF hl3 h4; refine awp_exit ?_; refine lq_e ?_; refine bq_e ?_; refine sq_n ?_; obtain rfl := someInj hl3; exact ⟨_, rfl, (Wk.canonD [] [] [some 0, some 1, some 2] rfl trivial rfl (tmOC 2 (tmOC 1 (tmOC 0 tmO0 (e_A16vu_clean _)) (e_A36vw_clean _)) (e_A4vw_clean _)) (tmAllU 6 (tmAllU 5 (tmAllU 4 tmAll0 (Tm.ptr rfl)) (Tm.ptr rfl)) (Tm.ptr rfl)))⟩
 ·
  rintro _ rfl; clear hi1; unfold hotspotref21_Encrypt_S1; refine awp_assoc ?_; refine awp_nw [4,5,6] fun tz U u => ?_; (try simp only [go_sem]); refine qU u ?_; clear u U; obtain ⟨d50, hi6, h0⟩ := bnd h0; refine awp_cut (fun z => d50 = z) (fun d50 : A4vw => hotspotref21_Encrypt_S4 d50) ?_ ?_
  ·
   refine awp_block1 ?_; refine awp_loopS (fun n (d51 : (A4vw × Int)) => hotspotref21_Encrypt_L6 x44 a0 a1 n d51 = some d50) (fun d51 : (A4vw × Int) => hotspotref21_Encrypt_S5 x44 d51) big (d46, 0) (Wk.canonD [] [] [some 0, some 1, some 2] rfl trivial rfl (tmOC 2 (tmOC 1 (tmOC 0 tmO0 (e_A16vu_clean _)) (e_A36vw_clean _)) (e_A4vw_clean _)) (tmAllU 8 (tmAllU 6 (tmAllU 5 (tmAllU 4 tmAll0 (Tm.ptr rfl)) (Tm.ptr rfl)) (Tm.ptr rfl)) (Tm.v _))) hi6 ?_; clear hi6; rintro n d51 hl8; rcases n with _ | n7
   ·
    (rw [hotspotref21_Encrypt_L6] at hl8; cases hl8)
   ·
    rw [hotspotref21_Encrypt_L6] at hl8; unfold hotspotref21_Encrypt_S5; refine awp_assoc ?_; refine awp_nw [4,5,6,8] fun tz U u => ?_; (try simp only [go_sem]); refine qU u ?_; clear u U; refine awp_cond (b := (decide (d51.2 < 16))) rfl (fun h9 => ?_) (fun h9 => ?_)
    ·
     have hl8 := cT hl8 h9; refine awp_skip ?_; refine awp_blockW ?_; refine awp_nr1 [4,5,6,8] (fun _ => rfl) fun tz => ?_; refine awp_regD1 fun U u all hall => ?_; refine xd_id ?_; (try simp only [List.toList_toArray, List.map_cons, List.map_nil, List.size_toArray, List.length_cons, List.length_nil, Nat.zero_add]); (try simp only [Nat.reduceAdd]); obtain ⟨x52, bx52, hl8⟩ := bnd hl8; obtain ⟨fx52_0, fx52_1, fx52_2, fx52_3⟩ := idxA_some bx52; (have fx52_6 : (e_A36vw x44)[(IntKind.wrap .i64 (4 + (IntKind.wrap .i64 (2 * d51.2)))).toNat]? = some (vw x52) := by show (List.map vw [x44.a0, x44.a1, x44.a2, x44.a3, x44.a4, x44.a5, x44.a6, x44.a7, x44.a8, x44.a9, x44.a10, x44.a11, x44.a12, x44.a13, x44.a14, x44.a15, x44.a16, x44.a17, x44.a18, x44.a19, x44.a20, x44.a21, x44.a22, x44.a23, x44.a24, x44.a25, x44.a26, x44.a27, x44.a28, x44.a29, x44.a30, x44.a31, x44.a32, x44.a33, x44.a34, x44.a35])[(IntKind.wrap .i64 (4 + (IntKind.wrap .i64 (2 * d51.2)))).toNat]? = _; rw [List.getElem?_map, fx52_2]; rfl); obtain ⟨x53, bx53, hl8⟩ := bnd hl8; obtain ⟨fx53_0, fx53_1, fx53_2, fx53_3⟩ := idxA_some bx53; (have fx53_6 : (e_A36vw x44)[(IntKind.wrap .i64 (5 + (IntKind.wrap .i64 (2 * d51.2)))).toNat]? = some (vw x53) := by show (List.map vw [x44.a0, x44.a1, x44.a2, x44.a3, x44.a4, x44.a5, x44.a6, x44.a7, x44.a8, x44.a9, x44.a10, x44.a11, x44.a12, x44.a13, x44.a14, x44.a15, x44.a16, x44.a17, x44.a18, x44.a19, x44.a20, x44.a21, x44.a22, x44.a23, x44.a24, x44.a25, x44.a26, x44.a27, x44.a28, x44.a29, x44.a30, x44.a31, x44.a32, x44.a33, x44.a34, x44.a35])[(IntKind.wrap .i64 (5 + (IntKind.wrap .i64 (2 * d51.2)))).toNat]? = _; rw [List.getElem?_map, fx53_2]; rfl); obtain ⟨x54, bx54, hl8⟩ := bnd hl8; (iterate 3 ((try simp only [go_sem, -Nat.reduceAdd, fx52_0, fx52_1, fx52_6, fx53_0, fx53_1, fx53_6]); try simp only [Nat.reduceAdd])); (refine xcallD_p (hotspotref21_Round_p d51.1 x52 x53 bx54) ?_; try dsimp only); (try refine xd_id ?_); (iterate 3 ((try simp only [go_sem, -Nat.reduceAdd, fx52_0, fx52_1, fx52_6, fx53_0, fx53_1, fx53_6]); try simp only [Nat.reduceAdd])); refine And.intro ?_ (u _ ?_)
     ·
      subst hall; clear u U; exact qP
     ·
      clear u U hall all; refine bq_n ?_; refine seqW_i ?_; refine awp_nw1 [4,5,6,8] fun tz U u => ?_; (try simp only [go_sem, fx52_0, fx52_1, fx52_6, fx53_0, fx53_1, fx53_6]); refine u _ ?_; clear u U; refine lq_n ?_; exact ⟨n7, (x54, IntKind.wrap .i64 (d51.2 + 1)), rfl, hl8, (Wk.canonD [] [] [some 0, some 1, some 2] rfl trivial rfl (tmOC 2 (tmOC 1 (tmOC 0 tmO0 (e_A16vu_clean _)) (e_A36vw_clean _)) (e_A4vw_clean _)) (tmAllU 8 (tmAllU 6 (tmAllU 5 (tmAllU 4 tmAll0 (Tm.ptr rfl)) (Tm.ptr rfl)) (Tm.ptr rfl)) (Tm.v _)))⟩
    ·
     have hl8 := cF hl8 h9; refine awp_exit ?_; refine lq_e ?_; refine bq_e ?_; refine sq_n ?_; obtain rfl := someInj hl8; exact ⟨_, rfl, (Wk.canonD [] [] [some 0, some 2] rfl trivial rfl (tmOC 1 (tmOC 0 tmO0 (e_A16vu_clean _)) (e_A4vw_clean _)) (tmAllU 6 (tmAllU 4 tmAll0 (Tm.ptr rfl)) (Tm.ptr rfl)))⟩
  ·
   rintro _ rfl; clear hi6; unfold hotspotref21_Encrypt_S4; refine awp_nw [4,6] fun tz U u => ?_; obtain ⟨x55, bx55, h0⟩ := bnd h0; (try simp only [go_sem]); (refine xcall_p (hotspotref21_Join_p d50 bx55) ?_; try dsimp only); (try refine xw_id ?_); (try simp only [go_sem]); refine qU u ?_; clear u U; refine awp_ret1 ?_; obtain rfl := someInj h0; refine endW_i ?_; refine end_ret0 rs42 qR ?_; exact qF
end Go.AX.Z.TG
