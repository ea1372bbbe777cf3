/- A part of the proof: walks through the functions that the statement reaches. -/
import Derived.Test.YtjijidmbpfjioaaWalkb
set_option linter.unusedVariables false
set_option linter.unusedSimpArgs false

/-! (TSW hotspotlaw19 SenderAgrees) -/

set_option linter.unusedSimpArgs false
set_option linter.unusedVariables false
set_option maxHeartbeats 4000000
namespace Go.AX.Z.TS
open Go.AX Go.Proofs
attribute [local irreducible] awp xw xop xcall gsp ob xd xdop xcallD seqQ loopQ blkQ endQ

def hotspotlaw19_SenderAgrees_S0 (x2 : (Sender × Int)) (a0 : Int) (a4 : (List Hotspotref19_Step)) (x1 : Bool) : AS :=
  { objs := (upd (fun _ => .dead) 0 (.live (e_Sender x2.1 (.imm (List.flatMap E_Unacked x2.1.Out) x2.1.Out.length)))), next := 1, tmps := (upd (upd (upd (upd (upd (fun _ => .unk) 0 (vi a0)) 4 (.imm (List.flatMap E_Hotspotref19_Step a4) a4.length)) 11 (vb x1)) 12 (.ptr 0 0)) 13 (vi x2.2)) }

def hotspotlaw19_SenderAgrees_S1 (x1 : Bool) (d5 : Unit) : AS :=
  { objs := (fun _ => .dead), next := 0, tmps := (upd (fun _ => .unk) 11 (vb x1)) }

def hotspotlaw19_SenderAgrees_S2 (a0 : Int) (a4 : (List Hotspotref19_Step)) (x1 : Bool) (d7 : (Sender × BlockAsk × Bool × Int)) : AS :=
  { objs := (upd (upd (fun _ => .dead) 0 (.live (e_Sender d7.1 (.imm (List.flatMap E_Unacked ((d7.1).Out)) ((d7.1).Out).length)))) 1 (.live (e_BlockAsk d7.2.1))), next := 2, tmps := (upd (upd (upd (upd (upd (upd (upd (fun _ => .unk) 0 (vi a0)) 4 (.imm (List.flatMap E_Hotspotref19_Step a4) a4.length)) 11 (vb x1)) 12 (.ptr 0 0)) 14 (.ptr 1 0)) 15 (vb d7.2.2.1)) 16 (vi d7.2.2.2)) }

def hotspotlaw19_SenderAgrees_S4 (d7 : (Sender × BlockAsk × Bool × Int)) (x9 : (Hotspotref19_Told × Sender × Int)) (a0 : Int) (a4 : (List Hotspotref19_Step)) (x1 : Bool) : AS :=
  { objs := (upd (upd (upd (upd (fun _ => .dead) 0 (.live (e_Sender d7.1 (.imm (List.flatMap E_Unacked ((d7.1).Out)) ((d7.1).Out).length)))) 1 (.live (e_BlockAsk d7.2.1))) 2 (.live (e_Hotspotref19_Told x9.1 (.imm (List.flatMap E_Frame x9.1.Frames) x9.1.Frames.length) (.imm (List.map vi x9.1.Numbers) x9.1.Numbers.length)))) 3 (.live (e_Sender x9.2.1 (.imm (List.flatMap E_Unacked x9.2.1.Out) x9.2.1.Out.length)))), next := 4, tmps := (upd (upd (upd (upd (upd (upd (upd (upd (upd (upd (fun _ => .unk) 0 (vi a0)) 4 (.imm (List.flatMap E_Hotspotref19_Step a4) a4.length)) 11 (vb x1)) 12 (.ptr 0 0)) 14 (.ptr 1 0)) 15 (vb d7.2.2.1)) 16 (vi d7.2.2.2)) 17 (.ptr 2 0)) 18 (.ptr 3 0)) 19 (vi x9.2.2)) }

def hotspotlaw19_SenderAgrees_S5 (d7 : (Sender × BlockAsk × Bool × Int)) (x9 : (Hotspotref19_Told × Sender × Int)) (a0 : Int) (a4 : (List Hotspotref19_Step)) (x1 : Bool) (d10 : (BlockAsk × Bool)) : AS :=
  { objs := (upd (upd (upd (fun _ => .dead) 0 (.live (e_Sender d7.1 (.imm (List.flatMap E_Unacked ((d7.1).Out)) ((d7.1).Out).length)))) 1 (.live (e_BlockAsk d10.1))) 2 (.live (e_Sender x9.2.1 (.imm (List.flatMap E_Unacked x9.2.1.Out) x9.2.1.Out.length)))), next := 3, tmps := (upd (upd (upd (upd (upd (upd (upd (upd (fun _ => .unk) 0 (vi a0)) 4 (.imm (List.flatMap E_Hotspotref19_Step a4) a4.length)) 11 (vb x1)) 12 (.ptr 0 0)) 14 (.ptr 1 0)) 15 (vb d10.2)) 16 (vi d7.2.2.2)) 18 (.ptr 2 0)) }

theorem hotspotlaw19_SenderAgrees_p (a0 : Int) (a1 : Int) (a2 : Int) (a3 : Int) (a4 : (List Hotspotref19_Step)) {r : Bool} (h0 : hotspotlaw19_SenderAgrees a0 a1 a2 a3 a4 = some r) : SndP K 6 [(vi a0), (vi a1), (vi a2), (vi a3), (S_Hotspotref19_Step a4)] (vb r) := by
  refine SndP.of_walkW hC (Clean.v _) (clean_cons (Clean.v _) (clean_cons (Clean.v _) (clean_cons (Clean.v _) (clean_cons (Clean.v _) (clean_cons (S_Hotspotref19_Step_clean _) clean_nil))))) (show K.P.funcs[6]? = some Try.f6 from Try.func6) rfl rfl (by decide +kernel) (Nat.le_of_ble_eq_true rfl) ?_
  unfold hotspotlaw19_SenderAgrees at h0
  refine awp_nr [0,1,2,3,4] (fun _ => rfl) fun tz => ?_
  refine awp_regW fun KK hKK => ?_
  refine xw_id ?_
  try simp only [go_sem, Nat.reduceEqDiff, reduceIte, Nat.reduceAdd, Nat.reduceMul, Nat.reduceSub, Nat.reduceLT, Nat.reduceLeDiff]
  refine hKK _ _ (Wk.refl _ _ _) ?_; clear hKK KK
  refine awp_nr [0,1,2,3,4] (fun _ => rfl) fun tz => ?_
  refine awp_regW fun KK hKK => ?_
  refine xw_id ?_
  obtain ⟨x1, bx1, h0⟩ := bnd h0
  try simp only [go_sem, Nat.reduceEqDiff, reduceIte, Nat.reduceAdd, Nat.reduceMul, Nat.reduceSub, Nat.reduceLT, Nat.reduceLeDiff]
  refine xcall_p (hotspotlaw19_alive_p  bx1) ?_; try dsimp only
  try refine xw_id ?_
  try simp only [go_sem, Nat.reduceEqDiff, reduceIte, Nat.reduceAdd, Nat.reduceMul, Nat.reduceSub, Nat.reduceLT, Nat.reduceLeDiff]
  refine hKK _ _ (Wk.refl _ _ _) ?_; clear hKK KK
  refine awp_nr [0,1,2,3,4,11] (fun _ => rfl) fun tz => ?_
  refine awp_regW fun KK hKK => ?_
  refine xw_id ?_
  obtain ⟨x2, bx2, h0⟩ := bnd h0
  try simp only [go_sem, Nat.reduceEqDiff, reduceIte, Nat.reduceAdd, Nat.reduceMul, Nat.reduceSub, Nat.reduceLT, Nat.reduceLeDiff]
  refine xcall_p (sender_New_p a0 a1 a2 a3 bx2) ?_; try dsimp only
  try refine xw_id ?_
  try simp only [go_sem, Nat.reduceEqDiff, reduceIte, Nat.reduceAdd, Nat.reduceMul, Nat.reduceSub, Nat.reduceLT, Nat.reduceLeDiff]
  refine hKK _ (hotspotlaw19_SenderAgrees_S0 x2 a0 a4 x1) (Wk.canonD [] [] [some 11] rfl trivial rfl (tmOU 0 tmO0 rfl List.not_mem_nil (by simp only [upd_get, Nat.reduceEqDiff, reduceIte, Nat.reduceAdd, Nat.reduceMul, Nat.reduceSub, Nat.reduceLT, Nat.reduceLeDiff, if_true, if_false] <;> rfl) (e_Sender_tmx (by rfl) (Tm.clean (Clean.imm (c_Unacked _))))) (tmAllU 13 (tmAllU 12 (tmAllU 11 (tmAllU 4 (tmAllU 0 tmAll0 (Tm.v _)) (Tm.clean (Clean.imm (c_Hotspotref19_Step _)))) (Tm.v _)) (Tm.ptr rfl)) (Tm.v _))) ?_; clear hKK KK
  unfold hotspotlaw19_SenderAgrees_S0
  refine awp_assoc ?_
  refine awp_nr [0,4,11,12,13] (fun _ => rfl) fun tz => ?_
  refine awp_regW fun KK hKK => ?_
  refine xw_id ?_
  refine xw_stop 3 (by simp only [go_sem]; rfl) (by simp only [go_sem]; rfl) (by rfl) fun K1 hK1 => ?_
  refine xw_id ?_
  try simp only [go_sem, Nat.reduceEqDiff, reduceIte, Nat.reduceAdd, Nat.reduceMul, Nat.reduceSub, Nat.reduceLT, Nat.reduceLeDiff]
  refine hK1 _ ?_; clear hK1 K1
  obtain ⟨x4, hvh1, h0⟩ := bnd h0
  refine xw_cut 3 [(0, (vi a0)), (4, (.imm (List.flatMap E_Hotspotref19_Step a4) a4.length)), (11, (vb x1)), (12, (.ptr 0 0)), (35, (vb x4))] (by simp only [go_sem]; rfl) (by simp only [go_sem]; rfl) (by rfl) (fun K1 hK1 => ?_) fun tz => ?_
  · refine xw_id ?_
    rcases Bool.eq_false_or_eq_true (x2.2 != 0) with h1 | h1
    · have hvh1 := cT hvh1 h1
      try simp only [go_sem, Nat.reduceEqDiff, reduceIte, Nat.reduceAdd, Nat.reduceMul, Nat.reduceSub, Nat.reduceLT, Nat.reduceLeDiff, h1]
      obtain rfl := someInj hvh1
      exact hK1 _ ⟨rfl, rfl, rfl, rfl, rfl, (by first | rfl | (rw [h1]; rfl) | (simp only [h1, Bool.true_and, Bool.false_and, Bool.true_or, Bool.false_or, cond_true, cond_false]; done)), trivial⟩
    · have hvh1 := cF hvh1 h1
      obtain ⟨x3, bx3, hvh1⟩ := bnd hvh1
      try simp only [go_sem, Nat.reduceEqDiff, reduceIte, Nat.reduceAdd, Nat.reduceMul, Nat.reduceSub, Nat.reduceLT, Nat.reduceLeDiff, h1]
      refine xcall_p (hotspotlaw19_great_p a4 bx3) ?_; try dsimp only
      try refine xw_id ?_
      try simp only [go_sem, Nat.reduceEqDiff, reduceIte, Nat.reduceAdd, Nat.reduceMul, Nat.reduceSub, Nat.reduceLT, Nat.reduceLeDiff, h1]
      obtain rfl := someInj hvh1
      exact hK1 _ ⟨rfl, rfl, rfl, rfl, rfl, (by first | rfl | (rw [h1]; rfl) | (simp only [h1, Bool.true_and, Bool.false_and, Bool.true_or, Bool.false_or, cond_true, cond_false]; done)), trivial⟩
  · refine xw_id ?_
    refine xw_stop 1 (by simp only [go_sem]; rfl) (by simp only [go_sem]; rfl) (by rfl) fun K1 hK1 => ?_
    refine xw_id ?_
    try simp only [go_sem, Nat.reduceEqDiff, reduceIte, Nat.reduceAdd, Nat.reduceMul, Nat.reduceSub, Nat.reduceLT, Nat.reduceLeDiff]
    refine hK1 _ ?_; clear hK1 K1
    refine xw_cut 3 [(0, (vi a0)), (4, (.imm (List.flatMap E_Hotspotref19_Step a4) a4.length)), (11, (vb x1)), (12, (.ptr 0 0)), (39, (vb (x4 || (!x1))))] (by simp only [go_sem]; rfl) (by simp only [go_sem]; rfl) (by rfl) (fun K1 hK1 => ?_) fun tz => ?_
    · refine xw_id ?_
      rcases Bool.eq_false_or_eq_true x4 with h2 | h2
      · try simp only [go_sem, Nat.reduceEqDiff, reduceIte, Nat.reduceAdd, Nat.reduceMul, Nat.reduceSub, Nat.reduceLT, Nat.reduceLeDiff, h2]
        exact hK1 _ ⟨rfl, rfl, rfl, rfl, rfl, (by first | rfl | (rw [h2]; rfl) | (simp only [h2, Bool.true_and, Bool.false_and, Bool.true_or, Bool.false_or, cond_true, cond_false]; done)), trivial⟩
      · try simp only [go_sem, Nat.reduceEqDiff, reduceIte, Nat.reduceAdd, Nat.reduceMul, Nat.reduceSub, Nat.reduceLT, Nat.reduceLeDiff, h2]
        exact hK1 _ ⟨rfl, rfl, rfl, rfl, rfl, (by first | rfl | (rw [h2]; rfl) | (simp only [h2, Bool.true_and, Bool.false_and, Bool.true_or, Bool.false_or, cond_true, cond_false]; done)), trivial⟩
    · refine xw_id ?_
      try simp only [go_sem, Nat.reduceEqDiff, reduceIte, Nat.reduceAdd, Nat.reduceMul, Nat.reduceSub, Nat.reduceLT, Nat.reduceLeDiff]
      refine hKK _ _ (Wk.refl _ _ _) ?_; clear hKK KK
      refine awp_cond (b := (x4 || (!x1))) rfl (fun h3 => ?_) (fun h3 => ?_)
      · have h0 := cT h0 h3
        refine awp_assoc ?_
        refine awp_nr [11] (fun _ => rfl) fun tz => ?_
        refine awp_regW fun KK hKK => ?_
        refine xw_id ?_
        try simp only [go_sem, Nat.reduceEqDiff, reduceIte, Nat.reduceAdd, Nat.reduceMul, Nat.reduceSub, Nat.reduceLT, Nat.reduceLeDiff]
        refine hKK _ _ (Wk.refl _ _ _) ?_; clear hKK KK
        refine awp_ret ?_
        obtain rfl := someInj h0
        refine endW_i ?_
        refine end_ret0 rs6 (rfl) ?_
        try simp only [go_sem, Nat.reduceEqDiff, reduceIte, Nat.reduceAdd, Nat.reduceMul, Nat.reduceSub, Nat.reduceLT, Nat.reduceLeDiff, fz, nilS, packR, List.take_nil, List.take_length, List.length_map, List.length_append, cond_true, cond_false, Nat.ble_eq, ble_self, List.map_append]
        all_goals rfl
      · have h0 := cF h0 h3
        refine awp_skip ?_
        refine awp_nr [0,4,11,12] (fun _ => rfl) fun tz => ?_
        refine awp_regW fun KK hKK => ?_
        refine xw_id ?_
        try simp only [go_sem, Nat.reduceEqDiff, reduceIte, Nat.reduceAdd, Nat.reduceMul, Nat.reduceSub, Nat.reduceLT, Nat.reduceLeDiff]
        refine hKK _ _ (Wk.refl _ _ _) ?_; clear hKK KK
        refine awp_nr [0,4,11,12,14] (fun _ => rfl) fun tz => ?_
        refine awp_regW fun KK hKK => ?_
        refine xw_id ?_
        try simp only [go_sem, Nat.reduceEqDiff, reduceIte, Nat.reduceAdd, Nat.reduceMul, Nat.reduceSub, Nat.reduceLT, Nat.reduceLeDiff]
        refine hKK _ _ (Wk.refl _ _ _) ?_; clear hKK KK
        refine awp_assoc ?_
        refine awp_nr [0,4,11,12,14,15] (fun _ => rfl) fun tz => ?_
        refine awp_regW fun KK hKK => ?_
        refine xw_id ?_
        try simp only [go_sem, Nat.reduceEqDiff, reduceIte, Nat.reduceAdd, Nat.reduceMul, Nat.reduceSub, Nat.reduceLT, Nat.reduceLeDiff]
        refine hKK _ _ (Wk.refl _ _ _) ?_; clear hKK KK
        obtain ⟨o6, hi4, h0⟩ := bnd h0
        refine awp_cut (fun d5 : Unit => o6 = Ex.go d5) (fun d5 : Unit => hotspotlaw19_SenderAgrees_S1 x1 d5) ?_ ?_
        · refine awp_block1 ?_
          refine awp_loopS (fun n (d7 : (Sender × BlockAsk × Bool × Int)) => hotspotlaw19_SenderAgrees_L3 a4 a0 n d7 = some o6) (fun d7 : (Sender × BlockAsk × Bool × Int) => hotspotlaw19_SenderAgrees_S2 a0 a4 x1 d7) big (x2.1, BlockAsk.z, false, 0) (Wk.canonD [] [] [some 0, some 12] rfl trivial rfl (tmOU 1 (tmOU 0 tmO0 rfl List.not_mem_nil (by simp only [upd_get, Nat.reduceEqDiff, reduceIte, Nat.reduceAdd, Nat.reduceMul, Nat.reduceSub, Nat.reduceLT, Nat.reduceLeDiff, if_true, if_false] <;> rfl) (e_Sender_tmx (by rfl) (Tm.clean (Clean.imm (c_Unacked _))))) rfl List.not_mem_nil (by simp only [upd_get, Nat.reduceEqDiff, reduceIte, Nat.reduceAdd, Nat.reduceMul, Nat.reduceSub, Nat.reduceLT, Nat.reduceLeDiff, if_true, if_false] <;> rfl) (TmL.clean (e_BlockAsk_clean _))) (tmAllU 16 (tmAllU 15 (tmAllU 14 (tmAllU 12 (tmAllU 11 (tmAllU 4 (tmAllU 0 tmAll0 (Tm.v _)) (Tm.clean (Clean.imm (c_Hotspotref19_Step _)))) (Tm.v _)) (Tm.ptr rfl)) (Tm.ptr rfl)) (Tm.v _)) (Tm.v _))) hi4 ?_
          clear hi4
          rintro n d7 hl6
          rcases n with _ | n5
          · (rw [hotspotlaw19_SenderAgrees_L3] at hl6; cases hl6)
          · rw [hotspotlaw19_SenderAgrees_L3] at hl6
            unfold hotspotlaw19_SenderAgrees_S2
            refine awp_assoc ?_
            refine awp_nr [0,4,11,12,14,15,16] (fun _ => rfl) fun tz => ?_
            refine awp_regW fun KK hKK => ?_
            refine xw_id ?_
            try simp only [go_sem, Nat.reduceEqDiff, reduceIte, Nat.reduceAdd, Nat.reduceMul, Nat.reduceSub, Nat.reduceLT, Nat.reduceLeDiff, Int.reduceToNat, Int.reduceBEq, Int.reduceBNe, Int.reduceLT, Int.reduceLE, Int.reduceAdd, Int.reduceSub, Int.reduceMul, Int.reduceNeg, Int.reduceEq, Int.reduceNe]
            refine hKK _ _ (Wk.refl _ _ _) ?_; clear hKK KK
            refine awp_cond (b := (decide (d7.2.2.2 < (a4.length : Int)))) rfl (fun h7 => ?_) (fun h7 => ?_)
            · have hl6 := cT hl6 h7
              refine awp_skip ?_
              refine awp_blockW ?_
              refine awp_nr [0,4,11,12,14,15,16] (fun _ => rfl) fun tz => ?_
              refine awp_regDW fun KK hKK all hall => ?_
              refine xd_id ?_
              try simp only [List.toList_toArray, List.map_cons, List.map_nil, List.size_toArray, List.length_cons, List.length_nil, Nat.zero_add]
              try simp only [Nat.reduceAdd]
              obtain ⟨x8, bx8, hl6⟩ := bnd hl6
              obtain ⟨fx8_0, fx8_1, fx8_2, fx8_3⟩ := idx_some bx8
              obtain ⟨x9, bx9, hl6⟩ := bnd hl6
              simp only [go_sem, Nat.reduceEqDiff, reduceIte, Nat.reduceMul, Nat.reduceSub, Nat.reduceLT, Nat.reduceLeDiff, fx8_0, fx8_1, fx8_2]
              try simp only [Nat.reduceAdd]
              try simp only [go_sem, Nat.reduceEqDiff, reduceIte, Nat.reduceMul, Nat.reduceSub, Nat.reduceLT, Nat.reduceLeDiff, fx8_0, fx8_1, fx8_2]
              try simp only [Nat.reduceAdd]
              try simp only [go_sem, Nat.reduceEqDiff, reduceIte, Nat.reduceMul, Nat.reduceSub, Nat.reduceLT, Nat.reduceLeDiff, fx8_0, fx8_1, fx8_2]
              refine xcallD_p (hotspotlaw19_do_p { d7.1 with Out := (d7.1).Out } x8 bx9) ?_; try dsimp only
              try refine xd_id ?_
              simp only [go_sem, Nat.reduceEqDiff, reduceIte, Nat.reduceMul, Nat.reduceSub, Nat.reduceLT, Nat.reduceLeDiff, fx8_0, fx8_1, fx8_2]
              try simp only [Nat.reduceAdd]
              try simp only [go_sem, Nat.reduceEqDiff, reduceIte, Nat.reduceMul, Nat.reduceSub, Nat.reduceLT, Nat.reduceLeDiff, fx8_0, fx8_1, fx8_2]
              try simp only [Nat.reduceAdd]
              try simp only [go_sem, Nat.reduceEqDiff, reduceIte, Nat.reduceMul, Nat.reduceSub, Nat.reduceLT, Nat.reduceLeDiff, fx8_0, fx8_1, fx8_2]
              refine And.intro ?_ (hKK _ (hotspotlaw19_SenderAgrees_S4 d7 x9 a0 a4 x1) (Wk.canonD [] [] [some 0, some 1, some 16, some 17] rfl trivial rfl (tmOU 3 (tmOU 2 (tmOU 1 (tmOU 0 tmO0 rfl List.not_mem_nil (by simp only [upd_get, Nat.reduceEqDiff, reduceIte, Nat.reduceAdd, Nat.reduceMul, Nat.reduceSub, Nat.reduceLT, Nat.reduceLeDiff, if_true, if_false] <;> rfl) (e_Sender_tmx (by rfl) (Tm.clean (Clean.imm (c_Unacked _))))) rfl List.not_mem_nil (by simp only [upd_get, Nat.reduceEqDiff, reduceIte, Nat.reduceAdd, Nat.reduceMul, Nat.reduceSub, Nat.reduceLT, Nat.reduceLeDiff, if_true, if_false] <;> rfl) (TmL.clean (e_BlockAsk_clean _))) rfl List.not_mem_nil (by simp only [upd_get, Nat.reduceEqDiff, reduceIte, Nat.reduceAdd, Nat.reduceMul, Nat.reduceSub, Nat.reduceLT, Nat.reduceLeDiff, if_true, if_false] <;> rfl) (e_Hotspotref19_Told_tmx (by rfl) (Tm.clean (Clean.imm (c_Frame _))) (Tm.clean (Clean.imm (vi_clean _))))) rfl List.not_mem_nil (by simp only [upd_get, Nat.reduceEqDiff, reduceIte, Nat.reduceAdd, Nat.reduceMul, Nat.reduceSub, Nat.reduceLT, Nat.reduceLeDiff, if_true, if_false] <;> rfl) (e_Sender_tmx (by rfl) (Tm.clean (Clean.imm (c_Unacked _))))) (tmAllU 19 (tmAllU 18 (tmAllU 17 (tmAllU 16 (tmAllU 15 (tmAllU 14 (tmAllU 12 (tmAllU 11 (tmAllU 4 (tmAllU 0 tmAll0 (Tm.v _)) (Tm.clean (Clean.imm (c_Hotspotref19_Step _)))) (Tm.v _)) (Tm.ptr rfl)) (Tm.ptr rfl)) (Tm.v _)) (Tm.v _)) (Tm.ptr rfl)) (Tm.ptr rfl)) (Tm.v _))) ?_)
              · subst hall
                clear hKK KK
                first | (simp [printsOk, apartP, clash, meet]; done) | (simp [printsOk, apartP, clash, meet]; decide +kernel) | decide +kernel
              · clear hKK KK hall all
                unfold hotspotlaw19_SenderAgrees_S4
                refine awp_assoc ?_
                refine awp_nr [0,4,11,12,14,15,16,17,18,19] (fun _ => rfl) fun tz => ?_
                refine awp_regW fun KK hKK => ?_
                refine xw_id ?_
                try simp only [go_sem, Nat.reduceEqDiff, reduceIte, Nat.reduceAdd, Nat.reduceMul, Nat.reduceSub, Nat.reduceLT, Nat.reduceLeDiff, fx8_0, fx8_1, fx8_2]
                refine hKK _ _ (Wk.refl _ _ _) ?_; clear hKK KK
                refine awp_cond (b := (x9.2.2 != 0)) rfl (fun h8 => ?_) (fun h8 => ?_)
                · have hl6 := cT hl6 h8
                  refine awp_exit ?_
                  refine bq_e ?_
                  refine seqW_i ?_
                  refine awp_nr1 [0,4,11,12,14,15,16] (fun _ => rfl) fun tz => ?_
                  refine awp_reg1 fun KK hKK => ?_
                  refine xw_id ?_
                  try simp only [go_sem, Nat.reduceEqDiff, reduceIte, Nat.reduceAdd, Nat.reduceMul, Nat.reduceSub, Nat.reduceLT, Nat.reduceLeDiff, fx8_0, fx8_1, fx8_2]
                  refine hKK _ ?_; clear hKK KK
                  refine lq_n ?_
                  exact ⟨n5, ({ d7.1 with Out := (d7.1).Out }, d7.2.1, d7.2.2.1, IntKind.wrap .i64 (d7.2.2.2 + 1)), rfl, hl6, (Wk.canonD [] [] [some 0, some 1] rfl trivial rfl (tmOU 1 (tmOU 0 tmO0 rfl List.not_mem_nil (by simp only [upd_get, Nat.reduceEqDiff, reduceIte, Nat.reduceAdd, Nat.reduceMul, Nat.reduceSub, Nat.reduceLT, Nat.reduceLeDiff, if_true, if_false] <;> rfl) (e_Sender_tmx (by rfl) (Tm.clean (Clean.imm (c_Unacked _))))) rfl List.not_mem_nil (by simp only [upd_get, Nat.reduceEqDiff, reduceIte, Nat.reduceAdd, Nat.reduceMul, Nat.reduceSub, Nat.reduceLT, Nat.reduceLeDiff, if_true, if_false] <;> rfl) (TmL.clean (e_BlockAsk_clean _))) (tmAllU 16 (tmAllU 15 (tmAllU 14 (tmAllU 12 (tmAllU 11 (tmAllU 4 (tmAllU 0 tmAll0 (Tm.v _)) (Tm.clean (Clean.imm (c_Hotspotref19_Step _)))) (Tm.v _)) (Tm.ptr rfl)) (Tm.ptr rfl)) (Tm.v _)) (Tm.v _)))⟩
                · have hl6 := cF hl6 h8
                  refine awp_skip ?_
                  refine awp_assoc ?_
                  refine awp_nr [0,4,11,12,14,15,16,17,18] (fun _ => rfl) fun tz => ?_
                  refine awp_regW fun KK hKK => ?_
                  refine xw_id ?_
                  try simp only [go_sem, Nat.reduceEqDiff, reduceIte, Nat.reduceAdd, Nat.reduceMul, Nat.reduceSub, Nat.reduceLT, Nat.reduceLeDiff, fx8_0, fx8_1, fx8_2]
                  refine hKK _ _ (Wk.refl _ _ _) ?_; clear hKK KK
                  obtain ⟨o11, hi9, hl6⟩ := bnd hl6
                  refine awp_cut (fun d10 : (BlockAsk × Bool) => o11 = Ex.go d10) (fun d10 : (BlockAsk × Bool) => hotspotlaw19_SenderAgrees_S5 d7 x9 a0 a4 x1 d10) ?_ ?_
                  · refine awp_block1 ?_
                    refine awp_nr [0,4,11,12,14,15,16,17,18,64] (fun _ => rfl) fun tz => ?_
                    refine awp_regW fun KK hKK => ?_
                    refine xw_id ?_
                    try simp only [go_sem, Nat.reduceEqDiff, reduceIte, Nat.reduceAdd, Nat.reduceMul, Nat.reduceSub, Nat.reduceLT, Nat.reduceLeDiff, fx8_0, fx8_1, fx8_2]
                    refine hKK _ _ (Wk.refl _ _ _) ?_; clear hKK KK
                    refine awp_cond1 (b := (x8.Kind == 0)) rfl (fun h10 => ?_) (fun h10 => ?_)
                    · have hi9 := cT hi9 h10
                      refine awp_assoc ?_
                      refine awp_nr [0,4,11,12,14,15,16,17,18] (fun _ => rfl) fun tz => ?_
                      refine awp_regW fun KK hKK => ?_
                      refine xw_id ?_
                      refine xw_stop 2 (by simp only [go_sem]; rfl) (by simp only [go_sem]; rfl) (by rfl) fun K1 hK1 => ?_
                      refine xw_id ?_
                      try simp only [go_sem, Nat.reduceEqDiff, reduceIte, Nat.reduceAdd, Nat.reduceMul, Nat.reduceSub, Nat.reduceLT, Nat.reduceLeDiff, fx8_0, fx8_1, fx8_2]
                      refine hK1 _ ?_; clear hK1 K1
                      refine xw_cut 7 [(0, (vi a0)), (4, (.imm (List.flatMap E_Hotspotref19_Step a4) a4.length)), (11, (vb x1)), (12, (.ptr 0 0)), (14, (.ptr 1 0)), (15, (vb d7.2.2.1)), (16, (vi d7.2.2.2)), (17, (.ptr 2 0)), (18, (.ptr 3 0)), (77, (vb (d7.2.2.1 || (x9.1.Ask.Token == d7.2.1.Token))))] (by simp only [go_sem]; rfl) (by simp only [go_sem]; rfl) (by rfl) (fun K1 hK1 => ?_) fun tz => ?_
                      · refine xw_id ?_
                        rcases Bool.eq_false_or_eq_true d7.2.2.1 with h11 | h11
                        · try simp only [go_sem, Nat.reduceEqDiff, reduceIte, Nat.reduceAdd, Nat.reduceMul, Nat.reduceSub, Nat.reduceLT, Nat.reduceLeDiff, fx8_0, fx8_1, fx8_2, h11]
                          exact hK1 _ ⟨rfl, rfl, rfl, rfl, rfl, rfl, (by first | rfl | (rw [h11]; rfl) | (simp only [h11, Bool.true_and, Bool.false_and, Bool.true_or, Bool.false_or, cond_true, cond_false]; done)), rfl, rfl, rfl, (by first | rfl | (rw [h11]; rfl) | (simp only [h11, Bool.true_and, Bool.false_and, Bool.true_or, Bool.false_or, cond_true, cond_false]; done)), trivial⟩
                        · try simp only [go_sem, Nat.reduceEqDiff, reduceIte, Nat.reduceAdd, Nat.reduceMul, Nat.reduceSub, Nat.reduceLT, Nat.reduceLeDiff, fx8_0, fx8_1, fx8_2, h11]
                          exact hK1 _ ⟨rfl, rfl, rfl, rfl, rfl, rfl, (by first | rfl | (rw [h11]; rfl) | (simp only [h11, Bool.true_and, Bool.false_and, Bool.true_or, Bool.false_or, cond_true, cond_false]; done)), rfl, rfl, rfl, (by first | rfl | (rw [h11]; rfl) | (simp only [h11, Bool.true_and, Bool.false_and, Bool.true_or, Bool.false_or, cond_true, cond_false]; done)), trivial⟩
                      · refine xw_id ?_
                        refine xw_stop 1 (by simp only [go_sem]; rfl) (by simp only [go_sem]; rfl) (by rfl) fun K1 hK1 => ?_
                        refine xw_id ?_
                        try simp only [go_sem, Nat.reduceEqDiff, reduceIte, Nat.reduceAdd, Nat.reduceMul, Nat.reduceSub, Nat.reduceLT, Nat.reduceLeDiff, fx8_0, fx8_1, fx8_2]
                        refine hK1 _ ?_; clear hK1 K1
                        refine xw_cut 7 [(0, (vi a0)), (4, (.imm (List.flatMap E_Hotspotref19_Step a4) a4.length)), (11, (vb x1)), (12, (.ptr 0 0)), (14, (.ptr 1 0)), (15, (vb d7.2.2.1)), (16, (vi d7.2.2.2)), (17, (.ptr 2 0)), (18, (.ptr 3 0)), (85, (vb ((d7.2.2.1 || (x9.1.Ask.Token == d7.2.1.Token)) || (x9.1.Ask.Start != d7.1.Next))))] (by simp only [go_sem]; rfl) (by simp only [go_sem]; rfl) (by rfl) (fun K1 hK1 => ?_) fun tz => ?_
                        · refine xw_id ?_
                          rcases Bool.eq_false_or_eq_true (d7.2.2.1 || (x9.1.Ask.Token == d7.2.1.Token)) with h12 | h12
                          · try simp only [go_sem, Nat.reduceEqDiff, reduceIte, Nat.reduceAdd, Nat.reduceMul, Nat.reduceSub, Nat.reduceLT, Nat.reduceLeDiff, fx8_0, fx8_1, fx8_2, h12]
                            exact hK1 _ ⟨rfl, rfl, rfl, rfl, rfl, rfl, rfl, rfl, rfl, rfl, (by first | rfl | (rw [h12]; rfl) | (simp only [h12, Bool.true_and, Bool.false_and, Bool.true_or, Bool.false_or, cond_true, cond_false]; done)), trivial⟩
                          · try simp only [go_sem, Nat.reduceEqDiff, reduceIte, Nat.reduceAdd, Nat.reduceMul, Nat.reduceSub, Nat.reduceLT, Nat.reduceLeDiff, fx8_0, fx8_1, fx8_2, h12]
                            exact hK1 _ ⟨rfl, rfl, rfl, rfl, rfl, rfl, rfl, rfl, rfl, rfl, (by first | rfl | (rw [h12]; rfl) | (simp only [h12, Bool.true_and, Bool.false_and, Bool.true_or, Bool.false_or, cond_true, cond_false]; done)), trivial⟩
                        · refine xw_id ?_
                          refine xw_stop 1 (by simp only [go_sem]; rfl) (by simp only [go_sem]; rfl) (by rfl) fun K1 hK1 => ?_
                          refine xw_id ?_
                          try simp only [go_sem, Nat.reduceEqDiff, reduceIte, Nat.reduceAdd, Nat.reduceMul, Nat.reduceSub, Nat.reduceLT, Nat.reduceLeDiff, fx8_0, fx8_1, fx8_2]
                          refine hK1 _ ?_; clear hK1 K1
                          refine xw_cut 6 [(0, (vi a0)), (4, (.imm (List.flatMap E_Hotspotref19_Step a4) a4.length)), (11, (vb x1)), (12, (.ptr 0 0)), (14, (.ptr 1 0)), (15, (vb d7.2.2.1)), (16, (vi d7.2.2.2)), (17, (.ptr 2 0)), (18, (.ptr 3 0)), (92, (vb (((d7.2.2.1 || (x9.1.Ask.Token == d7.2.1.Token)) || (x9.1.Ask.Start != d7.1.Next)) || (x9.1.Ask.Tid != a0))))] (by simp only [go_sem]; rfl) (by simp only [go_sem]; rfl) (by rfl) (fun K1 hK1 => ?_) fun tz => ?_
                          · refine xw_id ?_
                            rcases Bool.eq_false_or_eq_true ((d7.2.2.1 || (x9.1.Ask.Token == d7.2.1.Token)) || (x9.1.Ask.Start != d7.1.Next)) with h13 | h13
                            · try simp only [go_sem, Nat.reduceEqDiff, reduceIte, Nat.reduceAdd, Nat.reduceMul, Nat.reduceSub, Nat.reduceLT, Nat.reduceLeDiff, fx8_0, fx8_1, fx8_2, h13]
                              exact hK1 _ ⟨rfl, rfl, rfl, rfl, rfl, rfl, rfl, rfl, rfl, rfl, (by first | rfl | (rw [h13]; rfl) | (simp only [h13, Bool.true_and, Bool.false_and, Bool.true_or, Bool.false_or, cond_true, cond_false]; done)), trivial⟩
                            · try simp only [go_sem, Nat.reduceEqDiff, reduceIte, Nat.reduceAdd, Nat.reduceMul, Nat.reduceSub, Nat.reduceLT, Nat.reduceLeDiff, fx8_0, fx8_1, fx8_2, h13]
                              exact hK1 _ ⟨rfl, rfl, rfl, rfl, rfl, rfl, rfl, rfl, rfl, rfl, (by first | rfl | (rw [h13]; rfl) | (simp only [h13, Bool.true_and, Bool.false_and, Bool.true_or, Bool.false_or, cond_true, cond_false]; done)), trivial⟩
                          · refine xw_id ?_
                            try simp only [go_sem, Nat.reduceEqDiff, reduceIte, Nat.reduceAdd, Nat.reduceMul, Nat.reduceSub, Nat.reduceLT, Nat.reduceLeDiff, fx8_0, fx8_1, fx8_2]
                            refine hKK _ _ (Wk.refl _ _ _) ?_; clear hKK KK
                            refine awp_cond (b := (((d7.2.2.1 || (x9.1.Ask.Token == d7.2.1.Token)) || (x9.1.Ask.Start != d7.1.Next)) || (x9.1.Ask.Tid != a0))) rfl (fun h14 => ?_) (fun h14 => ?_)
                            · have hi9 := cT hi9 h14
                              refine awp_assoc ?_
                              refine awp_nr [] (fun _ => rfl) fun tz => ?_
                              refine awp_regW fun KK hKK => ?_
                              refine xw_id ?_
                              try simp only [go_sem, Nat.reduceEqDiff, reduceIte, Nat.reduceAdd, Nat.reduceMul, Nat.reduceSub, Nat.reduceLT, Nat.reduceLeDiff, fx8_0, fx8_1, fx8_2]
                              refine hKK _ _ (Wk.refl _ _ _) ?_; clear hKK KK
                              refine awp_ret ?_
                              refine bq_r ?_
                              refine sq_r ?_
                              refine bq_r ?_
                              refine sq_r ?_
                              refine lq_r ?_
                              refine bq_r ?_
                              refine sq_r ?_
                              obtain rfl := someInj hi9
                              obtain rfl := Ex.kE_ret hl6
                              obtain rfl := Ex.k_ret h0
                              refine endW_i ?_
                              refine end_ret0 rs6 (rfl) ?_
                              try simp only [go_sem, Nat.reduceEqDiff, reduceIte, Nat.reduceAdd, Nat.reduceMul, Nat.reduceSub, Nat.reduceLT, Nat.reduceLeDiff, fz, nilS, packR, List.take_nil, List.take_length, List.length_map, List.length_append, cond_true, cond_false, Nat.ble_eq, ble_self, List.map_append]
                              all_goals rfl
                            · have hi9 := cF hi9 h14
                              refine awp_skip ?_
                              refine awp_nr1 [0,4,11,12,14,15,16,17,18] (fun _ => rfl) fun tz => ?_
                              refine awp_reg1 fun KK hKK => ?_
                              refine xw_id ?_
                              try simp only [go_sem, Nat.reduceEqDiff, reduceIte, Nat.reduceAdd, Nat.reduceMul, Nat.reduceSub, Nat.reduceLT, Nat.reduceLeDiff, fx8_0, fx8_1, fx8_2]
                              refine hKK _ ?_; clear hKK KK
                              refine bq_n ?_
                              refine sq_n ?_
                              obtain rfl := someInj hi9
                              exact ⟨_, rfl, (Wk.canonD [] [] [some 0, some 1, some 3] rfl trivial rfl (tmOU 2 (tmOU 1 (tmOU 0 tmO0 rfl List.not_mem_nil (by simp only [upd_get, Nat.reduceEqDiff, reduceIte, Nat.reduceAdd, Nat.reduceMul, Nat.reduceSub, Nat.reduceLT, Nat.reduceLeDiff, if_true, if_false] <;> rfl) (e_Sender_tmx (by rfl) (Tm.clean (Clean.imm (c_Unacked _))))) rfl List.not_mem_nil (by simp only [upd_get, Nat.reduceEqDiff, reduceIte, Nat.reduceAdd, Nat.reduceMul, Nat.reduceSub, Nat.reduceLT, Nat.reduceLeDiff, if_true, if_false] <;> rfl) (TmL.clean (e_BlockAsk_clean _))) rfl List.not_mem_nil (by simp only [upd_get, Nat.reduceEqDiff, reduceIte, Nat.reduceAdd, Nat.reduceMul, Nat.reduceSub, Nat.reduceLT, Nat.reduceLeDiff, if_true, if_false] <;> rfl) (e_Sender_tmx (by rfl) (Tm.clean (Clean.imm (c_Unacked _))))) (tmAllU 18 (tmAllU 16 (tmAllU 15 (tmAllU 14 (tmAllU 12 (tmAllU 11 (tmAllU 4 (tmAllU 0 tmAll0 (Tm.v _)) (Tm.clean (Clean.imm (c_Hotspotref19_Step _)))) (Tm.v _)) (Tm.ptr rfl)) (Tm.ptr rfl)) (Tm.v _)) (Tm.v _)) (Tm.ptr rfl)))⟩
                    · have hi9 := cF hi9 h10
                      refine awp_nr [0,4,11,12,14,15,16,18,64] (fun _ => rfl) fun tz => ?_
                      refine awp_regW fun KK hKK => ?_
                      refine xw_id ?_
                      try simp only [go_sem, Nat.reduceEqDiff, reduceIte, Nat.reduceAdd, Nat.reduceMul, Nat.reduceSub, Nat.reduceLT, Nat.reduceLeDiff, fx8_0, fx8_1, fx8_2]
                      refine hKK _ _ (Wk.refl _ _ _) ?_; clear hKK KK
                      refine awp_cond1 (b := (x8.Kind == 1)) rfl (fun h15 => ?_) (fun h15 => ?_)
                      · have hi9 := cT hi9 h15
                        refine awp_nr [0,4,11,12,14,16,18] (fun _ => rfl) fun tz => ?_
                        refine awp_regW fun KK hKK => ?_
                        refine xw_id ?_
                        try simp only [go_sem, Nat.reduceEqDiff, reduceIte, Nat.reduceAdd, Nat.reduceMul, Nat.reduceSub, Nat.reduceLT, Nat.reduceLeDiff, fx8_0, fx8_1, fx8_2]
                        refine hKK _ _ (Wk.refl _ _ _) ?_; clear hKK KK
                        refine awp_assoc ?_
                        refine awp_nr [0,4,11,12,14,16,18,20] (fun _ => rfl) fun tz => ?_
                        refine awp_regW fun KK hKK => ?_
                        refine xw_id ?_
                        refine xw_stop 6 (by simp only [go_sem]; rfl) (by simp only [go_sem]; rfl) (by rfl) fun K1 hK1 => ?_
                        refine xw_id ?_
                        try simp only [go_sem, Nat.reduceEqDiff, reduceIte, Nat.reduceAdd, Nat.reduceMul, Nat.reduceSub, Nat.reduceLT, Nat.reduceLeDiff, fx8_0, fx8_1, fx8_2]
                        refine hK1 _ ?_; clear hK1 K1
                        refine xw_cut 5 [(0, (vi a0)), (4, (.imm (List.flatMap E_Hotspotref19_Step a4) a4.length)), (11, (vb x1)), (12, (.ptr 0 0)), (14, (.ptr 1 0)), (16, (vi d7.2.2.2)), (18, (.ptr 3 0)), (20, (.ptr 20 0)), (112, (vb ((x8.A.Token != d7.2.1.Token) || (x8.A.Tid != a0))))] (by simp only [go_sem]; rfl) (by simp only [go_sem]; rfl) (by rfl) (fun K1 hK1 => ?_) fun tz => ?_
                        · refine xw_id ?_
                          rcases Bool.eq_false_or_eq_true (x8.A.Token != d7.2.1.Token) with h16 | h16
                          · try simp only [go_sem, Nat.reduceEqDiff, reduceIte, Nat.reduceAdd, Nat.reduceMul, Nat.reduceSub, Nat.reduceLT, Nat.reduceLeDiff, fx8_0, fx8_1, fx8_2, h16]
                            exact hK1 _ ⟨rfl, rfl, rfl, rfl, rfl, rfl, rfl, rfl, rfl, (by first | rfl | (rw [h16]; rfl) | (simp only [h16, Bool.true_and, Bool.false_and, Bool.true_or, Bool.false_or, cond_true, cond_false]; done)), trivial⟩
                          · try simp only [go_sem, Nat.reduceEqDiff, reduceIte, Nat.reduceAdd, Nat.reduceMul, Nat.reduceSub, Nat.reduceLT, Nat.reduceLeDiff, fx8_0, fx8_1, fx8_2, h16]
                            exact hK1 _ ⟨rfl, rfl, rfl, rfl, rfl, rfl, rfl, rfl, rfl, (by first | rfl | (rw [h16]; rfl) | (simp only [h16, Bool.true_and, Bool.false_and, Bool.true_or, Bool.false_or, cond_true, cond_false]; done)), trivial⟩
                        · refine xw_id ?_
                          refine xw_stop 1 (by simp only [go_sem]; rfl) (by simp only [go_sem]; rfl) (by rfl) fun K1 hK1 => ?_
                          refine xw_id ?_
                          try simp only [go_sem, Nat.reduceEqDiff, reduceIte, Nat.reduceAdd, Nat.reduceMul, Nat.reduceSub, Nat.reduceLT, Nat.reduceLeDiff, fx8_0, fx8_1, fx8_2]
                          refine hK1 _ ?_; clear hK1 K1
                          refine xw_cut 18 [(0, (vi a0)), (4, (.imm (List.flatMap E_Hotspotref19_Step a4) a4.length)), (11, (vb x1)), (12, (.ptr 0 0)), (14, (.ptr 1 0)), (16, (vi d7.2.2.2)), (18, (.ptr 3 0)), (20, (.ptr 20 0)), (131, (vb (((x8.A.Token != d7.2.1.Token) || (x8.A.Tid != a0)) || ((x8.A.Status == 0) && ((decide (d7.2.1.Size < x8.A.Size)) || (x8.A.Size != x9.2.1.Size))))))] (by simp only [go_sem]; rfl) (by simp only [go_sem]; rfl) (by rfl) (fun K1 hK1 => ?_) fun tz => ?_
                          · refine xw_id ?_
                            rcases Bool.eq_false_or_eq_true ((x8.A.Token != d7.2.1.Token) || (x8.A.Tid != a0)) with h17 | h17
                            · try simp only [go_sem, Nat.reduceEqDiff, reduceIte, Nat.reduceAdd, Nat.reduceMul, Nat.reduceSub, Nat.reduceLT, Nat.reduceLeDiff, fx8_0, fx8_1, fx8_2, h17]
                              exact hK1 _ ⟨rfl, rfl, rfl, rfl, rfl, rfl, rfl, rfl, rfl, (by first | rfl | (rw [h17]; rfl) | (simp only [h17, Bool.true_and, Bool.false_and, Bool.true_or, Bool.false_or, cond_true, cond_false]; done)), trivial⟩
                            · refine xw_stop 4 (by simp only [go_sem]; rfl) (by simp only [go_sem]; rfl) (by rfl) fun K1 hK1 => ?_
                              refine xw_id ?_
                              try simp only [go_sem, Nat.reduceEqDiff, reduceIte, Nat.reduceAdd, Nat.reduceMul, Nat.reduceSub, Nat.reduceLT, Nat.reduceLeDiff, fx8_0, fx8_1, fx8_2, h17]
                              refine hK1 _ ?_; clear hK1 K1
                              refine xw_cut 13 [(0, (vi a0)), (4, (.imm (List.flatMap E_Hotspotref19_Step a4) a4.length)), (11, (vb x1)), (12, (.ptr 0 0)), (14, (.ptr 1 0)), (16, (vi d7.2.2.2)), (18, (.ptr 3 0)), (20, (.ptr 20 0)), (113, (vb false)), (130, (vb ((x8.A.Status == 0) && ((decide (d7.2.1.Size < x8.A.Size)) || (x8.A.Size != x9.2.1.Size)))))] (by simp only [go_sem]; rfl) (by simp only [go_sem]; rfl) (by rfl) (fun K1 hK1 => ?_) fun tz => ?_
                              · refine xw_id ?_
                                rcases Bool.eq_false_or_eq_true (x8.A.Status == 0) with h18 | h18
                                · refine xw_stop 6 (by simp only [go_sem]; rfl) (by simp only [go_sem]; rfl) (by rfl) fun K1 hK1 => ?_
                                  refine xw_id ?_
                                  try simp only [go_sem, Nat.reduceEqDiff, reduceIte, Nat.reduceAdd, Nat.reduceMul, Nat.reduceSub, Nat.reduceLT, Nat.reduceLeDiff, fx8_0, fx8_1, fx8_2, h17, h18]
                                  refine hK1 _ ?_; clear hK1 K1
                                  refine xw_cut 6 [(0, (vi a0)), (4, (.imm (List.flatMap E_Hotspotref19_Step a4) a4.length)), (11, (vb x1)), (12, (.ptr 0 0)), (14, (.ptr 1 0)), (16, (vi d7.2.2.2)), (18, (.ptr 3 0)), (20, (.ptr 20 0)), (113, (vb false)), (117, (vb true)), (129, (vb ((decide (d7.2.1.Size < x8.A.Size)) || (x8.A.Size != x9.2.1.Size))))] (by simp only [go_sem]; rfl) (by simp only [go_sem]; rfl) (by rfl) (fun K1 hK1 => ?_) fun tz => ?_
                                  · refine xw_id ?_
                                    rcases Bool.eq_false_or_eq_true (decide (d7.2.1.Size < x8.A.Size)) with h19 | h19
                                    · try simp only [go_sem, Nat.reduceEqDiff, reduceIte, Nat.reduceAdd, Nat.reduceMul, Nat.reduceSub, Nat.reduceLT, Nat.reduceLeDiff, fx8_0, fx8_1, fx8_2, h17, h18, h19]
                                      exact hK1 _ ⟨rfl, rfl, rfl, rfl, rfl, rfl, rfl, rfl, rfl, rfl, rfl, (by first | rfl | (rw [h19]; rfl) | (simp only [h19, Bool.true_and, Bool.false_and, Bool.true_or, Bool.false_or, cond_true, cond_false]; done)), trivial⟩
                                    · try simp only [go_sem, Nat.reduceEqDiff, reduceIte, Nat.reduceAdd, Nat.reduceMul, Nat.reduceSub, Nat.reduceLT, Nat.reduceLeDiff, fx8_0, fx8_1, fx8_2, h17, h18, h19]
                                      exact hK1 _ ⟨rfl, rfl, rfl, rfl, rfl, rfl, rfl, rfl, rfl, rfl, rfl, (by first | rfl | (rw [h19]; rfl) | (simp only [h19, Bool.true_and, Bool.false_and, Bool.true_or, Bool.false_or, cond_true, cond_false]; done)), trivial⟩
                                  · refine xw_id ?_
                                    try simp only [go_sem, Nat.reduceEqDiff, reduceIte, Nat.reduceAdd, Nat.reduceMul, Nat.reduceSub, Nat.reduceLT, Nat.reduceLeDiff, fx8_0, fx8_1, fx8_2, h17, h18]
                                    exact hK1 _ ⟨rfl, rfl, rfl, rfl, rfl, rfl, rfl, rfl, rfl, rfl, (by first | rfl | (rw [h18]; rfl) | (simp only [h18, Bool.true_and, Bool.false_and, Bool.true_or, Bool.false_or, cond_true, cond_false]; done)), trivial⟩
                                · try simp only [go_sem, Nat.reduceEqDiff, reduceIte, Nat.reduceAdd, Nat.reduceMul, Nat.reduceSub, Nat.reduceLT, Nat.reduceLeDiff, fx8_0, fx8_1, fx8_2, h17, h18]
                                  exact hK1 _ ⟨rfl, rfl, rfl, rfl, rfl, rfl, rfl, rfl, rfl, rfl, (by first | rfl | (rw [h18]; rfl) | (simp only [h18, Bool.true_and, Bool.false_and, Bool.true_or, Bool.false_or, cond_true, cond_false]; done)), trivial⟩
                              · refine xw_id ?_
                                try simp only [go_sem, Nat.reduceEqDiff, reduceIte, Nat.reduceAdd, Nat.reduceMul, Nat.reduceSub, Nat.reduceLT, Nat.reduceLeDiff, fx8_0, fx8_1, fx8_2, h17]
                                exact hK1 _ ⟨rfl, rfl, rfl, rfl, rfl, rfl, rfl, rfl, rfl, (by first | rfl | (rw [h17]; rfl) | (simp only [h17, Bool.true_and, Bool.false_and, Bool.true_or, Bool.false_or, cond_true, cond_false]; done)), trivial⟩
                          · refine xw_id ?_
                            try simp only [go_sem, Nat.reduceEqDiff, reduceIte, Nat.reduceAdd, Nat.reduceMul, Nat.reduceSub, Nat.reduceLT, Nat.reduceLeDiff, fx8_0, fx8_1, fx8_2]
                            refine hKK _ _ (Wk.refl _ _ _) ?_; clear hKK KK
                            refine awp_cond (b := (((x8.A.Token != d7.2.1.Token) || (x8.A.Tid != a0)) || ((x8.A.Status == 0) && ((decide (d7.2.1.Size < x8.A.Size)) || (x8.A.Size != x9.2.1.Size))))) rfl (fun h20 => ?_) (fun h20 => ?_)
                            · have hi9 := cT hi9 h20
                              refine awp_assoc ?_
                              refine awp_nr [] (fun _ => rfl) fun tz => ?_
                              refine awp_regW fun KK hKK => ?_
                              refine xw_id ?_
                              try simp only [go_sem, Nat.reduceEqDiff, reduceIte, Nat.reduceAdd, Nat.reduceMul, Nat.reduceSub, Nat.reduceLT, Nat.reduceLeDiff, fx8_0, fx8_1, fx8_2]
                              refine hKK _ _ (Wk.refl _ _ _) ?_; clear hKK KK
                              refine awp_ret ?_
                              refine bq_r ?_
                              refine sq_r ?_
                              refine bq_r ?_
                              refine sq_r ?_
                              refine lq_r ?_
                              refine bq_r ?_
                              refine sq_r ?_
                              obtain rfl := someInj hi9
                              obtain rfl := Ex.kE_ret hl6
                              obtain rfl := Ex.k_ret h0
                              refine endW_i ?_
                              refine end_ret0 rs6 (rfl) ?_
                              try simp only [go_sem, Nat.reduceEqDiff, reduceIte, Nat.reduceAdd, Nat.reduceMul, Nat.reduceSub, Nat.reduceLT, Nat.reduceLeDiff, fz, nilS, packR, List.take_nil, List.take_length, List.length_map, List.length_append, cond_true, cond_false, Nat.ble_eq, ble_self, List.map_append]
                              all_goals rfl
                            · have hi9 := cF hi9 h20
                              refine awp_skip ?_
                              refine awp_nr1 [0,4,11,12,14,16,18,20] (fun _ => rfl) fun tz => ?_
                              refine awp_reg1 fun KK hKK => ?_
                              refine xw_id ?_
                              try simp only [go_sem, Nat.reduceEqDiff, reduceIte, Nat.reduceAdd, Nat.reduceMul, Nat.reduceSub, Nat.reduceLT, Nat.reduceLeDiff, fx8_0, fx8_1, fx8_2]
                              refine hKK _ ?_; clear hKK KK
                              refine bq_n ?_
                              refine sq_n ?_
                              obtain rfl := someInj hi9
                              exact ⟨_, rfl, (Wk.canonD [] [] [some 0, some 1, some 3] rfl trivial rfl (tmOU 2 (tmOU 1 (tmOU 0 tmO0 rfl List.not_mem_nil (by simp only [upd_get, Nat.reduceEqDiff, reduceIte, Nat.reduceAdd, Nat.reduceMul, Nat.reduceSub, Nat.reduceLT, Nat.reduceLeDiff, if_true, if_false] <;> rfl) (e_Sender_tmx (by rfl) (Tm.clean (Clean.imm (c_Unacked _))))) rfl List.not_mem_nil (by simp only [upd_get, Nat.reduceEqDiff, reduceIte, Nat.reduceAdd, Nat.reduceMul, Nat.reduceSub, Nat.reduceLT, Nat.reduceLeDiff, if_true, if_false] <;> rfl) (TmL.clean (e_BlockAsk_clean _))) rfl List.not_mem_nil (by simp only [upd_get, Nat.reduceEqDiff, reduceIte, Nat.reduceAdd, Nat.reduceMul, Nat.reduceSub, Nat.reduceLT, Nat.reduceLeDiff, if_true, if_false] <;> rfl) (e_Sender_tmx (by rfl) (Tm.clean (Clean.imm (c_Unacked _))))) (tmAllU 18 (tmAllU 16 (tmAllU 15 (tmAllU 14 (tmAllU 12 (tmAllU 11 (tmAllU 4 (tmAllU 0 tmAll0 (Tm.v _)) (Tm.clean (Clean.imm (c_Hotspotref19_Step _)))) (Tm.v _)) (Tm.ptr rfl)) (Tm.ptr rfl)) (Tm.v _)) (Tm.v _)) (Tm.ptr rfl)))⟩
                      · have hi9 := cF hi9 h15
                        refine awp_nr [0,4,11,12,14,15,16,18,64] (fun _ => rfl) fun tz => ?_
                        refine awp_regW fun KK hKK => ?_
                        refine xw_id ?_
                        try simp only [go_sem, Nat.reduceEqDiff, reduceIte, Nat.reduceAdd, Nat.reduceMul, Nat.reduceSub, Nat.reduceLT, Nat.reduceLeDiff, fx8_0, fx8_1, fx8_2]
                        refine hKK _ _ (Wk.refl _ _ _) ?_; clear hKK KK
                        refine awp_cond1 (b := (x8.Kind == 2)) rfl (fun h21 => ?_) (fun h21 => ?_)
                        · have hi9 := cT hi9 h21
                          refine awp_nr1 [0,4,11,12,14,16,18] (fun _ => rfl) fun tz => ?_
                          refine awp_reg1 fun KK hKK => ?_
                          refine xw_id ?_
                          try simp only [go_sem, Nat.reduceEqDiff, reduceIte, Nat.reduceAdd, Nat.reduceMul, Nat.reduceSub, Nat.reduceLT, Nat.reduceLeDiff, fx8_0, fx8_1, fx8_2]
                          refine hKK _ ?_; clear hKK KK
                          refine bq_n ?_
                          refine sq_n ?_
                          obtain rfl := someInj hi9
                          exact ⟨_, rfl, (Wk.canonD [] [] [some 0, some 1, some 3] rfl trivial rfl (tmOU 2 (tmOU 1 (tmOU 0 tmO0 rfl List.not_mem_nil (by simp only [upd_get, Nat.reduceEqDiff, reduceIte, Nat.reduceAdd, Nat.reduceMul, Nat.reduceSub, Nat.reduceLT, Nat.reduceLeDiff, if_true, if_false] <;> rfl) (e_Sender_tmx (by rfl) (Tm.clean (Clean.imm (c_Unacked _))))) rfl List.not_mem_nil (by simp only [upd_get, Nat.reduceEqDiff, reduceIte, Nat.reduceAdd, Nat.reduceMul, Nat.reduceSub, Nat.reduceLT, Nat.reduceLeDiff, if_true, if_false] <;> rfl) (TmL.clean (e_BlockAsk_clean _))) rfl List.not_mem_nil (by simp only [upd_get, Nat.reduceEqDiff, reduceIte, Nat.reduceAdd, Nat.reduceMul, Nat.reduceSub, Nat.reduceLT, Nat.reduceLeDiff, if_true, if_false] <;> rfl) (e_Sender_tmx (by rfl) (Tm.clean (Clean.imm (c_Unacked _))))) (tmAllU 18 (tmAllU 16 (tmAllU 15 (tmAllU 14 (tmAllU 12 (tmAllU 11 (tmAllU 4 (tmAllU 0 tmAll0 (Tm.v _)) (Tm.clean (Clean.imm (c_Hotspotref19_Step _)))) (Tm.v _)) (Tm.ptr rfl)) (Tm.ptr rfl)) (Tm.v _)) (Tm.v _)) (Tm.ptr rfl)))⟩
                        · have hi9 := cF hi9 h21
                          refine awp_nr [0,4,11,12,14,15,16,18] (fun _ => rfl) fun tz => ?_
                          refine awp_regW fun KK hKK => ?_
                          refine xw_id ?_
                          try simp only [go_sem, Nat.reduceEqDiff, reduceIte, Nat.reduceAdd, Nat.reduceMul, Nat.reduceSub, Nat.reduceLT, Nat.reduceLeDiff, fx8_0, fx8_1, fx8_2]
                          refine hKK _ _ (Wk.refl _ _ _) ?_; clear hKK KK
                          refine awp_cond1 (b := (!d7.2.2.1)) rfl (fun h22 => ?_) (fun h22 => ?_)
                          · have hi9 := cT hi9 h22
                            refine awp_nr [] (fun _ => rfl) fun tz => ?_
                            refine awp_regW fun KK hKK => ?_
                            refine xw_id ?_
                            try simp only [go_sem, Nat.reduceEqDiff, reduceIte, Nat.reduceAdd, Nat.reduceMul, Nat.reduceSub, Nat.reduceLT, Nat.reduceLeDiff, fx8_0, fx8_1, fx8_2]
                            refine hKK _ _ (Wk.refl _ _ _) ?_; clear hKK KK
                            refine awp_ret1 ?_
                            refine bq_r ?_
                            refine sq_r ?_
                            refine bq_r ?_
                            refine sq_r ?_
                            refine lq_r ?_
                            refine bq_r ?_
                            refine sq_r ?_
                            obtain rfl := someInj hi9
                            obtain rfl := Ex.kE_ret hl6
                            obtain rfl := Ex.k_ret h0
                            refine endW_i ?_
                            refine end_ret0 rs6 (rfl) ?_
                            try simp only [go_sem, Nat.reduceEqDiff, reduceIte, Nat.reduceAdd, Nat.reduceMul, Nat.reduceSub, Nat.reduceLT, Nat.reduceLeDiff, fz, nilS, packR, List.take_nil, List.take_length, List.length_map, List.length_append, cond_true, cond_false, Nat.ble_eq, ble_self, List.map_append]
                            all_goals rfl
                          · have hi9 := cF hi9 h22
                            refine awp_skip1 ?_
                            refine bq_n ?_
                            refine sq_n ?_
                            obtain rfl := someInj hi9
                            exact ⟨_, rfl, (Wk.canonD [] [] [some 0, some 1, some 3] rfl trivial rfl (tmOU 2 (tmOU 1 (tmOU 0 tmO0 rfl List.not_mem_nil (by simp only [upd_get, Nat.reduceEqDiff, reduceIte, Nat.reduceAdd, Nat.reduceMul, Nat.reduceSub, Nat.reduceLT, Nat.reduceLeDiff, if_true, if_false] <;> rfl) (e_Sender_tmx (by rfl) (Tm.clean (Clean.imm (c_Unacked _))))) rfl List.not_mem_nil (by simp only [upd_get, Nat.reduceEqDiff, reduceIte, Nat.reduceAdd, Nat.reduceMul, Nat.reduceSub, Nat.reduceLT, Nat.reduceLeDiff, if_true, if_false] <;> rfl) (TmL.clean (e_BlockAsk_clean _))) rfl List.not_mem_nil (by simp only [upd_get, Nat.reduceEqDiff, reduceIte, Nat.reduceAdd, Nat.reduceMul, Nat.reduceSub, Nat.reduceLT, Nat.reduceLeDiff, if_true, if_false] <;> rfl) (e_Sender_tmx (by rfl) (Tm.clean (Clean.imm (c_Unacked _))))) (tmAllU 18 (tmAllU 16 (tmAllU 15 (tmAllU 14 (tmAllU 12 (tmAllU 11 (tmAllU 4 (tmAllU 0 tmAll0 (Tm.v _)) (Tm.clean (Clean.imm (c_Hotspotref19_Step _)))) (Tm.v _)) (Tm.ptr rfl)) (Tm.ptr rfl)) (Tm.v _)) (Tm.v _)) (Tm.ptr rfl)))⟩
                  · rintro d10 rfl
                    have hl6 := Ex.kE_go hl6
                    clear hi9
                    unfold hotspotlaw19_SenderAgrees_S5
                    refine awp_assoc ?_
                    refine awp_nr [0,4,11,12,14,15,16,18] (fun _ => rfl) fun tz => ?_
                    refine awp_regW fun KK hKK => ?_
                    refine xw_id ?_
                    try simp only [go_sem, Nat.reduceEqDiff, reduceIte, Nat.reduceAdd, Nat.reduceMul, Nat.reduceSub, Nat.reduceLT, Nat.reduceLeDiff]
                    refine hKK _ _ (Wk.refl _ _ _) ?_; clear hKK KK
                    refine awp_cond (b := (!((x9.2.1.Phase == 2) == d10.2))) rfl (fun h23 => ?_) (fun h23 => ?_)
                    · have hl6 := cT hl6 h23
                      refine awp_assoc ?_
                      refine awp_nr [] (fun _ => rfl) fun tz => ?_
                      refine awp_regW fun KK hKK => ?_
                      refine xw_id ?_
                      try simp only [go_sem, Nat.reduceEqDiff, reduceIte, Nat.reduceAdd, Nat.reduceMul, Nat.reduceSub, Nat.reduceLT, Nat.reduceLeDiff]
                      refine hKK _ _ (Wk.refl _ _ _) ?_; clear hKK KK
                      refine awp_ret ?_
                      refine bq_r ?_
                      refine sq_r ?_
                      refine lq_r ?_
                      refine bq_r ?_
                      refine sq_r ?_
                      obtain rfl := someInj hl6
                      obtain rfl := Ex.k_ret h0
                      refine endW_i ?_
                      refine end_ret0 rs6 (rfl) ?_
                      try simp only [go_sem, Nat.reduceEqDiff, reduceIte, Nat.reduceAdd, Nat.reduceMul, Nat.reduceSub, Nat.reduceLT, Nat.reduceLeDiff, fz, nilS, packR, List.take_nil, List.take_length, List.length_map, List.length_append, cond_true, cond_false, Nat.ble_eq, ble_self, List.map_append]
                      all_goals rfl
                    · have hl6 := cF hl6 h23
                      refine awp_skip ?_
                      refine awp_nr1 [0,4,11,12,14,15,16,18] (fun _ => rfl) fun tz => ?_
                      refine awp_reg1 fun KK hKK => ?_
                      refine xw_id ?_
                      try simp only [go_sem, Nat.reduceEqDiff, reduceIte, Nat.reduceAdd, Nat.reduceMul, Nat.reduceSub, Nat.reduceLT, Nat.reduceLeDiff]
                      refine hKK _ ?_; clear hKK KK
                      refine bq_n ?_
                      refine seqW_i ?_
                      refine awp_nr1 [0,4,11,12,14,15,16] (fun _ => rfl) fun tz => ?_
                      refine awp_reg1 fun KK hKK => ?_
                      refine xw_id ?_
                      try simp only [go_sem, Nat.reduceEqDiff, reduceIte, Nat.reduceAdd, Nat.reduceMul, Nat.reduceSub, Nat.reduceLT, Nat.reduceLeDiff]
                      refine hKK _ ?_; clear hKK KK
                      refine lq_n ?_
                      exact ⟨n5, (x9.2.1, d10.1, d10.2, IntKind.wrap .i64 (d7.2.2.2 + 1)), rfl, hl6, (Wk.canonD [] [] [some 0, some 1] rfl trivial rfl (tmOU 1 (tmOU 0 tmO0 rfl List.not_mem_nil (by simp only [upd_get, Nat.reduceEqDiff, reduceIte, Nat.reduceAdd, Nat.reduceMul, Nat.reduceSub, Nat.reduceLT, Nat.reduceLeDiff, if_true, if_false] <;> rfl) (e_Sender_tmx (by rfl) (Tm.clean (Clean.imm (c_Unacked _))))) rfl List.not_mem_nil (by simp only [upd_get, Nat.reduceEqDiff, reduceIte, Nat.reduceAdd, Nat.reduceMul, Nat.reduceSub, Nat.reduceLT, Nat.reduceLeDiff, if_true, if_false] <;> rfl) (TmL.clean (e_BlockAsk_clean _))) (tmAllU 16 (tmAllU 15 (tmAllU 14 (tmAllU 12 (tmAllU 11 (tmAllU 4 (tmAllU 0 tmAll0 (Tm.v _)) (Tm.clean (Clean.imm (c_Hotspotref19_Step _)))) (Tm.v _)) (Tm.ptr rfl)) (Tm.ptr rfl)) (Tm.v _)) (Tm.v _)))⟩
            · have hl6 := cF hl6 h7
              refine awp_exit ?_
              refine lq_e ?_
              refine bq_e ?_
              refine sq_n ?_
              obtain rfl := someInj hl6
              exact ⟨_, rfl, (Wk.canonD [] [] [] rfl trivial rfl tmO0 (tmAllU 11 tmAll0 (Tm.v _)))⟩
        · rintro d5 rfl
          have h0 := Ex.k_go h0
          clear hi4
          unfold hotspotlaw19_SenderAgrees_S1
          refine awp_nr [11] (fun _ => rfl) fun tz => ?_
          refine awp_regW fun KK hKK => ?_
          refine xw_id ?_
          try simp only [go_sem, Nat.reduceEqDiff, reduceIte, Nat.reduceAdd, Nat.reduceMul, Nat.reduceSub, Nat.reduceLT, Nat.reduceLeDiff]
          refine hKK _ _ (Wk.refl _ _ _) ?_; clear hKK KK
          refine awp_ret1 ?_
          obtain rfl := someInj h0
          refine endW_i ?_
          refine end_ret0 rs6 (rfl) ?_
          try simp only [go_sem, Nat.reduceEqDiff, reduceIte, Nat.reduceAdd, Nat.reduceMul, Nat.reduceSub, Nat.reduceLT, Nat.reduceLeDiff, fz, nilS, packR, List.take_nil, List.take_length, List.length_map, List.length_append, cond_true, cond_false, Nat.ble_eq, ble_self, List.map_append]
          all_goals rfl

end Go.AX.Z.TS
