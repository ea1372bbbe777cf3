/- A part of the proof: walks through the functions that the statement reaches. -/
import Derived.Test.YtjijidmbpfjioaaWalkb
set_option linter.unusedVariables false
set_option linter.unusedSimpArgs false

/-! (TSW hotspotlaw19 SenderTries) -/

set_option linter.unusedSimpArgs false
set_option linter.unusedVariables false
set_option maxHeartbeats 4000000
namespace Go.AX.Z.TS
open Go.AX Go.Proofs
attribute [local irreducible] awp xw xop xcall gsp ob xd xdop xcallD seqQ loopQ blkQ endQ

def hotspotlaw19_SenderTries_S0 (x85 : (Sender × Int)) (a2 : Int) (a4 : (List Hotspotref19_Step)) (x84 : Bool) : AS :=
 { objs := (upd (fun _ => .dead) 0 (.live (e_Sender x85.1 (.imm (List.flatMap E_Unacked x85.1.Out) x85.1.Out.length)))), next := 1, tmps := (upd (upd (upd (upd (upd (fun _ => .unk) 2 (vi a2)) 4 (.imm (List.flatMap E_Hotspotref19_Step a4) a4.length)) 11 (vb x84)) 12 (.ptr 0 0)) 13 (vi x85.2)) }

def hotspotlaw19_SenderTries_S1 (x84 : Bool) (d88 : Unit) : AS :=
 { objs := (fun _ => .dead), next := 0, tmps := (upd (fun _ => .unk) 11 (vb x84)) }

def hotspotlaw19_SenderTries_S2 (a2 : Int) (a4 : (List Hotspotref19_Step)) (x84 : Bool) (d90 : (Sender × List Int × List Int × Int)) : AS :=
 { objs := (upd (upd (upd (fun _ => .dead) 0 (.live (e_Sender d90.1 (.imm (List.flatMap E_Unacked ((d90.1).Out)) ((d90.1).Out).length)))) 1 (.live (List.map vi d90.2.1))) 2 (.live (List.map vi d90.2.2.1))), next := 3, tmps := (upd (upd (upd (upd (upd (upd (upd (fun _ => .unk) 2 (vi a2)) 4 (.imm (List.flatMap E_Hotspotref19_Step a4) a4.length)) 11 (vb x84)) 12 (.ptr 0 0)) 14 (.ptr 1 0)) 15 (.ptr 2 0)) 16 (vi d90.2.2.2)) }

def hotspotlaw19_SenderTries_S4 (a2 : Int) (a4 : (List Hotspotref19_Step)) (x84 : Bool) (d90 : (Sender × List Int × List Int × Int)) (d91 : (Sender × List Int × List Int)) : AS :=
 { objs := (upd (upd (upd (fun _ => .dead) 0 (.live (e_Sender d91.1 (.imm (List.flatMap E_Unacked ((d91.1).Out)) ((d91.1).Out).length)))) 1 (.live (List.map vi d91.2.1))) 2 (.live (List.map vi d91.2.2))), next := 3, tmps := (upd (upd (upd (upd (upd (upd (upd (fun _ => .unk) 2 (vi a2)) 4 (.imm (List.flatMap E_Hotspotref19_Step a4) a4.length)) 11 (vb x84)) 12 (.ptr 0 0)) 14 (.ptr 1 0)) 15 (.ptr 2 0)) 16 (vi d90.2.2.2)) }

def hotspotlaw19_SenderTries_S5 (d90 : (Sender × List Int × List Int × Int)) (x94 : (Hotspotref19_Told × Sender × Int)) (a2 : Int) (a4 : (List Hotspotref19_Step)) (x84 : Bool) : AS :=
 { objs := (upd (upd (upd (upd (upd (fun _ => .dead) 0 (.live (e_Sender d90.1 (.imm (List.flatMap E_Unacked ((d90.1).Out)) ((d90.1).Out).length)))) 1 (.live (List.map vi d90.2.1))) 2 (.live (List.map vi d90.2.2.1))) 3 (.live (e_Hotspotref19_Told x94.1 (.imm (List.flatMap E_Frame x94.1.Frames) x94.1.Frames.length) (.imm (List.map vi x94.1.Numbers) x94.1.Numbers.length)))) 4 (.live (e_Sender x94.2.1 (.imm (List.flatMap E_Unacked x94.2.1.Out) x94.2.1.Out.length)))), next := 5, tmps := (upd (upd (upd (upd (upd (upd (upd (upd (upd (upd (fun _ => .unk) 2 (vi a2)) 4 (.imm (List.flatMap E_Hotspotref19_Step a4) a4.length)) 11 (vb x84)) 12 (.ptr 0 0)) 14 (.ptr 1 0)) 15 (.ptr 2 0)) 16 (vi d90.2.2.2)) 17 (.ptr 3 0)) 18 (.ptr 4 0)) 19 (vi x94.2.2)) }

def hotspotlaw19_SenderTries_S6 (d90 : (Sender × List Int × List Int × Int)) (x94 : (Hotspotref19_Told × Sender × Int)) (a2 : Int) (a4 : (List Hotspotref19_Step)) (x84 : Bool) (d95 : (List Int × List Int)) : AS :=
 { objs := (upd (upd (upd (upd (fun _ => .dead) 0 (.live (e_Sender d90.1 (.imm (List.flatMap E_Unacked ((d90.1).Out)) ((d90.1).Out).length)))) 1 (.live (List.map vi d95.1))) 2 (.live (List.map vi d95.2))) 3 (.live (e_Sender x94.2.1 (.imm (List.flatMap E_Unacked x94.2.1.Out) x94.2.1.Out.length)))), next := 4, tmps := (upd (upd (upd (upd (upd (upd (upd (upd (fun _ => .unk) 2 (vi a2)) 4 (.imm (List.flatMap E_Hotspotref19_Step a4) a4.length)) 11 (vb x84)) 12 (.ptr 0 0)) 14 (.ptr 1 0)) 15 (.ptr 2 0)) 16 (vi d90.2.2.2)) 18 (.ptr 3 0)) }

def hotspotlaw19_SenderTries_S7 (d90 : (Sender × List Int × List Int × Int)) (x94 : (Hotspotref19_Told × Sender × Int)) (a2 : Int) (a4 : (List Hotspotref19_Step)) (x84 : Bool) (x93 : Hotspotref19_Step) (d103 : Bool) : AS :=
 { objs := (upd (upd (upd (upd (upd (fun _ => .dead) 0 (.live (e_Sender d90.1 (.imm (List.flatMap E_Unacked ((d90.1).Out)) ((d90.1).Out).length)))) 1 (.live (List.map vi d90.2.1))) 2 (.live (List.map vi d90.2.2.1))) 3 (.live (e_Hotspotref19_Told x94.1 (.imm (List.flatMap E_Frame x94.1.Frames) x94.1.Frames.length) (.imm (List.map vi x94.1.Numbers) x94.1.Numbers.length)))) 4 (.live (e_Sender x94.2.1 (.imm (List.flatMap E_Unacked x94.2.1.Out) x94.2.1.Out.length)))), next := 5, tmps := (upd (upd (upd (upd (upd (upd (upd (upd (upd (upd (upd (fun _ => .unk) 2 (vi a2)) 4 (.imm (List.flatMap E_Hotspotref19_Step a4) a4.length)) 11 (vb x84)) 12 (.ptr 0 0)) 14 (.ptr 1 0)) 15 (.ptr 2 0)) 16 (vi d90.2.2.2)) 17 (.ptr 3 0)) 18 (.ptr 4 0)) 64 (vi x93.Kind)) 96 (vb d103)) }

def hotspotlaw19_SenderTries_S8 (d90 : (Sender × List Int × List Int × Int)) (x94 : (Hotspotref19_Told × Sender × Int)) (a2 : Int) (a4 : (List Hotspotref19_Step)) (x84 : Bool) (d105 : (List Int × List Int)) : AS :=
 { objs := (upd (upd (upd (upd (fun _ => .dead) 0 (.live (e_Sender d90.1 (.imm (List.flatMap E_Unacked ((d90.1).Out)) ((d90.1).Out).length)))) 1 (.live (List.map vi d105.1))) 2 (.live (List.map vi d105.2))) 3 (.live (e_Sender x94.2.1 (.imm (List.flatMap E_Unacked x94.2.1.Out) x94.2.1.Out.length)))), next := 4, tmps := (upd (upd (upd (upd (upd (upd (upd (upd (fun _ => .unk) 2 (vi a2)) 4 (.imm (List.flatMap E_Hotspotref19_Step a4) a4.length)) 11 (vb x84)) 12 (.ptr 0 0)) 14 (.ptr 1 0)) 15 (.ptr 2 0)) 16 (vi d90.2.2.2)) 18 (.ptr 3 0)) }

def hotspotlaw19_SenderTries_S9 (d90 : (Sender × List Int × List Int × Int)) (x94 : (Hotspotref19_Told × Sender × Int)) (a2 : Int) (a4 : (List Hotspotref19_Step)) (x84 : Bool) (d107 : (List Int × List Int × Int)) : AS :=
 { objs := (upd (upd (upd (upd (upd (fun _ => .dead) 0 (.live (e_Sender d90.1 (.imm (List.flatMap E_Unacked ((d90.1).Out)) ((d90.1).Out).length)))) 1 (.live (List.map vi d107.1))) 2 (.live (List.map vi d107.2.1))) 3 (.live (e_Hotspotref19_Told x94.1 (.imm (List.flatMap E_Frame x94.1.Frames) x94.1.Frames.length) (.imm (List.map vi x94.1.Numbers) x94.1.Numbers.length)))) 4 (.live (e_Sender x94.2.1 (.imm (List.flatMap E_Unacked x94.2.1.Out) x94.2.1.Out.length)))), next := 5, tmps := (upd (upd (upd (upd (upd (upd (upd (upd (upd (upd (fun _ => .unk) 2 (vi a2)) 4 (.imm (List.flatMap E_Hotspotref19_Step a4) a4.length)) 11 (vb x84)) 12 (.ptr 0 0)) 14 (.ptr 1 0)) 15 (.ptr 2 0)) 16 (vi d90.2.2.2)) 17 (.ptr 3 0)) 18 (.ptr 4 0)) 20 (vi d107.2.2)) }

theorem hotspotlaw19_SenderTries_p (a0 : Int) (a1 : Int) (a2 : Int) (a3 : Int) (a4 : (List Hotspotref19_Step)) {r : Bool} (h0 : hotspotlaw19_SenderTries a0 a1 a2 a3 a4 = some r) : SndP K 5 [(vi a0), (vi a1), (vi a2), (vi a3), (S_Hotspotref19_Step a4)] (vb r) := by
 refine SndP.of_walkW hC (Clean.v _) (clean_cons (Clean.v _) (clean_cons (Clean.v _) (clean_cons (Clean.v _) (clean_cons (Clean.v _) (clean_cons (S_Hotspotref19_Step_clean _) clean_nil))))) (show K.P.funcs[5]? = some Try.f5 from Try.func5) rfl rfl (by decide +kernel) (Nat.le_of_ble_eq_true rfl) ?_
 unfold hotspotlaw19_SenderTries at h0
 refine awp_nr [0,1,2,3,4] (fun _ => rfl) fun tz => ?_
 refine awp_regW fun KK hKK => ?_
 refine xw_id ?_
 try simp only [go_sem, Nat.reduceEqDiff, reduceIte, Nat.reduceAdd, Nat.reduceMul, Nat.reduceSub, Nat.reduceLT, Nat.reduceLeDiff]
 refine hKK _ _ (Wk.refl _ _ _) ?_; clear hKK KK
 refine awp_nr [0,1,2,3,4] (fun _ => rfl) fun tz => ?_
 refine awp_regW fun KK hKK => ?_
 refine xw_id ?_
 obtain ⟨x84, bx84, h0⟩ := bnd h0
 try simp only [go_sem, Nat.reduceEqDiff, reduceIte, Nat.reduceAdd, Nat.reduceMul, Nat.reduceSub, Nat.reduceLT, Nat.reduceLeDiff]
 refine xcall_p (hotspotlaw19_alive_p  bx84) ?_; try dsimp only
 try refine xw_id ?_
 try simp only [go_sem, Nat.reduceEqDiff, reduceIte, Nat.reduceAdd, Nat.reduceMul, Nat.reduceSub, Nat.reduceLT, Nat.reduceLeDiff]
 refine hKK _ _ (Wk.refl _ _ _) ?_; clear hKK KK
 refine awp_nr [0,1,2,3,4,11] (fun _ => rfl) fun tz => ?_
 refine awp_regW fun KK hKK => ?_
 refine xw_id ?_
 obtain ⟨x85, bx85, h0⟩ := bnd h0
 try simp only [go_sem, Nat.reduceEqDiff, reduceIte, Nat.reduceAdd, Nat.reduceMul, Nat.reduceSub, Nat.reduceLT, Nat.reduceLeDiff]
 refine xcall_p (sender_New_p a0 a1 a2 a3 bx85) ?_; try dsimp only
 try refine xw_id ?_
 try simp only [go_sem, Nat.reduceEqDiff, reduceIte, Nat.reduceAdd, Nat.reduceMul, Nat.reduceSub, Nat.reduceLT, Nat.reduceLeDiff]
 refine hKK _ (hotspotlaw19_SenderTries_S0 x85 a2 a4 x84) (Wk.canonD [] [] [some 11] rfl trivial rfl (tmOU 0 tmO0 rfl List.not_mem_nil (by simp only [upd_get, Nat.reduceEqDiff, reduceIte, Nat.reduceAdd, Nat.reduceMul, Nat.reduceSub, Nat.reduceLT, Nat.reduceLeDiff, if_true, if_false] <;> rfl) (e_Sender_tmx (by rfl) (Tm.clean (Clean.imm (c_Unacked _))))) (tmAllU 13 (tmAllU 12 (tmAllU 11 (tmAllU 4 (tmAllU 2 tmAll0 (Tm.v _)) (Tm.clean (Clean.imm (c_Hotspotref19_Step _)))) (Tm.v _)) (Tm.ptr rfl)) (Tm.v _))) ?_; clear hKK KK
 unfold hotspotlaw19_SenderTries_S0
 refine awp_assoc ?_
 refine awp_nr [2,4,11,12,13] (fun _ => rfl) fun tz => ?_
 refine awp_regW fun KK hKK => ?_
 refine xw_id ?_
 refine xw_stop 3 (by simp only [go_sem]; rfl) (by simp only [go_sem]; rfl) (by rfl) fun K1 hK1 => ?_
 refine xw_id ?_
 try simp only [go_sem, Nat.reduceEqDiff, reduceIte, Nat.reduceAdd, Nat.reduceMul, Nat.reduceSub, Nat.reduceLT, Nat.reduceLeDiff]
 refine hK1 _ ?_; clear hK1 K1
 obtain ⟨x87, hvh1, h0⟩ := bnd h0
 refine xw_cut 3 [(2, (vi a2)), (4, (.imm (List.flatMap E_Hotspotref19_Step a4) a4.length)), (11, (vb x84)), (12, (.ptr 0 0)), (36, (vb x87))] (by simp only [go_sem]; rfl) (by simp only [go_sem]; rfl) (by rfl) (fun K1 hK1 => ?_) fun tz => ?_
 ·
  refine xw_id ?_
  rcases Bool.eq_false_or_eq_true (x85.2 != 0) with h1 | h1
  ·
   have hvh1 := cT hvh1 h1
   try simp only [go_sem, Nat.reduceEqDiff, reduceIte, Nat.reduceAdd, Nat.reduceMul, Nat.reduceSub, Nat.reduceLT, Nat.reduceLeDiff, h1]
   obtain rfl := someInj hvh1
   exact hK1 _ ⟨rfl, rfl, rfl, rfl, rfl, (by first | rfl | (rw [h1]; rfl) | (simp only [h1, Bool.true_and, Bool.false_and, Bool.true_or, Bool.false_or, cond_true, cond_false]; done)), trivial⟩
  ·
   have hvh1 := cF hvh1 h1
   obtain ⟨x86, bx86, hvh1⟩ := bnd hvh1
   try simp only [go_sem, Nat.reduceEqDiff, reduceIte, Nat.reduceAdd, Nat.reduceMul, Nat.reduceSub, Nat.reduceLT, Nat.reduceLeDiff, h1]
   refine xcall_p (hotspotlaw19_great_p a4 bx86) ?_; try dsimp only
   try refine xw_id ?_
   try simp only [go_sem, Nat.reduceEqDiff, reduceIte, Nat.reduceAdd, Nat.reduceMul, Nat.reduceSub, Nat.reduceLT, Nat.reduceLeDiff, h1]
   obtain rfl := someInj hvh1
   exact hK1 _ ⟨rfl, rfl, rfl, rfl, rfl, (by first | rfl | (rw [h1]; rfl) | (simp only [h1, Bool.true_and, Bool.false_and, Bool.true_or, Bool.false_or, cond_true, cond_false]; done)), trivial⟩
 ·
  refine xw_id ?_
  refine xw_stop 1 (by simp only [go_sem]; rfl) (by simp only [go_sem]; rfl) (by rfl) fun K1 hK1 => ?_
  refine xw_id ?_
  try simp only [go_sem, Nat.reduceEqDiff, reduceIte, Nat.reduceAdd, Nat.reduceMul, Nat.reduceSub, Nat.reduceLT, Nat.reduceLeDiff]
  refine hK1 _ ?_; clear hK1 K1
  refine xw_cut 3 [(2, (vi a2)), (4, (.imm (List.flatMap E_Hotspotref19_Step a4) a4.length)), (11, (vb x84)), (12, (.ptr 0 0)), (40, (vb (x87 || (!x84))))] (by simp only [go_sem]; rfl) (by simp only [go_sem]; rfl) (by rfl) (fun K1 hK1 => ?_) fun tz => ?_
  ·
   refine xw_id ?_
   rcases Bool.eq_false_or_eq_true x87 with h2 | h2
   ·
    try simp only [go_sem, Nat.reduceEqDiff, reduceIte, Nat.reduceAdd, Nat.reduceMul, Nat.reduceSub, Nat.reduceLT, Nat.reduceLeDiff, h2]
    exact hK1 _ ⟨rfl, rfl, rfl, rfl, rfl, (by first | rfl | (rw [h2]; rfl) | (simp only [h2, Bool.true_and, Bool.false_and, Bool.true_or, Bool.false_or, cond_true, cond_false]; done)), trivial⟩
   ·
    try simp only [go_sem, Nat.reduceEqDiff, reduceIte, Nat.reduceAdd, Nat.reduceMul, Nat.reduceSub, Nat.reduceLT, Nat.reduceLeDiff, h2]
    exact hK1 _ ⟨rfl, rfl, rfl, rfl, rfl, (by first | rfl | (rw [h2]; rfl) | (simp only [h2, Bool.true_and, Bool.false_and, Bool.true_or, Bool.false_or, cond_true, cond_false]; done)), trivial⟩
  ·
   refine xw_id ?_
   try simp only [go_sem, Nat.reduceEqDiff, reduceIte, Nat.reduceAdd, Nat.reduceMul, Nat.reduceSub, Nat.reduceLT, Nat.reduceLeDiff]
   refine hKK _ _ (Wk.refl _ _ _) ?_; clear hKK KK
   refine awp_cond (b := (x87 || (!x84))) rfl (fun h3 => ?_) (fun h3 => ?_)
   ·
    have h0 := cT h0 h3
    refine awp_assoc ?_
    refine awp_nr [11] (fun _ => rfl) fun tz => ?_
    refine awp_regW fun KK hKK => ?_
    refine xw_id ?_
    try simp only [go_sem, Nat.reduceEqDiff, reduceIte, Nat.reduceAdd, Nat.reduceMul, Nat.reduceSub, Nat.reduceLT, Nat.reduceLeDiff]
    refine hKK _ _ (Wk.refl _ _ _) ?_; clear hKK KK
    refine awp_ret ?_
    obtain rfl := someInj h0
    refine endW_i ?_
    refine end_ret0 rs5 (rfl) ?_
    try simp only [go_sem, Nat.reduceEqDiff, reduceIte, Nat.reduceAdd, Nat.reduceMul, Nat.reduceSub, Nat.reduceLT, Nat.reduceLeDiff, fz, nilS, packR, List.take_nil, List.take_length, List.length_map, List.length_append, cond_true, cond_false, Nat.ble_eq, ble_self, List.map_append]
    all_goals rfl
   ·
    have h0 := cF h0 h3
    refine awp_skip ?_
    refine awp_nr [2,4,11,12] (fun _ => rfl) fun tz => ?_
    refine awp_regW fun KK hKK => ?_
    refine xw_id ?_
    try simp only [go_sem, Nat.reduceEqDiff, reduceIte, Nat.reduceAdd, Nat.reduceMul, Nat.reduceSub, Nat.reduceLT, Nat.reduceLeDiff]
    refine hKK _ _ (Wk.refl _ _ _) ?_; clear hKK KK
    refine awp_assoc ?_
    refine awp_nr [2,4,11,12,14,15] (fun _ => rfl) fun tz => ?_
    refine awp_regW fun KK hKK => ?_
    refine xw_id ?_
    try simp only [go_sem, Nat.reduceEqDiff, reduceIte, Nat.reduceAdd, Nat.reduceMul, Nat.reduceSub, Nat.reduceLT, Nat.reduceLeDiff]
    refine hKK _ _ (Wk.refl _ _ _) ?_; clear hKK KK
    obtain ⟨o89, hi4, h0⟩ := bnd h0
    refine awp_cut (fun d88 : Unit => o89 = Ex.go d88) (fun d88 : Unit => hotspotlaw19_SenderTries_S1 x84 d88) ?_ ?_
    ·
     refine awp_block1 ?_
     refine awp_loopS (fun n (d90 : (Sender × List Int × List Int × Int)) => hotspotlaw19_SenderTries_L3 a4 a2 n d90 = some o89) (fun d90 : (Sender × List Int × List Int × Int) => hotspotlaw19_SenderTries_S2 a2 a4 x84 d90) big (x85.1, (zarr 4096 0), (zarr 4096 0), 0) (Wk.canonD [] [] [some 0, some 11, some 12] rfl trivial rfl (tmOU 2 (tmOU 1 (tmOU 0 tmO0 rfl List.not_mem_nil (by simp only [upd_get, Nat.reduceEqDiff, reduceIte, Nat.reduceAdd, Nat.reduceMul, Nat.reduceSub, Nat.reduceLT, Nat.reduceLeDiff, if_true, if_false] <;> rfl) (e_Sender_tmx (by rfl) (Tm.clean (Clean.imm (c_Unacked _))))) rfl List.not_mem_nil (by simp only [upd_get, Nat.reduceEqDiff, reduceIte, Nat.reduceAdd, Nat.reduceMul, Nat.reduceSub, Nat.reduceLT, Nat.reduceLeDiff, if_true, if_false] <;> rfl) (TmL.of_eq (by first | rfl | (simp only [List.flatMap_append, List.flatMap_cons, List.flatMap_nil, List.map_append, List.map_cons, List.map_nil, List.append_nil, List.nil_append]; done) | (simp only [List.flatMap_append, List.flatMap_cons, List.flatMap_nil, List.map_append, List.map_cons, List.map_nil, List.append_nil, List.nil_append]; rfl)) (vi_clean _))) rfl List.not_mem_nil (by simp only [upd_get, Nat.reduceEqDiff, reduceIte, Nat.reduceAdd, Nat.reduceMul, Nat.reduceSub, Nat.reduceLT, Nat.reduceLeDiff, if_true, if_false] <;> rfl) (TmL.of_eq (by first | rfl | (simp only [List.flatMap_append, List.flatMap_cons, List.flatMap_nil, List.map_append, List.map_cons, List.map_nil, List.append_nil, List.nil_append]; done) | (simp only [List.flatMap_append, List.flatMap_cons, List.flatMap_nil, List.map_append, List.map_cons, List.map_nil, List.append_nil, List.nil_append]; rfl)) (vi_clean _))) (tmAllU 16 (tmAllU 15 (tmAllU 14 (tmAllU 12 (tmAllU 11 (tmAllU 4 (tmAllU 2 tmAll0 (Tm.v _)) (Tm.clean (Clean.imm (c_Hotspotref19_Step _)))) (Tm.v _)) (Tm.ptr rfl)) (Tm.ptr rfl)) (Tm.ptr rfl)) (Tm.v _))) hi4 ?_
     clear hi4
     rintro n d90 hl6
     rcases n with _ | n5
     ·
      (rw [hotspotlaw19_SenderTries_L3] at hl6; cases hl6)
     ·
      rw [hotspotlaw19_SenderTries_L3] at hl6
      unfold hotspotlaw19_SenderTries_S2
      refine awp_assoc ?_
      refine awp_nr [2,4,11,12,14,15,16] (fun _ => rfl) fun tz => ?_
      refine awp_regW fun KK hKK => ?_
      refine xw_id ?_
      try simp only [go_sem, Nat.reduceEqDiff, reduceIte, Nat.reduceAdd, Nat.reduceMul, Nat.reduceSub, Nat.reduceLT, Nat.reduceLeDiff, Int.reduceToNat, Int.reduceBEq, Int.reduceBNe, Int.reduceLT, Int.reduceLE, Int.reduceAdd, Int.reduceSub, Int.reduceMul, Int.reduceNeg, Int.reduceEq, Int.reduceNe]
      refine hKK _ _ (Wk.refl _ _ _) ?_; clear hKK KK
      refine awp_cond (b := (decide (d90.2.2.2 < (a4.length : Int)))) rfl (fun h7 => ?_) (fun h7 => ?_)
      ·
       have hl6 := cT hl6 h7
       refine awp_skip ?_
       obtain ⟨o92, hi8, hl6⟩ := bnd hl6
       refine awp_cut (fun d91 : (Sender × List Int × List Int) => o92 = Ex.go d91) (fun d91 : (Sender × List Int × List Int) => hotspotlaw19_SenderTries_S4 a2 a4 x84 d90 d91) ?_ ?_
       ·
        refine awp_block1 ?_
        refine awp_nr [2,4,11,12,14,15,16] (fun _ => rfl) fun tz => ?_
        refine awp_regDW fun KK hKK all hall => ?_
        refine xd_id ?_
        try simp only [List.toList_toArray, List.map_cons, List.map_nil, List.size_toArray, List.length_cons, List.length_nil, Nat.zero_add]
        try simp only [Nat.reduceAdd]
        obtain ⟨x93, bx93, hi8⟩ := bnd hi8
        obtain ⟨fx93_0, fx93_1, fx93_2, fx93_3⟩ := idx_some bx93
        obtain ⟨x94, bx94, hi8⟩ := bnd hi8
        simp only [go_sem, Nat.reduceEqDiff, reduceIte, Nat.reduceMul, Nat.reduceSub, Nat.reduceLT, Nat.reduceLeDiff, fx93_0, fx93_1, fx93_2]
        try simp only [Nat.reduceAdd]
        try simp only [go_sem, Nat.reduceEqDiff, reduceIte, Nat.reduceMul, Nat.reduceSub, Nat.reduceLT, Nat.reduceLeDiff, fx93_0, fx93_1, fx93_2]
        try simp only [Nat.reduceAdd]
        try simp only [go_sem, Nat.reduceEqDiff, reduceIte, Nat.reduceMul, Nat.reduceSub, Nat.reduceLT, Nat.reduceLeDiff, fx93_0, fx93_1, fx93_2]
        refine xcallD_p (hotspotlaw19_do_p { d90.1 with Out := (d90.1).Out } x93 bx94) ?_; try dsimp only
        try refine xd_id ?_
        simp only [go_sem, Nat.reduceEqDiff, reduceIte, Nat.reduceMul, Nat.reduceSub, Nat.reduceLT, Nat.reduceLeDiff, fx93_0, fx93_1, fx93_2]
        try simp only [Nat.reduceAdd]
        try simp only [go_sem, Nat.reduceEqDiff, reduceIte, Nat.reduceMul, Nat.reduceSub, Nat.reduceLT, Nat.reduceLeDiff, fx93_0, fx93_1, fx93_2]
        try simp only [Nat.reduceAdd]
        try simp only [go_sem, Nat.reduceEqDiff, reduceIte, Nat.reduceMul, Nat.reduceSub, Nat.reduceLT, Nat.reduceLeDiff, fx93_0, fx93_1, fx93_2]
        refine And.intro ?_ (hKK _ (hotspotlaw19_SenderTries_S5 d90 x94 a2 a4 x84) (Wk.canonD [] [] [some 0, some 1, some 2, some 17, some 18] rfl trivial rfl (tmOU 4 (tmOU 3 (tmOU 2 (tmOU 1 (tmOU 0 tmO0 rfl List.not_mem_nil (by simp only [upd_get, Nat.reduceEqDiff, reduceIte, Nat.reduceAdd, Nat.reduceMul, Nat.reduceSub, Nat.reduceLT, Nat.reduceLeDiff, if_true, if_false] <;> rfl) (e_Sender_tmx (by rfl) (Tm.clean (Clean.imm (c_Unacked _))))) rfl List.not_mem_nil (by simp only [upd_get, Nat.reduceEqDiff, reduceIte, Nat.reduceAdd, Nat.reduceMul, Nat.reduceSub, Nat.reduceLT, Nat.reduceLeDiff, if_true, if_false] <;> rfl) (TmL.of_eq (by first | rfl | (simp only [List.flatMap_append, List.flatMap_cons, List.flatMap_nil, List.map_append, List.map_cons, List.map_nil, List.append_nil, List.nil_append]; done) | (simp only [List.flatMap_append, List.flatMap_cons, List.flatMap_nil, List.map_append, List.map_cons, List.map_nil, List.append_nil, List.nil_append]; rfl)) (vi_clean _))) rfl List.not_mem_nil (by simp only [upd_get, Nat.reduceEqDiff, reduceIte, Nat.reduceAdd, Nat.reduceMul, Nat.reduceSub, Nat.reduceLT, Nat.reduceLeDiff, if_true, if_false] <;> rfl) (TmL.of_eq (by first | rfl | (simp only [List.flatMap_append, List.flatMap_cons, List.flatMap_nil, List.map_append, List.map_cons, List.map_nil, List.append_nil, List.nil_append]; done) | (simp only [List.flatMap_append, List.flatMap_cons, List.flatMap_nil, List.map_append, List.map_cons, List.map_nil, List.append_nil, List.nil_append]; rfl)) (vi_clean _))) rfl List.not_mem_nil (by simp only [upd_get, Nat.reduceEqDiff, reduceIte, Nat.reduceAdd, Nat.reduceMul, Nat.reduceSub, Nat.reduceLT, Nat.reduceLeDiff, if_true, if_false] <;> rfl) (e_Hotspotref19_Told_tmx (by rfl) (Tm.clean (Clean.imm (c_Frame _))) (Tm.clean (Clean.imm (vi_clean _))))) rfl List.not_mem_nil (by simp only [upd_get, Nat.reduceEqDiff, reduceIte, Nat.reduceAdd, Nat.reduceMul, Nat.reduceSub, Nat.reduceLT, Nat.reduceLeDiff, if_true, if_false] <;> rfl) (e_Sender_tmx (by rfl) (Tm.clean (Clean.imm (c_Unacked _))))) (tmAllU 19 (tmAllU 18 (tmAllU 17 (tmAllU 16 (tmAllU 15 (tmAllU 14 (tmAllU 12 (tmAllU 11 (tmAllU 4 (tmAllU 2 tmAll0 (Tm.v _)) (Tm.clean (Clean.imm (c_Hotspotref19_Step _)))) (Tm.v _)) (Tm.ptr rfl)) (Tm.ptr rfl)) (Tm.ptr rfl)) (Tm.v _)) (Tm.ptr rfl)) (Tm.ptr rfl)) (Tm.v _))) ?_)
        ·
         subst hall
         clear hKK KK
         first | (simp [printsOk, apartP, clash, meet]; done) | (simp [printsOk, apartP, clash, meet]; decide +kernel) | decide +kernel
        ·
         clear hKK KK hall all
         unfold hotspotlaw19_SenderTries_S5
         refine awp_assoc ?_
         refine awp_nr [2,4,11,12,14,15,16,17,18,19] (fun _ => rfl) fun tz => ?_
         refine awp_regW fun KK hKK => ?_
         refine xw_id ?_
         try simp only [go_sem, Nat.reduceEqDiff, reduceIte, Nat.reduceAdd, Nat.reduceMul, Nat.reduceSub, Nat.reduceLT, Nat.reduceLeDiff, fx93_0, fx93_1, fx93_2]
         refine hKK _ _ (Wk.refl _ _ _) ?_; clear hKK KK
         refine awp_cond (b := (x94.2.2 != 0)) rfl (fun h9 => ?_) (fun h9 => ?_)
         ·
          have hi8 := cT hi8 h9
          refine awp_exit ?_
          refine bq_e ?_
          refine sq_n ?_
          obtain rfl := someInj hi8
          exact ⟨_, rfl, (Wk.canonD [] [] [some 0, some 1, some 2] rfl trivial rfl (tmOU 2 (tmOU 1 (tmOU 0 tmO0 rfl List.not_mem_nil (by simp only [upd_get, Nat.reduceEqDiff, reduceIte, Nat.reduceAdd, Nat.reduceMul, Nat.reduceSub, Nat.reduceLT, Nat.reduceLeDiff, if_true, if_false] <;> rfl) (e_Sender_tmx (by rfl) (Tm.clean (Clean.imm (c_Unacked _))))) rfl List.not_mem_nil (by simp only [upd_get, Nat.reduceEqDiff, reduceIte, Nat.reduceAdd, Nat.reduceMul, Nat.reduceSub, Nat.reduceLT, Nat.reduceLeDiff, if_true, if_false] <;> rfl) (TmL.of_eq (by first | rfl | (simp only [List.flatMap_append, List.flatMap_cons, List.flatMap_nil, List.map_append, List.map_cons, List.map_nil, List.append_nil, List.nil_append]; done) | (simp only [List.flatMap_append, List.flatMap_cons, List.flatMap_nil, List.map_append, List.map_cons, List.map_nil, List.append_nil, List.nil_append]; rfl)) (vi_clean _))) rfl List.not_mem_nil (by simp only [upd_get, Nat.reduceEqDiff, reduceIte, Nat.reduceAdd, Nat.reduceMul, Nat.reduceSub, Nat.reduceLT, Nat.reduceLeDiff, if_true, if_false] <;> rfl) (TmL.of_eq (by first | rfl | (simp only [List.flatMap_append, List.flatMap_cons, List.flatMap_nil, List.map_append, List.map_cons, List.map_nil, List.append_nil, List.nil_append]; done) | (simp only [List.flatMap_append, List.flatMap_cons, List.flatMap_nil, List.map_append, List.map_cons, List.map_nil, List.append_nil, List.nil_append]; rfl)) (vi_clean _))) (tmAllU 16 (tmAllU 15 (tmAllU 14 (tmAllU 12 (tmAllU 11 (tmAllU 4 (tmAllU 2 tmAll0 (Tm.v _)) (Tm.clean (Clean.imm (c_Hotspotref19_Step _)))) (Tm.v _)) (Tm.ptr rfl)) (Tm.ptr rfl)) (Tm.ptr rfl)) (Tm.v _)))⟩
         ·
          have hi8 := cF hi8 h9
          refine awp_skip ?_
          refine awp_assoc ?_
          refine awp_nr [2,4,11,12,14,15,16,17,18] (fun _ => rfl) fun tz => ?_
          refine awp_regW fun KK hKK => ?_
          refine xw_id ?_
          try simp only [go_sem, Nat.reduceEqDiff, reduceIte, Nat.reduceAdd, Nat.reduceMul, Nat.reduceSub, Nat.reduceLT, Nat.reduceLeDiff, fx93_0, fx93_1, fx93_2]
          refine hKK _ _ (Wk.refl _ _ _) ?_; clear hKK KK
          obtain ⟨o96, hi10, hi8⟩ := bnd hi8
          refine awp_cut (fun d95 : (List Int × List Int) => o96 = Ex.go d95) (fun d95 : (List Int × List Int) => hotspotlaw19_SenderTries_S6 d90 x94 a2 a4 x84 d95) ?_ ?_
          ·
           refine awp_block1 ?_
           refine awp_nr [2,4,11,12,14,15,16,17,18,64] (fun _ => rfl) fun tz => ?_
           refine awp_regW fun KK hKK => ?_
           refine xw_id ?_
           try simp only [go_sem, Nat.reduceEqDiff, reduceIte, Nat.reduceAdd, Nat.reduceMul, Nat.reduceSub, Nat.reduceLT, Nat.reduceLeDiff, fx93_0, fx93_1, fx93_2]
           refine hKK _ _ (Wk.refl _ _ _) ?_; clear hKK KK
           refine awp_cond1 (b := (x93.Kind == 3)) rfl (fun h11 => ?_) (fun h11 => ?_)
           ·
            have hi10 := cT hi10 h11
            refine awp_assoc ?_
            refine awp_nr [2,4,11,12,14,15,16,17,18] (fun _ => rfl) fun tz => ?_
            refine awp_regW fun KK hKK => ?_
            refine xw_id ?_
            refine xw_stop 5 (by simp only [go_sem]; rfl) (by simp only [go_sem]; rfl) (by rfl) fun K1 hK1 => ?_
            refine xw_id ?_
            try simp only [go_sem, Nat.reduceEqDiff, reduceIte, Nat.reduceAdd, Nat.reduceMul, Nat.reduceSub, Nat.reduceLT, Nat.reduceLeDiff, Int.reduceToNat, Int.reduceBEq, Int.reduceBNe, Int.reduceLT, Int.reduceLE, Int.reduceAdd, Int.reduceSub, Int.reduceMul, Int.reduceNeg, Int.reduceEq, Int.reduceNe, fx93_0, fx93_1, fx93_2]
            refine hK1 _ ?_; clear hK1 K1
            obtain ⟨x98, hvh12, hi10⟩ := bnd hi10
            refine xw_cut 8 [(2, (vi a2)), (4, (.imm (List.flatMap E_Hotspotref19_Step a4) a4.length)), (11, (vb x84)), (12, (.ptr 0 0)), (14, (.ptr 1 0)), (15, (.ptr 2 0)), (16, (vi d90.2.2.2)), (17, (.ptr 3 0)), (18, (.ptr 4 0)), (79, (vb x98))] (by simp only [go_sem]; rfl) (by simp only [go_sem]; rfl) (by rfl) (fun K1 hK1 => ?_) fun tz => ?_
            ·
             refine xw_id ?_
             rcases Bool.eq_false_or_eq_true ((x94.1.Frames.length : Int) != 1) with h12 | h12
             ·
              have hvh12 := cT hvh12 h12
              try simp only [go_sem, Nat.reduceEqDiff, reduceIte, Nat.reduceAdd, Nat.reduceMul, Nat.reduceSub, Nat.reduceLT, Nat.reduceLeDiff, Int.reduceToNat, Int.reduceBEq, Int.reduceBNe, Int.reduceLT, Int.reduceLE, Int.reduceAdd, Int.reduceSub, Int.reduceMul, Int.reduceNeg, Int.reduceEq, Int.reduceNe, fx93_0, fx93_1, fx93_2, h12]
              obtain rfl := someInj hvh12
              exact hK1 _ ⟨rfl, rfl, rfl, rfl, rfl, rfl, rfl, rfl, rfl, rfl, (by first | rfl | (rw [h12]; rfl) | (simp only [h12, Bool.true_and, Bool.false_and, Bool.true_or, Bool.false_or, cond_true, cond_false]; done)), trivial⟩
             ·
              have hvh12 := cF hvh12 h12
              obtain ⟨x97, bx97, hvh12⟩ := bnd hvh12
              obtain ⟨fx97_0, fx97_1, fx97_2, fx97_3⟩ := idx_some bx97
              simp only [Int.reduceToNat] at fx97_2 fx97_3
              try simp only [go_sem, Nat.reduceEqDiff, reduceIte, Nat.reduceAdd, Nat.reduceMul, Nat.reduceSub, Nat.reduceLT, Nat.reduceLeDiff, Int.reduceToNat, Int.reduceBEq, Int.reduceBNe, Int.reduceLT, Int.reduceLE, Int.reduceAdd, Int.reduceSub, Int.reduceMul, Int.reduceNeg, Int.reduceEq, Int.reduceNe, fx93_0, fx93_1, fx93_2, h12, fx97_0, fx97_1, fx97_2, r_Frame_getL, r_Frame_subL, Nat.reduceDiv, Nat.reduceMod]
              obtain rfl := someInj hvh12
              exact hK1 _ ⟨rfl, rfl, rfl, rfl, rfl, rfl, rfl, rfl, rfl, rfl, (by first | rfl | (rw [h12]; rfl) | (simp only [h12, Bool.true_and, Bool.false_and, Bool.true_or, Bool.false_or, cond_true, cond_false]; done)), trivial⟩
            ·
             refine xw_id ?_
             refine xw_stop 1 (by simp only [go_sem]; rfl) (by simp only [go_sem]; rfl) (by rfl) fun K1 hK1 => ?_
             refine xw_id ?_
             try simp only [go_sem, Nat.reduceEqDiff, reduceIte, Nat.reduceAdd, Nat.reduceMul, Nat.reduceSub, Nat.reduceLT, Nat.reduceLeDiff, Int.reduceToNat, Int.reduceBEq, Int.reduceBNe, Int.reduceLT, Int.reduceLE, Int.reduceAdd, Int.reduceSub, Int.reduceMul, Int.reduceNeg, Int.reduceEq, Int.reduceNe, fx93_0, fx93_1, fx93_2]
             refine hK1 _ ?_; clear hK1 K1
             obtain ⟨x100, hvh13, hi10⟩ := bnd hi10
             refine xw_cut 8 [(2, (vi a2)), (4, (.imm (List.flatMap E_Hotspotref19_Step a4) a4.length)), (11, (vb x84)), (12, (.ptr 0 0)), (14, (.ptr 1 0)), (15, (.ptr 2 0)), (16, (vi d90.2.2.2)), (17, (.ptr 3 0)), (18, (.ptr 4 0)), (88, (vb x100))] (by simp only [go_sem]; rfl) (by simp only [go_sem]; rfl) (by rfl) (fun K1 hK1 => ?_) fun tz => ?_
             ·
              refine xw_id ?_
              rcases Bool.eq_false_or_eq_true x98 with h13 | h13
              ·
               have hvh13 := cT hvh13 h13
               try simp only [go_sem, Nat.reduceEqDiff, reduceIte, Nat.reduceAdd, Nat.reduceMul, Nat.reduceSub, Nat.reduceLT, Nat.reduceLeDiff, Int.reduceToNat, Int.reduceBEq, Int.reduceBNe, Int.reduceLT, Int.reduceLE, Int.reduceAdd, Int.reduceSub, Int.reduceMul, Int.reduceNeg, Int.reduceEq, Int.reduceNe, fx93_0, fx93_1, fx93_2, h13]
               obtain rfl := someInj hvh13
               exact hK1 _ ⟨rfl, rfl, rfl, rfl, rfl, rfl, rfl, rfl, rfl, rfl, (by first | rfl | (rw [h13]; rfl) | (simp only [h13, Bool.true_and, Bool.false_and, Bool.true_or, Bool.false_or, cond_true, cond_false]; done)), trivial⟩
              ·
               have hvh13 := cF hvh13 h13
               obtain ⟨x99, bx99, hvh13⟩ := bnd hvh13
               obtain ⟨fx99_0, fx99_1, fx99_2, fx99_3⟩ := idx_some bx99
               simp only [Int.reduceToNat] at fx99_2 fx99_3
               try simp only [go_sem, Nat.reduceEqDiff, reduceIte, Nat.reduceAdd, Nat.reduceMul, Nat.reduceSub, Nat.reduceLT, Nat.reduceLeDiff, Int.reduceToNat, Int.reduceBEq, Int.reduceBNe, Int.reduceLT, Int.reduceLE, Int.reduceAdd, Int.reduceSub, Int.reduceMul, Int.reduceNeg, Int.reduceEq, Int.reduceNe, fx93_0, fx93_1, fx93_2, h13, fx99_0, fx99_1, fx99_2, r_Frame_getL, r_Frame_subL, Nat.reduceDiv, Nat.reduceMod]
               obtain rfl := someInj hvh13
               exact hK1 _ ⟨rfl, rfl, rfl, rfl, rfl, rfl, rfl, rfl, rfl, rfl, (by first | rfl | (rw [h13]; rfl) | (simp only [h13, Bool.true_and, Bool.false_and, Bool.true_or, Bool.false_or, cond_true, cond_false]; done)), trivial⟩
             ·
              refine xw_id ?_
              try simp only [go_sem, Nat.reduceEqDiff, reduceIte, Nat.reduceAdd, Nat.reduceMul, Nat.reduceSub, Nat.reduceLT, Nat.reduceLeDiff, Int.reduceToNat, Int.reduceBEq, Int.reduceBNe, Int.reduceLT, Int.reduceLE, Int.reduceAdd, Int.reduceSub, Int.reduceMul, Int.reduceNeg, Int.reduceEq, Int.reduceNe, fx93_0, fx93_1, fx93_2]
              refine hKK _ _ (Wk.refl _ _ _) ?_; clear hKK KK
              refine awp_cond (b := x100) rfl (fun h14 => ?_) (fun h14 => ?_)
              ·
               have hi10 := cT hi10 h14
               refine awp_assoc ?_
               refine awp_nr [] (fun _ => rfl) fun tz => ?_
               refine awp_regW fun KK hKK => ?_
               refine xw_id ?_
               try simp only [go_sem, Nat.reduceEqDiff, reduceIte, Nat.reduceAdd, Nat.reduceMul, Nat.reduceSub, Nat.reduceLT, Nat.reduceLeDiff, fx93_0, fx93_1, fx93_2]
               refine hKK _ _ (Wk.refl _ _ _) ?_; clear hKK KK
               refine awp_ret ?_
               refine bq_r ?_
               refine sq_r ?_
               refine bq_r ?_
               refine sq_r ?_
               refine lq_r ?_
               refine bq_r ?_
               refine sq_r ?_
               obtain rfl := someInj hi10
               obtain rfl := Ex.kE_ret hi8
               obtain rfl := Ex.kE_ret hl6
               obtain rfl := Ex.k_ret h0
               refine endW_i ?_
               refine end_ret0 rs5 (rfl) ?_
               try simp only [go_sem, Nat.reduceEqDiff, reduceIte, Nat.reduceAdd, Nat.reduceMul, Nat.reduceSub, Nat.reduceLT, Nat.reduceLeDiff, fz, nilS, packR, List.take_nil, List.take_length, List.length_map, List.length_append, cond_true, cond_false, Nat.ble_eq, ble_self, List.map_append]
               all_goals rfl
              ·
               have hi10 := cF hi10 h14
               refine awp_skip ?_
               refine awp_nr1 [2,4,11,12,14,15,16,17,18] (fun _ => rfl) fun tz => ?_
               refine awp_reg1 fun KK hKK => ?_
               refine xw_id ?_
               obtain ⟨x101, bx101, hi10⟩ := bnd hi10
               obtain ⟨fx101_0, fx101_1, fx101_2, fx101_3⟩ := idx_some bx101
               simp only [Int.reduceToNat] at fx101_2 fx101_3
               obtain ⟨x102, bx102, hi10⟩ := bnd hi10
               obtain ⟨fx102_0, fx102_1, fx102_2, fx102_3⟩ := idxA_some bx102
               have gs15 : ((x101.Head.Seq).toNat + 1 ≤ d90.2.1.length) = True := eq_true (by (try simp only [List.length_modify, List.length_set]); omega)
               have gm16 : (d90.2.1.set ((x101.Head.Seq).toNat) 0)[(x101.Head.Seq).toNat]? = some 0 := getSet _ fx102_2
               try simp only [go_sem, Nat.reduceEqDiff, reduceIte, Nat.reduceAdd, Nat.reduceMul, Nat.reduceSub, Nat.reduceLT, Nat.reduceLeDiff, Int.reduceToNat, Int.reduceBEq, Int.reduceBNe, Int.reduceLT, Int.reduceLE, Int.reduceAdd, Int.reduceSub, Int.reduceMul, Int.reduceNeg, Int.reduceEq, Int.reduceNe, fx93_0, fx93_1, fx93_2, fx101_0, fx101_1, fx101_2, r_Frame_getL, r_Frame_subL, Nat.reduceDiv, Nat.reduceMod, fx102_0, fx102_1, fx102_2, gs15, gm16]
               refine hKK _ ?_; clear hKK KK
               refine bq_n ?_
               refine sq_n ?_
               obtain rfl := someInj hi10
               exact ⟨_, rfl, (Wk.canonD [] [] [some 0, some 1, some 2, some 4] rfl trivial rfl (tmOU 3 (tmOU 2 (tmOU 1 (tmOU 0 tmO0 rfl List.not_mem_nil (by simp only [upd_get, Nat.reduceEqDiff, reduceIte, Nat.reduceAdd, Nat.reduceMul, Nat.reduceSub, Nat.reduceLT, Nat.reduceLeDiff, if_true, if_false] <;> rfl) (e_Sender_tmx (by rfl) (Tm.clean (Clean.imm (c_Unacked _))))) rfl List.not_mem_nil (by simp only [upd_get, Nat.reduceEqDiff, reduceIte, Nat.reduceAdd, Nat.reduceMul, Nat.reduceSub, Nat.reduceLT, Nat.reduceLeDiff, if_true, if_false] <;> rfl) (TmL.of_eq (by first | rfl | (simp only [List.flatMap_append, List.flatMap_cons, List.flatMap_nil, List.map_append, List.map_cons, List.map_nil, List.append_nil, List.nil_append]; done) | (simp only [List.flatMap_append, List.flatMap_cons, List.flatMap_nil, List.map_append, List.map_cons, List.map_nil, List.append_nil, List.nil_append]; rfl)) (vi_clean _))) rfl List.not_mem_nil (by simp only [upd_get, Nat.reduceEqDiff, reduceIte, Nat.reduceAdd, Nat.reduceMul, Nat.reduceSub, Nat.reduceLT, Nat.reduceLeDiff, if_true, if_false] <;> rfl) (TmL.of_eq (by first | rfl | (simp only [List.flatMap_append, List.flatMap_cons, List.flatMap_nil, List.map_append, List.map_cons, List.map_nil, List.append_nil, List.nil_append]; done) | (simp only [List.flatMap_append, List.flatMap_cons, List.flatMap_nil, List.map_append, List.map_cons, List.map_nil, List.append_nil, List.nil_append]; rfl)) (vi_clean _))) rfl List.not_mem_nil (by simp only [upd_get, Nat.reduceEqDiff, reduceIte, Nat.reduceAdd, Nat.reduceMul, Nat.reduceSub, Nat.reduceLT, Nat.reduceLeDiff, if_true, if_false] <;> rfl) (e_Sender_tmx (by rfl) (Tm.clean (Clean.imm (c_Unacked _))))) (tmAllU 18 (tmAllU 16 (tmAllU 15 (tmAllU 14 (tmAllU 12 (tmAllU 11 (tmAllU 4 (tmAllU 2 tmAll0 (Tm.v _)) (Tm.clean (Clean.imm (c_Hotspotref19_Step _)))) (Tm.v _)) (Tm.ptr rfl)) (Tm.ptr rfl)) (Tm.ptr rfl)) (Tm.v _)) (Tm.ptr rfl)))⟩
           ·
            have hi10 := cF hi10 h11
            refine awp_assoc ?_
            refine awp_nr [2,4,11,12,14,15,16,17,18,64] (fun _ => rfl) fun tz => ?_
            refine awp_regW fun KK hKK => ?_
            refine xw_id ?_
            try simp only [go_sem, Nat.reduceEqDiff, reduceIte, Nat.reduceAdd, Nat.reduceMul, Nat.reduceSub, Nat.reduceLT, Nat.reduceLeDiff, fx93_0, fx93_1, fx93_2]
            refine hKK _ _ (Wk.refl _ _ _) ?_; clear hKK KK
            obtain ⟨d103, hi17, hi10⟩ := bnd hi10
            refine awp_cut (fun z => d103 = z) (fun d103 : Bool => hotspotlaw19_SenderTries_S7 d90 x94 a2 a4 x84 x93 d103) ?_ ?_
            ·
             refine awp_cond1 (b := (x93.Kind == 5)) rfl (fun h18 => ?_) (fun h18 => ?_)
             ·
              have hi17 := cT hi17 h18
              refine awp_skip1 ?_
              refine sq_n ?_
              obtain rfl := someInj hi17
              exact ⟨_, rfl, (Wk.canonD [] [] [some 0, some 1, some 2, some 3, some 4] rfl trivial rfl (tmOU 4 (tmOU 3 (tmOU 2 (tmOU 1 (tmOU 0 tmO0 rfl List.not_mem_nil (by simp only [upd_get, Nat.reduceEqDiff, reduceIte, Nat.reduceAdd, Nat.reduceMul, Nat.reduceSub, Nat.reduceLT, Nat.reduceLeDiff, if_true, if_false] <;> rfl) (e_Sender_tmx (by rfl) (Tm.clean (Clean.imm (c_Unacked _))))) rfl List.not_mem_nil (by simp only [upd_get, Nat.reduceEqDiff, reduceIte, Nat.reduceAdd, Nat.reduceMul, Nat.reduceSub, Nat.reduceLT, Nat.reduceLeDiff, if_true, if_false] <;> rfl) (TmL.of_eq (by first | rfl | (simp only [List.flatMap_append, List.flatMap_cons, List.flatMap_nil, List.map_append, List.map_cons, List.map_nil, List.append_nil, List.nil_append]; done) | (simp only [List.flatMap_append, List.flatMap_cons, List.flatMap_nil, List.map_append, List.map_cons, List.map_nil, List.append_nil, List.nil_append]; rfl)) (vi_clean _))) rfl List.not_mem_nil (by simp only [upd_get, Nat.reduceEqDiff, reduceIte, Nat.reduceAdd, Nat.reduceMul, Nat.reduceSub, Nat.reduceLT, Nat.reduceLeDiff, if_true, if_false] <;> rfl) (TmL.of_eq (by first | rfl | (simp only [List.flatMap_append, List.flatMap_cons, List.flatMap_nil, List.map_append, List.map_cons, List.map_nil, List.append_nil, List.nil_append]; done) | (simp only [List.flatMap_append, List.flatMap_cons, List.flatMap_nil, List.map_append, List.map_cons, List.map_nil, List.append_nil, List.nil_append]; rfl)) (vi_clean _))) rfl List.not_mem_nil (by simp only [upd_get, Nat.reduceEqDiff, reduceIte, Nat.reduceAdd, Nat.reduceMul, Nat.reduceSub, Nat.reduceLT, Nat.reduceLeDiff, if_true, if_false] <;> rfl) (e_Hotspotref19_Told_tmx (by rfl) (Tm.clean (Clean.imm (c_Frame _))) (Tm.clean (Clean.imm (vi_clean _))))) rfl List.not_mem_nil (by simp only [upd_get, Nat.reduceEqDiff, reduceIte, Nat.reduceAdd, Nat.reduceMul, Nat.reduceSub, Nat.reduceLT, Nat.reduceLeDiff, if_true, if_false] <;> rfl) (e_Sender_tmx (by rfl) (Tm.clean (Clean.imm (c_Unacked _))))) (tmAllU 96 (tmAllU 64 (tmAllU 18 (tmAllU 17 (tmAllU 16 (tmAllU 15 (tmAllU 14 (tmAllU 12 (tmAllU 11 (tmAllU 4 (tmAllU 2 tmAll0 (Tm.v _)) (Tm.clean (Clean.imm (c_Hotspotref19_Step _)))) (Tm.v _)) (Tm.ptr rfl)) (Tm.ptr rfl)) (Tm.ptr rfl)) (Tm.v _)) (Tm.ptr rfl)) (Tm.ptr rfl)) (Tm.v _)) (Tm.v _)))⟩
             ·
              have hi17 := cF hi17 h18
              refine awp_nr [2,4,11,12,14,15,16,17,18,64] (fun _ => rfl) fun tz => ?_
              refine awp_regW fun KK hKK => ?_
              refine xw_id ?_
              try simp only [go_sem, Nat.reduceEqDiff, reduceIte, Nat.reduceAdd, Nat.reduceMul, Nat.reduceSub, Nat.reduceLT, Nat.reduceLeDiff, fx93_0, fx93_1, fx93_2]
              refine hKK _ _ (Wk.refl _ _ _) ?_; clear hKK KK
              refine awp_cond1 (b := (x93.Kind == 6)) rfl (fun h19 => ?_) (fun h19 => ?_)
              ·
               have hi17 := cT hi17 h19
               refine awp_skip1 ?_
               refine sq_n ?_
               obtain rfl := someInj hi17
               exact ⟨_, rfl, (Wk.canonD [] [] [some 0, some 1, some 2, some 3, some 4] rfl trivial rfl (tmOU 4 (tmOU 3 (tmOU 2 (tmOU 1 (tmOU 0 tmO0 rfl List.not_mem_nil (by simp only [upd_get, Nat.reduceEqDiff, reduceIte, Nat.reduceAdd, Nat.reduceMul, Nat.reduceSub, Nat.reduceLT, Nat.reduceLeDiff, if_true, if_false] <;> rfl) (e_Sender_tmx (by rfl) (Tm.clean (Clean.imm (c_Unacked _))))) rfl List.not_mem_nil (by simp only [upd_get, Nat.reduceEqDiff, reduceIte, Nat.reduceAdd, Nat.reduceMul, Nat.reduceSub, Nat.reduceLT, Nat.reduceLeDiff, if_true, if_false] <;> rfl) (TmL.of_eq (by first | rfl | (simp only [List.flatMap_append, List.flatMap_cons, List.flatMap_nil, List.map_append, List.map_cons, List.map_nil, List.append_nil, List.nil_append]; done) | (simp only [List.flatMap_append, List.flatMap_cons, List.flatMap_nil, List.map_append, List.map_cons, List.map_nil, List.append_nil, List.nil_append]; rfl)) (vi_clean _))) rfl List.not_mem_nil (by simp only [upd_get, Nat.reduceEqDiff, reduceIte, Nat.reduceAdd, Nat.reduceMul, Nat.reduceSub, Nat.reduceLT, Nat.reduceLeDiff, if_true, if_false] <;> rfl) (TmL.of_eq (by first | rfl | (simp only [List.flatMap_append, List.flatMap_cons, List.flatMap_nil, List.map_append, List.map_cons, List.map_nil, List.append_nil, List.nil_append]; done) | (simp only [List.flatMap_append, List.flatMap_cons, List.flatMap_nil, List.map_append, List.map_cons, List.map_nil, List.append_nil, List.nil_append]; rfl)) (vi_clean _))) rfl List.not_mem_nil (by simp only [upd_get, Nat.reduceEqDiff, reduceIte, Nat.reduceAdd, Nat.reduceMul, Nat.reduceSub, Nat.reduceLT, Nat.reduceLeDiff, if_true, if_false] <;> rfl) (e_Hotspotref19_Told_tmx (by rfl) (Tm.clean (Clean.imm (c_Frame _))) (Tm.clean (Clean.imm (vi_clean _))))) rfl List.not_mem_nil (by simp only [upd_get, Nat.reduceEqDiff, reduceIte, Nat.reduceAdd, Nat.reduceMul, Nat.reduceSub, Nat.reduceLT, Nat.reduceLeDiff, if_true, if_false] <;> rfl) (e_Sender_tmx (by rfl) (Tm.clean (Clean.imm (c_Unacked _))))) (tmAllU 96 (tmAllU 64 (tmAllU 18 (tmAllU 17 (tmAllU 16 (tmAllU 15 (tmAllU 14 (tmAllU 12 (tmAllU 11 (tmAllU 4 (tmAllU 2 tmAll0 (Tm.v _)) (Tm.clean (Clean.imm (c_Hotspotref19_Step _)))) (Tm.v _)) (Tm.ptr rfl)) (Tm.ptr rfl)) (Tm.ptr rfl)) (Tm.v _)) (Tm.ptr rfl)) (Tm.ptr rfl)) (Tm.v _)) (Tm.v _)))⟩
              ·
               have hi17 := cF hi17 h19
               refine awp_nr1 [2,4,11,12,14,15,16,17,18,64] (fun _ => rfl) fun tz => ?_
               refine awp_reg1 fun KK hKK => ?_
               refine xw_id ?_
               try simp only [go_sem, Nat.reduceEqDiff, reduceIte, Nat.reduceAdd, Nat.reduceMul, Nat.reduceSub, Nat.reduceLT, Nat.reduceLeDiff, fx93_0, fx93_1, fx93_2]
               refine hKK _ ?_; clear hKK KK
               refine sq_n ?_
               obtain rfl := someInj hi17
               exact ⟨_, rfl, (Wk.canonD [] [] [some 0, some 1, some 2, some 3, some 4] rfl trivial rfl (tmOU 4 (tmOU 3 (tmOU 2 (tmOU 1 (tmOU 0 tmO0 rfl List.not_mem_nil (by simp only [upd_get, Nat.reduceEqDiff, reduceIte, Nat.reduceAdd, Nat.reduceMul, Nat.reduceSub, Nat.reduceLT, Nat.reduceLeDiff, if_true, if_false] <;> rfl) (e_Sender_tmx (by rfl) (Tm.clean (Clean.imm (c_Unacked _))))) rfl List.not_mem_nil (by simp only [upd_get, Nat.reduceEqDiff, reduceIte, Nat.reduceAdd, Nat.reduceMul, Nat.reduceSub, Nat.reduceLT, Nat.reduceLeDiff, if_true, if_false] <;> rfl) (TmL.of_eq (by first | rfl | (simp only [List.flatMap_append, List.flatMap_cons, List.flatMap_nil, List.map_append, List.map_cons, List.map_nil, List.append_nil, List.nil_append]; done) | (simp only [List.flatMap_append, List.flatMap_cons, List.flatMap_nil, List.map_append, List.map_cons, List.map_nil, List.append_nil, List.nil_append]; rfl)) (vi_clean _))) rfl List.not_mem_nil (by simp only [upd_get, Nat.reduceEqDiff, reduceIte, Nat.reduceAdd, Nat.reduceMul, Nat.reduceSub, Nat.reduceLT, Nat.reduceLeDiff, if_true, if_false] <;> rfl) (TmL.of_eq (by first | rfl | (simp only [List.flatMap_append, List.flatMap_cons, List.flatMap_nil, List.map_append, List.map_cons, List.map_nil, List.append_nil, List.nil_append]; done) | (simp only [List.flatMap_append, List.flatMap_cons, List.flatMap_nil, List.map_append, List.map_cons, List.map_nil, List.append_nil, List.nil_append]; rfl)) (vi_clean _))) rfl List.not_mem_nil (by simp only [upd_get, Nat.reduceEqDiff, reduceIte, Nat.reduceAdd, Nat.reduceMul, Nat.reduceSub, Nat.reduceLT, Nat.reduceLeDiff, if_true, if_false] <;> rfl) (e_Hotspotref19_Told_tmx (by rfl) (Tm.clean (Clean.imm (c_Frame _))) (Tm.clean (Clean.imm (vi_clean _))))) rfl List.not_mem_nil (by simp only [upd_get, Nat.reduceEqDiff, reduceIte, Nat.reduceAdd, Nat.reduceMul, Nat.reduceSub, Nat.reduceLT, Nat.reduceLeDiff, if_true, if_false] <;> rfl) (e_Sender_tmx (by rfl) (Tm.clean (Clean.imm (c_Unacked _))))) (tmAllU 96 (tmAllU 64 (tmAllU 18 (tmAllU 17 (tmAllU 16 (tmAllU 15 (tmAllU 14 (tmAllU 12 (tmAllU 11 (tmAllU 4 (tmAllU 2 tmAll0 (Tm.v _)) (Tm.clean (Clean.imm (c_Hotspotref19_Step _)))) (Tm.v _)) (Tm.ptr rfl)) (Tm.ptr rfl)) (Tm.ptr rfl)) (Tm.v _)) (Tm.ptr rfl)) (Tm.ptr rfl)) (Tm.v _)) (Tm.v _)))⟩
            ·
             rintro _ rfl
             clear hi17
             unfold hotspotlaw19_SenderTries_S7
             refine awp_cond1 (b := d103) rfl (fun h20 => ?_) (fun h20 => ?_)
             ·
              have hi10 := cT hi10 h20
              refine awp_nr1 [2,4,11,12,14,15,16,18] (fun _ => rfl) fun tz => ?_
              refine awp_reg1 fun KK hKK => ?_
              refine xw_id ?_
              obtain ⟨x104, bx104, hi10⟩ := bnd hi10
              have bx104 := chk_some bx104
              simp only [Bool.and_eq_true, decide_eq_true_eq] at bx104
              have gx104_0 := bx104
              have gs21 : putAt (List.map vi d90.2.2.1) 0 (List.map vi (zarr 4096 0)) = (List.map vi (zarr 4096 0)) := putAt_allL (by simp only [List.length_map, List.length_replicate, zarr_len]; omega)
              have gs21l : (4096 ≤ d90.2.2.1.length) = True := eq_true (by omega)
              try simp only [go_sem, Nat.reduceEqDiff, reduceIte, Nat.reduceAdd, Nat.reduceMul, Nat.reduceSub, Nat.reduceLT, Nat.reduceLeDiff, ↓xo_buildA ze65 bl65 ar65 sz3, gx104_0, gs21, gs21l, List.length_replicate, zarr_len]
              refine hKK _ ?_; clear hKK KK
              refine bq_n ?_
              refine sq_n ?_
              obtain rfl := someInj hi10
              exact ⟨_, rfl, (Wk.canonD [] [] [some 0, some 1, some 2, some 4] rfl trivial rfl (tmOU 3 (tmOU 2 (tmOU 1 (tmOU 0 tmO0 rfl List.not_mem_nil (by simp only [upd_get, Nat.reduceEqDiff, reduceIte, Nat.reduceAdd, Nat.reduceMul, Nat.reduceSub, Nat.reduceLT, Nat.reduceLeDiff, if_true, if_false] <;> rfl) (e_Sender_tmx (by rfl) (Tm.clean (Clean.imm (c_Unacked _))))) rfl List.not_mem_nil (by simp only [upd_get, Nat.reduceEqDiff, reduceIte, Nat.reduceAdd, Nat.reduceMul, Nat.reduceSub, Nat.reduceLT, Nat.reduceLeDiff, if_true, if_false] <;> rfl) (TmL.of_eq (by first | rfl | (simp only [List.flatMap_append, List.flatMap_cons, List.flatMap_nil, List.map_append, List.map_cons, List.map_nil, List.append_nil, List.nil_append]; done) | (simp only [List.flatMap_append, List.flatMap_cons, List.flatMap_nil, List.map_append, List.map_cons, List.map_nil, List.append_nil, List.nil_append]; rfl)) (vi_clean _))) rfl List.not_mem_nil (by simp only [upd_get, Nat.reduceEqDiff, reduceIte, Nat.reduceAdd, Nat.reduceMul, Nat.reduceSub, Nat.reduceLT, Nat.reduceLeDiff, if_true, if_false] <;> rfl) (TmL.of_eq (by first | rfl | (simp only [List.flatMap_append, List.flatMap_cons, List.flatMap_nil, List.map_append, List.map_cons, List.map_nil, List.append_nil, List.nil_append]; done) | (simp only [List.flatMap_append, List.flatMap_cons, List.flatMap_nil, List.map_append, List.map_cons, List.map_nil, List.append_nil, List.nil_append]; rfl)) (vi_clean _))) rfl List.not_mem_nil (by simp only [upd_get, Nat.reduceEqDiff, reduceIte, Nat.reduceAdd, Nat.reduceMul, Nat.reduceSub, Nat.reduceLT, Nat.reduceLeDiff, if_true, if_false] <;> rfl) (e_Sender_tmx (by rfl) (Tm.clean (Clean.imm (c_Unacked _))))) (tmAllU 18 (tmAllU 16 (tmAllU 15 (tmAllU 14 (tmAllU 12 (tmAllU 11 (tmAllU 4 (tmAllU 2 tmAll0 (Tm.v _)) (Tm.clean (Clean.imm (c_Hotspotref19_Step _)))) (Tm.v _)) (Tm.ptr rfl)) (Tm.ptr rfl)) (Tm.ptr rfl)) (Tm.v _)) (Tm.ptr rfl)))⟩
             ·
              have hi10 := cF hi10 h20
              refine awp_nr [2,4,11,12,14,15,16,17,18,64] (fun _ => rfl) fun tz => ?_
              refine awp_regW fun KK hKK => ?_
              refine xw_id ?_
              try simp only [go_sem, Nat.reduceEqDiff, reduceIte, Nat.reduceAdd, Nat.reduceMul, Nat.reduceSub, Nat.reduceLT, Nat.reduceLeDiff]
              refine hKK _ _ (Wk.refl _ _ _) ?_; clear hKK KK
              refine awp_cond1 (b := (x93.Kind == 4)) rfl (fun h22 => ?_) (fun h22 => ?_)
              ·
               have hi10 := cT hi10 h22
               refine awp_nr [2,4,11,12,14,15,16,17,18] (fun _ => rfl) fun tz => ?_
               refine awp_regW fun KK hKK => ?_
               refine xw_id ?_
               try simp only [go_sem, Nat.reduceEqDiff, reduceIte, Nat.reduceAdd, Nat.reduceMul, Nat.reduceSub, Nat.reduceLT, Nat.reduceLeDiff]
               refine hKK _ _ (Wk.refl _ _ _) ?_; clear hKK KK
               obtain ⟨o106, hi23, hi10⟩ := bnd hi10
               refine awp_cutQ (fun d105 : (List Int × List Int) => o106 = Ex.go d105) (fun d105 : (List Int × List Int) => hotspotlaw19_SenderTries_S8 d90 x94 a2 a4 x84 d105) (clQ_blk clQ_cut) ?_ ?_
               ·
                refine awp_block1 ?_
                refine awp_loopS (fun n (d107 : (List Int × List Int × Int)) => hotspotlaw19_SenderTries_L10 x94 a2 n d107 = some o106) (fun d107 : (List Int × List Int × Int) => hotspotlaw19_SenderTries_S9 d90 x94 a2 a4 x84 d107) big (d90.2.1, d90.2.2.1, 0) (Wk.canonD [] [] [some 0, some 1, some 2, some 3, some 4] rfl trivial rfl (tmOU 4 (tmOU 3 (tmOU 2 (tmOU 1 (tmOU 0 tmO0 rfl List.not_mem_nil (by simp only [upd_get, Nat.reduceEqDiff, reduceIte, Nat.reduceAdd, Nat.reduceMul, Nat.reduceSub, Nat.reduceLT, Nat.reduceLeDiff, if_true, if_false] <;> rfl) (e_Sender_tmx (by rfl) (Tm.clean (Clean.imm (c_Unacked _))))) rfl List.not_mem_nil (by simp only [upd_get, Nat.reduceEqDiff, reduceIte, Nat.reduceAdd, Nat.reduceMul, Nat.reduceSub, Nat.reduceLT, Nat.reduceLeDiff, if_true, if_false] <;> rfl) (TmL.of_eq (by first | rfl | (simp only [List.flatMap_append, List.flatMap_cons, List.flatMap_nil, List.map_append, List.map_cons, List.map_nil, List.append_nil, List.nil_append]; done) | (simp only [List.flatMap_append, List.flatMap_cons, List.flatMap_nil, List.map_append, List.map_cons, List.map_nil, List.append_nil, List.nil_append]; rfl)) (vi_clean _))) rfl List.not_mem_nil (by simp only [upd_get, Nat.reduceEqDiff, reduceIte, Nat.reduceAdd, Nat.reduceMul, Nat.reduceSub, Nat.reduceLT, Nat.reduceLeDiff, if_true, if_false] <;> rfl) (TmL.of_eq (by first | rfl | (simp only [List.flatMap_append, List.flatMap_cons, List.flatMap_nil, List.map_append, List.map_cons, List.map_nil, List.append_nil, List.nil_append]; done) | (simp only [List.flatMap_append, List.flatMap_cons, List.flatMap_nil, List.map_append, List.map_cons, List.map_nil, List.append_nil, List.nil_append]; rfl)) (vi_clean _))) rfl List.not_mem_nil (by simp only [upd_get, Nat.reduceEqDiff, reduceIte, Nat.reduceAdd, Nat.reduceMul, Nat.reduceSub, Nat.reduceLT, Nat.reduceLeDiff, if_true, if_false] <;> rfl) (e_Hotspotref19_Told_tmx (by rfl) (Tm.clean (Clean.imm (c_Frame _))) (Tm.clean (Clean.imm (vi_clean _))))) rfl List.not_mem_nil (by simp only [upd_get, Nat.reduceEqDiff, reduceIte, Nat.reduceAdd, Nat.reduceMul, Nat.reduceSub, Nat.reduceLT, Nat.reduceLeDiff, if_true, if_false] <;> rfl) (e_Sender_tmx (by rfl) (Tm.clean (Clean.imm (c_Unacked _))))) (tmAllU 20 (tmAllU 18 (tmAllU 17 (tmAllU 16 (tmAllU 15 (tmAllU 14 (tmAllU 12 (tmAllU 11 (tmAllU 4 (tmAllU 2 tmAll0 (Tm.v _)) (Tm.clean (Clean.imm (c_Hotspotref19_Step _)))) (Tm.v _)) (Tm.ptr rfl)) (Tm.ptr rfl)) (Tm.ptr rfl)) (Tm.v _)) (Tm.ptr rfl)) (Tm.ptr rfl)) (Tm.v _))) hi23 ?_
                clear hi23
                rintro n d107 hl25
                rcases n with _ | n24
                ·
                 (rw [hotspotlaw19_SenderTries_L10] at hl25; cases hl25)
                ·
                 rw [hotspotlaw19_SenderTries_L10] at hl25
                 unfold hotspotlaw19_SenderTries_S9
                 refine awp_assoc ?_
                 refine awp_nr [2,4,11,12,14,15,16,17,18,20] (fun _ => rfl) fun tz => ?_
                 refine awp_regW fun KK hKK => ?_
                 refine xw_id ?_
                 try simp only [go_sem, Nat.reduceEqDiff, reduceIte, Nat.reduceAdd, Nat.reduceMul, Nat.reduceSub, Nat.reduceLT, Nat.reduceLeDiff, Int.reduceToNat, Int.reduceBEq, Int.reduceBNe, Int.reduceLT, Int.reduceLE, Int.reduceAdd, Int.reduceSub, Int.reduceMul, Int.reduceNeg, Int.reduceEq, Int.reduceNe]
                 refine hKK _ _ (Wk.refl _ _ _) ?_; clear hKK KK
                 refine awp_cond (b := (decide (d107.2.2 < (x94.1.Frames.length : Int)))) rfl (fun h26 => ?_) (fun h26 => ?_)
                 ·
                  have hl25 := cT hl25 h26
                  refine awp_skip ?_
                  refine awp_blockW ?_
                  refine awp_nr [2,4,11,12,14,15,16,17,18,20] (fun _ => rfl) fun tz => ?_
                  refine awp_regW fun KK hKK => ?_
                  refine xw_id ?_
                  obtain ⟨x108, bx108, hl25⟩ := bnd hl25
                  obtain ⟨fx108_0, fx108_1, fx108_2, fx108_3⟩ := idx_some bx108
                  try simp only [go_sem, Nat.reduceEqDiff, reduceIte, Nat.reduceAdd, Nat.reduceMul, Nat.reduceSub, Nat.reduceLT, Nat.reduceLeDiff, fx108_0, fx108_1, fx108_2]
                  refine hKK _ _ (Wk.refl _ _ _) ?_; clear hKK KK
                  refine awp_assoc ?_
                  refine awp_nr [2,4,11,12,14,15,16,17,18,20,21] (fun _ => rfl) fun tz => ?_
                  refine awp_regW fun KK hKK => ?_
                  refine xw_id ?_
                  refine xw_stop 3 (by simp only [go_sem]; rfl) (by simp only [go_sem]; rfl) (by rfl) fun K1 hK1 => ?_
                  refine xw_id ?_
                  try simp only [go_sem, Nat.reduceEqDiff, reduceIte, Nat.reduceAdd, Nat.reduceMul, Nat.reduceSub, Nat.reduceLT, Nat.reduceLeDiff, fx108_0, fx108_1, fx108_2]
                  refine hK1 _ ?_; clear hK1 K1
                  refine xw_cut 3 [(2, (vi a2)), (4, (.imm (List.flatMap E_Hotspotref19_Step a4) a4.length)), (11, (vb x84)), (12, (.ptr 0 0)), (14, (.ptr 1 0)), (15, (.ptr 2 0)), (16, (vi d90.2.2.2)), (17, (.ptr 3 0)), (18, (.ptr 4 0)), (20, (vi d107.2.2)), (21, (vi x108.Head.Seq)), (122, (vb ((decide (x108.Head.Seq < 0)) || (decide (4095 < x108.Head.Seq)))))] (by simp only [go_sem]; rfl) (by simp only [go_sem]; rfl) (by rfl) (fun K1 hK1 => ?_) fun tz => ?_
                  ·
                   refine xw_id ?_
                   rcases Bool.eq_false_or_eq_true (decide (x108.Head.Seq < 0)) with h27 | h27
                   ·
                    try simp only [go_sem, Nat.reduceEqDiff, reduceIte, Nat.reduceAdd, Nat.reduceMul, Nat.reduceSub, Nat.reduceLT, Nat.reduceLeDiff, fx108_0, fx108_1, fx108_2, h27]
                    exact hK1 _ ⟨rfl, rfl, rfl, rfl, rfl, rfl, rfl, rfl, rfl, rfl, rfl, rfl, (by first | rfl | (rw [h27]; rfl) | (simp only [h27, Bool.true_and, Bool.false_and, Bool.true_or, Bool.false_or, cond_true, cond_false]; done)), trivial⟩
                   ·
                    try simp only [go_sem, Nat.reduceEqDiff, reduceIte, Nat.reduceAdd, Nat.reduceMul, Nat.reduceSub, Nat.reduceLT, Nat.reduceLeDiff, fx108_0, fx108_1, fx108_2, h27]
                    exact hK1 _ ⟨rfl, rfl, rfl, rfl, rfl, rfl, rfl, rfl, rfl, rfl, rfl, rfl, (by first | rfl | (rw [h27]; rfl) | (simp only [h27, Bool.true_and, Bool.false_and, Bool.true_or, Bool.false_or, cond_true, cond_false]; done)), trivial⟩
                  ·
                   refine xw_id ?_
                   refine xw_stop 1 (by simp only [go_sem]; rfl) (by simp only [go_sem]; rfl) (by rfl) fun K1 hK1 => ?_
                   refine xw_id ?_
                   try simp only [go_sem, Nat.reduceEqDiff, reduceIte, Nat.reduceAdd, Nat.reduceMul, Nat.reduceSub, Nat.reduceLT, Nat.reduceLeDiff, fx108_0, fx108_1, fx108_2]
                   refine hK1 _ ?_; clear hK1 K1
                   obtain ⟨x110, hvh28, hl25⟩ := bnd hl25
                   refine xw_cut 13 [(2, (vi a2)), (4, (.imm (List.flatMap E_Hotspotref19_Step a4) a4.length)), (11, (vb x84)), (12, (.ptr 0 0)), (14, (.ptr 1 0)), (15, (.ptr 2 0)), (16, (vi d90.2.2.2)), (17, (.ptr 3 0)), (18, (.ptr 4 0)), (20, (vi d107.2.2)), (21, (vi x108.Head.Seq)), (136, (vb x110))] (by simp only [go_sem]; rfl) (by simp only [go_sem]; rfl) (by rfl) (fun K1 hK1 => ?_) fun tz => ?_
                   ·
                    refine xw_id ?_
                    rcases Bool.eq_false_or_eq_true ((decide (x108.Head.Seq < 0)) || (decide (4095 < x108.Head.Seq))) with h28 | h28
                    ·
                     have hvh28 := cT hvh28 h28
                     try simp only [go_sem, Nat.reduceEqDiff, reduceIte, Nat.reduceAdd, Nat.reduceMul, Nat.reduceSub, Nat.reduceLT, Nat.reduceLeDiff, fx108_0, fx108_1, fx108_2, h28]
                     obtain rfl := someInj hvh28
                     exact hK1 _ ⟨rfl, rfl, rfl, rfl, rfl, rfl, rfl, rfl, rfl, rfl, rfl, rfl, (by first | rfl | (rw [h28]; rfl) | (simp only [h28, Bool.true_and, Bool.false_and, Bool.true_or, Bool.false_or, cond_true, cond_false]; done)), trivial⟩
                    ·
                     have hvh28 := cF hvh28 h28
                     obtain ⟨x109, bx109, hvh28⟩ := bnd hvh28
                     obtain ⟨fx109_0, fx109_1, fx109_2, fx109_3⟩ := idxA_some bx109
                     try simp only [go_sem, Nat.reduceEqDiff, reduceIte, Nat.reduceAdd, Nat.reduceMul, Nat.reduceSub, Nat.reduceLT, Nat.reduceLeDiff, fx108_0, fx108_1, fx108_2, h28, fx109_0, fx109_1, fx109_2]
                     obtain rfl := someInj hvh28
                     exact hK1 _ ⟨rfl, rfl, rfl, rfl, rfl, rfl, rfl, rfl, rfl, rfl, rfl, rfl, (by first | rfl | (rw [h28]; rfl) | (simp only [h28, Bool.true_and, Bool.false_and, Bool.true_or, Bool.false_or, cond_true, cond_false]; done)), trivial⟩
                   ·
                    refine xw_id ?_
                    refine xw_stop 1 (by simp only [go_sem]; rfl) (by simp only [go_sem]; rfl) (by rfl) fun K1 hK1 => ?_
                    refine xw_id ?_
                    try simp only [go_sem, Nat.reduceEqDiff, reduceIte, Nat.reduceAdd, Nat.reduceMul, Nat.reduceSub, Nat.reduceLT, Nat.reduceLeDiff, fx108_0, fx108_1, fx108_2]
                    refine hK1 _ ?_; clear hK1 K1
                    obtain ⟨x112, hvh29, hl25⟩ := bnd hl25
                    refine xw_cut 5 [(2, (vi a2)), (4, (.imm (List.flatMap E_Hotspotref19_Step a4) a4.length)), (11, (vb x84)), (12, (.ptr 0 0)), (14, (.ptr 1 0)), (15, (.ptr 2 0)), (16, (vi d90.2.2.2)), (17, (.ptr 3 0)), (18, (.ptr 4 0)), (20, (vi d107.2.2)), (21, (vi x108.Head.Seq)), (142, (vb x112))] (by simp only [go_sem]; rfl) (by simp only [go_sem]; rfl) (by rfl) (fun K1 hK1 => ?_) fun tz => ?_
                    ·
                     refine xw_id ?_
                     rcases Bool.eq_false_or_eq_true x110 with h29 | h29
                     ·
                      have hvh29 := cT hvh29 h29
                      try simp only [go_sem, Nat.reduceEqDiff, reduceIte, Nat.reduceAdd, Nat.reduceMul, Nat.reduceSub, Nat.reduceLT, Nat.reduceLeDiff, fx108_0, fx108_1, fx108_2, h29]
                      obtain rfl := someInj hvh29
                      exact hK1 _ ⟨rfl, rfl, rfl, rfl, rfl, rfl, rfl, rfl, rfl, rfl, rfl, rfl, (by first | rfl | (rw [h29]; rfl) | (simp only [h29, Bool.true_and, Bool.false_and, Bool.true_or, Bool.false_or, cond_true, cond_false]; done)), trivial⟩
                     ·
                      have hvh29 := cF hvh29 h29
                      obtain ⟨x111, bx111, hvh29⟩ := bnd hvh29
                      obtain ⟨fx111_0, fx111_1, fx111_2, fx111_3⟩ := idxA_some bx111
                      try simp only [go_sem, Nat.reduceEqDiff, reduceIte, Nat.reduceAdd, Nat.reduceMul, Nat.reduceSub, Nat.reduceLT, Nat.reduceLeDiff, fx108_0, fx108_1, fx108_2, h29, fx111_0, fx111_1, fx111_2]
                      obtain rfl := someInj hvh29
                      exact hK1 _ ⟨rfl, rfl, rfl, rfl, rfl, rfl, rfl, rfl, rfl, rfl, rfl, rfl, (by first | rfl | (rw [h29]; rfl) | (simp only [h29, Bool.true_and, Bool.false_and, Bool.true_or, Bool.false_or, cond_true, cond_false]; done)), trivial⟩
                    ·
                     refine xw_id ?_
                     try simp only [go_sem, Nat.reduceEqDiff, reduceIte, Nat.reduceAdd, Nat.reduceMul, Nat.reduceSub, Nat.reduceLT, Nat.reduceLeDiff, fx108_0, fx108_1, fx108_2]
                     refine hKK _ _ (Wk.refl _ _ _) ?_; clear hKK KK
                     refine awp_cond (b := x112) rfl (fun h30 => ?_) (fun h30 => ?_)
                     ·
                      have hl25 := cT hl25 h30
                      refine awp_assoc ?_
                      refine awp_nr [] (fun _ => rfl) fun tz => ?_
                      refine awp_regW fun KK hKK => ?_
                      refine xw_id ?_
                      try simp only [go_sem, Nat.reduceEqDiff, reduceIte, Nat.reduceAdd, Nat.reduceMul, Nat.reduceSub, Nat.reduceLT, Nat.reduceLeDiff, fx108_0, fx108_1, fx108_2]
                      refine hKK _ _ (Wk.refl _ _ _) ?_; clear hKK KK
                      refine awp_ret ?_
                      refine bq_r ?_
                      refine sq_r ?_
                      refine lq_r ?_
                      refine bq_r ?_
                      refine sq_r ?_
                      refine bq_r ?_
                      refine sq_r ?_
                      refine bq_r ?_
                      refine sq_r ?_
                      refine lq_r ?_
                      refine bq_r ?_
                      refine sq_r ?_
                      obtain rfl := someInj hl25
                      obtain rfl := Ex.kE_ret hi10
                      obtain rfl := Ex.kE_ret hi8
                      obtain rfl := Ex.kE_ret hl6
                      obtain rfl := Ex.k_ret h0
                      refine endW_i ?_
                      refine end_ret0 rs5 (rfl) ?_
                      try simp only [go_sem, Nat.reduceEqDiff, reduceIte, Nat.reduceAdd, Nat.reduceMul, Nat.reduceSub, Nat.reduceLT, Nat.reduceLeDiff, fz, nilS, packR, List.take_nil, List.take_length, List.length_map, List.length_append, cond_true, cond_false, Nat.ble_eq, ble_self, List.map_append]
                      all_goals rfl
                     ·
                      have hl25 := cF hl25 h30
                      refine awp_skip ?_
                      refine awp_nr [2,4,11,12,14,15,16,17,18,20,21] (fun _ => rfl) fun tz => ?_
                      refine awp_regW fun KK hKK => ?_
                      refine xw_id ?_
                      obtain ⟨x113, bx113, hl25⟩ := bnd hl25
                      obtain ⟨fx113_0, fx113_1, fx113_2, fx113_3⟩ := idxA_some bx113
                      have gs31 : ((x108.Head.Seq).toNat + 1 ≤ d107.1.length) = True := eq_true (by (try simp only [List.length_modify, List.length_set]); omega)
                      have gm32 : (d107.1.set ((x108.Head.Seq).toNat) (IntKind.wrap .i64 (x113 + 1)))[(x108.Head.Seq).toNat]? = some (IntKind.wrap .i64 (x113 + 1)) := getSet _ fx113_2
                      try simp only [go_sem, Nat.reduceEqDiff, reduceIte, Nat.reduceAdd, Nat.reduceMul, Nat.reduceSub, Nat.reduceLT, Nat.reduceLeDiff, fx108_0, fx108_1, fx108_2, fx113_0, fx113_1, fx113_2, gs31, gm32]
                      refine hKK _ _ (Wk.refl _ _ _) ?_; clear hKK KK
                      refine awp_nr [2,4,11,12,14,15,16,17,18,20,21] (fun _ => rfl) fun tz => ?_
                      refine awp_regW fun KK hKK => ?_
                      refine xw_id ?_
                      obtain ⟨x114, bx114, hl25⟩ := bnd hl25
                      obtain ⟨fx114_0, fx114_1, fx114_2, fx114_3⟩ := idxA_some bx114
                      have gs33 : ((x108.Head.Seq).toNat + 1 ≤ d107.2.1.length) = True := eq_true (by (try simp only [List.length_modify, List.length_set]); omega)
                      have gm34 : (d107.2.1.set ((x108.Head.Seq).toNat) (IntKind.wrap .i64 (x114 + 1)))[(x108.Head.Seq).toNat]? = some (IntKind.wrap .i64 (x114 + 1)) := getSet _ fx114_2
                      try simp only [go_sem, Nat.reduceEqDiff, reduceIte, Nat.reduceAdd, Nat.reduceMul, Nat.reduceSub, Nat.reduceLT, Nat.reduceLeDiff, fx108_0, fx108_1, fx108_2, fx113_0, fx113_1, fx113_2, gm32, fx114_0, fx114_1, fx114_2, gs33, gm34]
                      refine hKK _ _ (Wk.refl _ _ _) ?_; clear hKK KK
                      refine awp_nr [2,4,11,12,14,15,16,17,18,20,21] (fun _ => rfl) fun tz => ?_
                      refine awp_regW fun KK hKK => ?_
                      refine xw_id ?_
                      try simp only [go_sem, Nat.reduceEqDiff, reduceIte, Nat.reduceAdd, Nat.reduceMul, Nat.reduceSub, Nat.reduceLT, Nat.reduceLeDiff, fx108_0, fx108_1, fx108_2, fx113_0, fx113_1, fx113_2, gm32, fx114_0, fx114_1, fx114_2, gm34]
                      refine hKK _ _ (Wk.refl _ _ _) ?_; clear hKK KK
                      refine awp_cond1 (b := (decide (a2 < (IntKind.wrap .i64 (x113 + 1))))) rfl (fun h35 => ?_) (fun h35 => ?_)
                      ·
                       have hl25 := cT hl25 h35
                       refine awp_nr [] (fun _ => rfl) fun tz => ?_
                       refine awp_regW fun KK hKK => ?_
                       refine xw_id ?_
                       try simp only [go_sem, Nat.reduceEqDiff, reduceIte, Nat.reduceAdd, Nat.reduceMul, Nat.reduceSub, Nat.reduceLT, Nat.reduceLeDiff, fx108_0, fx108_1, fx108_2, fx113_0, fx113_1, fx113_2, gm32, fx114_0, fx114_1, fx114_2, gm34]
                       refine hKK _ _ (Wk.refl _ _ _) ?_; clear hKK KK
                       refine awp_ret1 ?_
                       refine bq_r ?_
                       refine sq_r ?_
                       refine lq_r ?_
                       refine bq_r ?_
                       refine sq_r ?_
                       refine bq_r ?_
                       refine sq_r ?_
                       refine bq_r ?_
                       refine sq_r ?_
                       refine lq_r ?_
                       refine bq_r ?_
                       refine sq_r ?_
                       obtain rfl := someInj hl25
                       obtain rfl := Ex.kE_ret hi10
                       obtain rfl := Ex.kE_ret hi8
                       obtain rfl := Ex.kE_ret hl6
                       obtain rfl := Ex.k_ret h0
                       refine endW_i ?_
                       refine end_ret0 rs5 (rfl) ?_
                       try simp only [go_sem, Nat.reduceEqDiff, reduceIte, Nat.reduceAdd, Nat.reduceMul, Nat.reduceSub, Nat.reduceLT, Nat.reduceLeDiff, fz, nilS, packR, List.take_nil, List.take_length, List.length_map, List.length_append, cond_true, cond_false, Nat.ble_eq, ble_self, List.map_append]
                       all_goals rfl
                      ·
                       have hl25 := cF hl25 h35
                       refine awp_skip1 ?_
                       refine bq_n ?_
                       refine seqW_i ?_
                       refine awp_nr1 [2,4,11,12,14,15,16,17,18,20] (fun _ => rfl) fun tz => ?_
                       refine awp_reg1 fun KK hKK => ?_
                       refine xw_id ?_
                       try simp only [go_sem, Nat.reduceEqDiff, reduceIte, Nat.reduceAdd, Nat.reduceMul, Nat.reduceSub, Nat.reduceLT, Nat.reduceLeDiff, fx108_0, fx108_1, fx108_2, fx113_0, fx113_1, fx113_2, gm32, fx114_0, fx114_1, fx114_2, gm34]
                       refine hKK _ ?_; clear hKK KK
                       refine lq_n ?_
                       exact ⟨n24, ((d107.1.set ((x108.Head.Seq).toNat) (IntKind.wrap .i64 (x113 + 1))), (d107.2.1.set ((x108.Head.Seq).toNat) (IntKind.wrap .i64 (x114 + 1))), IntKind.wrap .i64 (d107.2.2 + 1)), rfl, hl25, (Wk.canonD [] [] [some 0, some 1, some 2, some 3, some 4] rfl trivial rfl (tmOU 4 (tmOU 3 (tmOU 2 (tmOU 1 (tmOU 0 tmO0 rfl List.not_mem_nil (by simp only [upd_get, Nat.reduceEqDiff, reduceIte, Nat.reduceAdd, Nat.reduceMul, Nat.reduceSub, Nat.reduceLT, Nat.reduceLeDiff, if_true, if_false] <;> rfl) (e_Sender_tmx (by rfl) (Tm.clean (Clean.imm (c_Unacked _))))) rfl List.not_mem_nil (by simp only [upd_get, Nat.reduceEqDiff, reduceIte, Nat.reduceAdd, Nat.reduceMul, Nat.reduceSub, Nat.reduceLT, Nat.reduceLeDiff, if_true, if_false] <;> rfl) (TmL.of_eq (by first | rfl | (simp only [List.flatMap_append, List.flatMap_cons, List.flatMap_nil, List.map_append, List.map_cons, List.map_nil, List.append_nil, List.nil_append]; done) | (simp only [List.flatMap_append, List.flatMap_cons, List.flatMap_nil, List.map_append, List.map_cons, List.map_nil, List.append_nil, List.nil_append]; rfl)) (vi_clean _))) rfl List.not_mem_nil (by simp only [upd_get, Nat.reduceEqDiff, reduceIte, Nat.reduceAdd, Nat.reduceMul, Nat.reduceSub, Nat.reduceLT, Nat.reduceLeDiff, if_true, if_false] <;> rfl) (TmL.of_eq (by first | rfl | (simp only [List.flatMap_append, List.flatMap_cons, List.flatMap_nil, List.map_append, List.map_cons, List.map_nil, List.append_nil, List.nil_append]; done) | (simp only [List.flatMap_append, List.flatMap_cons, List.flatMap_nil, List.map_append, List.map_cons, List.map_nil, List.append_nil, List.nil_append]; rfl)) (vi_clean _))) rfl List.not_mem_nil (by simp only [upd_get, Nat.reduceEqDiff, reduceIte, Nat.reduceAdd, Nat.reduceMul, Nat.reduceSub, Nat.reduceLT, Nat.reduceLeDiff, if_true, if_false] <;> rfl) (e_Hotspotref19_Told_tmx (by rfl) (Tm.clean (Clean.imm (c_Frame _))) (Tm.clean (Clean.imm (vi_clean _))))) rfl List.not_mem_nil (by simp only [upd_get, Nat.reduceEqDiff, reduceIte, Nat.reduceAdd, Nat.reduceMul, Nat.reduceSub, Nat.reduceLT, Nat.reduceLeDiff, if_true, if_false] <;> rfl) (e_Sender_tmx (by rfl) (Tm.clean (Clean.imm (c_Unacked _))))) (tmAllU 20 (tmAllU 18 (tmAllU 17 (tmAllU 16 (tmAllU 15 (tmAllU 14 (tmAllU 12 (tmAllU 11 (tmAllU 4 (tmAllU 2 tmAll0 (Tm.v _)) (Tm.clean (Clean.imm (c_Hotspotref19_Step _)))) (Tm.v _)) (Tm.ptr rfl)) (Tm.ptr rfl)) (Tm.ptr rfl)) (Tm.v _)) (Tm.ptr rfl)) (Tm.ptr rfl)) (Tm.v _)))⟩
                 ·
                  have hl25 := cF hl25 h26
                  refine awp_exit ?_
                  refine lq_e ?_
                  refine bq_e ?_
                  refine sq_n ?_
                  obtain rfl := someInj hl25
                  exact ⟨_, rfl, (Wk.canonD [] [] [some 0, some 1, some 2, some 4] rfl trivial rfl (tmOU 3 (tmOU 2 (tmOU 1 (tmOU 0 tmO0 rfl List.not_mem_nil (by simp only [upd_get, Nat.reduceEqDiff, reduceIte, Nat.reduceAdd, Nat.reduceMul, Nat.reduceSub, Nat.reduceLT, Nat.reduceLeDiff, if_true, if_false] <;> rfl) (e_Sender_tmx (by rfl) (Tm.clean (Clean.imm (c_Unacked _))))) rfl List.not_mem_nil (by simp only [upd_get, Nat.reduceEqDiff, reduceIte, Nat.reduceAdd, Nat.reduceMul, Nat.reduceSub, Nat.reduceLT, Nat.reduceLeDiff, if_true, if_false] <;> rfl) (TmL.of_eq (by first | rfl | (simp only [List.flatMap_append, List.flatMap_cons, List.flatMap_nil, List.map_append, List.map_cons, List.map_nil, List.append_nil, List.nil_append]; done) | (simp only [List.flatMap_append, List.flatMap_cons, List.flatMap_nil, List.map_append, List.map_cons, List.map_nil, List.append_nil, List.nil_append]; rfl)) (vi_clean _))) rfl List.not_mem_nil (by simp only [upd_get, Nat.reduceEqDiff, reduceIte, Nat.reduceAdd, Nat.reduceMul, Nat.reduceSub, Nat.reduceLT, Nat.reduceLeDiff, if_true, if_false] <;> rfl) (TmL.of_eq (by first | rfl | (simp only [List.flatMap_append, List.flatMap_cons, List.flatMap_nil, List.map_append, List.map_cons, List.map_nil, List.append_nil, List.nil_append]; done) | (simp only [List.flatMap_append, List.flatMap_cons, List.flatMap_nil, List.map_append, List.map_cons, List.map_nil, List.append_nil, List.nil_append]; rfl)) (vi_clean _))) rfl List.not_mem_nil (by simp only [upd_get, Nat.reduceEqDiff, reduceIte, Nat.reduceAdd, Nat.reduceMul, Nat.reduceSub, Nat.reduceLT, Nat.reduceLeDiff, if_true, if_false] <;> rfl) (e_Sender_tmx (by rfl) (Tm.clean (Clean.imm (c_Unacked _))))) (tmAllU 18 (tmAllU 16 (tmAllU 15 (tmAllU 14 (tmAllU 12 (tmAllU 11 (tmAllU 4 (tmAllU 2 tmAll0 (Tm.v _)) (Tm.clean (Clean.imm (c_Hotspotref19_Step _)))) (Tm.v _)) (Tm.ptr rfl)) (Tm.ptr rfl)) (Tm.ptr rfl)) (Tm.v _)) (Tm.ptr rfl)))⟩
               ·
                rintro d105 rfl
                have hi10 := Ex.kE_go hi10
                clear hi23
                unfold hotspotlaw19_SenderTries_S8
                refine bq_n ?_
                refine sq_n ?_
                obtain rfl := someInj hi10
                exact ⟨_, rfl, (Wk.canonD [] [] [some 0, some 1, some 2, some 3] rfl trivial rfl (tmOU 3 (tmOU 2 (tmOU 1 (tmOU 0 tmO0 rfl List.not_mem_nil (by simp only [upd_get, Nat.reduceEqDiff, reduceIte, Nat.reduceAdd, Nat.reduceMul, Nat.reduceSub, Nat.reduceLT, Nat.reduceLeDiff, if_true, if_false] <;> rfl) (e_Sender_tmx (by rfl) (Tm.clean (Clean.imm (c_Unacked _))))) rfl List.not_mem_nil (by simp only [upd_get, Nat.reduceEqDiff, reduceIte, Nat.reduceAdd, Nat.reduceMul, Nat.reduceSub, Nat.reduceLT, Nat.reduceLeDiff, if_true, if_false] <;> rfl) (TmL.of_eq (by first | rfl | (simp only [List.flatMap_append, List.flatMap_cons, List.flatMap_nil, List.map_append, List.map_cons, List.map_nil, List.append_nil, List.nil_append]; done) | (simp only [List.flatMap_append, List.flatMap_cons, List.flatMap_nil, List.map_append, List.map_cons, List.map_nil, List.append_nil, List.nil_append]; rfl)) (vi_clean _))) rfl List.not_mem_nil (by simp only [upd_get, Nat.reduceEqDiff, reduceIte, Nat.reduceAdd, Nat.reduceMul, Nat.reduceSub, Nat.reduceLT, Nat.reduceLeDiff, if_true, if_false] <;> rfl) (TmL.of_eq (by first | rfl | (simp only [List.flatMap_append, List.flatMap_cons, List.flatMap_nil, List.map_append, List.map_cons, List.map_nil, List.append_nil, List.nil_append]; done) | (simp only [List.flatMap_append, List.flatMap_cons, List.flatMap_nil, List.map_append, List.map_cons, List.map_nil, List.append_nil, List.nil_append]; rfl)) (vi_clean _))) rfl List.not_mem_nil (by simp only [upd_get, Nat.reduceEqDiff, reduceIte, Nat.reduceAdd, Nat.reduceMul, Nat.reduceSub, Nat.reduceLT, Nat.reduceLeDiff, if_true, if_false] <;> rfl) (e_Sender_tmx (by rfl) (Tm.clean (Clean.imm (c_Unacked _))))) (tmAllU 18 (tmAllU 16 (tmAllU 15 (tmAllU 14 (tmAllU 12 (tmAllU 11 (tmAllU 4 (tmAllU 2 tmAll0 (Tm.v _)) (Tm.clean (Clean.imm (c_Hotspotref19_Step _)))) (Tm.v _)) (Tm.ptr rfl)) (Tm.ptr rfl)) (Tm.ptr rfl)) (Tm.v _)) (Tm.ptr rfl)))⟩
              ·
               have hi10 := cF hi10 h22
               refine awp_skip1 ?_
               refine bq_n ?_
               refine sq_n ?_
               obtain rfl := someInj hi10
               exact ⟨_, rfl, (Wk.canonD [] [] [some 0, some 1, some 2, some 4] rfl trivial rfl (tmOU 3 (tmOU 2 (tmOU 1 (tmOU 0 tmO0 rfl List.not_mem_nil (by simp only [upd_get, Nat.reduceEqDiff, reduceIte, Nat.reduceAdd, Nat.reduceMul, Nat.reduceSub, Nat.reduceLT, Nat.reduceLeDiff, if_true, if_false] <;> rfl) (e_Sender_tmx (by rfl) (Tm.clean (Clean.imm (c_Unacked _))))) rfl List.not_mem_nil (by simp only [upd_get, Nat.reduceEqDiff, reduceIte, Nat.reduceAdd, Nat.reduceMul, Nat.reduceSub, Nat.reduceLT, Nat.reduceLeDiff, if_true, if_false] <;> rfl) (TmL.of_eq (by first | rfl | (simp only [List.flatMap_append, List.flatMap_cons, List.flatMap_nil, List.map_append, List.map_cons, List.map_nil, List.append_nil, List.nil_append]; done) | (simp only [List.flatMap_append, List.flatMap_cons, List.flatMap_nil, List.map_append, List.map_cons, List.map_nil, List.append_nil, List.nil_append]; rfl)) (vi_clean _))) rfl List.not_mem_nil (by simp only [upd_get, Nat.reduceEqDiff, reduceIte, Nat.reduceAdd, Nat.reduceMul, Nat.reduceSub, Nat.reduceLT, Nat.reduceLeDiff, if_true, if_false] <;> rfl) (TmL.of_eq (by first | rfl | (simp only [List.flatMap_append, List.flatMap_cons, List.flatMap_nil, List.map_append, List.map_cons, List.map_nil, List.append_nil, List.nil_append]; done) | (simp only [List.flatMap_append, List.flatMap_cons, List.flatMap_nil, List.map_append, List.map_cons, List.map_nil, List.append_nil, List.nil_append]; rfl)) (vi_clean _))) rfl List.not_mem_nil (by simp only [upd_get, Nat.reduceEqDiff, reduceIte, Nat.reduceAdd, Nat.reduceMul, Nat.reduceSub, Nat.reduceLT, Nat.reduceLeDiff, if_true, if_false] <;> rfl) (e_Sender_tmx (by rfl) (Tm.clean (Clean.imm (c_Unacked _))))) (tmAllU 18 (tmAllU 16 (tmAllU 15 (tmAllU 14 (tmAllU 12 (tmAllU 11 (tmAllU 4 (tmAllU 2 tmAll0 (Tm.v _)) (Tm.clean (Clean.imm (c_Hotspotref19_Step _)))) (Tm.v _)) (Tm.ptr rfl)) (Tm.ptr rfl)) (Tm.ptr rfl)) (Tm.v _)) (Tm.ptr rfl)))⟩
          ·
           rintro d95 rfl
           have hi8 := Ex.kE_go hi8
           clear hi10
           unfold hotspotlaw19_SenderTries_S6
           refine awp_nr1 [2,4,11,12,14,15,16,18] (fun _ => rfl) fun tz => ?_
           refine awp_reg1 fun KK hKK => ?_
           refine xw_id ?_
           try simp only [go_sem, Nat.reduceEqDiff, reduceIte, Nat.reduceAdd, Nat.reduceMul, Nat.reduceSub, Nat.reduceLT, Nat.reduceLeDiff]
           refine hKK _ ?_; clear hKK KK
           refine bq_n ?_
           refine sq_n ?_
           obtain rfl := someInj hi8
           exact ⟨_, rfl, (Wk.canonD [] [] [some 0, some 1, some 2] rfl trivial rfl (tmOU 2 (tmOU 1 (tmOU 0 tmO0 rfl List.not_mem_nil (by simp only [upd_get, Nat.reduceEqDiff, reduceIte, Nat.reduceAdd, Nat.reduceMul, Nat.reduceSub, Nat.reduceLT, Nat.reduceLeDiff, if_true, if_false] <;> rfl) (e_Sender_tmx (by rfl) (Tm.clean (Clean.imm (c_Unacked _))))) rfl List.not_mem_nil (by simp only [upd_get, Nat.reduceEqDiff, reduceIte, Nat.reduceAdd, Nat.reduceMul, Nat.reduceSub, Nat.reduceLT, Nat.reduceLeDiff, if_true, if_false] <;> rfl) (TmL.of_eq (by first | rfl | (simp only [List.flatMap_append, List.flatMap_cons, List.flatMap_nil, List.map_append, List.map_cons, List.map_nil, List.append_nil, List.nil_append]; done) | (simp only [List.flatMap_append, List.flatMap_cons, List.flatMap_nil, List.map_append, List.map_cons, List.map_nil, List.append_nil, List.nil_append]; rfl)) (vi_clean _))) rfl List.not_mem_nil (by simp only [upd_get, Nat.reduceEqDiff, reduceIte, Nat.reduceAdd, Nat.reduceMul, Nat.reduceSub, Nat.reduceLT, Nat.reduceLeDiff, if_true, if_false] <;> rfl) (TmL.of_eq (by first | rfl | (simp only [List.flatMap_append, List.flatMap_cons, List.flatMap_nil, List.map_append, List.map_cons, List.map_nil, List.append_nil, List.nil_append]; done) | (simp only [List.flatMap_append, List.flatMap_cons, List.flatMap_nil, List.map_append, List.map_cons, List.map_nil, List.append_nil, List.nil_append]; rfl)) (vi_clean _))) (tmAllU 16 (tmAllU 15 (tmAllU 14 (tmAllU 12 (tmAllU 11 (tmAllU 4 (tmAllU 2 tmAll0 (Tm.v _)) (Tm.clean (Clean.imm (c_Hotspotref19_Step _)))) (Tm.v _)) (Tm.ptr rfl)) (Tm.ptr rfl)) (Tm.ptr rfl)) (Tm.v _)))⟩
       ·
        rintro d91 rfl
        have hl6 := Ex.kE_go hl6
        clear hi8
        unfold hotspotlaw19_SenderTries_S4
        refine awp_nr1 [2,4,11,12,14,15,16] (fun _ => rfl) fun tz => ?_
        refine awp_reg1 fun KK hKK => ?_
        refine xw_id ?_
        try simp only [go_sem, Nat.reduceEqDiff, reduceIte, Nat.reduceAdd, Nat.reduceMul, Nat.reduceSub, Nat.reduceLT, Nat.reduceLeDiff]
        refine hKK _ ?_; clear hKK KK
        refine lq_n ?_
        exact ⟨n5, ({ d91.1 with Out := (d91.1).Out }, d91.2.1, d91.2.2, IntKind.wrap .i64 (d90.2.2.2 + 1)), rfl, hl6, (Wk.canonD [] [] [some 0, some 1, some 2] rfl trivial rfl (tmOU 2 (tmOU 1 (tmOU 0 tmO0 rfl List.not_mem_nil (by simp only [upd_get, Nat.reduceEqDiff, reduceIte, Nat.reduceAdd, Nat.reduceMul, Nat.reduceSub, Nat.reduceLT, Nat.reduceLeDiff, if_true, if_false] <;> rfl) (e_Sender_tmx (by rfl) (Tm.clean (Clean.imm (c_Unacked _))))) rfl List.not_mem_nil (by simp only [upd_get, Nat.reduceEqDiff, reduceIte, Nat.reduceAdd, Nat.reduceMul, Nat.reduceSub, Nat.reduceLT, Nat.reduceLeDiff, if_true, if_false] <;> rfl) (TmL.of_eq (by first | rfl | (simp only [List.flatMap_append, List.flatMap_cons, List.flatMap_nil, List.map_append, List.map_cons, List.map_nil, List.append_nil, List.nil_append]; done) | (simp only [List.flatMap_append, List.flatMap_cons, List.flatMap_nil, List.map_append, List.map_cons, List.map_nil, List.append_nil, List.nil_append]; rfl)) (vi_clean _))) rfl List.not_mem_nil (by simp only [upd_get, Nat.reduceEqDiff, reduceIte, Nat.reduceAdd, Nat.reduceMul, Nat.reduceSub, Nat.reduceLT, Nat.reduceLeDiff, if_true, if_false] <;> rfl) (TmL.of_eq (by first | rfl | (simp only [List.flatMap_append, List.flatMap_cons, List.flatMap_nil, List.map_append, List.map_cons, List.map_nil, List.append_nil, List.nil_append]; done) | (simp only [List.flatMap_append, List.flatMap_cons, List.flatMap_nil, List.map_append, List.map_cons, List.map_nil, List.append_nil, List.nil_append]; rfl)) (vi_clean _))) (tmAllU 16 (tmAllU 15 (tmAllU 14 (tmAllU 12 (tmAllU 11 (tmAllU 4 (tmAllU 2 tmAll0 (Tm.v _)) (Tm.clean (Clean.imm (c_Hotspotref19_Step _)))) (Tm.v _)) (Tm.ptr rfl)) (Tm.ptr rfl)) (Tm.ptr rfl)) (Tm.v _)))⟩
      ·
       have hl6 := cF hl6 h7
       refine awp_exit ?_
       refine lq_e ?_
       refine bq_e ?_
       refine sq_n ?_
       obtain rfl := someInj hl6
       exact ⟨_, rfl, (Wk.canonD [] [] [] rfl trivial rfl tmO0 (tmAllU 11 tmAll0 (Tm.v _)))⟩
    ·
     rintro d88 rfl
     have h0 := Ex.k_go h0
     clear hi4
     unfold hotspotlaw19_SenderTries_S1
     refine awp_nr [11] (fun _ => rfl) fun tz => ?_
     refine awp_regW fun KK hKK => ?_
     refine xw_id ?_
     try simp only [go_sem, Nat.reduceEqDiff, reduceIte, Nat.reduceAdd, Nat.reduceMul, Nat.reduceSub, Nat.reduceLT, Nat.reduceLeDiff]
     refine hKK _ _ (Wk.refl _ _ _) ?_; clear hKK KK
     refine awp_ret1 ?_
     obtain rfl := someInj h0
     refine endW_i ?_
     refine end_ret0 rs5 (rfl) ?_
     try simp only [go_sem, Nat.reduceEqDiff, reduceIte, Nat.reduceAdd, Nat.reduceMul, Nat.reduceSub, Nat.reduceLT, Nat.reduceLeDiff, fz, nilS, packR, List.take_nil, List.take_length, List.length_map, List.length_append, cond_true, cond_false, Nat.ble_eq, ble_self, List.map_append]
     all_goals rfl

end Go.AX.Z.TS
