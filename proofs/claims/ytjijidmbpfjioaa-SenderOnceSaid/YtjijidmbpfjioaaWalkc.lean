/- A part of the proof: walks through the functions that the statement reaches. -/
import Derived.Test.YtjijidmbpfjioaaWalkb
set_option linter.unusedVariables false
set_option linter.unusedSimpArgs false

/-! (TSW hotspotlaw19 SenderOnce) -/

set_option linter.unusedSimpArgs false
set_option linter.unusedVariables false
set_option maxHeartbeats 4000000
namespace Go.AX.Z.TS
open Go.AX Go.Proofs
attribute [local irreducible] awp xw xop xcall gsp ob xd xdop xcallD seqQ loopQ blkQ endQ

def hotspotlaw19_SenderOnce_S0 (x41 : (Sender × Int)) (a1 : Int) (a4 : (List Hotspotref19_Step)) (x40 : Bool) : AS :=
 { objs := (upd (fun _ => .dead) 0 (.live (e_Sender x41.1 (.imm (List.flatMap E_Unacked x41.1.Out) x41.1.Out.length)))), next := 1, tmps := (upd (upd (upd (upd (upd (fun _ => .unk) 1 (vi a1)) 4 (.imm (List.flatMap E_Hotspotref19_Step a4) a4.length)) 11 (vb x40)) 12 (.ptr 0 0)) 13 (vi x41.2)) }

def hotspotlaw19_SenderOnce_S1 (x40 : Bool) (d44 : Unit) : AS :=
 { objs := (fun _ => .dead), next := 0, tmps := (upd (fun _ => .unk) 11 (vb x40)) }

def hotspotlaw19_SenderOnce_S2 (a1 : Int) (a4 : (List Hotspotref19_Step)) (x40 : Bool) (d46 : (Sender × Int × List Int × Int)) : AS :=
 { objs := (upd (upd (fun _ => .dead) 0 (.live (e_Sender d46.1 (.imm (List.flatMap E_Unacked ((d46.1).Out)) ((d46.1).Out).length)))) 1 (.live (List.map vi d46.2.2.1))), next := 2, tmps := (upd (upd (upd (upd (upd (upd (upd (fun _ => .unk) 1 (vi a1)) 4 (.imm (List.flatMap E_Hotspotref19_Step a4) a4.length)) 11 (vb x40)) 12 (.ptr 0 0)) 14 (vi d46.2.1)) 15 (.ref 1 0 ((d46.2.2.1).length) 1)) 16 (vi d46.2.2.2)) }

def hotspotlaw19_SenderOnce_S4 (a1 : Int) (a4 : (List Hotspotref19_Step)) (x40 : Bool) (d46 : (Sender × Int × List Int × Int)) (d47 : (Sender × Int × List Int)) : AS :=
 { objs := (upd (upd (fun _ => .dead) 0 (.live (e_Sender d47.1 (.imm (List.flatMap E_Unacked ((d47.1).Out)) ((d47.1).Out).length)))) 1 (.live (List.map vi d47.2.2))), next := 2, tmps := (upd (upd (upd (upd (upd (upd (upd (fun _ => .unk) 1 (vi a1)) 4 (.imm (List.flatMap E_Hotspotref19_Step a4) a4.length)) 11 (vb x40)) 12 (.ptr 0 0)) 14 (vi d47.2.1)) 15 (.ref 1 0 ((d47.2.2).length) 1)) 16 (vi d46.2.2.2)) }

def hotspotlaw19_SenderOnce_S5 (d46 : (Sender × Int × List Int × Int)) (x50 : (Hotspotref19_Told × Sender × Int)) (a1 : Int) (a4 : (List Hotspotref19_Step)) (x40 : Bool) : AS :=
 { objs := (upd (upd (upd (upd (fun _ => .dead) 0 (.live (e_Sender d46.1 (.imm (List.flatMap E_Unacked ((d46.1).Out)) ((d46.1).Out).length)))) 1 (.live (List.map vi d46.2.2.1))) 2 (.live (e_Hotspotref19_Told x50.1 (.imm (List.flatMap E_Frame x50.1.Frames) x50.1.Frames.length) (.imm (List.map vi x50.1.Numbers) x50.1.Numbers.length)))) 3 (.live (e_Sender x50.2.1 (.imm (List.flatMap E_Unacked x50.2.1.Out) x50.2.1.Out.length)))), next := 4, tmps := (upd (upd (upd (upd (upd (upd (upd (upd (upd (upd (fun _ => .unk) 1 (vi a1)) 4 (.imm (List.flatMap E_Hotspotref19_Step a4) a4.length)) 11 (vb x40)) 12 (.ptr 0 0)) 14 (vi d46.2.1)) 15 (.ref 1 0 d46.2.2.1.length 1)) 16 (vi d46.2.2.2)) 17 (.ptr 2 0)) 18 (.ptr 3 0)) 19 (vi x50.2.2)) }

def hotspotlaw19_SenderOnce_S6 (d46 : (Sender × Int × List Int × Int)) (x50 : (Hotspotref19_Told × Sender × Int)) (a1 : Int) (a4 : (List Hotspotref19_Step)) (x40 : Bool) (d51 : (Int × List Int)) : AS :=
 { objs := (upd (upd (upd (upd (fun _ => .dead) 0 (.live (e_Sender d46.1 (.imm (List.flatMap E_Unacked ((d46.1).Out)) ((d46.1).Out).length)))) 1 (.live (List.map vi d51.2))) 2 (.live (e_Hotspotref19_Told x50.1 (.imm (List.flatMap E_Frame x50.1.Frames) x50.1.Frames.length) (.imm (List.map vi x50.1.Numbers) x50.1.Numbers.length)))) 3 (.live (e_Sender x50.2.1 (.imm (List.flatMap E_Unacked x50.2.1.Out) x50.2.1.Out.length)))), next := 4, tmps := (upd (upd (upd (upd (upd (upd (upd (upd (upd (fun _ => .unk) 1 (vi a1)) 4 (.imm (List.flatMap E_Hotspotref19_Step a4) a4.length)) 11 (vb x40)) 12 (.ptr 0 0)) 14 (vi d51.1)) 15 (.ref 1 0 ((d51.2).length) 1)) 16 (vi d46.2.2.2)) 17 (.ptr 2 0)) 18 (.ptr 3 0)) }

def hotspotlaw19_SenderOnce_S7 (d46 : (Sender × Int × List Int × Int)) (x50 : (Hotspotref19_Told × Sender × Int)) (a1 : Int) (a4 : (List Hotspotref19_Step)) (x40 : Bool) (d51 : (Int × List Int)) (d58 : (List Int)) : AS :=
 { objs := (upd (upd (upd (fun _ => .dead) 0 (.live (e_Sender d46.1 (.imm (List.flatMap E_Unacked ((d46.1).Out)) ((d46.1).Out).length)))) 1 (.live (List.map vi d58))) 2 (.live (e_Sender x50.2.1 (.imm (List.flatMap E_Unacked x50.2.1.Out) x50.2.1.Out.length)))), next := 3, tmps := (upd (upd (upd (upd (upd (upd (upd (upd (fun _ => .unk) 1 (vi a1)) 4 (.imm (List.flatMap E_Hotspotref19_Step a4) a4.length)) 11 (vb x40)) 12 (.ptr 0 0)) 14 (vi d51.1)) 15 (.ref 1 0 ((d58).length) 1)) 16 (vi d46.2.2.2)) 18 (.ptr 2 0)) }

def hotspotlaw19_SenderOnce_S8 (d46 : (Sender × Int × List Int × Int)) (x50 : (Hotspotref19_Told × Sender × Int)) (a1 : Int) (a4 : (List Hotspotref19_Step)) (x40 : Bool) (d51 : (Int × List Int)) (d60 : (List Int × Int)) : AS :=
 { objs := (upd (upd (upd (upd (fun _ => .dead) 0 (.live (e_Sender d46.1 (.imm (List.flatMap E_Unacked ((d46.1).Out)) ((d46.1).Out).length)))) 1 (.live (List.map vi d60.1))) 2 (.live (e_Hotspotref19_Told x50.1 (.imm (List.flatMap E_Frame x50.1.Frames) x50.1.Frames.length) (.imm (List.map vi x50.1.Numbers) x50.1.Numbers.length)))) 3 (.live (e_Sender x50.2.1 (.imm (List.flatMap E_Unacked x50.2.1.Out) x50.2.1.Out.length)))), next := 4, tmps := (upd (upd (upd (upd (upd (upd (upd (upd (upd (upd (fun _ => .unk) 1 (vi a1)) 4 (.imm (List.flatMap E_Hotspotref19_Step a4) a4.length)) 11 (vb x40)) 12 (.ptr 0 0)) 14 (vi d51.1)) 15 (.ref 1 0 ((d60.1).length) 1)) 16 (vi d46.2.2.2)) 17 (.ptr 2 0)) 18 (.ptr 3 0)) 20 (vi d60.2)) }

def hotspotlaw19_SenderOnce_S10 (d46 : (Sender × Int × List Int × Int)) (x50 : (Hotspotref19_Told × Sender × Int)) (a1 : Int) (a4 : (List Hotspotref19_Step)) (x40 : Bool) (d51 : (Int × List Int)) (d60 : (List Int × Int)) (d61 : (List Int)) : AS :=
 { objs := (upd (upd (upd (upd (fun _ => .dead) 0 (.live (e_Sender d46.1 (.imm (List.flatMap E_Unacked ((d46.1).Out)) ((d46.1).Out).length)))) 1 (.live (List.map vi d61))) 2 (.live (e_Hotspotref19_Told x50.1 (.imm (List.flatMap E_Frame x50.1.Frames) x50.1.Frames.length) (.imm (List.map vi x50.1.Numbers) x50.1.Numbers.length)))) 3 (.live (e_Sender x50.2.1 (.imm (List.flatMap E_Unacked x50.2.1.Out) x50.2.1.Out.length)))), next := 4, tmps := (upd (upd (upd (upd (upd (upd (upd (upd (upd (upd (fun _ => .unk) 1 (vi a1)) 4 (.imm (List.flatMap E_Hotspotref19_Step a4) a4.length)) 11 (vb x40)) 12 (.ptr 0 0)) 14 (vi d51.1)) 15 (.ref 1 0 ((d61).length) 1)) 16 (vi d46.2.2.2)) 17 (.ptr 2 0)) 18 (.ptr 3 0)) 20 (vi d60.2)) }

def hotspotlaw19_SenderOnce_S11 (d46 : (Sender × Int × List Int × Int)) (d60 : (List Int × Int)) (x50 : (Hotspotref19_Told × Sender × Int)) (a1 : Int) (a4 : (List Hotspotref19_Step)) (x40 : Bool) (d51 : (Int × List Int)) (d63 : Int) : AS :=
 { objs := (upd (upd (upd (upd (fun _ => .dead) 0 (.live (e_Sender d46.1 (.imm (List.flatMap E_Unacked ((d46.1).Out)) ((d46.1).Out).length)))) 1 (.live (List.map vi d60.1))) 2 (.live (e_Hotspotref19_Told x50.1 (.imm (List.flatMap E_Frame x50.1.Frames) x50.1.Frames.length) (.imm (List.map vi x50.1.Numbers) x50.1.Numbers.length)))) 3 (.live (e_Sender x50.2.1 (.imm (List.flatMap E_Unacked x50.2.1.Out) x50.2.1.Out.length)))), next := 4, tmps := (upd (upd (upd (upd (upd (upd (upd (upd (upd (upd (upd (fun _ => .unk) 1 (vi a1)) 4 (.imm (List.flatMap E_Hotspotref19_Step a4) a4.length)) 11 (vb x40)) 12 (.ptr 0 0)) 14 (vi d51.1)) 15 (.ref 1 0 d60.1.length 1)) 16 (vi d46.2.2.2)) 17 (.ptr 2 0)) 18 (.ptr 3 0)) 20 (vi d60.2)) 21 (vi d63)) }

def hotspotlaw19_SenderOnce_S12 (d46 : (Sender × Int × List Int × Int)) (d60 : (List Int × Int)) (x50 : (Hotspotref19_Told × Sender × Int)) (a1 : Int) (a4 : (List Hotspotref19_Step)) (x40 : Bool) (d51 : (Int × List Int)) (d64 : (Int × Int)) : AS :=
 { objs := (upd (upd (upd (upd (fun _ => .dead) 0 (.live (e_Sender d46.1 (.imm (List.flatMap E_Unacked ((d46.1).Out)) ((d46.1).Out).length)))) 1 (.live (List.map vi d60.1))) 2 (.live (e_Hotspotref19_Told x50.1 (.imm (List.flatMap E_Frame x50.1.Frames) x50.1.Frames.length) (.imm (List.map vi x50.1.Numbers) x50.1.Numbers.length)))) 3 (.live (e_Sender x50.2.1 (.imm (List.flatMap E_Unacked x50.2.1.Out) x50.2.1.Out.length)))), next := 4, tmps := (upd (upd (upd (upd (upd (upd (upd (upd (upd (upd (upd (upd (fun _ => .unk) 1 (vi a1)) 4 (.imm (List.flatMap E_Hotspotref19_Step a4) a4.length)) 11 (vb x40)) 12 (.ptr 0 0)) 14 (vi d51.1)) 15 (.ref 1 0 d60.1.length 1)) 16 (vi d46.2.2.2)) 17 (.ptr 2 0)) 18 (.ptr 3 0)) 20 (vi d60.2)) 21 (vi d64.1)) 22 (vi d64.2)) }

def hotspotlaw19_SenderOnce_S14 (d46 : (Sender × Int × List Int × Int)) (d58 : (List Int)) (x50 : (Hotspotref19_Told × Sender × Int)) (a1 : Int) (a4 : (List Hotspotref19_Step)) (x40 : Bool) (d51 : (Int × List Int)) (d76 : Unit) : AS :=
 { objs := (upd (upd (upd (fun _ => .dead) 0 (.live (e_Sender d46.1 (.imm (List.flatMap E_Unacked ((d46.1).Out)) ((d46.1).Out).length)))) 1 (.live (List.map vi d58))) 2 (.live (e_Sender x50.2.1 (.imm (List.flatMap E_Unacked x50.2.1.Out) x50.2.1.Out.length)))), next := 3, tmps := (upd (upd (upd (upd (upd (upd (upd (upd (fun _ => .unk) 1 (vi a1)) 4 (.imm (List.flatMap E_Hotspotref19_Step a4) a4.length)) 11 (vb x40)) 12 (.ptr 0 0)) 14 (vi d51.1)) 15 (.ref 1 0 d58.length 1)) 16 (vi d46.2.2.2)) 18 (.ptr 2 0)) }

def hotspotlaw19_SenderOnce_S15 (d46 : (Sender × Int × List Int × Int)) (d58 : (List Int)) (x50 : (Hotspotref19_Told × Sender × Int)) (a1 : Int) (a4 : (List Hotspotref19_Step)) (x40 : Bool) (d51 : (Int × List Int)) (d78 : Int) : AS :=
 { objs := (upd (upd (upd (fun _ => .dead) 0 (.live (e_Sender d46.1 (.imm (List.flatMap E_Unacked ((d46.1).Out)) ((d46.1).Out).length)))) 1 (.live (List.map vi d58))) 2 (.live (e_Sender x50.2.1 (.imm (List.flatMap E_Unacked x50.2.1.Out) x50.2.1.Out.length)))), next := 3, tmps := (upd (upd (upd (upd (upd (upd (upd (upd (upd (fun _ => .unk) 1 (vi a1)) 4 (.imm (List.flatMap E_Hotspotref19_Step a4) a4.length)) 11 (vb x40)) 12 (.ptr 0 0)) 14 (vi d51.1)) 15 (.ref 1 0 d58.length 1)) 16 (vi d46.2.2.2)) 18 (.ptr 2 0)) 23 (vi d78)) }

theorem hotspotlaw19_SenderOnce_p (a0 : Int) (a1 : Int) (a2 : Int) (a3 : Int) (a4 : (List Hotspotref19_Step)) {r : Bool} (h0 : hotspotlaw19_SenderOnce a0 a1 a2 a3 a4 = some r) : SndP K 7 [(vi a0), (vi a1), (vi a2), (vi a3), (S_Hotspotref19_Step a4)] (vb r) := by
 refine SndP.of_walkW hC (Clean.v _) (clean_cons (Clean.v _) (clean_cons (Clean.v _) (clean_cons (Clean.v _) (clean_cons (Clean.v _) (clean_cons (S_Hotspotref19_Step_clean _) clean_nil))))) (show K.P.funcs[7]? = some Try.f7 from Try.func7) rfl rfl (by decide +kernel) (Nat.le_of_ble_eq_true rfl) ?_
 unfold hotspotlaw19_SenderOnce at h0
 refine awp_nr [0,1,2,3,4] (fun _ => rfl) fun tz => ?_
 refine awp_regW fun KK hKK => ?_
 refine xw_id ?_
 try simp only [go_sem, Nat.reduceEqDiff, reduceIte, Nat.reduceAdd, Nat.reduceMul, Nat.reduceSub, Nat.reduceLT, Nat.reduceLeDiff]
 refine hKK _ _ (Wk.refl _ _ _) ?_; clear hKK KK
 refine awp_nr [0,1,2,3,4] (fun _ => rfl) fun tz => ?_
 refine awp_regW fun KK hKK => ?_
 refine xw_id ?_
 obtain ⟨x40, bx40, h0⟩ := bnd h0
 try simp only [go_sem, Nat.reduceEqDiff, reduceIte, Nat.reduceAdd, Nat.reduceMul, Nat.reduceSub, Nat.reduceLT, Nat.reduceLeDiff]
 refine xcall_p (hotspotlaw19_alive_p  bx40) ?_; try dsimp only
 try refine xw_id ?_
 try simp only [go_sem, Nat.reduceEqDiff, reduceIte, Nat.reduceAdd, Nat.reduceMul, Nat.reduceSub, Nat.reduceLT, Nat.reduceLeDiff]
 refine hKK _ _ (Wk.refl _ _ _) ?_; clear hKK KK
 refine awp_nr [0,1,2,3,4,11] (fun _ => rfl) fun tz => ?_
 refine awp_regW fun KK hKK => ?_
 refine xw_id ?_
 obtain ⟨x41, bx41, h0⟩ := bnd h0
 try simp only [go_sem, Nat.reduceEqDiff, reduceIte, Nat.reduceAdd, Nat.reduceMul, Nat.reduceSub, Nat.reduceLT, Nat.reduceLeDiff]
 refine xcall_p (sender_New_p a0 a1 a2 a3 bx41) ?_; try dsimp only
 try refine xw_id ?_
 try simp only [go_sem, Nat.reduceEqDiff, reduceIte, Nat.reduceAdd, Nat.reduceMul, Nat.reduceSub, Nat.reduceLT, Nat.reduceLeDiff]
 refine hKK _ (hotspotlaw19_SenderOnce_S0 x41 a1 a4 x40) (Wk.canonD [] [] [some 11] rfl trivial rfl (tmOU 0 tmO0 rfl List.not_mem_nil (by simp only [upd_get, Nat.reduceEqDiff, reduceIte, Nat.reduceAdd, Nat.reduceMul, Nat.reduceSub, Nat.reduceLT, Nat.reduceLeDiff, if_true, if_false] <;> rfl) (e_Sender_tmx (by rfl) (Tm.clean (Clean.imm (c_Unacked _))))) (tmAllU 13 (tmAllU 12 (tmAllU 11 (tmAllU 4 (tmAllU 1 tmAll0 (Tm.v _)) (Tm.clean (Clean.imm (c_Hotspotref19_Step _)))) (Tm.v _)) (Tm.ptr rfl)) (Tm.v _))) ?_; clear hKK KK
 unfold hotspotlaw19_SenderOnce_S0
 refine awp_assoc ?_
 refine awp_nr [1,4,11,12,13] (fun _ => rfl) fun tz => ?_
 refine awp_regW fun KK hKK => ?_
 refine xw_id ?_
 refine xw_stop 3 (by simp only [go_sem]; rfl) (by simp only [go_sem]; rfl) (by rfl) fun K1 hK1 => ?_
 refine xw_id ?_
 try simp only [go_sem, Nat.reduceEqDiff, reduceIte, Nat.reduceAdd, Nat.reduceMul, Nat.reduceSub, Nat.reduceLT, Nat.reduceLeDiff]
 refine hK1 _ ?_; clear hK1 K1
 obtain ⟨x43, hvh1, h0⟩ := bnd h0
 refine xw_cut 3 [(1, (vi a1)), (4, (.imm (List.flatMap E_Hotspotref19_Step a4) a4.length)), (11, (vb x40)), (12, (.ptr 0 0)), (38, (vb x43))] (by simp only [go_sem]; rfl) (by simp only [go_sem]; rfl) (by rfl) (fun K1 hK1 => ?_) fun tz => ?_
 ·
  refine xw_id ?_
  rcases Bool.eq_false_or_eq_true (x41.2 != 0) with h1 | h1
  ·
   have hvh1 := cT hvh1 h1
   try simp only [go_sem, Nat.reduceEqDiff, reduceIte, Nat.reduceAdd, Nat.reduceMul, Nat.reduceSub, Nat.reduceLT, Nat.reduceLeDiff, h1]
   obtain rfl := someInj hvh1
   exact hK1 _ ⟨rfl, rfl, rfl, rfl, rfl, (by first | rfl | (rw [h1]; rfl) | (simp only [h1, Bool.true_and, Bool.false_and, Bool.true_or, Bool.false_or, cond_true, cond_false]; done)), trivial⟩
  ·
   have hvh1 := cF hvh1 h1
   obtain ⟨x42, bx42, hvh1⟩ := bnd hvh1
   try simp only [go_sem, Nat.reduceEqDiff, reduceIte, Nat.reduceAdd, Nat.reduceMul, Nat.reduceSub, Nat.reduceLT, Nat.reduceLeDiff, h1]
   refine xcall_p (hotspotlaw19_great_p a4 bx42) ?_; try dsimp only
   try refine xw_id ?_
   try simp only [go_sem, Nat.reduceEqDiff, reduceIte, Nat.reduceAdd, Nat.reduceMul, Nat.reduceSub, Nat.reduceLT, Nat.reduceLeDiff, h1]
   obtain rfl := someInj hvh1
   exact hK1 _ ⟨rfl, rfl, rfl, rfl, rfl, (by first | rfl | (rw [h1]; rfl) | (simp only [h1, Bool.true_and, Bool.false_and, Bool.true_or, Bool.false_or, cond_true, cond_false]; done)), trivial⟩
 ·
  refine xw_id ?_
  refine xw_stop 1 (by simp only [go_sem]; rfl) (by simp only [go_sem]; rfl) (by rfl) fun K1 hK1 => ?_
  refine xw_id ?_
  try simp only [go_sem, Nat.reduceEqDiff, reduceIte, Nat.reduceAdd, Nat.reduceMul, Nat.reduceSub, Nat.reduceLT, Nat.reduceLeDiff]
  refine hK1 _ ?_; clear hK1 K1
  refine xw_cut 3 [(1, (vi a1)), (4, (.imm (List.flatMap E_Hotspotref19_Step a4) a4.length)), (11, (vb x40)), (12, (.ptr 0 0)), (42, (vb (x43 || (!x40))))] (by simp only [go_sem]; rfl) (by simp only [go_sem]; rfl) (by rfl) (fun K1 hK1 => ?_) fun tz => ?_
  ·
   refine xw_id ?_
   rcases Bool.eq_false_or_eq_true x43 with h2 | h2
   ·
    try simp only [go_sem, Nat.reduceEqDiff, reduceIte, Nat.reduceAdd, Nat.reduceMul, Nat.reduceSub, Nat.reduceLT, Nat.reduceLeDiff, h2]
    exact hK1 _ ⟨rfl, rfl, rfl, rfl, rfl, (by first | rfl | (rw [h2]; rfl) | (simp only [h2, Bool.true_and, Bool.false_and, Bool.true_or, Bool.false_or, cond_true, cond_false]; done)), trivial⟩
   ·
    try simp only [go_sem, Nat.reduceEqDiff, reduceIte, Nat.reduceAdd, Nat.reduceMul, Nat.reduceSub, Nat.reduceLT, Nat.reduceLeDiff, h2]
    exact hK1 _ ⟨rfl, rfl, rfl, rfl, rfl, (by first | rfl | (rw [h2]; rfl) | (simp only [h2, Bool.true_and, Bool.false_and, Bool.true_or, Bool.false_or, cond_true, cond_false]; done)), trivial⟩
  ·
   refine xw_id ?_
   try simp only [go_sem, Nat.reduceEqDiff, reduceIte, Nat.reduceAdd, Nat.reduceMul, Nat.reduceSub, Nat.reduceLT, Nat.reduceLeDiff]
   refine hKK _ _ (Wk.refl _ _ _) ?_; clear hKK KK
   refine awp_cond (b := (x43 || (!x40))) rfl (fun h3 => ?_) (fun h3 => ?_)
   ·
    have h0 := cT h0 h3
    refine awp_assoc ?_
    refine awp_nr [11] (fun _ => rfl) fun tz => ?_
    refine awp_regW fun KK hKK => ?_
    refine xw_id ?_
    try simp only [go_sem, Nat.reduceEqDiff, reduceIte, Nat.reduceAdd, Nat.reduceMul, Nat.reduceSub, Nat.reduceLT, Nat.reduceLeDiff]
    refine hKK _ _ (Wk.refl _ _ _) ?_; clear hKK KK
    refine awp_ret ?_
    obtain rfl := someInj h0
    refine endW_i ?_
    refine end_ret0 rs7 (rfl) ?_
    try simp only [go_sem, Nat.reduceEqDiff, reduceIte, Nat.reduceAdd, Nat.reduceMul, Nat.reduceSub, Nat.reduceLT, Nat.reduceLeDiff, fz, nilS, packR, List.take_nil, List.take_length, List.length_map, List.length_append, cond_true, cond_false, Nat.ble_eq, ble_self, List.map_append]
    all_goals rfl
   ·
    have h0 := cF h0 h3
    refine awp_skip ?_
    refine awp_nr [1,4,11,12] (fun _ => rfl) fun tz => ?_
    refine awp_regW fun KK hKK => ?_
    refine xw_id ?_
    try simp only [go_sem, Nat.reduceEqDiff, reduceIte, Nat.reduceAdd, Nat.reduceMul, Nat.reduceSub, Nat.reduceLT, Nat.reduceLeDiff]
    refine hKK _ _ (Wk.refl _ _ _) ?_; clear hKK KK
    refine awp_nr [1,4,11,12,14] (fun _ => rfl) fun tz => ?_
    refine awp_regW fun KK hKK => ?_
    refine xw_id ?_
    try simp only [go_sem, Nat.reduceEqDiff, reduceIte, Nat.reduceAdd, Nat.reduceMul, Nat.reduceSub, Nat.reduceLT, Nat.reduceLeDiff]
    refine hKK _ _ (Wk.refl _ _ _) ?_; clear hKK KK
    refine awp_assoc ?_
    refine awp_nr [1,4,11,12,14,15] (fun _ => rfl) fun tz => ?_
    refine awp_regW fun KK hKK => ?_
    refine xw_id ?_
    try simp only [go_sem, Nat.reduceEqDiff, reduceIte, Nat.reduceAdd, Nat.reduceMul, Nat.reduceSub, Nat.reduceLT, Nat.reduceLeDiff]
    refine hKK _ _ (Wk.refl _ _ _) ?_; clear hKK KK
    obtain ⟨o45, hi4, h0⟩ := bnd h0
    refine awp_cut (fun d44 : Unit => o45 = Ex.go d44) (fun d44 : Unit => hotspotlaw19_SenderOnce_S1 x40 d44) ?_ ?_
    ·
     refine awp_block1 ?_
     refine awp_loopS (fun n (d46 : (Sender × Int × List Int × Int)) => hotspotlaw19_SenderOnce_L3 a4 a1 n d46 = some o45) (fun d46 : (Sender × Int × List Int × Int) => hotspotlaw19_SenderOnce_S2 a1 a4 x40 d46) big (x41.1, 0, [], 0) (Wk.canonD [] [] [some 0, none] rfl trivial rfl (tmON 1 (tmOU 0 tmO0 rfl List.not_mem_nil (by simp only [upd_get, Nat.reduceEqDiff, reduceIte, Nat.reduceAdd, Nat.reduceMul, Nat.reduceSub, Nat.reduceLT, Nat.reduceLeDiff, if_true, if_false] <;> rfl) (e_Sender_tmx (by rfl) (Tm.clean (Clean.imm (c_Unacked _))))) rfl) (tmAllU 16 (tmAllU 15 (tmAllU 14 (tmAllU 12 (tmAllU 11 (tmAllU 4 (tmAllU 1 tmAll0 (Tm.v _)) (Tm.clean (Clean.imm (c_Hotspotref19_Step _)))) (Tm.v _)) (Tm.ptr rfl)) (Tm.v _)) (Tm.thaw _ _ _)) (Tm.v _))) hi4 ?_
     clear hi4
     rintro n d46 hl6
     rcases n with _ | n5
     ·
      (rw [hotspotlaw19_SenderOnce_L3] at hl6; cases hl6)
     ·
      rw [hotspotlaw19_SenderOnce_L3] at hl6
      unfold hotspotlaw19_SenderOnce_S2
      refine awp_assoc ?_
      refine awp_nr [1,4,11,12,14,15,16] (fun _ => rfl) fun tz => ?_
      refine awp_regW fun KK hKK => ?_
      refine xw_id ?_
      try simp only [go_sem, Nat.reduceEqDiff, reduceIte, Nat.reduceAdd, Nat.reduceMul, Nat.reduceSub, Nat.reduceLT, Nat.reduceLeDiff, Int.reduceToNat, Int.reduceBEq, Int.reduceBNe, Int.reduceLT, Int.reduceLE, Int.reduceAdd, Int.reduceSub, Int.reduceMul, Int.reduceNeg, Int.reduceEq, Int.reduceNe]
      refine hKK _ _ (Wk.refl _ _ _) ?_; clear hKK KK
      refine awp_cond (b := (decide (d46.2.2.2 < (a4.length : Int)))) rfl (fun h7 => ?_) (fun h7 => ?_)
      ·
       have hl6 := cT hl6 h7
       refine awp_skip ?_
       obtain ⟨o48, hi8, hl6⟩ := bnd hl6
       refine awp_cut (fun d47 : (Sender × Int × List Int) => o48 = Ex.go d47) (fun d47 : (Sender × Int × List Int) => hotspotlaw19_SenderOnce_S4 a1 a4 x40 d46 d47) ?_ ?_
       ·
        refine awp_block1 ?_
        refine awp_nr [1,4,11,12,14,15,16] (fun _ => rfl) fun tz => ?_
        refine awp_regDW fun KK hKK all hall => ?_
        refine xd_id ?_
        try simp only [List.toList_toArray, List.map_cons, List.map_nil, List.size_toArray, List.length_cons, List.length_nil, Nat.zero_add]
        try simp only [Nat.reduceAdd]
        obtain ⟨x49, bx49, hi8⟩ := bnd hi8
        obtain ⟨fx49_0, fx49_1, fx49_2, fx49_3⟩ := idx_some bx49
        obtain ⟨x50, bx50, hi8⟩ := bnd hi8
        simp only [go_sem, Nat.reduceEqDiff, reduceIte, Nat.reduceMul, Nat.reduceSub, Nat.reduceLT, Nat.reduceLeDiff, fx49_0, fx49_1, fx49_2]
        try simp only [Nat.reduceAdd]
        try simp only [go_sem, Nat.reduceEqDiff, reduceIte, Nat.reduceMul, Nat.reduceSub, Nat.reduceLT, Nat.reduceLeDiff, fx49_0, fx49_1, fx49_2]
        try simp only [Nat.reduceAdd]
        try simp only [go_sem, Nat.reduceEqDiff, reduceIte, Nat.reduceMul, Nat.reduceSub, Nat.reduceLT, Nat.reduceLeDiff, fx49_0, fx49_1, fx49_2]
        refine xcallD_p (hotspotlaw19_do_p { d46.1 with Out := (d46.1).Out } x49 bx50) ?_; try dsimp only
        try refine xd_id ?_
        simp only [go_sem, Nat.reduceEqDiff, reduceIte, Nat.reduceMul, Nat.reduceSub, Nat.reduceLT, Nat.reduceLeDiff, fx49_0, fx49_1, fx49_2]
        try simp only [Nat.reduceAdd]
        try simp only [go_sem, Nat.reduceEqDiff, reduceIte, Nat.reduceMul, Nat.reduceSub, Nat.reduceLT, Nat.reduceLeDiff, fx49_0, fx49_1, fx49_2]
        try simp only [Nat.reduceAdd]
        try simp only [go_sem, Nat.reduceEqDiff, reduceIte, Nat.reduceMul, Nat.reduceSub, Nat.reduceLT, Nat.reduceLeDiff, fx49_0, fx49_1, fx49_2]
        refine And.intro ?_ (hKK _ (hotspotlaw19_SenderOnce_S5 d46 x50 a1 a4 x40) (by refine Wk.canonD [] [] [some 0, some 1, some 16, some 17] rfl trivial rfl (tmOU 3 (tmOU 2 (tmOU 1 (tmOU 0 tmO0 rfl List.not_mem_nil (by simp only [upd_get, Nat.reduceEqDiff, reduceIte, Nat.reduceAdd, Nat.reduceMul, Nat.reduceSub, Nat.reduceLT, Nat.reduceLeDiff, if_true, if_false] <;> rfl) (e_Sender_tmx (by rfl) (Tm.clean (Clean.imm (c_Unacked _))))) rfl List.not_mem_nil (by simp only [upd_get, Nat.reduceEqDiff, reduceIte, Nat.reduceAdd, Nat.reduceMul, Nat.reduceSub, Nat.reduceLT, Nat.reduceLeDiff, if_true, if_false] <;> rfl) (TmL.of_eq (by first | rfl | (simp only [List.flatMap_append, List.flatMap_cons, List.flatMap_nil, List.map_append, List.map_cons, List.map_nil, List.append_nil, List.nil_append]; done) | (simp only [List.flatMap_append, List.flatMap_cons, List.flatMap_nil, List.map_append, List.map_cons, List.map_nil, List.append_nil, List.nil_append]; rfl)) (vi_clean _))) rfl List.not_mem_nil (by simp only [upd_get, Nat.reduceEqDiff, reduceIte, Nat.reduceAdd, Nat.reduceMul, Nat.reduceSub, Nat.reduceLT, Nat.reduceLeDiff, if_true, if_false] <;> rfl) (e_Hotspotref19_Told_tmx (by rfl) (Tm.clean (Clean.imm (c_Frame _))) (Tm.clean (Clean.imm (vi_clean _))))) rfl List.not_mem_nil (by simp only [upd_get, Nat.reduceEqDiff, reduceIte, Nat.reduceAdd, Nat.reduceMul, Nat.reduceSub, Nat.reduceLT, Nat.reduceLeDiff, if_true, if_false] <;> rfl) (e_Sender_tmx (by rfl) (Tm.clean (Clean.imm (c_Unacked _))))) (tmAllU 19 (tmAllU 18 (tmAllU 17 (tmAllU 16 (tmAllU 15 (tmAllU 14 (tmAllU 12 (tmAllU 11 (tmAllU 4 (tmAllU 1 tmAll0 (Tm.v _)) (Tm.clean (Clean.imm (c_Hotspotref19_Step _)))) (Tm.v _)) (Tm.ptr rfl)) (Tm.v _)) (Tm.refL rfl ?_)) (Tm.v _)) (Tm.ptr rfl)) (Tm.ptr rfl)) (Tm.v _)); all_goals (first | rfl | (simp only [List.length_take]; omega) | (simp only [List.length_append, List.length_cons, List.length_nil, List.length_modify, List.length_set, Nat.zero_add]; done) | (simp only [List.length_append, List.length_take, List.length_drop, List.length_cons, List.length_nil, List.length_modify, List.length_set, Nat.zero_add]; omega))) ?_)
        ·
         subst hall
         clear hKK KK
         first | (simp [printsOk, apartP, clash, meet]; done) | (simp [printsOk, apartP, clash, meet]; decide +kernel) | decide +kernel
        ·
         clear hKK KK hall all
         unfold hotspotlaw19_SenderOnce_S5
         refine awp_assoc ?_
         refine awp_nr [1,4,11,12,14,15,16,17,18,19] (fun _ => rfl) fun tz => ?_
         refine awp_regW fun KK hKK => ?_
         refine xw_id ?_
         try simp only [go_sem, Nat.reduceEqDiff, reduceIte, Nat.reduceAdd, Nat.reduceMul, Nat.reduceSub, Nat.reduceLT, Nat.reduceLeDiff, fx49_0, fx49_1, fx49_2]
         refine hKK _ _ (Wk.refl _ _ _) ?_; clear hKK KK
         refine awp_cond (b := (x50.2.2 != 0)) rfl (fun h9 => ?_) (fun h9 => ?_)
         ·
          have hi8 := cT hi8 h9
          refine awp_exit ?_
          refine bq_e ?_
          refine sq_n ?_
          obtain rfl := someInj hi8
          exact ⟨_, rfl, (by refine Wk.canonD [] [] [some 0, some 1] rfl trivial rfl (tmOU 1 (tmOU 0 tmO0 rfl List.not_mem_nil (by simp only [upd_get, Nat.reduceEqDiff, reduceIte, Nat.reduceAdd, Nat.reduceMul, Nat.reduceSub, Nat.reduceLT, Nat.reduceLeDiff, if_true, if_false] <;> rfl) (e_Sender_tmx (by rfl) (Tm.clean (Clean.imm (c_Unacked _))))) rfl List.not_mem_nil (by simp only [upd_get, Nat.reduceEqDiff, reduceIte, Nat.reduceAdd, Nat.reduceMul, Nat.reduceSub, Nat.reduceLT, Nat.reduceLeDiff, if_true, if_false] <;> rfl) (TmL.of_eq (by first | rfl | (simp only [List.flatMap_append, List.flatMap_cons, List.flatMap_nil, List.map_append, List.map_cons, List.map_nil, List.append_nil, List.nil_append]; done) | (simp only [List.flatMap_append, List.flatMap_cons, List.flatMap_nil, List.map_append, List.map_cons, List.map_nil, List.append_nil, List.nil_append]; rfl)) (vi_clean _))) (tmAllU 16 (tmAllU 15 (tmAllU 14 (tmAllU 12 (tmAllU 11 (tmAllU 4 (tmAllU 1 tmAll0 (Tm.v _)) (Tm.clean (Clean.imm (c_Hotspotref19_Step _)))) (Tm.v _)) (Tm.ptr rfl)) (Tm.v _)) (Tm.refL rfl ?_)) (Tm.v _)); all_goals (first | rfl | (simp only [List.length_take]; omega) | (simp only [List.length_append, List.length_cons, List.length_nil, List.length_modify, List.length_set, Nat.zero_add]; done) | (simp only [List.length_append, List.length_take, List.length_drop, List.length_cons, List.length_nil, List.length_modify, List.length_set, Nat.zero_add]; omega)))⟩
         ·
          have hi8 := cF hi8 h9
          refine awp_skip ?_
          refine awp_assoc ?_
          refine awp_nr [1,4,11,12,14,15,16,17,18] (fun _ => rfl) fun tz => ?_
          refine awp_regW fun KK hKK => ?_
          refine xw_id ?_
          try simp only [go_sem, Nat.reduceEqDiff, reduceIte, Nat.reduceAdd, Nat.reduceMul, Nat.reduceSub, Nat.reduceLT, Nat.reduceLeDiff, fx49_0, fx49_1, fx49_2]
          refine hKK _ _ (Wk.refl _ _ _) ?_; clear hKK KK
          obtain ⟨o52, hi10, hi8⟩ := bnd hi8
          refine awp_cut (fun d51 : (Int × List Int) => o52 = Ex.go d51) (fun d51 : (Int × List Int) => hotspotlaw19_SenderOnce_S6 d46 x50 a1 a4 x40 d51) ?_ ?_
          ·
           refine awp_cond1 (b := (x49.Kind == 3)) rfl (fun h11 => ?_) (fun h11 => ?_)
           ·
            have hi10 := cT hi10 h11
            refine awp_assoc ?_
            refine awp_nr [1,4,11,12,14,15,16,17,18] (fun _ => rfl) fun tz => ?_
            refine awp_regW fun KK hKK => ?_
            refine xw_id ?_
            refine xw_stop 5 (by simp only [go_sem]; rfl) (by simp only [go_sem]; rfl) (by rfl) fun K1 hK1 => ?_
            refine xw_id ?_
            try simp only [go_sem, Nat.reduceEqDiff, reduceIte, Nat.reduceAdd, Nat.reduceMul, Nat.reduceSub, Nat.reduceLT, Nat.reduceLeDiff, Int.reduceToNat, Int.reduceBEq, Int.reduceBNe, Int.reduceLT, Int.reduceLE, Int.reduceAdd, Int.reduceSub, Int.reduceMul, Int.reduceNeg, Int.reduceEq, Int.reduceNe, fx49_0, fx49_1, fx49_2]
            refine hK1 _ ?_; clear hK1 K1
            obtain ⟨x55, hvh12, hi10⟩ := bnd hi10
            refine xw_cut 11 [(1, (vi a1)), (4, (.imm (List.flatMap E_Hotspotref19_Step a4) a4.length)), (11, (vb x40)), (12, (.ptr 0 0)), (14, (vi d46.2.1)), (15, (.ref 1 0 d46.2.2.1.length 1)), (16, (vi d46.2.2.2)), (17, (.ptr 2 0)), (18, (.ptr 3 0)), (83, (vb x55))] (by simp only [go_sem]; rfl) (by simp only [go_sem]; rfl) (by rfl) (fun K1 hK1 => ?_) fun tz => ?_
            ·
             refine xw_id ?_
             rcases Bool.eq_false_or_eq_true ((x50.1.Frames.length : Int) != 1) with h12 | h12
             ·
              have hvh12 := cT hvh12 h12
              try simp only [go_sem, Nat.reduceEqDiff, reduceIte, Nat.reduceAdd, Nat.reduceMul, Nat.reduceSub, Nat.reduceLT, Nat.reduceLeDiff, Int.reduceToNat, Int.reduceBEq, Int.reduceBNe, Int.reduceLT, Int.reduceLE, Int.reduceAdd, Int.reduceSub, Int.reduceMul, Int.reduceNeg, Int.reduceEq, Int.reduceNe, fx49_0, fx49_1, fx49_2, h12]
              obtain rfl := someInj hvh12
              exact hK1 _ ⟨rfl, rfl, rfl, rfl, rfl, rfl, rfl, rfl, rfl, rfl, (by first | rfl | (rw [h12]; rfl) | (simp only [h12, Bool.true_and, Bool.false_and, Bool.true_or, Bool.false_or, cond_true, cond_false]; done)), trivial⟩
             ·
              have hvh12 := cF hvh12 h12
              obtain ⟨x53, bx53, hvh12⟩ := bnd hvh12
              obtain ⟨fx53_0, fx53_1, fx53_2, fx53_3⟩ := idx_some bx53
              simp only [Int.reduceToNat] at fx53_2 fx53_3
              obtain ⟨x54, bx54, hvh12⟩ := bnd hvh12
              try simp only [go_sem, Nat.reduceEqDiff, reduceIte, Nat.reduceAdd, Nat.reduceMul, Nat.reduceSub, Nat.reduceLT, Nat.reduceLeDiff, Int.reduceToNat, Int.reduceBEq, Int.reduceBNe, Int.reduceLT, Int.reduceLE, Int.reduceAdd, Int.reduceSub, Int.reduceMul, Int.reduceNeg, Int.reduceEq, Int.reduceNe, fx49_0, fx49_1, fx49_2, h12, fx53_0, fx53_1, fx53_2, r_Frame_getL, r_Frame_subL, Nat.reduceDiv, Nat.reduceMod]
              refine xcall_p (window_Add_p a1 d46.2.1 bx54) ?_; try dsimp only
              try refine xw_id ?_
              try simp only [go_sem, Nat.reduceEqDiff, reduceIte, Nat.reduceAdd, Nat.reduceMul, Nat.reduceSub, Nat.reduceLT, Nat.reduceLeDiff, Int.reduceToNat, Int.reduceBEq, Int.reduceBNe, Int.reduceLT, Int.reduceLE, Int.reduceAdd, Int.reduceSub, Int.reduceMul, Int.reduceNeg, Int.reduceEq, Int.reduceNe, fx49_0, fx49_1, fx49_2, h12, fx53_0, fx53_1, fx53_2, r_Frame_getL, r_Frame_subL, Nat.reduceDiv, Nat.reduceMod]
              obtain rfl := someInj hvh12
              exact hK1 _ ⟨rfl, rfl, rfl, rfl, rfl, rfl, rfl, rfl, rfl, rfl, (by first | rfl | (rw [h12]; rfl) | (simp only [h12, Bool.true_and, Bool.false_and, Bool.true_or, Bool.false_or, cond_true, cond_false]; done)), trivial⟩
            ·
             refine xw_id ?_
             try simp only [go_sem, Nat.reduceEqDiff, reduceIte, Nat.reduceAdd, Nat.reduceMul, Nat.reduceSub, Nat.reduceLT, Nat.reduceLeDiff, Int.reduceToNat, Int.reduceBEq, Int.reduceBNe, Int.reduceLT, Int.reduceLE, Int.reduceAdd, Int.reduceSub, Int.reduceMul, Int.reduceNeg, Int.reduceEq, Int.reduceNe, fx49_0, fx49_1, fx49_2]
             refine hKK _ _ (Wk.refl _ _ _) ?_; clear hKK KK
             refine awp_cond (b := x55) rfl (fun h13 => ?_) (fun h13 => ?_)
             ·
              have hi10 := cT hi10 h13
              refine awp_assoc ?_
              refine awp_nr [] (fun _ => rfl) fun tz => ?_
              refine awp_regW fun KK hKK => ?_
              refine xw_id ?_
              try simp only [go_sem, Nat.reduceEqDiff, reduceIte, Nat.reduceAdd, Nat.reduceMul, Nat.reduceSub, Nat.reduceLT, Nat.reduceLeDiff, fx49_0, fx49_1, fx49_2]
              refine hKK _ _ (Wk.refl _ _ _) ?_; clear hKK KK
              refine awp_ret ?_
              refine sq_r ?_
              refine bq_r ?_
              refine sq_r ?_
              refine lq_r ?_
              refine bq_r ?_
              refine sq_r ?_
              obtain rfl := someInj hi10
              obtain rfl := Ex.kE_ret hi8
              obtain rfl := Ex.kE_ret hl6
              obtain rfl := Ex.k_ret h0
              refine endW_i ?_
              refine end_ret0 rs7 (rfl) ?_
              try simp only [go_sem, Nat.reduceEqDiff, reduceIte, Nat.reduceAdd, Nat.reduceMul, Nat.reduceSub, Nat.reduceLT, Nat.reduceLeDiff, fz, nilS, packR, List.take_nil, List.take_length, List.length_map, List.length_append, cond_true, cond_false, Nat.ble_eq, ble_self, List.map_append]
              all_goals rfl
             ·
              have hi10 := cF hi10 h13
              refine awp_skip ?_
              refine awp_nr [1,4,11,12,14,15,16,17,18] (fun _ => rfl) fun tz => ?_
              refine awp_regW fun KK hKK => ?_
              refine xw_id ?_
              try simp only [go_sem, Nat.reduceEqDiff, reduceIte, Nat.reduceAdd, Nat.reduceMul, Nat.reduceSub, Nat.reduceLT, Nat.reduceLeDiff, fx49_0, fx49_1, fx49_2]
              refine hKK _ _ (Wk.refl _ _ _) ?_; clear hKK KK
              refine awp_nr1 [1,4,11,12,14,15,16,17,18] (fun _ => rfl) fun tz => ?_
              refine awp_reg1 fun KK hKK => ?_
              refine xw_id ?_
              obtain ⟨x56, bx56, hi10⟩ := bnd hi10
              obtain ⟨fx56_0, fx56_1, fx56_2, fx56_3⟩ := idx_some bx56
              simp only [Int.reduceToNat] at fx56_2 fx56_3
              obtain ⟨x57, bx57, hi10⟩ := bnd hi10
              have bx57 := chk_some bx57
              simp only [Bool.and_eq_true, decide_eq_true_eq] at bx57
              have gx57_0 := bx57
              try simp only [go_sem, Nat.reduceEqDiff, reduceIte, Nat.reduceAdd, Nat.reduceMul, Nat.reduceSub, Nat.reduceLT, Nat.reduceLeDiff, Int.reduceToNat, Int.reduceBEq, Int.reduceBNe, Int.reduceLT, Int.reduceLE, Int.reduceAdd, Int.reduceSub, Int.reduceMul, Int.reduceNeg, Int.reduceEq, Int.reduceNe, fx49_0, fx49_1, fx49_2, fx56_0, fx56_1, fx56_2, r_Frame_getL, r_Frame_subL, Nat.reduceDiv, Nat.reduceMod, gx57_0]
              refine hKK _ ?_; clear hKK KK
              refine sq_n ?_
              obtain rfl := someInj hi10
              exact ⟨_, rfl, (by refine Wk.canonD [] [] [some 0, some 39, some 2, some 3] rfl trivial rfl (tmOU 3 (tmOU 2 (tmOU 1 (tmOU 0 tmO0 rfl List.not_mem_nil (by simp only [upd_get, Nat.reduceEqDiff, reduceIte, Nat.reduceAdd, Nat.reduceMul, Nat.reduceSub, Nat.reduceLT, Nat.reduceLeDiff, if_true, if_false] <;> rfl) (e_Sender_tmx (by rfl) (Tm.clean (Clean.imm (c_Unacked _))))) rfl List.not_mem_nil (by simp only [upd_get, Nat.reduceEqDiff, reduceIte, Nat.reduceAdd, Nat.reduceMul, Nat.reduceSub, Nat.reduceLT, Nat.reduceLeDiff, if_true, if_false] <;> rfl) (TmL.of_eq (by first | rfl | (simp only [List.flatMap_append, List.flatMap_cons, List.flatMap_nil, List.map_append, List.map_cons, List.map_nil, List.append_nil, List.nil_append]; done) | (simp only [List.flatMap_append, List.flatMap_cons, List.flatMap_nil, List.map_append, List.map_cons, List.map_nil, List.append_nil, List.nil_append]; rfl)) (vi_clean _))) rfl List.not_mem_nil (by simp only [upd_get, Nat.reduceEqDiff, reduceIte, Nat.reduceAdd, Nat.reduceMul, Nat.reduceSub, Nat.reduceLT, Nat.reduceLeDiff, if_true, if_false] <;> rfl) (e_Hotspotref19_Told_tmx (by rfl) (Tm.clean (Clean.imm (c_Frame _))) (Tm.clean (Clean.imm (vi_clean _))))) rfl List.not_mem_nil (by simp only [upd_get, Nat.reduceEqDiff, reduceIte, Nat.reduceAdd, Nat.reduceMul, Nat.reduceSub, Nat.reduceLT, Nat.reduceLeDiff, if_true, if_false] <;> rfl) (e_Sender_tmx (by rfl) (Tm.clean (Clean.imm (c_Unacked _))))) (tmAllU 18 (tmAllU 17 (tmAllU 16 (tmAllU 15 (tmAllU 14 (tmAllU 12 (tmAllU 11 (tmAllU 4 (tmAllU 1 tmAll0 (Tm.v _)) (Tm.clean (Clean.imm (c_Hotspotref19_Step _)))) (Tm.v _)) (Tm.ptr rfl)) (Tm.v _)) (Tm.refL rfl ?_)) (Tm.v _)) (Tm.ptr rfl)) (Tm.ptr rfl)); all_goals (first | rfl | (simp only [List.length_take]; omega) | (simp only [List.length_append, List.length_cons, List.length_nil, List.length_modify, List.length_set, Nat.zero_add]; done) | (simp only [List.length_append, List.length_take, List.length_drop, List.length_cons, List.length_nil, List.length_modify, List.length_set, Nat.zero_add]; omega)))⟩
           ·
            have hi10 := cF hi10 h11
            refine awp_skip1 ?_
            refine sq_n ?_
            obtain rfl := someInj hi10
            exact ⟨_, rfl, (by refine Wk.canonD [] [] [some 0, some 1, some 2, some 3] rfl trivial rfl (tmOU 3 (tmOU 2 (tmOU 1 (tmOU 0 tmO0 rfl List.not_mem_nil (by simp only [upd_get, Nat.reduceEqDiff, reduceIte, Nat.reduceAdd, Nat.reduceMul, Nat.reduceSub, Nat.reduceLT, Nat.reduceLeDiff, if_true, if_false] <;> rfl) (e_Sender_tmx (by rfl) (Tm.clean (Clean.imm (c_Unacked _))))) rfl List.not_mem_nil (by simp only [upd_get, Nat.reduceEqDiff, reduceIte, Nat.reduceAdd, Nat.reduceMul, Nat.reduceSub, Nat.reduceLT, Nat.reduceLeDiff, if_true, if_false] <;> rfl) (TmL.of_eq (by first | rfl | (simp only [List.flatMap_append, List.flatMap_cons, List.flatMap_nil, List.map_append, List.map_cons, List.map_nil, List.append_nil, List.nil_append]; done) | (simp only [List.flatMap_append, List.flatMap_cons, List.flatMap_nil, List.map_append, List.map_cons, List.map_nil, List.append_nil, List.nil_append]; rfl)) (vi_clean _))) rfl List.not_mem_nil (by simp only [upd_get, Nat.reduceEqDiff, reduceIte, Nat.reduceAdd, Nat.reduceMul, Nat.reduceSub, Nat.reduceLT, Nat.reduceLeDiff, if_true, if_false] <;> rfl) (e_Hotspotref19_Told_tmx (by rfl) (Tm.clean (Clean.imm (c_Frame _))) (Tm.clean (Clean.imm (vi_clean _))))) rfl List.not_mem_nil (by simp only [upd_get, Nat.reduceEqDiff, reduceIte, Nat.reduceAdd, Nat.reduceMul, Nat.reduceSub, Nat.reduceLT, Nat.reduceLeDiff, if_true, if_false] <;> rfl) (e_Sender_tmx (by rfl) (Tm.clean (Clean.imm (c_Unacked _))))) (tmAllU 18 (tmAllU 17 (tmAllU 16 (tmAllU 15 (tmAllU 14 (tmAllU 12 (tmAllU 11 (tmAllU 4 (tmAllU 1 tmAll0 (Tm.v _)) (Tm.clean (Clean.imm (c_Hotspotref19_Step _)))) (Tm.v _)) (Tm.ptr rfl)) (Tm.v _)) (Tm.refL rfl ?_)) (Tm.v _)) (Tm.ptr rfl)) (Tm.ptr rfl)); all_goals (first | rfl | (simp only [List.length_take]; omega) | (simp only [List.length_append, List.length_cons, List.length_nil, List.length_modify, List.length_set, Nat.zero_add]; done) | (simp only [List.length_append, List.length_take, List.length_drop, List.length_cons, List.length_nil, List.length_modify, List.length_set, Nat.zero_add]; omega)))⟩
          ·
           rintro d51 rfl
           have hi8 := Ex.kE_go hi8
           clear hi10
           unfold hotspotlaw19_SenderOnce_S6
           refine awp_assoc ?_
           refine awp_nr [1,4,11,12,14,15,16,17,18] (fun _ => rfl) fun tz => ?_
           refine awp_regW fun KK hKK => ?_
           refine xw_id ?_
           try simp only [go_sem, Nat.reduceEqDiff, reduceIte, Nat.reduceAdd, Nat.reduceMul, Nat.reduceSub, Nat.reduceLT, Nat.reduceLeDiff]
           refine hKK _ _ (Wk.refl _ _ _) ?_; clear hKK KK
           obtain ⟨o59, hi14, hi8⟩ := bnd hi8
           refine awp_cut (fun d58 : (List Int) => o59 = Ex.go d58) (fun d58 : (List Int) => hotspotlaw19_SenderOnce_S7 d46 x50 a1 a4 x40 d51 d58) ?_ ?_
           ·
            refine awp_block1 ?_
            refine awp_loopS (fun n (d60 : (List Int × Int)) => hotspotlaw19_SenderOnce_L9 x50 n d60 = some o59) (fun d60 : (List Int × Int) => hotspotlaw19_SenderOnce_S8 d46 x50 a1 a4 x40 d51 d60) big (d51.2, 0) (by refine Wk.canonD [] [] [some 0, some 1, some 2, some 3] rfl trivial rfl (tmOU 3 (tmOU 2 (tmOU 1 (tmOU 0 tmO0 rfl List.not_mem_nil (by simp only [upd_get, Nat.reduceEqDiff, reduceIte, Nat.reduceAdd, Nat.reduceMul, Nat.reduceSub, Nat.reduceLT, Nat.reduceLeDiff, if_true, if_false] <;> rfl) (e_Sender_tmx (by rfl) (Tm.clean (Clean.imm (c_Unacked _))))) rfl List.not_mem_nil (by simp only [upd_get, Nat.reduceEqDiff, reduceIte, Nat.reduceAdd, Nat.reduceMul, Nat.reduceSub, Nat.reduceLT, Nat.reduceLeDiff, if_true, if_false] <;> rfl) (TmL.of_eq (by first | rfl | (simp only [List.flatMap_append, List.flatMap_cons, List.flatMap_nil, List.map_append, List.map_cons, List.map_nil, List.append_nil, List.nil_append]; done) | (simp only [List.flatMap_append, List.flatMap_cons, List.flatMap_nil, List.map_append, List.map_cons, List.map_nil, List.append_nil, List.nil_append]; rfl)) (vi_clean _))) rfl List.not_mem_nil (by simp only [upd_get, Nat.reduceEqDiff, reduceIte, Nat.reduceAdd, Nat.reduceMul, Nat.reduceSub, Nat.reduceLT, Nat.reduceLeDiff, if_true, if_false] <;> rfl) (e_Hotspotref19_Told_tmx (by rfl) (Tm.clean (Clean.imm (c_Frame _))) (Tm.clean (Clean.imm (vi_clean _))))) rfl List.not_mem_nil (by simp only [upd_get, Nat.reduceEqDiff, reduceIte, Nat.reduceAdd, Nat.reduceMul, Nat.reduceSub, Nat.reduceLT, Nat.reduceLeDiff, if_true, if_false] <;> rfl) (e_Sender_tmx (by rfl) (Tm.clean (Clean.imm (c_Unacked _))))) (tmAllU 20 (tmAllU 18 (tmAllU 17 (tmAllU 16 (tmAllU 15 (tmAllU 14 (tmAllU 12 (tmAllU 11 (tmAllU 4 (tmAllU 1 tmAll0 (Tm.v _)) (Tm.clean (Clean.imm (c_Hotspotref19_Step _)))) (Tm.v _)) (Tm.ptr rfl)) (Tm.v _)) (Tm.refL rfl ?_)) (Tm.v _)) (Tm.ptr rfl)) (Tm.ptr rfl)) (Tm.v _)); all_goals (first | rfl | (simp only [List.length_take]; omega) | (simp only [List.length_append, List.length_cons, List.length_nil, List.length_modify, List.length_set, Nat.zero_add]; done) | (simp only [List.length_append, List.length_take, List.length_drop, List.length_cons, List.length_nil, List.length_modify, List.length_set, Nat.zero_add]; omega))) hi14 ?_
            clear hi14
            rintro n d60 hl16
            rcases n with _ | n15
            ·
             (rw [hotspotlaw19_SenderOnce_L9] at hl16; cases hl16)
            ·
             rw [hotspotlaw19_SenderOnce_L9] at hl16
             unfold hotspotlaw19_SenderOnce_S8
             refine awp_assoc ?_
             refine awp_nr [1,4,11,12,14,15,16,17,18,20] (fun _ => rfl) fun tz => ?_
             refine awp_regW fun KK hKK => ?_
             refine xw_id ?_
             try simp only [go_sem, Nat.reduceEqDiff, reduceIte, Nat.reduceAdd, Nat.reduceMul, Nat.reduceSub, Nat.reduceLT, Nat.reduceLeDiff, Int.reduceToNat, Int.reduceBEq, Int.reduceBNe, Int.reduceLT, Int.reduceLE, Int.reduceAdd, Int.reduceSub, Int.reduceMul, Int.reduceNeg, Int.reduceEq, Int.reduceNe]
             refine hKK _ _ (Wk.refl _ _ _) ?_; clear hKK KK
             refine awp_cond (b := (decide (d60.2 < (x50.1.Numbers.length : Int)))) rfl (fun h17 => ?_) (fun h17 => ?_)
             ·
              have hl16 := cT hl16 h17
              refine awp_skip ?_
              obtain ⟨o62, hi18, hl16⟩ := bnd hl16
              refine awp_cut (fun d61 : (List Int) => o62 = Ex.go d61) (fun d61 : (List Int) => hotspotlaw19_SenderOnce_S10 d46 x50 a1 a4 x40 d51 d60 d61) ?_ ?_
              ·
               refine awp_block1 ?_
               refine awp_nr [1,4,11,12,14,15,16,17,18,20] (fun _ => rfl) fun tz => ?_
               refine awp_regW fun KK hKK => ?_
               refine xw_id ?_
               try simp only [go_sem, Nat.reduceEqDiff, reduceIte, Nat.reduceAdd, Nat.reduceMul, Nat.reduceSub, Nat.reduceLT, Nat.reduceLeDiff]
               refine hKK _ _ (Wk.refl _ _ _) ?_; clear hKK KK
               refine awp_assoc ?_
               refine awp_nr [1,4,11,12,14,15,16,17,18,20,21] (fun _ => rfl) fun tz => ?_
               refine awp_regW fun KK hKK => ?_
               refine xw_id ?_
               try simp only [go_sem, Nat.reduceEqDiff, reduceIte, Nat.reduceAdd, Nat.reduceMul, Nat.reduceSub, Nat.reduceLT, Nat.reduceLeDiff]
               refine hKK _ _ (Wk.refl _ _ _) ?_; clear hKK KK
               obtain ⟨d63, hi19, hi18⟩ := bnd hi18
               refine awp_cut (fun z => d63 = z) (fun d63 : Int => hotspotlaw19_SenderOnce_S11 d46 d60 x50 a1 a4 x40 d51 d63) ?_ ?_
               ·
                refine awp_block1 ?_
                refine awp_loopS (fun n (d64 : (Int × Int)) => hotspotlaw19_SenderOnce_L13 d60 x50 n d64 = some d63) (fun d64 : (Int × Int) => hotspotlaw19_SenderOnce_S12 d46 d60 x50 a1 a4 x40 d51 d64) big ((-1), 0) (by refine Wk.canonD [] [] [some 0, some 1, some 2, some 3] rfl trivial rfl (tmOU 3 (tmOU 2 (tmOU 1 (tmOU 0 tmO0 rfl List.not_mem_nil (by simp only [upd_get, Nat.reduceEqDiff, reduceIte, Nat.reduceAdd, Nat.reduceMul, Nat.reduceSub, Nat.reduceLT, Nat.reduceLeDiff, if_true, if_false] <;> rfl) (e_Sender_tmx (by rfl) (Tm.clean (Clean.imm (c_Unacked _))))) rfl List.not_mem_nil (by simp only [upd_get, Nat.reduceEqDiff, reduceIte, Nat.reduceAdd, Nat.reduceMul, Nat.reduceSub, Nat.reduceLT, Nat.reduceLeDiff, if_true, if_false] <;> rfl) (TmL.of_eq (by first | rfl | (simp only [List.flatMap_append, List.flatMap_cons, List.flatMap_nil, List.map_append, List.map_cons, List.map_nil, List.append_nil, List.nil_append]; done) | (simp only [List.flatMap_append, List.flatMap_cons, List.flatMap_nil, List.map_append, List.map_cons, List.map_nil, List.append_nil, List.nil_append]; rfl)) (vi_clean _))) rfl List.not_mem_nil (by simp only [upd_get, Nat.reduceEqDiff, reduceIte, Nat.reduceAdd, Nat.reduceMul, Nat.reduceSub, Nat.reduceLT, Nat.reduceLeDiff, if_true, if_false] <;> rfl) (e_Hotspotref19_Told_tmx (by rfl) (Tm.clean (Clean.imm (c_Frame _))) (Tm.clean (Clean.imm (vi_clean _))))) rfl List.not_mem_nil (by simp only [upd_get, Nat.reduceEqDiff, reduceIte, Nat.reduceAdd, Nat.reduceMul, Nat.reduceSub, Nat.reduceLT, Nat.reduceLeDiff, if_true, if_false] <;> rfl) (e_Sender_tmx (by rfl) (Tm.clean (Clean.imm (c_Unacked _))))) (tmAllU 22 (tmAllU 21 (tmAllU 20 (tmAllU 18 (tmAllU 17 (tmAllU 16 (tmAllU 15 (tmAllU 14 (tmAllU 12 (tmAllU 11 (tmAllU 4 (tmAllU 1 tmAll0 (Tm.v _)) (Tm.clean (Clean.imm (c_Hotspotref19_Step _)))) (Tm.v _)) (Tm.ptr rfl)) (Tm.v _)) (Tm.refL rfl ?_)) (Tm.v _)) (Tm.ptr rfl)) (Tm.ptr rfl)) (Tm.v _)) (Tm.v _)) (Tm.v _)); all_goals (first | rfl | (simp only [List.length_take]; omega) | (simp only [List.length_append, List.length_cons, List.length_nil, List.length_modify, List.length_set, Nat.zero_add]; done) | (simp only [List.length_append, List.length_take, List.length_drop, List.length_cons, List.length_nil, List.length_modify, List.length_set, Nat.zero_add]; omega))) hi19 ?_
                clear hi19
                rintro n d64 hl21
                rcases n with _ | n20
                ·
                 (rw [hotspotlaw19_SenderOnce_L13] at hl21; cases hl21)
                ·
                 rw [hotspotlaw19_SenderOnce_L13] at hl21
                 unfold hotspotlaw19_SenderOnce_S12
                 refine awp_assoc ?_
                 refine awp_nr [1,4,11,12,14,15,16,17,18,20,21,22] (fun _ => rfl) fun tz => ?_
                 refine awp_regW fun KK hKK => ?_
                 refine xw_id ?_
                 try simp only [go_sem, Nat.reduceEqDiff, reduceIte, Nat.reduceAdd, Nat.reduceMul, Nat.reduceSub, Nat.reduceLT, Nat.reduceLeDiff, Int.reduceToNat, Int.reduceBEq, Int.reduceBNe, Int.reduceLT, Int.reduceLE, Int.reduceAdd, Int.reduceSub, Int.reduceMul, Int.reduceNeg, Int.reduceEq, Int.reduceNe]
                 refine hKK _ _ (Wk.refl _ _ _) ?_; clear hKK KK
                 refine awp_cond (b := (decide (d64.2 < ((d60.1.length : Nat) : Int)))) rfl (fun h22 => ?_) (fun h22 => ?_)
                 ·
                  have hl21 := cT hl21 h22
                  refine awp_skip ?_
                  refine awp_blockW ?_
                  refine awp_nr [1,4,11,12,14,15,16,17,18,20,21,22] (fun _ => rfl) fun tz => ?_
                  refine awp_regW fun KK hKK => ?_
                  refine xw_id ?_
                  obtain ⟨x65, bx65, hl21⟩ := bnd hl21
                  obtain ⟨fx65_0, fx65_1, fx65_2, fx65_3⟩ := idx_some bx65
                  have fx65_5 : ((d64.2 : Int) < ((d60.1.length : Nat) : Int)) = True := by first | exact fx65_1 | (simp [List.length_modify, List.length_set]; omega)
                  obtain ⟨x66, bx66, hl21⟩ := bnd hl21
                  obtain ⟨fx66_0, fx66_1, fx66_2, fx66_3⟩ := idx_some bx66
                  try simp only [go_sem, Nat.reduceEqDiff, reduceIte, Nat.reduceAdd, Nat.reduceMul, Nat.reduceSub, Nat.reduceLT, Nat.reduceLeDiff, fx65_0, fx65_1, fx65_2, fx65_5, fx66_0, fx66_1, fx66_2]
                  refine hKK _ _ (Wk.refl _ _ _) ?_; clear hKK KK
                  refine awp_cond1 (b := (x65 == x66)) rfl (fun h23 => ?_) (fun h23 => ?_)
                  ·
                   have hl21 := cT hl21 h23
                   refine awp_nr1 [1,4,11,12,14,15,16,17,18,20,22] (fun _ => rfl) fun tz => ?_
                   refine awp_reg1 fun KK hKK => ?_
                   refine xw_id ?_
                   try simp only [go_sem, Nat.reduceEqDiff, reduceIte, Nat.reduceAdd, Nat.reduceMul, Nat.reduceSub, Nat.reduceLT, Nat.reduceLeDiff, fx65_0, fx65_1, fx65_2, fx65_5, fx66_0, fx66_1, fx66_2]
                   refine hKK _ ?_; clear hKK KK
                   refine bq_n ?_
                   refine seqW_i ?_
                   refine awp_nr1 [1,4,11,12,14,15,16,17,18,20,21,22] (fun _ => rfl) fun tz => ?_
                   refine awp_reg1 fun KK hKK => ?_
                   refine xw_id ?_
                   try simp only [go_sem, Nat.reduceEqDiff, reduceIte, Nat.reduceAdd, Nat.reduceMul, Nat.reduceSub, Nat.reduceLT, Nat.reduceLeDiff, fx65_0, fx65_1, fx65_2, fx65_5, fx66_0, fx66_1, fx66_2]
                   refine hKK _ ?_; clear hKK KK
                   refine lq_n ?_
                   exact ⟨n20, (d64.2, IntKind.wrap .i64 (d64.2 + 1)), rfl, hl21, (by refine Wk.canonD [] [] [some 0, some 1, some 2, some 3] rfl trivial rfl (tmOU 3 (tmOU 2 (tmOU 1 (tmOU 0 tmO0 rfl List.not_mem_nil (by simp only [upd_get, Nat.reduceEqDiff, reduceIte, Nat.reduceAdd, Nat.reduceMul, Nat.reduceSub, Nat.reduceLT, Nat.reduceLeDiff, if_true, if_false] <;> rfl) (e_Sender_tmx (by rfl) (Tm.clean (Clean.imm (c_Unacked _))))) rfl List.not_mem_nil (by simp only [upd_get, Nat.reduceEqDiff, reduceIte, Nat.reduceAdd, Nat.reduceMul, Nat.reduceSub, Nat.reduceLT, Nat.reduceLeDiff, if_true, if_false] <;> rfl) (TmL.of_eq (by first | rfl | (simp only [List.flatMap_append, List.flatMap_cons, List.flatMap_nil, List.map_append, List.map_cons, List.map_nil, List.append_nil, List.nil_append]; done) | (simp only [List.flatMap_append, List.flatMap_cons, List.flatMap_nil, List.map_append, List.map_cons, List.map_nil, List.append_nil, List.nil_append]; rfl)) (vi_clean _))) rfl List.not_mem_nil (by simp only [upd_get, Nat.reduceEqDiff, reduceIte, Nat.reduceAdd, Nat.reduceMul, Nat.reduceSub, Nat.reduceLT, Nat.reduceLeDiff, if_true, if_false] <;> rfl) (e_Hotspotref19_Told_tmx (by rfl) (Tm.clean (Clean.imm (c_Frame _))) (Tm.clean (Clean.imm (vi_clean _))))) rfl List.not_mem_nil (by simp only [upd_get, Nat.reduceEqDiff, reduceIte, Nat.reduceAdd, Nat.reduceMul, Nat.reduceSub, Nat.reduceLT, Nat.reduceLeDiff, if_true, if_false] <;> rfl) (e_Sender_tmx (by rfl) (Tm.clean (Clean.imm (c_Unacked _))))) (tmAllU 22 (tmAllU 21 (tmAllU 20 (tmAllU 18 (tmAllU 17 (tmAllU 16 (tmAllU 15 (tmAllU 14 (tmAllU 12 (tmAllU 11 (tmAllU 4 (tmAllU 1 tmAll0 (Tm.v _)) (Tm.clean (Clean.imm (c_Hotspotref19_Step _)))) (Tm.v _)) (Tm.ptr rfl)) (Tm.v _)) (Tm.refL rfl ?_)) (Tm.v _)) (Tm.ptr rfl)) (Tm.ptr rfl)) (Tm.v _)) (Tm.v _)) (Tm.v _)); all_goals (first | rfl | (simp only [List.length_take]; omega) | (simp only [List.length_append, List.length_cons, List.length_nil, List.length_modify, List.length_set, Nat.zero_add]; done) | (simp only [List.length_append, List.length_take, List.length_drop, List.length_cons, List.length_nil, List.length_modify, List.length_set, Nat.zero_add]; omega)))⟩
                  ·
                   have hl21 := cF hl21 h23
                   refine awp_skip1 ?_
                   refine bq_n ?_
                   refine seqW_i ?_
                   refine awp_nr1 [1,4,11,12,14,15,16,17,18,20,21,22] (fun _ => rfl) fun tz => ?_
                   refine awp_reg1 fun KK hKK => ?_
                   refine xw_id ?_
                   try simp only [go_sem, Nat.reduceEqDiff, reduceIte, Nat.reduceAdd, Nat.reduceMul, Nat.reduceSub, Nat.reduceLT, Nat.reduceLeDiff, fx65_0, fx65_1, fx65_2, fx65_5, fx66_0, fx66_1, fx66_2]
                   refine hKK _ ?_; clear hKK KK
                   refine lq_n ?_
                   exact ⟨n20, (d64.1, IntKind.wrap .i64 (d64.2 + 1)), rfl, hl21, (by refine Wk.canonD [] [] [some 0, some 1, some 2, some 3] rfl trivial rfl (tmOU 3 (tmOU 2 (tmOU 1 (tmOU 0 tmO0 rfl List.not_mem_nil (by simp only [upd_get, Nat.reduceEqDiff, reduceIte, Nat.reduceAdd, Nat.reduceMul, Nat.reduceSub, Nat.reduceLT, Nat.reduceLeDiff, if_true, if_false] <;> rfl) (e_Sender_tmx (by rfl) (Tm.clean (Clean.imm (c_Unacked _))))) rfl List.not_mem_nil (by simp only [upd_get, Nat.reduceEqDiff, reduceIte, Nat.reduceAdd, Nat.reduceMul, Nat.reduceSub, Nat.reduceLT, Nat.reduceLeDiff, if_true, if_false] <;> rfl) (TmL.of_eq (by first | rfl | (simp only [List.flatMap_append, List.flatMap_cons, List.flatMap_nil, List.map_append, List.map_cons, List.map_nil, List.append_nil, List.nil_append]; done) | (simp only [List.flatMap_append, List.flatMap_cons, List.flatMap_nil, List.map_append, List.map_cons, List.map_nil, List.append_nil, List.nil_append]; rfl)) (vi_clean _))) rfl List.not_mem_nil (by simp only [upd_get, Nat.reduceEqDiff, reduceIte, Nat.reduceAdd, Nat.reduceMul, Nat.reduceSub, Nat.reduceLT, Nat.reduceLeDiff, if_true, if_false] <;> rfl) (e_Hotspotref19_Told_tmx (by rfl) (Tm.clean (Clean.imm (c_Frame _))) (Tm.clean (Clean.imm (vi_clean _))))) rfl List.not_mem_nil (by simp only [upd_get, Nat.reduceEqDiff, reduceIte, Nat.reduceAdd, Nat.reduceMul, Nat.reduceSub, Nat.reduceLT, Nat.reduceLeDiff, if_true, if_false] <;> rfl) (e_Sender_tmx (by rfl) (Tm.clean (Clean.imm (c_Unacked _))))) (tmAllU 22 (tmAllU 21 (tmAllU 20 (tmAllU 18 (tmAllU 17 (tmAllU 16 (tmAllU 15 (tmAllU 14 (tmAllU 12 (tmAllU 11 (tmAllU 4 (tmAllU 1 tmAll0 (Tm.v _)) (Tm.clean (Clean.imm (c_Hotspotref19_Step _)))) (Tm.v _)) (Tm.ptr rfl)) (Tm.v _)) (Tm.refL rfl ?_)) (Tm.v _)) (Tm.ptr rfl)) (Tm.ptr rfl)) (Tm.v _)) (Tm.v _)) (Tm.v _)); all_goals (first | rfl | (simp only [List.length_take]; omega) | (simp only [List.length_append, List.length_cons, List.length_nil, List.length_modify, List.length_set, Nat.zero_add]; done) | (simp only [List.length_append, List.length_take, List.length_drop, List.length_cons, List.length_nil, List.length_modify, List.length_set, Nat.zero_add]; omega)))⟩
                 ·
                  have hl21 := cF hl21 h22
                  refine awp_exit ?_
                  refine lq_e ?_
                  refine bq_e ?_
                  refine sq_n ?_
                  obtain rfl := someInj hl21
                  exact ⟨_, rfl, (by refine Wk.canonD [] [] [some 0, some 1, some 2, some 3] rfl trivial rfl (tmOU 3 (tmOU 2 (tmOU 1 (tmOU 0 tmO0 rfl List.not_mem_nil (by simp only [upd_get, Nat.reduceEqDiff, reduceIte, Nat.reduceAdd, Nat.reduceMul, Nat.reduceSub, Nat.reduceLT, Nat.reduceLeDiff, if_true, if_false] <;> rfl) (e_Sender_tmx (by rfl) (Tm.clean (Clean.imm (c_Unacked _))))) rfl List.not_mem_nil (by simp only [upd_get, Nat.reduceEqDiff, reduceIte, Nat.reduceAdd, Nat.reduceMul, Nat.reduceSub, Nat.reduceLT, Nat.reduceLeDiff, if_true, if_false] <;> rfl) (TmL.of_eq (by first | rfl | (simp only [List.flatMap_append, List.flatMap_cons, List.flatMap_nil, List.map_append, List.map_cons, List.map_nil, List.append_nil, List.nil_append]; done) | (simp only [List.flatMap_append, List.flatMap_cons, List.flatMap_nil, List.map_append, List.map_cons, List.map_nil, List.append_nil, List.nil_append]; rfl)) (vi_clean _))) rfl List.not_mem_nil (by simp only [upd_get, Nat.reduceEqDiff, reduceIte, Nat.reduceAdd, Nat.reduceMul, Nat.reduceSub, Nat.reduceLT, Nat.reduceLeDiff, if_true, if_false] <;> rfl) (e_Hotspotref19_Told_tmx (by rfl) (Tm.clean (Clean.imm (c_Frame _))) (Tm.clean (Clean.imm (vi_clean _))))) rfl List.not_mem_nil (by simp only [upd_get, Nat.reduceEqDiff, reduceIte, Nat.reduceAdd, Nat.reduceMul, Nat.reduceSub, Nat.reduceLT, Nat.reduceLeDiff, if_true, if_false] <;> rfl) (e_Sender_tmx (by rfl) (Tm.clean (Clean.imm (c_Unacked _))))) (tmAllU 21 (tmAllU 20 (tmAllU 18 (tmAllU 17 (tmAllU 16 (tmAllU 15 (tmAllU 14 (tmAllU 12 (tmAllU 11 (tmAllU 4 (tmAllU 1 tmAll0 (Tm.v _)) (Tm.clean (Clean.imm (c_Hotspotref19_Step _)))) (Tm.v _)) (Tm.ptr rfl)) (Tm.v _)) (Tm.refL rfl ?_)) (Tm.v _)) (Tm.ptr rfl)) (Tm.ptr rfl)) (Tm.v _)) (Tm.v _)); all_goals (first | rfl | (simp only [List.length_take]; omega) | (simp only [List.length_append, List.length_cons, List.length_nil, List.length_modify, List.length_set, Nat.zero_add]; done) | (simp only [List.length_append, List.length_take, List.length_drop, List.length_cons, List.length_nil, List.length_modify, List.length_set, Nat.zero_add]; omega)))⟩
               ·
                rintro _ rfl
                clear hi19
                unfold hotspotlaw19_SenderOnce_S11
                refine awp_assoc ?_
                refine awp_nr [1,4,11,12,14,15,16,17,18,20,21] (fun _ => rfl) fun tz => ?_
                refine awp_regW fun KK hKK => ?_
                refine xw_id ?_
                try simp only [go_sem, Nat.reduceEqDiff, reduceIte, Nat.reduceAdd, Nat.reduceMul, Nat.reduceSub, Nat.reduceLT, Nat.reduceLeDiff]
                refine hKK _ _ (Wk.refl _ _ _) ?_; clear hKK KK
                refine awp_cond (b := (decide (d63 < 0))) rfl (fun h24 => ?_) (fun h24 => ?_)
                ·
                 have hi18 := cT hi18 h24
                 refine awp_assoc ?_
                 refine awp_nr [] (fun _ => rfl) fun tz => ?_
                 refine awp_regW fun KK hKK => ?_
                 refine xw_id ?_
                 try simp only [go_sem, Nat.reduceEqDiff, reduceIte, Nat.reduceAdd, Nat.reduceMul, Nat.reduceSub, Nat.reduceLT, Nat.reduceLeDiff]
                 refine hKK _ _ (Wk.refl _ _ _) ?_; clear hKK KK
                 refine awp_ret ?_
                 refine bq_r ?_
                 refine sq_r ?_
                 refine lq_r ?_
                 refine bq_r ?_
                 refine sq_r ?_
                 refine bq_r ?_
                 refine sq_r ?_
                 refine lq_r ?_
                 refine bq_r ?_
                 refine sq_r ?_
                 obtain rfl := someInj hi18
                 obtain rfl := Ex.kE_ret hl16
                 obtain rfl := Ex.kE_ret hi8
                 obtain rfl := Ex.kE_ret hl6
                 obtain rfl := Ex.k_ret h0
                 refine endW_i ?_
                 refine end_ret0 rs7 (rfl) ?_
                 try simp only [go_sem, Nat.reduceEqDiff, reduceIte, Nat.reduceAdd, Nat.reduceMul, Nat.reduceSub, Nat.reduceLT, Nat.reduceLeDiff, fz, nilS, packR, List.take_nil, List.take_length, List.length_map, List.length_append, cond_true, cond_false, Nat.ble_eq, ble_self, List.map_append]
                 all_goals rfl
                ·
                 have hi18 := cF hi18 h24
                 refine awp_skip ?_
                 refine awp_nr1 [1,4,11,12,14,15,16,17,18,20,21] (fun _ => rfl) fun tz => ?_
                 refine awp_regD1 fun KK hKK all hall => ?_
                 refine xd_id ?_
                 try simp only [List.toList_toArray, List.map_cons, List.map_nil, List.size_toArray, List.length_cons, List.length_nil, Nat.zero_add]
                 try simp only [Nat.reduceAdd]
                 obtain ⟨x67, bx67, hi18⟩ := bnd hi18
                 have bx67 := chk_some bx67
                 simp only [Bool.and_eq_true, decide_eq_true_eq] at bx67
                 obtain ⟨gx67_0, gx67_1⟩ := bx67
                 have gp25 : sub? (List.map vi d60.1) 0 (((d63).toNat)) = some (List.map vi (List.take ((d63).toNat) d60.1)) := map_subT _ _ _ (by omega)
                 have gp25l : (List.take ((d63).toNat) d60.1).length = ((d63).toNat) := List.length_take_of_le (by omega)
                 obtain ⟨x68, bx68, hi18⟩ := bnd hi18
                 have bx68 := chk_some bx68
                 simp only [Bool.and_eq_true, decide_eq_true_eq] at bx68
                 have gx68_0 := bx68
                 obtain ⟨x69, bx69, hi18⟩ := bnd hi18
                 have bx69 := chk_some bx69
                 simp only [Bool.and_eq_true, decide_eq_true_eq] at bx69
                 obtain ⟨gx69_0, gx69_1⟩ := bx69
                 have g26 : (((d60.1.length : Nat) : Int) - (IntKind.wrap .i64 (d63 + 1))).toNat = d60.1.length - (IntKind.wrap .i64 (d63 + 1)).toNat := by omega
                 have gp27 : sub? (List.map vi d60.1) ((IntKind.wrap .i64 (d63 + 1)).toNat) ((d60.1.length - (IntKind.wrap .i64 (d63 + 1)).toNat)) = some (List.map vi (List.drop ((IntKind.wrap .i64 (d63 + 1)).toNat) d60.1)) := map_subD _ _ _ (by omega)
                 obtain ⟨x70, bx70, hi18⟩ := bnd hi18
                 have bx70 := chk_some bx70
                 simp only [Bool.and_eq_true, decide_eq_true_eq] at bx70
                 have gx70_0 := bx70
                 simp only [go_sem, Nat.reduceEqDiff, reduceIte, Nat.reduceMul, Nat.reduceSub, Nat.reduceLT, Nat.reduceLeDiff, Int.reduceToNat, Int.reduceBEq, Int.reduceBNe, Int.reduceLT, Int.reduceLE, Int.reduceAdd, Int.reduceSub, Int.reduceMul, Int.reduceNeg, Int.reduceEq, Int.reduceNe, gx67_0, gx67_1, Int.sub_zero, gp25, gp25l, gx68_0, gx69_0, gx69_1, g26, gp27, gx70_0]
                 try simp only [Nat.reduceAdd]
                 try simp only [go_sem, Nat.reduceEqDiff, reduceIte, Nat.reduceMul, Nat.reduceSub, Nat.reduceLT, Nat.reduceLeDiff, Int.reduceToNat, Int.reduceBEq, Int.reduceBNe, Int.reduceLT, Int.reduceLE, Int.reduceAdd, Int.reduceSub, Int.reduceMul, Int.reduceNeg, Int.reduceEq, Int.reduceNe, gx67_0, gx67_1, Int.sub_zero, gp25, gp25l, gx68_0, gx69_0, gx69_1, g26, gp27, gx70_0]
                 try simp only [Nat.reduceAdd]
                 try simp only [go_sem, Nat.reduceEqDiff, reduceIte, Nat.reduceMul, Nat.reduceSub, Nat.reduceLT, Nat.reduceLeDiff, Int.reduceToNat, Int.reduceBEq, Int.reduceBNe, Int.reduceLT, Int.reduceLE, Int.reduceAdd, Int.reduceSub, Int.reduceMul, Int.reduceNeg, Int.reduceEq, Int.reduceNe, gx67_0, gx67_1, Int.sub_zero, gp25, gp25l, gx68_0, gx69_0, gx69_1, g26, gp27, gx70_0]
                 refine And.intro ?_ (hKK _ ?_)
                 ·
                  subst hall
                  clear hKK KK
                  first | (simp [printsOk, apartP, clash, meet]; done) | (simp [printsOk, apartP, clash, meet]; decide +kernel) | decide +kernel
                 ·
                  clear hKK KK hall all
                  refine bq_n ?_
                  refine sq_n ?_
                  obtain rfl := someInj hi18
                  exact ⟨_, rfl, (by refine Wk.canonD [] [] [some 0, some 15, some 2, some 3] rfl trivial rfl (tmOU 3 (tmOU 2 (tmOU 1 (tmOU 0 tmO0 rfl List.not_mem_nil (by simp only [upd_get, Nat.reduceEqDiff, reduceIte, Nat.reduceAdd, Nat.reduceMul, Nat.reduceSub, Nat.reduceLT, Nat.reduceLeDiff, if_true, if_false] <;> rfl) (e_Sender_tmx (by rfl) (Tm.clean (Clean.imm (c_Unacked _))))) rfl List.not_mem_nil (by simp only [upd_get, Nat.reduceEqDiff, reduceIte, Nat.reduceAdd, Nat.reduceMul, Nat.reduceSub, Nat.reduceLT, Nat.reduceLeDiff, if_true, if_false] <;> rfl) (TmL.of_eq (by first | rfl | (simp only [List.flatMap_append, List.flatMap_cons, List.flatMap_nil, List.map_append, List.map_cons, List.map_nil, List.append_nil, List.nil_append]; done) | (simp only [List.flatMap_append, List.flatMap_cons, List.flatMap_nil, List.map_append, List.map_cons, List.map_nil, List.append_nil, List.nil_append]; rfl)) (vi_clean _))) rfl List.not_mem_nil (by simp only [upd_get, Nat.reduceEqDiff, reduceIte, Nat.reduceAdd, Nat.reduceMul, Nat.reduceSub, Nat.reduceLT, Nat.reduceLeDiff, if_true, if_false] <;> rfl) (e_Hotspotref19_Told_tmx (by rfl) (Tm.clean (Clean.imm (c_Frame _))) (Tm.clean (Clean.imm (vi_clean _))))) rfl List.not_mem_nil (by simp only [upd_get, Nat.reduceEqDiff, reduceIte, Nat.reduceAdd, Nat.reduceMul, Nat.reduceSub, Nat.reduceLT, Nat.reduceLeDiff, if_true, if_false] <;> rfl) (e_Sender_tmx (by rfl) (Tm.clean (Clean.imm (c_Unacked _))))) (tmAllU 20 (tmAllU 18 (tmAllU 17 (tmAllU 16 (tmAllU 15 (tmAllU 14 (tmAllU 12 (tmAllU 11 (tmAllU 4 (tmAllU 1 tmAll0 (Tm.v _)) (Tm.clean (Clean.imm (c_Hotspotref19_Step _)))) (Tm.v _)) (Tm.ptr rfl)) (Tm.v _)) (Tm.refL rfl ?_)) (Tm.v _)) (Tm.ptr rfl)) (Tm.ptr rfl)) (Tm.v _)); all_goals (first | rfl | (simp only [List.length_take]; omega) | (simp only [List.length_append, List.length_cons, List.length_nil, List.length_modify, List.length_set, Nat.zero_add]; done) | (simp only [List.length_append, List.length_take, List.length_drop, List.length_cons, List.length_nil, List.length_modify, List.length_set, Nat.zero_add]; omega)))⟩
              ·
               rintro d61 rfl
               have hl16 := Ex.kE_go hl16
               clear hi18
               unfold hotspotlaw19_SenderOnce_S10
               refine awp_nr1 [1,4,11,12,14,15,16,17,18,20] (fun _ => rfl) fun tz => ?_
               refine awp_reg1 fun KK hKK => ?_
               refine xw_id ?_
               try simp only [go_sem, Nat.reduceEqDiff, reduceIte, Nat.reduceAdd, Nat.reduceMul, Nat.reduceSub, Nat.reduceLT, Nat.reduceLeDiff]
               refine hKK _ ?_; clear hKK KK
               refine lq_n ?_
               exact ⟨n15, (d61, IntKind.wrap .i64 (d60.2 + 1)), rfl, hl16, (by refine Wk.canonD [] [] [some 0, some 1, some 2, some 3] rfl trivial rfl (tmOU 3 (tmOU 2 (tmOU 1 (tmOU 0 tmO0 rfl List.not_mem_nil (by simp only [upd_get, Nat.reduceEqDiff, reduceIte, Nat.reduceAdd, Nat.reduceMul, Nat.reduceSub, Nat.reduceLT, Nat.reduceLeDiff, if_true, if_false] <;> rfl) (e_Sender_tmx (by rfl) (Tm.clean (Clean.imm (c_Unacked _))))) rfl List.not_mem_nil (by simp only [upd_get, Nat.reduceEqDiff, reduceIte, Nat.reduceAdd, Nat.reduceMul, Nat.reduceSub, Nat.reduceLT, Nat.reduceLeDiff, if_true, if_false] <;> rfl) (TmL.of_eq (by first | rfl | (simp only [List.flatMap_append, List.flatMap_cons, List.flatMap_nil, List.map_append, List.map_cons, List.map_nil, List.append_nil, List.nil_append]; done) | (simp only [List.flatMap_append, List.flatMap_cons, List.flatMap_nil, List.map_append, List.map_cons, List.map_nil, List.append_nil, List.nil_append]; rfl)) (vi_clean _))) rfl List.not_mem_nil (by simp only [upd_get, Nat.reduceEqDiff, reduceIte, Nat.reduceAdd, Nat.reduceMul, Nat.reduceSub, Nat.reduceLT, Nat.reduceLeDiff, if_true, if_false] <;> rfl) (e_Hotspotref19_Told_tmx (by rfl) (Tm.clean (Clean.imm (c_Frame _))) (Tm.clean (Clean.imm (vi_clean _))))) rfl List.not_mem_nil (by simp only [upd_get, Nat.reduceEqDiff, reduceIte, Nat.reduceAdd, Nat.reduceMul, Nat.reduceSub, Nat.reduceLT, Nat.reduceLeDiff, if_true, if_false] <;> rfl) (e_Sender_tmx (by rfl) (Tm.clean (Clean.imm (c_Unacked _))))) (tmAllU 20 (tmAllU 18 (tmAllU 17 (tmAllU 16 (tmAllU 15 (tmAllU 14 (tmAllU 12 (tmAllU 11 (tmAllU 4 (tmAllU 1 tmAll0 (Tm.v _)) (Tm.clean (Clean.imm (c_Hotspotref19_Step _)))) (Tm.v _)) (Tm.ptr rfl)) (Tm.v _)) (Tm.refL rfl ?_)) (Tm.v _)) (Tm.ptr rfl)) (Tm.ptr rfl)) (Tm.v _)); all_goals (first | rfl | (simp only [List.length_take]; omega) | (simp only [List.length_append, List.length_cons, List.length_nil, List.length_modify, List.length_set, Nat.zero_add]; done) | (simp only [List.length_append, List.length_take, List.length_drop, List.length_cons, List.length_nil, List.length_modify, List.length_set, Nat.zero_add]; omega)))⟩
             ·
              have hl16 := cF hl16 h17
              refine awp_exit ?_
              refine lq_e ?_
              refine bq_e ?_
              refine sq_n ?_
              obtain rfl := someInj hl16
              exact ⟨_, rfl, (by refine Wk.canonD [] [] [some 0, some 1, some 3] rfl trivial rfl (tmOU 2 (tmOU 1 (tmOU 0 tmO0 rfl List.not_mem_nil (by simp only [upd_get, Nat.reduceEqDiff, reduceIte, Nat.reduceAdd, Nat.reduceMul, Nat.reduceSub, Nat.reduceLT, Nat.reduceLeDiff, if_true, if_false] <;> rfl) (e_Sender_tmx (by rfl) (Tm.clean (Clean.imm (c_Unacked _))))) rfl List.not_mem_nil (by simp only [upd_get, Nat.reduceEqDiff, reduceIte, Nat.reduceAdd, Nat.reduceMul, Nat.reduceSub, Nat.reduceLT, Nat.reduceLeDiff, if_true, if_false] <;> rfl) (TmL.of_eq (by first | rfl | (simp only [List.flatMap_append, List.flatMap_cons, List.flatMap_nil, List.map_append, List.map_cons, List.map_nil, List.append_nil, List.nil_append]; done) | (simp only [List.flatMap_append, List.flatMap_cons, List.flatMap_nil, List.map_append, List.map_cons, List.map_nil, List.append_nil, List.nil_append]; rfl)) (vi_clean _))) rfl List.not_mem_nil (by simp only [upd_get, Nat.reduceEqDiff, reduceIte, Nat.reduceAdd, Nat.reduceMul, Nat.reduceSub, Nat.reduceLT, Nat.reduceLeDiff, if_true, if_false] <;> rfl) (e_Sender_tmx (by rfl) (Tm.clean (Clean.imm (c_Unacked _))))) (tmAllU 18 (tmAllU 16 (tmAllU 15 (tmAllU 14 (tmAllU 12 (tmAllU 11 (tmAllU 4 (tmAllU 1 tmAll0 (Tm.v _)) (Tm.clean (Clean.imm (c_Hotspotref19_Step _)))) (Tm.v _)) (Tm.ptr rfl)) (Tm.v _)) (Tm.refL rfl ?_)) (Tm.v _)) (Tm.ptr rfl)); all_goals (first | rfl | (simp only [List.length_take]; omega) | (simp only [List.length_append, List.length_cons, List.length_nil, List.length_modify, List.length_set, Nat.zero_add]; done) | (simp only [List.length_append, List.length_take, List.length_drop, List.length_cons, List.length_nil, List.length_modify, List.length_set, Nat.zero_add]; omega)))⟩
           ·
            rintro d58 rfl
            have hi8 := Ex.kE_go hi8
            clear hi14
            unfold hotspotlaw19_SenderOnce_S7
            refine awp_assoc ?_
            refine awp_nr [1,4,11,12,14,15,16,18] (fun _ => rfl) fun tz => ?_
            refine awp_regW fun KK hKK => ?_
            refine xw_id ?_
            refine xw_stop 7 (by simp only [go_sem]; rfl) (by simp only [go_sem]; rfl) (by rfl) fun K1 hK1 => ?_
            refine xw_id ?_
            try simp only [go_sem, Nat.reduceEqDiff, reduceIte, Nat.reduceAdd, Nat.reduceMul, Nat.reduceSub, Nat.reduceLT, Nat.reduceLeDiff, Int.reduceToNat, Int.reduceBEq, Int.reduceBNe, Int.reduceLT, Int.reduceLE, Int.reduceAdd, Int.reduceSub, Int.reduceMul, Int.reduceNeg, Int.reduceEq, Int.reduceNe]
            refine hK1 _ ?_; clear hK1 K1
            obtain ⟨x72, hvh28, hi8⟩ := bnd hi8
            refine xw_cut 4 [(1, (vi a1)), (4, (.imm (List.flatMap E_Hotspotref19_Step a4) a4.length)), (11, (vb x40)), (12, (.ptr 0 0)), (14, (vi d51.1)), (15, (.ref 1 0 ((d58).length) 1)), (16, (vi d46.2.2.2)), (18, (.ptr 2 0)), (141, (vb x72))] (by simp only [go_sem]; rfl) (by simp only [go_sem]; rfl) (by rfl) (fun K1 hK1 => ?_) fun tz => ?_
            ·
             refine xw_id ?_
             rcases Bool.eq_false_or_eq_true ((((d58).length : Nat) : Int) != (x50.2.1.Out.length : Int)) with h28 | h28
             ·
              have hvh28 := cT hvh28 h28
              try simp only [go_sem, Nat.reduceEqDiff, reduceIte, Nat.reduceAdd, Nat.reduceMul, Nat.reduceSub, Nat.reduceLT, Nat.reduceLeDiff, Int.reduceToNat, Int.reduceBEq, Int.reduceBNe, Int.reduceLT, Int.reduceLE, Int.reduceAdd, Int.reduceSub, Int.reduceMul, Int.reduceNeg, Int.reduceEq, Int.reduceNe, h28]
              obtain rfl := someInj hvh28
              exact hK1 _ ⟨rfl, rfl, rfl, rfl, rfl, rfl, rfl, rfl, rfl, (by first | rfl | (rw [h28]; rfl) | (simp only [h28, Bool.true_and, Bool.false_and, Bool.true_or, Bool.false_or, cond_true, cond_false]; done)), trivial⟩
             ·
              have hvh28 := cF hvh28 h28
              obtain ⟨x71, bx71, hvh28⟩ := bnd hvh28
              try simp only [go_sem, Nat.reduceEqDiff, reduceIte, Nat.reduceAdd, Nat.reduceMul, Nat.reduceSub, Nat.reduceLT, Nat.reduceLeDiff, Int.reduceToNat, Int.reduceBEq, Int.reduceBNe, Int.reduceLT, Int.reduceLE, Int.reduceAdd, Int.reduceSub, Int.reduceMul, Int.reduceNeg, Int.reduceEq, Int.reduceNe, h28]
              refine xcall_p (sender_Check_p x50.2.1 bx71) ?_; try dsimp only
              try refine xw_id ?_
              try simp only [go_sem, Nat.reduceEqDiff, reduceIte, Nat.reduceAdd, Nat.reduceMul, Nat.reduceSub, Nat.reduceLT, Nat.reduceLeDiff, Int.reduceToNat, Int.reduceBEq, Int.reduceBNe, Int.reduceLT, Int.reduceLE, Int.reduceAdd, Int.reduceSub, Int.reduceMul, Int.reduceNeg, Int.reduceEq, Int.reduceNe, h28]
              obtain rfl := someInj hvh28
              exact hK1 _ ⟨rfl, rfl, rfl, rfl, rfl, rfl, rfl, rfl, rfl, (by first | rfl | (rw [h28]; rfl) | (simp only [h28, Bool.true_and, Bool.false_and, Bool.true_or, Bool.false_or, cond_true, cond_false]; done)), trivial⟩
            ·
             refine xw_id ?_
             refine xw_stop 1 (by simp only [go_sem]; rfl) (by simp only [go_sem]; rfl) (by rfl) fun K1 hK1 => ?_
             refine xw_id ?_
             try simp only [go_sem, Nat.reduceEqDiff, reduceIte, Nat.reduceAdd, Nat.reduceMul, Nat.reduceSub, Nat.reduceLT, Nat.reduceLeDiff, Int.reduceToNat, Int.reduceBEq, Int.reduceBNe, Int.reduceLT, Int.reduceLE, Int.reduceAdd, Int.reduceSub, Int.reduceMul, Int.reduceNeg, Int.reduceEq, Int.reduceNe]
             refine hK1 _ ?_; clear hK1 K1
             obtain ⟨x75, hvh29, hi8⟩ := bnd hi8
             refine xw_cut 9 [(1, (vi a1)), (4, (.imm (List.flatMap E_Hotspotref19_Step a4) a4.length)), (11, (vb x40)), (12, (.ptr 0 0)), (14, (vi d51.1)), (15, (.ref 1 0 ((d58).length) 1)), (16, (vi d46.2.2.2)), (18, (.ptr 2 0)), (151, (vb x75))] (by simp only [go_sem]; rfl) (by simp only [go_sem]; rfl) (by rfl) (fun K1 hK1 => ?_) fun tz => ?_
             ·
              refine xw_id ?_
              rcases Bool.eq_false_or_eq_true x72 with h29 | h29
              ·
               have hvh29 := cT hvh29 h29
               try simp only [go_sem, Nat.reduceEqDiff, reduceIte, Nat.reduceAdd, Nat.reduceMul, Nat.reduceSub, Nat.reduceLT, Nat.reduceLeDiff, Int.reduceToNat, Int.reduceBEq, Int.reduceBNe, Int.reduceLT, Int.reduceLE, Int.reduceAdd, Int.reduceSub, Int.reduceMul, Int.reduceNeg, Int.reduceEq, Int.reduceNe, h29]
               obtain rfl := someInj hvh29
               exact hK1 _ ⟨rfl, rfl, rfl, rfl, rfl, rfl, rfl, rfl, rfl, (by first | rfl | (rw [h29]; rfl) | (simp only [h29, Bool.true_and, Bool.false_and, Bool.true_or, Bool.false_or, cond_true, cond_false]; done)), trivial⟩
              ·
               have hvh29 := cF hvh29 h29
               obtain ⟨x73, bx73, hvh29⟩ := bnd hvh29
               try simp only [go_sem, Nat.reduceEqDiff, reduceIte, Nat.reduceAdd, Nat.reduceMul, Nat.reduceSub, Nat.reduceLT, Nat.reduceLeDiff, Int.reduceToNat, Int.reduceBEq, Int.reduceBNe, Int.reduceLT, Int.reduceLE, Int.reduceAdd, Int.reduceSub, Int.reduceMul, Int.reduceNeg, Int.reduceEq, Int.reduceNe, h29]
               refine xcall_p (sender_Start_p x50.2.1 bx73) ?_; try dsimp only
               try refine xw_id ?_
               obtain ⟨x74, bx74, hvh29⟩ := bnd hvh29
               try simp only [go_sem, Nat.reduceEqDiff, reduceIte, Nat.reduceAdd, Nat.reduceMul, Nat.reduceSub, Nat.reduceLT, Nat.reduceLeDiff, Int.reduceToNat, Int.reduceBEq, Int.reduceBNe, Int.reduceLT, Int.reduceLE, Int.reduceAdd, Int.reduceSub, Int.reduceMul, Int.reduceNeg, Int.reduceEq, Int.reduceNe, h29]
               refine xcall_p (window_Dist_p x73 x50.2.1.Next bx74) ?_; try dsimp only
               try refine xw_id ?_
               try simp only [go_sem, Nat.reduceEqDiff, reduceIte, Nat.reduceAdd, Nat.reduceMul, Nat.reduceSub, Nat.reduceLT, Nat.reduceLeDiff, Int.reduceToNat, Int.reduceBEq, Int.reduceBNe, Int.reduceLT, Int.reduceLE, Int.reduceAdd, Int.reduceSub, Int.reduceMul, Int.reduceNeg, Int.reduceEq, Int.reduceNe, h29]
               obtain rfl := someInj hvh29
               exact hK1 _ ⟨rfl, rfl, rfl, rfl, rfl, rfl, rfl, rfl, rfl, (by first | rfl | (rw [h29]; rfl) | (simp only [h29, Bool.true_and, Bool.false_and, Bool.true_or, Bool.false_or, cond_true, cond_false]; done)), trivial⟩
             ·
              refine xw_id ?_
              try simp only [go_sem, Nat.reduceEqDiff, reduceIte, Nat.reduceAdd, Nat.reduceMul, Nat.reduceSub, Nat.reduceLT, Nat.reduceLeDiff, Int.reduceToNat, Int.reduceBEq, Int.reduceBNe, Int.reduceLT, Int.reduceLE, Int.reduceAdd, Int.reduceSub, Int.reduceMul, Int.reduceNeg, Int.reduceEq, Int.reduceNe]
              refine hKK _ _ (Wk.refl _ _ _) ?_; clear hKK KK
              refine awp_cond (b := x75) rfl (fun h30 => ?_) (fun h30 => ?_)
              ·
               have hi8 := cT hi8 h30
               refine awp_assoc ?_
               refine awp_nr [] (fun _ => rfl) fun tz => ?_
               refine awp_regW fun KK hKK => ?_
               refine xw_id ?_
               try simp only [go_sem, Nat.reduceEqDiff, reduceIte, Nat.reduceAdd, Nat.reduceMul, Nat.reduceSub, Nat.reduceLT, Nat.reduceLeDiff]
               refine hKK _ _ (Wk.refl _ _ _) ?_; clear hKK KK
               refine awp_ret ?_
               refine bq_r ?_
               refine sq_r ?_
               refine lq_r ?_
               refine bq_r ?_
               refine sq_r ?_
               obtain rfl := someInj hi8
               obtain rfl := Ex.kE_ret hl6
               obtain rfl := Ex.k_ret h0
               refine endW_i ?_
               refine end_ret0 rs7 (rfl) ?_
               try simp only [go_sem, Nat.reduceEqDiff, reduceIte, Nat.reduceAdd, Nat.reduceMul, Nat.reduceSub, Nat.reduceLT, Nat.reduceLeDiff, fz, nilS, packR, List.take_nil, List.take_length, List.length_map, List.length_append, cond_true, cond_false, Nat.ble_eq, ble_self, List.map_append]
               all_goals rfl
              ·
               have hi8 := cF hi8 h30
               refine awp_skip ?_
               refine awp_assoc ?_
               refine awp_nr [1,4,11,12,14,15,16,18] (fun _ => rfl) fun tz => ?_
               refine awp_regW fun KK hKK => ?_
               refine xw_id ?_
               try simp only [go_sem, Nat.reduceEqDiff, reduceIte, Nat.reduceAdd, Nat.reduceMul, Nat.reduceSub, Nat.reduceLT, Nat.reduceLeDiff]
               refine hKK _ _ (Wk.refl _ _ _) ?_; clear hKK KK
               obtain ⟨o77, hi31, hi8⟩ := bnd hi8
               refine awp_cut (fun d76 : Unit => o77 = Ex.go d76) (fun d76 : Unit => hotspotlaw19_SenderOnce_S14 d46 d58 x50 a1 a4 x40 d51 d76) ?_ ?_
               ·
                refine awp_block1 ?_
                refine awp_loopS (fun n (d78 : Int) => hotspotlaw19_SenderOnce_L16 d58 x50 n d78 = some o77) (fun d78 : Int => hotspotlaw19_SenderOnce_S15 d46 d58 x50 a1 a4 x40 d51 d78) big 0 (by refine Wk.canonD [] [] [some 0, some 1, some 2] rfl trivial rfl (tmOU 2 (tmOU 1 (tmOU 0 tmO0 rfl List.not_mem_nil (by simp only [upd_get, Nat.reduceEqDiff, reduceIte, Nat.reduceAdd, Nat.reduceMul, Nat.reduceSub, Nat.reduceLT, Nat.reduceLeDiff, if_true, if_false] <;> rfl) (e_Sender_tmx (by rfl) (Tm.clean (Clean.imm (c_Unacked _))))) rfl List.not_mem_nil (by simp only [upd_get, Nat.reduceEqDiff, reduceIte, Nat.reduceAdd, Nat.reduceMul, Nat.reduceSub, Nat.reduceLT, Nat.reduceLeDiff, if_true, if_false] <;> rfl) (TmL.of_eq (by first | rfl | (simp only [List.flatMap_append, List.flatMap_cons, List.flatMap_nil, List.map_append, List.map_cons, List.map_nil, List.append_nil, List.nil_append]; done) | (simp only [List.flatMap_append, List.flatMap_cons, List.flatMap_nil, List.map_append, List.map_cons, List.map_nil, List.append_nil, List.nil_append]; rfl)) (vi_clean _))) rfl List.not_mem_nil (by simp only [upd_get, Nat.reduceEqDiff, reduceIte, Nat.reduceAdd, Nat.reduceMul, Nat.reduceSub, Nat.reduceLT, Nat.reduceLeDiff, if_true, if_false] <;> rfl) (e_Sender_tmx (by rfl) (Tm.clean (Clean.imm (c_Unacked _))))) (tmAllU 23 (tmAllU 18 (tmAllU 16 (tmAllU 15 (tmAllU 14 (tmAllU 12 (tmAllU 11 (tmAllU 4 (tmAllU 1 tmAll0 (Tm.v _)) (Tm.clean (Clean.imm (c_Hotspotref19_Step _)))) (Tm.v _)) (Tm.ptr rfl)) (Tm.v _)) (Tm.refL rfl ?_)) (Tm.v _)) (Tm.ptr rfl)) (Tm.v _)); all_goals (first | rfl | (simp only [List.length_take]; omega) | (simp only [List.length_append, List.length_cons, List.length_nil, List.length_modify, List.length_set, Nat.zero_add]; done) | (simp only [List.length_append, List.length_take, List.length_drop, List.length_cons, List.length_nil, List.length_modify, List.length_set, Nat.zero_add]; omega))) hi31 ?_
                clear hi31
                rintro n d78 hl33
                rcases n with _ | n32
                ·
                 (rw [hotspotlaw19_SenderOnce_L16] at hl33; cases hl33)
                ·
                 rw [hotspotlaw19_SenderOnce_L16] at hl33
                 unfold hotspotlaw19_SenderOnce_S15
                 refine awp_assoc ?_
                 refine awp_nr [1,4,11,12,14,15,16,18,23] (fun _ => rfl) fun tz => ?_
                 refine awp_regW fun KK hKK => ?_
                 refine xw_id ?_
                 try simp only [go_sem, Nat.reduceEqDiff, reduceIte, Nat.reduceAdd, Nat.reduceMul, Nat.reduceSub, Nat.reduceLT, Nat.reduceLeDiff, Int.reduceToNat, Int.reduceBEq, Int.reduceBNe, Int.reduceLT, Int.reduceLE, Int.reduceAdd, Int.reduceSub, Int.reduceMul, Int.reduceNeg, Int.reduceEq, Int.reduceNe]
                 refine hKK _ _ (Wk.refl _ _ _) ?_; clear hKK KK
                 refine awp_cond (b := (decide (d78 < ((d58.length : Nat) : Int)))) rfl (fun h34 => ?_) (fun h34 => ?_)
                 ·
                  have hl33 := cT hl33 h34
                  refine awp_skip ?_
                  refine awp_blockW ?_
                  refine awp_nr [1,4,11,12,14,15,16,18,23] (fun _ => rfl) fun tz => ?_
                  refine awp_regW fun KK hKK => ?_
                  refine xw_id ?_
                  obtain ⟨x79, bx79, hl33⟩ := bnd hl33
                  obtain ⟨fx79_0, fx79_1, fx79_2, fx79_3⟩ := idx_some bx79
                  obtain ⟨x80, bx80, hl33⟩ := bnd hl33
                  obtain ⟨fx80_0, fx80_1, fx80_2, fx80_3⟩ := idx_some bx80
                  have fx80_5 : ((d78 : Int) < ((d58.length : Nat) : Int)) = True := by first | exact fx80_1 | (simp [List.length_modify, List.length_set]; omega)
                  refine xw_stop 14 (by simp only [go_sem]; rfl) (by simp only [go_sem]; rfl) (by rfl) fun K1 hK1 => ?_
                  refine xw_id ?_
                  try simp only [go_sem, Nat.reduceEqDiff, reduceIte, Nat.reduceAdd, Nat.reduceMul, Nat.reduceSub, Nat.reduceLT, Nat.reduceLeDiff, fx79_0, fx79_1, fx79_2, fx80_0, fx80_1, fx80_2, fx80_5]
                  refine hK1 _ ?_; clear hK1 K1
                  obtain ⟨x83, hvh35, hl33⟩ := bnd hl33
                  refine xw_cut 11 [(1, (vi a1)), (4, (.imm (List.flatMap E_Hotspotref19_Step a4) a4.length)), (11, (vb x40)), (12, (.ptr 0 0)), (14, (vi d51.1)), (15, (.ref 1 0 d58.length 1)), (16, (vi d46.2.2.2)), (18, (.ptr 2 0)), (23, (vi d78)), (182, (vb x83))] (by simp only [go_sem]; rfl) (by simp only [go_sem]; rfl) (by rfl) (fun K1 hK1 => ?_) fun tz => ?_
                  ·
                   refine xw_id ?_
                   rcases Bool.eq_false_or_eq_true (x79.Frame.Head.Seq != x80) with h35 | h35
                   ·
                    have hvh35 := cT hvh35 h35
                    try simp only [go_sem, Nat.reduceEqDiff, reduceIte, Nat.reduceAdd, Nat.reduceMul, Nat.reduceSub, Nat.reduceLT, Nat.reduceLeDiff, fx79_0, fx79_1, fx79_2, fx80_0, fx80_1, fx80_2, fx80_5, h35]
                    obtain rfl := someInj hvh35
                    exact hK1 _ ⟨rfl, rfl, rfl, rfl, rfl, rfl, rfl, rfl, rfl, rfl, (by first | rfl | (rw [h35]; rfl) | (simp only [h35, Bool.true_and, Bool.false_and, Bool.true_or, Bool.false_or, cond_true, cond_false]; done)), trivial⟩
                   ·
                    have hvh35 := cF hvh35 h35
                    obtain ⟨x81, bx81, hvh35⟩ := bnd hvh35
                    try simp only [go_sem, Nat.reduceEqDiff, reduceIte, Nat.reduceAdd, Nat.reduceMul, Nat.reduceSub, Nat.reduceLT, Nat.reduceLeDiff, fx79_0, fx79_1, fx79_2, fx80_0, fx80_1, fx80_2, fx80_5, h35]
                    refine xcall_p (sender_Start_p x50.2.1 bx81) ?_; try dsimp only
                    try refine xw_id ?_
                    obtain ⟨x82, bx82, hvh35⟩ := bnd hvh35
                    try simp only [go_sem, Nat.reduceEqDiff, reduceIte, Nat.reduceAdd, Nat.reduceMul, Nat.reduceSub, Nat.reduceLT, Nat.reduceLeDiff, fx79_0, fx79_1, fx79_2, fx80_0, fx80_1, fx80_2, fx80_5, h35]
                    refine xcall_p (window_In_p x81 x50.2.1.Size x80 bx82) ?_; try dsimp only
                    try refine xw_id ?_
                    try simp only [go_sem, Nat.reduceEqDiff, reduceIte, Nat.reduceAdd, Nat.reduceMul, Nat.reduceSub, Nat.reduceLT, Nat.reduceLeDiff, fx79_0, fx79_1, fx79_2, fx80_0, fx80_1, fx80_2, fx80_5, h35]
                    obtain rfl := someInj hvh35
                    exact hK1 _ ⟨rfl, rfl, rfl, rfl, rfl, rfl, rfl, rfl, rfl, rfl, (by first | rfl | (rw [h35]; rfl) | (simp only [h35, Bool.true_and, Bool.false_and, Bool.true_or, Bool.false_or, cond_true, cond_false]; done)), trivial⟩
                  ·
                   refine xw_id ?_
                   try simp only [go_sem, Nat.reduceEqDiff, reduceIte, Nat.reduceAdd, Nat.reduceMul, Nat.reduceSub, Nat.reduceLT, Nat.reduceLeDiff, fx79_0, fx79_1, fx79_2, fx80_0, fx80_1, fx80_2, fx80_5]
                   refine hKK _ _ (Wk.refl _ _ _) ?_; clear hKK KK
                   refine awp_cond1 (b := x83) rfl (fun h36 => ?_) (fun h36 => ?_)
                   ·
                    have hl33 := cT hl33 h36
                    refine awp_nr [] (fun _ => rfl) fun tz => ?_
                    refine awp_regW fun KK hKK => ?_
                    refine xw_id ?_
                    try simp only [go_sem, Nat.reduceEqDiff, reduceIte, Nat.reduceAdd, Nat.reduceMul, Nat.reduceSub, Nat.reduceLT, Nat.reduceLeDiff, fx79_0, fx79_1, fx79_2, fx80_0, fx80_1, fx80_2, fx80_5]
                    refine hKK _ _ (Wk.refl _ _ _) ?_; clear hKK KK
                    refine awp_ret1 ?_
                    refine bq_r ?_
                    refine sq_r ?_
                    refine lq_r ?_
                    refine bq_r ?_
                    refine sq_r ?_
                    refine bq_r ?_
                    refine sq_r ?_
                    refine lq_r ?_
                    refine bq_r ?_
                    refine sq_r ?_
                    obtain rfl := someInj hl33
                    obtain rfl := Ex.kE_ret hi8
                    obtain rfl := Ex.kE_ret hl6
                    obtain rfl := Ex.k_ret h0
                    refine endW_i ?_
                    refine end_ret0 rs7 (rfl) ?_
                    try simp only [go_sem, Nat.reduceEqDiff, reduceIte, Nat.reduceAdd, Nat.reduceMul, Nat.reduceSub, Nat.reduceLT, Nat.reduceLeDiff, fz, nilS, packR, List.take_nil, List.take_length, List.length_map, List.length_append, cond_true, cond_false, Nat.ble_eq, ble_self, List.map_append]
                    all_goals rfl
                   ·
                    have hl33 := cF hl33 h36
                    refine awp_skip1 ?_
                    refine bq_n ?_
                    refine seqW_i ?_
                    refine awp_nr1 [1,4,11,12,14,15,16,18,23] (fun _ => rfl) fun tz => ?_
                    refine awp_reg1 fun KK hKK => ?_
                    refine xw_id ?_
                    try simp only [go_sem, Nat.reduceEqDiff, reduceIte, Nat.reduceAdd, Nat.reduceMul, Nat.reduceSub, Nat.reduceLT, Nat.reduceLeDiff, fx79_0, fx79_1, fx79_2, fx80_0, fx80_1, fx80_2, fx80_5]
                    refine hKK _ ?_; clear hKK KK
                    refine lq_n ?_
                    exact ⟨n32, IntKind.wrap .i64 (d78 + 1), rfl, hl33, (by refine Wk.canonD [] [] [some 0, some 1, some 2] rfl trivial rfl (tmOU 2 (tmOU 1 (tmOU 0 tmO0 rfl List.not_mem_nil (by simp only [upd_get, Nat.reduceEqDiff, reduceIte, Nat.reduceAdd, Nat.reduceMul, Nat.reduceSub, Nat.reduceLT, Nat.reduceLeDiff, if_true, if_false] <;> rfl) (e_Sender_tmx (by rfl) (Tm.clean (Clean.imm (c_Unacked _))))) rfl List.not_mem_nil (by simp only [upd_get, Nat.reduceEqDiff, reduceIte, Nat.reduceAdd, Nat.reduceMul, Nat.reduceSub, Nat.reduceLT, Nat.reduceLeDiff, if_true, if_false] <;> rfl) (TmL.of_eq (by first | rfl | (simp only [List.flatMap_append, List.flatMap_cons, List.flatMap_nil, List.map_append, List.map_cons, List.map_nil, List.append_nil, List.nil_append]; done) | (simp only [List.flatMap_append, List.flatMap_cons, List.flatMap_nil, List.map_append, List.map_cons, List.map_nil, List.append_nil, List.nil_append]; rfl)) (vi_clean _))) rfl List.not_mem_nil (by simp only [upd_get, Nat.reduceEqDiff, reduceIte, Nat.reduceAdd, Nat.reduceMul, Nat.reduceSub, Nat.reduceLT, Nat.reduceLeDiff, if_true, if_false] <;> rfl) (e_Sender_tmx (by rfl) (Tm.clean (Clean.imm (c_Unacked _))))) (tmAllU 23 (tmAllU 18 (tmAllU 16 (tmAllU 15 (tmAllU 14 (tmAllU 12 (tmAllU 11 (tmAllU 4 (tmAllU 1 tmAll0 (Tm.v _)) (Tm.clean (Clean.imm (c_Hotspotref19_Step _)))) (Tm.v _)) (Tm.ptr rfl)) (Tm.v _)) (Tm.refL rfl ?_)) (Tm.v _)) (Tm.ptr rfl)) (Tm.v _)); all_goals (first | rfl | (simp only [List.length_take]; omega) | (simp only [List.length_append, List.length_cons, List.length_nil, List.length_modify, List.length_set, Nat.zero_add]; done) | (simp only [List.length_append, List.length_take, List.length_drop, List.length_cons, List.length_nil, List.length_modify, List.length_set, Nat.zero_add]; omega)))⟩
                 ·
                  have hl33 := cF hl33 h34
                  refine awp_exit ?_
                  refine lq_e ?_
                  refine bq_e ?_
                  refine sq_n ?_
                  obtain rfl := someInj hl33
                  exact ⟨_, rfl, (by refine Wk.canonD [] [] [some 0, some 1, some 2] rfl trivial rfl (tmOU 2 (tmOU 1 (tmOU 0 tmO0 rfl List.not_mem_nil (by simp only [upd_get, Nat.reduceEqDiff, reduceIte, Nat.reduceAdd, Nat.reduceMul, Nat.reduceSub, Nat.reduceLT, Nat.reduceLeDiff, if_true, if_false] <;> rfl) (e_Sender_tmx (by rfl) (Tm.clean (Clean.imm (c_Unacked _))))) rfl List.not_mem_nil (by simp only [upd_get, Nat.reduceEqDiff, reduceIte, Nat.reduceAdd, Nat.reduceMul, Nat.reduceSub, Nat.reduceLT, Nat.reduceLeDiff, if_true, if_false] <;> rfl) (TmL.of_eq (by first | rfl | (simp only [List.flatMap_append, List.flatMap_cons, List.flatMap_nil, List.map_append, List.map_cons, List.map_nil, List.append_nil, List.nil_append]; done) | (simp only [List.flatMap_append, List.flatMap_cons, List.flatMap_nil, List.map_append, List.map_cons, List.map_nil, List.append_nil, List.nil_append]; rfl)) (vi_clean _))) rfl List.not_mem_nil (by simp only [upd_get, Nat.reduceEqDiff, reduceIte, Nat.reduceAdd, Nat.reduceMul, Nat.reduceSub, Nat.reduceLT, Nat.reduceLeDiff, if_true, if_false] <;> rfl) (e_Sender_tmx (by rfl) (Tm.clean (Clean.imm (c_Unacked _))))) (tmAllU 18 (tmAllU 16 (tmAllU 15 (tmAllU 14 (tmAllU 12 (tmAllU 11 (tmAllU 4 (tmAllU 1 tmAll0 (Tm.v _)) (Tm.clean (Clean.imm (c_Hotspotref19_Step _)))) (Tm.v _)) (Tm.ptr rfl)) (Tm.v _)) (Tm.refL rfl ?_)) (Tm.v _)) (Tm.ptr rfl)); all_goals (first | rfl | (simp only [List.length_take]; omega) | (simp only [List.length_append, List.length_cons, List.length_nil, List.length_modify, List.length_set, Nat.zero_add]; done) | (simp only [List.length_append, List.length_take, List.length_drop, List.length_cons, List.length_nil, List.length_modify, List.length_set, Nat.zero_add]; omega)))⟩
               ·
                rintro d76 rfl
                have hi8 := Ex.kE_go hi8
                clear hi31
                unfold hotspotlaw19_SenderOnce_S14
                refine awp_nr1 [1,4,11,12,14,15,16,18] (fun _ => rfl) fun tz => ?_
                refine awp_reg1 fun KK hKK => ?_
                refine xw_id ?_
                try simp only [go_sem, Nat.reduceEqDiff, reduceIte, Nat.reduceAdd, Nat.reduceMul, Nat.reduceSub, Nat.reduceLT, Nat.reduceLeDiff]
                refine hKK _ ?_; clear hKK KK
                refine bq_n ?_
                refine sq_n ?_
                obtain rfl := someInj hi8
                exact ⟨_, rfl, (by refine Wk.canonD [] [] [some 0, some 1] rfl trivial rfl (tmOU 1 (tmOU 0 tmO0 rfl List.not_mem_nil (by simp only [upd_get, Nat.reduceEqDiff, reduceIte, Nat.reduceAdd, Nat.reduceMul, Nat.reduceSub, Nat.reduceLT, Nat.reduceLeDiff, if_true, if_false] <;> rfl) (e_Sender_tmx (by rfl) (Tm.clean (Clean.imm (c_Unacked _))))) rfl List.not_mem_nil (by simp only [upd_get, Nat.reduceEqDiff, reduceIte, Nat.reduceAdd, Nat.reduceMul, Nat.reduceSub, Nat.reduceLT, Nat.reduceLeDiff, if_true, if_false] <;> rfl) (TmL.of_eq (by first | rfl | (simp only [List.flatMap_append, List.flatMap_cons, List.flatMap_nil, List.map_append, List.map_cons, List.map_nil, List.append_nil, List.nil_append]; done) | (simp only [List.flatMap_append, List.flatMap_cons, List.flatMap_nil, List.map_append, List.map_cons, List.map_nil, List.append_nil, List.nil_append]; rfl)) (vi_clean _))) (tmAllU 16 (tmAllU 15 (tmAllU 14 (tmAllU 12 (tmAllU 11 (tmAllU 4 (tmAllU 1 tmAll0 (Tm.v _)) (Tm.clean (Clean.imm (c_Hotspotref19_Step _)))) (Tm.v _)) (Tm.ptr rfl)) (Tm.v _)) (Tm.refL rfl ?_)) (Tm.v _)); all_goals (first | rfl | (simp only [List.length_take]; omega) | (simp only [List.length_append, List.length_cons, List.length_nil, List.length_modify, List.length_set, Nat.zero_add]; done) | (simp only [List.length_append, List.length_take, List.length_drop, List.length_cons, List.length_nil, List.length_modify, List.length_set, Nat.zero_add]; omega)))⟩
       ·
        rintro d47 rfl
        have hl6 := Ex.kE_go hl6
        clear hi8
        unfold hotspotlaw19_SenderOnce_S4
        refine awp_nr1 [1,4,11,12,14,15,16] (fun _ => rfl) fun tz => ?_
        refine awp_reg1 fun KK hKK => ?_
        refine xw_id ?_
        try simp only [go_sem, Nat.reduceEqDiff, reduceIte, Nat.reduceAdd, Nat.reduceMul, Nat.reduceSub, Nat.reduceLT, Nat.reduceLeDiff]
        refine hKK _ ?_; clear hKK KK
        refine lq_n ?_
        exact ⟨n5, ({ d47.1 with Out := (d47.1).Out }, d47.2.1, d47.2.2, IntKind.wrap .i64 (d46.2.2.2 + 1)), rfl, hl6, (by refine Wk.canonD [] [] [some 0, some 1] rfl trivial rfl (tmOU 1 (tmOU 0 tmO0 rfl List.not_mem_nil (by simp only [upd_get, Nat.reduceEqDiff, reduceIte, Nat.reduceAdd, Nat.reduceMul, Nat.reduceSub, Nat.reduceLT, Nat.reduceLeDiff, if_true, if_false] <;> rfl) (e_Sender_tmx (by rfl) (Tm.clean (Clean.imm (c_Unacked _))))) rfl List.not_mem_nil (by simp only [upd_get, Nat.reduceEqDiff, reduceIte, Nat.reduceAdd, Nat.reduceMul, Nat.reduceSub, Nat.reduceLT, Nat.reduceLeDiff, if_true, if_false] <;> rfl) (TmL.of_eq (by first | rfl | (simp only [List.flatMap_append, List.flatMap_cons, List.flatMap_nil, List.map_append, List.map_cons, List.map_nil, List.append_nil, List.nil_append]; done) | (simp only [List.flatMap_append, List.flatMap_cons, List.flatMap_nil, List.map_append, List.map_cons, List.map_nil, List.append_nil, List.nil_append]; rfl)) (vi_clean _))) (tmAllU 16 (tmAllU 15 (tmAllU 14 (tmAllU 12 (tmAllU 11 (tmAllU 4 (tmAllU 1 tmAll0 (Tm.v _)) (Tm.clean (Clean.imm (c_Hotspotref19_Step _)))) (Tm.v _)) (Tm.ptr rfl)) (Tm.v _)) (Tm.refL rfl ?_)) (Tm.v _)); all_goals (first | rfl | (simp only [List.length_take]; omega) | (simp only [List.length_append, List.length_cons, List.length_nil, List.length_modify, List.length_set, Nat.zero_add]; done) | (simp only [List.length_append, List.length_take, List.length_drop, List.length_cons, List.length_nil, List.length_modify, List.length_set, Nat.zero_add]; omega)))⟩
      ·
       have hl6 := cF hl6 h7
       refine awp_exit ?_
       refine lq_e ?_
       refine bq_e ?_
       refine sq_n ?_
       obtain rfl := someInj hl6
       exact ⟨_, rfl, (Wk.canonD [] [] [] rfl trivial rfl tmO0 (tmAllU 11 tmAll0 (Tm.v _)))⟩
    ·
     rintro d44 rfl
     have h0 := Ex.k_go h0
     clear hi4
     unfold hotspotlaw19_SenderOnce_S1
     refine awp_nr [11] (fun _ => rfl) fun tz => ?_
     refine awp_regW fun KK hKK => ?_
     refine xw_id ?_
     try simp only [go_sem, Nat.reduceEqDiff, reduceIte, Nat.reduceAdd, Nat.reduceMul, Nat.reduceSub, Nat.reduceLT, Nat.reduceLeDiff]
     refine hKK _ _ (Wk.refl _ _ _) ?_; clear hKK KK
     refine awp_ret1 ?_
     obtain rfl := someInj h0
     refine endW_i ?_
     refine end_ret0 rs7 (rfl) ?_
     try simp only [go_sem, Nat.reduceEqDiff, reduceIte, Nat.reduceAdd, Nat.reduceMul, Nat.reduceSub, Nat.reduceLT, Nat.reduceLeDiff, fz, nilS, packR, List.take_nil, List.take_length, List.length_map, List.length_append, cond_true, cond_false, Nat.ble_eq, ble_self, List.map_append]
     all_goals rfl

end Go.AX.Z.TS
