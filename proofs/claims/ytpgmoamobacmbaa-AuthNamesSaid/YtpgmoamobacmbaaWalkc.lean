/- A part of the proof: walks through the functions that the statement reaches. -/
import Derived.Test.YtpgmoamobacmbaaWalkb
set_option linter.unusedVariables false
set_option linter.unusedSimpArgs false

/-! (TXW hotspotlaw29 alive) -/

set_option linter.unusedSimpArgs false
set_option linter.unusedVariables false
set_option maxHeartbeats 4000000
set_option maxRecDepth 20000
namespace Go.AX.Z.TX
open Go.AX Go.Proofs
attribute [local irreducible] awp xw xop xcall gsp ob xd xdop xcallD seqQ loopQ blkQ endQ

def hotspotlaw29_alive_S0 (x71 : (Auth × Int)) : AS :=
 { objs := (upd (fun _ => .dead) 0 (.live (e_Auth x71.1))), next := 1, tmps := (upd (upd (fun _ => .unk) 1 (.ptr 0 0)) 2 (vi x71.2)) }

def hotspotlaw29_alive_S1 (x71 : (Auth × Int)) (x74 : (Auth × Int)) : AS :=
 { objs := (upd (upd (fun _ => .dead) 0 (.live (e_Auth x71.1))) 1 (.live (e_Auth x74.1))), next := 2, tmps := (upd (upd (upd (upd (fun _ => .unk) 1 (.ptr 0 0)) 2 (vi x71.2)) 3 (.ptr 1 0)) 4 (vi x74.2)) }

def hotspotlaw29_alive_S2 (x79 : (Auth × (List (List Int)) × Int)) (x74 : (Auth × Int)) : AS :=
 { objs := (upd (upd (fun _ => .dead) 0 (.live (e_Auth x79.1))) 1 (.live (e_Auth x74.1))), next := 2, tmps := (upd (upd (upd (upd (fun _ => .unk) 1 (.ptr 0 0)) 3 (.ptr 1 0)) 5 (.imm (List.map S_vu x79.2.1) x79.2.1.length)) 6 (vi x79.2.2)) }

def hotspotlaw29_alive_S3 (x87 : (Auth × (List (List Int)) × Int)) (x83 : (Auth × (List (List Int)) × Int)) : AS :=
 { objs := (upd (upd (fun _ => .dead) 0 (.live (e_Auth x87.1))) 1 (.live (e_Auth x83.1))), next := 2, tmps := (upd (upd (upd (upd (upd (fun _ => .unk) 1 (.ptr 0 0)) 3 (.ptr 1 0)) 7 (.imm (List.map S_vu x83.2.1) x83.2.1.length)) 9 (.imm (List.map S_vu x87.2.1) x87.2.1.length)) 10 (vi x87.2.2)) }

def hotspotlaw29_alive_S4 (x89 : (Auth × (List (List Int)) × Int)) (x91 : (Auth × (List (List Int)) × Int)) : AS :=
 { objs := (upd (upd (fun _ => .dead) 0 (.live (e_Auth x89.1))) 1 (.live (e_Auth x91.1))), next := 2, tmps := (upd (upd (upd (upd (fun _ => .unk) 1 (.ptr 0 0)) 3 (.ptr 1 0)) 12 (vi x89.2.2)) 14 (vi x91.2.2)) }

theorem hotspotlaw29_alive_p {r : Bool} (h0 : hotspotlaw29_alive = some r) : SndP K 20 [] (vb r) := by
 refine SndP.of_walkW hC (Clean.v _) clean_nil (show K.P.funcs[20]? = some Try.f20 from Try.func20) rfl rfl (by decide +kernel) (Nat.le_of_ble_eq_true rfl) ?_
 unfold hotspotlaw29_alive at h0
 refine awp_nr [] (fun _ => rfl) fun tz => ?_
 refine awp_regW fun KK hKK => ?_
 refine xw_id ?_
 try simp only [go_sem, Nat.reduceEqDiff, reduceIte, Nat.reduceAdd, Nat.reduceMul, Nat.reduceSub, Nat.reduceLT, Nat.reduceLeDiff]
 refine hKK _ _ (Wk.refl _ _ _) ?_; clear hKK KK
 refine awp_nr [] (fun _ => rfl) fun tz => ?_
 refine awp_regW fun KK hKK => ?_
 refine xw_id ?_
 obtain ⟨x69, bx69, h0⟩ := bnd h0
 try simp only [go_sem, Nat.reduceEqDiff, reduceIte, Nat.reduceAdd, Nat.reduceMul, Nat.reduceSub, Nat.reduceLT, Nat.reduceLeDiff]
 refine xcall_p (hotspotlaw29_one_p  bx69) ?_; try dsimp only
 try refine xw_id ?_
 obtain ⟨x70, bx70, h0⟩ := bnd h0
 try simp only [go_sem, Nat.reduceEqDiff, reduceIte, Nat.reduceAdd, Nat.reduceMul, Nat.reduceSub, Nat.reduceLT, Nat.reduceLeDiff]
 refine xcall_p (hotspotlaw29_two_p  bx70) ?_; try dsimp only
 try refine xw_id ?_
 have gs1 : AV.v (.string ⟨#[115, 101, 99, 114, 101, 116]⟩) = vs [115, 101, 99, 114, 101, 116] := by kernel_rfl
 obtain ⟨x71, bx71, h0⟩ := bnd h0
 try simp only [go_sem, Nat.reduceEqDiff, reduceIte, Nat.reduceAdd, Nat.reduceMul, Nat.reduceSub, Nat.reduceLT, Nat.reduceLeDiff, gs1]
 refine xcall_p (auth_New_p x69 x70 [115, 101, 99, 114, 101, 116] 1000 77 bx71) ?_; try dsimp only
 try refine xw_id ?_
 try simp only [go_sem, Nat.reduceEqDiff, reduceIte, Nat.reduceAdd, Nat.reduceMul, Nat.reduceSub, Nat.reduceLT, Nat.reduceLeDiff, gs1]
 refine hKK _ (hotspotlaw29_alive_S0 x71) (Wk.canonD [] [] [some 7] rfl trivial rfl (tmOU 0 tmO0 rfl List.not_mem_nil (by simp only [upd_get, Nat.reduceEqDiff, reduceIte, if_true, if_false] <;> rfl) (TmL.clean (e_Auth_clean _))) (tmAllU 2 (tmAllU 1 tmAll0 (Tm.ptr rfl)) (Tm.v _))) ?_; clear hKK KK
 unfold hotspotlaw29_alive_S0
 refine awp_nr [1,2] (fun _ => rfl) fun tz => ?_
 refine awp_regW fun KK hKK => ?_
 refine xw_id ?_
 obtain ⟨x72, bx72, h0⟩ := bnd h0
 try simp only [go_sem, Nat.reduceEqDiff, reduceIte, Nat.reduceAdd, Nat.reduceMul, Nat.reduceSub, Nat.reduceLT, Nat.reduceLeDiff]
 refine xcall_p (hotspotlaw29_two_p  bx72) ?_; try dsimp only
 try refine xw_id ?_
 obtain ⟨x73, bx73, h0⟩ := bnd h0
 try simp only [go_sem, Nat.reduceEqDiff, reduceIte, Nat.reduceAdd, Nat.reduceMul, Nat.reduceSub, Nat.reduceLT, Nat.reduceLeDiff]
 refine xcall_p (hotspotlaw29_one_p  bx73) ?_; try dsimp only
 try refine xw_id ?_
 have gs2 : AV.v (.string ⟨#[115, 101, 99, 114, 101, 116]⟩) = vs [115, 101, 99, 114, 101, 116] := by kernel_rfl
 obtain ⟨x74, bx74, h0⟩ := bnd h0
 try simp only [go_sem, Nat.reduceEqDiff, reduceIte, Nat.reduceAdd, Nat.reduceMul, Nat.reduceSub, Nat.reduceLT, Nat.reduceLeDiff, gs2]
 refine xcall_p (auth_New_p x72 x73 [115, 101, 99, 114, 101, 116] 2000 99 bx74) ?_; try dsimp only
 try refine xw_id ?_
 try simp only [go_sem, Nat.reduceEqDiff, reduceIte, Nat.reduceAdd, Nat.reduceMul, Nat.reduceSub, Nat.reduceLT, Nat.reduceLeDiff, gs2]
 refine hKK _ (hotspotlaw29_alive_S1 x71 x74) (Wk.canonD [] [] [some 0, some 7] rfl trivial rfl (tmOU 1 (tmOU 0 tmO0 rfl List.not_mem_nil (by simp only [upd_get, Nat.reduceEqDiff, reduceIte, if_true, if_false] <;> rfl) (TmL.clean (e_Auth_clean _))) rfl List.not_mem_nil (by simp only [upd_get, Nat.reduceEqDiff, reduceIte, if_true, if_false] <;> rfl) (TmL.clean (e_Auth_clean _))) (tmAllU 4 (tmAllU 3 (tmAllU 2 (tmAllU 1 tmAll0 (Tm.ptr rfl)) (Tm.v _)) (Tm.ptr rfl)) (Tm.v _))) ?_; clear hKK KK
 unfold hotspotlaw29_alive_S1
 refine awp_assoc ?_
 refine awp_nr [1,2,3,4] (fun _ => rfl) fun tz => ?_
 refine awp_regW fun KK hKK => ?_
 refine xw_id ?_
 refine xw_stop 3 (by (try simp only [go_sem]); rfl) (by (try simp only [go_sem]); rfl) (by rfl) fun K1 hK1 => ?_
 refine xw_id ?_
 try simp only [go_sem, Nat.reduceEqDiff, reduceIte, Nat.reduceAdd, Nat.reduceMul, Nat.reduceSub, Nat.reduceLT, Nat.reduceLeDiff]
 refine hK1 _ ?_; clear hK1 K1
 refine xw_cut 3 [(1, (.ptr 0 0)), (3, (.ptr 1 0)), (32, (vb ((x71.2 != 0) || (x74.2 != 0))))] (by (try simp only [go_sem]); rfl) (by (try simp only [go_sem]); rfl) (by rfl) (fun K1 hK1 => ?_) fun tz => ?_
 ·
  refine xw_id ?_
  rcases Bool.eq_false_or_eq_true (x71.2 != 0) with h3 | h3
  ·
   try simp only [go_sem, Nat.reduceEqDiff, reduceIte, Nat.reduceAdd, Nat.reduceMul, Nat.reduceSub, Nat.reduceLT, Nat.reduceLeDiff, h3]
   exact hK1 _ ⟨rfl, rfl, rfl, (by first | rfl | (rw [h3]; rfl) | (simp only [h3, Bool.true_and, Bool.false_and, Bool.true_or, Bool.false_or, cond_true, cond_false]; done)), trivial⟩
  ·
   try simp only [go_sem, Nat.reduceEqDiff, reduceIte, Nat.reduceAdd, Nat.reduceMul, Nat.reduceSub, Nat.reduceLT, Nat.reduceLeDiff, h3]
   exact hK1 _ ⟨rfl, rfl, rfl, (by first | rfl | (rw [h3]; rfl) | (simp only [h3, Bool.true_and, Bool.false_and, Bool.true_or, Bool.false_or, cond_true, cond_false]; done)), trivial⟩
 ·
  refine xw_id ?_
  refine xw_stop 1 (by (try simp only [go_sem]); rfl) (by (try simp only [go_sem]); rfl) (by rfl) fun K1 hK1 => ?_
  refine xw_id ?_
  try simp only [go_sem, Nat.reduceEqDiff, reduceIte, Nat.reduceAdd, Nat.reduceMul, Nat.reduceSub, Nat.reduceLT, Nat.reduceLeDiff]
  refine hK1 _ ?_; clear hK1 K1
  obtain ⟨x76, hvh4, h0⟩ := bnd h0
  refine xw_cut 3 [(1, (.ptr 0 0)), (3, (.ptr 1 0)), (36, (vb x76))] (by (try simp only [go_sem]); rfl) (by (try simp only [go_sem]); rfl) (by rfl) (fun K1 hK1 => ?_) fun tz => ?_
  ·
   refine xw_id ?_
   rcases Bool.eq_false_or_eq_true ((x71.2 != 0) || (x74.2 != 0)) with h4 | h4
   ·
    have hvh4 := cT hvh4 h4
    try simp only [go_sem, Nat.reduceEqDiff, reduceIte, Nat.reduceAdd, Nat.reduceMul, Nat.reduceSub, Nat.reduceLT, Nat.reduceLeDiff, h4]
    obtain rfl := someInj hvh4
    exact hK1 _ ⟨rfl, rfl, rfl, (by first | rfl | (rw [h4]; rfl) | (simp only [h4, Bool.true_and, Bool.false_and, Bool.true_or, Bool.false_or, cond_true, cond_false]; done)), trivial⟩
   ·
    have hvh4 := cF hvh4 h4
    obtain ⟨x75, bx75, hvh4⟩ := bnd hvh4
    try simp only [go_sem, Nat.reduceEqDiff, reduceIte, Nat.reduceAdd, Nat.reduceMul, Nat.reduceSub, Nat.reduceLT, Nat.reduceLeDiff, h4]
    refine xcall_p (auth_Mul_p 1152921504606846976 2 bx75) ?_; try dsimp only
    try refine xw_id ?_
    try simp only [go_sem, Nat.reduceEqDiff, reduceIte, Nat.reduceAdd, Nat.reduceMul, Nat.reduceSub, Nat.reduceLT, Nat.reduceLeDiff, h4]
    obtain rfl := someInj hvh4
    exact hK1 _ ⟨rfl, rfl, rfl, (by first | rfl | (rw [h4]; rfl) | (simp only [h4, Bool.true_and, Bool.false_and, Bool.true_or, Bool.false_or, cond_true, cond_false]; done)), trivial⟩
  ·
   refine xw_id ?_
   refine xw_stop 1 (by (try simp only [go_sem]); rfl) (by (try simp only [go_sem]); rfl) (by rfl) fun K1 hK1 => ?_
   refine xw_id ?_
   try simp only [go_sem, Nat.reduceEqDiff, reduceIte, Nat.reduceAdd, Nat.reduceMul, Nat.reduceSub, Nat.reduceLT, Nat.reduceLeDiff]
   refine hK1 _ ?_; clear hK1 K1
   obtain ⟨x78, hvh5, h0⟩ := bnd h0
   refine xw_cut 3 [(1, (.ptr 0 0)), (3, (.ptr 1 0)), (40, (vb x78))] (by (try simp only [go_sem]); rfl) (by (try simp only [go_sem]); rfl) (by rfl) (fun K1 hK1 => ?_) fun tz => ?_
   ·
    refine xw_id ?_
    rcases Bool.eq_false_or_eq_true x76 with h5 | h5
    ·
     have hvh5 := cT hvh5 h5
     try simp only [go_sem, Nat.reduceEqDiff, reduceIte, Nat.reduceAdd, Nat.reduceMul, Nat.reduceSub, Nat.reduceLT, Nat.reduceLeDiff, h5]
     obtain rfl := someInj hvh5
     exact hK1 _ ⟨rfl, rfl, rfl, (by first | rfl | (rw [h5]; rfl) | (simp only [h5, Bool.true_and, Bool.false_and, Bool.true_or, Bool.false_or, cond_true, cond_false]; done)), trivial⟩
    ·
     have hvh5 := cF hvh5 h5
     obtain ⟨x77, bx77, hvh5⟩ := bnd hvh5
     try simp only [go_sem, Nat.reduceEqDiff, reduceIte, Nat.reduceAdd, Nat.reduceMul, Nat.reduceSub, Nat.reduceLT, Nat.reduceLeDiff, h5]
     refine xcall_p (auth_Pow_p 2 61 bx77) ?_; try dsimp only
     try refine xw_id ?_
     try simp only [go_sem, Nat.reduceEqDiff, reduceIte, Nat.reduceAdd, Nat.reduceMul, Nat.reduceSub, Nat.reduceLT, Nat.reduceLeDiff, h5]
     obtain rfl := someInj hvh5
     exact hK1 _ ⟨rfl, rfl, rfl, (by first | rfl | (rw [h5]; rfl) | (simp only [h5, Bool.true_and, Bool.false_and, Bool.true_or, Bool.false_or, cond_true, cond_false]; done)), trivial⟩
   ·
    refine xw_id ?_
    try simp only [go_sem, Nat.reduceEqDiff, reduceIte, Nat.reduceAdd, Nat.reduceMul, Nat.reduceSub, Nat.reduceLT, Nat.reduceLeDiff]
    refine hKK _ _ (Wk.refl _ _ _) ?_; clear hKK KK
    refine awp_cond (b := x78) rfl (fun h6 => ?_) (fun h6 => ?_)
    ·
     have h0 := cT h0 h6
     refine awp_assoc ?_
     refine awp_nr [] (fun _ => rfl) fun tz => ?_
     refine awp_regW fun KK hKK => ?_
     refine xw_id ?_
     try simp only [go_sem, Nat.reduceEqDiff, reduceIte, Nat.reduceAdd, Nat.reduceMul, Nat.reduceSub, Nat.reduceLT, Nat.reduceLeDiff]
     refine hKK _ _ (Wk.refl _ _ _) ?_; clear hKK KK
     refine awp_ret ?_
     obtain rfl := someInj h0
     refine endW_i ?_
     refine end_ret0 rs20 (rfl) ?_
     try simp only [go_sem, Nat.reduceEqDiff, reduceIte, Nat.reduceAdd, Nat.reduceMul, Nat.reduceSub, Nat.reduceLT, Nat.reduceLeDiff, fz, nilS, packR, List.take_nil, List.take_length, List.length_map, List.length_append, cond_true, cond_false, Nat.ble_eq, ble_self]
     all_goals first | rfl | (simp only [go_sem, Nat.reduceEqDiff, reduceIte, Nat.reduceAdd, Nat.reduceMul, Nat.reduceSub, Nat.reduceLT, Nat.reduceLeDiff, fz, nilS, packR, List.take_nil, List.take_length, List.length_map, List.length_append, cond_true, cond_false, Nat.ble_eq, ble_self, List.map_append] <;> rfl)
    ·
     have h0 := cF h0 h6
     refine awp_skip ?_
     refine awp_nr [1,3] (fun _ => rfl) fun tz => ?_
     refine awp_regW fun KK hKK => ?_
     refine xw_id ?_
     obtain ⟨x79, bx79, h0⟩ := bnd h0
     try simp only [go_sem, Nat.reduceEqDiff, reduceIte, Nat.reduceAdd, Nat.reduceMul, Nat.reduceSub, Nat.reduceLT, Nat.reduceLeDiff]
     refine xcall_p (auth_Start_p x71.1 0 bx79) ?_; try dsimp only
     try refine xw_id ?_
     try simp only [go_sem, Nat.reduceEqDiff, reduceIte, Nat.reduceAdd, Nat.reduceMul, Nat.reduceSub, Nat.reduceLT, Nat.reduceLeDiff]
     refine hKK _ (hotspotlaw29_alive_S2 x79 x74) (Wk.canonD [] [] [some 0, some 1] rfl trivial rfl (tmOU 1 (tmOU 0 tmO0 rfl List.not_mem_nil (by simp only [upd_get, Nat.reduceEqDiff, reduceIte, if_true, if_false] <;> rfl) (TmL.clean (e_Auth_clean _))) rfl List.not_mem_nil (by simp only [upd_get, Nat.reduceEqDiff, reduceIte, if_true, if_false] <;> rfl) (TmL.clean (e_Auth_clean _))) (tmAllU 6 (tmAllU 5 (tmAllU 3 (tmAllU 1 tmAll0 (Tm.ptr rfl)) (Tm.ptr rfl)) (Tm.clean (Clean.imm (cS_vu _)))) (Tm.v _))) ?_; clear hKK KK
     unfold hotspotlaw29_alive_S2
     refine awp_assoc ?_
     refine awp_nr [1,3,5,6] (fun _ => rfl) fun tz => ?_
     refine awp_regW fun KK hKK => ?_
     refine xw_id ?_
     refine xw_stop 3 (by (try simp only [go_sem]); rfl) (by (try simp only [go_sem]); rfl) (by rfl) fun K1 hK1 => ?_
     refine xw_id ?_
     try simp only [go_sem, Nat.reduceEqDiff, reduceIte, Nat.reduceAdd, Nat.reduceMul, Nat.reduceSub, Nat.reduceLT, Nat.reduceLeDiff]
     refine hK1 _ ?_; clear hK1 K1
     refine xw_cut 4 [(1, (.ptr 0 0)), (3, (.ptr 1 0)), (5, (.imm (List.map S_vu x79.2.1) x79.2.1.length)), (53, (vb ((x79.2.2 != 0) || ((x79.2.1.length : Int) != 1))))] (by (try simp only [go_sem]); rfl) (by (try simp only [go_sem]); rfl) (by rfl) (fun K1 hK1 => ?_) fun tz => ?_
     ·
      refine xw_id ?_
      rcases Bool.eq_false_or_eq_true (x79.2.2 != 0) with h7 | h7
      ·
       try simp only [go_sem, Nat.reduceEqDiff, reduceIte, Nat.reduceAdd, Nat.reduceMul, Nat.reduceSub, Nat.reduceLT, Nat.reduceLeDiff, h7]
       exact hK1 _ ⟨rfl, rfl, rfl, rfl, (by first | rfl | (rw [h7]; rfl) | (simp only [h7, Bool.true_and, Bool.false_and, Bool.true_or, Bool.false_or, cond_true, cond_false]; done)), trivial⟩
      ·
       try simp only [go_sem, Nat.reduceEqDiff, reduceIte, Nat.reduceAdd, Nat.reduceMul, Nat.reduceSub, Nat.reduceLT, Nat.reduceLeDiff, Int.reduceToNat, Int.reduceBEq, Int.reduceBNe, Int.reduceLT, Int.reduceLE, Int.reduceAdd, Int.reduceSub, Int.reduceMul, h7]
       exact hK1 _ ⟨rfl, rfl, rfl, rfl, (by first | rfl | (rw [h7]; rfl) | (simp only [h7, Bool.true_and, Bool.false_and, Bool.true_or, Bool.false_or, cond_true, cond_false]; done)), trivial⟩
     ·
      refine xw_id ?_
      refine xw_stop 1 (by (try simp only [go_sem]); rfl) (by (try simp only [go_sem]); rfl) (by rfl) fun K1 hK1 => ?_
      refine xw_id ?_
      try simp only [go_sem, Nat.reduceEqDiff, reduceIte, Nat.reduceAdd, Nat.reduceMul, Nat.reduceSub, Nat.reduceLT, Nat.reduceLeDiff]
      refine hK1 _ ?_; clear hK1 K1
      obtain ⟨x81, hvh8, h0⟩ := bnd h0
      refine xw_cut 6 [(1, (.ptr 0 0)), (3, (.ptr 1 0)), (5, (.imm (List.map S_vu x79.2.1) x79.2.1.length)), (60, (vb x81))] (by (try simp only [go_sem]); rfl) (by (try simp only [go_sem]); rfl) (by rfl) (fun K1 hK1 => ?_) fun tz => ?_
      ·
       refine xw_id ?_
       rcases Bool.eq_false_or_eq_true ((x79.2.2 != 0) || ((x79.2.1.length : Int) != 1)) with h8 | h8
       ·
        have hvh8 := cT hvh8 h8
        try simp only [go_sem, Nat.reduceEqDiff, reduceIte, Nat.reduceAdd, Nat.reduceMul, Nat.reduceSub, Nat.reduceLT, Nat.reduceLeDiff, h8]
        obtain rfl := someInj hvh8
        exact hK1 _ ⟨rfl, rfl, rfl, rfl, (by first | rfl | (rw [h8]; rfl) | (simp only [h8, Bool.true_and, Bool.false_and, Bool.true_or, Bool.false_or, cond_true, cond_false]; done)), trivial⟩
       ·
        have hvh8 := cF hvh8 h8
        obtain ⟨x80, bx80, hvh8⟩ := bnd hvh8
        obtain ⟨fx80_0, fx80_1, fx80_2, fx80_3⟩ := idx_some bx80
        simp only [Int.reduceToNat] at fx80_2 fx80_3
        have fx80_9 : (List.map S_vu x79.2.1)[0]? = some (S_vu x80) := by rw [List.getElem?_map, fx80_2]; rfl
        try simp only [go_sem, Nat.reduceEqDiff, reduceIte, Nat.reduceAdd, Nat.reduceMul, Nat.reduceSub, Nat.reduceLT, Nat.reduceLeDiff, Int.reduceToNat, Int.reduceBEq, Int.reduceBNe, Int.reduceLT, Int.reduceLE, Int.reduceAdd, Int.reduceSub, Int.reduceMul, h8, fx80_0, fx80_1, fx80_2, fx80_9]
        obtain rfl := someInj hvh8
        exact hK1 _ ⟨rfl, rfl, rfl, rfl, (by first | rfl | (rw [h8]; rfl) | (simp only [h8, Bool.true_and, Bool.false_and, Bool.true_or, Bool.false_or, cond_true, cond_false]; done)), trivial⟩
      ·
       refine xw_id ?_
       try simp only [go_sem, Nat.reduceEqDiff, reduceIte, Nat.reduceAdd, Nat.reduceMul, Nat.reduceSub, Nat.reduceLT, Nat.reduceLeDiff]
       refine hKK _ _ (Wk.refl _ _ _) ?_; clear hKK KK
       refine awp_cond (b := x81) rfl (fun h9 => ?_) (fun h9 => ?_)
       ·
        have h0 := cT h0 h9
        refine awp_assoc ?_
        refine awp_nr [] (fun _ => rfl) fun tz => ?_
        refine awp_regW fun KK hKK => ?_
        refine xw_id ?_
        try simp only [go_sem, Nat.reduceEqDiff, reduceIte, Nat.reduceAdd, Nat.reduceMul, Nat.reduceSub, Nat.reduceLT, Nat.reduceLeDiff]
        refine hKK _ _ (Wk.refl _ _ _) ?_; clear hKK KK
        refine awp_ret ?_
        obtain rfl := someInj h0
        refine endW_i ?_
        refine end_ret0 rs20 (rfl) ?_
        try simp only [go_sem, Nat.reduceEqDiff, reduceIte, Nat.reduceAdd, Nat.reduceMul, Nat.reduceSub, Nat.reduceLT, Nat.reduceLeDiff, fz, nilS, packR, List.take_nil, List.take_length, List.length_map, List.length_append, cond_true, cond_false, Nat.ble_eq, ble_self]
        all_goals first | rfl | (simp only [go_sem, Nat.reduceEqDiff, reduceIte, Nat.reduceAdd, Nat.reduceMul, Nat.reduceSub, Nat.reduceLT, Nat.reduceLeDiff, fz, nilS, packR, List.take_nil, List.take_length, List.length_map, List.length_append, cond_true, cond_false, Nat.ble_eq, ble_self, List.map_append] <;> rfl)
       ·
        have h0 := cF h0 h9
        refine awp_skip ?_
        refine awp_nr [1,3,5] (fun _ => rfl) fun tz => ?_
        refine awp_regDW fun KK hKK all hall => ?_
        refine xd_id ?_
        try simp only [List.toList_toArray, List.map_cons, List.map_nil, List.size_toArray, List.length_cons, List.length_nil, Nat.zero_add]
        try simp only [Nat.reduceAdd]
        obtain ⟨x82, bx82, h0⟩ := bnd h0
        obtain ⟨fx82_0, fx82_1, fx82_2, fx82_3⟩ := idx_some bx82
        simp only [Int.reduceToNat] at fx82_2 fx82_3
        have fx82_9 : (List.map S_vu x79.2.1)[0]? = some (S_vu x82) := by rw [List.getElem?_map, fx82_2]; rfl
        obtain ⟨x83, bx83, h0⟩ := bnd h0
        iterate 3 ((try simp only [go_sem, Nat.reduceEqDiff, reduceIte, Nat.reduceMul, Nat.reduceSub, Nat.reduceLT, Nat.reduceLeDiff, Int.reduceToNat, Int.reduceBEq, Int.reduceBNe, Int.reduceLT, Int.reduceLE, Int.reduceAdd, Int.reduceSub, Int.reduceMul, fx82_0, fx82_1, fx82_2, fx82_9]); try simp only [Nat.reduceAdd])
        refine xcallD_p (auth_Handle_p x74.1 x82 0 bx83) ?_; try dsimp only
        try refine xd_id ?_
        iterate 3 ((try simp only [go_sem, Nat.reduceEqDiff, reduceIte, Nat.reduceMul, Nat.reduceSub, Nat.reduceLT, Nat.reduceLeDiff, Int.reduceToNat, Int.reduceBEq, Int.reduceBNe, Int.reduceLT, Int.reduceLE, Int.reduceAdd, Int.reduceSub, Int.reduceMul, fx82_0, fx82_1, fx82_2, fx82_9]); try simp only [Nat.reduceAdd])
        refine And.intro ?_ (hKK _ _ (Wk.refl _ _ _) ?_)
        ·
         subst hall
         clear hKK KK
         first | decide +kernel | (simp [printsOk, apartP, clash, meet]; try (first | done | decide +kernel | (repeat (first | exact Or.inr (by decide +kernel) | (refine And.intro (Or.inr (by decide +kernel)) ?_)))))
        ·
         clear hKK KK hall all
         refine awp_assoc ?_
         refine awp_nr [1,3,7,8] (fun _ => rfl) fun tz => ?_
         refine awp_regW fun KK hKK => ?_
         refine xw_id ?_
         refine xw_stop 3 (by (try simp only [go_sem]); rfl) (by (try simp only [go_sem]); rfl) (by rfl) fun K1 hK1 => ?_
         refine xw_id ?_
         try simp only [go_sem, Nat.reduceEqDiff, reduceIte, Nat.reduceAdd, Nat.reduceMul, Nat.reduceSub, Nat.reduceLT, Nat.reduceLeDiff, fx82_0, fx82_1, fx82_2, fx82_9]
         refine hK1 _ ?_; clear hK1 K1
         refine xw_cut 4 [(1, (.ptr 0 0)), (3, (.ptr 1 0)), (7, (.imm (List.map S_vu x83.2.1) x83.2.1.length)), (76, (vb ((x83.2.2 != 0) || ((x83.2.1.length : Int) != 2))))] (by (try simp only [go_sem]); rfl) (by (try simp only [go_sem]); rfl) (by rfl) (fun K1 hK1 => ?_) fun tz => ?_
         ·
          refine xw_id ?_
          rcases Bool.eq_false_or_eq_true (x83.2.2 != 0) with h10 | h10
          ·
           try simp only [go_sem, Nat.reduceEqDiff, reduceIte, Nat.reduceAdd, Nat.reduceMul, Nat.reduceSub, Nat.reduceLT, Nat.reduceLeDiff, fx82_0, fx82_1, fx82_2, fx82_9, h10]
           exact hK1 _ ⟨rfl, rfl, rfl, rfl, (by first | rfl | (rw [h10]; rfl) | (simp only [h10, Bool.true_and, Bool.false_and, Bool.true_or, Bool.false_or, cond_true, cond_false]; done)), trivial⟩
          ·
           try simp only [go_sem, Nat.reduceEqDiff, reduceIte, Nat.reduceAdd, Nat.reduceMul, Nat.reduceSub, Nat.reduceLT, Nat.reduceLeDiff, Int.reduceToNat, Int.reduceBEq, Int.reduceBNe, Int.reduceLT, Int.reduceLE, Int.reduceAdd, Int.reduceSub, Int.reduceMul, fx82_0, fx82_1, fx82_2, fx82_9, h10]
           exact hK1 _ ⟨rfl, rfl, rfl, rfl, (by first | rfl | (rw [h10]; rfl) | (simp only [h10, Bool.true_and, Bool.false_and, Bool.true_or, Bool.false_or, cond_true, cond_false]; done)), trivial⟩
         ·
          refine xw_id ?_
          refine xw_stop 1 (by (try simp only [go_sem]); rfl) (by (try simp only [go_sem]); rfl) (by rfl) fun K1 hK1 => ?_
          refine xw_id ?_
          try simp only [go_sem, Nat.reduceEqDiff, reduceIte, Nat.reduceAdd, Nat.reduceMul, Nat.reduceSub, Nat.reduceLT, Nat.reduceLeDiff, fx82_0, fx82_1, fx82_2, fx82_9]
          refine hK1 _ ?_; clear hK1 K1
          obtain ⟨x85, hvh11, h0⟩ := bnd h0
          refine xw_cut 6 [(1, (.ptr 0 0)), (3, (.ptr 1 0)), (7, (.imm (List.map S_vu x83.2.1) x83.2.1.length)), (83, (vb x85))] (by (try simp only [go_sem]); rfl) (by (try simp only [go_sem]); rfl) (by rfl) (fun K1 hK1 => ?_) fun tz => ?_
          ·
           refine xw_id ?_
           rcases Bool.eq_false_or_eq_true ((x83.2.2 != 0) || ((x83.2.1.length : Int) != 2)) with h11 | h11
           ·
            have hvh11 := cT hvh11 h11
            try simp only [go_sem, Nat.reduceEqDiff, reduceIte, Nat.reduceAdd, Nat.reduceMul, Nat.reduceSub, Nat.reduceLT, Nat.reduceLeDiff, fx82_0, fx82_1, fx82_2, fx82_9, h11]
            obtain rfl := someInj hvh11
            exact hK1 _ ⟨rfl, rfl, rfl, rfl, (by first | rfl | (rw [h11]; rfl) | (simp only [h11, Bool.true_and, Bool.false_and, Bool.true_or, Bool.false_or, cond_true, cond_false]; done)), trivial⟩
           ·
            have hvh11 := cF hvh11 h11
            obtain ⟨x84, bx84, hvh11⟩ := bnd hvh11
            obtain ⟨fx84_0, fx84_1, fx84_2, fx84_3⟩ := idx_some bx84
            simp only [Int.reduceToNat] at fx84_2 fx84_3
            have fx84_9 : (List.map S_vu x83.2.1)[1]? = some (S_vu x84) := by rw [List.getElem?_map, fx84_2]; rfl
            try simp only [go_sem, Nat.reduceEqDiff, reduceIte, Nat.reduceAdd, Nat.reduceMul, Nat.reduceSub, Nat.reduceLT, Nat.reduceLeDiff, Int.reduceToNat, Int.reduceBEq, Int.reduceBNe, Int.reduceLT, Int.reduceLE, Int.reduceAdd, Int.reduceSub, Int.reduceMul, fx82_0, fx82_1, fx82_2, fx82_9, h11, fx84_0, fx84_1, fx84_2, fx84_9]
            obtain rfl := someInj hvh11
            exact hK1 _ ⟨rfl, rfl, rfl, rfl, (by first | rfl | (rw [h11]; rfl) | (simp only [h11, Bool.true_and, Bool.false_and, Bool.true_or, Bool.false_or, cond_true, cond_false]; done)), trivial⟩
          ·
           refine xw_id ?_
           try simp only [go_sem, Nat.reduceEqDiff, reduceIte, Nat.reduceAdd, Nat.reduceMul, Nat.reduceSub, Nat.reduceLT, Nat.reduceLeDiff, fx82_0, fx82_1, fx82_2, fx82_9]
           refine hKK _ _ (Wk.refl _ _ _) ?_; clear hKK KK
           refine awp_cond (b := x85) rfl (fun h12 => ?_) (fun h12 => ?_)
           ·
            have h0 := cT h0 h12
            refine awp_assoc ?_
            refine awp_nr [] (fun _ => rfl) fun tz => ?_
            refine awp_regW fun KK hKK => ?_
            refine xw_id ?_
            try simp only [go_sem, Nat.reduceEqDiff, reduceIte, Nat.reduceAdd, Nat.reduceMul, Nat.reduceSub, Nat.reduceLT, Nat.reduceLeDiff, fx82_0, fx82_1, fx82_2, fx82_9]
            refine hKK _ _ (Wk.refl _ _ _) ?_; clear hKK KK
            refine awp_ret ?_
            obtain rfl := someInj h0
            refine endW_i ?_
            refine end_ret0 rs20 (rfl) ?_
            try simp only [go_sem, Nat.reduceEqDiff, reduceIte, Nat.reduceAdd, Nat.reduceMul, Nat.reduceSub, Nat.reduceLT, Nat.reduceLeDiff, fz, nilS, packR, List.take_nil, List.take_length, List.length_map, List.length_append, cond_true, cond_false, Nat.ble_eq, ble_self]
            all_goals first | rfl | (simp only [go_sem, Nat.reduceEqDiff, reduceIte, Nat.reduceAdd, Nat.reduceMul, Nat.reduceSub, Nat.reduceLT, Nat.reduceLeDiff, fz, nilS, packR, List.take_nil, List.take_length, List.length_map, List.length_append, cond_true, cond_false, Nat.ble_eq, ble_self, List.map_append] <;> rfl)
           ·
            have h0 := cF h0 h12
            refine awp_skip ?_
            refine awp_nr [1,3,7] (fun _ => rfl) fun tz => ?_
            refine awp_regDW fun KK hKK all hall => ?_
            refine xd_id ?_
            try simp only [List.toList_toArray, List.map_cons, List.map_nil, List.size_toArray, List.length_cons, List.length_nil, Nat.zero_add]
            try simp only [Nat.reduceAdd]
            obtain ⟨x86, bx86, h0⟩ := bnd h0
            obtain ⟨fx86_0, fx86_1, fx86_2, fx86_3⟩ := idx_some bx86
            simp only [Int.reduceToNat] at fx86_2 fx86_3
            have fx86_9 : (List.map S_vu x83.2.1)[0]? = some (S_vu x86) := by rw [List.getElem?_map, fx86_2]; rfl
            obtain ⟨x87, bx87, h0⟩ := bnd h0
            iterate 3 ((try simp only [go_sem, Nat.reduceEqDiff, reduceIte, Nat.reduceMul, Nat.reduceSub, Nat.reduceLT, Nat.reduceLeDiff, Int.reduceToNat, Int.reduceBEq, Int.reduceBNe, Int.reduceLT, Int.reduceLE, Int.reduceAdd, Int.reduceSub, Int.reduceMul, fx82_0, fx82_1, fx82_2, fx82_9, fx86_0, fx86_1, fx86_2, fx86_9]); try simp only [Nat.reduceAdd])
            refine xcallD_p (auth_Handle_p x79.1 x86 0 bx87) ?_; try dsimp only
            try refine xd_id ?_
            iterate 3 ((try simp only [go_sem, Nat.reduceEqDiff, reduceIte, Nat.reduceMul, Nat.reduceSub, Nat.reduceLT, Nat.reduceLeDiff, Int.reduceToNat, Int.reduceBEq, Int.reduceBNe, Int.reduceLT, Int.reduceLE, Int.reduceAdd, Int.reduceSub, Int.reduceMul, fx82_0, fx82_1, fx82_2, fx82_9, fx86_0, fx86_1, fx86_2, fx86_9]); try simp only [Nat.reduceAdd])
            refine And.intro ?_ (hKK _ (hotspotlaw29_alive_S3 x87 x83) (Wk.canonD [] [] [some 0, some 1] rfl trivial rfl (tmOU 1 (tmOU 0 tmO0 rfl List.not_mem_nil (by simp only [upd_get, Nat.reduceEqDiff, reduceIte, if_true, if_false] <;> rfl) (TmL.clean (e_Auth_clean _))) rfl List.not_mem_nil (by simp only [upd_get, Nat.reduceEqDiff, reduceIte, if_true, if_false] <;> rfl) (TmL.clean (e_Auth_clean _))) (tmAllU 10 (tmAllU 9 (tmAllU 7 (tmAllU 3 (tmAllU 1 tmAll0 (Tm.ptr rfl)) (Tm.ptr rfl)) (Tm.clean (Clean.imm (cS_vu _)))) (Tm.clean (Clean.imm (cS_vu _)))) (Tm.v _))) ?_)
            ·
             subst hall
             clear hKK KK
             first | decide +kernel | (simp [printsOk, apartP, clash, meet]; try (first | done | decide +kernel | (repeat (first | exact Or.inr (by decide +kernel) | (refine And.intro (Or.inr (by decide +kernel)) ?_)))))
            ·
             clear hKK KK hall all
             unfold hotspotlaw29_alive_S3
             refine awp_assoc ?_
             refine awp_nr [1,3,7,9,10] (fun _ => rfl) fun tz => ?_
             refine awp_regW fun KK hKK => ?_
             refine xw_id ?_
             refine xw_stop 3 (by (try simp only [go_sem]); rfl) (by (try simp only [go_sem]); rfl) (by rfl) fun K1 hK1 => ?_
             refine xw_id ?_
             try simp only [go_sem, Nat.reduceEqDiff, reduceIte, Nat.reduceAdd, Nat.reduceMul, Nat.reduceSub, Nat.reduceLT, Nat.reduceLeDiff, fx82_0, fx82_1, fx82_2, fx82_9, fx86_0, fx86_1, fx86_2, fx86_9]
             refine hK1 _ ?_; clear hK1 K1
             refine xw_cut 4 [(1, (.ptr 0 0)), (3, (.ptr 1 0)), (7, (.imm (List.map S_vu x83.2.1) x83.2.1.length)), (9, (.imm (List.map S_vu x87.2.1) x87.2.1.length)), (99, (vb ((x87.2.2 != 0) || ((x87.2.1.length : Int) != 1))))] (by (try simp only [go_sem]); rfl) (by (try simp only [go_sem]); rfl) (by rfl) (fun K1 hK1 => ?_) fun tz => ?_
             ·
              refine xw_id ?_
              rcases Bool.eq_false_or_eq_true (x87.2.2 != 0) with h13 | h13
              ·
               try simp only [go_sem, Nat.reduceEqDiff, reduceIte, Nat.reduceAdd, Nat.reduceMul, Nat.reduceSub, Nat.reduceLT, Nat.reduceLeDiff, fx82_0, fx82_1, fx82_2, fx82_9, fx86_0, fx86_1, fx86_2, fx86_9, h13]
               exact hK1 _ ⟨rfl, rfl, rfl, rfl, rfl, (by first | rfl | (rw [h13]; rfl) | (simp only [h13, Bool.true_and, Bool.false_and, Bool.true_or, Bool.false_or, cond_true, cond_false]; done)), trivial⟩
              ·
               try simp only [go_sem, Nat.reduceEqDiff, reduceIte, Nat.reduceAdd, Nat.reduceMul, Nat.reduceSub, Nat.reduceLT, Nat.reduceLeDiff, Int.reduceToNat, Int.reduceBEq, Int.reduceBNe, Int.reduceLT, Int.reduceLE, Int.reduceAdd, Int.reduceSub, Int.reduceMul, fx82_0, fx82_1, fx82_2, fx82_9, fx86_0, fx86_1, fx86_2, fx86_9, h13]
               exact hK1 _ ⟨rfl, rfl, rfl, rfl, rfl, (by first | rfl | (rw [h13]; rfl) | (simp only [h13, Bool.true_and, Bool.false_and, Bool.true_or, Bool.false_or, cond_true, cond_false]; done)), trivial⟩
             ·
              refine xw_id ?_
              try simp only [go_sem, Nat.reduceEqDiff, reduceIte, Nat.reduceAdd, Nat.reduceMul, Nat.reduceSub, Nat.reduceLT, Nat.reduceLeDiff, fx82_0, fx82_1, fx82_2, fx82_9, fx86_0, fx86_1, fx86_2, fx86_9]
              refine hKK _ _ (Wk.refl _ _ _) ?_; clear hKK KK
              refine awp_cond (b := ((x87.2.2 != 0) || ((x87.2.1.length : Int) != 1))) rfl (fun h14 => ?_) (fun h14 => ?_)
              ·
               have h0 := cT h0 h14
               refine awp_assoc ?_
               refine awp_nr [] (fun _ => rfl) fun tz => ?_
               refine awp_regW fun KK hKK => ?_
               refine xw_id ?_
               try simp only [go_sem, Nat.reduceEqDiff, reduceIte, Nat.reduceAdd, Nat.reduceMul, Nat.reduceSub, Nat.reduceLT, Nat.reduceLeDiff, fx82_0, fx82_1, fx82_2, fx82_9, fx86_0, fx86_1, fx86_2, fx86_9]
               refine hKK _ _ (Wk.refl _ _ _) ?_; clear hKK KK
               refine awp_ret ?_
               obtain rfl := someInj h0
               refine endW_i ?_
               refine end_ret0 rs20 (rfl) ?_
               try simp only [go_sem, Nat.reduceEqDiff, reduceIte, Nat.reduceAdd, Nat.reduceMul, Nat.reduceSub, Nat.reduceLT, Nat.reduceLeDiff, fz, nilS, packR, List.take_nil, List.take_length, List.length_map, List.length_append, cond_true, cond_false, Nat.ble_eq, ble_self]
               all_goals first | rfl | (simp only [go_sem, Nat.reduceEqDiff, reduceIte, Nat.reduceAdd, Nat.reduceMul, Nat.reduceSub, Nat.reduceLT, Nat.reduceLeDiff, fz, nilS, packR, List.take_nil, List.take_length, List.length_map, List.length_append, cond_true, cond_false, Nat.ble_eq, ble_self, List.map_append] <;> rfl)
              ·
               have h0 := cF h0 h14
               refine awp_skip ?_
               refine awp_nr [1,3,7,9] (fun _ => rfl) fun tz => ?_
               refine awp_regDW fun KK hKK all hall => ?_
               refine xd_id ?_
               try simp only [List.toList_toArray, List.map_cons, List.map_nil, List.size_toArray, List.length_cons, List.length_nil, Nat.zero_add]
               try simp only [Nat.reduceAdd]
               obtain ⟨x88, bx88, h0⟩ := bnd h0
               obtain ⟨fx88_0, fx88_1, fx88_2, fx88_3⟩ := idx_some bx88
               simp only [Int.reduceToNat] at fx88_2 fx88_3
               have fx88_9 : (List.map S_vu x83.2.1)[1]? = some (S_vu x88) := by rw [List.getElem?_map, fx88_2]; rfl
               obtain ⟨x89, bx89, h0⟩ := bnd h0
               iterate 3 ((try simp only [go_sem, Nat.reduceEqDiff, reduceIte, Nat.reduceMul, Nat.reduceSub, Nat.reduceLT, Nat.reduceLeDiff, Int.reduceToNat, Int.reduceBEq, Int.reduceBNe, Int.reduceLT, Int.reduceLE, Int.reduceAdd, Int.reduceSub, Int.reduceMul, fx82_0, fx82_1, fx82_2, fx82_9, fx86_0, fx86_1, fx86_2, fx86_9, fx88_0, fx88_1, fx88_2, fx88_9]); try simp only [Nat.reduceAdd])
               refine xcallD_p (auth_Handle_p x87.1 x88 0 bx89) ?_; try dsimp only
               try refine xd_id ?_
               iterate 3 ((try simp only [go_sem, Nat.reduceEqDiff, reduceIte, Nat.reduceMul, Nat.reduceSub, Nat.reduceLT, Nat.reduceLeDiff, Int.reduceToNat, Int.reduceBEq, Int.reduceBNe, Int.reduceLT, Int.reduceLE, Int.reduceAdd, Int.reduceSub, Int.reduceMul, fx82_0, fx82_1, fx82_2, fx82_9, fx86_0, fx86_1, fx86_2, fx86_9, fx88_0, fx88_1, fx88_2, fx88_9]); try simp only [Nat.reduceAdd])
               refine And.intro ?_ (hKK _ _ (Wk.refl _ _ _) ?_)
               ·
                subst hall
                clear hKK KK
                first | decide +kernel | (simp [printsOk, apartP, clash, meet]; try (first | done | decide +kernel | (repeat (first | exact Or.inr (by decide +kernel) | (refine And.intro (Or.inr (by decide +kernel)) ?_)))))
               ·
                clear hKK KK hall all
                refine awp_nr [1,3,9,12] (fun _ => rfl) fun tz => ?_
                refine awp_regDW fun KK hKK all hall => ?_
                refine xd_id ?_
                try simp only [List.toList_toArray, List.map_cons, List.map_nil, List.size_toArray, List.length_cons, List.length_nil, Nat.zero_add]
                try simp only [Nat.reduceAdd]
                obtain ⟨x90, bx90, h0⟩ := bnd h0
                obtain ⟨fx90_0, fx90_1, fx90_2, fx90_3⟩ := idx_some bx90
                simp only [Int.reduceToNat] at fx90_2 fx90_3
                have fx90_9 : (List.map S_vu x87.2.1)[0]? = some (S_vu x90) := by rw [List.getElem?_map, fx90_2]; rfl
                obtain ⟨x91, bx91, h0⟩ := bnd h0
                iterate 3 ((try simp only [go_sem, Nat.reduceEqDiff, reduceIte, Nat.reduceMul, Nat.reduceSub, Nat.reduceLT, Nat.reduceLeDiff, Int.reduceToNat, Int.reduceBEq, Int.reduceBNe, Int.reduceLT, Int.reduceLE, Int.reduceAdd, Int.reduceSub, Int.reduceMul, fx82_0, fx82_1, fx82_2, fx82_9, fx86_0, fx86_1, fx86_2, fx86_9, fx88_0, fx88_1, fx88_2, fx88_9, fx90_0, fx90_1, fx90_2, fx90_9]); try simp only [Nat.reduceAdd])
                refine xcallD_p (auth_Handle_p x83.1 x90 0 bx91) ?_; try dsimp only
                try refine xd_id ?_
                iterate 3 ((try simp only [go_sem, Nat.reduceEqDiff, reduceIte, Nat.reduceMul, Nat.reduceSub, Nat.reduceLT, Nat.reduceLeDiff, Int.reduceToNat, Int.reduceBEq, Int.reduceBNe, Int.reduceLT, Int.reduceLE, Int.reduceAdd, Int.reduceSub, Int.reduceMul, fx82_0, fx82_1, fx82_2, fx82_9, fx86_0, fx86_1, fx86_2, fx86_9, fx88_0, fx88_1, fx88_2, fx88_9, fx90_0, fx90_1, fx90_2, fx90_9]); try simp only [Nat.reduceAdd])
                refine And.intro ?_ (hKK _ (hotspotlaw29_alive_S4 x89 x91) (Wk.canonD [] [] [some 0, some 1] rfl trivial rfl (tmOU 1 (tmOU 0 tmO0 rfl List.not_mem_nil (by simp only [upd_get, Nat.reduceEqDiff, reduceIte, if_true, if_false] <;> rfl) (TmL.clean (e_Auth_clean _))) rfl List.not_mem_nil (by simp only [upd_get, Nat.reduceEqDiff, reduceIte, if_true, if_false] <;> rfl) (TmL.clean (e_Auth_clean _))) (tmAllU 14 (tmAllU 12 (tmAllU 3 (tmAllU 1 tmAll0 (Tm.ptr rfl)) (Tm.ptr rfl)) (Tm.v _)) (Tm.v _))) ?_)
                ·
                 subst hall
                 clear hKK KK
                 first | decide +kernel | (simp [printsOk, apartP, clash, meet]; try (first | done | decide +kernel | (repeat (first | exact Or.inr (by decide +kernel) | (refine And.intro (Or.inr (by decide +kernel)) ?_)))))
                ·
                 clear hKK KK hall all
                 unfold hotspotlaw29_alive_S4
                 refine awp_nr [1,3,12,14] (fun _ => rfl) fun tz => ?_
                 refine awp_regW fun KK hKK => ?_
                 refine xw_id ?_
                 try simp only [List.append_eq, Array.toList_append, List.append_toArray, List.toList_toArray, List.cons_append, List.nil_append]
                 refine xw_stop 3 (by (try simp only [go_sem]); rfl) (by (try simp only [go_sem]); rfl) (by rfl) fun K1 hK1 => ?_
                 refine xw_id ?_
                 try simp only [go_sem, Nat.reduceEqDiff, reduceIte, Nat.reduceAdd, Nat.reduceMul, Nat.reduceSub, Nat.reduceLT, Nat.reduceLeDiff, fx82_0, fx82_1, fx82_2, fx82_9, fx86_0, fx86_1, fx86_2, fx86_9, fx88_0, fx88_1, fx88_2, fx88_9, fx90_0, fx90_1, fx90_2, fx90_9]
                 refine hK1 _ ?_; clear hK1 K1
                 refine xw_cut 3 [(1, (.ptr 0 0)), (3, (.ptr 1 0)), (123, (vb ((x89.2.2 == 0) && (x91.2.2 == 0))))] (by (try simp only [go_sem]); rfl) (by (try simp only [go_sem]); rfl) (by rfl) (fun K1 hK1 => ?_) fun tz => ?_
                 ·
                  refine xw_id ?_
                  rcases Bool.eq_false_or_eq_true (x89.2.2 == 0) with h15 | h15
                  ·
                   try simp only [go_sem, Nat.reduceEqDiff, reduceIte, Nat.reduceAdd, Nat.reduceMul, Nat.reduceSub, Nat.reduceLT, Nat.reduceLeDiff, fx82_0, fx82_1, fx82_2, fx82_9, fx86_0, fx86_1, fx86_2, fx86_9, fx88_0, fx88_1, fx88_2, fx88_9, fx90_0, fx90_1, fx90_2, fx90_9, h15]
                   exact hK1 _ ⟨rfl, rfl, rfl, (by first | rfl | (rw [h15]; rfl) | (simp only [h15, Bool.true_and, Bool.false_and, Bool.true_or, Bool.false_or, cond_true, cond_false]; done)), trivial⟩
                  ·
                   try simp only [go_sem, Nat.reduceEqDiff, reduceIte, Nat.reduceAdd, Nat.reduceMul, Nat.reduceSub, Nat.reduceLT, Nat.reduceLeDiff, fx82_0, fx82_1, fx82_2, fx82_9, fx86_0, fx86_1, fx86_2, fx86_9, fx88_0, fx88_1, fx88_2, fx88_9, fx90_0, fx90_1, fx90_2, fx90_9, h15]
                   exact hK1 _ ⟨rfl, rfl, rfl, (by first | rfl | (rw [h15]; rfl) | (simp only [h15, Bool.true_and, Bool.false_and, Bool.true_or, Bool.false_or, cond_true, cond_false]; done)), trivial⟩
                 ·
                  refine xw_id ?_
                  refine xw_stop 1 (by (try simp only [go_sem]); rfl) (by (try simp only [go_sem]); rfl) (by rfl) fun K1 hK1 => ?_
                  refine xw_id ?_
                  try simp only [go_sem, Nat.reduceEqDiff, reduceIte, Nat.reduceAdd, Nat.reduceMul, Nat.reduceSub, Nat.reduceLT, Nat.reduceLeDiff, fx82_0, fx82_1, fx82_2, fx82_9, fx86_0, fx86_1, fx86_2, fx86_9, fx88_0, fx88_1, fx88_2, fx88_9, fx90_0, fx90_1, fx90_2, fx90_9]
                  refine hK1 _ ?_; clear hK1 K1
                  refine xw_cut 4 [(1, (.ptr 0 0)), (3, (.ptr 1 0)), (128, (vb (((x89.2.2 == 0) && (x91.2.2 == 0)) && (x89.1.Stage == 3))))] (by (try simp only [go_sem]); rfl) (by (try simp only [go_sem]); rfl) (by rfl) (fun K1 hK1 => ?_) fun tz => ?_
                  ·
                   refine xw_id ?_
                   rcases Bool.eq_false_or_eq_true ((x89.2.2 == 0) && (x91.2.2 == 0)) with h16 | h16
                   ·
                    have h16_0 : (x89.2.2 == 0) = true := by simp only [Bool.and_eq_true] at h16; exact h16.1
                    have h16_1 : (x91.2.2 == 0) = true := by simp only [Bool.and_eq_true] at h16; exact h16.2
                    try simp only [go_sem, Nat.reduceEqDiff, reduceIte, Nat.reduceAdd, Nat.reduceMul, Nat.reduceSub, Nat.reduceLT, Nat.reduceLeDiff, fx82_0, fx82_1, fx82_2, fx82_9, fx86_0, fx86_1, fx86_2, fx86_9, fx88_0, fx88_1, fx88_2, fx88_9, fx90_0, fx90_1, fx90_2, fx90_9, h16, h16_0, h16_1]
                    exact hK1 _ ⟨rfl, (by first | rfl | (rw [h16_0]; rfl) | (rw [h16_1]; rfl)), (by first | rfl | (rw [h16_0]; rfl) | (rw [h16_1]; rfl)), (by first | rfl | (rw [h16]; rfl) | (simp only [h16, Bool.true_and, Bool.false_and, Bool.true_or, Bool.false_or, cond_true, cond_false]; done)), trivial⟩
                   ·
                    try simp only [go_sem, Nat.reduceEqDiff, reduceIte, Nat.reduceAdd, Nat.reduceMul, Nat.reduceSub, Nat.reduceLT, Nat.reduceLeDiff, fx82_0, fx82_1, fx82_2, fx82_9, fx86_0, fx86_1, fx86_2, fx86_9, fx88_0, fx88_1, fx88_2, fx88_9, fx90_0, fx90_1, fx90_2, fx90_9, h16]
                    exact hK1 _ ⟨rfl, rfl, rfl, (by first | rfl | (rw [h16]; rfl) | (simp only [h16, Bool.true_and, Bool.false_and, Bool.true_or, Bool.false_or, cond_true, cond_false]; done)), trivial⟩
                  ·
                   refine xw_id ?_
                   refine xw_stop 1 (by (try simp only [go_sem]); rfl) (by (try simp only [go_sem]); rfl) (by rfl) fun K1 hK1 => ?_
                   refine xw_id ?_
                   try simp only [go_sem, Nat.reduceEqDiff, reduceIte, Nat.reduceAdd, Nat.reduceMul, Nat.reduceSub, Nat.reduceLT, Nat.reduceLeDiff, fx82_0, fx82_1, fx82_2, fx82_9, fx86_0, fx86_1, fx86_2, fx86_9, fx88_0, fx88_1, fx88_2, fx88_9, fx90_0, fx90_1, fx90_2, fx90_9]
                   refine hK1 _ ?_; clear hK1 K1
                   refine xw_cut 4 [(1, (.ptr 0 0)), (3, (.ptr 1 0)), (133, (vb ((((x89.2.2 == 0) && (x91.2.2 == 0)) && (x89.1.Stage == 3)) && (x91.1.Stage == 3))))] (by (try simp only [go_sem]); rfl) (by (try simp only [go_sem]); rfl) (by rfl) (fun K1 hK1 => ?_) fun tz => ?_
                   ·
                    refine xw_id ?_
                    rcases Bool.eq_false_or_eq_true (((x89.2.2 == 0) && (x91.2.2 == 0)) && (x89.1.Stage == 3)) with h17 | h17
                    ·
                     have h17_0 : (x89.2.2 == 0) = true := by simp only [Bool.and_eq_true] at h17; exact h17.1.1
                     have h17_1 : (x91.2.2 == 0) = true := by simp only [Bool.and_eq_true] at h17; exact h17.1.2
                     have h17_2 : (x89.1.Stage == 3) = true := by simp only [Bool.and_eq_true] at h17; exact h17.2
                     try simp only [go_sem, Nat.reduceEqDiff, reduceIte, Nat.reduceAdd, Nat.reduceMul, Nat.reduceSub, Nat.reduceLT, Nat.reduceLeDiff, fx82_0, fx82_1, fx82_2, fx82_9, fx86_0, fx86_1, fx86_2, fx86_9, fx88_0, fx88_1, fx88_2, fx88_9, fx90_0, fx90_1, fx90_2, fx90_9, h17, h17_0, h17_1, h17_2]
                     exact hK1 _ ⟨rfl, (by first | rfl | (rw [h17_0]; rfl) | (rw [h17_1]; rfl) | (rw [h17_2]; rfl)), (by first | rfl | (rw [h17_0]; rfl) | (rw [h17_1]; rfl) | (rw [h17_2]; rfl)), (by first | rfl | (rw [h17]; rfl) | (simp only [h17, Bool.true_and, Bool.false_and, Bool.true_or, Bool.false_or, cond_true, cond_false]; done)), trivial⟩
                    ·
                     try simp only [go_sem, Nat.reduceEqDiff, reduceIte, Nat.reduceAdd, Nat.reduceMul, Nat.reduceSub, Nat.reduceLT, Nat.reduceLeDiff, fx82_0, fx82_1, fx82_2, fx82_9, fx86_0, fx86_1, fx86_2, fx86_9, fx88_0, fx88_1, fx88_2, fx88_9, fx90_0, fx90_1, fx90_2, fx90_9, h17]
                     exact hK1 _ ⟨rfl, rfl, rfl, (by first | rfl | (rw [h17]; rfl) | (simp only [h17, Bool.true_and, Bool.false_and, Bool.true_or, Bool.false_or, cond_true, cond_false]; done)), trivial⟩
                   ·
                    refine xw_id ?_
                    refine xw_stop 1 (by (try simp only [go_sem]); rfl) (by (try simp only [go_sem]); rfl) (by rfl) fun K1 hK1 => ?_
                    refine xw_id ?_
                    try simp only [go_sem, Nat.reduceEqDiff, reduceIte, Nat.reduceAdd, Nat.reduceMul, Nat.reduceSub, Nat.reduceLT, Nat.reduceLeDiff, fx82_0, fx82_1, fx82_2, fx82_9, fx86_0, fx86_1, fx86_2, fx86_9, fx88_0, fx88_1, fx88_2, fx88_9, fx90_0, fx90_1, fx90_2, fx90_9]
                    refine hK1 _ ?_; clear hK1 K1
                    refine xw_cut 6 [(1, (.ptr 0 0)), (3, (.ptr 1 0)), (140, (vb (((((x89.2.2 == 0) && (x91.2.2 == 0)) && (x89.1.Stage == 3)) && (x91.1.Stage == 3)) && (decide (x89.1.Master = x91.1.Master)))))] (by (try simp only [go_sem]); rfl) (by (try simp only [go_sem]); rfl) (by rfl) (fun K1 hK1 => ?_) fun tz => ?_
                    ·
                     refine xw_id ?_
                     rcases Bool.eq_false_or_eq_true ((((x89.2.2 == 0) && (x91.2.2 == 0)) && (x89.1.Stage == 3)) && (x91.1.Stage == 3)) with h18 | h18
                     ·
                      have h18_0 : (x89.2.2 == 0) = true := by simp only [Bool.and_eq_true] at h18; exact h18.1.1.1
                      have h18_1 : (x91.2.2 == 0) = true := by simp only [Bool.and_eq_true] at h18; exact h18.1.1.2
                      have h18_2 : (x89.1.Stage == 3) = true := by simp only [Bool.and_eq_true] at h18; exact h18.1.2
                      have h18_3 : (x91.1.Stage == 3) = true := by simp only [Bool.and_eq_true] at h18; exact h18.2
                      try simp only [go_sem, Nat.reduceEqDiff, reduceIte, Nat.reduceAdd, Nat.reduceMul, Nat.reduceSub, Nat.reduceLT, Nat.reduceLeDiff, fx82_0, fx82_1, fx82_2, fx82_9, fx86_0, fx86_1, fx86_2, fx86_9, fx88_0, fx88_1, fx88_2, fx88_9, fx90_0, fx90_1, fx90_2, fx90_9, h18, h18_0, h18_1, h18_2, h18_3]
                      exact hK1 _ ⟨rfl, (by first | rfl | (rw [h18_0]; rfl) | (rw [h18_1]; rfl) | (rw [h18_2]; rfl) | (rw [h18_3]; rfl)), (by first | rfl | (rw [h18_0]; rfl) | (rw [h18_1]; rfl) | (rw [h18_2]; rfl) | (rw [h18_3]; rfl)), (by first | rfl | (rw [h18]; rfl) | (simp only [h18, Bool.true_and, Bool.false_and, Bool.true_or, Bool.false_or, cond_true, cond_false]; done)), trivial⟩
                     ·
                      try simp only [go_sem, Nat.reduceEqDiff, reduceIte, Nat.reduceAdd, Nat.reduceMul, Nat.reduceSub, Nat.reduceLT, Nat.reduceLeDiff, fx82_0, fx82_1, fx82_2, fx82_9, fx86_0, fx86_1, fx86_2, fx86_9, fx88_0, fx88_1, fx88_2, fx88_9, fx90_0, fx90_1, fx90_2, fx90_9, h18]
                      exact hK1 _ ⟨rfl, rfl, rfl, (by first | rfl | (rw [h18]; rfl) | (simp only [h18, Bool.true_and, Bool.false_and, Bool.true_or, Bool.false_or, cond_true, cond_false]; done)), trivial⟩
                    ·
                     refine xw_id ?_
                     refine xw_stop 1 (by (try simp only [go_sem]); rfl) (by (try simp only [go_sem]); rfl) (by rfl) fun K1 hK1 => ?_
                     refine xw_id ?_
                     try simp only [go_sem, Nat.reduceEqDiff, reduceIte, Nat.reduceAdd, Nat.reduceMul, Nat.reduceSub, Nat.reduceLT, Nat.reduceLeDiff, fx82_0, fx82_1, fx82_2, fx82_9, fx86_0, fx86_1, fx86_2, fx86_9, fx88_0, fx88_1, fx88_2, fx88_9, fx90_0, fx90_1, fx90_2, fx90_9]
                     refine hK1 _ ?_; clear hK1 K1
                     refine xw_cut 6 [(147, (vb ((((((x89.2.2 == 0) && (x91.2.2 == 0)) && (x89.1.Stage == 3)) && (x91.1.Stage == 3)) && (decide (x89.1.Master = x91.1.Master))) && (decide (x89.1.Confirm = x91.1.Confirm)))))] (by (try simp only [go_sem]); rfl) (by (try simp only [go_sem]); rfl) (by rfl) (fun K1 hK1 => ?_) fun tz => ?_
                     ·
                      refine xw_id ?_
                      rcases Bool.eq_false_or_eq_true (((((x89.2.2 == 0) && (x91.2.2 == 0)) && (x89.1.Stage == 3)) && (x91.1.Stage == 3)) && (decide (x89.1.Master = x91.1.Master))) with h19 | h19
                      ·
                       have h19_0 : (x89.2.2 == 0) = true := by simp only [Bool.and_eq_true] at h19; exact h19.1.1.1.1
                       have h19_1 : (x91.2.2 == 0) = true := by simp only [Bool.and_eq_true] at h19; exact h19.1.1.1.2
                       have h19_2 : (x89.1.Stage == 3) = true := by simp only [Bool.and_eq_true] at h19; exact h19.1.1.2
                       have h19_3 : (x91.1.Stage == 3) = true := by simp only [Bool.and_eq_true] at h19; exact h19.1.2
                       have h19_4 : (decide (x89.1.Master = x91.1.Master)) = true := by simp only [Bool.and_eq_true] at h19; exact h19.2
                       try simp only [go_sem, Nat.reduceEqDiff, reduceIte, Nat.reduceAdd, Nat.reduceMul, Nat.reduceSub, Nat.reduceLT, Nat.reduceLeDiff, fx82_0, fx82_1, fx82_2, fx82_9, fx86_0, fx86_1, fx86_2, fx86_9, fx88_0, fx88_1, fx88_2, fx88_9, fx90_0, fx90_1, fx90_2, fx90_9, h19, h19_0, h19_1, h19_2, h19_3, h19_4]
                       exact hK1 _ ⟨rfl, (by first | rfl | (rw [h19]; rfl) | (simp only [h19, Bool.true_and, Bool.false_and, Bool.true_or, Bool.false_or, cond_true, cond_false]; done)), trivial⟩
                      ·
                       try simp only [go_sem, Nat.reduceEqDiff, reduceIte, Nat.reduceAdd, Nat.reduceMul, Nat.reduceSub, Nat.reduceLT, Nat.reduceLeDiff, fx82_0, fx82_1, fx82_2, fx82_9, fx86_0, fx86_1, fx86_2, fx86_9, fx88_0, fx88_1, fx88_2, fx88_9, fx90_0, fx90_1, fx90_2, fx90_9, h19]
                       exact hK1 _ ⟨rfl, (by first | rfl | (rw [h19]; rfl) | (simp only [h19, Bool.true_and, Bool.false_and, Bool.true_or, Bool.false_or, cond_true, cond_false]; done)), trivial⟩
                     ·
                      refine xw_id ?_
                      try simp only [go_sem, Nat.reduceEqDiff, reduceIte, Nat.reduceAdd, Nat.reduceMul, Nat.reduceSub, Nat.reduceLT, Nat.reduceLeDiff, fx82_0, fx82_1, fx82_2, fx82_9, fx86_0, fx86_1, fx86_2, fx86_9, fx88_0, fx88_1, fx88_2, fx88_9, fx90_0, fx90_1, fx90_2, fx90_9]
                      refine hKK _ _ (Wk.refl _ _ _) ?_; clear hKK KK
                      refine awp_ret1 ?_
                      obtain rfl := someInj h0
                      refine endW_i ?_
                      refine end_ret0 rs20 (rfl) ?_
                      try simp only [go_sem, Nat.reduceEqDiff, reduceIte, Nat.reduceAdd, Nat.reduceMul, Nat.reduceSub, Nat.reduceLT, Nat.reduceLeDiff, fz, nilS, packR, List.take_nil, List.take_length, List.length_map, List.length_append, cond_true, cond_false, Nat.ble_eq, ble_self]
                      all_goals first | rfl | (simp only [go_sem, Nat.reduceEqDiff, reduceIte, Nat.reduceAdd, Nat.reduceMul, Nat.reduceSub, Nat.reduceLT, Nat.reduceLeDiff, fz, nilS, packR, List.take_nil, List.take_length, List.length_map, List.length_append, cond_true, cond_false, Nat.ble_eq, ble_self, List.map_append] <;> rfl)

end Go.AX.Z.TX

/-! (TXW hotspotref22 Same) -/

set_option linter.unusedSimpArgs false
set_option linter.unusedVariables false
set_option maxHeartbeats 4000000
set_option maxRecDepth 20000
namespace Go.AX.Z.TX
open Go.AX Go.Proofs
attribute [local irreducible] awp xw xop xcall gsp ob xd xdop xcallD seqQ loopQ blkQ endQ

def hotspotref22_Same_S0 (d93 : Unit) : AS :=
 { objs := (fun _ => .dead), next := 0, tmps := (fun _ => .unk) }

def hotspotref22_Same_S1 (a0 : (List Int)) (a1 : (List Int)) (d95 : Int) : AS :=
 { objs := (fun _ => .dead), next := 0, tmps := (upd (upd (upd (fun _ => .unk) 0 (.imm (List.map vu a0) a0.length)) 1 (.imm (List.map vu a1) a1.length)) 5 (vi d95)) }

theorem hotspotref22_Same_p (a0 : (List Int)) (a1 : (List Int)) {r : Bool} (h0 : hotspotref22_Same a0 a1 = some r) : SndP K 11 [(S_vu a0), (S_vu a1)] (vb r) := by
 refine SndP.of_walkW hC (Clean.v _) (clean_cons (S_vu_clean _) (clean_cons (S_vu_clean _) clean_nil)) (show K.P.funcs[11]? = some Try.f11 from Try.func11) rfl rfl (by decide +kernel) (Nat.le_of_ble_eq_true rfl) ?_
 unfold hotspotref22_Same at h0
 refine awp_nr [0,1] (fun _ => rfl) fun tz => ?_
 refine awp_regW fun KK hKK => ?_
 refine xw_id ?_
 try simp only [go_sem, Nat.reduceEqDiff, reduceIte, Nat.reduceAdd, Nat.reduceMul, Nat.reduceSub, Nat.reduceLT, Nat.reduceLeDiff]
 refine hKK _ _ (Wk.refl _ _ _) ?_; clear hKK KK
 refine awp_assoc ?_
 refine awp_nr [0,1] (fun _ => rfl) fun tz => ?_
 refine awp_regW fun KK hKK => ?_
 refine xw_id ?_
 try simp only [go_sem, Nat.reduceEqDiff, reduceIte, Nat.reduceAdd, Nat.reduceMul, Nat.reduceSub, Nat.reduceLT, Nat.reduceLeDiff, Int.reduceToNat, Int.reduceBEq, Int.reduceBNe, Int.reduceLT, Int.reduceLE, Int.reduceAdd, Int.reduceSub, Int.reduceMul]
 refine hKK _ _ (Wk.refl _ _ _) ?_; clear hKK KK
 refine awp_cond (b := ((a0.length : Int) != (a1.length : Int))) rfl (fun h1 => ?_) (fun h1 => ?_)
 ·
  have h0 := cT h0 h1
  refine awp_assoc ?_
  refine awp_nr [] (fun _ => rfl) fun tz => ?_
  refine awp_regW fun KK hKK => ?_
  refine xw_id ?_
  try simp only [go_sem, Nat.reduceEqDiff, reduceIte, Nat.reduceAdd, Nat.reduceMul, Nat.reduceSub, Nat.reduceLT, Nat.reduceLeDiff]
  refine hKK _ _ (Wk.refl _ _ _) ?_; clear hKK KK
  refine awp_ret ?_
  obtain rfl := someInj h0
  refine endW_i ?_
  refine end_ret0 rs11 (rfl) ?_
  try simp only [go_sem, Nat.reduceEqDiff, reduceIte, Nat.reduceAdd, Nat.reduceMul, Nat.reduceSub, Nat.reduceLT, Nat.reduceLeDiff, fz, nilS, packR, List.take_nil, List.take_length, List.length_map, List.length_append, cond_true, cond_false, Nat.ble_eq, ble_self]
  all_goals first | rfl | (simp only [go_sem, Nat.reduceEqDiff, reduceIte, Nat.reduceAdd, Nat.reduceMul, Nat.reduceSub, Nat.reduceLT, Nat.reduceLeDiff, fz, nilS, packR, List.take_nil, List.take_length, List.length_map, List.length_append, cond_true, cond_false, Nat.ble_eq, ble_self, List.map_append] <;> rfl)
 ·
  have h0 := cF h0 h1
  refine awp_skip ?_
  refine awp_assoc ?_
  refine awp_nr [0,1] (fun _ => rfl) fun tz => ?_
  refine awp_regW fun KK hKK => ?_
  refine xw_id ?_
  try simp only [go_sem, Nat.reduceEqDiff, reduceIte, Nat.reduceAdd, Nat.reduceMul, Nat.reduceSub, Nat.reduceLT, Nat.reduceLeDiff]
  refine hKK _ _ (Wk.refl _ _ _) ?_; clear hKK KK
  obtain ⟨o94, hi2, h0⟩ := bnd h0
  refine awp_cut (fun d93 : Unit => o94 = Ex.go d93) (fun d93 : Unit => hotspotref22_Same_S0 d93) ?_ ?_
  ·
   refine awp_block1 ?_
   refine awp_loopS (fun n (d95 : Int) => hotspotref22_Same_L2 a0 a1 n d95 = some o94) (fun d95 : Int => hotspotref22_Same_S1 a0 a1 d95) big 0 (Wk.canonD [] [] [] rfl trivial rfl tmO0 (tmAllU 5 (tmAllU 1 (tmAllU 0 tmAll0 (Tm.clean (Clean.imm (vu_clean _)))) (Tm.clean (Clean.imm (vu_clean _)))) (Tm.v _))) hi2 ?_
   clear hi2
   rintro n d95 hl4
   rcases n with _ | n3
   ·
    (rw [hotspotref22_Same_L2] at hl4; cases hl4)
   ·
    rw [hotspotref22_Same_L2] at hl4
    unfold hotspotref22_Same_S1
    refine awp_assoc ?_
    refine awp_nr [0,1,5] (fun _ => rfl) fun tz => ?_
    refine awp_regW fun KK hKK => ?_
    refine xw_id ?_
    try simp only [go_sem, Nat.reduceEqDiff, reduceIte, Nat.reduceAdd, Nat.reduceMul, Nat.reduceSub, Nat.reduceLT, Nat.reduceLeDiff, Int.reduceToNat, Int.reduceBEq, Int.reduceBNe, Int.reduceLT, Int.reduceLE, Int.reduceAdd, Int.reduceSub, Int.reduceMul]
    refine hKK _ _ (Wk.refl _ _ _) ?_; clear hKK KK
    refine awp_cond (b := (decide (d95 < (a0.length : Int)))) rfl (fun h5 => ?_) (fun h5 => ?_)
    ·
     have hl4 := cT hl4 h5
     refine awp_skip ?_
     refine awp_blockW ?_
     refine awp_nr [0,1,5] (fun _ => rfl) fun tz => ?_
     refine awp_regW fun KK hKK => ?_
     refine xw_id ?_
     obtain ⟨x96, bx96, hl4⟩ := bnd hl4
     obtain ⟨fx96_0, fx96_1, fx96_2, fx96_3⟩ := idx_some bx96
     obtain ⟨x97, bx97, hl4⟩ := bnd hl4
     obtain ⟨fx97_0, fx97_1, fx97_2, fx97_3⟩ := idx_some bx97
     try simp only [go_sem, Nat.reduceEqDiff, reduceIte, Nat.reduceAdd, Nat.reduceMul, Nat.reduceSub, Nat.reduceLT, Nat.reduceLeDiff, fx96_0, fx96_1, fx96_2, fx97_0, fx97_1, fx97_2]
     refine hKK _ _ (Wk.refl _ _ _) ?_; clear hKK KK
     refine awp_cond1 (b := (x96 != x97)) rfl (fun h6 => ?_) (fun h6 => ?_)
     ·
      have hl4 := cT hl4 h6
      refine awp_nr [] (fun _ => rfl) fun tz => ?_
      refine awp_regW fun KK hKK => ?_
      refine xw_id ?_
      try simp only [go_sem, Nat.reduceEqDiff, reduceIte, Nat.reduceAdd, Nat.reduceMul, Nat.reduceSub, Nat.reduceLT, Nat.reduceLeDiff, fx96_0, fx96_1, fx96_2, fx97_0, fx97_1, fx97_2]
      refine hKK _ _ (Wk.refl _ _ _) ?_; clear hKK KK
      refine awp_ret1 ?_
      refine bq_r ?_
      refine sq_r ?_
      refine lq_r ?_
      refine bq_r ?_
      refine sq_r ?_
      obtain rfl := someInj hl4
      obtain rfl := Ex.k_ret h0
      refine endW_i ?_
      refine end_ret0 rs11 (rfl) ?_
      try simp only [go_sem, Nat.reduceEqDiff, reduceIte, Nat.reduceAdd, Nat.reduceMul, Nat.reduceSub, Nat.reduceLT, Nat.reduceLeDiff, fz, nilS, packR, List.take_nil, List.take_length, List.length_map, List.length_append, cond_true, cond_false, Nat.ble_eq, ble_self]
      all_goals first | rfl | (simp only [go_sem, Nat.reduceEqDiff, reduceIte, Nat.reduceAdd, Nat.reduceMul, Nat.reduceSub, Nat.reduceLT, Nat.reduceLeDiff, fz, nilS, packR, List.take_nil, List.take_length, List.length_map, List.length_append, cond_true, cond_false, Nat.ble_eq, ble_self, List.map_append] <;> rfl)
     ·
      have hl4 := cF hl4 h6
      refine awp_skip1 ?_
      refine bq_n ?_
      refine seqW_i ?_
      refine awp_nr1 [0,1,5] (fun _ => rfl) fun tz => ?_
      refine awp_reg1 fun KK hKK => ?_
      refine xw_id ?_
      try simp only [go_sem, Nat.reduceEqDiff, reduceIte, Nat.reduceAdd, Nat.reduceMul, Nat.reduceSub, Nat.reduceLT, Nat.reduceLeDiff, fx96_0, fx96_1, fx96_2, fx97_0, fx97_1, fx97_2]
      refine hKK _ ?_; clear hKK KK
      refine lq_n ?_
      exact ⟨n3, IntKind.wrap .i64 (d95 + 1), rfl, hl4, (Wk.canonD [] [] [] rfl trivial rfl tmO0 (tmAllU 5 (tmAllU 1 (tmAllU 0 tmAll0 (Tm.clean (Clean.imm (vu_clean _)))) (Tm.clean (Clean.imm (vu_clean _)))) (Tm.v _)))⟩
    ·
     have hl4 := cF hl4 h5
     refine awp_exit ?_
     refine lq_e ?_
     refine bq_e ?_
     refine sq_n ?_
     obtain rfl := someInj hl4
     exact ⟨_, rfl, (Wk.canonD [] [] [] rfl trivial rfl tmO0 tmAll0)⟩
  ·
   rintro d93 rfl
   have h0 := Ex.k_go h0
   clear hi2
   unfold hotspotref22_Same_S0
   refine awp_nr [] (fun _ => rfl) fun tz => ?_
   refine awp_regW fun KK hKK => ?_
   refine xw_id ?_
   try simp only [go_sem, Nat.reduceEqDiff, reduceIte, Nat.reduceAdd, Nat.reduceMul, Nat.reduceSub, Nat.reduceLT, Nat.reduceLeDiff]
   refine hKK _ _ (Wk.refl _ _ _) ?_; clear hKK KK
   refine awp_ret1 ?_
   obtain rfl := someInj h0
   refine endW_i ?_
   refine end_ret0 rs11 (rfl) ?_
   try simp only [go_sem, Nat.reduceEqDiff, reduceIte, Nat.reduceAdd, Nat.reduceMul, Nat.reduceSub, Nat.reduceLT, Nat.reduceLeDiff, fz, nilS, packR, List.take_nil, List.take_length, List.length_map, List.length_append, cond_true, cond_false, Nat.ble_eq, ble_self]
   all_goals first | rfl | (simp only [go_sem, Nat.reduceEqDiff, reduceIte, Nat.reduceAdd, Nat.reduceMul, Nat.reduceSub, Nat.reduceLT, Nat.reduceLeDiff, fz, nilS, packR, List.take_nil, List.take_length, List.length_map, List.length_append, cond_true, cond_false, Nat.ble_eq, ble_self, List.map_append] <;> rfl)

end Go.AX.Z.TX

/-! (TXW hotspotlaw29 AuthNames) -/

set_option linter.unusedSimpArgs false
set_option linter.unusedVariables false
set_option maxHeartbeats 4000000
set_option maxRecDepth 20000
namespace Go.AX.Z.TX
open Go.AX Go.Proofs
attribute [local irreducible] awp xw xop xcall gsp ob xd xdop xcallD seqQ loopQ blkQ endQ

def hotspotlaw29_AuthNames_S0 (x3 : (Int × Int)) : AS :=
 { objs := (fun _ => .dead), next := 0, tmps := (upd (fun _ => .unk) 3 (vi x3.2)) }

def hotspotlaw29_AuthNames_S1 (x3 : (Int × Int)) (x6 : (Int × Int)) (x9 : (Auth × Int)) : AS :=
 { objs := (fun _ => .dead), next := 0, tmps := (upd (upd (upd (fun _ => .unk) 3 (vi x3.2)) 5 (vi x6.2)) 7 (vi x9.2)) }

def hotspotlaw29_AuthNames_S2 (x3 : (Int × Int)) (x6 : (Int × Int)) (x9 : (Auth × Int)) (x12 : (Auth × Int)) : AS :=
 { objs := (fun _ => .dead), next := 0, tmps := (upd (upd (upd (upd (fun _ => .unk) 3 (vi x3.2)) 5 (vi x6.2)) 7 (vi x9.2)) 9 (vi x12.2)) }

def hotspotlaw29_AuthNames_S3 (x15 : (Auth × Int)) (x3 : (Int × Int)) (x6 : (Int × Int)) (x9 : (Auth × Int)) (x12 : (Auth × Int)) : AS :=
 { objs := (upd (fun _ => .dead) 0 (.live (e_Auth x15.1))), next := 1, tmps := (upd (upd (upd (upd (upd (upd (fun _ => .unk) 3 (vi x3.2)) 5 (vi x6.2)) 7 (vi x9.2)) 9 (vi x12.2)) 10 (.ptr 0 0)) 11 (vi x15.2)) }

def hotspotlaw29_AuthNames_S4 (x15 : (Auth × Int)) (x16 : (Auth × (List (List Int)) × Int)) (x3 : (Int × Int)) (x6 : (Int × Int)) (x9 : (Auth × Int)) (x12 : (Auth × Int)) (x19 : (Auth × (List (List Int)) × Int)) : AS :=
 { objs := (upd (upd (fun _ => .dead) 0 (.live (e_Auth x15.1))) 1 (.live (e_Auth x16.1))), next := 2, tmps := (upd (upd (upd (upd (upd (upd (upd (upd (fun _ => .unk) 3 (vi x3.2)) 5 (vi x6.2)) 7 (vi x9.2)) 9 (vi x12.2)) 10 (.ptr 0 0)) 12 (.ptr 1 0)) 13 (.imm (List.map S_vu x16.2.1) x16.2.1.length)) 17 (vi x19.2.2)) }

def hotspotlaw29_AuthNames_S5 (x15 : (Auth × Int)) (x16 : (Auth × (List (List Int)) × Int)) (x3 : (Int × Int)) (x6 : (Int × Int)) (x9 : (Auth × Int)) (x12 : (Auth × Int)) (x19 : (Auth × (List (List Int)) × Int)) (x21 : (Auth × (List (List Int)) × Int)) (x22 : (Auth × (List (List Int)) × Int)) : AS :=
 { objs := (upd (upd (fun _ => .dead) 0 (.live (e_Auth x15.1))) 1 (.live (e_Auth x16.1))), next := 2, tmps := (upd (upd (upd (upd (upd (upd (upd (upd (upd (upd (fun _ => .unk) 3 (vi x3.2)) 5 (vi x6.2)) 7 (vi x9.2)) 9 (vi x12.2)) 10 (.ptr 0 0)) 12 (.ptr 1 0)) 13 (.imm (List.map S_vu x16.2.1) x16.2.1.length)) 17 (vi x19.2.2)) 20 (vi x21.2.2)) 23 (vi x22.2.2)) }

def hotspotlaw29_AuthNames_S6 (x15 : (Auth × Int)) (x16 : (Auth × (List (List Int)) × Int)) (x3 : (Int × Int)) (x6 : (Int × Int)) (x9 : (Auth × Int)) (x12 : (Auth × Int)) (x19 : (Auth × (List (List Int)) × Int)) (x21 : (Auth × (List (List Int)) × Int)) (x22 : (Auth × (List (List Int)) × Int)) (x24 : (Auth × (List (List Int)) × Int)) (x25 : (Auth × (List (List Int)) × Int)) : AS :=
 { objs := (upd (upd (fun _ => .dead) 0 (.live (e_Auth x15.1))) 1 (.live (e_Auth x16.1))), next := 2, tmps := (upd (upd (upd (upd (upd (upd (upd (upd (upd (upd (upd (fun _ => .unk) 3 (vi x3.2)) 5 (vi x6.2)) 7 (vi x9.2)) 9 (vi x12.2)) 10 (.ptr 0 0)) 12 (.ptr 1 0)) 17 (vi x19.2.2)) 20 (vi x21.2.2)) 23 (vi x22.2.2)) 26 (vi x24.2.2)) 29 (vi x25.2.2)) }

def hotspotlaw29_AuthNames_S7 (x15 : (Auth × Int)) (x16 : (Auth × (List (List Int)) × Int)) (x26 : (Auth × (List (List Int)) × Int)) (x3 : (Int × Int)) (x6 : (Int × Int)) (x9 : (Auth × Int)) (x12 : (Auth × Int)) (x19 : (Auth × (List (List Int)) × Int)) (x21 : (Auth × (List (List Int)) × Int)) (x22 : (Auth × (List (List Int)) × Int)) (x24 : (Auth × (List (List Int)) × Int)) (x25 : (Auth × (List (List Int)) × Int)) : AS :=
 { objs := (upd (upd (upd (fun _ => .dead) 0 (.live (e_Auth x15.1))) 1 (.live (e_Auth x16.1))) 2 (.live (e_Auth x26.1))), next := 3, tmps := (upd (upd (upd (upd (upd (upd (upd (upd (upd (upd (upd (upd (upd (upd (fun _ => .unk) 3 (vi x3.2)) 5 (vi x6.2)) 7 (vi x9.2)) 9 (vi x12.2)) 10 (.ptr 0 0)) 12 (.ptr 1 0)) 17 (vi x19.2.2)) 20 (vi x21.2.2)) 23 (vi x22.2.2)) 26 (vi x24.2.2)) 29 (vi x25.2.2)) 30 (.ptr 2 0)) 31 (.imm (List.map S_vu x26.2.1) x26.2.1.length)) 32 (vi x26.2.2)) }

def hotspotlaw29_AuthNames_S8 (x15 : (Auth × Int)) (x16 : (Auth × (List (List Int)) × Int)) (x26 : (Auth × (List (List Int)) × Int)) (x3 : (Int × Int)) (x6 : (Int × Int)) (x9 : (Auth × Int)) (x12 : (Auth × Int)) (x19 : (Auth × (List (List Int)) × Int)) (x21 : (Auth × (List (List Int)) × Int)) (x22 : (Auth × (List (List Int)) × Int)) (x24 : (Auth × (List (List Int)) × Int)) (x25 : (Auth × (List (List Int)) × Int)) (x27 : (Auth × (List (List Int)) × Int)) : AS :=
 { objs := (upd (upd (upd (fun _ => .dead) 0 (.live (e_Auth x15.1))) 1 (.live (e_Auth x16.1))) 2 (.live (e_Auth x26.1))), next := 3, tmps := (upd (upd (upd (upd (upd (upd (upd (upd (upd (upd (upd (upd (upd (upd (upd (fun _ => .unk) 3 (vi x3.2)) 5 (vi x6.2)) 7 (vi x9.2)) 9 (vi x12.2)) 10 (.ptr 0 0)) 12 (.ptr 1 0)) 17 (vi x19.2.2)) 20 (vi x21.2.2)) 23 (vi x22.2.2)) 26 (vi x24.2.2)) 29 (vi x25.2.2)) 30 (.ptr 2 0)) 31 (.imm (List.map S_vu x26.2.1) x26.2.1.length)) 32 (vi x26.2.2)) 35 (vi x27.2.2)) }

def hotspotlaw29_AuthNames_S9 (x15 : (Auth × Int)) (x26 : (Auth × (List (List Int)) × Int)) (x29 : ((List Int) × Int)) (x3 : (Int × Int)) (x6 : (Int × Int)) (x9 : (Auth × Int)) (x12 : (Auth × Int)) (x19 : (Auth × (List (List Int)) × Int)) (x21 : (Auth × (List (List Int)) × Int)) (x22 : (Auth × (List (List Int)) × Int)) (x24 : (Auth × (List (List Int)) × Int)) (x25 : (Auth × (List (List Int)) × Int)) (x27 : (Auth × (List (List Int)) × Int)) (x28 : (Auth × (List (List Int)) × Int)) : AS :=
 { objs := (upd (upd (upd (fun _ => .dead) 0 (.live (e_Auth x15.1))) 1 (.live (e_Auth x26.1))) 2 (.live (List.map vu x29.1))), next := 3, tmps := (upd (upd (upd (upd (upd (upd (upd (upd (upd (upd (upd (upd (upd (upd (upd (upd (upd (fun _ => .unk) 3 (vi x3.2)) 5 (vi x6.2)) 7 (vi x9.2)) 9 (vi x12.2)) 10 (.ptr 0 0)) 17 (vi x19.2.2)) 20 (vi x21.2.2)) 23 (vi x22.2.2)) 26 (vi x24.2.2)) 29 (vi x25.2.2)) 30 (.ptr 1 0)) 31 (.imm (List.map S_vu x26.2.1) x26.2.1.length)) 32 (vi x26.2.2)) 35 (vi x27.2.2)) 38 (vi x28.2.2)) 39 (.ref 2 0 x29.1.length 1)) 40 (vi x29.2)) }

def hotspotlaw29_AuthNames_S10 (x15 : (Auth × Int)) (x26 : (Auth × (List (List Int)) × Int)) (x29 : ((List Int) × Int)) (x3 : (Int × Int)) (x6 : (Int × Int)) (x9 : (Auth × Int)) (x12 : (Auth × Int)) (x19 : (Auth × (List (List Int)) × Int)) (x21 : (Auth × (List (List Int)) × Int)) (x22 : (Auth × (List (List Int)) × Int)) (x24 : (Auth × (List (List Int)) × Int)) (x25 : (Auth × (List (List Int)) × Int)) (x27 : (Auth × (List (List Int)) × Int)) (x28 : (Auth × (List (List Int)) × Int)) (x30 : ((List Int) × Int)) : AS :=
 { objs := (upd (upd (upd (upd (fun _ => .dead) 0 (.live (e_Auth x15.1))) 1 (.live (e_Auth x26.1))) 2 (.live (List.map vu x29.1))) 3 (.live (List.map vu ([0, 0, 0, 0, 0, 0, 0, 0, 0, 0, 0, 0, 0, 0, 0, 0, 0, 0].set 0 1)))), next := 4, tmps := (upd (upd (upd (upd (upd (upd (upd (upd (upd (upd (upd (upd (upd (upd (upd (upd (upd (upd (upd (fun _ => .unk) 3 (vi x3.2)) 5 (vi x6.2)) 7 (vi x9.2)) 9 (vi x12.2)) 10 (.ptr 0 0)) 17 (vi x19.2.2)) 20 (vi x21.2.2)) 23 (vi x22.2.2)) 26 (vi x24.2.2)) 29 (vi x25.2.2)) 30 (.ptr 1 0)) 31 (.imm (List.map S_vu x26.2.1) x26.2.1.length)) 32 (vi x26.2.2)) 35 (vi x27.2.2)) 38 (vi x28.2.2)) 39 (.ref 2 0 x29.1.length 1)) 40 (vi x29.2)) 42 (vi x30.2)) 43 (.ref 3 0 (([0, 0, 0, 0, 0, 0, 0, 0, 0, 0, 0, 0, 0, 0, 0, 0, 0, 0].set 0 1).length) 1)) }

theorem hotspotlaw29_AuthNames_p {r : Bool} (h0 : hotspotlaw29_AuthNames = some r) : SndP K 6 [] (vb r) := by
 refine SndP.of_walkW hC (Clean.v _) clean_nil (show K.P.funcs[6]? = some Try.f6 from Try.func6) rfl rfl (by decide +kernel) (Nat.le_of_ble_eq_true rfl) ?_
 unfold hotspotlaw29_AuthNames at h0
 refine awp_nr [] (fun _ => rfl) fun tz => ?_
 refine awp_regW fun KK hKK => ?_
 refine xw_id ?_
 try simp only [go_sem, Nat.reduceEqDiff, reduceIte, Nat.reduceAdd, Nat.reduceMul, Nat.reduceSub, Nat.reduceLT, Nat.reduceLeDiff]
 refine hKK _ _ (Wk.refl _ _ _) ?_; clear hKK KK
 refine awp_nr [] (fun _ => rfl) fun tz => ?_
 refine awp_regW fun KK hKK => ?_
 refine xw_id ?_
 have gs1 : rep 65 [(vu 0)] = List.map vu (List.replicate 65 0) := rep_map vu 0 _
 try simp only [go_sem, Nat.reduceEqDiff, reduceIte, Nat.reduceAdd, Nat.reduceMul, Nat.reduceSub, Nat.reduceLT, Nat.reduceLeDiff, Int.reduceToNat, Int.reduceBEq, Int.reduceBNe, Int.reduceLT, Int.reduceLE, Int.reduceAdd, Int.reduceSub, Int.reduceMul, gs1]
 refine hKK _ _ (Wk.refl _ _ _) ?_; clear hKK KK
 refine awp_nr [1] (fun _ => rfl) fun tz => ?_
 refine awp_regW fun KK hKK => ?_
 refine xw_id ?_
 have gs2 : sub? (List.map vu (List.replicate 65 0)) 0 65 = some (List.map vu (List.replicate 65 0)) := by have h := vu_subw (List.replicate 65 0); rwa [List.length_replicate] at h
 obtain ⟨x1, bx1, h0⟩ := bnd h0
 try simp only [go_sem, Nat.reduceEqDiff, reduceIte, Nat.reduceAdd, Nat.reduceMul, Nat.reduceSub, Nat.reduceLT, Nat.reduceLeDiff, vu_len, Nat.mul_one, gs2]
 refine xcall_p (hotspotlaw29_one_p  bx1) ?_; try dsimp only
 try refine xw_id ?_
 obtain ⟨x2, bx2, h0⟩ := bnd h0
 try simp only [go_sem, Nat.reduceEqDiff, reduceIte, Nat.reduceAdd, Nat.reduceMul, Nat.reduceSub, Nat.reduceLT, Nat.reduceLeDiff, vu_len, Nat.mul_one, gs2]
 refine xcall_p (hotspotlaw29_two_p  bx2) ?_; try dsimp only
 try refine xw_id ?_
 obtain ⟨x3, bx3, h0⟩ := bnd h0
 try simp only [go_sem, Nat.reduceEqDiff, reduceIte, Nat.reduceAdd, Nat.reduceMul, Nat.reduceSub, Nat.reduceLT, Nat.reduceLeDiff, vu_len, Nat.mul_one, gs2]
 refine xcall_p (auth_Base_p (List.replicate 65 0) x1 x2 bx3) ?_; try dsimp only
 try refine xw_id ?_
 try simp only [go_sem, Nat.reduceEqDiff, reduceIte, Nat.reduceAdd, Nat.reduceMul, Nat.reduceSub, Nat.reduceLT, Nat.reduceLeDiff, vu_len, Nat.mul_one, gs2]
 refine hKK _ (hotspotlaw29_AuthNames_S0 x3) (Wk.canonD [] [] [] rfl trivial rfl tmO0 (tmAllU 3 tmAll0 (Tm.v _))) ?_; clear hKK KK
 unfold hotspotlaw29_AuthNames_S0
 refine awp_nr [3] (fun _ => rfl) fun tz => ?_
 refine awp_regW fun KK hKK => ?_
 refine xw_id ?_
 obtain ⟨x4, bx4, h0⟩ := bnd h0
 try simp only [go_sem, Nat.reduceEqDiff, reduceIte, Nat.reduceAdd, Nat.reduceMul, Nat.reduceSub, Nat.reduceLT, Nat.reduceLeDiff]
 refine xcall_p (hotspotlaw29_one_p  bx4) ?_; try dsimp only
 try refine xw_id ?_
 obtain ⟨x5, bx5, h0⟩ := bnd h0
 try simp only [go_sem, Nat.reduceEqDiff, reduceIte, Nat.reduceAdd, Nat.reduceMul, Nat.reduceSub, Nat.reduceLT, Nat.reduceLeDiff]
 refine xcall_p (hotspotlaw29_one_p  bx5) ?_; try dsimp only
 try refine xw_id ?_
 have gs3 : AV.v (.string ⟨#[]⟩) = vs ([] : List Int) := by kernel_rfl
 obtain ⟨x6, bx6, h0⟩ := bnd h0
 try simp only [go_sem, Nat.reduceEqDiff, reduceIte, Nat.reduceAdd, Nat.reduceMul, Nat.reduceSub, Nat.reduceLT, Nat.reduceLeDiff, gs3]
 refine xcall_p (auth_Base_p ([] : List Int) x4 x5 bx6) ?_; try dsimp only
 try refine xw_id ?_
 try simp only [go_sem, Nat.reduceEqDiff, reduceIte, Nat.reduceAdd, Nat.reduceMul, Nat.reduceSub, Nat.reduceLT, Nat.reduceLeDiff, gs3]
 refine hKK _ _ (Wk.refl _ _ _) ?_; clear hKK KK
 refine awp_nr [3,5] (fun _ => rfl) fun tz => ?_
 refine awp_regW fun KK hKK => ?_
 refine xw_id ?_
 obtain ⟨x7, bx7, h0⟩ := bnd h0
 try simp only [go_sem, Nat.reduceEqDiff, reduceIte, Nat.reduceAdd, Nat.reduceMul, Nat.reduceSub, Nat.reduceLT, Nat.reduceLeDiff]
 refine xcall_p (hotspotlaw29_one_p  bx7) ?_; try dsimp only
 try refine xw_id ?_
 obtain ⟨x8, bx8, h0⟩ := bnd h0
 try simp only [go_sem, Nat.reduceEqDiff, reduceIte, Nat.reduceAdd, Nat.reduceMul, Nat.reduceSub, Nat.reduceLT, Nat.reduceLeDiff]
 refine xcall_p (hotspotlaw29_two_p  bx8) ?_; try dsimp only
 try refine xw_id ?_
 have gs4 : AV.v (.string ⟨#[120]⟩) = vs [120] := by kernel_rfl
 obtain ⟨x9, bx9, h0⟩ := bnd h0
 try simp only [go_sem, Nat.reduceEqDiff, reduceIte, Nat.reduceAdd, Nat.reduceMul, Nat.reduceSub, Nat.reduceLT, Nat.reduceLeDiff, gs4]
 refine xcall_p (auth_New_p x7 x8 [120] 1 5 bx9) ?_; try dsimp only
 try refine xw_id ?_
 try simp only [go_sem, Nat.reduceEqDiff, reduceIte, Nat.reduceAdd, Nat.reduceMul, Nat.reduceSub, Nat.reduceLT, Nat.reduceLeDiff, gs4]
 refine hKK _ (hotspotlaw29_AuthNames_S1 x3 x6 x9) (Wk.canonD [] [] [] rfl trivial rfl tmO0 (tmAllU 7 (tmAllU 5 (tmAllU 3 tmAll0 (Tm.v _)) (Tm.v _)) (Tm.v _))) ?_; clear hKK KK
 unfold hotspotlaw29_AuthNames_S1
 refine awp_nr [3,5,7] (fun _ => rfl) fun tz => ?_
 refine awp_regW fun KK hKK => ?_
 refine xw_id ?_
 obtain ⟨x10, bx10, h0⟩ := bnd h0
 try simp only [go_sem, Nat.reduceEqDiff, reduceIte, Nat.reduceAdd, Nat.reduceMul, Nat.reduceSub, Nat.reduceLT, Nat.reduceLeDiff]
 refine xcall_p (hotspotlaw29_one_p  bx10) ?_; try dsimp only
 try refine xw_id ?_
 obtain ⟨x11, bx11, h0⟩ := bnd h0
 try simp only [go_sem, Nat.reduceEqDiff, reduceIte, Nat.reduceAdd, Nat.reduceMul, Nat.reduceSub, Nat.reduceLT, Nat.reduceLeDiff]
 refine xcall_p (hotspotlaw29_two_p  bx11) ?_; try dsimp only
 try refine xw_id ?_
 have gs5 : AV.v (.string ⟨#[120]⟩) = vs [120] := by kernel_rfl
 obtain ⟨x12, bx12, h0⟩ := bnd h0
 try simp only [go_sem, Nat.reduceEqDiff, reduceIte, Nat.reduceAdd, Nat.reduceMul, Nat.reduceSub, Nat.reduceLT, Nat.reduceLeDiff, gs5]
 refine xcall_p (auth_New_p x10 x11 [120] 5 2305843009213693950 bx12) ?_; try dsimp only
 try refine xw_id ?_
 try simp only [go_sem, Nat.reduceEqDiff, reduceIte, Nat.reduceAdd, Nat.reduceMul, Nat.reduceSub, Nat.reduceLT, Nat.reduceLeDiff, gs5]
 refine hKK _ (hotspotlaw29_AuthNames_S2 x3 x6 x9 x12) (Wk.canonD [] [] [] rfl trivial rfl tmO0 (tmAllU 9 (tmAllU 7 (tmAllU 5 (tmAllU 3 tmAll0 (Tm.v _)) (Tm.v _)) (Tm.v _)) (Tm.v _))) ?_; clear hKK KK
 unfold hotspotlaw29_AuthNames_S2
 refine awp_nr [3,5,7,9] (fun _ => rfl) fun tz => ?_
 refine awp_regW fun KK hKK => ?_
 refine xw_id ?_
 obtain ⟨x13, bx13, h0⟩ := bnd h0
 try simp only [go_sem, Nat.reduceEqDiff, reduceIte, Nat.reduceAdd, Nat.reduceMul, Nat.reduceSub, Nat.reduceLT, Nat.reduceLeDiff]
 refine xcall_p (hotspotlaw29_one_p  bx13) ?_; try dsimp only
 try refine xw_id ?_
 obtain ⟨x14, bx14, h0⟩ := bnd h0
 try simp only [go_sem, Nat.reduceEqDiff, reduceIte, Nat.reduceAdd, Nat.reduceMul, Nat.reduceSub, Nat.reduceLT, Nat.reduceLeDiff]
 refine xcall_p (hotspotlaw29_two_p  bx14) ?_; try dsimp only
 try refine xw_id ?_
 have gs6 : AV.v (.string ⟨#[120]⟩) = vs [120] := by kernel_rfl
 obtain ⟨x15, bx15, h0⟩ := bnd h0
 try simp only [go_sem, Nat.reduceEqDiff, reduceIte, Nat.reduceAdd, Nat.reduceMul, Nat.reduceSub, Nat.reduceLT, Nat.reduceLeDiff, gs6]
 refine xcall_p (auth_New_p x13 x14 [120] 5 6 bx15) ?_; try dsimp only
 try refine xw_id ?_
 try simp only [go_sem, Nat.reduceEqDiff, reduceIte, Nat.reduceAdd, Nat.reduceMul, Nat.reduceSub, Nat.reduceLT, Nat.reduceLeDiff, gs6]
 refine hKK _ (hotspotlaw29_AuthNames_S3 x15 x3 x6 x9 x12) (Wk.canonD [] [] [some 6] rfl trivial rfl (tmOU 0 tmO0 rfl List.not_mem_nil (by simp only [upd_get, Nat.reduceEqDiff, reduceIte, if_true, if_false] <;> rfl) (TmL.clean (e_Auth_clean _))) (tmAllU 11 (tmAllU 10 (tmAllU 9 (tmAllU 7 (tmAllU 5 (tmAllU 3 tmAll0 (Tm.v _)) (Tm.v _)) (Tm.v _)) (Tm.v _)) (Tm.ptr rfl)) (Tm.v _))) ?_; clear hKK KK
 unfold hotspotlaw29_AuthNames_S3
 refine awp_nr [3,5,7,9,10,11] (fun _ => rfl) fun tz => ?_
 refine awp_regW fun KK hKK => ?_
 refine xw_id ?_
 obtain ⟨x16, bx16, h0⟩ := bnd h0
 try simp only [go_sem, Nat.reduceEqDiff, reduceIte, Nat.reduceAdd, Nat.reduceMul, Nat.reduceSub, Nat.reduceLT, Nat.reduceLeDiff]
 refine xcall_p (auth_Start_p x15.1 0 bx16) ?_; try dsimp only
 try refine xw_id ?_
 try simp only [go_sem, Nat.reduceEqDiff, reduceIte, Nat.reduceAdd, Nat.reduceMul, Nat.reduceSub, Nat.reduceLT, Nat.reduceLeDiff]
 refine hKK _ _ (Wk.refl _ _ _) ?_; clear hKK KK
 refine awp_assoc ?_
 refine awp_nr [3,5,7,9,10,11,12,13,14] (fun _ => rfl) fun tz => ?_
 refine awp_regW fun KK hKK => ?_
 refine xw_id ?_
 refine xw_stop 3 (by (try simp only [go_sem]); rfl) (by (try simp only [go_sem]); rfl) (by rfl) fun K1 hK1 => ?_
 refine xw_id ?_
 try simp only [go_sem, Nat.reduceEqDiff, reduceIte, Nat.reduceAdd, Nat.reduceMul, Nat.reduceSub, Nat.reduceLT, Nat.reduceLeDiff]
 refine hK1 _ ?_; clear hK1 K1
 refine xw_cut 3 [(3, (vi x3.2)), (5, (vi x6.2)), (7, (vi x9.2)), (9, (vi x12.2)), (10, (.ptr 0 0)), (12, (.ptr 7 0)), (13, (.imm (List.map S_vu x16.2.1) x16.2.1.length)), (92, (vb ((x15.2 != 0) || (x16.2.2 != 0))))] (by (try simp only [go_sem]); rfl) (by (try simp only [go_sem]); rfl) (by rfl) (fun K1 hK1 => ?_) fun tz => ?_
 ·
  refine xw_id ?_
  rcases Bool.eq_false_or_eq_true (x15.2 != 0) with h7 | h7
  ·
   try simp only [go_sem, Nat.reduceEqDiff, reduceIte, Nat.reduceAdd, Nat.reduceMul, Nat.reduceSub, Nat.reduceLT, Nat.reduceLeDiff, h7]
   exact hK1 _ ⟨rfl, rfl, rfl, rfl, rfl, rfl, rfl, rfl, (by first | rfl | (rw [h7]; rfl) | (simp only [h7, Bool.true_and, Bool.false_and, Bool.true_or, Bool.false_or, cond_true, cond_false]; done)), trivial⟩
  ·
   try simp only [go_sem, Nat.reduceEqDiff, reduceIte, Nat.reduceAdd, Nat.reduceMul, Nat.reduceSub, Nat.reduceLT, Nat.reduceLeDiff, h7]
   exact hK1 _ ⟨rfl, rfl, rfl, rfl, rfl, rfl, rfl, rfl, (by first | rfl | (rw [h7]; rfl) | (simp only [h7, Bool.true_and, Bool.false_and, Bool.true_or, Bool.false_or, cond_true, cond_false]; done)), trivial⟩
 ·
  refine xw_id ?_
  refine xw_stop 1 (by (try simp only [go_sem]); rfl) (by (try simp only [go_sem]); rfl) (by rfl) fun K1 hK1 => ?_
  refine xw_id ?_
  try simp only [go_sem, Nat.reduceEqDiff, reduceIte, Nat.reduceAdd, Nat.reduceMul, Nat.reduceSub, Nat.reduceLT, Nat.reduceLeDiff]
  refine hK1 _ ?_; clear hK1 K1
  refine xw_cut 4 [(3, (vi x3.2)), (5, (vi x6.2)), (7, (vi x9.2)), (9, (vi x12.2)), (10, (.ptr 0 0)), (12, (.ptr 7 0)), (13, (.imm (List.map S_vu x16.2.1) x16.2.1.length)), (97, (vb (((x15.2 != 0) || (x16.2.2 != 0)) || ((x16.2.1.length : Int) != 1))))] (by (try simp only [go_sem]); rfl) (by (try simp only [go_sem]); rfl) (by rfl) (fun K1 hK1 => ?_) fun tz => ?_
  ·
   refine xw_id ?_
   rcases Bool.eq_false_or_eq_true ((x15.2 != 0) || (x16.2.2 != 0)) with h8 | h8
   ·
    try simp only [go_sem, Nat.reduceEqDiff, reduceIte, Nat.reduceAdd, Nat.reduceMul, Nat.reduceSub, Nat.reduceLT, Nat.reduceLeDiff, h8]
    exact hK1 _ ⟨rfl, rfl, rfl, rfl, rfl, rfl, rfl, rfl, (by first | rfl | (rw [h8]; rfl) | (simp only [h8, Bool.true_and, Bool.false_and, Bool.true_or, Bool.false_or, cond_true, cond_false]; done)), trivial⟩
   ·
    try simp only [go_sem, Nat.reduceEqDiff, reduceIte, Nat.reduceAdd, Nat.reduceMul, Nat.reduceSub, Nat.reduceLT, Nat.reduceLeDiff, Int.reduceToNat, Int.reduceBEq, Int.reduceBNe, Int.reduceLT, Int.reduceLE, Int.reduceAdd, Int.reduceSub, Int.reduceMul, h8]
    exact hK1 _ ⟨rfl, rfl, rfl, rfl, rfl, rfl, rfl, rfl, (by first | rfl | (rw [h8]; rfl) | (simp only [h8, Bool.true_and, Bool.false_and, Bool.true_or, Bool.false_or, cond_true, cond_false]; done)), trivial⟩
  ·
   refine xw_id ?_
   refine xw_stop 1 (by (try simp only [go_sem]); rfl) (by (try simp only [go_sem]); rfl) (by rfl) fun K1 hK1 => ?_
   refine xw_id ?_
   try simp only [go_sem, Nat.reduceEqDiff, reduceIte, Nat.reduceAdd, Nat.reduceMul, Nat.reduceSub, Nat.reduceLT, Nat.reduceLeDiff]
   refine hK1 _ ?_; clear hK1 K1
   obtain ⟨x18, hvh9, h0⟩ := bnd h0
   refine xw_cut 6 [(3, (vi x3.2)), (5, (vi x6.2)), (7, (vi x9.2)), (9, (vi x12.2)), (10, (.ptr 0 0)), (12, (.ptr 7 0)), (13, (.imm (List.map S_vu x16.2.1) x16.2.1.length)), (104, (vb x18))] (by (try simp only [go_sem]); rfl) (by (try simp only [go_sem]); rfl) (by rfl) (fun K1 hK1 => ?_) fun tz => ?_
   ·
    refine xw_id ?_
    rcases Bool.eq_false_or_eq_true (((x15.2 != 0) || (x16.2.2 != 0)) || ((x16.2.1.length : Int) != 1)) with h9 | h9
    ·
     have hvh9 := cT hvh9 h9
     try simp only [go_sem, Nat.reduceEqDiff, reduceIte, Nat.reduceAdd, Nat.reduceMul, Nat.reduceSub, Nat.reduceLT, Nat.reduceLeDiff, h9]
     obtain rfl := someInj hvh9
     exact hK1 _ ⟨rfl, rfl, rfl, rfl, rfl, rfl, rfl, rfl, (by first | rfl | (rw [h9]; rfl) | (simp only [h9, Bool.true_and, Bool.false_and, Bool.true_or, Bool.false_or, cond_true, cond_false]; done)), trivial⟩
    ·
     have hvh9 := cF hvh9 h9
     obtain ⟨x17, bx17, hvh9⟩ := bnd hvh9
     obtain ⟨fx17_0, fx17_1, fx17_2, fx17_3⟩ := idx_some bx17
     simp only [Int.reduceToNat] at fx17_2 fx17_3
     have fx17_9 : (List.map S_vu x16.2.1)[0]? = some (S_vu x17) := by rw [List.getElem?_map, fx17_2]; rfl
     try simp only [go_sem, Nat.reduceEqDiff, reduceIte, Nat.reduceAdd, Nat.reduceMul, Nat.reduceSub, Nat.reduceLT, Nat.reduceLeDiff, Int.reduceToNat, Int.reduceBEq, Int.reduceBNe, Int.reduceLT, Int.reduceLE, Int.reduceAdd, Int.reduceSub, Int.reduceMul, h9, fx17_0, fx17_1, fx17_2, fx17_9]
     obtain rfl := someInj hvh9
     exact hK1 _ ⟨rfl, rfl, rfl, rfl, rfl, rfl, rfl, rfl, (by first | rfl | (rw [h9]; rfl) | (simp only [h9, Bool.true_and, Bool.false_and, Bool.true_or, Bool.false_or, cond_true, cond_false]; done)), trivial⟩
   ·
    refine xw_id ?_
    try simp only [go_sem, Nat.reduceEqDiff, reduceIte, Nat.reduceAdd, Nat.reduceMul, Nat.reduceSub, Nat.reduceLT, Nat.reduceLeDiff]
    refine hKK _ _ (Wk.refl _ _ _) ?_; clear hKK KK
    refine awp_cond (b := x18) rfl (fun h10 => ?_) (fun h10 => ?_)
    ·
     have h0 := cT h0 h10
     refine awp_assoc ?_
     refine awp_nr [] (fun _ => rfl) fun tz => ?_
     refine awp_regW fun KK hKK => ?_
     refine xw_id ?_
     try simp only [go_sem, Nat.reduceEqDiff, reduceIte, Nat.reduceAdd, Nat.reduceMul, Nat.reduceSub, Nat.reduceLT, Nat.reduceLeDiff]
     refine hKK _ _ (Wk.refl _ _ _) ?_; clear hKK KK
     refine awp_ret ?_
     obtain rfl := someInj h0
     refine endW_i ?_
     refine end_ret0 rs6 (rfl) ?_
     try simp only [go_sem, Nat.reduceEqDiff, reduceIte, Nat.reduceAdd, Nat.reduceMul, Nat.reduceSub, Nat.reduceLT, Nat.reduceLeDiff, fz, nilS, packR, List.take_nil, List.take_length, List.length_map, List.length_append, cond_true, cond_false, Nat.ble_eq, ble_self]
     all_goals first | rfl | (simp only [go_sem, Nat.reduceEqDiff, reduceIte, Nat.reduceAdd, Nat.reduceMul, Nat.reduceSub, Nat.reduceLT, Nat.reduceLeDiff, fz, nilS, packR, List.take_nil, List.take_length, List.length_map, List.length_append, cond_true, cond_false, Nat.ble_eq, ble_self, List.map_append] <;> rfl)
    ·
     have h0 := cF h0 h10
     refine awp_skip ?_
     refine awp_nr [3,5,7,9,10,12,13] (fun _ => rfl) fun tz => ?_
     refine awp_regW fun KK hKK => ?_
     refine xw_id ?_
     obtain ⟨x19, bx19, h0⟩ := bnd h0
     try simp only [go_sem, Nat.reduceEqDiff, reduceIte, Nat.reduceAdd, Nat.reduceMul, Nat.reduceSub, Nat.reduceLT, Nat.reduceLeDiff]
     refine xcall_p (auth_Start_p x16.1 0 bx19) ?_; try dsimp only
     try refine xw_id ?_
     try simp only [go_sem, Nat.reduceEqDiff, reduceIte, Nat.reduceAdd, Nat.reduceMul, Nat.reduceSub, Nat.reduceLT, Nat.reduceLeDiff]
     refine hKK _ (hotspotlaw29_AuthNames_S4 x15 x16 x3 x6 x9 x12 x19) (Wk.canonD [] [] [some 0, some 7] rfl trivial rfl (tmOU 1 (tmOU 0 tmO0 rfl List.not_mem_nil (by simp only [upd_get, Nat.reduceEqDiff, reduceIte, if_true, if_false] <;> rfl) (TmL.clean (e_Auth_clean _))) rfl List.not_mem_nil (by simp only [upd_get, Nat.reduceEqDiff, reduceIte, if_true, if_false] <;> rfl) (TmL.clean (e_Auth_clean _))) (tmAllU 17 (tmAllU 13 (tmAllU 12 (tmAllU 10 (tmAllU 9 (tmAllU 7 (tmAllU 5 (tmAllU 3 tmAll0 (Tm.v _)) (Tm.v _)) (Tm.v _)) (Tm.v _)) (Tm.ptr rfl)) (Tm.ptr rfl)) (Tm.clean (Clean.imm (cS_vu _)))) (Tm.v _))) ?_; clear hKK KK
     unfold hotspotlaw29_AuthNames_S4
     refine awp_nr [3,5,7,9,10,12,13,17] (fun _ => rfl) fun tz => ?_
     refine awp_regDW fun KK hKK all hall => ?_
     refine xd_id ?_
     try simp only [List.toList_toArray, List.map_cons, List.map_nil, List.size_toArray, List.length_cons, List.length_nil, Nat.zero_add]
     try simp only [Nat.reduceAdd]
     obtain ⟨x20, bx20, h0⟩ := bnd h0
     obtain ⟨fx20_0, fx20_1, fx20_2, fx20_3⟩ := idx_some bx20
     simp only [Int.reduceToNat] at fx20_2 fx20_3
     have fx20_9 : (List.map S_vu x16.2.1)[0]? = some (S_vu x20) := by rw [List.getElem?_map, fx20_2]; rfl
     obtain ⟨x21, bx21, h0⟩ := bnd h0
     iterate 3 ((try simp only [go_sem, Nat.reduceEqDiff, reduceIte, Nat.reduceMul, Nat.reduceSub, Nat.reduceLT, Nat.reduceLeDiff, Int.reduceToNat, Int.reduceBEq, Int.reduceBNe, Int.reduceLT, Int.reduceLE, Int.reduceAdd, Int.reduceSub, Int.reduceMul, fx20_0, fx20_1, fx20_2, fx20_9]); try simp only [Nat.reduceAdd])
     refine xcallD_p (auth_Handle_p x16.1 x20 0 bx21) ?_; try dsimp only
     try refine xd_id ?_
     iterate 3 ((try simp only [go_sem, Nat.reduceEqDiff, reduceIte, Nat.reduceMul, Nat.reduceSub, Nat.reduceLT, Nat.reduceLeDiff, Int.reduceToNat, Int.reduceBEq, Int.reduceBNe, Int.reduceLT, Int.reduceLE, Int.reduceAdd, Int.reduceSub, Int.reduceMul, fx20_0, fx20_1, fx20_2, fx20_9]); try simp only [Nat.reduceAdd])
     refine And.intro ?_ (hKK _ _ (Wk.refl _ _ _) ?_)
     ·
      subst hall
      clear hKK KK
      first | decide +kernel | (simp [printsOk, apartP, clash, meet]; try (first | done | decide +kernel | (repeat (first | exact Or.inr (by decide +kernel) | (refine And.intro (Or.inr (by decide +kernel)) ?_)))))
     ·
      clear hKK KK hall all
      refine awp_nr [3,5,7,9,10,12,13,17,20] (fun _ => rfl) fun tz => ?_
      refine awp_regW fun KK hKK => ?_
      refine xw_id ?_
      obtain ⟨x22, bx22, h0⟩ := bnd h0
      try simp only [go_sem, Nat.reduceEqDiff, reduceIte, Nat.reduceAdd, Nat.reduceMul, Nat.reduceSub, Nat.reduceLT, Nat.reduceLeDiff, fx20_0, fx20_1, fx20_2, fx20_9]
      refine xcall_N (by first | (simp only [go_sem, fz, nilS, cond_true, cond_false, Nat.reduceEqDiff, reduceIte, Nat.reduceAdd, Nat.reduceMul, Nat.reduceSub, Nat.reduceLT, Nat.reduceLeDiff]; done) | (simp only [go_sem, fz, nilS, cond_true, cond_false, Nat.reduceEqDiff, reduceIte, Nat.reduceAdd, Nat.reduceMul, Nat.reduceSub, Nat.reduceLT, Nat.reduceLeDiff]; rfl)) (auth_Handle_p x16.1 [] 0 bx22) ?_; try dsimp only
      try refine xw_id ?_
      try simp only [go_sem, Nat.reduceEqDiff, reduceIte, Nat.reduceAdd, Nat.reduceMul, Nat.reduceSub, Nat.reduceLT, Nat.reduceLeDiff, fx20_0, fx20_1, fx20_2, fx20_9]
      refine hKK _ (hotspotlaw29_AuthNames_S5 x15 x16 x3 x6 x9 x12 x19 x21 x22) (Wk.canonD [] [] [some 0, some 1] rfl trivial rfl (tmOU 1 (tmOU 0 tmO0 rfl List.not_mem_nil (by simp only [upd_get, Nat.reduceEqDiff, reduceIte, if_true, if_false] <;> rfl) (TmL.clean (e_Auth_clean _))) rfl List.not_mem_nil (by simp only [upd_get, Nat.reduceEqDiff, reduceIte, if_true, if_false] <;> rfl) (TmL.clean (e_Auth_clean _))) (tmAllU 23 (tmAllU 20 (tmAllU 17 (tmAllU 13 (tmAllU 12 (tmAllU 10 (tmAllU 9 (tmAllU 7 (tmAllU 5 (tmAllU 3 tmAll0 (Tm.v _)) (Tm.v _)) (Tm.v _)) (Tm.v _)) (Tm.ptr rfl)) (Tm.ptr rfl)) (Tm.clean (Clean.imm (cS_vu _)))) (Tm.v _)) (Tm.v _)) (Tm.v _))) ?_; clear hKK KK
      unfold hotspotlaw29_AuthNames_S5
      refine awp_nr [3,5,7,9,10,12,13,17,20,23] (fun _ => rfl) fun tz => ?_
      refine awp_regDW fun KK hKK all hall => ?_
      refine xd_id ?_
      try simp only [List.toList_toArray, List.map_cons, List.map_nil, List.size_toArray, List.length_cons, List.length_nil, Nat.zero_add]
      try simp only [Nat.reduceAdd]
      obtain ⟨x23, bx23, h0⟩ := bnd h0
      have bx23 := chk_some bx23
      simp only [Bool.and_eq_true, decide_eq_true_eq] at bx23
      have gx23_0 := bx23
      have g11 : AV.imm (List.map vu (List.take 17 x20)) 17 = AV.imm (List.map vu (List.take 17 x20)) (List.take 17 x20).length := by congr 1; simp only [List.length_take, List.length_drop]; omega
      obtain ⟨x24, bx24, h0⟩ := bnd h0
      iterate 3 ((try simp only [go_sem, Nat.reduceEqDiff, reduceIte, Nat.reduceMul, Nat.reduceSub, Nat.reduceLT, Nat.reduceLeDiff, Int.reduceToNat, Int.reduceBEq, Int.reduceBNe, Int.reduceLT, Int.reduceLE, Int.reduceAdd, Int.reduceSub, Int.reduceMul, fx20_0, fx20_1, fx20_2, fx20_9, gx23_0, g11, Int.sub_zero]); try simp only [Nat.reduceAdd])
      refine xcallD_p (auth_Handle_p x16.1 (List.take 17 x20) 0 bx24) ?_; try dsimp only
      try refine xd_id ?_
      iterate 3 ((try simp only [go_sem, Nat.reduceEqDiff, reduceIte, Nat.reduceMul, Nat.reduceSub, Nat.reduceLT, Nat.reduceLeDiff, Int.reduceToNat, Int.reduceBEq, Int.reduceBNe, Int.reduceLT, Int.reduceLE, Int.reduceAdd, Int.reduceSub, Int.reduceMul, fx20_0, fx20_1, fx20_2, fx20_9, gx23_0, g11, Int.sub_zero]); try simp only [Nat.reduceAdd])
      refine And.intro ?_ (hKK _ _ (Wk.refl _ _ _) ?_)
      ·
       subst hall
       clear hKK KK
       first | decide +kernel | (simp [printsOk, apartP, clash, meet]; try (first | done | decide +kernel | (repeat (first | exact Or.inr (by decide +kernel) | (refine And.intro (Or.inr (by decide +kernel)) ?_)))))
      ·
       clear hKK KK hall all
       refine awp_nr [3,5,7,9,10,12,17,20,23,26] (fun _ => rfl) fun tz => ?_
       refine awp_regDW fun KK hKK all hall => ?_
       refine xd_id ?_
       try simp only [List.toList_toArray, List.map_cons, List.map_nil, List.size_toArray, List.length_cons, List.length_nil, Nat.zero_add]
       try simp only [Nat.reduceAdd]
       have gs12 : rep 18 [(vu 0)] = (List.map vu [0, 0, 0, 0, 0, 0, 0, 0, 0, 0, 0, 0, 0, 0, 0, 0, 0, 0]) := by rfl
       obtain ⟨x25, bx25, h0⟩ := bnd h0
       iterate 3 ((try simp only [go_sem, Nat.reduceEqDiff, reduceIte, Nat.reduceMul, Nat.reduceSub, Nat.reduceLT, Nat.reduceLeDiff, Int.reduceToNat, Int.reduceBEq, Int.reduceBNe, Int.reduceLT, Int.reduceLE, Int.reduceAdd, Int.reduceSub, Int.reduceMul, fx20_0, fx20_1, fx20_2, fx20_9, gs12, appzE, Int.cast_ofNat_Int]); try simp only [Nat.reduceAdd])
       refine xcallD_FE 18 (by simp only [upd_get, Nat.reduceEqDiff, reduceIte, if_true, if_false] <;> rfl) (by first | (simp only [go_sem, fz, Nat.reduceEqDiff, reduceIte, Nat.reduceAdd, Nat.reduceMul, Nat.reduceSub, Nat.reduceLT, Nat.reduceLeDiff, fx20_0, fx20_1, fx20_2, fx20_9, gs12, appzE, Int.cast_ofNat_Int]; done) | (simp only [go_sem, fz, Nat.reduceEqDiff, reduceIte, Nat.reduceAdd, Nat.reduceMul, Nat.reduceSub, Nat.reduceLT, Nat.reduceLeDiff, fx20_0, fx20_1, fx20_2, fx20_9, gs12, appzE, Int.cast_ofNat_Int]; rfl) | (simp only [go_sem, fz, List.length_set, ble_self, take_set, cond_true, cond_false, Nat.reduceEqDiff, reduceIte, Nat.reduceAdd, Nat.reduceMul, Nat.reduceSub, Nat.reduceLT, Nat.reduceLeDiff, fx20_0, fx20_1, fx20_2, fx20_9, gs12, appzE, Int.cast_ofNat_Int]; done) | (simp only [go_sem, fz, List.length_set, ble_self, take_set, cond_true, cond_false, Nat.reduceEqDiff, reduceIte, Nat.reduceAdd, Nat.reduceMul, Nat.reduceSub, Nat.reduceLT, Nat.reduceLeDiff, fx20_0, fx20_1, fx20_2, fx20_9, gs12, appzE, Int.cast_ofNat_Int]; rfl)) (auth_Handle_p x16.1 ([2] ++ [0, 0, 0, 0, 0, 0, 0, 0, 0, 0, 0, 0, 0, 0, 0, 0, 0, 0]) 0 bx25) ?_; try dsimp only
       try refine xd_id ?_
       iterate 3 ((try simp only [go_sem, Nat.reduceEqDiff, reduceIte, Nat.reduceMul, Nat.reduceSub, Nat.reduceLT, Nat.reduceLeDiff, Int.reduceToNat, Int.reduceBEq, Int.reduceBNe, Int.reduceLT, Int.reduceLE, Int.reduceAdd, Int.reduceSub, Int.reduceMul, fx20_0, fx20_1, fx20_2, fx20_9, gs12, appzE, Int.cast_ofNat_Int]); try simp only [Nat.reduceAdd])
       refine And.intro ?_ (hKK _ (hotspotlaw29_AuthNames_S6 x15 x16 x3 x6 x9 x12 x19 x21 x22 x24 x25) (Wk.canonD [] [] [some 0, some 1] rfl trivial rfl (tmOU 1 (tmOU 0 tmO0 rfl List.not_mem_nil (by simp only [upd_get, Nat.reduceEqDiff, reduceIte, if_true, if_false] <;> rfl) (TmL.clean (e_Auth_clean _))) rfl List.not_mem_nil (by simp only [upd_get, Nat.reduceEqDiff, reduceIte, if_true, if_false] <;> rfl) (TmL.clean (e_Auth_clean _))) (tmAllU 29 (tmAllU 26 (tmAllU 23 (tmAllU 20 (tmAllU 17 (tmAllU 12 (tmAllU 10 (tmAllU 9 (tmAllU 7 (tmAllU 5 (tmAllU 3 tmAll0 (Tm.v _)) (Tm.v _)) (Tm.v _)) (Tm.v _)) (Tm.ptr rfl)) (Tm.ptr rfl)) (Tm.v _)) (Tm.v _)) (Tm.v _)) (Tm.v _)) (Tm.v _))) ?_)
       ·
        subst hall
        clear hKK KK
        first | decide +kernel | (simp [printsOk, apartP, clash, meet]; try (first | done | decide +kernel | (repeat (first | exact Or.inr (by decide +kernel) | (refine And.intro (Or.inr (by decide +kernel)) ?_)))))
       ·
        clear hKK KK hall all
        unfold hotspotlaw29_AuthNames_S6
        refine awp_nr [3,5,7,9,10,12,17,20,23,26,29] (fun _ => rfl) fun tz => ?_
        refine awp_regDW fun KK hKK all hall => ?_
        refine xd_id ?_
        try simp only [List.toList_toArray, List.map_cons, List.map_nil, List.size_toArray, List.length_cons, List.length_nil, Nat.zero_add]
        try simp only [Nat.reduceAdd]
        have gs13 : rep 8 [(vu 0)] = (List.map vu [0, 0, 0, 0, 0, 0, 0, 0]) := by rfl
        obtain ⟨x26, bx26, h0⟩ := bnd h0
        iterate 3 ((try simp only [go_sem, Nat.reduceEqDiff, reduceIte, Nat.reduceMul, Nat.reduceSub, Nat.reduceLT, Nat.reduceLeDiff, Int.reduceToNat, Int.reduceBEq, Int.reduceBNe, Int.reduceLT, Int.reduceLE, Int.reduceAdd, Int.reduceSub, Int.reduceMul, fx20_0, fx20_1, fx20_2, fx20_9, gs13, appzE, Int.cast_ofNat_Int]); try simp only [Nat.reduceAdd])
        refine xcallD_FE 4 (by simp only [upd_get, Nat.reduceEqDiff, reduceIte, if_true, if_false] <;> rfl) (by first | (simp only [go_sem, fz, Nat.reduceEqDiff, reduceIte, Nat.reduceAdd, Nat.reduceMul, Nat.reduceSub, Nat.reduceLT, Nat.reduceLeDiff, fx20_0, fx20_1, fx20_2, fx20_9, gs13, appzE, Int.cast_ofNat_Int]; done) | (simp only [go_sem, fz, Nat.reduceEqDiff, reduceIte, Nat.reduceAdd, Nat.reduceMul, Nat.reduceSub, Nat.reduceLT, Nat.reduceLeDiff, fx20_0, fx20_1, fx20_2, fx20_9, gs13, appzE, Int.cast_ofNat_Int]; rfl) | (simp only [go_sem, fz, List.length_set, ble_self, take_set, cond_true, cond_false, Nat.reduceEqDiff, reduceIte, Nat.reduceAdd, Nat.reduceMul, Nat.reduceSub, Nat.reduceLT, Nat.reduceLeDiff, fx20_0, fx20_1, fx20_2, fx20_9, gs13, appzE, Int.cast_ofNat_Int]; done) | (simp only [go_sem, fz, List.length_set, ble_self, take_set, cond_true, cond_false, Nat.reduceEqDiff, reduceIte, Nat.reduceAdd, Nat.reduceMul, Nat.reduceSub, Nat.reduceLT, Nat.reduceLeDiff, fx20_0, fx20_1, fx20_2, fx20_9, gs13, appzE, Int.cast_ofNat_Int]; rfl)) (auth_Handle_p x16.1 ([3] ++ [0, 0, 0, 0, 0, 0, 0, 0]) 0 bx26) ?_; try dsimp only
        try refine xd_id ?_
        iterate 3 ((try simp only [go_sem, Nat.reduceEqDiff, reduceIte, Nat.reduceMul, Nat.reduceSub, Nat.reduceLT, Nat.reduceLeDiff, Int.reduceToNat, Int.reduceBEq, Int.reduceBNe, Int.reduceLT, Int.reduceLE, Int.reduceAdd, Int.reduceSub, Int.reduceMul, fx20_0, fx20_1, fx20_2, fx20_9, gs13, appzE, Int.cast_ofNat_Int]); try simp only [Nat.reduceAdd])
        refine And.intro ?_ (hKK _ (hotspotlaw29_AuthNames_S7 x15 x16 x26 x3 x6 x9 x12 x19 x21 x22 x24 x25) (Wk.canonD [] [] [some 0, some 1, some 10] rfl trivial rfl (tmOU 2 (tmOU 1 (tmOU 0 tmO0 rfl List.not_mem_nil (by simp only [upd_get, Nat.reduceEqDiff, reduceIte, if_true, if_false] <;> rfl) (TmL.clean (e_Auth_clean _))) rfl List.not_mem_nil (by simp only [upd_get, Nat.reduceEqDiff, reduceIte, if_true, if_false] <;> rfl) (TmL.clean (e_Auth_clean _))) rfl List.not_mem_nil (by simp only [upd_get, Nat.reduceEqDiff, reduceIte, if_true, if_false] <;> rfl) (TmL.clean (e_Auth_clean _))) (tmAllU 32 (tmAllU 31 (tmAllU 30 (tmAllU 29 (tmAllU 26 (tmAllU 23 (tmAllU 20 (tmAllU 17 (tmAllU 12 (tmAllU 10 (tmAllU 9 (tmAllU 7 (tmAllU 5 (tmAllU 3 tmAll0 (Tm.v _)) (Tm.v _)) (Tm.v _)) (Tm.v _)) (Tm.ptr rfl)) (Tm.ptr rfl)) (Tm.v _)) (Tm.v _)) (Tm.v _)) (Tm.v _)) (Tm.v _)) (Tm.ptr rfl)) (Tm.clean (Clean.imm (cS_vu _)))) (Tm.v _))) ?_)
        ·
         subst hall
         clear hKK KK
         first | decide +kernel | (simp [printsOk, apartP, clash, meet]; try (first | done | decide +kernel | (repeat (first | exact Or.inr (by decide +kernel) | (refine And.intro (Or.inr (by decide +kernel)) ?_)))))
        ·
         clear hKK KK hall all
         unfold hotspotlaw29_AuthNames_S7
         refine awp_nr [3,5,7,9,10,12,17,20,23,26,29,30,31,32] (fun _ => rfl) fun tz => ?_
         refine awp_regDW fun KK hKK all hall => ?_
         refine xd_id ?_
         try simp only [List.toList_toArray, List.map_cons, List.map_nil, List.size_toArray, List.length_cons, List.length_nil, Nat.zero_add]
         try simp only [Nat.reduceAdd]
         have gs14 : rep 8 [(vu 0)] = (List.map vu [0, 0, 0, 0, 0, 0, 0, 0]) := by rfl
         obtain ⟨x27, bx27, h0⟩ := bnd h0
         iterate 3 ((try simp only [go_sem, Nat.reduceEqDiff, reduceIte, Nat.reduceMul, Nat.reduceSub, Nat.reduceLT, Nat.reduceLeDiff, Int.reduceToNat, Int.reduceBEq, Int.reduceBNe, Int.reduceLT, Int.reduceLE, Int.reduceAdd, Int.reduceSub, Int.reduceMul, fx20_0, fx20_1, fx20_2, fx20_9, gs14, appzE, Int.cast_ofNat_Int]); try simp only [Nat.reduceAdd])
         refine xcallD_FE 5 (by simp only [upd_get, Nat.reduceEqDiff, reduceIte, if_true, if_false] <;> rfl) (by first | (simp only [go_sem, fz, Nat.reduceEqDiff, reduceIte, Nat.reduceAdd, Nat.reduceMul, Nat.reduceSub, Nat.reduceLT, Nat.reduceLeDiff, fx20_0, fx20_1, fx20_2, fx20_9, gs14, appzE, Int.cast_ofNat_Int]; done) | (simp only [go_sem, fz, Nat.reduceEqDiff, reduceIte, Nat.reduceAdd, Nat.reduceMul, Nat.reduceSub, Nat.reduceLT, Nat.reduceLeDiff, fx20_0, fx20_1, fx20_2, fx20_9, gs14, appzE, Int.cast_ofNat_Int]; rfl) | (simp only [go_sem, fz, List.length_set, ble_self, take_set, cond_true, cond_false, Nat.reduceEqDiff, reduceIte, Nat.reduceAdd, Nat.reduceMul, Nat.reduceSub, Nat.reduceLT, Nat.reduceLeDiff, fx20_0, fx20_1, fx20_2, fx20_9, gs14, appzE, Int.cast_ofNat_Int]; done) | (simp only [go_sem, fz, List.length_set, ble_self, take_set, cond_true, cond_false, Nat.reduceEqDiff, reduceIte, Nat.reduceAdd, Nat.reduceMul, Nat.reduceSub, Nat.reduceLT, Nat.reduceLeDiff, fx20_0, fx20_1, fx20_2, fx20_9, gs14, appzE, Int.cast_ofNat_Int]; rfl)) (auth_Handle_p x15.1 ([3] ++ [0, 0, 0, 0, 0, 0, 0, 0]) 0 bx27) ?_; try dsimp only
         try refine xd_id ?_
         iterate 3 ((try simp only [go_sem, Nat.reduceEqDiff, reduceIte, Nat.reduceMul, Nat.reduceSub, Nat.reduceLT, Nat.reduceLeDiff, Int.reduceToNat, Int.reduceBEq, Int.reduceBNe, Int.reduceLT, Int.reduceLE, Int.reduceAdd, Int.reduceSub, Int.reduceMul, fx20_0, fx20_1, fx20_2, fx20_9, gs14, appzE, Int.cast_ofNat_Int]); try simp only [Nat.reduceAdd])
         refine And.intro ?_ (hKK _ (hotspotlaw29_AuthNames_S8 x15 x16 x26 x3 x6 x9 x12 x19 x21 x22 x24 x25 x27) (Wk.canonD [] [] [some 0, some 1, some 2] rfl trivial rfl (tmOU 2 (tmOU 1 (tmOU 0 tmO0 rfl List.not_mem_nil (by simp only [upd_get, Nat.reduceEqDiff, reduceIte, if_true, if_false] <;> rfl) (TmL.clean (e_Auth_clean _))) rfl List.not_mem_nil (by simp only [upd_get, Nat.reduceEqDiff, reduceIte, if_true, if_false] <;> rfl) (TmL.clean (e_Auth_clean _))) rfl List.not_mem_nil (by simp only [upd_get, Nat.reduceEqDiff, reduceIte, if_true, if_false] <;> rfl) (TmL.clean (e_Auth_clean _))) (tmAllU 35 (tmAllU 32 (tmAllU 31 (tmAllU 30 (tmAllU 29 (tmAllU 26 (tmAllU 23 (tmAllU 20 (tmAllU 17 (tmAllU 12 (tmAllU 10 (tmAllU 9 (tmAllU 7 (tmAllU 5 (tmAllU 3 tmAll0 (Tm.v _)) (Tm.v _)) (Tm.v _)) (Tm.v _)) (Tm.ptr rfl)) (Tm.ptr rfl)) (Tm.v _)) (Tm.v _)) (Tm.v _)) (Tm.v _)) (Tm.v _)) (Tm.ptr rfl)) (Tm.clean (Clean.imm (cS_vu _)))) (Tm.v _)) (Tm.v _))) ?_)
         ·
          subst hall
          clear hKK KK
          first | decide +kernel | (simp [printsOk, apartP, clash, meet]; try (first | done | decide +kernel | (repeat (first | exact Or.inr (by decide +kernel) | (refine And.intro (Or.inr (by decide +kernel)) ?_)))))
         ·
          clear hKK KK hall all
          unfold hotspotlaw29_AuthNames_S8
          refine awp_nr [3,5,7,9,10,12,17,20,23,26,29,30,31,32,35] (fun _ => rfl) fun tz => ?_
          refine awp_regW fun KK hKK => ?_
          refine xw_id ?_
          obtain ⟨x28, bx28, h0⟩ := bnd h0
          try simp only [go_sem, Nat.reduceEqDiff, reduceIte, Nat.reduceAdd, Nat.reduceMul, Nat.reduceSub, Nat.reduceLT, Nat.reduceLeDiff, fx20_0, fx20_1, fx20_2, fx20_9]
          refine xcall_p (auth_Tick_p x16.1 (-1) bx28) ?_; try dsimp only
          try refine xw_id ?_
          try simp only [go_sem, Nat.reduceEqDiff, reduceIte, Nat.reduceAdd, Nat.reduceMul, Nat.reduceSub, Nat.reduceLT, Nat.reduceLeDiff, fx20_0, fx20_1, fx20_2, fx20_9]
          refine hKK _ _ (Wk.refl _ _ _) ?_; clear hKK KK
          refine awp_nr [3,5,7,9,10,17,20,23,26,29,30,31,32,35,38] (fun _ => rfl) fun tz => ?_
          refine awp_regW fun KK hKK => ?_
          refine xw_id ?_
          obtain ⟨x29, bx29, h0⟩ := bnd h0
          try simp only [go_sem, Nat.reduceEqDiff, reduceIte, Nat.reduceAdd, Nat.reduceMul, Nat.reduceSub, Nat.reduceLT, Nat.reduceLeDiff, fx20_0, fx20_1, fx20_2, fx20_9]
          refine xcall_ML (by first | (simp only [go_sem, fz, nilS, cond_true, cond_false, Nat.reduceEqDiff, reduceIte, Nat.reduceAdd, Nat.reduceMul, Nat.reduceSub, Nat.reduceLT, Nat.reduceLeDiff, fx20_0, fx20_1, fx20_2, fx20_9]; done) | (simp only [go_sem, fz, nilS, cond_true, cond_false, Nat.reduceEqDiff, reduceIte, Nat.reduceAdd, Nat.reduceMul, Nat.reduceSub, Nat.reduceLT, Nat.reduceLeDiff, fx20_0, fx20_1, fx20_2, fx20_9]; rfl) | (simp only [go_sem, fz, List.length_set, ble_self, take_set, cond_true, cond_false, Nat.reduceEqDiff, reduceIte, Nat.reduceAdd, Nat.reduceMul, Nat.reduceSub, Nat.reduceLT, Nat.reduceLeDiff, fx20_0, fx20_1, fx20_2, fx20_9]; done) | (simp only [go_sem, fz, List.length_set, ble_self, take_set, cond_true, cond_false, Nat.reduceEqDiff, reduceIte, Nat.reduceAdd, Nat.reduceMul, Nat.reduceSub, Nat.reduceLT, Nat.reduceLeDiff, fx20_0, fx20_1, fx20_2, fx20_9]; rfl)) (auth_Answer_m [4] bx29) (fun _ => by repeat' (first | exact NoV.v _ | exact NoV.ref _ _ _ _ | exact NoV.onil | refine NoV.ocons ?_ ?_ | exact NoV.nil | refine NoV.tup ?_ | refine NoV.agg ?_ | refine NoV.rows (fun _ => ?_) _ | refine NoV.maps (fun _ => ?_) _ | refine NoV.cons ?_ ?_)) (by repeat' (first | exact NoV.v _ | exact NoV.ref _ _ _ _ | exact NoV.onil | refine NoV.ocons ?_ ?_ | exact NoV.nil | refine NoV.tup ?_ | refine NoV.agg ?_ | refine NoV.rows (fun _ => ?_) _ | refine NoV.maps (fun _ => ?_) _ | refine NoV.cons ?_ ?_)) ?_; try dsimp only
          try refine xw_id ?_
          try simp only [go_sem, Nat.reduceEqDiff, reduceIte, Nat.reduceAdd, Nat.reduceMul, Nat.reduceSub, Nat.reduceLT, Nat.reduceLeDiff, fx20_0, fx20_1, fx20_2, fx20_9]
          refine hKK _ (hotspotlaw29_AuthNames_S9 x15 x26 x29 x3 x6 x9 x12 x19 x21 x22 x24 x25 x27 x28) (by refine Wk.canonD [] [] [some 0, some 2, some 20] rfl trivial rfl (tmOU 2 (tmOU 1 (tmOU 0 tmO0 rfl List.not_mem_nil (by simp only [upd_get, Nat.reduceEqDiff, reduceIte, if_true, if_false] <;> rfl) (TmL.clean (e_Auth_clean _))) rfl List.not_mem_nil (by simp only [upd_get, Nat.reduceEqDiff, reduceIte, if_true, if_false] <;> rfl) (TmL.clean (e_Auth_clean _))) rfl List.not_mem_nil (by simp only [upd_get, Nat.reduceEqDiff, reduceIte, if_true, if_false] <;> rfl) (TmL.of_eq (by first | rfl | (simp only [List.flatMap_append, List.flatMap_cons, List.flatMap_nil, List.map_append, List.map_cons, List.map_nil, List.append_nil, List.nil_append]; done) | (simp only [List.flatMap_append, List.flatMap_cons, List.flatMap_nil, List.map_append, List.map_cons, List.map_nil, List.append_nil, List.nil_append]; rfl)) (vu_clean _))) (tmAllU 40 (tmAllU 39 (tmAllU 38 (tmAllU 35 (tmAllU 32 (tmAllU 31 (tmAllU 30 (tmAllU 29 (tmAllU 26 (tmAllU 23 (tmAllU 20 (tmAllU 17 (tmAllU 10 (tmAllU 9 (tmAllU 7 (tmAllU 5 (tmAllU 3 tmAll0 (Tm.v _)) (Tm.v _)) (Tm.v _)) (Tm.v _)) (Tm.ptr rfl)) (Tm.v _)) (Tm.v _)) (Tm.v _)) (Tm.v _)) (Tm.v _)) (Tm.ptr rfl)) (Tm.clean (Clean.imm (cS_vu _)))) (Tm.v _)) (Tm.v _)) (Tm.v _)) (Tm.refL rfl ?_)) (Tm.v _)); all_goals (first | rfl | (simp only [List.length_take]; omega) | (simp only [List.length_append, List.length_cons, List.length_nil, List.length_modify, List.length_set, Nat.zero_add]; done) | (simp only [List.length_append, List.length_take, List.length_drop, List.length_cons, List.length_nil, List.length_modify, List.length_set, Nat.zero_add]; omega) | (simp only [List.length_append, List.length_take, List.length_drop, List.length_cons, List.length_nil, List.length_modify, List.length_set, Nat.zero_add]; done) | omega)) ?_; clear hKK KK
          unfold hotspotlaw29_AuthNames_S9
          refine awp_nr [3,5,7,9,10,17,20,23,26,29,30,31,32,35,38,39,40] (fun _ => rfl) fun tz => ?_
          refine awp_regW fun KK hKK => ?_
          refine xw_id ?_
          obtain ⟨x30, bx30, h0⟩ := bnd h0
          try simp only [go_sem, Nat.reduceEqDiff, reduceIte, Nat.reduceAdd, Nat.reduceMul, Nat.reduceSub, Nat.reduceLT, Nat.reduceLeDiff, fx20_0, fx20_1, fx20_2, fx20_9]
          refine xcall_ML (by first | (simp only [go_sem, fz, nilS, cond_true, cond_false, Nat.reduceEqDiff, reduceIte, Nat.reduceAdd, Nat.reduceMul, Nat.reduceSub, Nat.reduceLT, Nat.reduceLeDiff, fx20_0, fx20_1, fx20_2, fx20_9]; done) | (simp only [go_sem, fz, nilS, cond_true, cond_false, Nat.reduceEqDiff, reduceIte, Nat.reduceAdd, Nat.reduceMul, Nat.reduceSub, Nat.reduceLT, Nat.reduceLeDiff, fx20_0, fx20_1, fx20_2, fx20_9]; rfl) | (simp only [go_sem, fz, List.length_set, ble_self, take_set, cond_true, cond_false, Nat.reduceEqDiff, reduceIte, Nat.reduceAdd, Nat.reduceMul, Nat.reduceSub, Nat.reduceLT, Nat.reduceLeDiff, fx20_0, fx20_1, fx20_2, fx20_9]; done) | (simp only [go_sem, fz, List.length_set, ble_self, take_set, cond_true, cond_false, Nat.reduceEqDiff, reduceIte, Nat.reduceAdd, Nat.reduceMul, Nat.reduceSub, Nat.reduceLT, Nat.reduceLeDiff, fx20_0, fx20_1, fx20_2, fx20_9]; rfl)) (auth_Answer_m [5] bx30) (fun _ => by repeat' (first | exact NoV.v _ | exact NoV.ref _ _ _ _ | exact NoV.onil | refine NoV.ocons ?_ ?_ | exact NoV.nil | refine NoV.tup ?_ | refine NoV.agg ?_ | refine NoV.rows (fun _ => ?_) _ | refine NoV.maps (fun _ => ?_) _ | refine NoV.cons ?_ ?_)) (by repeat' (first | exact NoV.v _ | exact NoV.ref _ _ _ _ | exact NoV.onil | refine NoV.ocons ?_ ?_ | exact NoV.nil | refine NoV.tup ?_ | refine NoV.agg ?_ | refine NoV.rows (fun _ => ?_) _ | refine NoV.maps (fun _ => ?_) _ | refine NoV.cons ?_ ?_)) ?_; try dsimp only
          try refine xw_id ?_
          try simp only [go_sem, Nat.reduceEqDiff, reduceIte, Nat.reduceAdd, Nat.reduceMul, Nat.reduceSub, Nat.reduceLT, Nat.reduceLeDiff, fx20_0, fx20_1, fx20_2, fx20_9]
          refine hKK _ _ (Wk.refl _ _ _) ?_; clear hKK KK
          refine awp_nr [3,5,7,9,10,17,20,23,26,29,30,31,32,35,38,39,40,42] (fun _ => rfl) fun tz => ?_
          refine awp_regW fun KK hKK => ?_
          refine xw_id ?_
          have gs15 : rep 18 [(vu 0)] = (List.map vu [0, 0, 0, 0, 0, 0, 0, 0, 0, 0, 0, 0, 0, 0, 0, 0, 0, 0]) := by rfl
          try simp only [go_sem, Nat.reduceEqDiff, reduceIte, Nat.reduceAdd, Nat.reduceMul, Nat.reduceSub, Nat.reduceLT, Nat.reduceLeDiff, Int.reduceToNat, Int.reduceBEq, Int.reduceBNe, Int.reduceLT, Int.reduceLE, Int.reduceAdd, Int.reduceSub, Int.reduceMul, fx20_0, fx20_1, fx20_2, fx20_9, gs15]
          refine hKK _ _ (Wk.refl _ _ _) ?_; clear hKK KK
          refine awp_nr [3,5,7,9,10,17,20,23,26,29,30,31,32,35,38,39,40,42,43] (fun _ => rfl) fun tz => ?_
          refine awp_regW fun KK hKK => ?_
          refine xw_id ?_
          obtain ⟨x31, bx31, h0⟩ := bnd h0
          obtain ⟨fx31_0, fx31_1, fx31_2, fx31_3⟩ := idx_some bx31
          have fx31_5 : ((0 : Int) < ((18 : Nat) : Int)) = True := by first | exact fx31_1 | (simp [List.length_modify, List.length_set]; omega)
          simp only [Int.reduceToNat] at fx31_2 fx31_3
          have gs16 : (0 + 1 ≤ [0, 0, 0, 0, 0, 0, 0, 0, 0, 0, 0, 0, 0, 0, 0, 0, 0, 0].length) = True := eq_true (by (try simp only [List.length_modify, List.length_set]); omega)
          have gm17 : ([0, 0, 0, 0, 0, 0, 0, 0, 0, 0, 0, 0, 0, 0, 0, 0, 0, 0].set 0 1)[0]? = some 1 := getSet _ fx31_2
          try simp only [go_sem, Nat.reduceEqDiff, reduceIte, Nat.reduceAdd, Nat.reduceMul, Nat.reduceSub, Nat.reduceLT, Nat.reduceLeDiff, Int.reduceToNat, Int.reduceBEq, Int.reduceBNe, Int.reduceLT, Int.reduceLE, Int.reduceAdd, Int.reduceSub, Int.reduceMul, fx20_0, fx20_1, fx20_2, fx20_9, fx31_0, fx31_1, fx31_2, fx31_5, gs16, gm17]
          refine hKK _ (hotspotlaw29_AuthNames_S10 x15 x26 x29 x3 x6 x9 x12 x19 x21 x22 x24 x25 x27 x28 x30) (by refine Wk.canonD [] [] [some 0, some 1, some 2, some 11] rfl trivial rfl (tmOU 3 (tmOU 2 (tmOU 1 (tmOU 0 tmO0 rfl List.not_mem_nil (by simp only [upd_get, Nat.reduceEqDiff, reduceIte, if_true, if_false] <;> rfl) (TmL.clean (e_Auth_clean _))) rfl List.not_mem_nil (by simp only [upd_get, Nat.reduceEqDiff, reduceIte, if_true, if_false] <;> rfl) (TmL.clean (e_Auth_clean _))) rfl List.not_mem_nil (by simp only [upd_get, Nat.reduceEqDiff, reduceIte, if_true, if_false] <;> rfl) (TmL.of_eq (by first | rfl | (simp only [List.flatMap_append, List.flatMap_cons, List.flatMap_nil, List.map_append, List.map_cons, List.map_nil, List.append_nil, List.nil_append]; done) | (simp only [List.flatMap_append, List.flatMap_cons, List.flatMap_nil, List.map_append, List.map_cons, List.map_nil, List.append_nil, List.nil_append]; rfl)) (vu_clean _))) rfl List.not_mem_nil (by simp only [upd_get, Nat.reduceEqDiff, reduceIte, if_true, if_false] <;> rfl) (TmL.of_eq (by first | rfl | (simp only [List.flatMap_append, List.flatMap_cons, List.flatMap_nil, List.map_append, List.map_cons, List.map_nil, List.append_nil, List.nil_append]; done) | (simp only [List.flatMap_append, List.flatMap_cons, List.flatMap_nil, List.map_append, List.map_cons, List.map_nil, List.append_nil, List.nil_append]; rfl)) (vu_clean _))) (tmAllU 43 (tmAllU 42 (tmAllU 40 (tmAllU 39 (tmAllU 38 (tmAllU 35 (tmAllU 32 (tmAllU 31 (tmAllU 30 (tmAllU 29 (tmAllU 26 (tmAllU 23 (tmAllU 20 (tmAllU 17 (tmAllU 10 (tmAllU 9 (tmAllU 7 (tmAllU 5 (tmAllU 3 tmAll0 (Tm.v _)) (Tm.v _)) (Tm.v _)) (Tm.v _)) (Tm.ptr rfl)) (Tm.v _)) (Tm.v _)) (Tm.v _)) (Tm.v _)) (Tm.v _)) (Tm.ptr rfl)) (Tm.clean (Clean.imm (cS_vu _)))) (Tm.v _)) (Tm.v _)) (Tm.v _)) (Tm.refL rfl ?_)) (Tm.v _)) (Tm.v _)) (Tm.refL rfl ?_)); all_goals (first | rfl | (simp only [List.length_take]; omega) | (simp only [List.length_append, List.length_cons, List.length_nil, List.length_modify, List.length_set, Nat.zero_add]; done) | (simp only [List.length_append, List.length_take, List.length_drop, List.length_cons, List.length_nil, List.length_modify, List.length_set, Nat.zero_add]; omega) | (simp only [List.length_append, List.length_take, List.length_drop, List.length_cons, List.length_nil, List.length_modify, List.length_set, Nat.zero_add]; done) | omega)) ?_; clear hKK KK
          unfold hotspotlaw29_AuthNames_S10
          refine awp_nr [3,5,7,9,10,17,20,23,26,29,30,31,32,35,38,39,40,42,43] (fun _ => rfl) fun tz => ?_
          refine awp_regW fun KK hKK => ?_
          refine xw_id ?_
          obtain ⟨x32, bx32, h0⟩ := bnd h0
          try simp only [go_sem, Nat.reduceEqDiff, reduceIte, Nat.reduceAdd, Nat.reduceMul, Nat.reduceSub, Nat.reduceLT, Nat.reduceLeDiff, fx20_0, fx20_1, fx20_2, fx20_9, fx31_0, fx31_1, fx31_2, fx31_5, gm17]
          refine xcall_F [3] (by first | (simp only [go_sem, fz, Nat.reduceEqDiff, reduceIte, Nat.reduceAdd, Nat.reduceMul, Nat.reduceSub, Nat.reduceLT, Nat.reduceLeDiff, fx20_0, fx20_1, fx20_2, fx20_9, fx31_0, fx31_1, fx31_2, fx31_5, gm17]; done) | (simp only [go_sem, fz, Nat.reduceEqDiff, reduceIte, Nat.reduceAdd, Nat.reduceMul, Nat.reduceSub, Nat.reduceLT, Nat.reduceLeDiff, fx20_0, fx20_1, fx20_2, fx20_9, fx31_0, fx31_1, fx31_2, fx31_5, gm17]; rfl) | (simp only [go_sem, fz, List.length_set, ble_self, take_set, cond_true, cond_false, Nat.reduceEqDiff, reduceIte, Nat.reduceAdd, Nat.reduceMul, Nat.reduceSub, Nat.reduceLT, Nat.reduceLeDiff, fx20_0, fx20_1, fx20_2, fx20_9, fx31_0, fx31_1, fx31_2, fx31_5, gm17]; done) | (simp only [go_sem, fz, List.length_set, ble_self, take_set, cond_true, cond_false, Nat.reduceEqDiff, reduceIte, Nat.reduceAdd, Nat.reduceMul, Nat.reduceSub, Nat.reduceLT, Nat.reduceLeDiff, fx20_0, fx20_1, fx20_2, fx20_9, fx31_0, fx31_1, fx31_2, fx31_5, gm17]; rfl)) (auth_Handle_p x15.1 ([0, 0, 0, 0, 0, 0, 0, 0, 0, 0, 0, 0, 0, 0, 0, 0, 0, 0].set 0 1) 0 bx32) ?_; try dsimp only
          try refine xw_id ?_
          try simp only [go_sem, Nat.reduceEqDiff, reduceIte, Nat.reduceAdd, Nat.reduceMul, Nat.reduceSub, Nat.reduceLT, Nat.reduceLeDiff, fx20_0, fx20_1, fx20_2, fx20_9, fx31_0, fx31_1, fx31_2, fx31_5, gm17]
          refine hKK _ _ (Wk.refl _ _ _) ?_; clear hKK KK
          refine awp_assoc ?_
          refine awp_nr [3,5,7,9,17,20,23,26,29,30,31,32,35,38,39,40,42,46] (fun _ => rfl) fun tz => ?_
          refine awp_regW fun KK hKK => ?_
          refine xw_id ?_
          refine xw_stop 3 (by (try simp only [go_sem]); rfl) (by (try simp only [go_sem]); rfl) (by rfl) fun K1 hK1 => ?_
          refine xw_id ?_
          try simp only [go_sem, Nat.reduceEqDiff, reduceIte, Nat.reduceAdd, Nat.reduceMul, Nat.reduceSub, Nat.reduceLT, Nat.reduceLeDiff, fx20_0, fx20_1, fx20_2, fx20_9, fx31_0, fx31_1, fx31_2, fx31_5, gm17]
          refine hK1 _ ?_; clear hK1 K1
          refine xw_cut 4 [(3, (vi x3.2)), (5, (vi x6.2)), (7, (vi x9.2)), (9, (vi x12.2)), (17, (vi x19.2.2)), (20, (vi x21.2.2)), (23, (vi x22.2.2)), (26, (vi x24.2.2)), (29, (vi x25.2.2)), (30, (.ptr 1 0)), (31, (.imm (List.map S_vu x26.2.1) x26.2.1.length)), (35, (vi x27.2.2)), (38, (vi x28.2.2)), (39, (.ref 2 0 x29.1.length 1)), (40, (vi x29.2)), (42, (vi x30.2)), (46, (vi x32.2.2)), (192, (vb ((x26.2.2 != 0) || ((x26.2.1.length : Int) != 1))))] (by (try simp only [go_sem]); rfl) (by (try simp only [go_sem]); rfl) (by rfl) (fun K1 hK1 => ?_) fun tz => ?_
          ·
           refine xw_id ?_
           rcases Bool.eq_false_or_eq_true (x26.2.2 != 0) with h18 | h18
           ·
            try simp only [go_sem, Nat.reduceEqDiff, reduceIte, Nat.reduceAdd, Nat.reduceMul, Nat.reduceSub, Nat.reduceLT, Nat.reduceLeDiff, fx20_0, fx20_1, fx20_2, fx20_9, fx31_0, fx31_1, fx31_2, fx31_5, gm17, h18]
            exact hK1 _ ⟨rfl, rfl, rfl, rfl, rfl, rfl, rfl, rfl, rfl, rfl, rfl, rfl, rfl, rfl, rfl, rfl, rfl, rfl, (by first | rfl | (rw [h18]; rfl) | (simp only [h18, Bool.true_and, Bool.false_and, Bool.true_or, Bool.false_or, cond_true, cond_false]; done)), trivial⟩
           ·
            try simp only [go_sem, Nat.reduceEqDiff, reduceIte, Nat.reduceAdd, Nat.reduceMul, Nat.reduceSub, Nat.reduceLT, Nat.reduceLeDiff, Int.reduceToNat, Int.reduceBEq, Int.reduceBNe, Int.reduceLT, Int.reduceLE, Int.reduceAdd, Int.reduceSub, Int.reduceMul, fx20_0, fx20_1, fx20_2, fx20_9, fx31_0, fx31_1, fx31_2, fx31_5, gm17, h18]
            exact hK1 _ ⟨rfl, rfl, rfl, rfl, rfl, rfl, rfl, rfl, rfl, rfl, rfl, rfl, rfl, rfl, rfl, rfl, rfl, rfl, (by first | rfl | (rw [h18]; rfl) | (simp only [h18, Bool.true_and, Bool.false_and, Bool.true_or, Bool.false_or, cond_true, cond_false]; done)), trivial⟩
          ·
           refine xw_id ?_
           try simp only [go_sem, Nat.reduceEqDiff, reduceIte, Nat.reduceAdd, Nat.reduceMul, Nat.reduceSub, Nat.reduceLT, Nat.reduceLeDiff, fx20_0, fx20_1, fx20_2, fx20_9, fx31_0, fx31_1, fx31_2, fx31_5, gm17]
           refine hKK _ _ (Wk.refl _ _ _) ?_; clear hKK KK
           refine awp_cond (b := ((x26.2.2 != 0) || ((x26.2.1.length : Int) != 1))) rfl (fun h19 => ?_) (fun h19 => ?_)
           ·
            have h0 := cT h0 h19
            refine awp_assoc ?_
            refine awp_nr [] (fun _ => rfl) fun tz => ?_
            refine awp_regW fun KK hKK => ?_
            refine xw_id ?_
            try simp only [go_sem, Nat.reduceEqDiff, reduceIte, Nat.reduceAdd, Nat.reduceMul, Nat.reduceSub, Nat.reduceLT, Nat.reduceLeDiff, fx20_0, fx20_1, fx20_2, fx20_9, fx31_0, fx31_1, fx31_2, fx31_5, gm17]
            refine hKK _ _ (Wk.refl _ _ _) ?_; clear hKK KK
            refine awp_ret ?_
            obtain rfl := someInj h0
            refine endW_i ?_
            refine end_ret0 rs6 (rfl) ?_
            try simp only [go_sem, Nat.reduceEqDiff, reduceIte, Nat.reduceAdd, Nat.reduceMul, Nat.reduceSub, Nat.reduceLT, Nat.reduceLeDiff, fz, nilS, packR, List.take_nil, List.take_length, List.length_map, List.length_append, cond_true, cond_false, Nat.ble_eq, ble_self]
            all_goals first | rfl | (simp only [go_sem, Nat.reduceEqDiff, reduceIte, Nat.reduceAdd, Nat.reduceMul, Nat.reduceSub, Nat.reduceLT, Nat.reduceLeDiff, fz, nilS, packR, List.take_nil, List.take_length, List.length_map, List.length_append, cond_true, cond_false, Nat.ble_eq, ble_self, List.map_append] <;> rfl)
           ·
            have h0 := cF h0 h19
            refine awp_skip ?_
            refine awp_nr [3,5,7,9,17,20,23,26,29,30,31,35,38,39,40,42,46] (fun _ => rfl) fun tz => ?_
            refine awp_regW fun KK hKK => ?_
            refine xw_id ?_
            try simp only [List.append_eq, Array.toList_append, List.append_toArray, List.toList_toArray, List.cons_append, List.nil_append]
            refine xw_stop 3 (by (try simp only [go_sem]); rfl) (by (try simp only [go_sem]); rfl) (by rfl) fun K1 hK1 => ?_
            refine xw_id ?_
            try simp only [go_sem, Nat.reduceEqDiff, reduceIte, Nat.reduceAdd, Nat.reduceMul, Nat.reduceSub, Nat.reduceLT, Nat.reduceLeDiff, fx20_0, fx20_1, fx20_2, fx20_9, fx31_0, fx31_1, fx31_2, fx31_5, gm17]
            refine hK1 _ ?_; clear hK1 K1
            refine xw_cut 3 [(7, (vi x9.2)), (9, (vi x12.2)), (17, (vi x19.2.2)), (20, (vi x21.2.2)), (23, (vi x22.2.2)), (26, (vi x24.2.2)), (29, (vi x25.2.2)), (30, (.ptr 1 0)), (31, (.imm (List.map S_vu x26.2.1) x26.2.1.length)), (35, (vi x27.2.2)), (38, (vi x28.2.2)), (39, (.ref 2 0 x29.1.length 1)), (40, (vi x29.2)), (42, (vi x30.2)), (46, (vi x32.2.2)), (198, (vb ((x3.2 == 4) && (x6.2 == 2))))] (by (try simp only [go_sem]); rfl) (by (try simp only [go_sem]); rfl) (by rfl) (fun K1 hK1 => ?_) fun tz => ?_
            ·
             refine xw_id ?_
             rcases Bool.eq_false_or_eq_true (x3.2 == 4) with h20 | h20
             ·
              try simp only [go_sem, Nat.reduceEqDiff, reduceIte, Nat.reduceAdd, Nat.reduceMul, Nat.reduceSub, Nat.reduceLT, Nat.reduceLeDiff, fx20_0, fx20_1, fx20_2, fx20_9, fx31_0, fx31_1, fx31_2, fx31_5, gm17, h20]
              exact hK1 _ ⟨rfl, rfl, rfl, rfl, rfl, rfl, rfl, rfl, rfl, rfl, rfl, rfl, rfl, rfl, rfl, rfl, (by first | rfl | (rw [h20]; rfl) | (simp only [h20, Bool.true_and, Bool.false_and, Bool.true_or, Bool.false_or, cond_true, cond_false]; done)), trivial⟩
             ·
              try simp only [go_sem, Nat.reduceEqDiff, reduceIte, Nat.reduceAdd, Nat.reduceMul, Nat.reduceSub, Nat.reduceLT, Nat.reduceLeDiff, fx20_0, fx20_1, fx20_2, fx20_9, fx31_0, fx31_1, fx31_2, fx31_5, gm17, h20]
              exact hK1 _ ⟨rfl, rfl, rfl, rfl, rfl, rfl, rfl, rfl, rfl, rfl, rfl, rfl, rfl, rfl, rfl, rfl, (by first | rfl | (rw [h20]; rfl) | (simp only [h20, Bool.true_and, Bool.false_and, Bool.true_or, Bool.false_or, cond_true, cond_false]; done)), trivial⟩
            ·
             refine xw_id ?_
             refine xw_stop 1 (by (try simp only [go_sem]); rfl) (by (try simp only [go_sem]); rfl) (by rfl) fun K1 hK1 => ?_
             refine xw_id ?_
             try simp only [go_sem, Nat.reduceEqDiff, reduceIte, Nat.reduceAdd, Nat.reduceMul, Nat.reduceSub, Nat.reduceLT, Nat.reduceLeDiff, fx20_0, fx20_1, fx20_2, fx20_9, fx31_0, fx31_1, fx31_2, fx31_5, gm17]
             refine hK1 _ ?_; clear hK1 K1
             refine xw_cut 3 [(9, (vi x12.2)), (17, (vi x19.2.2)), (20, (vi x21.2.2)), (23, (vi x22.2.2)), (26, (vi x24.2.2)), (29, (vi x25.2.2)), (30, (.ptr 1 0)), (31, (.imm (List.map S_vu x26.2.1) x26.2.1.length)), (35, (vi x27.2.2)), (38, (vi x28.2.2)), (39, (.ref 2 0 x29.1.length 1)), (40, (vi x29.2)), (42, (vi x30.2)), (46, (vi x32.2.2)), (202, (vb (((x3.2 == 4) && (x6.2 == 2)) && (x9.2 == 2))))] (by (try simp only [go_sem]); rfl) (by (try simp only [go_sem]); rfl) (by rfl) (fun K1 hK1 => ?_) fun tz => ?_
             ·
              refine xw_id ?_
              rcases Bool.eq_false_or_eq_true ((x3.2 == 4) && (x6.2 == 2)) with h21 | h21
              ·
               have h21_0 : (x3.2 == 4) = true := by simp only [Bool.and_eq_true] at h21; exact h21.1
               have h21_1 : (x6.2 == 2) = true := by simp only [Bool.and_eq_true] at h21; exact h21.2
               try simp only [go_sem, Nat.reduceEqDiff, reduceIte, Nat.reduceAdd, Nat.reduceMul, Nat.reduceSub, Nat.reduceLT, Nat.reduceLeDiff, fx20_0, fx20_1, fx20_2, fx20_9, fx31_0, fx31_1, fx31_2, fx31_5, gm17, h21, h21_0, h21_1]
               exact hK1 _ ⟨rfl, (by first | rfl | (rw [h21_0]; rfl) | (rw [h21_1]; rfl)), (by first | rfl | (rw [h21_0]; rfl) | (rw [h21_1]; rfl)), (by first | rfl | (rw [h21_0]; rfl) | (rw [h21_1]; rfl)), (by first | rfl | (rw [h21_0]; rfl) | (rw [h21_1]; rfl)), (by first | rfl | (rw [h21_0]; rfl) | (rw [h21_1]; rfl)), (by first | rfl | (rw [h21_0]; rfl) | (rw [h21_1]; rfl)), (by first | rfl | (rw [h21_0]; rfl) | (rw [h21_1]; rfl)), (by first | rfl | (rw [h21_0]; rfl) | (rw [h21_1]; rfl)), (by first | rfl | (rw [h21_0]; rfl) | (rw [h21_1]; rfl)), (by first | rfl | (rw [h21_0]; rfl) | (rw [h21_1]; rfl)), (by first | rfl | (rw [h21_0]; rfl) | (rw [h21_1]; rfl)), (by first | rfl | (rw [h21_0]; rfl) | (rw [h21_1]; rfl)), (by first | rfl | (rw [h21_0]; rfl) | (rw [h21_1]; rfl)), (by first | rfl | (rw [h21_0]; rfl) | (rw [h21_1]; rfl)), (by first | rfl | (rw [h21]; rfl) | (simp only [h21, Bool.true_and, Bool.false_and, Bool.true_or, Bool.false_or, cond_true, cond_false]; done)), trivial⟩
              ·
               try simp only [go_sem, Nat.reduceEqDiff, reduceIte, Nat.reduceAdd, Nat.reduceMul, Nat.reduceSub, Nat.reduceLT, Nat.reduceLeDiff, fx20_0, fx20_1, fx20_2, fx20_9, fx31_0, fx31_1, fx31_2, fx31_5, gm17, h21]
               exact hK1 _ ⟨rfl, rfl, rfl, rfl, rfl, rfl, rfl, rfl, rfl, rfl, rfl, rfl, rfl, rfl, rfl, (by first | rfl | (rw [h21]; rfl) | (simp only [h21, Bool.true_and, Bool.false_and, Bool.true_or, Bool.false_or, cond_true, cond_false]; done)), trivial⟩
             ·
              refine xw_id ?_
              refine xw_stop 1 (by (try simp only [go_sem]); rfl) (by (try simp only [go_sem]); rfl) (by rfl) fun K1 hK1 => ?_
              refine xw_id ?_
              try simp only [go_sem, Nat.reduceEqDiff, reduceIte, Nat.reduceAdd, Nat.reduceMul, Nat.reduceSub, Nat.reduceLT, Nat.reduceLeDiff, fx20_0, fx20_1, fx20_2, fx20_9, fx31_0, fx31_1, fx31_2, fx31_5, gm17]
              refine hK1 _ ?_; clear hK1 K1
              refine xw_cut 3 [(17, (vi x19.2.2)), (20, (vi x21.2.2)), (23, (vi x22.2.2)), (26, (vi x24.2.2)), (29, (vi x25.2.2)), (30, (.ptr 1 0)), (31, (.imm (List.map S_vu x26.2.1) x26.2.1.length)), (35, (vi x27.2.2)), (38, (vi x28.2.2)), (39, (.ref 2 0 x29.1.length 1)), (40, (vi x29.2)), (42, (vi x30.2)), (46, (vi x32.2.2)), (206, (vb ((((x3.2 == 4) && (x6.2 == 2)) && (x9.2 == 2)) && (x12.2 == 2))))] (by (try simp only [go_sem]); rfl) (by (try simp only [go_sem]); rfl) (by rfl) (fun K1 hK1 => ?_) fun tz => ?_
              ·
               refine xw_id ?_
               rcases Bool.eq_false_or_eq_true (((x3.2 == 4) && (x6.2 == 2)) && (x9.2 == 2)) with h22 | h22
               ·
                have h22_0 : (x3.2 == 4) = true := by simp only [Bool.and_eq_true] at h22; exact h22.1.1
                have h22_1 : (x6.2 == 2) = true := by simp only [Bool.and_eq_true] at h22; exact h22.1.2
                have h22_2 : (x9.2 == 2) = true := by simp only [Bool.and_eq_true] at h22; exact h22.2
                try simp only [go_sem, Nat.reduceEqDiff, reduceIte, Nat.reduceAdd, Nat.reduceMul, Nat.reduceSub, Nat.reduceLT, Nat.reduceLeDiff, fx20_0, fx20_1, fx20_2, fx20_9, fx31_0, fx31_1, fx31_2, fx31_5, gm17, h22, h22_0, h22_1, h22_2]
                exact hK1 _ ⟨rfl, (by first | rfl | (rw [h22_0]; rfl) | (rw [h22_1]; rfl) | (rw [h22_2]; rfl)), (by first | rfl | (rw [h22_0]; rfl) | (rw [h22_1]; rfl) | (rw [h22_2]; rfl)), (by first | rfl | (rw [h22_0]; rfl) | (rw [h22_1]; rfl) | (rw [h22_2]; rfl)), (by first | rfl | (rw [h22_0]; rfl) | (rw [h22_1]; rfl) | (rw [h22_2]; rfl)), (by first | rfl | (rw [h22_0]; rfl) | (rw [h22_1]; rfl) | (rw [h22_2]; rfl)), (by first | rfl | (rw [h22_0]; rfl) | (rw [h22_1]; rfl) | (rw [h22_2]; rfl)), (by first | rfl | (rw [h22_0]; rfl) | (rw [h22_1]; rfl) | (rw [h22_2]; rfl)), (by first | rfl | (rw [h22_0]; rfl) | (rw [h22_1]; rfl) | (rw [h22_2]; rfl)), (by first | rfl | (rw [h22_0]; rfl) | (rw [h22_1]; rfl) | (rw [h22_2]; rfl)), (by first | rfl | (rw [h22_0]; rfl) | (rw [h22_1]; rfl) | (rw [h22_2]; rfl)), (by first | rfl | (rw [h22_0]; rfl) | (rw [h22_1]; rfl) | (rw [h22_2]; rfl)), (by first | rfl | (rw [h22_0]; rfl) | (rw [h22_1]; rfl) | (rw [h22_2]; rfl)), (by first | rfl | (rw [h22_0]; rfl) | (rw [h22_1]; rfl) | (rw [h22_2]; rfl)), (by first | rfl | (rw [h22]; rfl) | (simp only [h22, Bool.true_and, Bool.false_and, Bool.true_or, Bool.false_or, cond_true, cond_false]; done)), trivial⟩
               ·
                try simp only [go_sem, Nat.reduceEqDiff, reduceIte, Nat.reduceAdd, Nat.reduceMul, Nat.reduceSub, Nat.reduceLT, Nat.reduceLeDiff, fx20_0, fx20_1, fx20_2, fx20_9, fx31_0, fx31_1, fx31_2, fx31_5, gm17, h22]
                exact hK1 _ ⟨rfl, rfl, rfl, rfl, rfl, rfl, rfl, rfl, rfl, rfl, rfl, rfl, rfl, rfl, (by first | rfl | (rw [h22]; rfl) | (simp only [h22, Bool.true_and, Bool.false_and, Bool.true_or, Bool.false_or, cond_true, cond_false]; done)), trivial⟩
              ·
               refine xw_id ?_
               refine xw_stop 1 (by (try simp only [go_sem]); rfl) (by (try simp only [go_sem]); rfl) (by rfl) fun K1 hK1 => ?_
               refine xw_id ?_
               try simp only [go_sem, Nat.reduceEqDiff, reduceIte, Nat.reduceAdd, Nat.reduceMul, Nat.reduceSub, Nat.reduceLT, Nat.reduceLeDiff, fx20_0, fx20_1, fx20_2, fx20_9, fx31_0, fx31_1, fx31_2, fx31_5, gm17]
               refine hK1 _ ?_; clear hK1 K1
               refine xw_cut 3 [(20, (vi x21.2.2)), (23, (vi x22.2.2)), (26, (vi x24.2.2)), (29, (vi x25.2.2)), (30, (.ptr 1 0)), (31, (.imm (List.map S_vu x26.2.1) x26.2.1.length)), (35, (vi x27.2.2)), (38, (vi x28.2.2)), (39, (.ref 2 0 x29.1.length 1)), (40, (vi x29.2)), (42, (vi x30.2)), (46, (vi x32.2.2)), (210, (vb (((((x3.2 == 4) && (x6.2 == 2)) && (x9.2 == 2)) && (x12.2 == 2)) && (x19.2.2 == 20))))] (by (try simp only [go_sem]); rfl) (by (try simp only [go_sem]); rfl) (by rfl) (fun K1 hK1 => ?_) fun tz => ?_
               ·
                refine xw_id ?_
                rcases Bool.eq_false_or_eq_true ((((x3.2 == 4) && (x6.2 == 2)) && (x9.2 == 2)) && (x12.2 == 2)) with h23 | h23
                ·
                 have h23_0 : (x3.2 == 4) = true := by simp only [Bool.and_eq_true] at h23; exact h23.1.1.1
                 have h23_1 : (x6.2 == 2) = true := by simp only [Bool.and_eq_true] at h23; exact h23.1.1.2
                 have h23_2 : (x9.2 == 2) = true := by simp only [Bool.and_eq_true] at h23; exact h23.1.2
                 have h23_3 : (x12.2 == 2) = true := by simp only [Bool.and_eq_true] at h23; exact h23.2
                 try simp only [go_sem, Nat.reduceEqDiff, reduceIte, Nat.reduceAdd, Nat.reduceMul, Nat.reduceSub, Nat.reduceLT, Nat.reduceLeDiff, fx20_0, fx20_1, fx20_2, fx20_9, fx31_0, fx31_1, fx31_2, fx31_5, gm17, h23, h23_0, h23_1, h23_2, h23_3]
                 exact hK1 _ ⟨rfl, (by first | rfl | (rw [h23_0]; rfl) | (rw [h23_1]; rfl) | (rw [h23_2]; rfl) | (rw [h23_3]; rfl)), (by first | rfl | (rw [h23_0]; rfl) | (rw [h23_1]; rfl) | (rw [h23_2]; rfl) | (rw [h23_3]; rfl)), (by first | rfl | (rw [h23_0]; rfl) | (rw [h23_1]; rfl) | (rw [h23_2]; rfl) | (rw [h23_3]; rfl)), (by first | rfl | (rw [h23_0]; rfl) | (rw [h23_1]; rfl) | (rw [h23_2]; rfl) | (rw [h23_3]; rfl)), (by first | rfl | (rw [h23_0]; rfl) | (rw [h23_1]; rfl) | (rw [h23_2]; rfl) | (rw [h23_3]; rfl)), (by first | rfl | (rw [h23_0]; rfl) | (rw [h23_1]; rfl) | (rw [h23_2]; rfl) | (rw [h23_3]; rfl)), (by first | rfl | (rw [h23_0]; rfl) | (rw [h23_1]; rfl) | (rw [h23_2]; rfl) | (rw [h23_3]; rfl)), (by first | rfl | (rw [h23_0]; rfl) | (rw [h23_1]; rfl) | (rw [h23_2]; rfl) | (rw [h23_3]; rfl)), (by first | rfl | (rw [h23_0]; rfl) | (rw [h23_1]; rfl) | (rw [h23_2]; rfl) | (rw [h23_3]; rfl)), (by first | rfl | (rw [h23_0]; rfl) | (rw [h23_1]; rfl) | (rw [h23_2]; rfl) | (rw [h23_3]; rfl)), (by first | rfl | (rw [h23_0]; rfl) | (rw [h23_1]; rfl) | (rw [h23_2]; rfl) | (rw [h23_3]; rfl)), (by first | rfl | (rw [h23_0]; rfl) | (rw [h23_1]; rfl) | (rw [h23_2]; rfl) | (rw [h23_3]; rfl)), (by first | rfl | (rw [h23]; rfl) | (simp only [h23, Bool.true_and, Bool.false_and, Bool.true_or, Bool.false_or, cond_true, cond_false]; done)), trivial⟩
                ·
                 try simp only [go_sem, Nat.reduceEqDiff, reduceIte, Nat.reduceAdd, Nat.reduceMul, Nat.reduceSub, Nat.reduceLT, Nat.reduceLeDiff, fx20_0, fx20_1, fx20_2, fx20_9, fx31_0, fx31_1, fx31_2, fx31_5, gm17, h23]
                 exact hK1 _ ⟨rfl, rfl, rfl, rfl, rfl, rfl, rfl, rfl, rfl, rfl, rfl, rfl, rfl, (by first | rfl | (rw [h23]; rfl) | (simp only [h23, Bool.true_and, Bool.false_and, Bool.true_or, Bool.false_or, cond_true, cond_false]; done)), trivial⟩
               ·
                refine xw_id ?_
                refine xw_stop 1 (by (try simp only [go_sem]); rfl) (by (try simp only [go_sem]); rfl) (by rfl) fun K1 hK1 => ?_
                refine xw_id ?_
                try simp only [go_sem, Nat.reduceEqDiff, reduceIte, Nat.reduceAdd, Nat.reduceMul, Nat.reduceSub, Nat.reduceLT, Nat.reduceLeDiff, fx20_0, fx20_1, fx20_2, fx20_9, fx31_0, fx31_1, fx31_2, fx31_5, gm17]
                refine hK1 _ ?_; clear hK1 K1
                refine xw_cut 3 [(23, (vi x22.2.2)), (26, (vi x24.2.2)), (29, (vi x25.2.2)), (30, (.ptr 1 0)), (31, (.imm (List.map S_vu x26.2.1) x26.2.1.length)), (35, (vi x27.2.2)), (38, (vi x28.2.2)), (39, (.ref 2 0 x29.1.length 1)), (40, (vi x29.2)), (42, (vi x30.2)), (46, (vi x32.2.2)), (214, (vb ((((((x3.2 == 4) && (x6.2 == 2)) && (x9.2 == 2)) && (x12.2 == 2)) && (x19.2.2 == 20)) && (x21.2.2 == 33))))] (by (try simp only [go_sem]); rfl) (by (try simp only [go_sem]); rfl) (by rfl) (fun K1 hK1 => ?_) fun tz => ?_
                ·
                 refine xw_id ?_
                 rcases Bool.eq_false_or_eq_true (((((x3.2 == 4) && (x6.2 == 2)) && (x9.2 == 2)) && (x12.2 == 2)) && (x19.2.2 == 20)) with h24 | h24
                 ·
                  have h24_0 : (x3.2 == 4) = true := by simp only [Bool.and_eq_true] at h24; exact h24.1.1.1.1
                  have h24_1 : (x6.2 == 2) = true := by simp only [Bool.and_eq_true] at h24; exact h24.1.1.1.2
                  have h24_2 : (x9.2 == 2) = true := by simp only [Bool.and_eq_true] at h24; exact h24.1.1.2
                  have h24_3 : (x12.2 == 2) = true := by simp only [Bool.and_eq_true] at h24; exact h24.1.2
                  have h24_4 : (x19.2.2 == 20) = true := by simp only [Bool.and_eq_true] at h24; exact h24.2
                  try simp only [go_sem, Nat.reduceEqDiff, reduceIte, Nat.reduceAdd, Nat.reduceMul, Nat.reduceSub, Nat.reduceLT, Nat.reduceLeDiff, fx20_0, fx20_1, fx20_2, fx20_9, fx31_0, fx31_1, fx31_2, fx31_5, gm17, h24, h24_0, h24_1, h24_2, h24_3, h24_4]
                  exact hK1 _ ⟨rfl, (by first | rfl | (rw [h24_0]; rfl) | (rw [h24_1]; rfl) | (rw [h24_2]; rfl) | (rw [h24_3]; rfl) | (rw [h24_4]; rfl)), (by first | rfl | (rw [h24_0]; rfl) | (rw [h24_1]; rfl) | (rw [h24_2]; rfl) | (rw [h24_3]; rfl) | (rw [h24_4]; rfl)), (by first | rfl | (rw [h24_0]; rfl) | (rw [h24_1]; rfl) | (rw [h24_2]; rfl) | (rw [h24_3]; rfl) | (rw [h24_4]; rfl)), (by first | rfl | (rw [h24_0]; rfl) | (rw [h24_1]; rfl) | (rw [h24_2]; rfl) | (rw [h24_3]; rfl) | (rw [h24_4]; rfl)), (by first | rfl | (rw [h24_0]; rfl) | (rw [h24_1]; rfl) | (rw [h24_2]; rfl) | (rw [h24_3]; rfl) | (rw [h24_4]; rfl)), (by first | rfl | (rw [h24_0]; rfl) | (rw [h24_1]; rfl) | (rw [h24_2]; rfl) | (rw [h24_3]; rfl) | (rw [h24_4]; rfl)), (by first | rfl | (rw [h24_0]; rfl) | (rw [h24_1]; rfl) | (rw [h24_2]; rfl) | (rw [h24_3]; rfl) | (rw [h24_4]; rfl)), (by first | rfl | (rw [h24_0]; rfl) | (rw [h24_1]; rfl) | (rw [h24_2]; rfl) | (rw [h24_3]; rfl) | (rw [h24_4]; rfl)), (by first | rfl | (rw [h24_0]; rfl) | (rw [h24_1]; rfl) | (rw [h24_2]; rfl) | (rw [h24_3]; rfl) | (rw [h24_4]; rfl)), (by first | rfl | (rw [h24_0]; rfl) | (rw [h24_1]; rfl) | (rw [h24_2]; rfl) | (rw [h24_3]; rfl) | (rw [h24_4]; rfl)), (by first | rfl | (rw [h24_0]; rfl) | (rw [h24_1]; rfl) | (rw [h24_2]; rfl) | (rw [h24_3]; rfl) | (rw [h24_4]; rfl)), (by first | rfl | (rw [h24]; rfl) | (simp only [h24, Bool.true_and, Bool.false_and, Bool.true_or, Bool.false_or, cond_true, cond_false]; done)), trivial⟩
                 ·
                  try simp only [go_sem, Nat.reduceEqDiff, reduceIte, Nat.reduceAdd, Nat.reduceMul, Nat.reduceSub, Nat.reduceLT, Nat.reduceLeDiff, fx20_0, fx20_1, fx20_2, fx20_9, fx31_0, fx31_1, fx31_2, fx31_5, gm17, h24]
                  exact hK1 _ ⟨rfl, rfl, rfl, rfl, rfl, rfl, rfl, rfl, rfl, rfl, rfl, rfl, (by first | rfl | (rw [h24]; rfl) | (simp only [h24, Bool.true_and, Bool.false_and, Bool.true_or, Bool.false_or, cond_true, cond_false]; done)), trivial⟩
                ·
                 refine xw_id ?_
                 refine xw_stop 1 (by (try simp only [go_sem]); rfl) (by (try simp only [go_sem]); rfl) (by rfl) fun K1 hK1 => ?_
                 refine xw_id ?_
                 try simp only [go_sem, Nat.reduceEqDiff, reduceIte, Nat.reduceAdd, Nat.reduceMul, Nat.reduceSub, Nat.reduceLT, Nat.reduceLeDiff, fx20_0, fx20_1, fx20_2, fx20_9, fx31_0, fx31_1, fx31_2, fx31_5, gm17]
                 refine hK1 _ ?_; clear hK1 K1
                 refine xw_cut 3 [(26, (vi x24.2.2)), (29, (vi x25.2.2)), (30, (.ptr 1 0)), (31, (.imm (List.map S_vu x26.2.1) x26.2.1.length)), (35, (vi x27.2.2)), (38, (vi x28.2.2)), (39, (.ref 2 0 x29.1.length 1)), (40, (vi x29.2)), (42, (vi x30.2)), (46, (vi x32.2.2)), (218, (vb (((((((x3.2 == 4) && (x6.2 == 2)) && (x9.2 == 2)) && (x12.2 == 2)) && (x19.2.2 == 20)) && (x21.2.2 == 33)) && (x22.2.2 == 10))))] (by (try simp only [go_sem]); rfl) (by (try simp only [go_sem]); rfl) (by rfl) (fun K1 hK1 => ?_) fun tz => ?_
                 ·
                  refine xw_id ?_
                  rcases Bool.eq_false_or_eq_true ((((((x3.2 == 4) && (x6.2 == 2)) && (x9.2 == 2)) && (x12.2 == 2)) && (x19.2.2 == 20)) && (x21.2.2 == 33)) with h25 | h25
                  ·
                   have h25_0 : (x3.2 == 4) = true := by simp only [Bool.and_eq_true] at h25; exact h25.1.1.1.1.1
                   have h25_1 : (x6.2 == 2) = true := by simp only [Bool.and_eq_true] at h25; exact h25.1.1.1.1.2
                   have h25_2 : (x9.2 == 2) = true := by simp only [Bool.and_eq_true] at h25; exact h25.1.1.1.2
                   have h25_3 : (x12.2 == 2) = true := by simp only [Bool.and_eq_true] at h25; exact h25.1.1.2
                   have h25_4 : (x19.2.2 == 20) = true := by simp only [Bool.and_eq_true] at h25; exact h25.1.2
                   have h25_5 : (x21.2.2 == 33) = true := by simp only [Bool.and_eq_true] at h25; exact h25.2
                   try simp only [go_sem, Nat.reduceEqDiff, reduceIte, Nat.reduceAdd, Nat.reduceMul, Nat.reduceSub, Nat.reduceLT, Nat.reduceLeDiff, fx20_0, fx20_1, fx20_2, fx20_9, fx31_0, fx31_1, fx31_2, fx31_5, gm17, h25, h25_0, h25_1, h25_2, h25_3, h25_4, h25_5]
                   exact hK1 _ ⟨rfl, (by first | rfl | (rw [h25_0]; rfl) | (rw [h25_1]; rfl) | (rw [h25_2]; rfl) | (rw [h25_3]; rfl) | (rw [h25_4]; rfl) | (rw [h25_5]; rfl)), (by first | rfl | (rw [h25_0]; rfl) | (rw [h25_1]; rfl) | (rw [h25_2]; rfl) | (rw [h25_3]; rfl) | (rw [h25_4]; rfl) | (rw [h25_5]; rfl)), (by first | rfl | (rw [h25_0]; rfl) | (rw [h25_1]; rfl) | (rw [h25_2]; rfl) | (rw [h25_3]; rfl) | (rw [h25_4]; rfl) | (rw [h25_5]; rfl)), (by first | rfl | (rw [h25_0]; rfl) | (rw [h25_1]; rfl) | (rw [h25_2]; rfl) | (rw [h25_3]; rfl) | (rw [h25_4]; rfl) | (rw [h25_5]; rfl)), (by first | rfl | (rw [h25_0]; rfl) | (rw [h25_1]; rfl) | (rw [h25_2]; rfl) | (rw [h25_3]; rfl) | (rw [h25_4]; rfl) | (rw [h25_5]; rfl)), (by first | rfl | (rw [h25_0]; rfl) | (rw [h25_1]; rfl) | (rw [h25_2]; rfl) | (rw [h25_3]; rfl) | (rw [h25_4]; rfl) | (rw [h25_5]; rfl)), (by first | rfl | (rw [h25_0]; rfl) | (rw [h25_1]; rfl) | (rw [h25_2]; rfl) | (rw [h25_3]; rfl) | (rw [h25_4]; rfl) | (rw [h25_5]; rfl)), (by first | rfl | (rw [h25_0]; rfl) | (rw [h25_1]; rfl) | (rw [h25_2]; rfl) | (rw [h25_3]; rfl) | (rw [h25_4]; rfl) | (rw [h25_5]; rfl)), (by first | rfl | (rw [h25_0]; rfl) | (rw [h25_1]; rfl) | (rw [h25_2]; rfl) | (rw [h25_3]; rfl) | (rw [h25_4]; rfl) | (rw [h25_5]; rfl)), (by first | rfl | (rw [h25_0]; rfl) | (rw [h25_1]; rfl) | (rw [h25_2]; rfl) | (rw [h25_3]; rfl) | (rw [h25_4]; rfl) | (rw [h25_5]; rfl)), (by first | rfl | (rw [h25]; rfl) | (simp only [h25, Bool.true_and, Bool.false_and, Bool.true_or, Bool.false_or, cond_true, cond_false]; done)), trivial⟩
                  ·
                   try simp only [go_sem, Nat.reduceEqDiff, reduceIte, Nat.reduceAdd, Nat.reduceMul, Nat.reduceSub, Nat.reduceLT, Nat.reduceLeDiff, fx20_0, fx20_1, fx20_2, fx20_9, fx31_0, fx31_1, fx31_2, fx31_5, gm17, h25]
                   exact hK1 _ ⟨rfl, rfl, rfl, rfl, rfl, rfl, rfl, rfl, rfl, rfl, rfl, (by first | rfl | (rw [h25]; rfl) | (simp only [h25, Bool.true_and, Bool.false_and, Bool.true_or, Bool.false_or, cond_true, cond_false]; done)), trivial⟩
                 ·
                  refine xw_id ?_
                  refine xw_stop 1 (by (try simp only [go_sem]); rfl) (by (try simp only [go_sem]); rfl) (by rfl) fun K1 hK1 => ?_
                  refine xw_id ?_
                  try simp only [go_sem, Nat.reduceEqDiff, reduceIte, Nat.reduceAdd, Nat.reduceMul, Nat.reduceSub, Nat.reduceLT, Nat.reduceLeDiff, fx20_0, fx20_1, fx20_2, fx20_9, fx31_0, fx31_1, fx31_2, fx31_5, gm17]
                  refine hK1 _ ?_; clear hK1 K1
                  refine xw_cut 3 [(29, (vi x25.2.2)), (30, (.ptr 1 0)), (31, (.imm (List.map S_vu x26.2.1) x26.2.1.length)), (35, (vi x27.2.2)), (38, (vi x28.2.2)), (39, (.ref 2 0 x29.1.length 1)), (40, (vi x29.2)), (42, (vi x30.2)), (46, (vi x32.2.2)), (222, (vb ((((((((x3.2 == 4) && (x6.2 == 2)) && (x9.2 == 2)) && (x12.2 == 2)) && (x19.2.2 == 20)) && (x21.2.2 == 33)) && (x22.2.2 == 10)) && (x24.2.2 == 12))))] (by (try simp only [go_sem]); rfl) (by (try simp only [go_sem]); rfl) (by rfl) (fun K1 hK1 => ?_) fun tz => ?_
                  ·
                   refine xw_id ?_
                   rcases Bool.eq_false_or_eq_true (((((((x3.2 == 4) && (x6.2 == 2)) && (x9.2 == 2)) && (x12.2 == 2)) && (x19.2.2 == 20)) && (x21.2.2 == 33)) && (x22.2.2 == 10)) with h26 | h26
                   ·
                    have h26_0 : (x3.2 == 4) = true := by simp only [Bool.and_eq_true] at h26; exact h26.1.1.1.1.1.1
                    have h26_1 : (x6.2 == 2) = true := by simp only [Bool.and_eq_true] at h26; exact h26.1.1.1.1.1.2
                    have h26_2 : (x9.2 == 2) = true := by simp only [Bool.and_eq_true] at h26; exact h26.1.1.1.1.2
                    have h26_3 : (x12.2 == 2) = true := by simp only [Bool.and_eq_true] at h26; exact h26.1.1.1.2
                    have h26_4 : (x19.2.2 == 20) = true := by simp only [Bool.and_eq_true] at h26; exact h26.1.1.2
                    have h26_5 : (x21.2.2 == 33) = true := by simp only [Bool.and_eq_true] at h26; exact h26.1.2
                    have h26_6 : (x22.2.2 == 10) = true := by simp only [Bool.and_eq_true] at h26; exact h26.2
                    try simp only [go_sem, Nat.reduceEqDiff, reduceIte, Nat.reduceAdd, Nat.reduceMul, Nat.reduceSub, Nat.reduceLT, Nat.reduceLeDiff, fx20_0, fx20_1, fx20_2, fx20_9, fx31_0, fx31_1, fx31_2, fx31_5, gm17, h26, h26_0, h26_1, h26_2, h26_3, h26_4, h26_5, h26_6]
                    exact hK1 _ ⟨rfl, (by first | rfl | (rw [h26_0]; rfl) | (rw [h26_1]; rfl) | (rw [h26_2]; rfl) | (rw [h26_3]; rfl) | (rw [h26_4]; rfl) | (rw [h26_5]; rfl) | (rw [h26_6]; rfl)), (by first | rfl | (rw [h26_0]; rfl) | (rw [h26_1]; rfl) | (rw [h26_2]; rfl) | (rw [h26_3]; rfl) | (rw [h26_4]; rfl) | (rw [h26_5]; rfl) | (rw [h26_6]; rfl)), (by first | rfl | (rw [h26_0]; rfl) | (rw [h26_1]; rfl) | (rw [h26_2]; rfl) | (rw [h26_3]; rfl) | (rw [h26_4]; rfl) | (rw [h26_5]; rfl) | (rw [h26_6]; rfl)), (by first | rfl | (rw [h26_0]; rfl) | (rw [h26_1]; rfl) | (rw [h26_2]; rfl) | (rw [h26_3]; rfl) | (rw [h26_4]; rfl) | (rw [h26_5]; rfl) | (rw [h26_6]; rfl)), (by first | rfl | (rw [h26_0]; rfl) | (rw [h26_1]; rfl) | (rw [h26_2]; rfl) | (rw [h26_3]; rfl) | (rw [h26_4]; rfl) | (rw [h26_5]; rfl) | (rw [h26_6]; rfl)), (by first | rfl | (rw [h26_0]; rfl) | (rw [h26_1]; rfl) | (rw [h26_2]; rfl) | (rw [h26_3]; rfl) | (rw [h26_4]; rfl) | (rw [h26_5]; rfl) | (rw [h26_6]; rfl)), (by first | rfl | (rw [h26_0]; rfl) | (rw [h26_1]; rfl) | (rw [h26_2]; rfl) | (rw [h26_3]; rfl) | (rw [h26_4]; rfl) | (rw [h26_5]; rfl) | (rw [h26_6]; rfl)), (by first | rfl | (rw [h26_0]; rfl) | (rw [h26_1]; rfl) | (rw [h26_2]; rfl) | (rw [h26_3]; rfl) | (rw [h26_4]; rfl) | (rw [h26_5]; rfl) | (rw [h26_6]; rfl)), (by first | rfl | (rw [h26_0]; rfl) | (rw [h26_1]; rfl) | (rw [h26_2]; rfl) | (rw [h26_3]; rfl) | (rw [h26_4]; rfl) | (rw [h26_5]; rfl) | (rw [h26_6]; rfl)), (by first | rfl | (rw [h26]; rfl) | (simp only [h26, Bool.true_and, Bool.false_and, Bool.true_or, Bool.false_or, cond_true, cond_false]; done)), trivial⟩
                   ·
                    try simp only [go_sem, Nat.reduceEqDiff, reduceIte, Nat.reduceAdd, Nat.reduceMul, Nat.reduceSub, Nat.reduceLT, Nat.reduceLeDiff, fx20_0, fx20_1, fx20_2, fx20_9, fx31_0, fx31_1, fx31_2, fx31_5, gm17, h26]
                    exact hK1 _ ⟨rfl, rfl, rfl, rfl, rfl, rfl, rfl, rfl, rfl, rfl, (by first | rfl | (rw [h26]; rfl) | (simp only [h26, Bool.true_and, Bool.false_and, Bool.true_or, Bool.false_or, cond_true, cond_false]; done)), trivial⟩
                  ·
                   refine xw_id ?_
                   refine xw_stop 1 (by (try simp only [go_sem]); rfl) (by (try simp only [go_sem]); rfl) (by rfl) fun K1 hK1 => ?_
                   refine xw_id ?_
                   try simp only [go_sem, Nat.reduceEqDiff, reduceIte, Nat.reduceAdd, Nat.reduceMul, Nat.reduceSub, Nat.reduceLT, Nat.reduceLeDiff, fx20_0, fx20_1, fx20_2, fx20_9, fx31_0, fx31_1, fx31_2, fx31_5, gm17]
                   refine hK1 _ ?_; clear hK1 K1
                   refine xw_cut 3 [(30, (.ptr 1 0)), (31, (.imm (List.map S_vu x26.2.1) x26.2.1.length)), (35, (vi x27.2.2)), (38, (vi x28.2.2)), (39, (.ref 2 0 x29.1.length 1)), (40, (vi x29.2)), (42, (vi x30.2)), (46, (vi x32.2.2)), (226, (vb (((((((((x3.2 == 4) && (x6.2 == 2)) && (x9.2 == 2)) && (x12.2 == 2)) && (x19.2.2 == 20)) && (x21.2.2 == 33)) && (x22.2.2 == 10)) && (x24.2.2 == 12)) && (x25.2.2 == 20))))] (by (try simp only [go_sem]); rfl) (by (try simp only [go_sem]); rfl) (by rfl) (fun K1 hK1 => ?_) fun tz => ?_
                   ·
                    refine xw_id ?_
                    rcases Bool.eq_false_or_eq_true ((((((((x3.2 == 4) && (x6.2 == 2)) && (x9.2 == 2)) && (x12.2 == 2)) && (x19.2.2 == 20)) && (x21.2.2 == 33)) && (x22.2.2 == 10)) && (x24.2.2 == 12)) with h27 | h27
                    ·
                     have h27_0 : (x3.2 == 4) = true := by simp only [Bool.and_eq_true] at h27; exact h27.1.1.1.1.1.1.1
                     have h27_1 : (x6.2 == 2) = true := by simp only [Bool.and_eq_true] at h27; exact h27.1.1.1.1.1.1.2
                     have h27_2 : (x9.2 == 2) = true := by simp only [Bool.and_eq_true] at h27; exact h27.1.1.1.1.1.2
                     have h27_3 : (x12.2 == 2) = true := by simp only [Bool.and_eq_true] at h27; exact h27.1.1.1.1.2
                     have h27_4 : (x19.2.2 == 20) = true := by simp only [Bool.and_eq_true] at h27; exact h27.1.1.1.2
                     have h27_5 : (x21.2.2 == 33) = true := by simp only [Bool.and_eq_true] at h27; exact h27.1.1.2
                     have h27_6 : (x22.2.2 == 10) = true := by simp only [Bool.and_eq_true] at h27; exact h27.1.2
                     have h27_7 : (x24.2.2 == 12) = true := by simp only [Bool.and_eq_true] at h27; exact h27.2
                     try simp only [go_sem, Nat.reduceEqDiff, reduceIte, Nat.reduceAdd, Nat.reduceMul, Nat.reduceSub, Nat.reduceLT, Nat.reduceLeDiff, fx20_0, fx20_1, fx20_2, fx20_9, fx31_0, fx31_1, fx31_2, fx31_5, gm17, h27, h27_0, h27_1, h27_2, h27_3, h27_4, h27_5, h27_6, h27_7]
                     exact hK1 _ ⟨rfl, (by first | rfl | (rw [h27_0]; rfl) | (rw [h27_1]; rfl) | (rw [h27_2]; rfl) | (rw [h27_3]; rfl) | (rw [h27_4]; rfl) | (rw [h27_5]; rfl) | (rw [h27_6]; rfl) | (rw [h27_7]; rfl)), (by first | rfl | (rw [h27_0]; rfl) | (rw [h27_1]; rfl) | (rw [h27_2]; rfl) | (rw [h27_3]; rfl) | (rw [h27_4]; rfl) | (rw [h27_5]; rfl) | (rw [h27_6]; rfl) | (rw [h27_7]; rfl)), (by first | rfl | (rw [h27_0]; rfl) | (rw [h27_1]; rfl) | (rw [h27_2]; rfl) | (rw [h27_3]; rfl) | (rw [h27_4]; rfl) | (rw [h27_5]; rfl) | (rw [h27_6]; rfl) | (rw [h27_7]; rfl)), (by first | rfl | (rw [h27_0]; rfl) | (rw [h27_1]; rfl) | (rw [h27_2]; rfl) | (rw [h27_3]; rfl) | (rw [h27_4]; rfl) | (rw [h27_5]; rfl) | (rw [h27_6]; rfl) | (rw [h27_7]; rfl)), (by first | rfl | (rw [h27_0]; rfl) | (rw [h27_1]; rfl) | (rw [h27_2]; rfl) | (rw [h27_3]; rfl) | (rw [h27_4]; rfl) | (rw [h27_5]; rfl) | (rw [h27_6]; rfl) | (rw [h27_7]; rfl)), (by first | rfl | (rw [h27_0]; rfl) | (rw [h27_1]; rfl) | (rw [h27_2]; rfl) | (rw [h27_3]; rfl) | (rw [h27_4]; rfl) | (rw [h27_5]; rfl) | (rw [h27_6]; rfl) | (rw [h27_7]; rfl)), (by first | rfl | (rw [h27_0]; rfl) | (rw [h27_1]; rfl) | (rw [h27_2]; rfl) | (rw [h27_3]; rfl) | (rw [h27_4]; rfl) | (rw [h27_5]; rfl) | (rw [h27_6]; rfl) | (rw [h27_7]; rfl)), (by first | rfl | (rw [h27_0]; rfl) | (rw [h27_1]; rfl) | (rw [h27_2]; rfl) | (rw [h27_3]; rfl) | (rw [h27_4]; rfl) | (rw [h27_5]; rfl) | (rw [h27_6]; rfl) | (rw [h27_7]; rfl)), (by first | rfl | (rw [h27]; rfl) | (simp only [h27, Bool.true_and, Bool.false_and, Bool.true_or, Bool.false_or, cond_true, cond_false]; done)), trivial⟩
                    ·
                     try simp only [go_sem, Nat.reduceEqDiff, reduceIte, Nat.reduceAdd, Nat.reduceMul, Nat.reduceSub, Nat.reduceLT, Nat.reduceLeDiff, fx20_0, fx20_1, fx20_2, fx20_9, fx31_0, fx31_1, fx31_2, fx31_5, gm17, h27]
                     exact hK1 _ ⟨rfl, rfl, rfl, rfl, rfl, rfl, rfl, rfl, rfl, (by first | rfl | (rw [h27]; rfl) | (simp only [h27, Bool.true_and, Bool.false_and, Bool.true_or, Bool.false_or, cond_true, cond_false]; done)), trivial⟩
                   ·
                    refine xw_id ?_
                    refine xw_stop 1 (by (try simp only [go_sem]); rfl) (by (try simp only [go_sem]); rfl) (by rfl) fun K1 hK1 => ?_
                    refine xw_id ?_
                    try simp only [go_sem, Nat.reduceEqDiff, reduceIte, Nat.reduceAdd, Nat.reduceMul, Nat.reduceSub, Nat.reduceLT, Nat.reduceLeDiff, fx20_0, fx20_1, fx20_2, fx20_9, fx31_0, fx31_1, fx31_2, fx31_5, gm17]
                    refine hK1 _ ?_; clear hK1 K1
                    refine xw_cut 3 [(30, (.ptr 1 0)), (31, (.imm (List.map S_vu x26.2.1) x26.2.1.length)), (35, (vi x27.2.2)), (38, (vi x28.2.2)), (39, (.ref 2 0 x29.1.length 1)), (40, (vi x29.2)), (42, (vi x30.2)), (46, (vi x32.2.2)), (230, (vb ((((((((((x3.2 == 4) && (x6.2 == 2)) && (x9.2 == 2)) && (x12.2 == 2)) && (x19.2.2 == 20)) && (x21.2.2 == 33)) && (x22.2.2 == 10)) && (x24.2.2 == 12)) && (x25.2.2 == 20)) && x26.1.HasToken)))] (by (try simp only [go_sem]); rfl) (by (try simp only [go_sem]); rfl) (by rfl) (fun K1 hK1 => ?_) fun tz => ?_
                    ·
                     refine xw_id ?_
                     rcases Bool.eq_false_or_eq_true (((((((((x3.2 == 4) && (x6.2 == 2)) && (x9.2 == 2)) && (x12.2 == 2)) && (x19.2.2 == 20)) && (x21.2.2 == 33)) && (x22.2.2 == 10)) && (x24.2.2 == 12)) && (x25.2.2 == 20)) with h28 | h28
                     ·
                      have h28_0 : (x3.2 == 4) = true := by simp only [Bool.and_eq_true] at h28; exact h28.1.1.1.1.1.1.1.1
                      have h28_1 : (x6.2 == 2) = true := by simp only [Bool.and_eq_true] at h28; exact h28.1.1.1.1.1.1.1.2
                      have h28_2 : (x9.2 == 2) = true := by simp only [Bool.and_eq_true] at h28; exact h28.1.1.1.1.1.1.2
                      have h28_3 : (x12.2 == 2) = true := by simp only [Bool.and_eq_true] at h28; exact h28.1.1.1.1.1.2
                      have h28_4 : (x19.2.2 == 20) = true := by simp only [Bool.and_eq_true] at h28; exact h28.1.1.1.1.2
                      have h28_5 : (x21.2.2 == 33) = true := by simp only [Bool.and_eq_true] at h28; exact h28.1.1.1.2
                      have h28_6 : (x22.2.2 == 10) = true := by simp only [Bool.and_eq_true] at h28; exact h28.1.1.2
                      have h28_7 : (x24.2.2 == 12) = true := by simp only [Bool.and_eq_true] at h28; exact h28.1.2
                      have h28_8 : (x25.2.2 == 20) = true := by simp only [Bool.and_eq_true] at h28; exact h28.2
                      try simp only [go_sem, Nat.reduceEqDiff, reduceIte, Nat.reduceAdd, Nat.reduceMul, Nat.reduceSub, Nat.reduceLT, Nat.reduceLeDiff, fx20_0, fx20_1, fx20_2, fx20_9, fx31_0, fx31_1, fx31_2, fx31_5, gm17, h28, h28_0, h28_1, h28_2, h28_3, h28_4, h28_5, h28_6, h28_7, h28_8]
                      exact hK1 _ ⟨rfl, (by first | rfl | (rw [h28_0]; rfl) | (rw [h28_1]; rfl) | (rw [h28_2]; rfl) | (rw [h28_3]; rfl) | (rw [h28_4]; rfl) | (rw [h28_5]; rfl) | (rw [h28_6]; rfl) | (rw [h28_7]; rfl) | (rw [h28_8]; rfl)), (by first | rfl | (rw [h28_0]; rfl) | (rw [h28_1]; rfl) | (rw [h28_2]; rfl) | (rw [h28_3]; rfl) | (rw [h28_4]; rfl) | (rw [h28_5]; rfl) | (rw [h28_6]; rfl) | (rw [h28_7]; rfl) | (rw [h28_8]; rfl)), (by first | rfl | (rw [h28_0]; rfl) | (rw [h28_1]; rfl) | (rw [h28_2]; rfl) | (rw [h28_3]; rfl) | (rw [h28_4]; rfl) | (rw [h28_5]; rfl) | (rw [h28_6]; rfl) | (rw [h28_7]; rfl) | (rw [h28_8]; rfl)), (by first | rfl | (rw [h28_0]; rfl) | (rw [h28_1]; rfl) | (rw [h28_2]; rfl) | (rw [h28_3]; rfl) | (rw [h28_4]; rfl) | (rw [h28_5]; rfl) | (rw [h28_6]; rfl) | (rw [h28_7]; rfl) | (rw [h28_8]; rfl)), (by first | rfl | (rw [h28_0]; rfl) | (rw [h28_1]; rfl) | (rw [h28_2]; rfl) | (rw [h28_3]; rfl) | (rw [h28_4]; rfl) | (rw [h28_5]; rfl) | (rw [h28_6]; rfl) | (rw [h28_7]; rfl) | (rw [h28_8]; rfl)), (by first | rfl | (rw [h28_0]; rfl) | (rw [h28_1]; rfl) | (rw [h28_2]; rfl) | (rw [h28_3]; rfl) | (rw [h28_4]; rfl) | (rw [h28_5]; rfl) | (rw [h28_6]; rfl) | (rw [h28_7]; rfl) | (rw [h28_8]; rfl)), (by first | rfl | (rw [h28_0]; rfl) | (rw [h28_1]; rfl) | (rw [h28_2]; rfl) | (rw [h28_3]; rfl) | (rw [h28_4]; rfl) | (rw [h28_5]; rfl) | (rw [h28_6]; rfl) | (rw [h28_7]; rfl) | (rw [h28_8]; rfl)), (by first | rfl | (rw [h28_0]; rfl) | (rw [h28_1]; rfl) | (rw [h28_2]; rfl) | (rw [h28_3]; rfl) | (rw [h28_4]; rfl) | (rw [h28_5]; rfl) | (rw [h28_6]; rfl) | (rw [h28_7]; rfl) | (rw [h28_8]; rfl)), (by first | rfl | (rw [h28]; rfl) | (simp only [h28, Bool.true_and, Bool.false_and, Bool.true_or, Bool.false_or, cond_true, cond_false]; done)), trivial⟩
                     ·
                      try simp only [go_sem, Nat.reduceEqDiff, reduceIte, Nat.reduceAdd, Nat.reduceMul, Nat.reduceSub, Nat.reduceLT, Nat.reduceLeDiff, fx20_0, fx20_1, fx20_2, fx20_9, fx31_0, fx31_1, fx31_2, fx31_5, gm17, h28]
                      exact hK1 _ ⟨rfl, rfl, rfl, rfl, rfl, rfl, rfl, rfl, rfl, (by first | rfl | (rw [h28]; rfl) | (simp only [h28, Bool.true_and, Bool.false_and, Bool.true_or, Bool.false_or, cond_true, cond_false]; done)), trivial⟩
                    ·
                     refine xw_id ?_
                     refine xw_stop 1 (by (try simp only [go_sem]); rfl) (by (try simp only [go_sem]); rfl) (by rfl) fun K1 hK1 => ?_
                     refine xw_id ?_
                     try simp only [go_sem, Nat.reduceEqDiff, reduceIte, Nat.reduceAdd, Nat.reduceMul, Nat.reduceSub, Nat.reduceLT, Nat.reduceLeDiff, fx20_0, fx20_1, fx20_2, fx20_9, fx31_0, fx31_1, fx31_2, fx31_5, gm17]
                     refine hK1 _ ?_; clear hK1 K1
                     refine xw_cut 4 [(31, (.imm (List.map S_vu x26.2.1) x26.2.1.length)), (35, (vi x27.2.2)), (38, (vi x28.2.2)), (39, (.ref 2 0 x29.1.length 1)), (40, (vi x29.2)), (42, (vi x30.2)), (46, (vi x32.2.2)), (235, (vb (((((((((((x3.2 == 4) && (x6.2 == 2)) && (x9.2 == 2)) && (x12.2 == 2)) && (x19.2.2 == 20)) && (x21.2.2 == 33)) && (x22.2.2 == 10)) && (x24.2.2 == 12)) && (x25.2.2 == 20)) && x26.1.HasToken) && (x26.1.Tries == 2))))] (by (try simp only [go_sem]); rfl) (by (try simp only [go_sem]); rfl) (by rfl) (fun K1 hK1 => ?_) fun tz => ?_
                     ·
                      refine xw_id ?_
                      rcases Bool.eq_false_or_eq_true ((((((((((x3.2 == 4) && (x6.2 == 2)) && (x9.2 == 2)) && (x12.2 == 2)) && (x19.2.2 == 20)) && (x21.2.2 == 33)) && (x22.2.2 == 10)) && (x24.2.2 == 12)) && (x25.2.2 == 20)) && x26.1.HasToken) with h29 | h29
                      ·
                       have h29_0 : (x3.2 == 4) = true := by simp only [Bool.and_eq_true] at h29; exact h29.1.1.1.1.1.1.1.1.1
                       have h29_1 : (x6.2 == 2) = true := by simp only [Bool.and_eq_true] at h29; exact h29.1.1.1.1.1.1.1.1.2
                       have h29_2 : (x9.2 == 2) = true := by simp only [Bool.and_eq_true] at h29; exact h29.1.1.1.1.1.1.1.2
                       have h29_3 : (x12.2 == 2) = true := by simp only [Bool.and_eq_true] at h29; exact h29.1.1.1.1.1.1.2
                       have h29_4 : (x19.2.2 == 20) = true := by simp only [Bool.and_eq_true] at h29; exact h29.1.1.1.1.1.2
                       have h29_5 : (x21.2.2 == 33) = true := by simp only [Bool.and_eq_true] at h29; exact h29.1.1.1.1.2
                       have h29_6 : (x22.2.2 == 10) = true := by simp only [Bool.and_eq_true] at h29; exact h29.1.1.1.2
                       have h29_7 : (x24.2.2 == 12) = true := by simp only [Bool.and_eq_true] at h29; exact h29.1.1.2
                       have h29_8 : (x25.2.2 == 20) = true := by simp only [Bool.and_eq_true] at h29; exact h29.1.2
                       have h29_9 : (x26.1.HasToken) = true := by simp only [Bool.and_eq_true] at h29; exact h29.2
                       try simp only [go_sem, Nat.reduceEqDiff, reduceIte, Nat.reduceAdd, Nat.reduceMul, Nat.reduceSub, Nat.reduceLT, Nat.reduceLeDiff, fx20_0, fx20_1, fx20_2, fx20_9, fx31_0, fx31_1, fx31_2, fx31_5, gm17, h29, h29_0, h29_1, h29_2, h29_3, h29_4, h29_5, h29_6, h29_7, h29_8, h29_9]
                       exact hK1 _ ⟨rfl, (by first | rfl | (rw [h29_0]; rfl) | (rw [h29_1]; rfl) | (rw [h29_2]; rfl) | (rw [h29_3]; rfl) | (rw [h29_4]; rfl) | (rw [h29_5]; rfl) | (rw [h29_6]; rfl) | (rw [h29_7]; rfl) | (rw [h29_8]; rfl) | (rw [h29_9]; rfl)), (by first | rfl | (rw [h29_0]; rfl) | (rw [h29_1]; rfl) | (rw [h29_2]; rfl) | (rw [h29_3]; rfl) | (rw [h29_4]; rfl) | (rw [h29_5]; rfl) | (rw [h29_6]; rfl) | (rw [h29_7]; rfl) | (rw [h29_8]; rfl) | (rw [h29_9]; rfl)), (by first | rfl | (rw [h29_0]; rfl) | (rw [h29_1]; rfl) | (rw [h29_2]; rfl) | (rw [h29_3]; rfl) | (rw [h29_4]; rfl) | (rw [h29_5]; rfl) | (rw [h29_6]; rfl) | (rw [h29_7]; rfl) | (rw [h29_8]; rfl) | (rw [h29_9]; rfl)), (by first | rfl | (rw [h29_0]; rfl) | (rw [h29_1]; rfl) | (rw [h29_2]; rfl) | (rw [h29_3]; rfl) | (rw [h29_4]; rfl) | (rw [h29_5]; rfl) | (rw [h29_6]; rfl) | (rw [h29_7]; rfl) | (rw [h29_8]; rfl) | (rw [h29_9]; rfl)), (by first | rfl | (rw [h29_0]; rfl) | (rw [h29_1]; rfl) | (rw [h29_2]; rfl) | (rw [h29_3]; rfl) | (rw [h29_4]; rfl) | (rw [h29_5]; rfl) | (rw [h29_6]; rfl) | (rw [h29_7]; rfl) | (rw [h29_8]; rfl) | (rw [h29_9]; rfl)), (by first | rfl | (rw [h29_0]; rfl) | (rw [h29_1]; rfl) | (rw [h29_2]; rfl) | (rw [h29_3]; rfl) | (rw [h29_4]; rfl) | (rw [h29_5]; rfl) | (rw [h29_6]; rfl) | (rw [h29_7]; rfl) | (rw [h29_8]; rfl) | (rw [h29_9]; rfl)), (by first | rfl | (rw [h29_0]; rfl) | (rw [h29_1]; rfl) | (rw [h29_2]; rfl) | (rw [h29_3]; rfl) | (rw [h29_4]; rfl) | (rw [h29_5]; rfl) | (rw [h29_6]; rfl) | (rw [h29_7]; rfl) | (rw [h29_8]; rfl) | (rw [h29_9]; rfl)), (by first | rfl | (rw [h29]; rfl) | (simp only [h29, Bool.true_and, Bool.false_and, Bool.true_or, Bool.false_or, cond_true, cond_false]; done)), trivial⟩
                      ·
                       try simp only [go_sem, Nat.reduceEqDiff, reduceIte, Nat.reduceAdd, Nat.reduceMul, Nat.reduceSub, Nat.reduceLT, Nat.reduceLeDiff, fx20_0, fx20_1, fx20_2, fx20_9, fx31_0, fx31_1, fx31_2, fx31_5, gm17, h29]
                       exact hK1 _ ⟨rfl, rfl, rfl, rfl, rfl, rfl, rfl, rfl, (by first | rfl | (rw [h29]; rfl) | (simp only [h29, Bool.true_and, Bool.false_and, Bool.true_or, Bool.false_or, cond_true, cond_false]; done)), trivial⟩
                     ·
                      refine xw_id ?_
                      refine xw_stop 1 (by (try simp only [go_sem]); rfl) (by (try simp only [go_sem]); rfl) (by rfl) fun K1 hK1 => ?_
                      refine xw_id ?_
                      try simp only [go_sem, Nat.reduceEqDiff, reduceIte, Nat.reduceAdd, Nat.reduceMul, Nat.reduceSub, Nat.reduceLT, Nat.reduceLeDiff, fx20_0, fx20_1, fx20_2, fx20_9, fx31_0, fx31_1, fx31_2, fx31_5, gm17]
                      refine hK1 _ ?_; clear hK1 K1
                      obtain ⟨x34, hvh30, h0⟩ := bnd h0
                      refine xw_cut 6 [(35, (vi x27.2.2)), (38, (vi x28.2.2)), (39, (.ref 2 0 x29.1.length 1)), (40, (vi x29.2)), (42, (vi x30.2)), (46, (vi x32.2.2)), (242, (vb x34))] (by (try simp only [go_sem]); rfl) (by (try simp only [go_sem]); rfl) (by rfl) (fun K1 hK1 => ?_) fun tz => ?_
                      ·
                       refine xw_id ?_
                       rcases Bool.eq_false_or_eq_true (((((((((((x3.2 == 4) && (x6.2 == 2)) && (x9.2 == 2)) && (x12.2 == 2)) && (x19.2.2 == 20)) && (x21.2.2 == 33)) && (x22.2.2 == 10)) && (x24.2.2 == 12)) && (x25.2.2 == 20)) && x26.1.HasToken) && (x26.1.Tries == 2)) with h30 | h30
                       ·
                        have hvh30 := cT hvh30 h30
                        have h30_0 : (x3.2 == 4) = true := by simp only [Bool.and_eq_true] at h30; exact h30.1.1.1.1.1.1.1.1.1.1
                        have h30_1 : (x6.2 == 2) = true := by simp only [Bool.and_eq_true] at h30; exact h30.1.1.1.1.1.1.1.1.1.2
                        have h30_2 : (x9.2 == 2) = true := by simp only [Bool.and_eq_true] at h30; exact h30.1.1.1.1.1.1.1.1.2
                        have h30_3 : (x12.2 == 2) = true := by simp only [Bool.and_eq_true] at h30; exact h30.1.1.1.1.1.1.1.2
                        have h30_4 : (x19.2.2 == 20) = true := by simp only [Bool.and_eq_true] at h30; exact h30.1.1.1.1.1.1.2
                        have h30_5 : (x21.2.2 == 33) = true := by simp only [Bool.and_eq_true] at h30; exact h30.1.1.1.1.1.2
                        have h30_6 : (x22.2.2 == 10) = true := by simp only [Bool.and_eq_true] at h30; exact h30.1.1.1.1.2
                        have h30_7 : (x24.2.2 == 12) = true := by simp only [Bool.and_eq_true] at h30; exact h30.1.1.1.2
                        have h30_8 : (x25.2.2 == 20) = true := by simp only [Bool.and_eq_true] at h30; exact h30.1.1.2
                        have h30_9 : (x26.1.HasToken) = true := by simp only [Bool.and_eq_true] at h30; exact h30.1.2
                        have h30_10 : (x26.1.Tries == 2) = true := by simp only [Bool.and_eq_true] at h30; exact h30.2
                        obtain ⟨x33, bx33, hvh30⟩ := bnd hvh30
                        obtain ⟨fx33_0, fx33_1, fx33_2, fx33_3⟩ := idx_some bx33
                        simp only [Int.reduceToNat] at fx33_2 fx33_3
                        have fx33_9 : (List.map S_vu x26.2.1)[0]? = some (S_vu x33) := by rw [List.getElem?_map, fx33_2]; rfl
                        try simp only [go_sem, Nat.reduceEqDiff, reduceIte, Nat.reduceAdd, Nat.reduceMul, Nat.reduceSub, Nat.reduceLT, Nat.reduceLeDiff, Int.reduceToNat, Int.reduceBEq, Int.reduceBNe, Int.reduceLT, Int.reduceLE, Int.reduceAdd, Int.reduceSub, Int.reduceMul, fx20_0, fx20_1, fx20_2, fx20_9, fx31_0, fx31_1, fx31_2, fx31_5, gm17, h30, h30_0, h30_1, h30_2, h30_3, h30_4, h30_5, h30_6, h30_7, h30_8, h30_9, h30_10, fx33_0, fx33_1, fx33_2, fx33_9]
                        obtain rfl := someInj hvh30
                        exact hK1 _ ⟨rfl, (by first | rfl | (rw [h30_0]; rfl) | (rw [h30_1]; rfl) | (rw [h30_2]; rfl) | (rw [h30_3]; rfl) | (rw [h30_4]; rfl) | (rw [h30_5]; rfl) | (rw [h30_6]; rfl) | (rw [h30_7]; rfl) | (rw [h30_8]; rfl) | (rw [h30_9]; rfl) | (rw [h30_10]; rfl)), (by first | rfl | (rw [h30_0]; rfl) | (rw [h30_1]; rfl) | (rw [h30_2]; rfl) | (rw [h30_3]; rfl) | (rw [h30_4]; rfl) | (rw [h30_5]; rfl) | (rw [h30_6]; rfl) | (rw [h30_7]; rfl) | (rw [h30_8]; rfl) | (rw [h30_9]; rfl) | (rw [h30_10]; rfl)), (by first | rfl | (rw [h30_0]; rfl) | (rw [h30_1]; rfl) | (rw [h30_2]; rfl) | (rw [h30_3]; rfl) | (rw [h30_4]; rfl) | (rw [h30_5]; rfl) | (rw [h30_6]; rfl) | (rw [h30_7]; rfl) | (rw [h30_8]; rfl) | (rw [h30_9]; rfl) | (rw [h30_10]; rfl)), (by first | rfl | (rw [h30_0]; rfl) | (rw [h30_1]; rfl) | (rw [h30_2]; rfl) | (rw [h30_3]; rfl) | (rw [h30_4]; rfl) | (rw [h30_5]; rfl) | (rw [h30_6]; rfl) | (rw [h30_7]; rfl) | (rw [h30_8]; rfl) | (rw [h30_9]; rfl) | (rw [h30_10]; rfl)), (by first | rfl | (rw [h30_0]; rfl) | (rw [h30_1]; rfl) | (rw [h30_2]; rfl) | (rw [h30_3]; rfl) | (rw [h30_4]; rfl) | (rw [h30_5]; rfl) | (rw [h30_6]; rfl) | (rw [h30_7]; rfl) | (rw [h30_8]; rfl) | (rw [h30_9]; rfl) | (rw [h30_10]; rfl)), (by first | rfl | (rw [h30_0]; rfl) | (rw [h30_1]; rfl) | (rw [h30_2]; rfl) | (rw [h30_3]; rfl) | (rw [h30_4]; rfl) | (rw [h30_5]; rfl) | (rw [h30_6]; rfl) | (rw [h30_7]; rfl) | (rw [h30_8]; rfl) | (rw [h30_9]; rfl) | (rw [h30_10]; rfl)), (by first | rfl | (rw [h30]; rfl) | (simp only [h30, Bool.true_and, Bool.false_and, Bool.true_or, Bool.false_or, cond_true, cond_false]; done)), trivial⟩
                       ·
                        have hvh30 := cF hvh30 h30
                        try simp only [go_sem, Nat.reduceEqDiff, reduceIte, Nat.reduceAdd, Nat.reduceMul, Nat.reduceSub, Nat.reduceLT, Nat.reduceLeDiff, fx20_0, fx20_1, fx20_2, fx20_9, fx31_0, fx31_1, fx31_2, fx31_5, gm17, h30]
                        obtain rfl := someInj hvh30
                        exact hK1 _ ⟨rfl, rfl, rfl, rfl, rfl, rfl, rfl, (by first | rfl | (rw [h30]; rfl) | (simp only [h30, Bool.true_and, Bool.false_and, Bool.true_or, Bool.false_or, cond_true, cond_false]; done)), trivial⟩
                      ·
                       refine xw_id ?_
                       refine xw_stop 1 (by (try simp only [go_sem]); rfl) (by (try simp only [go_sem]); rfl) (by rfl) fun K1 hK1 => ?_
                       refine xw_id ?_
                       try simp only [go_sem, Nat.reduceEqDiff, reduceIte, Nat.reduceAdd, Nat.reduceMul, Nat.reduceSub, Nat.reduceLT, Nat.reduceLeDiff, fx20_0, fx20_1, fx20_2, fx20_9, fx31_0, fx31_1, fx31_2, fx31_5, gm17]
                       refine hK1 _ ?_; clear hK1 K1
                       refine xw_cut 3 [(38, (vi x28.2.2)), (39, (.ref 2 0 x29.1.length 1)), (40, (vi x29.2)), (42, (vi x30.2)), (46, (vi x32.2.2)), (246, (vb (x34 && (x27.2.2 == 20))))] (by (try simp only [go_sem]); rfl) (by (try simp only [go_sem]); rfl) (by rfl) (fun K1 hK1 => ?_) fun tz => ?_
                       ·
                        refine xw_id ?_
                        rcases Bool.eq_false_or_eq_true x34 with h31 | h31
                        ·
                         try simp only [go_sem, Nat.reduceEqDiff, reduceIte, Nat.reduceAdd, Nat.reduceMul, Nat.reduceSub, Nat.reduceLT, Nat.reduceLeDiff, fx20_0, fx20_1, fx20_2, fx20_9, fx31_0, fx31_1, fx31_2, fx31_5, gm17, h31]
                         exact hK1 _ ⟨rfl, rfl, rfl, rfl, rfl, rfl, (by first | rfl | (rw [h31]; rfl) | (simp only [h31, Bool.true_and, Bool.false_and, Bool.true_or, Bool.false_or, cond_true, cond_false]; done)), trivial⟩
                        ·
                         try simp only [go_sem, Nat.reduceEqDiff, reduceIte, Nat.reduceAdd, Nat.reduceMul, Nat.reduceSub, Nat.reduceLT, Nat.reduceLeDiff, fx20_0, fx20_1, fx20_2, fx20_9, fx31_0, fx31_1, fx31_2, fx31_5, gm17, h31]
                         exact hK1 _ ⟨rfl, rfl, rfl, rfl, rfl, rfl, (by first | rfl | (rw [h31]; rfl) | (simp only [h31, Bool.true_and, Bool.false_and, Bool.true_or, Bool.false_or, cond_true, cond_false]; done)), trivial⟩
                       ·
                        refine xw_id ?_
                        refine xw_stop 1 (by (try simp only [go_sem]); rfl) (by (try simp only [go_sem]); rfl) (by rfl) fun K1 hK1 => ?_
                        refine xw_id ?_
                        try simp only [go_sem, Nat.reduceEqDiff, reduceIte, Nat.reduceAdd, Nat.reduceMul, Nat.reduceSub, Nat.reduceLT, Nat.reduceLeDiff, fx20_0, fx20_1, fx20_2, fx20_9, fx31_0, fx31_1, fx31_2, fx31_5, gm17]
                        refine hK1 _ ?_; clear hK1 K1
                        refine xw_cut 3 [(39, (.ref 2 0 x29.1.length 1)), (40, (vi x29.2)), (42, (vi x30.2)), (46, (vi x32.2.2)), (250, (vb ((x34 && (x27.2.2 == 20)) && (x28.2.2 == 2))))] (by (try simp only [go_sem]); rfl) (by (try simp only [go_sem]); rfl) (by rfl) (fun K1 hK1 => ?_) fun tz => ?_
                        ·
                         refine xw_id ?_
                         rcases Bool.eq_false_or_eq_true (x34 && (x27.2.2 == 20)) with h32 | h32
                         ·
                          have h32_0 : (x34) = true := by simp only [Bool.and_eq_true] at h32; exact h32.1
                          have h32_1 : (x27.2.2 == 20) = true := by simp only [Bool.and_eq_true] at h32; exact h32.2
                          try simp only [go_sem, Nat.reduceEqDiff, reduceIte, Nat.reduceAdd, Nat.reduceMul, Nat.reduceSub, Nat.reduceLT, Nat.reduceLeDiff, fx20_0, fx20_1, fx20_2, fx20_9, fx31_0, fx31_1, fx31_2, fx31_5, gm17, h32, h32_0, h32_1]
                          exact hK1 _ ⟨rfl, (by first | rfl | (rw [h32_0]; rfl) | (rw [h32_1]; rfl)), (by first | rfl | (rw [h32_0]; rfl) | (rw [h32_1]; rfl)), (by first | rfl | (rw [h32_0]; rfl) | (rw [h32_1]; rfl)), (by first | rfl | (rw [h32_0]; rfl) | (rw [h32_1]; rfl)), (by first | rfl | (rw [h32]; rfl) | (simp only [h32, Bool.true_and, Bool.false_and, Bool.true_or, Bool.false_or, cond_true, cond_false]; done)), trivial⟩
                         ·
                          try simp only [go_sem, Nat.reduceEqDiff, reduceIte, Nat.reduceAdd, Nat.reduceMul, Nat.reduceSub, Nat.reduceLT, Nat.reduceLeDiff, fx20_0, fx20_1, fx20_2, fx20_9, fx31_0, fx31_1, fx31_2, fx31_5, gm17, h32]
                          exact hK1 _ ⟨rfl, rfl, rfl, rfl, rfl, (by first | rfl | (rw [h32]; rfl) | (simp only [h32, Bool.true_and, Bool.false_and, Bool.true_or, Bool.false_or, cond_true, cond_false]; done)), trivial⟩
                        ·
                         refine xw_id ?_
                         try simp only [go_sem, Nat.reduceEqDiff, reduceIte, Nat.reduceAdd, Nat.reduceMul, Nat.reduceSub, Nat.reduceLT, Nat.reduceLeDiff, fx20_0, fx20_1, fx20_2, fx20_9, fx31_0, fx31_1, fx31_2, fx31_5, gm17]
                         refine hKK _ _ (Wk.refl _ _ _) ?_; clear hKK KK
                         refine awp_nr [39,40,42,46,47] (fun _ => rfl) fun tz => ?_
                         refine awp_regW fun KK hKK => ?_
                         refine xw_id ?_
                         obtain ⟨x35, bx35, h0⟩ := bnd h0
                         try simp only [go_sem, Nat.reduceEqDiff, reduceIte, Nat.reduceAdd, Nat.reduceMul, Nat.reduceSub, Nat.reduceLT, Nat.reduceLeDiff, fx20_0, fx20_1, fx20_2, fx20_9, fx31_0, fx31_1, fx31_2, fx31_5, gm17]
                         refine xcall_p (hotspotlaw29_alive_p  bx35) ?_; try dsimp only
                         try refine xw_id ?_
                         refine xw_stop 2 (by (try simp only [go_sem]); rfl) (by (try simp only [go_sem]); rfl) (by rfl) fun K1 hK1 => ?_
                         refine xw_id ?_
                         try simp only [go_sem, Nat.reduceEqDiff, reduceIte, Nat.reduceAdd, Nat.reduceMul, Nat.reduceSub, Nat.reduceLT, Nat.reduceLeDiff, fx20_0, fx20_1, fx20_2, fx20_9, fx31_0, fx31_1, fx31_2, fx31_5, gm17]
                         refine hK1 _ ?_; clear hK1 K1
                         refine xw_cut 2 [(39, (.ref 2 0 x29.1.length 1)), (40, (vi x29.2)), (42, (vi x30.2)), (46, (vi x32.2.2)), (256, (vb (x35 && ((x34 && (x27.2.2 == 20)) && (x28.2.2 == 2)))))] (by (try simp only [go_sem]); rfl) (by (try simp only [go_sem]); rfl) (by rfl) (fun K1 hK1 => ?_) fun tz => ?_
                         ·
                          refine xw_id ?_
                          rcases Bool.eq_false_or_eq_true x35 with h33 | h33
                          ·
                           try simp only [go_sem, Nat.reduceEqDiff, reduceIte, Nat.reduceAdd, Nat.reduceMul, Nat.reduceSub, Nat.reduceLT, Nat.reduceLeDiff, fx20_0, fx20_1, fx20_2, fx20_9, fx31_0, fx31_1, fx31_2, fx31_5, gm17, h33]
                           exact hK1 _ ⟨rfl, rfl, rfl, rfl, rfl, (by first | rfl | (rw [h33]; rfl) | (simp only [h33, Bool.true_and, Bool.false_and, Bool.true_or, Bool.false_or, cond_true, cond_false]; done)), trivial⟩
                          ·
                           try simp only [go_sem, Nat.reduceEqDiff, reduceIte, Nat.reduceAdd, Nat.reduceMul, Nat.reduceSub, Nat.reduceLT, Nat.reduceLeDiff, fx20_0, fx20_1, fx20_2, fx20_9, fx31_0, fx31_1, fx31_2, fx31_5, gm17, h33]
                           exact hK1 _ ⟨rfl, rfl, rfl, rfl, rfl, (by first | rfl | (rw [h33]; rfl) | (simp only [h33, Bool.true_and, Bool.false_and, Bool.true_or, Bool.false_or, cond_true, cond_false]; done)), trivial⟩
                         ·
                          refine xw_id ?_
                          refine xw_stop 1 (by (try simp only [go_sem]); rfl) (by (try simp only [go_sem]); rfl) (by rfl) fun K1 hK1 => ?_
                          refine xw_id ?_
                          try simp only [go_sem, Nat.reduceEqDiff, reduceIte, Nat.reduceAdd, Nat.reduceMul, Nat.reduceSub, Nat.reduceLT, Nat.reduceLeDiff, fx20_0, fx20_1, fx20_2, fx20_9, fx31_0, fx31_1, fx31_2, fx31_5, gm17]
                          refine hK1 _ ?_; clear hK1 K1
                          refine xw_cut 3 [(39, (.ref 2 0 x29.1.length 1)), (42, (vi x30.2)), (46, (vi x32.2.2)), (260, (vb ((x35 && ((x34 && (x27.2.2 == 20)) && (x28.2.2 == 2))) && (x29.2 == 0))))] (by (try simp only [go_sem]); rfl) (by (try simp only [go_sem]); rfl) (by rfl) (fun K1 hK1 => ?_) fun tz => ?_
                          ·
                           refine xw_id ?_
                           rcases Bool.eq_false_or_eq_true (x35 && ((x34 && (x27.2.2 == 20)) && (x28.2.2 == 2))) with h34 | h34
                           ·
                            have h34_0 : (x35) = true := by simp only [Bool.and_eq_true] at h34; exact h34.1
                            have h34_1 : (x34) = true := by simp only [Bool.and_eq_true] at h34; exact h34.2.1.1
                            have h34_2 : (x27.2.2 == 20) = true := by simp only [Bool.and_eq_true] at h34; exact h34.2.1.2
                            have h34_3 : (x28.2.2 == 2) = true := by simp only [Bool.and_eq_true] at h34; exact h34.2.2
                            try simp only [go_sem, Nat.reduceEqDiff, reduceIte, Nat.reduceAdd, Nat.reduceMul, Nat.reduceSub, Nat.reduceLT, Nat.reduceLeDiff, fx20_0, fx20_1, fx20_2, fx20_9, fx31_0, fx31_1, fx31_2, fx31_5, gm17, h34, h34_0, h34_1, h34_2, h34_3]
                            exact hK1 _ ⟨rfl, (by first | rfl | (rw [h34_0]; rfl) | (rw [h34_1]; rfl) | (rw [h34_2]; rfl) | (rw [h34_3]; rfl)), (by first | rfl | (rw [h34_0]; rfl) | (rw [h34_1]; rfl) | (rw [h34_2]; rfl) | (rw [h34_3]; rfl)), (by first | rfl | (rw [h34_0]; rfl) | (rw [h34_1]; rfl) | (rw [h34_2]; rfl) | (rw [h34_3]; rfl)), (by first | rfl | (rw [h34]; rfl) | (simp only [h34, Bool.true_and, Bool.false_and, Bool.true_or, Bool.false_or, cond_true, cond_false]; done)), trivial⟩
                           ·
                            try simp only [go_sem, Nat.reduceEqDiff, reduceIte, Nat.reduceAdd, Nat.reduceMul, Nat.reduceSub, Nat.reduceLT, Nat.reduceLeDiff, fx20_0, fx20_1, fx20_2, fx20_9, fx31_0, fx31_1, fx31_2, fx31_5, gm17, h34]
                            exact hK1 _ ⟨rfl, rfl, rfl, rfl, (by first | rfl | (rw [h34]; rfl) | (simp only [h34, Bool.true_and, Bool.false_and, Bool.true_or, Bool.false_or, cond_true, cond_false]; done)), trivial⟩
                          ·
                           refine xw_id ?_
                           rcases Bool.eq_false_or_eq_true ((x35 && ((x34 && (x27.2.2 == 20)) && (x28.2.2 == 2))) && (x29.2 == 0)) with h35 | h35
                           ·
                            have h0 := cT h0 h35
                            obtain ⟨x36, bx36, h0⟩ := bnd h0
                            try simp only [go_sem, Nat.reduceEqDiff, reduceIte, Nat.reduceAdd, Nat.reduceMul, Nat.reduceSub, Nat.reduceLT, Nat.reduceLeDiff, fx20_0, fx20_1, fx20_2, fx20_9, fx31_0, fx31_1, fx31_2, fx31_5, gm17, h35]
                            refine xcall_L (by first | (simp only [go_sem, fz, Nat.reduceEqDiff, reduceIte, Nat.reduceAdd, Nat.reduceMul, Nat.reduceSub, Nat.reduceLT, Nat.reduceLeDiff, fx20_0, fx20_1, fx20_2, fx20_9, fx31_0, fx31_1, fx31_2, fx31_5, gm17, h35]; done) | (simp only [go_sem, fz, Nat.reduceEqDiff, reduceIte, Nat.reduceAdd, Nat.reduceMul, Nat.reduceSub, Nat.reduceLT, Nat.reduceLeDiff, fx20_0, fx20_1, fx20_2, fx20_9, fx31_0, fx31_1, fx31_2, fx31_5, gm17, h35]; rfl) | (simp only [go_sem, fz, List.length_set, ble_self, take_set, cond_true, cond_false, Nat.reduceEqDiff, reduceIte, Nat.reduceAdd, Nat.reduceMul, Nat.reduceSub, Nat.reduceLT, Nat.reduceLeDiff, fx20_0, fx20_1, fx20_2, fx20_9, fx31_0, fx31_1, fx31_2, fx31_5, gm17, h35]; done) | (simp only [go_sem, fz, List.length_set, ble_self, take_set, cond_true, cond_false, Nat.reduceEqDiff, reduceIte, Nat.reduceAdd, Nat.reduceMul, Nat.reduceSub, Nat.reduceLT, Nat.reduceLeDiff, fx20_0, fx20_1, fx20_2, fx20_9, fx31_0, fx31_1, fx31_2, fx31_5, gm17, h35]; rfl)) (hotspotref22_Same_p x29.1 [5] bx36) (Bare.v _) ?_; try dsimp only
                            try refine xw_id ?_
                            refine xw_stop 2 (by (try simp only [go_sem]); rfl) (by (try simp only [go_sem]); rfl) (by rfl) fun K1 hK1 => ?_
                            refine xw_id ?_
                            try simp only [go_sem, Nat.reduceEqDiff, reduceIte, Nat.reduceAdd, Nat.reduceMul, Nat.reduceSub, Nat.reduceLT, Nat.reduceLeDiff, fx20_0, fx20_1, fx20_2, fx20_9, fx31_0, fx31_1, fx31_2, fx31_5, gm17, h35]
                            refine hK1 _ ?_; clear hK1 K1
                            refine xw_cut 3 [(46, (vi x32.2.2)), (269, (vb (x36 && (x30.2 == 12))))] (by (try simp only [go_sem]); rfl) (by (try simp only [go_sem]); rfl) (by rfl) (fun K1 hK1 => ?_) fun tz => ?_
                            ·
                             refine xw_id ?_
                             rcases Bool.eq_false_or_eq_true x36 with h36 | h36
                             ·
                              try simp only [go_sem, Nat.reduceEqDiff, reduceIte, Nat.reduceAdd, Nat.reduceMul, Nat.reduceSub, Nat.reduceLT, Nat.reduceLeDiff, fx20_0, fx20_1, fx20_2, fx20_9, fx31_0, fx31_1, fx31_2, fx31_5, gm17, h35, h36]
                              exact hK1 _ ⟨rfl, rfl, (by first | rfl | (rw [h36]; rfl) | (simp only [h36, Bool.true_and, Bool.false_and, Bool.true_or, Bool.false_or, cond_true, cond_false]; done)), trivial⟩
                             ·
                              try simp only [go_sem, Nat.reduceEqDiff, reduceIte, Nat.reduceAdd, Nat.reduceMul, Nat.reduceSub, Nat.reduceLT, Nat.reduceLeDiff, fx20_0, fx20_1, fx20_2, fx20_9, fx31_0, fx31_1, fx31_2, fx31_5, gm17, h35, h36]
                              exact hK1 _ ⟨rfl, rfl, (by first | rfl | (rw [h36]; rfl) | (simp only [h36, Bool.true_and, Bool.false_and, Bool.true_or, Bool.false_or, cond_true, cond_false]; done)), trivial⟩
                            ·
                             refine xw_id ?_
                             refine xw_stop 1 (by (try simp only [go_sem]); rfl) (by (try simp only [go_sem]); rfl) (by rfl) fun K1 hK1 => ?_
                             refine xw_id ?_
                             try simp only [go_sem, Nat.reduceEqDiff, reduceIte, Nat.reduceAdd, Nat.reduceMul, Nat.reduceSub, Nat.reduceLT, Nat.reduceLeDiff, fx20_0, fx20_1, fx20_2, fx20_9, fx31_0, fx31_1, fx31_2, fx31_5, gm17, h35]
                             refine hK1 _ ?_; clear hK1 K1
                             refine xw_cut 3 [(273, (vb ((x36 && (x30.2 == 12)) && (x32.2.2 == 33))))] (by (try simp only [go_sem]); rfl) (by (try simp only [go_sem]); rfl) (by rfl) (fun K1 hK1 => ?_) fun tz => ?_
                             ·
                              refine xw_id ?_
                              rcases Bool.eq_false_or_eq_true (x36 && (x30.2 == 12)) with h37 | h37
                              ·
                               have h37_0 : (x36) = true := by simp only [Bool.and_eq_true] at h37; exact h37.1
                               have h37_1 : (x30.2 == 12) = true := by simp only [Bool.and_eq_true] at h37; exact h37.2
                               try simp only [go_sem, Nat.reduceEqDiff, reduceIte, Nat.reduceAdd, Nat.reduceMul, Nat.reduceSub, Nat.reduceLT, Nat.reduceLeDiff, fx20_0, fx20_1, fx20_2, fx20_9, fx31_0, fx31_1, fx31_2, fx31_5, gm17, h35, h37, h37_0, h37_1]
                               exact hK1 _ ⟨rfl, (by first | rfl | (rw [h37]; rfl) | (simp only [h37, Bool.true_and, Bool.false_and, Bool.true_or, Bool.false_or, cond_true, cond_false]; done)), trivial⟩
                              ·
                               try simp only [go_sem, Nat.reduceEqDiff, reduceIte, Nat.reduceAdd, Nat.reduceMul, Nat.reduceSub, Nat.reduceLT, Nat.reduceLeDiff, fx20_0, fx20_1, fx20_2, fx20_9, fx31_0, fx31_1, fx31_2, fx31_5, gm17, h35, h37]
                               exact hK1 _ ⟨rfl, (by first | rfl | (rw [h37]; rfl) | (simp only [h37, Bool.true_and, Bool.false_and, Bool.true_or, Bool.false_or, cond_true, cond_false]; done)), trivial⟩
                             ·
                              refine xw_id ?_
                              refine xw_stop 1 (by (try simp only [go_sem]); rfl) (by (try simp only [go_sem]); rfl) (by rfl) fun K1 hK1 => ?_
                              refine xw_id ?_
                              try simp only [go_sem, Nat.reduceEqDiff, reduceIte, Nat.reduceAdd, Nat.reduceMul, Nat.reduceSub, Nat.reduceLT, Nat.reduceLeDiff, fx20_0, fx20_1, fx20_2, fx20_9, fx31_0, fx31_1, fx31_2, fx31_5, gm17, h35]
                              refine hK1 _ ?_; clear hK1 K1
                              obtain ⟨x38, hvh38, h0⟩ := bnd h0
                              refine xw_cut 4 [(278, (vb x38))] (by (try simp only [go_sem]); rfl) (by (try simp only [go_sem]); rfl) (by rfl) (fun K1 hK1 => ?_) fun tz => ?_
                              ·
                               refine xw_id ?_
                               rcases Bool.eq_false_or_eq_true ((x36 && (x30.2 == 12)) && (x32.2.2 == 33)) with h38 | h38
                               ·
                                have hvh38 := cT hvh38 h38
                                have h38_0 : (x36) = true := by simp only [Bool.and_eq_true] at h38; exact h38.1.1
                                have h38_1 : (x30.2 == 12) = true := by simp only [Bool.and_eq_true] at h38; exact h38.1.2
                                have h38_2 : (x32.2.2 == 33) = true := by simp only [Bool.and_eq_true] at h38; exact h38.2
                                obtain ⟨x37, bx37, hvh38⟩ := bnd hvh38
                                try simp only [go_sem, Nat.reduceEqDiff, reduceIte, Nat.reduceAdd, Nat.reduceMul, Nat.reduceSub, Nat.reduceLT, Nat.reduceLeDiff, fx20_0, fx20_1, fx20_2, fx20_9, fx31_0, fx31_1, fx31_2, fx31_5, gm17, h35, h38, h38_0, h38_1, h38_2]
                                refine xcall_p (auth_Check_p Auth.z bx37) ?_; try dsimp only
                                try refine xw_id ?_
                                try simp only [go_sem, Nat.reduceEqDiff, reduceIte, Nat.reduceAdd, Nat.reduceMul, Nat.reduceSub, Nat.reduceLT, Nat.reduceLeDiff, fx20_0, fx20_1, fx20_2, fx20_9, fx31_0, fx31_1, fx31_2, fx31_5, gm17, h35, h38, h38_0, h38_1, h38_2]
                                obtain rfl := someInj hvh38
                                exact hK1 _ ⟨rfl, (by first | rfl | (rw [h38]; rfl) | (simp only [h38, Bool.true_and, Bool.false_and, Bool.true_or, Bool.false_or, cond_true, cond_false]; done)), trivial⟩
                               ·
                                have hvh38 := cF hvh38 h38
                                try simp only [go_sem, Nat.reduceEqDiff, reduceIte, Nat.reduceAdd, Nat.reduceMul, Nat.reduceSub, Nat.reduceLT, Nat.reduceLeDiff, fx20_0, fx20_1, fx20_2, fx20_9, fx31_0, fx31_1, fx31_2, fx31_5, gm17, h35, h38]
                                obtain rfl := someInj hvh38
                                exact hK1 _ ⟨rfl, (by first | rfl | (rw [h38]; rfl) | (simp only [h38, Bool.true_and, Bool.false_and, Bool.true_or, Bool.false_or, cond_true, cond_false]; done)), trivial⟩
                              ·
                               refine xw_id ?_
                               try simp only [go_sem, Nat.reduceEqDiff, reduceIte, Nat.reduceAdd, Nat.reduceMul, Nat.reduceSub, Nat.reduceLT, Nat.reduceLeDiff, fx20_0, fx20_1, fx20_2, fx20_9, fx31_0, fx31_1, fx31_2, fx31_5, gm17, h35]
                               refine hKK _ _ (Wk.refl _ _ _) ?_; clear hKK KK
                               refine awp_ret1 ?_
                               obtain rfl := someInj h0
                               refine endW_i ?_
                               refine end_ret0 rs6 (rfl) ?_
                               try simp only [go_sem, Nat.reduceEqDiff, reduceIte, Nat.reduceAdd, Nat.reduceMul, Nat.reduceSub, Nat.reduceLT, Nat.reduceLeDiff, fz, nilS, packR, List.take_nil, List.take_length, List.length_map, List.length_append, cond_true, cond_false, Nat.ble_eq, ble_self]
                               all_goals first | rfl | (simp only [go_sem, Nat.reduceEqDiff, reduceIte, Nat.reduceAdd, Nat.reduceMul, Nat.reduceSub, Nat.reduceLT, Nat.reduceLeDiff, fz, nilS, packR, List.take_nil, List.take_length, List.length_map, List.length_append, cond_true, cond_false, Nat.ble_eq, ble_self, List.map_append] <;> rfl)
                           ·
                            have h0 := cF h0 h35
                            try simp only [go_sem, Nat.reduceEqDiff, reduceIte, Nat.reduceAdd, Nat.reduceMul, Nat.reduceSub, Nat.reduceLT, Nat.reduceLeDiff, fx20_0, fx20_1, fx20_2, fx20_9, fx31_0, fx31_1, fx31_2, fx31_5, gm17, h35]
                            refine hKK _ _ (Wk.refl _ _ _) ?_; clear hKK KK
                            refine awp_ret1 ?_
                            obtain rfl := someInj h0
                            refine endW_i ?_
                            refine end_ret0 rs6 (rfl) ?_
                            try simp only [go_sem, Nat.reduceEqDiff, reduceIte, Nat.reduceAdd, Nat.reduceMul, Nat.reduceSub, Nat.reduceLT, Nat.reduceLeDiff, fz, nilS, packR, List.take_nil, List.take_length, List.length_map, List.length_append, cond_true, cond_false, Nat.ble_eq, ble_self]
                            all_goals first | rfl | (simp only [go_sem, Nat.reduceEqDiff, reduceIte, Nat.reduceAdd, Nat.reduceMul, Nat.reduceSub, Nat.reduceLT, Nat.reduceLeDiff, fz, nilS, packR, List.take_nil, List.take_length, List.length_map, List.length_append, cond_true, cond_false, Nat.ble_eq, ble_self, List.map_append] <;> rfl)

end Go.AX.Z.TX
