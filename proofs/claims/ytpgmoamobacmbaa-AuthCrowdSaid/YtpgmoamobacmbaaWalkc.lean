/- A part of the proof: walks through the functions that the statement reaches. -/
import Derived.Test.YtpgmoamobacmbaaWalkb
set_option linter.unusedVariables false
set_option linter.unusedSimpArgs false

/-! (TVW hotspotlaw29 AuthCrowd) -/

set_option linter.unusedSimpArgs false
set_option linter.unusedVariables false
set_option maxHeartbeats 4000000
set_option maxRecDepth 20000
namespace Go.AX.Z.TV
open Go.AX Go.Proofs
attribute [local irreducible] awp xw xop xcall gsp ob xd xdop xcallD seqQ loopQ blkQ endQ

def hotspotlaw29_AuthCrowd_S0 (a0 : A16vu) (a1 : (List Int)) (a2 : (List Bool)) (x30 : Bool) : AS :=
 { objs := (upd (fun _ => .dead) 0 (.live (e_AuthDoor { AuthDoor.z with Secret := a0 } vnil))), next := 1, tmps := (upd (upd (upd (upd (fun _ => .unk) 1 (.imm (List.map vu a1) a1.length)) 2 (.imm (List.map vb a2) a2.length)) 7 (vb x30)) 8 (.ptr 0 0)) }

def hotspotlaw29_AuthCrowd_S2 (a0 : A16vu) (a1 : (List Int)) (a2 : (List Bool)) (x30 : Bool) : AS :=
 { objs := (upd (fun _ => .dead) 0 (.live (e_AuthDoor { AuthDoor.z with Secret := a0 } vnil))), next := 1, tmps := (upd (upd (upd (upd (upd (fun _ => .unk) 1 (.imm (List.map vu a1) a1.length)) 2 (.imm (List.map vb a2) a2.length)) 7 (vb x30)) 8 (.ptr 0 0)) 9 (.imm (List.map vu hotspotlaw29_AuthCrowd_C1) hotspotlaw29_AuthCrowd_C1.length)) }

def hotspotlaw29_AuthCrowd_S3 (x30 : Bool) (d32 : AuthDoor) : AS :=
 { objs := (upd (fun _ => .dead) 0 (.live (e_AuthDoor d32 (.imm (List.flatMap e_A6vu ((d32).Open)) ((d32).Open).length)))), next := 1, tmps := (upd (upd (fun _ => .unk) 7 (vb x30)) 8 (.ptr 0 0)) }

def hotspotlaw29_AuthCrowd_S4 (a1 : (List Int)) (a2 : (List Bool)) (x30 : Bool) (d34 : (AuthDoor × Int)) : AS :=
 { objs := (upd (fun _ => .dead) 0 (.live (e_AuthDoor d34.1 (.imm (List.flatMap e_A6vu ((d34.1).Open)) ((d34.1).Open).length)))), next := 1, tmps := (upd (upd (upd (upd (upd (upd (fun _ => .unk) 1 (.imm (List.map vu a1) a1.length)) 2 (.imm (List.map vb a2) a2.length)) 7 (vb x30)) 8 (.ptr 0 0)) 9 (.imm (List.map vu hotspotlaw29_AuthCrowd_C1) hotspotlaw29_AuthCrowd_C1.length)) 10 (vi d34.2)) }

def hotspotlaw29_AuthCrowd_S6 (a1 : (List Int)) (a2 : (List Bool)) (x30 : Bool) (d34 : (AuthDoor × Int)) (d35 : AuthDoor) : AS :=
 { objs := (upd (fun _ => .dead) 0 (.live (e_AuthDoor d35 (.imm (List.flatMap e_A6vu ((d35).Open)) ((d35).Open).length)))), next := 1, tmps := (upd (upd (upd (upd (upd (upd (fun _ => .unk) 1 (.imm (List.map vu a1) a1.length)) 2 (.imm (List.map vb a2) a2.length)) 7 (vb x30)) 8 (.ptr 0 0)) 9 (.imm (List.map vu hotspotlaw29_AuthCrowd_C1) hotspotlaw29_AuthCrowd_C1.length)) 10 (vi d34.2)) }

def hotspotlaw29_AuthCrowd_S7 (d34 : (AuthDoor × Int)) (a1 : (List Int)) (a2 : (List Bool)) (x30 : Bool) (d38 : (A6vu × Bool)) : AS :=
 { objs := (upd (upd (fun _ => .dead) 0 (.live (e_AuthDoor d34.1 (.imm (List.flatMap e_A6vu ((d34.1).Open)) ((d34.1).Open).length)))) 1 (.live (e_A6vu d38.1))), next := 2, tmps := (upd (upd (upd (upd (upd (upd (upd (upd (upd (fun _ => .unk) 1 (.imm (List.map vu a1) a1.length)) 2 (.imm (List.map vb a2) a2.length)) 7 (vb x30)) 8 (.ptr 0 0)) 9 (.imm (List.map vu hotspotlaw29_AuthCrowd_C1) hotspotlaw29_AuthCrowd_C1.length)) 10 (vi d34.2)) 11 (.ptr 1 0)) 12 (vi (((d34.1).Open).length : Int))) 13 (vb d38.2)) }

def hotspotlaw29_AuthCrowd_S8 (d34 : (AuthDoor × Int)) (a1 : (List Int)) (a2 : (List Bool)) (x30 : Bool) (d39 : (A6vu × Bool × Int)) : AS :=
 { objs := (upd (upd (fun _ => .dead) 0 (.live (e_AuthDoor d34.1 (.imm (List.flatMap e_A6vu ((d34.1).Open)) ((d34.1).Open).length)))) 1 (.live (e_A6vu d39.1))), next := 2, tmps := (upd (upd (upd (upd (upd (upd (upd (upd (upd (upd (fun _ => .unk) 1 (.imm (List.map vu a1) a1.length)) 2 (.imm (List.map vb a2) a2.length)) 7 (vb x30)) 8 (.ptr 0 0)) 9 (.imm (List.map vu hotspotlaw29_AuthCrowd_C1) hotspotlaw29_AuthCrowd_C1.length)) 10 (vi d34.2)) 11 (.ptr 1 0)) 12 (vi (((d34.1).Open).length : Int))) 13 (vb d39.2.1)) 14 (vi d39.2.2)) }

def hotspotlaw29_AuthCrowd_S10 (d34 : (AuthDoor × Int)) (a1 : (List Int)) (a2 : (List Bool)) (x30 : Bool) (x44 : Bool) : AS :=
 { objs := (upd (fun _ => .dead) 0 (.live (e_AuthDoor d34.1 (.imm (List.flatMap e_A6vu ((d34.1).Open)) ((d34.1).Open).length)))), next := 1, tmps := (upd (upd (upd (upd (upd (upd (upd (fun _ => .unk) 1 (.imm (List.map vu a1) a1.length)) 2 (.imm (List.map vb a2) a2.length)) 7 (vb x30)) 8 (.ptr 0 0)) 9 (.imm (List.map vu hotspotlaw29_AuthCrowd_C1) hotspotlaw29_AuthCrowd_C1.length)) 10 (vi d34.2)) 191 (vb x44)) }

def hotspotlaw29_AuthCrowd_S11 (d34 : (AuthDoor × Int)) (d38 : (A6vu × Bool)) (a1 : (List Int)) (a2 : (List Bool)) (x30 : Bool) (x42 : (AuthDoor × (List Int) × Int)) : AS :=
 { objs := (upd (upd (upd (fun _ => .dead) 0 (.live (e_AuthDoor d34.1 (.imm (List.flatMap e_A6vu ((d34.1).Open)) ((d34.1).Open).length)))) 1 (.live (e_A6vu d38.1))) 2 (.live (List.map vu ((List.take 17 hotspotlaw29_AuthCrowd_C1) ++ [8])))), next := 3, tmps := (upd (upd (upd (upd (upd (upd (upd (upd (upd (upd (fun _ => .unk) 1 (.imm (List.map vu a1) a1.length)) 2 (.imm (List.map vb a2) a2.length)) 7 (vb x30)) 8 (.ptr 0 0)) 9 (.imm (List.map vu hotspotlaw29_AuthCrowd_C1) hotspotlaw29_AuthCrowd_C1.length)) 10 (vi d34.2)) 11 (.ptr 1 0)) 12 (vi (((d34.1).Open).length : Int))) 16 (.imm (List.map vu x42.2.1) x42.2.1.length)) 18 (.ref 2 0 (((List.take 17 hotspotlaw29_AuthCrowd_C1) ++ [8]).length) 1)) }

def hotspotlaw29_AuthCrowd_S13 (d34 : (AuthDoor × Int)) (d38 : (A6vu × Bool)) (a1 : (List Int)) (a2 : (List Bool)) (x30 : Bool) (x42 : (AuthDoor × (List Int) × Int)) : AS :=
 { objs := (upd (upd (fun _ => .dead) 0 (.live (e_AuthDoor d34.1 (.imm (List.flatMap e_A6vu ((d34.1).Open)) ((d34.1).Open).length)))) 1 (.live (e_A6vu d38.1))), next := 2, tmps := (upd (upd (upd (upd (upd (upd (upd (upd (upd (fun _ => .unk) 1 (.imm (List.map vu a1) a1.length)) 2 (.imm (List.map vb a2) a2.length)) 7 (vb x30)) 8 (.ptr 0 0)) 9 (.imm (List.map vu hotspotlaw29_AuthCrowd_C1) hotspotlaw29_AuthCrowd_C1.length)) 10 (vi d34.2)) 11 (.ptr 1 0)) 12 (vi (((d34.1).Open).length : Int))) 18 (.imm (List.map vu (hotspotlaw29_AuthCrowd_C12 x42)) (hotspotlaw29_AuthCrowd_C12 x42).length)) }

def hotspotlaw29_AuthCrowd_S14 (d34 : (AuthDoor × Int)) (d38 : (A6vu × Bool)) (x51 : (AuthDoor × (List Int) × Int)) (a1 : (List Int)) (a2 : (List Bool)) (x30 : Bool) (x42 : (AuthDoor × (List Int) × Int)) (x52 : Int) (x53 : Int) : AS :=
 { objs := (upd (upd (upd (fun _ => .dead) 0 (.live (e_AuthDoor d34.1 (.imm (List.flatMap e_A6vu ((d34.1).Open)) ((d34.1).Open).length)))) 1 (.live (e_A6vu d38.1))) 2 (.live (e_AuthDoor x51.1 (.imm (List.flatMap e_A6vu x51.1.Open) x51.1.Open.length)))), next := 3, tmps := (upd (upd (upd (upd (upd (upd (upd (upd (upd (upd (upd (upd (upd (fun _ => .unk) 1 (.imm (List.map vu a1) a1.length)) 2 (.imm (List.map vb a2) a2.length)) 7 (vb x30)) 8 (.ptr 0 0)) 9 (.imm (List.map vu hotspotlaw29_AuthCrowd_C1) hotspotlaw29_AuthCrowd_C1.length)) 10 (vi d34.2)) 11 (.ptr 1 0)) 12 (vi (((d34.1).Open).length : Int))) 18 (.imm (List.map vu (hotspotlaw29_AuthCrowd_C12 x42)) (hotspotlaw29_AuthCrowd_C12 x42).length)) 19 (.ptr 2 0)) 20 (.imm (List.map vu x51.2.1) x51.2.1.length)) 21 (vi x51.2.2)) 22 (vb (x52 == x53))) }

theorem hotspotlaw29_AuthCrowd_p (a0 : A16vu) (a1 : (List Int)) (a2 : (List Bool)) {r : Bool} (h0 : hotspotlaw29_AuthCrowd a0 a1 a2 = some r) : SndP K 7 [(.agg (e_A16vu a0)), (S_vu a1), (S_vb a2)] (vb r) := by
 refine SndP.of_walkW hC (Clean.v _) (clean_cons (Clean.agg (e_A16vu_clean _)) (clean_cons (S_vu_clean _) (clean_cons (S_vb_clean _) clean_nil))) (show K.P.funcs[7]? = some Try.f7 from Try.func7) rfl rfl (by decide +kernel) (Nat.le_of_ble_eq_true rfl) ?_
 unfold hotspotlaw29_AuthCrowd at h0
 refine awp_nr [0,1,2] (fun _ => rfl) fun tz => ?_
 refine awp_regW fun KK hKK => ?_
 refine xw_id ?_
 try simp only [go_sem, Nat.reduceAdd]
 refine hKK _ _ (Wk.refl _ _ _) ?_; clear hKK KK
 refine awp_nr [1,2,3] (fun _ => rfl) fun tz => ?_
 refine awp_regW fun KK hKK => ?_
 refine xw_id ?_
 obtain ⟨x30, bx30, h0⟩ := bnd h0
 try simp only [go_sem, Nat.reduceAdd]
 refine xcall_p (hotspotlaw29_alive_p  bx30) ?_; try dsimp only
 try refine xw_id ?_
 try simp only [go_sem, Nat.reduceAdd]
 refine hKK _ _ (Wk.refl _ _ _) ?_; clear hKK KK
 refine awp_assoc ?_
 refine awp_nr [1,2,3,7] (fun _ => rfl) fun tz => ?_
 refine awp_regW fun KK hKK => ?_
 refine xw_id ?_
 refine xw_stop 4 (by (try simp only [go_sem]); rfl) (by (try simp only [go_sem]); rfl) (by rfl) fun K1 hK1 => ?_
 refine xw_id ?_
 try simp only [go_sem, Nat.reduceAdd]
 refine hK1 _ ?_; clear hK1 K1
 refine xw_cut 6 [(1, (.imm (List.map vu a1) a1.length)), (2, (.imm (List.map vb a2) a2.length)), (3, (.ptr 0 0)), (7, (vb x30)), (36, (vb ((decide (40 < (a1.length : Int))) || ((a2.length : Int) != (a1.length : Int)))))] (by (try simp only [go_sem]); rfl) (by (try simp only [go_sem]); rfl) (by rfl) (fun K1 hK1 => ?_) fun tz => ?_
 ·
  refine xw_id ?_
  rcases Bool.eq_false_or_eq_true (decide (40 < (a1.length : Int))) with h1 | h1
  ·
   try simp only [go_sem, Nat.reduceAdd, h1]
   exact hK1 _ ⟨rfl, rfl, rfl, rfl, rfl, (by first | rfl | (rw [h1]; rfl) | (simp only [h1, Bool.true_and, Bool.false_and, Bool.true_or, Bool.false_or, cond_true, cond_false] <;> rfl)), trivial⟩
  ·
   try simp only [go_sem, Nat.reduceAdd, h1]
   exact hK1 _ ⟨rfl, rfl, rfl, rfl, rfl, (by first | rfl | (rw [h1]; rfl) | (simp only [h1, Bool.true_and, Bool.false_and, Bool.true_or, Bool.false_or, cond_true, cond_false] <;> rfl)), trivial⟩
 ·
  refine xw_id ?_
  refine xw_stop 1 (by (try simp only [go_sem]); rfl) (by (try simp only [go_sem]); rfl) (by rfl) fun K1 hK1 => ?_
  refine xw_id ?_
  try simp only [go_sem, Nat.reduceAdd]
  refine hK1 _ ?_; clear hK1 K1
  refine xw_cut 3 [(1, (.imm (List.map vu a1) a1.length)), (2, (.imm (List.map vb a2) a2.length)), (3, (.ptr 0 0)), (7, (vb x30)), (40, (vb (((decide (40 < (a1.length : Int))) || ((a2.length : Int) != (a1.length : Int))) || (!x30))))] (by (try simp only [go_sem]); rfl) (by (try simp only [go_sem]); rfl) (by rfl) (fun K1 hK1 => ?_) fun tz => ?_
  ·
   refine xw_id ?_
   rcases Bool.eq_false_or_eq_true ((decide (40 < (a1.length : Int))) || ((a2.length : Int) != (a1.length : Int))) with h2 | h2
   ·
    try simp only [go_sem, Nat.reduceAdd, h2]
    exact hK1 _ ⟨rfl, rfl, rfl, rfl, rfl, (by first | rfl | (rw [h2]; rfl) | (simp only [h2, Bool.true_and, Bool.false_and, Bool.true_or, Bool.false_or, cond_true, cond_false] <;> rfl)), trivial⟩
   ·
    try simp only [go_sem, Nat.reduceAdd, h2]
    exact hK1 _ ⟨rfl, rfl, rfl, rfl, rfl, (by first | rfl | (rw [h2]; rfl) | (simp only [h2, Bool.true_and, Bool.false_and, Bool.true_or, Bool.false_or, cond_true, cond_false] <;> rfl)), trivial⟩
  ·
   refine xw_id ?_
   try simp only [go_sem, Nat.reduceAdd]
   refine hKK _ _ (Wk.refl _ _ _) ?_; clear hKK KK
   refine awp_cond (b := (((decide (40 < (a1.length : Int))) || ((a2.length : Int) != (a1.length : Int))) || (!x30))) rfl (fun h3 => ?_) (fun h3 => ?_)
   ·
    have h0 := cT h0 h3
    refine awp_assoc ?_
    refine awp_nr [7] (fun _ => rfl) fun tz => ?_
    refine awp_regW fun KK hKK => ?_
    refine xw_id ?_
    try simp only [go_sem, Nat.reduceAdd]
    refine hKK _ _ (Wk.refl _ _ _) ?_; clear hKK KK
    refine awp_ret ?_
    obtain rfl := someInj h0
    refine endW_i ?_
    refine end_ret0 rs7 (rfl) ?_
    try simp only [go_sem, Nat.reduceAdd, fz, nilS, packR, List.take_nil, List.take_length, List.length_map, List.length_append, cond_true, cond_false, Nat.ble_eq, ble_self]
    all_goals first | rfl | (simp only [go_sem, Nat.reduceAdd, fz, nilS, packR, List.take_nil, List.take_length, List.length_map, List.length_append, cond_true, cond_false, Nat.ble_eq, ble_self, List.map_append] <;> rfl)
   ·
    have h0 := cF h0 h3
    refine awp_skip ?_
    refine awp_nr [1,2,3,7] (fun _ => rfl) fun tz => ?_
    refine awp_regW fun KK hKK => ?_
    refine xw_id ?_
    try simp only [go_sem, Nat.reduceAdd]
    refine hKK _ (hotspotlaw29_AuthCrowd_S0 a0 a1 a2 x30) (Wk.canonD [] [] [some 20] rfl trivial rfl (tmOU 0 tmO0 rfl List.not_mem_nil rfl (e_AuthDoor_tmx (by rfl) (Tm.v _))) (tmAllU 8 (tmAllU 7 (tmAllU 2 (tmAllU 1 tmAll0 (Tm.clean (Clean.imm (vu_clean _)))) (Tm.clean (Clean.imm (vb_clean _)))) (Tm.v _)) (Tm.ptr rfl))) ?_; clear hKK KK
    unfold hotspotlaw29_AuthCrowd_S0
    refine awp_nr [1,2,7,8] (fun _ => rfl) fun tz => ?_
    refine awp_regW fun KK hKK => ?_
    refine xw_id ?_
    have gs4 : rep 18 [(vu 0)] = (List.map vu [0, 0, 0, 0, 0, 0, 0, 0, 0, 0, 0, 0, 0, 0, 0, 0, 0, 0]) := by rfl
    try simp only [go_sem, Nat.reduceAdd, gs4]
    refine hKK _ _ (Wk.refl _ _ _) ?_; clear hKK KK
    refine awp_nr [1,2,7,8,9] (fun _ => rfl) fun tz => ?_
    refine awp_regW fun KK hKK => ?_
    refine xw_id ?_
    obtain ⟨x31, bx31, h0⟩ := bnd h0
    obtain ⟨fx31_0, fx31_1, fx31_2, fx31_3⟩ := idx_some bx31
    have fx31_5 : ((0 : Int) < ((18 : Nat) : Int)) = True := by first | exact fx31_1 | (simp [List.length_modify, List.length_set]; omega)
    simp only [Int.reduceToNat] at fx31_2 fx31_3
    have gs5 : (0 + 1 ≤ [0, 0, 0, 0, 0, 0, 0, 0, 0, 0, 0, 0, 0, 0, 0, 0, 0, 0].length) = True := eq_true (by (try simp only [List.length_modify, List.length_set]); omega)
    have gm6 : ([0, 0, 0, 0, 0, 0, 0, 0, 0, 0, 0, 0, 0, 0, 0, 0, 0, 0].set 0 1)[0]? = some 1 := getSet _ fx31_2
    try simp only [go_sem, Nat.reduceAdd, fx31_0, fx31_1, fx31_2, fx31_5, gs5, gm6]
    have hc_C1 : hotspotlaw29_AuthCrowd_C1.length = 18 := by first | rfl | (unfold hotspotlaw29_AuthCrowd_C1; simp only [List.length_append, List.length_take, List.length_drop, List.length_cons, List.length_nil] <;> omega)
    have hd_C1 := hc_C1
    try simp only [List.length_append, List.length_cons, List.length_nil, Nat.zero_add] at hd_C1
    refine hKK _ (hotspotlaw29_AuthCrowd_S2 a0 a1 a2 x30) (by refine Wk.canonD [1] [] [some 0] rfl trivial rfl (tmOU 0 tmO0 rfl (by decide) rfl (e_AuthDoor_tmx (by rfl) (Tm.v _))) (tmAllU 9 (tmAllU 8 (tmAllU 7 (tmAllU 2 (tmAllU 1 tmAll0 (Tm.clean (Clean.imm (vu_clean _)))) (Tm.clean (Clean.imm (vb_clean _)))) (Tm.v _)) (Tm.ptr rfl)) (Tm.frzK ?_ (by simp) rfl (by simp only [vu_len, List.length_append, List.length_cons, List.length_nil, List.length_modify, List.length_set, Nat.zero_add, Nat.mul_one] <;> omega) (TmL.of_eq (by first | rfl | (simp only [List.flatMap_append, List.flatMap_cons, List.flatMap_nil, List.map_append, List.map_cons, List.map_nil, List.append_nil, List.nil_append] <;> rfl)) (vu_clean _)))); all_goals (first | rfl | (simp only [List.length_append, List.length_take, List.length_drop, List.length_cons, List.length_nil, List.length_modify, List.length_set, Nat.zero_add] <;> omega) | omega)) ?_; clear hKK KK
    unfold hotspotlaw29_AuthCrowd_S2
    refine awp_assoc ?_
    refine awp_nr [1,2,7,8,9] (fun _ => rfl) fun tz => ?_
    refine awp_regW fun KK hKK => ?_
    refine xw_id ?_
    try simp only [go_sem, Nat.reduceAdd, fx31_0, fx31_1, fx31_2, fx31_5, gm6]
    refine hKK _ _ (Wk.refl _ _ _) ?_; clear hKK KK
    obtain ⟨o33, hi7, h0⟩ := bnd h0
    refine awp_cut (fun d32 : AuthDoor => o33 = Ex.go d32) (fun d32 : AuthDoor => hotspotlaw29_AuthCrowd_S3 x30 d32) ?_ ?_
    ·
     refine awp_block1 ?_
     refine awp_loopS (fun n (d34 : (AuthDoor × Int)) => hotspotlaw29_AuthCrowd_L5 a1 a0 a2 n d34 = some o33) (fun d34 : (AuthDoor × Int) => hotspotlaw29_AuthCrowd_S4 a1 a2 x30 d34) big ({ AuthDoor.z with Secret := a0 }, 0) (Wk.canonD [] [] [some 0] rfl trivial rfl (tmOU 0 tmO0 rfl List.not_mem_nil rfl (e_AuthDoor_tmx (by rfl) (Tm.nil))) (tmAllU 10 (tmAllU 9 (tmAllU 8 (tmAllU 7 (tmAllU 2 (tmAllU 1 tmAll0 (Tm.clean (Clean.imm (vu_clean _)))) (Tm.clean (Clean.imm (vb_clean _)))) (Tm.v _)) (Tm.ptr rfl)) (Tm.clean (Clean.imm (vu_clean _)))) (Tm.v _))) hi7 ?_
     clear hi7
     rintro n d34 hl9
     rcases n with _ | n8
     ·
      (rw [hotspotlaw29_AuthCrowd_L5] at hl9; cases hl9)
     ·
      rw [hotspotlaw29_AuthCrowd_L5] at hl9
      unfold hotspotlaw29_AuthCrowd_S4
      refine awp_assoc ?_
      refine awp_nr [1,2,7,8,9,10] (fun _ => rfl) fun tz => ?_
      refine awp_regW fun KK hKK => ?_
      refine xw_id ?_
      try simp only [go_sem, Nat.reduceAdd]
      refine hKK _ _ (Wk.refl _ _ _) ?_; clear hKK KK
      refine awp_cond (b := (decide (d34.2 < (a1.length : Int)))) rfl (fun h10 => ?_) (fun h10 => ?_)
      ·
       have hl9 := cT hl9 h10
       refine awp_skip ?_
       obtain ⟨o36, hi11, hl9⟩ := bnd hl9
       refine awp_cut (fun d35 : AuthDoor => o36 = Ex.go d35) (fun d35 : AuthDoor => hotspotlaw29_AuthCrowd_S6 a1 a2 x30 d34 d35) ?_ ?_
       ·
        refine awp_block1 ?_
        refine awp_nr [1,2,7,8,9,10] (fun _ => rfl) fun tz => ?_
        refine awp_regW fun KK hKK => ?_
        refine xw_id ?_
        obtain ⟨x37, bx37, hi11⟩ := bnd hi11
        obtain ⟨fx37_0, fx37_1, fx37_2, fx37_3⟩ := idx_some bx37
        try simp only [go_sem, Nat.reduceAdd, fx37_0, fx37_1, fx37_2]
        refine hKK _ _ (Wk.refl _ _ _) ?_; clear hKK KK
        refine awp_nr [1,2,7,8,9,10,11] (fun _ => rfl) fun tz => ?_
        refine awp_regW fun KK hKK => ?_
        refine xw_id ?_
        try simp only [go_sem, Nat.reduceAdd, fx37_0, fx37_1, fx37_2]
        refine hKK _ _ (Wk.refl _ _ _) ?_; clear hKK KK
        refine awp_nr [1,2,7,8,9,10,11,12] (fun _ => rfl) fun tz => ?_
        refine awp_regW fun KK hKK => ?_
        refine xw_id ?_
        try simp only [go_sem, Nat.reduceAdd, fx37_0, fx37_1, fx37_2]
        refine hKK _ _ (Wk.refl _ _ _) ?_; clear hKK KK
        refine awp_assoc ?_
        refine awp_nr [1,2,7,8,9,10,11,12,13] (fun _ => rfl) fun tz => ?_
        refine awp_regW fun KK hKK => ?_
        refine xw_id ?_
        try simp only [go_sem, Nat.reduceAdd, fx37_0, fx37_1, fx37_2]
        refine hKK _ _ (Wk.refl _ _ _) ?_; clear hKK KK
        obtain ⟨d38, hi12, hi11⟩ := bnd hi11
        refine awp_cut (fun z => d38 = z) (fun d38 : (A6vu × Bool) => hotspotlaw29_AuthCrowd_S7 d34 a1 a2 x30 d38) ?_ ?_
        ·
         refine awp_block1 ?_
         refine awp_loopS (fun n (d39 : (A6vu × Bool × Int)) => hotspotlaw29_AuthCrowd_L9 d34 n d39 = some d38) (fun d39 : (A6vu × Bool × Int) => hotspotlaw29_AuthCrowd_S8 d34 a1 a2 x30 d39) big ({ A6vu.z with a0 := 2, a1 := 0, a2 := 0, a3 := 0, a4 := 1, a5 := x37 }, false, 0) (Wk.canonD [] [] [some 0, some 10] rfl trivial rfl (tmOU 1 (tmOU 0 tmO0 rfl List.not_mem_nil rfl (e_AuthDoor_tmx (by rfl) (Tm.clean (Clean.imm (c_A6vu _))))) rfl List.not_mem_nil rfl (TmL.clean (e_A6vu_clean _))) (tmAllU 14 (tmAllU 13 (tmAllU 12 (tmAllU 11 (tmAllU 10 (tmAllU 9 (tmAllU 8 (tmAllU 7 (tmAllU 2 (tmAllU 1 tmAll0 (Tm.clean (Clean.imm (vu_clean _)))) (Tm.clean (Clean.imm (vb_clean _)))) (Tm.v _)) (Tm.ptr rfl)) (Tm.clean (Clean.imm (vu_clean _)))) (Tm.v _)) (Tm.ptr rfl)) (Tm.v _)) (Tm.v _)) (Tm.v _))) hi12 ?_
         clear hi12
         rintro n d39 hl14
         rcases n with _ | n13
         ·
          (rw [hotspotlaw29_AuthCrowd_L9] at hl14; cases hl14)
         ·
          rw [hotspotlaw29_AuthCrowd_L9] at hl14
          unfold hotspotlaw29_AuthCrowd_S8
          refine awp_assoc ?_
          refine awp_nr [1,2,7,8,9,10,11,12,13,14] (fun _ => rfl) fun tz => ?_
          refine awp_regW fun KK hKK => ?_
          refine xw_id ?_
          try simp only [go_sem, Nat.reduceAdd]
          refine hKK _ _ (Wk.refl _ _ _) ?_; clear hKK KK
          refine awp_cond (b := (decide (d39.2.2 < (((d34.1).Open).length : Int)))) rfl (fun h15 => ?_) (fun h15 => ?_)
          ·
           have hl14 := cT hl14 h15
           refine awp_skip ?_
           refine awp_blockW ?_
           refine awp_nr1 [1,2,7,8,9,10,11,12,13,14] (fun _ => rfl) fun tz => ?_
           refine awp_reg1 fun KK hKK => ?_
           refine xw_id ?_
           refine xw_stop 2 (by (try simp only [go_sem]); rfl) (by (try simp only [go_sem]); rfl) (by rfl) fun K1 hK1 => ?_
           refine xw_id ?_
           try simp only [go_sem, Nat.reduceAdd]
           refine hK1 _ ?_; clear hK1 K1
           obtain ⟨x41, hvh16, hl14⟩ := bnd hl14
           refine xw_cut 8 [(1, (.imm (List.map vu a1) a1.length)), (2, (.imm (List.map vb a2) a2.length)), (7, (vb x30)), (8, (.ptr 0 0)), (9, (.imm (List.map vu hotspotlaw29_AuthCrowd_C1) hotspotlaw29_AuthCrowd_C1.length)), (10, (vi d34.2)), (11, (.ptr 1 0)), (12, (vi (((d34.1).Open).length : Int))), (13, (vb d39.2.1)), (14, (vi d39.2.2)), (75, (vb x41))] (by (try simp only [go_sem]); rfl) (by (try simp only [go_sem]); rfl) (by rfl) (fun K1 hK1 => ?_) fun tz => ?_
           ·
            refine xw_id ?_
            rcases Bool.eq_false_or_eq_true d39.2.1 with h16 | h16
            ·
             have hvh16 := cT hvh16 h16
             try simp only [go_sem, Nat.reduceAdd, h16]
             obtain rfl := someInj hvh16
             exact hK1 _ ⟨(by first | rfl | (simp only [h16]; done)), rfl, rfl, rfl, rfl, rfl, rfl, rfl, rfl, (by first | rfl | (rw [h16]; rfl) | (simp only [h16, Bool.true_and, Bool.false_and, Bool.true_or, Bool.false_or, cond_true, cond_false] <;> rfl)), rfl, (by first | rfl | (rw [h16]; rfl) | (simp only [h16, Bool.true_and, Bool.false_and, Bool.true_or, Bool.false_or, cond_true, cond_false] <;> rfl)), trivial⟩
            ·
             have hvh16 := cF hvh16 h16
             obtain ⟨x40, bx40, hvh16⟩ := bnd hvh16
             obtain ⟨fx40_0, fx40_1, fx40_2, fx40_3⟩ := idx_some bx40
             try simp only [go_sem, Nat.reduceAdd, h16, fx40_0, fx40_1, fx40_2]
             obtain rfl := someInj hvh16
             exact hK1 _ ⟨(by first | rfl | (simp only [h16]; done)), rfl, rfl, rfl, rfl, rfl, rfl, rfl, rfl, (by first | rfl | (rw [h16]; rfl) | (simp only [h16, Bool.true_and, Bool.false_and, Bool.true_or, Bool.false_or, cond_true, cond_false] <;> rfl)), rfl, (by first | rfl | (rw [h16]; rfl) | (simp only [h16, Bool.true_and, Bool.false_and, Bool.true_or, Bool.false_or, cond_true, cond_false] <;> rfl)), trivial⟩
           ·
            refine xw_id ?_
            try simp only [go_sem, Nat.reduceAdd]
            refine hKK _ ?_; clear hKK KK
            refine bq_n ?_
            refine seqW_i ?_
            refine awp_nr1 [1,2,7,8,9,10,11,12,13,14] (fun _ => rfl) fun tz => ?_
            refine awp_reg1 fun KK hKK => ?_
            refine xw_id ?_
            try simp only [go_sem, Nat.reduceAdd]
            refine hKK _ ?_; clear hKK KK
            refine lq_n ?_
            exact ⟨n13, (d39.1, x41, IntKind.wrap .i64 (d39.2.2 + 1)), rfl, hl14, (Wk.canonD [] [] [some 0, some 1] rfl trivial rfl (tmOU 1 (tmOU 0 tmO0 rfl List.not_mem_nil rfl (e_AuthDoor_tmx (by rfl) (Tm.clean (Clean.imm (c_A6vu _))))) rfl List.not_mem_nil rfl (TmL.clean (e_A6vu_clean _))) (tmAllU 14 (tmAllU 13 (tmAllU 12 (tmAllU 11 (tmAllU 10 (tmAllU 9 (tmAllU 8 (tmAllU 7 (tmAllU 2 (tmAllU 1 tmAll0 (Tm.clean (Clean.imm (vu_clean _)))) (Tm.clean (Clean.imm (vb_clean _)))) (Tm.v _)) (Tm.ptr rfl)) (Tm.clean (Clean.imm (vu_clean _)))) (Tm.v _)) (Tm.ptr rfl)) (Tm.v _)) (Tm.v _)) (Tm.v _)))⟩
          ·
           have hl14 := cF hl14 h15
           refine awp_exit ?_
           refine lq_e ?_
           refine bq_e ?_
           refine sq_n ?_
           obtain rfl := someInj hl14
           exact ⟨_, rfl, (Wk.canonD [] [] [some 0, some 1] rfl trivial rfl (tmOU 1 (tmOU 0 tmO0 rfl List.not_mem_nil rfl (e_AuthDoor_tmx (by rfl) (Tm.clean (Clean.imm (c_A6vu _))))) rfl List.not_mem_nil rfl (TmL.clean (e_A6vu_clean _))) (tmAllU 13 (tmAllU 12 (tmAllU 11 (tmAllU 10 (tmAllU 9 (tmAllU 8 (tmAllU 7 (tmAllU 2 (tmAllU 1 tmAll0 (Tm.clean (Clean.imm (vu_clean _)))) (Tm.clean (Clean.imm (vb_clean _)))) (Tm.v _)) (Tm.ptr rfl)) (Tm.clean (Clean.imm (vu_clean _)))) (Tm.v _)) (Tm.ptr rfl)) (Tm.v _)) (Tm.v _)))⟩
        ·
         rintro _ rfl
         clear hi12
         unfold hotspotlaw29_AuthCrowd_S7
         refine awp_nr [1,2,7,8,9,10,11,12,13] (fun _ => rfl) fun tz => ?_
         refine awp_regW fun KK hKK => ?_
         refine xw_id ?_
         obtain ⟨x42, bx42, hi11⟩ := bnd hi11
         try simp only [go_sem, Nat.reduceAdd]
         refine xcall_p (auth_Admit_p { d34.1 with Open := (d34.1).Open } d38.1 hotspotlaw29_AuthCrowd_C1 bx42) ?_; try dsimp only
         try refine xw_id ?_
         try simp only [go_sem, Nat.reduceAdd]
         refine hKK _ _ (Wk.refl _ _ _) ?_; clear hKK KK
         refine awp_block1 ?_
         refine awp_nr [1,2,7,8,9,10,11,12,13,15,16,17] (fun _ => rfl) fun tz => ?_
         refine awp_regW fun KK hKK => ?_
         refine xw_id ?_
         try simp only [go_sem, Nat.reduceAdd]
         refine hKK _ _ (Wk.refl _ _ _) ?_; clear hKK KK
         refine awp_cond1 (b := d38.2) rfl (fun h17 => ?_) (fun h17 => ?_)
         ·
          have hi11 := cT hi11 h17
          refine awp_nr [1,2,7,8,9,10,15,16,17] (fun _ => rfl) fun tz => ?_
          refine awp_regW fun KK hKK => ?_
          refine xw_id ?_
          refine xw_stop 3 (by (try simp only [go_sem]); rfl) (by (try simp only [go_sem]); rfl) (by rfl) fun K1 hK1 => ?_
          refine xw_id ?_
          try simp only [go_sem, Nat.reduceAdd]
          refine hK1 _ ?_; clear hK1 K1
          refine xw_cut 4 [(1, (.imm (List.map vu a1) a1.length)), (2, (.imm (List.map vb a2) a2.length)), (7, (vb x30)), (8, (.ptr 0 0)), (9, (.imm (List.map vu hotspotlaw29_AuthCrowd_C1) hotspotlaw29_AuthCrowd_C1.length)), (10, (vi d34.2)), (15, (.ptr 10 0)), (185, (vb ((x42.2.2 != 0) || ((x42.2.1.length : Int) != 0))))] (by (try simp only [go_sem]); rfl) (by (try simp only [go_sem]); rfl) (by rfl) (fun K1 hK1 => ?_) fun tz => ?_
          ·
           refine xw_id ?_
           rcases Bool.eq_false_or_eq_true (x42.2.2 != 0) with h18 | h18
           ·
            try simp only [go_sem, Nat.reduceAdd, h18]
            exact hK1 _ ⟨rfl, rfl, rfl, rfl, rfl, rfl, rfl, rfl, (by first | rfl | (rw [h18]; rfl) | (simp only [h18, Bool.true_and, Bool.false_and, Bool.true_or, Bool.false_or, cond_true, cond_false] <;> rfl)), trivial⟩
           ·
            try simp only [go_sem, Nat.reduceAdd, h18]
            exact hK1 _ ⟨rfl, rfl, rfl, rfl, rfl, rfl, rfl, rfl, (by first | rfl | (rw [h18]; rfl) | (simp only [h18, Bool.true_and, Bool.false_and, Bool.true_or, Bool.false_or, cond_true, cond_false] <;> rfl)), trivial⟩
          ·
           refine xw_id ?_
           refine xw_stop 1 (by (try simp only [go_sem]); rfl) (by (try simp only [go_sem]); rfl) (by rfl) fun K1 hK1 => ?_
           refine xw_id ?_
           try simp only [go_sem, Nat.reduceAdd]
           refine hK1 _ ?_; clear hK1 K1
           obtain ⟨x44, hvh19, hi11⟩ := bnd hi11
           refine xw_cut 5 [(1, (.imm (List.map vu a1) a1.length)), (2, (.imm (List.map vb a2) a2.length)), (7, (vb x30)), (8, (.ptr 0 0)), (9, (.imm (List.map vu hotspotlaw29_AuthCrowd_C1) hotspotlaw29_AuthCrowd_C1.length)), (10, (vi d34.2)), (191, (vb x44))] (by (try simp only [go_sem]); rfl) (by (try simp only [go_sem]); rfl) (by rfl) (fun K1 hK1 => ?_) fun tz => ?_
           ·
            refine xw_id ?_
            rcases Bool.eq_false_or_eq_true ((x42.2.2 != 0) || ((x42.2.1.length : Int) != 0)) with h19 | h19
            ·
             have hvh19 := cT hvh19 h19
             try simp only [go_sem, Nat.reduceAdd, h19]
             obtain rfl := someInj hvh19
             exact hK1 _ ⟨rfl, rfl, rfl, rfl, rfl, rfl, rfl, (by first | rfl | (rw [h19]; rfl) | (simp only [h19, Bool.true_and, Bool.false_and, Bool.true_or, Bool.false_or, cond_true, cond_false] <;> rfl)), trivial⟩
            ·
             have hvh19 := cF hvh19 h19
             obtain ⟨x43, bx43, hvh19⟩ := bnd hvh19
             try simp only [go_sem, Nat.reduceAdd, h19]
             refine xcall_p (hotspotref29_SameDoor_p x42.1 { d34.1 with Open := (d34.1).Open } bx43) ?_; try dsimp only
             try refine xw_id ?_
             try simp only [go_sem, Nat.reduceAdd, h19]
             obtain rfl := someInj hvh19
             exact hK1 _ ⟨rfl, rfl, rfl, rfl, rfl, rfl, rfl, (by first | rfl | (rw [h19]; rfl) | (simp only [h19, Bool.true_and, Bool.false_and, Bool.true_or, Bool.false_or, cond_true, cond_false] <;> rfl)), trivial⟩
           ·
            refine xw_id ?_
            try simp only [go_sem, Nat.reduceAdd]
            refine hKK _ (hotspotlaw29_AuthCrowd_S10 d34 a1 a2 x30 x44) (Wk.canonD [] [] [some 0] rfl trivial rfl (tmOU 0 tmO0 rfl List.not_mem_nil rfl (e_AuthDoor_tmx (by rfl) (Tm.clean (Clean.imm (c_A6vu _))))) (tmAllU 191 (tmAllU 10 (tmAllU 9 (tmAllU 8 (tmAllU 7 (tmAllU 2 (tmAllU 1 tmAll0 (Tm.clean (Clean.imm (vu_clean _)))) (Tm.clean (Clean.imm (vb_clean _)))) (Tm.v _)) (Tm.ptr rfl)) (Tm.clean (Clean.imm (vu_clean _)))) (Tm.v _)) (Tm.v _))) ?_; clear hKK KK
            unfold hotspotlaw29_AuthCrowd_S10
            refine awp_cond1 (b := x44) rfl (fun h20 => ?_) (fun h20 => ?_)
            ·
             have hi11 := cT hi11 h20
             refine awp_nr [] (fun _ => rfl) fun tz => ?_
             refine awp_regW fun KK hKK => ?_
             refine xw_id ?_
             try simp only [go_sem, Nat.reduceAdd]
             refine hKK _ _ (Wk.refl _ _ _) ?_; clear hKK KK
             refine awp_ret1 ?_
             refine bq_r ?_
             refine bq_r ?_
             refine sq_r ?_
             refine lq_r ?_
             refine bq_r ?_
             refine sq_r ?_
             obtain rfl := someInj hi11
             obtain rfl := Ex.kE_ret hl9
             obtain rfl := Ex.k_ret h0
             refine endW_i ?_
             refine end_ret0 rs7 (rfl) ?_
             try simp only [go_sem, Nat.reduceAdd, fz, nilS, packR, List.take_nil, List.take_length, List.length_map, List.length_append, cond_true, cond_false, Nat.ble_eq, ble_self]
             all_goals first | rfl | (simp only [go_sem, Nat.reduceAdd, fz, nilS, packR, List.take_nil, List.take_length, List.length_map, List.length_append, cond_true, cond_false, Nat.ble_eq, ble_self, List.map_append] <;> rfl)
            ·
             have hi11 := cF hi11 h20
             refine awp_skip1 ?_
             refine bq_n ?_
             refine bq_n ?_
             refine sq_n ?_
             obtain rfl := someInj hi11
             exact ⟨_, rfl, (Wk.canonD [] [] [some 0] rfl trivial rfl (tmOU 0 tmO0 rfl List.not_mem_nil rfl (e_AuthDoor_tmx (by rfl) (Tm.clean (Clean.imm (c_A6vu _))))) (tmAllU 10 (tmAllU 9 (tmAllU 8 (tmAllU 7 (tmAllU 2 (tmAllU 1 tmAll0 (Tm.clean (Clean.imm (vu_clean _)))) (Tm.clean (Clean.imm (vb_clean _)))) (Tm.v _)) (Tm.ptr rfl)) (Tm.clean (Clean.imm (vu_clean _)))) (Tm.v _)))⟩
         ·
          have hi11 := cF hi11 h17
          refine awp_nr [1,2,7,8,9,10,11,12,15,16,17] (fun _ => rfl) fun tz => ?_
          refine awp_regW fun KK hKK => ?_
          refine xw_id ?_
          try simp only [go_sem, Nat.reduceAdd]
          refine hKK _ _ (Wk.refl _ _ _) ?_; clear hKK KK
          refine awp_cond1 (b := (decide ((((d34.1).Open).length : Int) < 8))) rfl (fun h21 => ?_) (fun h21 => ?_)
          ·
           have hi11 := cT hi11 h21
           refine awp_assoc ?_
           refine awp_nr [1,2,7,8,9,10,12,15,16,17] (fun _ => rfl) fun tz => ?_
           refine awp_regW fun KK hKK => ?_
           refine xw_id ?_
           refine xw_stop 3 (by (try simp only [go_sem]); rfl) (by (try simp only [go_sem]); rfl) (by rfl) fun K1 hK1 => ?_
           refine xw_id ?_
           try simp only [go_sem, Nat.reduceAdd]
           refine hK1 _ ?_; clear hK1 K1
           refine xw_cut 4 [(1, (.imm (List.map vu a1) a1.length)), (2, (.imm (List.map vb a2) a2.length)), (7, (vb x30)), (8, (.ptr 0 0)), (9, (.imm (List.map vu hotspotlaw29_AuthCrowd_C1) hotspotlaw29_AuthCrowd_C1.length)), (10, (vi d34.2)), (12, (vi (((d34.1).Open).length : Int))), (15, (.ptr 10 0)), (201, (vb ((x42.2.2 != 0) || ((x42.2.1.length : Int) != 0))))] (by (try simp only [go_sem]); rfl) (by (try simp only [go_sem]); rfl) (by rfl) (fun K1 hK1 => ?_) fun tz => ?_
           ·
            refine xw_id ?_
            rcases Bool.eq_false_or_eq_true (x42.2.2 != 0) with h22 | h22
            ·
             try simp only [go_sem, Nat.reduceAdd, h22]
             exact hK1 _ ⟨rfl, rfl, rfl, rfl, rfl, rfl, rfl, rfl, rfl, (by first | rfl | (rw [h22]; rfl) | (simp only [h22, Bool.true_and, Bool.false_and, Bool.true_or, Bool.false_or, cond_true, cond_false] <;> rfl)), trivial⟩
            ·
             try simp only [go_sem, Nat.reduceAdd, h22]
             exact hK1 _ ⟨rfl, rfl, rfl, rfl, rfl, rfl, rfl, rfl, rfl, (by first | rfl | (rw [h22]; rfl) | (simp only [h22, Bool.true_and, Bool.false_and, Bool.true_or, Bool.false_or, cond_true, cond_false] <;> rfl)), trivial⟩
           ·
            refine xw_id ?_
            refine xw_stop 1 (by (try simp only [go_sem]); rfl) (by (try simp only [go_sem]); rfl) (by rfl) fun K1 hK1 => ?_
            refine xw_id ?_
            try simp only [go_sem, Nat.reduceAdd]
            refine hK1 _ ?_; clear hK1 K1
            refine xw_cut 7 [(1, (.imm (List.map vu a1) a1.length)), (2, (.imm (List.map vb a2) a2.length)), (7, (vb x30)), (8, (.ptr 0 0)), (9, (.imm (List.map vu hotspotlaw29_AuthCrowd_C1) hotspotlaw29_AuthCrowd_C1.length)), (10, (vi d34.2)), (15, (.ptr 10 0)), (209, (vb (((x42.2.2 != 0) || ((x42.2.1.length : Int) != 0)) || ((x42.1.Open.length : Int) != (IntKind.wrap .i64 ((((d34.1).Open).length : Int) + 1))))))] (by (try simp only [go_sem]); rfl) (by (try simp only [go_sem]); rfl) (by rfl) (fun K1 hK1 => ?_) fun tz => ?_
            ·
             refine xw_id ?_
             rcases Bool.eq_false_or_eq_true ((x42.2.2 != 0) || ((x42.2.1.length : Int) != 0)) with h23 | h23
             ·
              try simp only [go_sem, Nat.reduceAdd, h23]
              exact hK1 _ ⟨rfl, rfl, rfl, rfl, rfl, rfl, rfl, rfl, (by first | rfl | (rw [h23]; rfl) | (simp only [h23, Bool.true_and, Bool.false_and, Bool.true_or, Bool.false_or, cond_true, cond_false] <;> rfl)), trivial⟩
             ·
              try simp only [go_sem, Nat.reduceAdd, h23]
              exact hK1 _ ⟨rfl, rfl, rfl, rfl, rfl, rfl, rfl, rfl, (by first | rfl | (rw [h23]; rfl) | (simp only [h23, Bool.true_and, Bool.false_and, Bool.true_or, Bool.false_or, cond_true, cond_false] <;> rfl)), trivial⟩
            ·
             refine xw_id ?_
             try simp only [go_sem, Nat.reduceAdd]
             refine hKK _ _ (Wk.refl _ _ _) ?_; clear hKK KK
             refine awp_cond (b := (((x42.2.2 != 0) || ((x42.2.1.length : Int) != 0)) || ((x42.1.Open.length : Int) != (IntKind.wrap .i64 ((((d34.1).Open).length : Int) + 1))))) rfl (fun h24 => ?_) (fun h24 => ?_)
             ·
              have hi11 := cT hi11 h24
              refine awp_assoc ?_
              refine awp_nr [] (fun _ => rfl) fun tz => ?_
              refine awp_regW fun KK hKK => ?_
              refine xw_id ?_
              try simp only [go_sem, Nat.reduceAdd]
              refine hKK _ _ (Wk.refl _ _ _) ?_; clear hKK KK
              refine awp_ret ?_
              refine bq_r ?_
              refine bq_r ?_
              refine sq_r ?_
              refine lq_r ?_
              refine bq_r ?_
              refine sq_r ?_
              obtain rfl := someInj hi11
              obtain rfl := Ex.kE_ret hl9
              obtain rfl := Ex.k_ret h0
              refine endW_i ?_
              refine end_ret0 rs7 (rfl) ?_
              try simp only [go_sem, Nat.reduceAdd, fz, nilS, packR, List.take_nil, List.take_length, List.length_map, List.length_append, cond_true, cond_false, Nat.ble_eq, ble_self]
              all_goals first | rfl | (simp only [go_sem, Nat.reduceAdd, fz, nilS, packR, List.take_nil, List.take_length, List.length_map, List.length_append, cond_true, cond_false, Nat.ble_eq, ble_self, List.map_append] <;> rfl)
             ·
              have hi11 := cF hi11 h24
              refine awp_skip ?_
              refine awp_nr1 [1,2,7,8,9,10,15] (fun _ => rfl) fun tz => ?_
              refine awp_reg1 fun KK hKK => ?_
              refine xw_id ?_
              try simp only [go_sem, Nat.reduceAdd]
              refine hKK _ ?_; clear hKK KK
              refine bq_n ?_
              refine bq_n ?_
              refine sq_n ?_
              obtain rfl := someInj hi11
              exact ⟨_, rfl, (Wk.canonD [] [] [some 0] rfl trivial rfl (tmOU 0 tmO0 rfl List.not_mem_nil rfl (e_AuthDoor_tmx (by rfl) (Tm.clean (Clean.imm (c_A6vu _))))) (tmAllU 10 (tmAllU 9 (tmAllU 8 (tmAllU 7 (tmAllU 2 (tmAllU 1 tmAll0 (Tm.clean (Clean.imm (vu_clean _)))) (Tm.clean (Clean.imm (vb_clean _)))) (Tm.v _)) (Tm.ptr rfl)) (Tm.clean (Clean.imm (vu_clean _)))) (Tm.v _)))⟩
          ·
           have hi11 := cF hi11 h21
           refine awp_nr [1,2,7,8,9,10,11,12,15,16,17] (fun _ => rfl) fun tz => ?_
           refine awp_regW fun KK hKK => ?_
           refine xw_id ?_
           try simp only [go_sem, Nat.reduceAdd]
           refine hKK _ _ (Wk.refl _ _ _) ?_; clear hKK KK
           refine awp_cond1 (b := ((((d34.1).Open).length : Int) == 16)) rfl (fun h25 => ?_) (fun h25 => ?_)
           ·
            have hi11 := cT hi11 h25
            refine awp_nr [1,2,7,8,9,10,17] (fun _ => rfl) fun tz => ?_
            refine awp_regW fun KK hKK => ?_
            refine xw_id ?_
            try simp only [go_sem, Nat.reduceAdd]
            refine hKK _ _ (Wk.refl _ _ _) ?_; clear hKK KK
            refine awp_cond1 (b := (x42.2.2 != 22)) rfl (fun h26 => ?_) (fun h26 => ?_)
            ·
             have hi11 := cT hi11 h26
             refine awp_nr [] (fun _ => rfl) fun tz => ?_
             refine awp_regW fun KK hKK => ?_
             refine xw_id ?_
             try simp only [go_sem, Nat.reduceAdd]
             refine hKK _ _ (Wk.refl _ _ _) ?_; clear hKK KK
             refine awp_ret1 ?_
             refine bq_r ?_
             refine bq_r ?_
             refine sq_r ?_
             refine lq_r ?_
             refine bq_r ?_
             refine sq_r ?_
             obtain rfl := someInj hi11
             obtain rfl := Ex.kE_ret hl9
             obtain rfl := Ex.k_ret h0
             refine endW_i ?_
             refine end_ret0 rs7 (rfl) ?_
             try simp only [go_sem, Nat.reduceAdd, fz, nilS, packR, List.take_nil, List.take_length, List.length_map, List.length_append, cond_true, cond_false, Nat.ble_eq, ble_self]
             all_goals first | rfl | (simp only [go_sem, Nat.reduceAdd, fz, nilS, packR, List.take_nil, List.take_length, List.length_map, List.length_append, cond_true, cond_false, Nat.ble_eq, ble_self, List.map_append] <;> rfl)
            ·
             have hi11 := cF hi11 h26
             refine awp_skip1 ?_
             refine bq_n ?_
             refine bq_n ?_
             refine sq_n ?_
             obtain rfl := someInj hi11
             exact ⟨_, rfl, (Wk.canonD [] [] [some 0] rfl trivial rfl (tmOU 0 tmO0 rfl List.not_mem_nil rfl (e_AuthDoor_tmx (by rfl) (Tm.clean (Clean.imm (c_A6vu _))))) (tmAllU 10 (tmAllU 9 (tmAllU 8 (tmAllU 7 (tmAllU 2 (tmAllU 1 tmAll0 (Tm.clean (Clean.imm (vu_clean _)))) (Tm.clean (Clean.imm (vb_clean _)))) (Tm.v _)) (Tm.ptr rfl)) (Tm.clean (Clean.imm (vu_clean _)))) (Tm.v _)))⟩
           ·
            have hi11 := cF hi11 h25
            refine awp_assoc ?_
            refine awp_nr [1,2,7,8,9,10,11,12,15,16,17] (fun _ => rfl) fun tz => ?_
            refine awp_regW fun KK hKK => ?_
            refine xw_id ?_
            refine xw_stop 3 (by (try simp only [go_sem]); rfl) (by (try simp only [go_sem]); rfl) (by rfl) fun K1 hK1 => ?_
            refine xw_id ?_
            try simp only [go_sem, Nat.reduceAdd]
            refine hK1 _ ?_; clear hK1 K1
            refine xw_cut 4 [(1, (.imm (List.map vu a1) a1.length)), (2, (.imm (List.map vb a2) a2.length)), (7, (vb x30)), (8, (.ptr 0 0)), (9, (.imm (List.map vu hotspotlaw29_AuthCrowd_C1) hotspotlaw29_AuthCrowd_C1.length)), (10, (vi d34.2)), (11, (.ptr 1 0)), (12, (vi (((d34.1).Open).length : Int))), (15, (.ptr 10 0)), (16, (.imm (List.map vu x42.2.1) x42.2.1.length)), (90, (vb ((x42.2.2 != 0) || ((x42.2.1.length : Int) != 9))))] (by (try simp only [go_sem]); rfl) (by (try simp only [go_sem]); rfl) (by rfl) (fun K1 hK1 => ?_) fun tz => ?_
            ·
             refine xw_id ?_
             rcases Bool.eq_false_or_eq_true (x42.2.2 != 0) with h27 | h27
             ·
              try simp only [go_sem, Nat.reduceAdd, h27]
              exact hK1 _ ⟨rfl, rfl, rfl, rfl, rfl, rfl, rfl, rfl, rfl, rfl, rfl, (by first | rfl | (rw [h27]; rfl) | (simp only [h27, Bool.true_and, Bool.false_and, Bool.true_or, Bool.false_or, cond_true, cond_false] <;> rfl)), trivial⟩
             ·
              try simp only [go_sem, Nat.reduceAdd, h27]
              exact hK1 _ ⟨rfl, rfl, rfl, rfl, rfl, rfl, rfl, rfl, rfl, rfl, rfl, (by first | rfl | (rw [h27]; rfl) | (simp only [h27, Bool.true_and, Bool.false_and, Bool.true_or, Bool.false_or, cond_true, cond_false] <;> rfl)), trivial⟩
            ·
             refine xw_id ?_
             refine xw_stop 1 (by (try simp only [go_sem]); rfl) (by (try simp only [go_sem]); rfl) (by rfl) fun K1 hK1 => ?_
             refine xw_id ?_
             try simp only [go_sem, Nat.reduceAdd]
             refine hK1 _ ?_; clear hK1 K1
             refine xw_cut 6 [(1, (.imm (List.map vu a1) a1.length)), (2, (.imm (List.map vb a2) a2.length)), (7, (vb x30)), (8, (.ptr 0 0)), (9, (.imm (List.map vu hotspotlaw29_AuthCrowd_C1) hotspotlaw29_AuthCrowd_C1.length)), (10, (vi d34.2)), (11, (.ptr 1 0)), (12, (vi (((d34.1).Open).length : Int))), (16, (.imm (List.map vu x42.2.1) x42.2.1.length)), (97, (vb (((x42.2.2 != 0) || ((x42.2.1.length : Int) != 9)) || ((x42.1.Open.length : Int) != (((d34.1).Open).length : Int)))))] (by (try simp only [go_sem]); rfl) (by (try simp only [go_sem]); rfl) (by rfl) (fun K1 hK1 => ?_) fun tz => ?_
             ·
              refine xw_id ?_
              rcases Bool.eq_false_or_eq_true ((x42.2.2 != 0) || ((x42.2.1.length : Int) != 9)) with h28 | h28
              ·
               try simp only [go_sem, Nat.reduceAdd, h28]
               exact hK1 _ ⟨rfl, rfl, rfl, rfl, rfl, rfl, rfl, rfl, rfl, rfl, (by first | rfl | (rw [h28]; rfl) | (simp only [h28, Bool.true_and, Bool.false_and, Bool.true_or, Bool.false_or, cond_true, cond_false] <;> rfl)), trivial⟩
              ·
               try simp only [go_sem, Nat.reduceAdd, h28]
               exact hK1 _ ⟨rfl, rfl, rfl, rfl, rfl, rfl, rfl, rfl, rfl, rfl, (by first | rfl | (rw [h28]; rfl) | (simp only [h28, Bool.true_and, Bool.false_and, Bool.true_or, Bool.false_or, cond_true, cond_false] <;> rfl)), trivial⟩
             ·
              refine xw_id ?_
              try simp only [go_sem, Nat.reduceAdd]
              refine hKK _ _ (Wk.refl _ _ _) ?_; clear hKK KK
              refine awp_cond (b := (((x42.2.2 != 0) || ((x42.2.1.length : Int) != 9)) || ((x42.1.Open.length : Int) != (((d34.1).Open).length : Int)))) rfl (fun h29 => ?_) (fun h29 => ?_)
              ·
               have hi11 := cT hi11 h29
               refine awp_assoc ?_
               refine awp_nr [] (fun _ => rfl) fun tz => ?_
               refine awp_regW fun KK hKK => ?_
               refine xw_id ?_
               try simp only [go_sem, Nat.reduceAdd]
               refine hKK _ _ (Wk.refl _ _ _) ?_; clear hKK KK
               refine awp_ret ?_
               refine bq_r ?_
               refine bq_r ?_
               refine sq_r ?_
               refine lq_r ?_
               refine bq_r ?_
               refine sq_r ?_
               obtain rfl := someInj hi11
               obtain rfl := Ex.kE_ret hl9
               obtain rfl := Ex.k_ret h0
               refine endW_i ?_
               refine end_ret0 rs7 (rfl) ?_
               try simp only [go_sem, Nat.reduceAdd, fz, nilS, packR, List.take_nil, List.take_length, List.length_map, List.length_append, cond_true, cond_false, Nat.ble_eq, ble_self]
               all_goals first | rfl | (simp only [go_sem, Nat.reduceAdd, fz, nilS, packR, List.take_nil, List.take_length, List.length_map, List.length_append, cond_true, cond_false, Nat.ble_eq, ble_self, List.map_append] <;> rfl)
              ·
               have hi11 := cF hi11 h29
               refine awp_skip ?_
               refine awp_nr [1,2,7,8,9,10,11,12,16] (fun _ => rfl) fun tz => ?_
               refine awp_regW fun KK hKK => ?_
               refine xw_id ?_
               obtain ⟨x45, bx45, hi11⟩ := bnd hi11
               have bx45 := chk_some bx45
               simp only [Bool.and_eq_true, decide_eq_true_eq] at bx45
               have gx45_0 := bx45
               have g30 : AV.imm (List.map vu (List.take 17 hotspotlaw29_AuthCrowd_C1)) 17 = AV.imm (List.map vu (List.take 17 hotspotlaw29_AuthCrowd_C1)) (List.take 17 hotspotlaw29_AuthCrowd_C1).length := by first | rfl | (congr 1; simp only [List.length_take, List.length_drop]; omega)
               obtain ⟨x46, bx46, hi11⟩ := bnd hi11
               have bx46 := chk_some bx46
               simp only [Bool.and_eq_true, decide_eq_true_eq] at bx46
               have gx46_0 := bx46
               obtain ⟨x47, bx47, hi11⟩ := bnd hi11
               have bx47 := chk_some bx47
               simp only [Bool.and_eq_true, decide_eq_true_eq] at bx47
               have gx47_0 := bx47
               try simp only [go_sem, Nat.reduceAdd, gx45_0, g30, Int.sub_zero, gx46_0, gx47_0]
               refine hKK _ (hotspotlaw29_AuthCrowd_S11 d34 d38 a1 a2 x30 x42) (by refine Wk.canonD [] [] [some 0, some 1, some 41] rfl trivial rfl (tmOU 2 (tmOU 1 (tmOU 0 tmO0 rfl List.not_mem_nil rfl (e_AuthDoor_tmx (by rfl) (Tm.clean (Clean.imm (c_A6vu _))))) rfl List.not_mem_nil rfl (TmL.clean (e_A6vu_clean _))) rfl List.not_mem_nil rfl (TmL.of_eq (by first | rfl | (simp only [List.flatMap_append, List.flatMap_cons, List.flatMap_nil, List.map_append, List.map_cons, List.map_nil, List.append_nil, List.nil_append] <;> rfl)) (vu_clean _))) (tmAllU 18 (tmAllU 16 (tmAllU 12 (tmAllU 11 (tmAllU 10 (tmAllU 9 (tmAllU 8 (tmAllU 7 (tmAllU 2 (tmAllU 1 tmAll0 (Tm.clean (Clean.imm (vu_clean _)))) (Tm.clean (Clean.imm (vb_clean _)))) (Tm.v _)) (Tm.ptr rfl)) (Tm.clean (Clean.imm (vu_clean _)))) (Tm.v _)) (Tm.ptr rfl)) (Tm.v _)) (Tm.clean (Clean.imm (vu_clean _)))) (Tm.refL rfl ?_)); all_goals (first | rfl | (simp only [List.length_append, List.length_take, List.length_drop, List.length_cons, List.length_nil, List.length_modify, List.length_set, Nat.zero_add] <;> omega) | omega)) ?_; clear hKK KK
               unfold hotspotlaw29_AuthCrowd_S11
               refine awp_nr [1,2,7,8,9,10,11,12,16,18] (fun _ => rfl) fun tz => ?_
               refine awp_regW fun KK hKK => ?_
               refine xw_id ?_
               obtain ⟨x48, bx48, hi11⟩ := bnd hi11
               have bx48 := chk_some bx48
               simp only [Bool.and_eq_true, decide_eq_true_eq] at bx48
               have gx48_0 := bx48
               have g31 : ((x42.2.1.length : Int) - 1).toNat = (List.drop 1 x42.2.1).length := by simp only [List.length_take, List.length_drop]; omega
               try simp only [Int.sub_zero] at g31
               obtain ⟨x49, bx49, hi11⟩ := bnd hi11
               have bx49 := chk_some bx49
               simp only [Bool.and_eq_true, decide_eq_true_eq] at bx49
               have gx49_0 := bx49
               try simp only [List.cons_append, List.nil_append, List.length_append, List.length_cons, List.length_nil, Nat.zero_add, Nat.reduceAdd, Nat.add_assoc, Nat.reduceLeDiff] at gx49_0
               try simp only [go_sem, Nat.reduceAdd, gx48_0, g31, Int.sub_zero, gx49_0, List.length_append, vu_len]
               have hc_C12 : (hotspotlaw29_AuthCrowd_C12 x42).length = ((List.take 17 hotspotlaw29_AuthCrowd_C1) ++ [8]).length + (List.drop 1 x42.2.1).length := by first | rfl | (unfold hotspotlaw29_AuthCrowd_C12; simp only [List.length_append, List.length_take, List.length_drop, List.length_cons, List.length_nil] <;> omega)
               have hd_C12 := hc_C12
               try simp only [List.length_append, List.length_cons, List.length_nil, Nat.zero_add] at hd_C12
               refine hKK _ (hotspotlaw29_AuthCrowd_S13 d34 d38 a1 a2 x30 x42) (by refine Wk.canonD [6] [] [some 0, some 1] rfl trivial rfl (tmOU 1 (tmOU 0 tmO0 rfl (by decide) rfl (e_AuthDoor_tmx (by rfl) (Tm.clean (Clean.imm (c_A6vu _))))) rfl (by decide) rfl (TmL.clean (e_A6vu_clean _))) (tmAllU 18 (tmAllU 12 (tmAllU 11 (tmAllU 10 (tmAllU 9 (tmAllU 8 (tmAllU 7 (tmAllU 2 (tmAllU 1 tmAll0 (Tm.clean (Clean.imm (vu_clean _)))) (Tm.clean (Clean.imm (vb_clean _)))) (Tm.v _)) (Tm.ptr rfl)) (Tm.clean (Clean.imm (vu_clean _)))) (Tm.v _)) (Tm.ptr rfl)) (Tm.v _)) (Tm.frzK ?_ (by simp) rfl (by simp only [vu_len, List.length_append, List.length_cons, List.length_nil, List.length_modify, List.length_set, Nat.zero_add, Nat.mul_one] <;> omega) (TmL.of_eq (by first | rfl | (simp only [List.flatMap_append, List.flatMap_cons, List.flatMap_nil, List.map_append, List.map_cons, List.map_nil, List.append_nil, List.nil_append] <;> rfl)) (vu_clean _)))); all_goals (first | rfl | (simp only [List.length_append, List.length_take, List.length_drop, List.length_cons, List.length_nil, List.length_modify, List.length_set, Nat.zero_add] <;> omega) | omega)) ?_; clear hKK KK
               unfold hotspotlaw29_AuthCrowd_S13
               refine awp_nr [1,2,7,8,9,10,11,12,18] (fun _ => rfl) fun tz => ?_
               refine awp_regDW fun KK hKK all hall => ?_
               refine xd_id ?_
               try simp only [List.toList_toArray, List.map_cons, List.map_nil, List.size_toArray, List.length_cons, List.length_nil, Nat.zero_add]
               try simp only [Nat.reduceAdd]
               obtain ⟨x50, bx50, hi11⟩ := bnd hi11
               obtain ⟨fx50_0, fx50_1, fx50_2, fx50_3⟩ := idx_some bx50
               obtain ⟨x51, bx51, hi11⟩ := bnd hi11
               iterate 3 ((try simp only [go_sem, fx50_0, fx50_1, fx50_2]); try simp only [Nat.reduceAdd])
               refine xcallD_p (auth_Admit_p { d34.1 with Open := (d34.1).Open } { A6vu.z with a0 := 2, a1 := 0, a2 := 0, a3 := 0, a4 := 2, a5 := x50 } (hotspotlaw29_AuthCrowd_C12 x42) bx51) ?_; try dsimp only
               try refine xd_id ?_
               iterate 3 ((try simp only [go_sem, fx50_0, fx50_1, fx50_2]); try simp only [Nat.reduceAdd])
               refine And.intro ?_ (hKK _ _ (Wk.refl _ _ _) ?_)
               ·
                subst hall
                clear hKK KK
                first | decide +kernel | (simp [printsOk, apartP, clash, meet]; try (first | done | decide +kernel | (repeat (first | exact Or.inr (by decide +kernel) | (refine And.intro (Or.inr (by decide +kernel)) ?_)))))
               ·
                clear hKK KK hall all
                refine awp_nr [1,2,7,8,9,10,11,12,18,19,20,21] (fun _ => rfl) fun tz => ?_
                refine awp_regW fun KK hKK => ?_
                refine xw_id ?_
                obtain ⟨x52, bx52, hi11⟩ := bnd hi11
                try simp only [go_sem, Nat.reduceAdd, fx50_0, fx50_1, fx50_2]
                refine xcall_p (auth_Token_p { d34.1 with Open := (d34.1).Open } { A6vu.z with a0 := 2, a1 := 0, a2 := 0, a3 := 0, a4 := 2, a5 := x50 } bx52) ?_; try dsimp only
                try refine xw_id ?_
                obtain ⟨x53, bx53, hi11⟩ := bnd hi11
                try simp only [go_sem, Nat.reduceAdd, fx50_0, fx50_1, fx50_2]
                refine xcall_p (auth_Token_p { d34.1 with Open := (d34.1).Open } d38.1 bx53) ?_; try dsimp only
                try refine xw_id ?_
                try simp only [go_sem, Nat.reduceAdd, fx50_0, fx50_1, fx50_2]
                refine hKK _ (hotspotlaw29_AuthCrowd_S14 d34 d38 x51 a1 a2 x30 x42 x52 x53) (Wk.canonD [] [] [some 0, some 1, some 14] rfl trivial rfl (tmOU 2 (tmOU 1 (tmOU 0 tmO0 rfl List.not_mem_nil rfl (e_AuthDoor_tmx (by rfl) (Tm.clean (Clean.imm (c_A6vu _))))) rfl List.not_mem_nil rfl (TmL.clean (e_A6vu_clean _))) rfl List.not_mem_nil rfl (e_AuthDoor_tmx (by rfl) (Tm.clean (Clean.imm (c_A6vu _))))) (tmAllU 22 (tmAllU 21 (tmAllU 20 (tmAllU 19 (tmAllU 18 (tmAllU 12 (tmAllU 11 (tmAllU 10 (tmAllU 9 (tmAllU 8 (tmAllU 7 (tmAllU 2 (tmAllU 1 tmAll0 (Tm.clean (Clean.imm (vu_clean _)))) (Tm.clean (Clean.imm (vb_clean _)))) (Tm.v _)) (Tm.ptr rfl)) (Tm.clean (Clean.imm (vu_clean _)))) (Tm.v _)) (Tm.ptr rfl)) (Tm.v _)) (Tm.clean (Clean.imm (vu_clean _)))) (Tm.ptr rfl)) (Tm.clean (Clean.imm (vu_clean _)))) (Tm.v _)) (Tm.v _))) ?_; clear hKK KK
                unfold hotspotlaw29_AuthCrowd_S14
                refine awp_assoc ?_
                refine awp_nr [1,2,7,8,9,10,11,12,18,19,20,21,22] (fun _ => rfl) fun tz => ?_
                refine awp_regW fun KK hKK => ?_
                refine xw_id ?_
                refine xw_stop 3 (by (try simp only [go_sem]); rfl) (by (try simp only [go_sem]); rfl) (by rfl) fun K1 hK1 => ?_
                refine xw_id ?_
                try simp only [go_sem, Nat.reduceAdd, fx50_0, fx50_1, fx50_2]
                refine hK1 _ ?_; clear hK1 K1
                refine xw_cut 15 [(1, (.imm (List.map vu a1) a1.length)), (2, (.imm (List.map vb a2) a2.length)), (7, (vb x30)), (8, (.ptr 0 0)), (9, (.imm (List.map vu hotspotlaw29_AuthCrowd_C1) hotspotlaw29_AuthCrowd_C1.length)), (10, (vi d34.2)), (11, (.ptr 1 0)), (12, (vi (((d34.1).Open).length : Int))), (18, (.imm (List.map vu (hotspotlaw29_AuthCrowd_C12 x42)) (hotspotlaw29_AuthCrowd_C12 x42).length)), (148, (vb ((x51.2.2 != 0) || ((!(x52 == x53)) && (((x51.2.1.length : Int) != 9) || ((x51.1.Open.length : Int) != (((d34.1).Open).length : Int)))))))] (by (try simp only [go_sem]); rfl) (by (try simp only [go_sem]); rfl) (by rfl) (fun K1 hK1 => ?_) fun tz => ?_
                ·
                 refine xw_id ?_
                 rcases Bool.eq_false_or_eq_true (x51.2.2 != 0) with h32 | h32
                 ·
                  try simp only [go_sem, Nat.reduceAdd, fx50_0, fx50_1, fx50_2, h32]
                  exact hK1 _ ⟨rfl, rfl, rfl, rfl, rfl, rfl, rfl, rfl, rfl, rfl, (by first | rfl | (rw [h32]; rfl) | (simp only [h32, Bool.true_and, Bool.false_and, Bool.true_or, Bool.false_or, cond_true, cond_false] <;> rfl)), trivial⟩
                 ·
                  refine xw_stop 3 (by (try simp only [go_sem]); rfl) (by (try simp only [go_sem]); rfl) (by rfl) fun K1 hK1 => ?_
                  refine xw_id ?_
                  try simp only [go_sem, Nat.reduceAdd, fx50_0, fx50_1, fx50_2, h32]
                  refine hK1 _ ?_; clear hK1 K1
                  refine xw_cut 11 [(1, (.imm (List.map vu a1) a1.length)), (2, (.imm (List.map vb a2) a2.length)), (7, (vb x30)), (8, (.ptr 0 0)), (9, (.imm (List.map vu hotspotlaw29_AuthCrowd_C1) hotspotlaw29_AuthCrowd_C1.length)), (10, (vi d34.2)), (11, (.ptr 1 0)), (12, (vi (((d34.1).Open).length : Int))), (18, (.imm (List.map vu (hotspotlaw29_AuthCrowd_C12 x42)) (hotspotlaw29_AuthCrowd_C12 x42).length)), (133, (vb false)), (147, (vb ((!(x52 == x53)) && (((x51.2.1.length : Int) != 9) || ((x51.1.Open.length : Int) != (((d34.1).Open).length : Int))))))] (by (try simp only [go_sem]); rfl) (by (try simp only [go_sem]); rfl) (by rfl) (fun K1 hK1 => ?_) fun tz => ?_
                  ·
                   refine xw_id ?_
                   rcases Bool.eq_false_or_eq_true (!(x52 == x53)) with h33 | h33
                   ·
                    refine xw_stop 4 (by (try simp only [go_sem]); rfl) (by (try simp only [go_sem]); rfl) (by rfl) fun K1 hK1 => ?_
                    refine xw_id ?_
                    try simp only [go_sem, Nat.reduceAdd, fx50_0, fx50_1, fx50_2, h32, h33]
                    refine hK1 _ ?_; clear hK1 K1
                    refine xw_cut 6 [(1, (.imm (List.map vu a1) a1.length)), (2, (.imm (List.map vb a2) a2.length)), (7, (vb x30)), (8, (.ptr 0 0)), (9, (.imm (List.map vu hotspotlaw29_AuthCrowd_C1) hotspotlaw29_AuthCrowd_C1.length)), (10, (vi d34.2)), (11, (.ptr 1 0)), (12, (vi (((d34.1).Open).length : Int))), (18, (.imm (List.map vu (hotspotlaw29_AuthCrowd_C12 x42)) (hotspotlaw29_AuthCrowd_C12 x42).length)), (133, (vb false)), (136, (vb true)), (146, (vb (((x51.2.1.length : Int) != 9) || ((x51.1.Open.length : Int) != (((d34.1).Open).length : Int)))))] (by (try simp only [go_sem]); rfl) (by (try simp only [go_sem]); rfl) (by rfl) (fun K1 hK1 => ?_) fun tz => ?_
                    ·
                     refine xw_id ?_
                     rcases Bool.eq_false_or_eq_true ((x51.2.1.length : Int) != 9) with h34 | h34
                     ·
                      try simp only [go_sem, Nat.reduceAdd, fx50_0, fx50_1, fx50_2, h32, h33, h34]
                      exact hK1 _ ⟨rfl, rfl, rfl, rfl, rfl, rfl, rfl, rfl, rfl, rfl, rfl, rfl, (by first | rfl | (rw [h34]; rfl) | (simp only [h34, Bool.true_and, Bool.false_and, Bool.true_or, Bool.false_or, cond_true, cond_false] <;> rfl)), trivial⟩
                     ·
                      try simp only [go_sem, Nat.reduceAdd, fx50_0, fx50_1, fx50_2, h32, h33, h34]
                      exact hK1 _ ⟨rfl, rfl, rfl, rfl, rfl, rfl, rfl, rfl, rfl, rfl, rfl, rfl, (by first | rfl | (rw [h34]; rfl) | (simp only [h34, Bool.true_and, Bool.false_and, Bool.true_or, Bool.false_or, cond_true, cond_false] <;> rfl)), trivial⟩
                    ·
                     refine xw_id ?_
                     try simp only [go_sem, Nat.reduceAdd, fx50_0, fx50_1, fx50_2, h32, h33]
                     exact hK1 _ ⟨rfl, rfl, rfl, rfl, rfl, rfl, rfl, rfl, rfl, rfl, rfl, (by first | rfl | (rw [h33]; rfl) | (simp only [h33, Bool.true_and, Bool.false_and, Bool.true_or, Bool.false_or, cond_true, cond_false] <;> rfl)), trivial⟩
                   ·
                    try simp only [go_sem, Nat.reduceAdd, fx50_0, fx50_1, fx50_2, h32, h33]
                    exact hK1 _ ⟨rfl, rfl, rfl, rfl, rfl, rfl, rfl, rfl, rfl, rfl, rfl, (by first | rfl | (rw [h33]; rfl) | (simp only [h33, Bool.true_and, Bool.false_and, Bool.true_or, Bool.false_or, cond_true, cond_false] <;> rfl)), trivial⟩
                  ·
                   refine xw_id ?_
                   try simp only [go_sem, Nat.reduceAdd, fx50_0, fx50_1, fx50_2, h32]
                   exact hK1 _ ⟨rfl, rfl, rfl, rfl, rfl, rfl, rfl, rfl, rfl, rfl, (by first | rfl | (rw [h32]; rfl) | (simp only [h32, Bool.true_and, Bool.false_and, Bool.true_or, Bool.false_or, cond_true, cond_false] <;> rfl)), trivial⟩
                ·
                 refine xw_id ?_
                 try simp only [go_sem, Nat.reduceAdd, fx50_0, fx50_1, fx50_2]
                 refine hKK _ _ (Wk.refl _ _ _) ?_; clear hKK KK
                 refine awp_cond (b := ((x51.2.2 != 0) || ((!(x52 == x53)) && (((x51.2.1.length : Int) != 9) || ((x51.1.Open.length : Int) != (((d34.1).Open).length : Int)))))) rfl (fun h35 => ?_) (fun h35 => ?_)
                 ·
                  have hi11 := cT hi11 h35
                  refine awp_assoc ?_
                  refine awp_nr [] (fun _ => rfl) fun tz => ?_
                  refine awp_regW fun KK hKK => ?_
                  refine xw_id ?_
                  try simp only [go_sem, Nat.reduceAdd, fx50_0, fx50_1, fx50_2]
                  refine hKK _ _ (Wk.refl _ _ _) ?_; clear hKK KK
                  refine awp_ret ?_
                  refine bq_r ?_
                  refine bq_r ?_
                  refine sq_r ?_
                  refine lq_r ?_
                  refine bq_r ?_
                  refine sq_r ?_
                  obtain rfl := someInj hi11
                  obtain rfl := Ex.kE_ret hl9
                  obtain rfl := Ex.k_ret h0
                  refine endW_i ?_
                  refine end_ret0 rs7 (rfl) ?_
                  try simp only [go_sem, Nat.reduceAdd, fz, nilS, packR, List.take_nil, List.take_length, List.length_map, List.length_append, cond_true, cond_false, Nat.ble_eq, ble_self]
                  all_goals first | rfl | (simp only [go_sem, Nat.reduceAdd, fz, nilS, packR, List.take_nil, List.take_length, List.length_map, List.length_append, cond_true, cond_false, Nat.ble_eq, ble_self, List.map_append] <;> rfl)
                 ·
                  have hi11 := cF hi11 h35
                  refine awp_skip ?_
                  refine awp_nr [1,2,7,8,9,10,11,12,18] (fun _ => rfl) fun tz => ?_
                  refine awp_regW fun KK hKK => ?_
                  refine xw_id ?_
                  obtain ⟨x54, bx54, hi11⟩ := bnd hi11
                  obtain ⟨fx54_0, fx54_1, fx54_2, fx54_3⟩ := idx_some bx54
                  try simp only [go_sem, Nat.reduceAdd, fx50_0, fx50_1, fx50_2, fx54_0, fx54_1, fx54_2]
                  refine hKK _ _ (Wk.refl _ _ _) ?_; clear hKK KK
                  refine awp_cond1 (b := x54) rfl (fun h36 => ?_) (fun h36 => ?_)
                  ·
                   have hi11 := cT hi11 h36
                   refine awp_nr [1,2,7,8,9,10,11,12,18] (fun _ => rfl) fun tz => ?_
                   refine awp_regW fun KK hKK => ?_
                   refine xw_id ?_
                   obtain ⟨x55, bx55, hi11⟩ := bnd hi11
                   try simp only [go_sem, Nat.reduceAdd, fx50_0, fx50_1, fx50_2, fx54_0, fx54_1, fx54_2]
                   refine xcall_p (auth_Admit_p { d34.1 with Open := (d34.1).Open } d38.1 (hotspotlaw29_AuthCrowd_C12 x42) bx55) ?_; try dsimp only
                   try refine xw_id ?_
                   try simp only [go_sem, Nat.reduceAdd, fx50_0, fx50_1, fx50_2, fx54_0, fx54_1, fx54_2]
                   refine hKK _ _ (Wk.refl _ _ _) ?_; clear hKK KK
                   refine awp_assoc ?_
                   refine awp_nr [1,2,7,8,9,10,12,23,24,25] (fun _ => rfl) fun tz => ?_
                   refine awp_regW fun KK hKK => ?_
                   refine xw_id ?_
                   refine xw_stop 3 (by (try simp only [go_sem]); rfl) (by (try simp only [go_sem]); rfl) (by rfl) fun K1 hK1 => ?_
                   refine xw_id ?_
                   try simp only [go_sem, Nat.reduceAdd, fx50_0, fx50_1, fx50_2, fx54_0, fx54_1, fx54_2]
                   refine hK1 _ ?_; clear hK1 K1
                   refine xw_cut 4 [(1, (.imm (List.map vu a1) a1.length)), (2, (.imm (List.map vb a2) a2.length)), (7, (vb x30)), (8, (.ptr 0 0)), (9, (.imm (List.map vu hotspotlaw29_AuthCrowd_C1) hotspotlaw29_AuthCrowd_C1.length)), (10, (vi d34.2)), (12, (vi (((d34.1).Open).length : Int))), (23, (.ptr 33 0)), (167, (vb ((x55.2.2 != 0) || ((x55.2.1.length : Int) != 0))))] (by (try simp only [go_sem]); rfl) (by (try simp only [go_sem]); rfl) (by rfl) (fun K1 hK1 => ?_) fun tz => ?_
                   ·
                    refine xw_id ?_
                    rcases Bool.eq_false_or_eq_true (x55.2.2 != 0) with h37 | h37
                    ·
                     try simp only [go_sem, Nat.reduceAdd, fx50_0, fx50_1, fx50_2, fx54_0, fx54_1, fx54_2, h37]
                     exact hK1 _ ⟨rfl, rfl, rfl, rfl, rfl, rfl, rfl, rfl, rfl, (by first | rfl | (rw [h37]; rfl) | (simp only [h37, Bool.true_and, Bool.false_and, Bool.true_or, Bool.false_or, cond_true, cond_false] <;> rfl)), trivial⟩
                    ·
                     try simp only [go_sem, Nat.reduceAdd, fx50_0, fx50_1, fx50_2, fx54_0, fx54_1, fx54_2, h37]
                     exact hK1 _ ⟨rfl, rfl, rfl, rfl, rfl, rfl, rfl, rfl, rfl, (by first | rfl | (rw [h37]; rfl) | (simp only [h37, Bool.true_and, Bool.false_and, Bool.true_or, Bool.false_or, cond_true, cond_false] <;> rfl)), trivial⟩
                   ·
                    refine xw_id ?_
                    refine xw_stop 1 (by (try simp only [go_sem]); rfl) (by (try simp only [go_sem]); rfl) (by rfl) fun K1 hK1 => ?_
                    refine xw_id ?_
                    try simp only [go_sem, Nat.reduceAdd, fx50_0, fx50_1, fx50_2, fx54_0, fx54_1, fx54_2]
                    refine hK1 _ ?_; clear hK1 K1
                    refine xw_cut 7 [(1, (.imm (List.map vu a1) a1.length)), (2, (.imm (List.map vb a2) a2.length)), (7, (vb x30)), (8, (.ptr 0 0)), (9, (.imm (List.map vu hotspotlaw29_AuthCrowd_C1) hotspotlaw29_AuthCrowd_C1.length)), (10, (vi d34.2)), (23, (.ptr 33 0)), (175, (vb (((x55.2.2 != 0) || ((x55.2.1.length : Int) != 0)) || ((x55.1.Open.length : Int) != (IntKind.wrap .i64 ((((d34.1).Open).length : Int) + 1))))))] (by (try simp only [go_sem]); rfl) (by (try simp only [go_sem]); rfl) (by rfl) (fun K1 hK1 => ?_) fun tz => ?_
                    ·
                     refine xw_id ?_
                     rcases Bool.eq_false_or_eq_true ((x55.2.2 != 0) || ((x55.2.1.length : Int) != 0)) with h38 | h38
                     ·
                      try simp only [go_sem, Nat.reduceAdd, fx50_0, fx50_1, fx50_2, fx54_0, fx54_1, fx54_2, h38]
                      exact hK1 _ ⟨rfl, rfl, rfl, rfl, rfl, rfl, rfl, rfl, (by first | rfl | (rw [h38]; rfl) | (simp only [h38, Bool.true_and, Bool.false_and, Bool.true_or, Bool.false_or, cond_true, cond_false] <;> rfl)), trivial⟩
                     ·
                      try simp only [go_sem, Nat.reduceAdd, fx50_0, fx50_1, fx50_2, fx54_0, fx54_1, fx54_2, h38]
                      exact hK1 _ ⟨rfl, rfl, rfl, rfl, rfl, rfl, rfl, rfl, (by first | rfl | (rw [h38]; rfl) | (simp only [h38, Bool.true_and, Bool.false_and, Bool.true_or, Bool.false_or, cond_true, cond_false] <;> rfl)), trivial⟩
                    ·
                     refine xw_id ?_
                     try simp only [go_sem, Nat.reduceAdd, fx50_0, fx50_1, fx50_2, fx54_0, fx54_1, fx54_2]
                     refine hKK _ _ (Wk.refl _ _ _) ?_; clear hKK KK
                     refine awp_cond (b := (((x55.2.2 != 0) || ((x55.2.1.length : Int) != 0)) || ((x55.1.Open.length : Int) != (IntKind.wrap .i64 ((((d34.1).Open).length : Int) + 1))))) rfl (fun h39 => ?_) (fun h39 => ?_)
                     ·
                      have hi11 := cT hi11 h39
                      refine awp_assoc ?_
                      refine awp_nr [] (fun _ => rfl) fun tz => ?_
                      refine awp_regW fun KK hKK => ?_
                      refine xw_id ?_
                      try simp only [go_sem, Nat.reduceAdd, fx50_0, fx50_1, fx50_2, fx54_0, fx54_1, fx54_2]
                      refine hKK _ _ (Wk.refl _ _ _) ?_; clear hKK KK
                      refine awp_ret ?_
                      refine bq_r ?_
                      refine bq_r ?_
                      refine sq_r ?_
                      refine lq_r ?_
                      refine bq_r ?_
                      refine sq_r ?_
                      obtain rfl := someInj hi11
                      obtain rfl := Ex.kE_ret hl9
                      obtain rfl := Ex.k_ret h0
                      refine endW_i ?_
                      refine end_ret0 rs7 (rfl) ?_
                      try simp only [go_sem, Nat.reduceAdd, fz, nilS, packR, List.take_nil, List.take_length, List.length_map, List.length_append, cond_true, cond_false, Nat.ble_eq, ble_self]
                      all_goals first | rfl | (simp only [go_sem, Nat.reduceAdd, fz, nilS, packR, List.take_nil, List.take_length, List.length_map, List.length_append, cond_true, cond_false, Nat.ble_eq, ble_self, List.map_append] <;> rfl)
                     ·
                      have hi11 := cF hi11 h39
                      refine awp_skip ?_
                      refine awp_nr1 [1,2,7,8,9,10,23] (fun _ => rfl) fun tz => ?_
                      refine awp_reg1 fun KK hKK => ?_
                      refine xw_id ?_
                      try simp only [go_sem, Nat.reduceAdd, fx50_0, fx50_1, fx50_2, fx54_0, fx54_1, fx54_2]
                      refine hKK _ ?_; clear hKK KK
                      refine bq_n ?_
                      refine bq_n ?_
                      refine sq_n ?_
                      obtain rfl := someInj hi11
                      exact ⟨_, rfl, (Wk.canonD [] [] [some 0] rfl trivial rfl (tmOU 0 tmO0 rfl List.not_mem_nil rfl (e_AuthDoor_tmx (by rfl) (Tm.clean (Clean.imm (c_A6vu _))))) (tmAllU 10 (tmAllU 9 (tmAllU 8 (tmAllU 7 (tmAllU 2 (tmAllU 1 tmAll0 (Tm.clean (Clean.imm (vu_clean _)))) (Tm.clean (Clean.imm (vb_clean _)))) (Tm.v _)) (Tm.ptr rfl)) (Tm.clean (Clean.imm (vu_clean _)))) (Tm.v _)))⟩
                  ·
                   have hi11 := cF hi11 h36
                   refine awp_skip1 ?_
                   refine bq_n ?_
                   refine bq_n ?_
                   refine sq_n ?_
                   obtain rfl := someInj hi11
                   exact ⟨_, rfl, (Wk.canonD [] [] [some 0] rfl trivial rfl (tmOU 0 tmO0 rfl List.not_mem_nil rfl (e_AuthDoor_tmx (by rfl) (Tm.clean (Clean.imm (c_A6vu _))))) (tmAllU 10 (tmAllU 9 (tmAllU 8 (tmAllU 7 (tmAllU 2 (tmAllU 1 tmAll0 (Tm.clean (Clean.imm (vu_clean _)))) (Tm.clean (Clean.imm (vb_clean _)))) (Tm.v _)) (Tm.ptr rfl)) (Tm.clean (Clean.imm (vu_clean _)))) (Tm.v _)))⟩
       ·
        rintro d35 rfl
        have hl9 := Ex.kE_go hl9
        clear hi11
        unfold hotspotlaw29_AuthCrowd_S6
        refine awp_nr1 [1,2,7,8,9,10] (fun _ => rfl) fun tz => ?_
        refine awp_reg1 fun KK hKK => ?_
        refine xw_id ?_
        try simp only [go_sem, Nat.reduceAdd]
        refine hKK _ ?_; clear hKK KK
        refine lq_n ?_
        exact ⟨n8, ({ d35 with Open := (d35).Open }, IntKind.wrap .i64 (d34.2 + 1)), rfl, hl9, (Wk.canonD [] [] [some 0] rfl trivial rfl (tmOU 0 tmO0 rfl List.not_mem_nil rfl (e_AuthDoor_tmx (by rfl) (Tm.clean (Clean.imm (c_A6vu _))))) (tmAllU 10 (tmAllU 9 (tmAllU 8 (tmAllU 7 (tmAllU 2 (tmAllU 1 tmAll0 (Tm.clean (Clean.imm (vu_clean _)))) (Tm.clean (Clean.imm (vb_clean _)))) (Tm.v _)) (Tm.ptr rfl)) (Tm.clean (Clean.imm (vu_clean _)))) (Tm.v _)))⟩
      ·
       have hl9 := cF hl9 h10
       refine awp_exit ?_
       refine lq_e ?_
       refine bq_e ?_
       refine sq_n ?_
       obtain rfl := someInj hl9
       exact ⟨_, rfl, (Wk.canonD [] [] [some 0] rfl trivial rfl (tmOU 0 tmO0 rfl List.not_mem_nil rfl (e_AuthDoor_tmx (by rfl) (Tm.clean (Clean.imm (c_A6vu _))))) (tmAllU 8 (tmAllU 7 tmAll0 (Tm.v _)) (Tm.ptr rfl)))⟩
    ·
     rintro d32 rfl
     have h0 := Ex.k_go h0
     clear hi7
     unfold hotspotlaw29_AuthCrowd_S3
     refine awp_nr [7,8] (fun _ => rfl) fun tz => ?_
     refine awp_regW fun KK hKK => ?_
     refine xw_id ?_
     refine xw_stop 2 (by (try simp only [go_sem]); rfl) (by (try simp only [go_sem]); rfl) (by rfl) fun K1 hK1 => ?_
     refine xw_id ?_
     try simp only [go_sem, Nat.reduceAdd]
     refine hK1 _ ?_; clear hK1 K1
     obtain ⟨x57, hvh40, h0⟩ := bnd h0
     refine xw_cut 4 [(221, (vb x57))] (by (try simp only [go_sem]); rfl) (by (try simp only [go_sem]); rfl) (by rfl) (fun K1 hK1 => ?_) fun tz => ?_
     ·
      refine xw_id ?_
      rcases Bool.eq_false_or_eq_true x30 with h40 | h40
      ·
       have hvh40 := cT hvh40 h40
       obtain ⟨x56, bx56, hvh40⟩ := bnd hvh40
       try simp only [go_sem, Nat.reduceAdd, h40]
       refine xcall_p (auth_CheckDoor_p { d32 with Open := (d32).Open } bx56) ?_; try dsimp only
       try refine xw_id ?_
       try simp only [go_sem, Nat.reduceAdd, h40]
       obtain rfl := someInj hvh40
       exact hK1 _ ⟨rfl, (by first | rfl | (rw [h40]; rfl) | (simp only [h40, Bool.true_and, Bool.false_and, Bool.true_or, Bool.false_or, cond_true, cond_false] <;> rfl)), trivial⟩
      ·
       have hvh40 := cF hvh40 h40
       try simp only [go_sem, Nat.reduceAdd, h40]
       obtain rfl := someInj hvh40
       exact hK1 _ ⟨rfl, (by first | rfl | (rw [h40]; rfl) | (simp only [h40, Bool.true_and, Bool.false_and, Bool.true_or, Bool.false_or, cond_true, cond_false] <;> rfl)), trivial⟩
     ·
      refine xw_id ?_
      try simp only [go_sem, Nat.reduceAdd]
      refine hKK _ _ (Wk.refl _ _ _) ?_; clear hKK KK
      refine awp_ret1 ?_
      obtain rfl := someInj h0
      refine endW_i ?_
      refine end_ret0 rs7 (rfl) ?_
      try simp only [go_sem, Nat.reduceAdd, fz, nilS, packR, List.take_nil, List.take_length, List.length_map, List.length_append, cond_true, cond_false, Nat.ble_eq, ble_self]
      all_goals first | rfl | (simp only [go_sem, Nat.reduceAdd, fz, nilS, packR, List.take_nil, List.take_length, List.length_map, List.length_append, cond_true, cond_false, Nat.ble_eq, ble_self, List.map_append] <;> rfl)

end Go.AX.Z.TV
