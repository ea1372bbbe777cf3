/- A part of the proof: walks through the functions that the statement reaches. -/
import Derived.Test.YtlnpmlkhbnjgnaaPrea
set_option linter.unusedVariables false
set_option linter.unusedSimpArgs false

/-! (TMW rate Count run0) -/

set_option linter.unusedSimpArgs false
set_option linter.unusedVariables false
set_option maxHeartbeats 4000000
namespace Go.AX.Z.TM
open Go.AX Go.Proofs
attribute [local irreducible] awp xw xop xcall gsp ob xd xdop xcallD seqQ loopQ blkQ endQ

theorem rate_Count_run0 : ranX K 60 35 [] = some (vi 12) := by kernel_rfl

end Go.AX.Z.TM

/-! (TMW rate Count) -/

set_option linter.unusedSimpArgs false
set_option linter.unusedVariables false
set_option maxHeartbeats 4000000
namespace Go.AX.Z.TM
open Go.AX Go.Proofs
attribute [local irreducible] awp xw xop xcall gsp ob xd xdop xcallD seqQ loopQ blkQ endQ

theorem rate_Count_p {r : Int} (h0 : rate_Count = some r) : SndP K 35 [] (vi r) := by
 unfold rate_Count at h0
 rcases Bool.eq_false_or_eq_true (true) with k0 | k0
 ·
  have h0 := cT h0 k0
  cases h0
  exact SndP.of_run hC rfl rfl rate_Count_run0
 have h0 := cF h0 k0
 cases h0

end Go.AX.Z.TM

/-! (TMW metric valid) -/

set_option linter.unusedSimpArgs false
set_option linter.unusedVariables false
set_option maxHeartbeats 4000000
namespace Go.AX.Z.TM
open Go.AX Go.Proofs
attribute [local irreducible] awp xw xop xcall gsp ob xd xdop xcallD seqQ loopQ blkQ endQ


theorem metric_valid_p (a0 : MetricLink) {r : Bool} (h0 : metric_valid a0 = some r) : SndP K 32 [(.agg (e_MetricLink a0))] (vb r) := by
 refine SndP.of_walkW hC (Clean.v _) (clean_cons (Clean.agg (e_MetricLink_clean _)) clean_nil) (show K.P.funcs[32]? = some Try.f32 from Try.func32) rfl rfl (by decide +kernel) (Nat.le_of_ble_eq_true rfl) ?_
 unfold metric_valid at h0
 refine awp_nr [0] (fun _ => rfl) fun tz => ?_
 refine awp_regW fun KK hKK => ?_
 refine xw_id ?_
 try simp only [go_sem, Nat.reduceEqDiff, reduceIte, Nat.reduceAdd, Nat.reduceMul, Nat.reduceSub, Nat.reduceLT, Nat.reduceLeDiff]
 refine hKK _ _ (Wk.refl _ _ _) ?_; clear hKK KK
 refine awp_nr [1] (fun _ => rfl) fun tz => ?_
 refine awp_regW fun KK hKK => ?_
 refine xw_id ?_
 refine xw_stop 4 (by (try simp only [go_sem]); rfl) (by (try simp only [go_sem]); rfl) (by rfl) fun K1 hK1 => ?_
 refine xw_id ?_
 try simp only [go_sem, Nat.reduceEqDiff, reduceIte, Nat.reduceAdd, Nat.reduceMul, Nat.reduceSub, Nat.reduceLT, Nat.reduceLeDiff]
 refine hK1 _ ?_; clear hK1 K1
 obtain ⟨x12, hvh1, h0⟩ := bnd h0
 refine xw_cut 5 [(1, (.ptr 0 0)), (11, (vb x12))] (by (try simp only [go_sem]); rfl) (by (try simp only [go_sem]); rfl) (by rfl) (fun K1 hK1 => ?_) fun tz => ?_
 ·
  refine xw_id ?_
  rcases Bool.eq_false_or_eq_true (decide (0 ≤ a0.Rate)) with h1 | h1
  ·
   have hvh1 := cT hvh1 h1
   obtain ⟨x11, bx11, hvh1⟩ := bnd hvh1
   try simp only [go_sem, Nat.reduceEqDiff, reduceIte, Nat.reduceAdd, Nat.reduceMul, Nat.reduceSub, Nat.reduceLT, Nat.reduceLeDiff, h1]
   refine xcall_p (rate_Count_p  bx11) ?_; try dsimp only
   try refine xw_id ?_
   try simp only [go_sem, Nat.reduceEqDiff, reduceIte, Nat.reduceAdd, Nat.reduceMul, Nat.reduceSub, Nat.reduceLT, Nat.reduceLeDiff, h1]
   obtain rfl := someInj hvh1
   exact hK1 _ ⟨rfl, rfl, (by first | rfl | (rw [h1]; rfl) | (simp only [h1, Bool.true_and, Bool.false_and, Bool.true_or, Bool.false_or, cond_true, cond_false]; done)), trivial⟩
  ·
   have hvh1 := cF hvh1 h1
   try simp only [go_sem, Nat.reduceEqDiff, reduceIte, Nat.reduceAdd, Nat.reduceMul, Nat.reduceSub, Nat.reduceLT, Nat.reduceLeDiff, h1]
   obtain rfl := someInj hvh1
   exact hK1 _ ⟨rfl, rfl, (by first | rfl | (rw [h1]; rfl) | (simp only [h1, Bool.true_and, Bool.false_and, Bool.true_or, Bool.false_or, cond_true, cond_false]; done)), trivial⟩
 ·
  refine xw_id ?_
  refine xw_stop 1 (by (try simp only [go_sem]); rfl) (by (try simp only [go_sem]); rfl) (by rfl) fun K1 hK1 => ?_
  refine xw_id ?_
  try simp only [go_sem, Nat.reduceEqDiff, reduceIte, Nat.reduceAdd, Nat.reduceMul, Nat.reduceSub, Nat.reduceLT, Nat.reduceLeDiff]
  refine hK1 _ ?_; clear hK1 K1
  refine xw_cut 4 [(1, (.ptr 0 0)), (16, (vb (x12 && (decide (0 ≤ a0.Loss)))))] (by (try simp only [go_sem]); rfl) (by (try simp only [go_sem]); rfl) (by rfl) (fun K1 hK1 => ?_) fun tz => ?_
  ·
   refine xw_id ?_
   rcases Bool.eq_false_or_eq_true x12 with h2 | h2
   ·
    try simp only [go_sem, Nat.reduceEqDiff, reduceIte, Nat.reduceAdd, Nat.reduceMul, Nat.reduceSub, Nat.reduceLT, Nat.reduceLeDiff, h2]
    exact hK1 _ ⟨rfl, rfl, (by first | rfl | (rw [h2]; rfl) | (simp only [h2, Bool.true_and, Bool.false_and, Bool.true_or, Bool.false_or, cond_true, cond_false]; done)), trivial⟩
   ·
    try simp only [go_sem, Nat.reduceEqDiff, reduceIte, Nat.reduceAdd, Nat.reduceMul, Nat.reduceSub, Nat.reduceLT, Nat.reduceLeDiff, h2]
    exact hK1 _ ⟨rfl, rfl, (by first | rfl | (rw [h2]; rfl) | (simp only [h2, Bool.true_and, Bool.false_and, Bool.true_or, Bool.false_or, cond_true, cond_false]; done)), trivial⟩
  ·
   refine xw_id ?_
   refine xw_stop 1 (by (try simp only [go_sem]); rfl) (by (try simp only [go_sem]); rfl) (by rfl) fun K1 hK1 => ?_
   refine xw_id ?_
   try simp only [go_sem, Nat.reduceEqDiff, reduceIte, Nat.reduceAdd, Nat.reduceMul, Nat.reduceSub, Nat.reduceLT, Nat.reduceLeDiff]
   refine hK1 _ ?_; clear hK1 K1
   refine xw_cut 4 [(1, (.ptr 0 0)), (21, (vb ((x12 && (decide (0 ≤ a0.Loss))) && (decide (a0.Loss ≤ 1000)))))] (by (try simp only [go_sem]); rfl) (by (try simp only [go_sem]); rfl) (by rfl) (fun K1 hK1 => ?_) fun tz => ?_
   ·
    refine xw_id ?_
    rcases Bool.eq_false_or_eq_true (x12 && (decide (0 ≤ a0.Loss))) with h3 | h3
    ·
     have h3_0 : (x12) = true := by simp only [Bool.and_eq_true] at h3; exact h3.1
     have h3_1 : (decide (0 ≤ a0.Loss)) = true := by simp only [Bool.and_eq_true] at h3; exact h3.2
     try simp only [go_sem, Nat.reduceEqDiff, reduceIte, Nat.reduceAdd, Nat.reduceMul, Nat.reduceSub, Nat.reduceLT, Nat.reduceLeDiff, h3, h3_0, h3_1]
     exact hK1 _ ⟨rfl, rfl, (by first | rfl | (rw [h3]; rfl) | (simp only [h3, Bool.true_and, Bool.false_and, Bool.true_or, Bool.false_or, cond_true, cond_false]; done)), trivial⟩
    ·
     try simp only [go_sem, Nat.reduceEqDiff, reduceIte, Nat.reduceAdd, Nat.reduceMul, Nat.reduceSub, Nat.reduceLT, Nat.reduceLeDiff, h3]
     exact hK1 _ ⟨rfl, rfl, (by first | rfl | (rw [h3]; rfl) | (simp only [h3, Bool.true_and, Bool.false_and, Bool.true_or, Bool.false_or, cond_true, cond_false]; done)), trivial⟩
   ·
    refine xw_id ?_
    refine xw_stop 1 (by (try simp only [go_sem]); rfl) (by (try simp only [go_sem]); rfl) (by rfl) fun K1 hK1 => ?_
    refine xw_id ?_
    try simp only [go_sem, Nat.reduceEqDiff, reduceIte, Nat.reduceAdd, Nat.reduceMul, Nat.reduceSub, Nat.reduceLT, Nat.reduceLeDiff]
    refine hK1 _ ?_; clear hK1 K1
    refine xw_cut 4 [(1, (.ptr 0 0)), (26, (vb (((x12 && (decide (0 ≤ a0.Loss))) && (decide (a0.Loss ≤ 1000))) && (decide (0 ≤ a0.Heard)))))] (by (try simp only [go_sem]); rfl) (by (try simp only [go_sem]); rfl) (by rfl) (fun K1 hK1 => ?_) fun tz => ?_
    ·
     refine xw_id ?_
     rcases Bool.eq_false_or_eq_true ((x12 && (decide (0 ≤ a0.Loss))) && (decide (a0.Loss ≤ 1000))) with h4 | h4
     ·
      have h4_0 : (x12) = true := by simp only [Bool.and_eq_true] at h4; exact h4.1.1
      have h4_1 : (decide (0 ≤ a0.Loss)) = true := by simp only [Bool.and_eq_true] at h4; exact h4.1.2
      have h4_2 : (decide (a0.Loss ≤ 1000)) = true := by simp only [Bool.and_eq_true] at h4; exact h4.2
      try simp only [go_sem, Nat.reduceEqDiff, reduceIte, Nat.reduceAdd, Nat.reduceMul, Nat.reduceSub, Nat.reduceLT, Nat.reduceLeDiff, h4, h4_0, h4_1, h4_2]
      exact hK1 _ ⟨rfl, rfl, (by first | rfl | (rw [h4]; rfl) | (simp only [h4, Bool.true_and, Bool.false_and, Bool.true_or, Bool.false_or, cond_true, cond_false]; done)), trivial⟩
     ·
      try simp only [go_sem, Nat.reduceEqDiff, reduceIte, Nat.reduceAdd, Nat.reduceMul, Nat.reduceSub, Nat.reduceLT, Nat.reduceLeDiff, h4]
      exact hK1 _ ⟨rfl, rfl, (by first | rfl | (rw [h4]; rfl) | (simp only [h4, Bool.true_and, Bool.false_and, Bool.true_or, Bool.false_or, cond_true, cond_false]; done)), trivial⟩
    ·
     refine xw_id ?_
     refine xw_stop 1 (by (try simp only [go_sem]); rfl) (by (try simp only [go_sem]); rfl) (by rfl) fun K1 hK1 => ?_
     refine xw_id ?_
     try simp only [go_sem, Nat.reduceEqDiff, reduceIte, Nat.reduceAdd, Nat.reduceMul, Nat.reduceSub, Nat.reduceLT, Nat.reduceLeDiff]
     refine hK1 _ ?_; clear hK1 K1
     refine xw_cut 4 [(31, (vb ((((x12 && (decide (0 ≤ a0.Loss))) && (decide (a0.Loss ≤ 1000))) && (decide (0 ≤ a0.Heard))) && (decide (a0.Heard ≤ 1099511627776)))))] (by (try simp only [go_sem]); rfl) (by (try simp only [go_sem]); rfl) (by rfl) (fun K1 hK1 => ?_) fun tz => ?_
     ·
      refine xw_id ?_
      rcases Bool.eq_false_or_eq_true (((x12 && (decide (0 ≤ a0.Loss))) && (decide (a0.Loss ≤ 1000))) && (decide (0 ≤ a0.Heard))) with h5 | h5
      ·
       have h5_0 : (x12) = true := by simp only [Bool.and_eq_true] at h5; exact h5.1.1.1
       have h5_1 : (decide (0 ≤ a0.Loss)) = true := by simp only [Bool.and_eq_true] at h5; exact h5.1.1.2
       have h5_2 : (decide (a0.Loss ≤ 1000)) = true := by simp only [Bool.and_eq_true] at h5; exact h5.1.2
       have h5_3 : (decide (0 ≤ a0.Heard)) = true := by simp only [Bool.and_eq_true] at h5; exact h5.2
       try simp only [go_sem, Nat.reduceEqDiff, reduceIte, Nat.reduceAdd, Nat.reduceMul, Nat.reduceSub, Nat.reduceLT, Nat.reduceLeDiff, h5, h5_0, h5_1, h5_2, h5_3]
       exact hK1 _ ⟨rfl, (by first | rfl | (rw [h5]; rfl) | (simp only [h5, Bool.true_and, Bool.false_and, Bool.true_or, Bool.false_or, cond_true, cond_false]; done)), trivial⟩
      ·
       try simp only [go_sem, Nat.reduceEqDiff, reduceIte, Nat.reduceAdd, Nat.reduceMul, Nat.reduceSub, Nat.reduceLT, Nat.reduceLeDiff, h5]
       exact hK1 _ ⟨rfl, (by first | rfl | (rw [h5]; rfl) | (simp only [h5, Bool.true_and, Bool.false_and, Bool.true_or, Bool.false_or, cond_true, cond_false]; done)), trivial⟩
     ·
      refine xw_id ?_
      try simp only [go_sem, Nat.reduceEqDiff, reduceIte, Nat.reduceAdd, Nat.reduceMul, Nat.reduceSub, Nat.reduceLT, Nat.reduceLeDiff]
      refine hKK _ _ (Wk.refl _ _ _) ?_; clear hKK KK
      refine awp_ret1 ?_
      obtain rfl := someInj h0
      refine endW_i ?_
      refine end_ret0 rs32 (rfl) ?_
      try simp only [go_sem, Nat.reduceEqDiff, reduceIte, Nat.reduceAdd, Nat.reduceMul, Nat.reduceSub, Nat.reduceLT, Nat.reduceLeDiff, fz, nilS, packR, List.take_nil, List.take_length, List.length_map, List.length_append, cond_true, cond_false, Nat.ble_eq, ble_self, List.map_append]
      all_goals rfl

end Go.AX.Z.TM

/-! (TMW bytealg Compare) -/

set_option linter.unusedSimpArgs false
set_option linter.unusedVariables false
set_option maxHeartbeats 4000000
namespace Go.AX.Z.TM
open Go.AX Go.Proofs
attribute [local irreducible] awp xw xop xcall gsp ob xd xdop xcallD seqQ loopQ blkQ endQ

theorem bytealg_Compare_p (a0 : List Int) (a1 : List Int) {r : Int} (h0 : bytealg_Compare a0 a1 = some r) : SndP K 58 [(S_vu a0), (S_vu a1)] (vi r) := by
 cases h0
 exact cmp_p (show K.P.funcs[58]? = some Try.f58 from Try.func58) rfl rfl rfl rfl a0 a1

end Go.AX.Z.TM

/-! (TMW bytes Compare) -/

set_option linter.unusedSimpArgs false
set_option linter.unusedVariables false
set_option maxHeartbeats 4000000
namespace Go.AX.Z.TM
open Go.AX Go.Proofs
attribute [local irreducible] awp xw xop xcall gsp ob xd xdop xcallD seqQ loopQ blkQ endQ


theorem bytes_Compare_p (a0 : (List Int)) (a1 : (List Int)) {r : Int} (h0 : bytes_Compare a0 a1 = some r) : SndP K 47 [(S_vu a0), (S_vu a1)] (vi r) := by
 refine SndP.of_walkW hC (Clean.v _) (clean_cons (S_vu_clean _) (clean_cons (S_vu_clean _) clean_nil)) (show K.P.funcs[47]? = some Try.f47 from Try.func47) rfl rfl (by decide +kernel) (Nat.le_of_ble_eq_true rfl) ?_
 unfold bytes_Compare at h0
 refine awp_nr [0,1] (fun _ => rfl) fun tz => ?_
 refine awp_regW fun KK hKK => ?_
 refine xw_id ?_
 try simp only [go_sem, Nat.reduceEqDiff, reduceIte, Nat.reduceAdd, Nat.reduceMul, Nat.reduceSub, Nat.reduceLT, Nat.reduceLeDiff]
 refine hKK _ _ (Wk.refl _ _ _) ?_; clear hKK KK
 refine awp_nr [0,1] (fun _ => rfl) fun tz => ?_
 refine awp_regW fun KK hKK => ?_
 refine xw_id ?_
 obtain ⟨x13, bx13, h0⟩ := bnd h0
 try simp only [go_sem, Nat.reduceEqDiff, reduceIte, Nat.reduceAdd, Nat.reduceMul, Nat.reduceSub, Nat.reduceLT, Nat.reduceLeDiff]
 refine xcall_p (bytealg_Compare_p a0 a1 bx13) ?_; try dsimp only
 try refine xw_id ?_
 try simp only [go_sem, Nat.reduceEqDiff, reduceIte, Nat.reduceAdd, Nat.reduceMul, Nat.reduceSub, Nat.reduceLT, Nat.reduceLeDiff]
 refine hKK _ _ (Wk.refl _ _ _) ?_; clear hKK KK
 refine awp_ret1 ?_
 obtain rfl := someInj h0
 refine endW_i ?_
 refine end_ret0 rs47 (rfl) ?_
 try simp only [go_sem, Nat.reduceEqDiff, reduceIte, Nat.reduceAdd, Nat.reduceMul, Nat.reduceSub, Nat.reduceLT, Nat.reduceLeDiff, fz, nilS, packR, List.take_nil, List.take_length, List.length_map, List.length_append, cond_true, cond_false, Nat.ble_eq, ble_self, List.map_append]
 all_goals rfl

end Go.AX.Z.TM

/-! (TMW address Compare) -/

set_option linter.unusedSimpArgs false
set_option linter.unusedVariables false
set_option maxHeartbeats 4000000
namespace Go.AX.Z.TM
open Go.AX Go.Proofs
attribute [local irreducible] awp xw xop xcall gsp ob xd xdop xcallD seqQ loopQ blkQ endQ


theorem address_Compare_p (a0 : Addr) (a1 : Addr) {r : Int} (h0 : address_Compare a0 a1 = some r) : SndP K 33 [(.agg (e_Addr a0)), (.agg (e_Addr a1))] (vi r) := by
 refine SndP.of_walkW hC (Clean.v _) (clean_cons (Clean.agg (e_Addr_clean _)) (clean_cons (Clean.agg (e_Addr_clean _)) clean_nil)) (show K.P.funcs[33]? = some Try.f33 from Try.func33) rfl rfl (by decide +kernel) (Nat.le_of_ble_eq_true rfl) ?_
 unfold address_Compare at h0
 refine awp_nr [0,1] (fun _ => rfl) fun tz => ?_
 refine awp_regW fun KK hKK => ?_
 refine xw_id ?_
 try simp only [go_sem, Nat.reduceEqDiff, reduceIte, Nat.reduceAdd, Nat.reduceMul, Nat.reduceSub, Nat.reduceLT, Nat.reduceLeDiff]
 refine hKK _ _ (Wk.refl _ _ _) ?_; clear hKK KK
 refine awp_nr [2,3] (fun _ => rfl) fun tz => ?_
 refine awp_regW fun KK hKK => ?_
 refine xw_id ?_
 obtain ⟨x13, bx13, h0⟩ := bnd h0
 try simp only [go_sem, Nat.reduceEqDiff, reduceIte, Nat.reduceAdd, Nat.reduceMul, Nat.reduceSub, Nat.reduceLT, Nat.reduceLeDiff, Int.reduceToNat, Int.reduceBEq, Int.reduceBNe, Int.reduceLT, Int.reduceLE, Int.reduceAdd, Int.reduceSub, Int.reduceMul, Int.reduceNeg, Int.reduceEq, Int.reduceNe, Int.sub_zero, Int.sub_zero]
 refine xcall_L (by first | (simp only [go_sem, fz, Nat.reduceEqDiff, reduceIte, Nat.reduceAdd, Nat.reduceMul, Nat.reduceSub, Nat.reduceLT, Nat.reduceLeDiff, Int.sub_zero, Int.sub_zero]; done) | (simp only [go_sem, fz, Nat.reduceEqDiff, reduceIte, Nat.reduceAdd, Nat.reduceMul, Nat.reduceSub, Nat.reduceLT, Nat.reduceLeDiff, Int.sub_zero, Int.sub_zero]; rfl)) (bytes_Compare_p [a0.a0, a0.a1, a0.a2, a0.a3, a0.a4, a0.a5] [a1.a0, a1.a1, a1.a2, a1.a3, a1.a4, a1.a5] bx13) (Bare.v _) ?_; try dsimp only
 try refine xw_id ?_
 try simp only [go_sem, Nat.reduceEqDiff, reduceIte, Nat.reduceAdd, Nat.reduceMul, Nat.reduceSub, Nat.reduceLT, Nat.reduceLeDiff, Int.reduceToNat, Int.reduceBEq, Int.reduceBNe, Int.reduceLT, Int.reduceLE, Int.reduceAdd, Int.reduceSub, Int.reduceMul, Int.reduceNeg, Int.reduceEq, Int.reduceNe, Int.sub_zero, Int.sub_zero]
 refine hKK _ _ (Wk.refl _ _ _) ?_; clear hKK KK
 refine awp_ret1 ?_
 obtain rfl := someInj h0
 refine endW_i ?_
 refine end_ret0 rs33 (rfl) ?_
 try simp only [go_sem, Nat.reduceEqDiff, reduceIte, Nat.reduceAdd, Nat.reduceMul, Nat.reduceSub, Nat.reduceLT, Nat.reduceLeDiff, fz, nilS, packR, List.take_nil, List.take_length, List.length_map, List.length_append, cond_true, cond_false, Nat.ble_eq, ble_self, List.map_append]
 all_goals rfl

end Go.AX.Z.TM

/-! (TMW metric Check) -/

set_option linter.unusedSimpArgs false
set_option linter.unusedVariables false
set_option maxHeartbeats 4000000
namespace Go.AX.Z.TM
open Go.AX Go.Proofs
attribute [local irreducible] awp xw xop xcall gsp ob xd xdop xcallD seqQ loopQ blkQ endQ

def metric_Check_S0 (d9 : Unit) : AS :=
 { objs := (fun _ => .dead), next := 0, tmps := (fun _ => .unk) }

def metric_Check_S1 (a0 : MetricTable) (d11 : Int) : AS :=
 { objs := (upd (fun _ => .dead) 0 (.live (e_MetricTable a0 (.imm (List.flatMap e_MetricLink a0.Links) a0.Links.length)))), next := 1, tmps := (upd (upd (upd (upd (fun _ => .unk) 1 (.ptr 0 0)) 10 (.imm (List.flatMap e_MetricLink a0.Links) a0.Links.length)) 11 (vi (a0.Links.length : Int))) 12 (vi d11)) }

def metric_Check_S3 (a0 : MetricTable) (d11 : Int) (x17 : Bool) : AS :=
 { objs := (upd (fun _ => .dead) 0 (.live (e_MetricTable a0 (.imm (List.flatMap e_MetricLink a0.Links) a0.Links.length)))), next := 1, tmps := (upd (upd (upd (upd (upd (fun _ => .unk) 1 (.ptr 0 0)) 10 (.imm (List.flatMap e_MetricLink a0.Links) a0.Links.length)) 11 (vi (a0.Links.length : Int))) 12 (vi d11)) 36 (vb x17)) }

theorem metric_Check_p (a0 : MetricTable) {r : Int} (h0 : metric_Check a0 = some r) : SndP K 17 [(.agg (E_MetricTable a0))] (vi r) := by
 refine SndP.of_walkW hC (Clean.v _) (clean_cons (Clean.agg (E_MetricTable_clean _)) clean_nil) (show K.P.funcs[17]? = some Try.f17 from Try.func17) rfl rfl (by decide +kernel) (Nat.le_of_ble_eq_true rfl) ?_
 unfold metric_Check at h0
 refine awp_nr [0] (fun _ => rfl) fun tz => ?_
 refine awp_regW fun KK hKK => ?_
 refine xw_id ?_
 try simp only [go_sem, Nat.reduceEqDiff, reduceIte, Nat.reduceAdd, Nat.reduceMul, Nat.reduceSub, Nat.reduceLT, Nat.reduceLeDiff]
 refine hKK _ _ (Wk.refl _ _ _) ?_; clear hKK KK
 refine awp_assoc ?_
 refine awp_nr [1] (fun _ => rfl) fun tz => ?_
 refine awp_regW fun KK hKK => ?_
 refine xw_id ?_
 try simp only [go_sem, Nat.reduceEqDiff, reduceIte, Nat.reduceAdd, Nat.reduceMul, Nat.reduceSub, Nat.reduceLT, Nat.reduceLeDiff, Int.reduceToNat, Int.reduceBEq, Int.reduceBNe, Int.reduceLT, Int.reduceLE, Int.reduceAdd, Int.reduceSub, Int.reduceMul, Int.reduceNeg, Int.reduceEq, Int.reduceNe]
 refine hKK _ _ (Wk.refl _ _ _) ?_; clear hKK KK
 refine awp_cond (b := (decide (32 < (a0.Links.length : Int)))) rfl (fun h1 => ?_) (fun h1 => ?_)
 ·
  have h0 := cT h0 h1
  refine awp_assoc ?_
  refine awp_nr [] (fun _ => rfl) fun tz => ?_
  refine awp_regW fun KK hKK => ?_
  refine xw_id ?_
  try simp only [go_sem, Nat.reduceEqDiff, reduceIte, Nat.reduceAdd, Nat.reduceMul, Nat.reduceSub, Nat.reduceLT, Nat.reduceLeDiff]
  refine hKK _ _ (Wk.refl _ _ _) ?_; clear hKK KK
  refine awp_ret ?_
  obtain rfl := someInj h0
  refine endW_i ?_
  refine end_ret0 rs17 (rfl) ?_
  try simp only [go_sem, Nat.reduceEqDiff, reduceIte, Nat.reduceAdd, Nat.reduceMul, Nat.reduceSub, Nat.reduceLT, Nat.reduceLeDiff, fz, nilS, packR, List.take_nil, List.take_length, List.length_map, List.length_append, cond_true, cond_false, Nat.ble_eq, ble_self, List.map_append]
  all_goals rfl
 ·
  have h0 := cF h0 h1
  refine awp_skip ?_
  refine awp_assoc ?_
  refine awp_nr [1] (fun _ => rfl) fun tz => ?_
  refine awp_regW fun KK hKK => ?_
  refine xw_id ?_
  try simp only [go_sem, Nat.reduceEqDiff, reduceIte, Nat.reduceAdd, Nat.reduceMul, Nat.reduceSub, Nat.reduceLT, Nat.reduceLeDiff, Int.reduceToNat, Int.reduceBEq, Int.reduceBNe, Int.reduceLT, Int.reduceLE, Int.reduceAdd, Int.reduceSub, Int.reduceMul, Int.reduceNeg, Int.reduceEq, Int.reduceNe]
  refine hKK _ _ (Wk.refl _ _ _) ?_; clear hKK KK
  obtain ⟨o10, hi2, h0⟩ := bnd h0
  refine awp_cut (fun d9 : Unit => o10 = Ex.go d9) (fun d9 : Unit => metric_Check_S0 d9) ?_ ?_
  ·
   refine awp_block1 ?_
   refine awp_loopS (fun n (d11 : Int) => metric_Check_L2 a0 n d11 = some o10) (fun d11 : Int => metric_Check_S1 a0 d11) big 0 (Wk.canonD [] [] [some 0] rfl trivial rfl (tmOU 0 tmO0 rfl List.not_mem_nil (by simp only [upd_get, Nat.reduceEqDiff, reduceIte, Nat.reduceAdd, Nat.reduceMul, Nat.reduceSub, Nat.reduceLT, Nat.reduceLeDiff, if_true, if_false] <;> rfl) (e_MetricTable_tmx (by rfl) (Tm.clean (Clean.imm (c_MetricLink _))))) (tmAllU 12 (tmAllU 11 (tmAllU 10 (tmAllU 1 tmAll0 (Tm.ptr rfl)) (Tm.clean (Clean.imm (c_MetricLink _)))) (Tm.v _)) (Tm.v _))) hi2 ?_
   clear hi2
   rintro n d11 hl4
   rcases n with _ | n3
   ·
    (rw [metric_Check_L2] at hl4; cases hl4)
   ·
    rw [metric_Check_L2] at hl4
    unfold metric_Check_S1
    refine awp_nr [1,10,11,12] (fun _ => rfl) fun tz => ?_
    refine awp_regW fun KK hKK => ?_
    refine xw_id ?_
    try simp only [go_sem, Nat.reduceEqDiff, reduceIte, Nat.reduceAdd, Nat.reduceMul, Nat.reduceSub, Nat.reduceLT, Nat.reduceLeDiff]
    refine hKK _ _ (Wk.refl _ _ _) ?_; clear hKK KK
    refine awp_cond (b := (decide (d11 < (a0.Links.length : Int)))) rfl (fun h5 => ?_) (fun h5 => ?_)
    ·
     have hl4 := cT hl4 h5
     refine awp_skip ?_
     refine awp_blockW ?_
     refine awp_nr [1,10,11,12] (fun _ => rfl) fun tz => ?_
     refine awp_regW fun KK hKK => ?_
     refine xw_id ?_
     obtain ⟨x12, bx12, hl4⟩ := bnd hl4
     obtain ⟨fx12_0, fx12_1, fx12_2, fx12_3⟩ := idx_some bx12
     try simp only [go_sem, Nat.reduceEqDiff, reduceIte, Nat.reduceAdd, Nat.reduceMul, Nat.reduceSub, Nat.reduceLT, Nat.reduceLeDiff, fx12_0, fx12_1, fx12_2]
     refine hKK _ _ (Wk.refl _ _ _) ?_; clear hKK KK
     refine awp_nr [1,3,4,10,11,12] (fun _ => rfl) fun tz => ?_
     refine awp_regW fun KK hKK => ?_
     refine xw_id ?_
     obtain ⟨x13, bx13, hl4⟩ := bnd hl4
     try simp only [go_sem, Nat.reduceEqDiff, reduceIte, Nat.reduceAdd, Nat.reduceMul, Nat.reduceSub, Nat.reduceLT, Nat.reduceLeDiff, fx12_0, fx12_1, fx12_2]
     refine xcall_p (metric_valid_p x12 bx13) ?_; try dsimp only
     try refine xw_id ?_
     refine xw_stop 2 (by (try simp only [go_sem]); rfl) (by (try simp only [go_sem]); rfl) (by rfl) fun K1 hK1 => ?_
     refine xw_id ?_
     try simp only [go_sem, Nat.reduceEqDiff, reduceIte, Nat.reduceAdd, Nat.reduceMul, Nat.reduceSub, Nat.reduceLT, Nat.reduceLeDiff, fx12_0, fx12_1, fx12_2]
     refine hK1 _ ?_; clear hK1 K1
     obtain ⟨x17, hvh6, hl4⟩ := bnd hl4
     refine xw_cut 16 [(1, (.ptr 0 0)), (10, (.imm (List.flatMap e_MetricLink a0.Links) a0.Links.length)), (11, (vi (a0.Links.length : Int))), (12, (vi d11)), (36, (vb x17))] (by (try simp only [go_sem]); rfl) (by (try simp only [go_sem]); rfl) (by rfl) (fun K1 hK1 => ?_) fun tz => ?_
     ·
      refine xw_id ?_
      rcases Bool.eq_false_or_eq_true (!x13) with h6 | h6
      ·
       have hvh6 := cT hvh6 h6
       try simp only [go_sem, Nat.reduceEqDiff, reduceIte, Nat.reduceAdd, Nat.reduceMul, Nat.reduceSub, Nat.reduceLT, Nat.reduceLeDiff, fx12_0, fx12_1, fx12_2, h6]
       obtain rfl := someInj hvh6
       exact hK1 _ ⟨rfl, rfl, rfl, rfl, rfl, (by first | rfl | (rw [h6]; rfl) | (simp only [h6, Bool.true_and, Bool.false_and, Bool.true_or, Bool.false_or, cond_true, cond_false]; done)), trivial⟩
      ·
       have hvh6 := cF hvh6 h6
       refine xw_stop 3 (by (try simp only [go_sem]); rfl) (by (try simp only [go_sem]); rfl) (by rfl) fun K1 hK1 => ?_
       refine xw_id ?_
       try simp only [go_sem, Nat.reduceEqDiff, reduceIte, Nat.reduceAdd, Nat.reduceMul, Nat.reduceSub, Nat.reduceLT, Nat.reduceLeDiff, fx12_0, fx12_1, fx12_2, h6]
       refine hK1 _ ?_; clear hK1 K1
       obtain ⟨x16, hvh7, hvh6⟩ := bnd hvh6
       refine xw_cut 12 [(1, (.ptr 0 0)), (10, (.imm (List.flatMap e_MetricLink a0.Links) a0.Links.length)), (11, (vi (a0.Links.length : Int))), (12, (vi d11)), (20, (vb false)), (35, (vb x16))] (by (try simp only [go_sem]); rfl) (by (try simp only [go_sem]); rfl) (by rfl) (fun K1 hK1 => ?_) fun tz => ?_
       ·
        refine xw_id ?_
        rcases Bool.eq_false_or_eq_true (decide (0 < d11)) with h7 | h7
        ·
         have hvh7 := cT hvh7 h7
         obtain ⟨x14, bx14, hvh7⟩ := bnd hvh7
         obtain ⟨fx14_0, fx14_1, fx14_2, fx14_3⟩ := idx_some bx14
         obtain ⟨x15, bx15, hvh7⟩ := bnd hvh7
         try simp only [go_sem, Nat.reduceEqDiff, reduceIte, Nat.reduceAdd, Nat.reduceMul, Nat.reduceSub, Nat.reduceLT, Nat.reduceLeDiff, fx12_0, fx12_1, fx12_2, h6, h7, fx14_0, fx14_1, fx14_2]
         refine xcall_p (address_Compare_p x14.Peer x12.Peer bx15) ?_; try dsimp only
         try refine xw_id ?_
         try simp only [go_sem, Nat.reduceEqDiff, reduceIte, Nat.reduceAdd, Nat.reduceMul, Nat.reduceSub, Nat.reduceLT, Nat.reduceLeDiff, fx12_0, fx12_1, fx12_2, h6, h7, fx14_0, fx14_1, fx14_2]
         obtain rfl := someInj hvh7
         exact hK1 _ ⟨rfl, rfl, rfl, rfl, rfl, rfl, (by first | rfl | (rw [h7]; rfl) | (simp only [h7, Bool.true_and, Bool.false_and, Bool.true_or, Bool.false_or, cond_true, cond_false]; done)), trivial⟩
        ·
         have hvh7 := cF hvh7 h7
         try simp only [go_sem, Nat.reduceEqDiff, reduceIte, Nat.reduceAdd, Nat.reduceMul, Nat.reduceSub, Nat.reduceLT, Nat.reduceLeDiff, fx12_0, fx12_1, fx12_2, h6, h7]
         obtain rfl := someInj hvh7
         exact hK1 _ ⟨rfl, rfl, rfl, rfl, rfl, rfl, (by first | rfl | (rw [h7]; rfl) | (simp only [h7, Bool.true_and, Bool.false_and, Bool.true_or, Bool.false_or, cond_true, cond_false]; done)), trivial⟩
       ·
        refine xw_id ?_
        try simp only [go_sem, Nat.reduceEqDiff, reduceIte, Nat.reduceAdd, Nat.reduceMul, Nat.reduceSub, Nat.reduceLT, Nat.reduceLeDiff, fx12_0, fx12_1, fx12_2, h6]
        obtain rfl := someInj hvh6
        exact hK1 _ ⟨rfl, rfl, rfl, rfl, rfl, (by first | rfl | (rw [h6]; rfl) | (simp only [h6, Bool.true_and, Bool.false_and, Bool.true_or, Bool.false_or, cond_true, cond_false]; done)), trivial⟩
     ·
      refine xw_id ?_
      try simp only [go_sem, Nat.reduceEqDiff, reduceIte, Nat.reduceAdd, Nat.reduceMul, Nat.reduceSub, Nat.reduceLT, Nat.reduceLeDiff, fx12_0, fx12_1, fx12_2]
      refine hKK _ (metric_Check_S3 a0 d11 x17) (Wk.canonD [] [] [some 0] rfl trivial rfl (tmOU 0 tmO0 rfl List.not_mem_nil (by simp only [upd_get, Nat.reduceEqDiff, reduceIte, Nat.reduceAdd, Nat.reduceMul, Nat.reduceSub, Nat.reduceLT, Nat.reduceLeDiff, if_true, if_false] <;> rfl) (e_MetricTable_tmx (by rfl) (Tm.clean (Clean.imm (c_MetricLink _))))) (tmAllU 36 (tmAllU 12 (tmAllU 11 (tmAllU 10 (tmAllU 1 tmAll0 (Tm.ptr rfl)) (Tm.clean (Clean.imm (c_MetricLink _)))) (Tm.v _)) (Tm.v _)) (Tm.v _))) ?_; clear hKK KK
      unfold metric_Check_S3
      refine awp_cond1 (b := x17) rfl (fun h8 => ?_) (fun h8 => ?_)
      ·
       have hl4 := cT hl4 h8
       refine awp_nr [] (fun _ => rfl) fun tz => ?_
       refine awp_regW fun KK hKK => ?_
       refine xw_id ?_
       try simp only [go_sem, Nat.reduceEqDiff, reduceIte, Nat.reduceAdd, Nat.reduceMul, Nat.reduceSub, Nat.reduceLT, Nat.reduceLeDiff, fx12_0, fx12_1, fx12_2]
       refine hKK _ _ (Wk.refl _ _ _) ?_; clear hKK KK
       refine awp_ret1 ?_
       refine bq_r ?_
       refine sq_r ?_
       refine lq_r ?_
       refine bq_r ?_
       refine sq_r ?_
       obtain rfl := someInj hl4
       obtain rfl := Ex.k_ret h0
       refine endW_i ?_
       refine end_ret0 rs17 (rfl) ?_
       try simp only [go_sem, Nat.reduceEqDiff, reduceIte, Nat.reduceAdd, Nat.reduceMul, Nat.reduceSub, Nat.reduceLT, Nat.reduceLeDiff, fz, nilS, packR, List.take_nil, List.take_length, List.length_map, List.length_append, cond_true, cond_false, Nat.ble_eq, ble_self, List.map_append]
       all_goals rfl
      ·
       have hl4 := cF hl4 h8
       refine awp_skip1 ?_
       refine bq_n ?_
       refine seqW_i ?_
       refine awp_nr1 [1,10,11,12] (fun _ => rfl) fun tz => ?_
       refine awp_reg1 fun KK hKK => ?_
       refine xw_id ?_
       try simp only [go_sem, Nat.reduceEqDiff, reduceIte, Nat.reduceAdd, Nat.reduceMul, Nat.reduceSub, Nat.reduceLT, Nat.reduceLeDiff, fx12_0, fx12_1, fx12_2]
       refine hKK _ ?_; clear hKK KK
       refine lq_n ?_
       exact ⟨n3, IntKind.wrap .i64 (d11 + 1), rfl, hl4, (Wk.canonD [] [] [some 0] rfl trivial rfl (tmOU 0 tmO0 rfl List.not_mem_nil (by simp only [upd_get, Nat.reduceEqDiff, reduceIte, Nat.reduceAdd, Nat.reduceMul, Nat.reduceSub, Nat.reduceLT, Nat.reduceLeDiff, if_true, if_false] <;> rfl) (e_MetricTable_tmx (by rfl) (Tm.clean (Clean.imm (c_MetricLink _))))) (tmAllU 12 (tmAllU 11 (tmAllU 10 (tmAllU 1 tmAll0 (Tm.ptr rfl)) (Tm.clean (Clean.imm (c_MetricLink _)))) (Tm.v _)) (Tm.v _)))⟩
    ·
     have hl4 := cF hl4 h5
     refine awp_exit ?_
     refine lq_e ?_
     refine bq_e ?_
     refine sq_n ?_
     obtain rfl := someInj hl4
     exact ⟨_, rfl, (Wk.canonD [] [] [] rfl trivial rfl tmO0 tmAll0)⟩
  ·
   rintro d9 rfl
   have h0 := Ex.k_go h0
   clear hi2
   unfold metric_Check_S0
   refine awp_nr [] (fun _ => rfl) fun tz => ?_
   refine awp_regW fun KK hKK => ?_
   refine xw_id ?_
   try simp only [go_sem, Nat.reduceEqDiff, reduceIte, Nat.reduceAdd, Nat.reduceMul, Nat.reduceSub, Nat.reduceLT, Nat.reduceLeDiff]
   refine hKK _ _ (Wk.refl _ _ _) ?_; clear hKK KK
   refine awp_ret1 ?_
   obtain rfl := someInj h0
   refine endW_i ?_
   refine end_ret0 rs17 (rfl) ?_
   try simp only [go_sem, Nat.reduceEqDiff, reduceIte, Nat.reduceAdd, Nat.reduceMul, Nat.reduceSub, Nat.reduceLT, Nat.reduceLeDiff, fz, nilS, packR, List.take_nil, List.take_length, List.length_map, List.length_append, cond_true, cond_false, Nat.ble_eq, ble_self, List.map_append]
   all_goals rfl

end Go.AX.Z.TM

/-! (TMW rate Total run0) -/

set_option linter.unusedSimpArgs false
set_option linter.unusedVariables false
set_option maxHeartbeats 4000000
namespace Go.AX.Z.TM
open Go.AX Go.Proofs
attribute [local irreducible] awp xw xop xcall gsp ob xd xdop xcallD seqQ loopQ blkQ endQ

theorem rate_Total_run0 : ranX K 60 28 [vi 0, vi 1024] = some (.tup [vi 1452, vi 0]) := by kernel_rfl

end Go.AX.Z.TM

/-! (TMW rate Total run1) -/

set_option linter.unusedSimpArgs false
set_option linter.unusedVariables false
set_option maxHeartbeats 4000000
namespace Go.AX.Z.TM
open Go.AX Go.Proofs
attribute [local irreducible] awp xw xop xcall gsp ob xd xdop xcallD seqQ loopQ blkQ endQ

theorem rate_Total_run1 : ranX K 60 28 [vi 1, vi 1024] = some (.tup [vi 996, vi 0]) := by kernel_rfl

end Go.AX.Z.TM

/-! (TMW rate Total run2) -/

set_option linter.unusedSimpArgs false
set_option linter.unusedVariables false
set_option maxHeartbeats 4000000
namespace Go.AX.Z.TM
open Go.AX Go.Proofs
attribute [local irreducible] awp xw xop xcall gsp ob xd xdop xcallD seqQ loopQ blkQ endQ

theorem rate_Total_run2 : ranX K 60 28 [vi 2, vi 1024] = some (.tup [vi 756, vi 0]) := by kernel_rfl

end Go.AX.Z.TM

/-! (TMW rate Total run3) -/

set_option linter.unusedSimpArgs false
set_option linter.unusedVariables false
set_option maxHeartbeats 4000000
namespace Go.AX.Z.TM
open Go.AX Go.Proofs
attribute [local irreducible] awp xw xop xcall gsp ob xd xdop xcallD seqQ loopQ blkQ endQ

theorem rate_Total_run3 : ranX K 60 28 [vi 3, vi 1024] = some (.tup [vi 528, vi 0]) := by kernel_rfl

end Go.AX.Z.TM

/-! (TMW rate Total run4) -/

set_option linter.unusedSimpArgs false
set_option linter.unusedVariables false
set_option maxHeartbeats 4000000
namespace Go.AX.Z.TM
open Go.AX Go.Proofs
attribute [local irreducible] awp xw xop xcall gsp ob xd xdop xcallD seqQ loopQ blkQ endQ

theorem rate_Total_run4 : ranX K 60 28 [vi 4, vi 1024] = some (.tup [vi 396, vi 0]) := by kernel_rfl

end Go.AX.Z.TM

/-! (TMW rate Total run5) -/

set_option linter.unusedSimpArgs false
set_option linter.unusedVariables false
set_option maxHeartbeats 4000000
namespace Go.AX.Z.TM
open Go.AX Go.Proofs
attribute [local irreducible] awp xw xop xcall gsp ob xd xdop xcallD seqQ loopQ blkQ endQ

theorem rate_Total_run5 : ranX K 60 28 [vi 5, vi 1024] = some (.tup [vi 288, vi 0]) := by kernel_rfl

end Go.AX.Z.TM

/-! (TMW rate Total run6) -/

set_option linter.unusedSimpArgs false
set_option linter.unusedVariables false
set_option maxHeartbeats 4000000
namespace Go.AX.Z.TM
open Go.AX Go.Proofs
attribute [local irreducible] awp xw xop xcall gsp ob xd xdop xcallD seqQ loopQ blkQ endQ

theorem rate_Total_run6 : ranX K 60 28 [vi 6, vi 1024] = some (.tup [vi 232, vi 0]) := by kernel_rfl

end Go.AX.Z.TM

/-! (TMW rate Total run7) -/

set_option linter.unusedSimpArgs false
set_option linter.unusedVariables false
set_option maxHeartbeats 4000000
namespace Go.AX.Z.TM
open Go.AX Go.Proofs
attribute [local irreducible] awp xw xop xcall gsp ob xd xdop xcallD seqQ loopQ blkQ endQ

theorem rate_Total_run7 : ranX K 60 28 [vi 7, vi 1024] = some (.tup [vi 216, vi 0]) := by kernel_rfl

end Go.AX.Z.TM

/-! (TMW rate Total run8) -/

set_option linter.unusedSimpArgs false
set_option linter.unusedVariables false
set_option maxHeartbeats 4000000
namespace Go.AX.Z.TM
open Go.AX Go.Proofs
attribute [local irreducible] awp xw xop xcall gsp ob xd xdop xcallD seqQ loopQ blkQ endQ

theorem rate_Total_run8 : ranX K 60 28 [vi 8, vi 1024] = some (.tup [vi 192, vi 0]) := by kernel_rfl

end Go.AX.Z.TM

/-! (TMW rate Total run9) -/

set_option linter.unusedSimpArgs false
set_option linter.unusedVariables false
set_option maxHeartbeats 4000000
namespace Go.AX.Z.TM
open Go.AX Go.Proofs
attribute [local irreducible] awp xw xop xcall gsp ob xd xdop xcallD seqQ loopQ blkQ endQ

theorem rate_Total_run9 : ranX K 60 28 [vi 9, vi 1024] = some (.tup [vi 168, vi 0]) := by kernel_rfl

end Go.AX.Z.TM

/-! (TMW rate Total run10) -/

set_option linter.unusedSimpArgs false
set_option linter.unusedVariables false
set_option maxHeartbeats 4000000
namespace Go.AX.Z.TM
open Go.AX Go.Proofs
attribute [local irreducible] awp xw xop xcall gsp ob xd xdop xcallD seqQ loopQ blkQ endQ

theorem rate_Total_run10 : ranX K 60 28 [vi 10, vi 1024] = some (.tup [vi 148, vi 0]) := by kernel_rfl

end Go.AX.Z.TM

/-! (TMW rate Total run11) -/

set_option linter.unusedSimpArgs false
set_option linter.unusedVariables false
set_option maxHeartbeats 4000000
namespace Go.AX.Z.TM
open Go.AX Go.Proofs
attribute [local irreducible] awp xw xop xcall gsp ob xd xdop xcallD seqQ loopQ blkQ endQ

theorem rate_Total_run11 : ranX K 60 28 [vi 11, vi 1024] = some (.tup [vi 136, vi 0]) := by kernel_rfl

end Go.AX.Z.TM

/-! (TMW rate Total run12) -/

set_option linter.unusedSimpArgs false
set_option linter.unusedVariables false
set_option maxHeartbeats 4000000
namespace Go.AX.Z.TM
open Go.AX Go.Proofs
attribute [local irreducible] awp xw xop xcall gsp ob xd xdop xcallD seqQ loopQ blkQ endQ

theorem rate_Total_run12 : ranX K 60 28 [vi 12, vi 1024] = some (.tup [vi 0, vi 2]) := by kernel_rfl

end Go.AX.Z.TM

/-! (TMW rate Total) -/

set_option linter.unusedSimpArgs false
set_option linter.unusedVariables false
set_option maxHeartbeats 4000000
namespace Go.AX.Z.TM
open Go.AX Go.Proofs
attribute [local irreducible] awp xw xop xcall gsp ob xd xdop xcallD seqQ loopQ blkQ endQ

theorem rate_Total_p (a0 : Int) (a1 : Int) {r : (Int × Int)} (h0 : rate_Total a0 a1 = some r) : SndP K 28 [(vi a0), (vi a1)] (.tup [(vi r.1), (vi r.2)]) := by
 unfold rate_Total at h0
 rcases Bool.eq_false_or_eq_true ((a0 == 0) && (a1 == 1024)) with k0 | k0
 ·
  have h0 := cT h0 k0
  simp only [Bool.and_eq_true, beq_iff_eq] at k0
  obtain ⟨rfl, rfl⟩ := k0
  cases h0
  exact SndP.of_run hC rfl rfl rate_Total_run0
 have h0 := cF h0 k0
 rcases Bool.eq_false_or_eq_true ((a0 == 1) && (a1 == 1024)) with k1 | k1
 ·
  have h0 := cT h0 k1
  simp only [Bool.and_eq_true, beq_iff_eq] at k1
  obtain ⟨rfl, rfl⟩ := k1
  cases h0
  exact SndP.of_run hC rfl rfl rate_Total_run1
 have h0 := cF h0 k1
 rcases Bool.eq_false_or_eq_true ((a0 == 2) && (a1 == 1024)) with k2 | k2
 ·
  have h0 := cT h0 k2
  simp only [Bool.and_eq_true, beq_iff_eq] at k2
  obtain ⟨rfl, rfl⟩ := k2
  cases h0
  exact SndP.of_run hC rfl rfl rate_Total_run2
 have h0 := cF h0 k2
 rcases Bool.eq_false_or_eq_true ((a0 == 3) && (a1 == 1024)) with k3 | k3
 ·
  have h0 := cT h0 k3
  simp only [Bool.and_eq_true, beq_iff_eq] at k3
  obtain ⟨rfl, rfl⟩ := k3
  cases h0
  exact SndP.of_run hC rfl rfl rate_Total_run3
 have h0 := cF h0 k3
 rcases Bool.eq_false_or_eq_true ((a0 == 4) && (a1 == 1024)) with k4 | k4
 ·
  have h0 := cT h0 k4
  simp only [Bool.and_eq_true, beq_iff_eq] at k4
  obtain ⟨rfl, rfl⟩ := k4
  cases h0
  exact SndP.of_run hC rfl rfl rate_Total_run4
 have h0 := cF h0 k4
 rcases Bool.eq_false_or_eq_true ((a0 == 5) && (a1 == 1024)) with k5 | k5
 ·
  have h0 := cT h0 k5
  simp only [Bool.and_eq_true, beq_iff_eq] at k5
  obtain ⟨rfl, rfl⟩ := k5
  cases h0
  exact SndP.of_run hC rfl rfl rate_Total_run5
 have h0 := cF h0 k5
 rcases Bool.eq_false_or_eq_true ((a0 == 6) && (a1 == 1024)) with k6 | k6
 ·
  have h0 := cT h0 k6
  simp only [Bool.and_eq_true, beq_iff_eq] at k6
  obtain ⟨rfl, rfl⟩ := k6
  cases h0
  exact SndP.of_run hC rfl rfl rate_Total_run6
 have h0 := cF h0 k6
 rcases Bool.eq_false_or_eq_true ((a0 == 7) && (a1 == 1024)) with k7 | k7
 ·
  have h0 := cT h0 k7
  simp only [Bool.and_eq_true, beq_iff_eq] at k7
  obtain ⟨rfl, rfl⟩ := k7
  cases h0
  exact SndP.of_run hC rfl rfl rate_Total_run7
 have h0 := cF h0 k7
 rcases Bool.eq_false_or_eq_true ((a0 == 8) && (a1 == 1024)) with k8 | k8
 ·
  have h0 := cT h0 k8
  simp only [Bool.and_eq_true, beq_iff_eq] at k8
  obtain ⟨rfl, rfl⟩ := k8
  cases h0
  exact SndP.of_run hC rfl rfl rate_Total_run8
 have h0 := cF h0 k8
 rcases Bool.eq_false_or_eq_true ((a0 == 9) && (a1 == 1024)) with k9 | k9
 ·
  have h0 := cT h0 k9
  simp only [Bool.and_eq_true, beq_iff_eq] at k9
  obtain ⟨rfl, rfl⟩ := k9
  cases h0
  exact SndP.of_run hC rfl rfl rate_Total_run9
 have h0 := cF h0 k9
 rcases Bool.eq_false_or_eq_true ((a0 == 10) && (a1 == 1024)) with k10 | k10
 ·
  have h0 := cT h0 k10
  simp only [Bool.and_eq_true, beq_iff_eq] at k10
  obtain ⟨rfl, rfl⟩ := k10
  cases h0
  exact SndP.of_run hC rfl rfl rate_Total_run10
 have h0 := cF h0 k10
 rcases Bool.eq_false_or_eq_true ((a0 == 11) && (a1 == 1024)) with k11 | k11
 ·
  have h0 := cT h0 k11
  simp only [Bool.and_eq_true, beq_iff_eq] at k11
  obtain ⟨rfl, rfl⟩ := k11
  cases h0
  exact SndP.of_run hC rfl rfl rate_Total_run11
 have h0 := cF h0 k11
 rcases Bool.eq_false_or_eq_true ((a0 == 12) && (a1 == 1024)) with k12 | k12
 ·
  have h0 := cT h0 k12
  simp only [Bool.and_eq_true, beq_iff_eq] at k12
  obtain ⟨rfl, rfl⟩ := k12
  cases h0
  exact SndP.of_run hC rfl rfl rate_Total_run12
 have h0 := cF h0 k12
 cases h0

end Go.AX.Z.TM

/-! (TMW metric Cost) -/

set_option linter.unusedSimpArgs false
set_option linter.unusedVariables false
set_option maxHeartbeats 4000000
namespace Go.AX.Z.TM
open Go.AX Go.Proofs
attribute [local irreducible] awp xw xop xcall gsp ob xd xdop xcallD seqQ loopQ blkQ endQ


theorem metric_Cost_p (a0 : Int) (a1 : Int) {r : (Int × Int)} (h0 : metric_Cost a0 a1 = some r) : SndP K 12 [(vi a0), (vi a1)] (.tup [(vi r.1), (vi r.2)]) := by
 refine SndP.of_walkW hC (Clean.tup (clean_cons (Clean.v _) (clean_cons (Clean.v _) clean_nil))) (clean_cons (Clean.v _) (clean_cons (Clean.v _) clean_nil)) (show K.P.funcs[12]? = some Try.f12 from Try.func12) rfl rfl (by decide +kernel) (Nat.le_of_ble_eq_true rfl) ?_
 unfold metric_Cost at h0
 refine awp_nr [0,1] (fun _ => rfl) fun tz => ?_
 refine awp_regW fun KK hKK => ?_
 refine xw_id ?_
 try simp only [go_sem, Nat.reduceEqDiff, reduceIte, Nat.reduceAdd, Nat.reduceMul, Nat.reduceSub, Nat.reduceLT, Nat.reduceLeDiff]
 refine hKK _ _ (Wk.refl _ _ _) ?_; clear hKK KK
 refine awp_nr [0,1] (fun _ => rfl) fun tz => ?_
 refine awp_regW fun KK hKK => ?_
 refine xw_id ?_
 obtain ⟨x5, bx5, h0⟩ := bnd h0
 try simp only [go_sem, Nat.reduceEqDiff, reduceIte, Nat.reduceAdd, Nat.reduceMul, Nat.reduceSub, Nat.reduceLT, Nat.reduceLeDiff]
 refine xcall_p (rate_Total_p a0 1024 bx5) ?_; try dsimp only
 try refine xw_id ?_
 try simp only [go_sem, Nat.reduceEqDiff, reduceIte, Nat.reduceAdd, Nat.reduceMul, Nat.reduceSub, Nat.reduceLT, Nat.reduceLeDiff]
 refine hKK _ _ (Wk.refl _ _ _) ?_; clear hKK KK
 refine awp_assoc ?_
 refine awp_nr [1,6,7] (fun _ => rfl) fun tz => ?_
 refine awp_regW fun KK hKK => ?_
 refine xw_id ?_
 refine xw_stop 3 (by (try simp only [go_sem]); rfl) (by (try simp only [go_sem]); rfl) (by rfl) fun K1 hK1 => ?_
 refine xw_id ?_
 try simp only [go_sem, Nat.reduceEqDiff, reduceIte, Nat.reduceAdd, Nat.reduceMul, Nat.reduceSub, Nat.reduceLT, Nat.reduceLeDiff]
 refine hK1 _ ?_; clear hK1 K1
 refine xw_cut 3 [(1, (vi a1)), (6, (vi x5.1)), (19, (vb ((x5.2 != 0) || (decide (a1 < 0)))))] (by (try simp only [go_sem]); rfl) (by (try simp only [go_sem]); rfl) (by rfl) (fun K1 hK1 => ?_) fun tz => ?_
 ·
  refine xw_id ?_
  rcases Bool.eq_false_or_eq_true (x5.2 != 0) with h1 | h1
  ·
   try simp only [go_sem, Nat.reduceEqDiff, reduceIte, Nat.reduceAdd, Nat.reduceMul, Nat.reduceSub, Nat.reduceLT, Nat.reduceLeDiff, h1]
   exact hK1 _ ⟨rfl, rfl, rfl, (by first | rfl | (rw [h1]; rfl) | (simp only [h1, Bool.true_and, Bool.false_and, Bool.true_or, Bool.false_or, cond_true, cond_false]; done)), trivial⟩
  ·
   try simp only [go_sem, Nat.reduceEqDiff, reduceIte, Nat.reduceAdd, Nat.reduceMul, Nat.reduceSub, Nat.reduceLT, Nat.reduceLeDiff, h1]
   exact hK1 _ ⟨rfl, rfl, rfl, (by first | rfl | (rw [h1]; rfl) | (simp only [h1, Bool.true_and, Bool.false_and, Bool.true_or, Bool.false_or, cond_true, cond_false]; done)), trivial⟩
 ·
  refine xw_id ?_
  refine xw_stop 1 (by (try simp only [go_sem]); rfl) (by (try simp only [go_sem]); rfl) (by rfl) fun K1 hK1 => ?_
  refine xw_id ?_
  try simp only [go_sem, Nat.reduceEqDiff, reduceIte, Nat.reduceAdd, Nat.reduceMul, Nat.reduceSub, Nat.reduceLT, Nat.reduceLeDiff]
  refine hK1 _ ?_; clear hK1 K1
  refine xw_cut 3 [(1, (vi a1)), (6, (vi x5.1)), (23, (vb (((x5.2 != 0) || (decide (a1 < 0))) || (decide (1000 < a1)))))] (by (try simp only [go_sem]); rfl) (by (try simp only [go_sem]); rfl) (by rfl) (fun K1 hK1 => ?_) fun tz => ?_
  ·
   refine xw_id ?_
   rcases Bool.eq_false_or_eq_true ((x5.2 != 0) || (decide (a1 < 0))) with h2 | h2
   ·
    try simp only [go_sem, Nat.reduceEqDiff, reduceIte, Nat.reduceAdd, Nat.reduceMul, Nat.reduceSub, Nat.reduceLT, Nat.reduceLeDiff, h2]
    exact hK1 _ ⟨rfl, rfl, rfl, (by first | rfl | (rw [h2]; rfl) | (simp only [h2, Bool.true_and, Bool.false_and, Bool.true_or, Bool.false_or, cond_true, cond_false]; done)), trivial⟩
   ·
    try simp only [go_sem, Nat.reduceEqDiff, reduceIte, Nat.reduceAdd, Nat.reduceMul, Nat.reduceSub, Nat.reduceLT, Nat.reduceLeDiff, h2]
    exact hK1 _ ⟨rfl, rfl, rfl, (by first | rfl | (rw [h2]; rfl) | (simp only [h2, Bool.true_and, Bool.false_and, Bool.true_or, Bool.false_or, cond_true, cond_false]; done)), trivial⟩
  ·
   refine xw_id ?_
   try simp only [go_sem, Nat.reduceEqDiff, reduceIte, Nat.reduceAdd, Nat.reduceMul, Nat.reduceSub, Nat.reduceLT, Nat.reduceLeDiff]
   refine hKK _ _ (Wk.refl _ _ _) ?_; clear hKK KK
   refine awp_cond (b := (((x5.2 != 0) || (decide (a1 < 0))) || (decide (1000 < a1)))) rfl (fun h3 => ?_) (fun h3 => ?_)
   ·
    have h0 := cT h0 h3
    refine awp_assoc ?_
    refine awp_nr [] (fun _ => rfl) fun tz => ?_
    refine awp_regW fun KK hKK => ?_
    refine xw_id ?_
    try simp only [go_sem, Nat.reduceEqDiff, reduceIte, Nat.reduceAdd, Nat.reduceMul, Nat.reduceSub, Nat.reduceLT, Nat.reduceLeDiff]
    refine hKK _ _ (Wk.refl _ _ _) ?_; clear hKK KK
    refine awp_ret ?_
    obtain rfl := someInj h0
    refine endW_i ?_
    refine end_ret0 rs12 (rfl) ?_
    try simp only [go_sem, Nat.reduceEqDiff, reduceIte, Nat.reduceAdd, Nat.reduceMul, Nat.reduceSub, Nat.reduceLT, Nat.reduceLeDiff, fz, nilS, packR, List.take_nil, List.take_length, List.length_map, List.length_append, cond_true, cond_false, Nat.ble_eq, ble_self, List.map_append]
    all_goals rfl
   ·
    have h0 := cF h0 h3
    refine awp_skip ?_
    refine awp_nr [1,6] (fun _ => rfl) fun tz => ?_
    refine awp_regW fun KK hKK => ?_
    refine xw_id ?_
    try simp only [go_sem, Nat.reduceEqDiff, reduceIte, Nat.reduceAdd, Nat.reduceMul, Nat.reduceSub, Nat.reduceLT, Nat.reduceLeDiff]
    refine hKK _ _ (Wk.refl _ _ _) ?_; clear hKK KK
    refine awp_assoc ?_
    refine awp_nr [6,8] (fun _ => rfl) fun tz => ?_
    refine awp_regW fun KK hKK => ?_
    refine xw_id ?_
    try simp only [go_sem, Nat.reduceEqDiff, reduceIte, Nat.reduceAdd, Nat.reduceMul, Nat.reduceSub, Nat.reduceLT, Nat.reduceLeDiff]
    refine hKK _ _ (Wk.refl _ _ _) ?_; clear hKK KK
    refine awp_cond (b := ((IntKind.wrap .i64 (1000 - a1)) == 0)) rfl (fun h4 => ?_) (fun h4 => ?_)
    ·
     have h0 := cT h0 h4
     refine awp_assoc ?_
     refine awp_nr [] (fun _ => rfl) fun tz => ?_
     refine awp_regW fun KK hKK => ?_
     refine xw_id ?_
     try simp only [go_sem, Nat.reduceEqDiff, reduceIte, Nat.reduceAdd, Nat.reduceMul, Nat.reduceSub, Nat.reduceLT, Nat.reduceLeDiff]
     refine hKK _ _ (Wk.refl _ _ _) ?_; clear hKK KK
     refine awp_ret ?_
     obtain rfl := someInj h0
     refine endW_i ?_
     refine end_ret0 rs12 (rfl) ?_
     try simp only [go_sem, Nat.reduceEqDiff, reduceIte, Nat.reduceAdd, Nat.reduceMul, Nat.reduceSub, Nat.reduceLT, Nat.reduceLeDiff, fz, nilS, packR, List.take_nil, List.take_length, List.length_map, List.length_append, cond_true, cond_false, Nat.ble_eq, ble_self, List.map_append]
     all_goals rfl
    ·
     have h0 := cF h0 h4
     refine awp_skip ?_
     refine awp_nr [6,8] (fun _ => rfl) fun tz => ?_
     refine awp_regW fun KK hKK => ?_
     refine xw_id ?_
     obtain ⟨x6, bx6, h0⟩ := bnd h0
     have bx6 := chk_some bx6
     simp only [Bool.and_eq_true, decide_eq_true_eq] at bx6
     have gx6_0 := bx6
     try simp only [go_sem, Nat.reduceEqDiff, reduceIte, Nat.reduceAdd, Nat.reduceMul, Nat.reduceSub, Nat.reduceLT, Nat.reduceLeDiff, gx6_0]
     refine hKK _ _ (Wk.refl _ _ _) ?_; clear hKK KK
     refine awp_ret1 ?_
     obtain rfl := someInj h0
     refine endW_i ?_
     refine end_ret0 rs12 (rfl) ?_
     try simp only [go_sem, Nat.reduceEqDiff, reduceIte, Nat.reduceAdd, Nat.reduceMul, Nat.reduceSub, Nat.reduceLT, Nat.reduceLeDiff, fz, nilS, packR, List.take_nil, List.take_length, List.length_map, List.length_append, cond_true, cond_false, Nat.ble_eq, ble_self, List.map_append]
     all_goals rfl

end Go.AX.Z.TM

/-! (TMW metric checked) -/

set_option linter.unusedSimpArgs false
set_option linter.unusedVariables false
set_option maxHeartbeats 4000000
namespace Go.AX.Z.TM
open Go.AX Go.Proofs
attribute [local irreducible] awp xw xop xcall gsp ob xd xdop xcallD seqQ loopQ blkQ endQ


theorem metric_checked_p (a0 : MetricTable) (a1 : Int) {r : Int} (h0 : metric_checked a0 a1 = some r) : SndP K 34 [(.agg (E_MetricTable a0)), (vi a1)] (vi r) := by
 refine SndP.of_walkW hC (Clean.v _) (clean_cons (Clean.agg (E_MetricTable_clean _)) (clean_cons (Clean.v _) clean_nil)) (show K.P.funcs[34]? = some Try.f34 from Try.func34) rfl rfl (by decide +kernel) (Nat.le_of_ble_eq_true rfl) ?_
 unfold metric_checked at h0
 refine awp_nr [0,1] (fun _ => rfl) fun tz => ?_
 refine awp_regW fun KK hKK => ?_
 refine xw_id ?_
 try simp only [go_sem, Nat.reduceEqDiff, reduceIte, Nat.reduceAdd, Nat.reduceMul, Nat.reduceSub, Nat.reduceLT, Nat.reduceLeDiff]
 refine hKK _ _ (Wk.refl _ _ _) ?_; clear hKK KK
 refine awp_assoc ?_
 refine awp_nr [1,2] (fun _ => rfl) fun tz => ?_
 refine awp_regW fun KK hKK => ?_
 refine xw_id ?_
 obtain ⟨x9, bx9, h0⟩ := bnd h0
 try simp only [go_sem, Nat.reduceEqDiff, reduceIte, Nat.reduceAdd, Nat.reduceMul, Nat.reduceSub, Nat.reduceLT, Nat.reduceLeDiff]
 refine xcall_p (metric_Check_p a0 bx9) ?_; try dsimp only
 try refine xw_id ?_
 try simp only [go_sem, Nat.reduceEqDiff, reduceIte, Nat.reduceAdd, Nat.reduceMul, Nat.reduceSub, Nat.reduceLT, Nat.reduceLeDiff]
 refine hKK _ _ (Wk.refl _ _ _) ?_; clear hKK KK
 refine awp_assoc ?_
 refine awp_nr [1,5] (fun _ => rfl) fun tz => ?_
 refine awp_regW fun KK hKK => ?_
 refine xw_id ?_
 try simp only [go_sem, Nat.reduceEqDiff, reduceIte, Nat.reduceAdd, Nat.reduceMul, Nat.reduceSub, Nat.reduceLT, Nat.reduceLeDiff]
 refine hKK _ _ (Wk.refl _ _ _) ?_; clear hKK KK
 refine awp_cond (b := (x9 != 0)) rfl (fun h1 => ?_) (fun h1 => ?_)
 ·
  have h0 := cT h0 h1
  refine awp_assoc ?_
  refine awp_nr [5] (fun _ => rfl) fun tz => ?_
  refine awp_regW fun KK hKK => ?_
  refine xw_id ?_
  try simp only [go_sem, Nat.reduceEqDiff, reduceIte, Nat.reduceAdd, Nat.reduceMul, Nat.reduceSub, Nat.reduceLT, Nat.reduceLeDiff]
  refine hKK _ _ (Wk.refl _ _ _) ?_; clear hKK KK
  refine awp_ret ?_
  obtain rfl := someInj h0
  refine endW_i ?_
  refine end_ret0 rs34 (rfl) ?_
  try simp only [go_sem, Nat.reduceEqDiff, reduceIte, Nat.reduceAdd, Nat.reduceMul, Nat.reduceSub, Nat.reduceLT, Nat.reduceLeDiff, fz, nilS, packR, List.take_nil, List.take_length, List.length_map, List.length_append, cond_true, cond_false, Nat.ble_eq, ble_self, List.map_append]
  all_goals rfl
 ·
  have h0 := cF h0 h1
  refine awp_skip ?_
  refine awp_assoc ?_
  refine awp_nr [1] (fun _ => rfl) fun tz => ?_
  refine awp_regW fun KK hKK => ?_
  refine xw_id ?_
  refine xw_stop 3 (by (try simp only [go_sem]); rfl) (by (try simp only [go_sem]); rfl) (by rfl) fun K1 hK1 => ?_
  refine xw_id ?_
  try simp only [go_sem, Nat.reduceEqDiff, reduceIte, Nat.reduceAdd, Nat.reduceMul, Nat.reduceSub, Nat.reduceLT, Nat.reduceLeDiff]
  refine hK1 _ ?_; clear hK1 K1
  refine xw_cut 3 [(16, (vb ((decide (a1 < 0)) || (decide (1099511627776 < a1)))))] (by (try simp only [go_sem]); rfl) (by (try simp only [go_sem]); rfl) (by rfl) (fun K1 hK1 => ?_) fun tz => ?_
  ·
   refine xw_id ?_
   rcases Bool.eq_false_or_eq_true (decide (a1 < 0)) with h2 | h2
   ·
    try simp only [go_sem, Nat.reduceEqDiff, reduceIte, Nat.reduceAdd, Nat.reduceMul, Nat.reduceSub, Nat.reduceLT, Nat.reduceLeDiff, h2]
    exact hK1 _ ⟨rfl, (by first | rfl | (rw [h2]; rfl) | (simp only [h2, Bool.true_and, Bool.false_and, Bool.true_or, Bool.false_or, cond_true, cond_false]; done)), trivial⟩
   ·
    try simp only [go_sem, Nat.reduceEqDiff, reduceIte, Nat.reduceAdd, Nat.reduceMul, Nat.reduceSub, Nat.reduceLT, Nat.reduceLeDiff, h2]
    exact hK1 _ ⟨rfl, (by first | rfl | (rw [h2]; rfl) | (simp only [h2, Bool.true_and, Bool.false_and, Bool.true_or, Bool.false_or, cond_true, cond_false]; done)), trivial⟩
  ·
   refine xw_id ?_
   try simp only [go_sem, Nat.reduceEqDiff, reduceIte, Nat.reduceAdd, Nat.reduceMul, Nat.reduceSub, Nat.reduceLT, Nat.reduceLeDiff]
   refine hKK _ _ (Wk.refl _ _ _) ?_; clear hKK KK
   refine awp_cond (b := ((decide (a1 < 0)) || (decide (1099511627776 < a1)))) rfl (fun h3 => ?_) (fun h3 => ?_)
   ·
    have h0 := cT h0 h3
    refine awp_assoc ?_
    refine awp_nr [] (fun _ => rfl) fun tz => ?_
    refine awp_regW fun KK hKK => ?_
    refine xw_id ?_
    try simp only [go_sem, Nat.reduceEqDiff, reduceIte, Nat.reduceAdd, Nat.reduceMul, Nat.reduceSub, Nat.reduceLT, Nat.reduceLeDiff]
    refine hKK _ _ (Wk.refl _ _ _) ?_; clear hKK KK
    refine awp_ret ?_
    obtain rfl := someInj h0
    refine endW_i ?_
    refine end_ret0 rs34 (rfl) ?_
    try simp only [go_sem, Nat.reduceEqDiff, reduceIte, Nat.reduceAdd, Nat.reduceMul, Nat.reduceSub, Nat.reduceLT, Nat.reduceLeDiff, fz, nilS, packR, List.take_nil, List.take_length, List.length_map, List.length_append, cond_true, cond_false, Nat.ble_eq, ble_self, List.map_append]
    all_goals rfl
   ·
    have h0 := cF h0 h3
    refine awp_skip ?_
    refine awp_nr [] (fun _ => rfl) fun tz => ?_
    refine awp_regW fun KK hKK => ?_
    refine xw_id ?_
    try simp only [go_sem, Nat.reduceEqDiff, reduceIte, Nat.reduceAdd, Nat.reduceMul, Nat.reduceSub, Nat.reduceLT, Nat.reduceLeDiff]
    refine hKK _ _ (Wk.refl _ _ _) ?_; clear hKK KK
    refine awp_ret1 ?_
    obtain rfl := someInj h0
    refine endW_i ?_
    refine end_ret0 rs34 (rfl) ?_
    try simp only [go_sem, Nat.reduceEqDiff, reduceIte, Nat.reduceAdd, Nat.reduceMul, Nat.reduceSub, Nat.reduceLT, Nat.reduceLeDiff, fz, nilS, packR, List.take_nil, List.take_length, List.length_map, List.length_append, cond_true, cond_false, Nat.ble_eq, ble_self, List.map_append]
    all_goals rfl

end Go.AX.Z.TM

/-! (TMW metric find 1) -/

set_option linter.unusedSimpArgs false
set_option linter.unusedVariables false
set_option maxHeartbeats 4000000
namespace Go.AX.Z.TM
open Go.AX Go.Proofs
attribute [local irreducible] awp xw xop xcall gsp ob xd xdop xcallD seqQ loopQ blkQ endQ


theorem metric_find_1_p (a0 : MetricLink) (a1 : Addr) {r : Int} (h0 : metric_find_1 a0 a1 = some r) : SndP K 50 [(.agg (e_MetricLink a0)), (.agg (e_Addr a1))] (vi r) := by
 refine SndP.of_walkW hC (Clean.v _) (clean_cons (Clean.agg (e_MetricLink_clean _)) (clean_cons (Clean.agg (e_Addr_clean _)) clean_nil)) (show K.P.funcs[50]? = some Try.f50 from Try.func50) rfl rfl (by decide +kernel) (Nat.le_of_ble_eq_true rfl) ?_
 unfold metric_find_1 at h0
 refine awp_nr [0,1] (fun _ => rfl) fun tz => ?_
 refine awp_regW fun KK hKK => ?_
 refine xw_id ?_
 try simp only [go_sem, Nat.reduceEqDiff, reduceIte, Nat.reduceAdd, Nat.reduceMul, Nat.reduceSub, Nat.reduceLT, Nat.reduceLeDiff]
 refine hKK _ _ (Wk.refl _ _ _) ?_; clear hKK KK
 refine awp_nr [2,3] (fun _ => rfl) fun tz => ?_
 refine awp_regW fun KK hKK => ?_
 refine xw_id ?_
 obtain ⟨x15, bx15, h0⟩ := bnd h0
 try simp only [go_sem, Nat.reduceEqDiff, reduceIte, Nat.reduceAdd, Nat.reduceMul, Nat.reduceSub, Nat.reduceLT, Nat.reduceLeDiff]
 refine xcall_p (address_Compare_p a0.Peer a1 bx15) ?_; try dsimp only
 try refine xw_id ?_
 try simp only [go_sem, Nat.reduceEqDiff, reduceIte, Nat.reduceAdd, Nat.reduceMul, Nat.reduceSub, Nat.reduceLT, Nat.reduceLeDiff]
 refine hKK _ _ (Wk.refl _ _ _) ?_; clear hKK KK
 refine awp_ret1 ?_
 obtain rfl := someInj h0
 refine endW_i ?_
 refine end_ret0 rs50 (rfl) ?_
 try simp only [go_sem, Nat.reduceEqDiff, reduceIte, Nat.reduceAdd, Nat.reduceMul, Nat.reduceSub, Nat.reduceLT, Nat.reduceLeDiff, fz, nilS, packR, List.take_nil, List.take_length, List.length_map, List.length_append, cond_true, cond_false, Nat.ble_eq, ble_self, List.map_append]
 all_goals rfl

end Go.AX.Z.TM

/-! (TMW slices BinarySearchFunc api MetricLink api MetricLink api Addr) -/

set_option linter.unusedSimpArgs false
set_option linter.unusedVariables false
set_option maxHeartbeats 4000000
namespace Go.AX.Z.TM
open Go.AX Go.Proofs
attribute [local irreducible] awp xw xop xcall gsp ob xd xdop xcallD seqQ loopQ blkQ endQ

def slices_BinarySearchFunc_api_MetricLink_api_MetricLink_api_Addr_S0 (a1 : Addr) (a0 : (List MetricLink)) (d13 : Int) : AS :=
 { objs := (upd (fun _ => .dead) 0 (.live (e_Addr a1))), next := 1, tmps := (upd (upd (upd (upd (upd (fun _ => .unk) 0 (.imm (List.flatMap e_MetricLink a0) a0.length)) 2 (.clo 50 [] [])) 4 (.ptr 0 0)) 8 (vi (a0.length : Int))) 9 (vi d13)) }

def slices_BinarySearchFunc_api_MetricLink_api_MetricLink_api_Addr_S1 (a1 : Addr) (a0 : (List MetricLink)) (d14 : (Int × Int)) : AS :=
 { objs := (upd (fun _ => .dead) 0 (.live (e_Addr a1))), next := 1, tmps := (upd (upd (upd (upd (upd (upd (fun _ => .unk) 0 (.imm (List.flatMap e_MetricLink a0) a0.length)) 2 (.clo 50 [] [])) 4 (.ptr 0 0)) 8 (vi (a0.length : Int))) 9 (vi d14.1)) 10 (vi d14.2)) }

theorem slices_BinarySearchFunc_api_MetricLink_api_MetricLink_api_Addr_p (a0 : (List MetricLink)) (a1 : Addr) {r : (Int × Bool)} (h0 : slices_BinarySearchFunc_api_MetricLink_api_MetricLink_api_Addr a0 a1 = some r) : SndP K 49 [(S_MetricLink a0), (.agg (e_Addr a1)), (.clo 50 [] [])] (.tup [(vi r.1), (vb r.2)]) := by
 refine SndP.of_walkW hC (Clean.tup (clean_cons (Clean.v _) (clean_cons (Clean.v _) clean_nil))) (clean_cons (S_MetricLink_clean _) (clean_cons (Clean.agg (e_Addr_clean _)) (clean_cons (Clean.clo clean_nil clean_nil) clean_nil))) (show K.P.funcs[49]? = some Try.f49 from Try.func49) rfl rfl (by decide +kernel) (Nat.le_of_ble_eq_true rfl) ?_
 unfold slices_BinarySearchFunc_api_MetricLink_api_MetricLink_api_Addr at h0
 refine awp_nr [0,1,2] (fun _ => rfl) fun tz => ?_
 refine awp_regW fun KK hKK => ?_
 refine xw_id ?_
 try simp only [go_sem, Nat.reduceEqDiff, reduceIte, Nat.reduceAdd, Nat.reduceMul, Nat.reduceSub, Nat.reduceLT, Nat.reduceLeDiff]
 refine hKK _ _ (Wk.refl _ _ _) ?_; clear hKK KK
 refine awp_nr [0,2,4] (fun _ => rfl) fun tz => ?_
 refine awp_regW fun KK hKK => ?_
 refine xw_id ?_
 try simp only [go_sem, Nat.reduceEqDiff, reduceIte, Nat.reduceAdd, Nat.reduceMul, Nat.reduceSub, Nat.reduceLT, Nat.reduceLeDiff, Int.reduceToNat, Int.reduceBEq, Int.reduceBNe, Int.reduceLT, Int.reduceLE, Int.reduceAdd, Int.reduceSub, Int.reduceMul, Int.reduceNeg, Int.reduceEq, Int.reduceNe]
 refine hKK _ _ (Wk.refl _ _ _) ?_; clear hKK KK
 refine awp_nr [0,2,4,8] (fun _ => rfl) fun tz => ?_
 refine awp_regW fun KK hKK => ?_
 refine xw_id ?_
 try simp only [go_sem, Nat.reduceEqDiff, reduceIte, Nat.reduceAdd, Nat.reduceMul, Nat.reduceSub, Nat.reduceLT, Nat.reduceLeDiff]
 refine hKK _ _ (Wk.refl _ _ _) ?_; clear hKK KK
 obtain ⟨d13, hi1, h0⟩ := bnd h0
 refine awp_cut (fun z => d13 = z) (fun d13 : Int => slices_BinarySearchFunc_api_MetricLink_api_MetricLink_api_Addr_S0 a1 a0 d13) ?_ ?_
 ·
  refine awp_block1 ?_
  refine awp_loopS (fun n (d14 : (Int × Int)) => slices_BinarySearchFunc_api_MetricLink_api_MetricLink_api_Addr_L2 a0 a1 n d14 = some d13) (fun d14 : (Int × Int) => slices_BinarySearchFunc_api_MetricLink_api_MetricLink_api_Addr_S1 a1 a0 d14) big (0, (a0.length : Int)) (Wk.canonD [] [] [some 0] rfl trivial rfl (tmOU 0 tmO0 rfl List.not_mem_nil (by simp only [upd_get, Nat.reduceEqDiff, reduceIte, Nat.reduceAdd, Nat.reduceMul, Nat.reduceSub, Nat.reduceLT, Nat.reduceLeDiff, if_true, if_false] <;> rfl) (TmL.clean (e_Addr_clean _))) (tmAllU 10 (tmAllU 9 (tmAllU 8 (tmAllU 4 (tmAllU 2 (tmAllU 0 tmAll0 (Tm.clean (Clean.imm (c_MetricLink _)))) (Tm.clo TmL.nil TmL.nil)) (Tm.ptr rfl)) (Tm.v _)) (Tm.v _)) (Tm.v _))) hi1 ?_
  clear hi1
  rintro n d14 hl3
  rcases n with _ | n2
  ·
   (rw [slices_BinarySearchFunc_api_MetricLink_api_MetricLink_api_Addr_L2] at hl3; cases hl3)
  ·
   rw [slices_BinarySearchFunc_api_MetricLink_api_MetricLink_api_Addr_L2] at hl3
   unfold slices_BinarySearchFunc_api_MetricLink_api_MetricLink_api_Addr_S1
   refine awp_assoc ?_
   refine awp_nr [0,2,4,8,9,10] (fun _ => rfl) fun tz => ?_
   refine awp_regW fun KK hKK => ?_
   refine xw_id ?_
   try simp only [go_sem, Nat.reduceEqDiff, reduceIte, Nat.reduceAdd, Nat.reduceMul, Nat.reduceSub, Nat.reduceLT, Nat.reduceLeDiff]
   refine hKK _ _ (Wk.refl _ _ _) ?_; clear hKK KK
   refine awp_cond (b := (decide (d14.1 < d14.2))) rfl (fun h4 => ?_) (fun h4 => ?_)
   ·
    have hl3 := cT hl3 h4
    refine awp_skip ?_
    refine awp_block1 ?_
    refine awp_nr [0,2,4,8,9,10] (fun _ => rfl) fun tz => ?_
    refine awp_regW fun KK hKK => ?_
    refine xw_id ?_
    try simp only [go_sem, Nat.reduceEqDiff, reduceIte, Nat.reduceAdd, Nat.reduceMul, Nat.reduceSub, Nat.reduceLT, Nat.reduceLeDiff, Int.reduceToNat, Int.reduceBEq, Int.reduceBNe, Int.reduceLT, Int.reduceLE, Int.reduceAdd, Int.reduceSub, Int.reduceMul, Int.reduceNeg, Int.reduceEq, Int.reduceNe]
    refine hKK _ _ (Wk.refl _ _ _) ?_; clear hKK KK
    refine awp_nr [0,2,4,8,9,10,11] (fun _ => rfl) fun tz => ?_
    refine awp_regW fun KK hKK => ?_
    refine xw_id ?_
    obtain ⟨x15, bx15, hl3⟩ := bnd hl3
    obtain ⟨fx15_0, fx15_1, fx15_2, fx15_3⟩ := idx_some bx15
    obtain ⟨x16, bx16, hl3⟩ := bnd hl3
    try simp only [go_sem, Nat.reduceEqDiff, reduceIte, Nat.reduceAdd, Nat.reduceMul, Nat.reduceSub, Nat.reduceLT, Nat.reduceLeDiff, fx15_0, fx15_1, fx15_2]
    refine xcall_p (metric_find_1_p x15 a1 bx16) ?_; try dsimp only
    try refine xw_id ?_
    try simp only [go_sem, Nat.reduceEqDiff, reduceIte, Nat.reduceAdd, Nat.reduceMul, Nat.reduceSub, Nat.reduceLT, Nat.reduceLeDiff, fx15_0, fx15_1, fx15_2]
    refine hKK _ _ (Wk.refl _ _ _) ?_; clear hKK KK
    refine awp_cond1 (b := (decide (x16 < 0))) rfl (fun h5 => ?_) (fun h5 => ?_)
    ·
     have hl3 := cT hl3 h5
     refine awp_nr1 [0,2,4,8,10,11] (fun _ => rfl) fun tz => ?_
     refine awp_reg1 fun KK hKK => ?_
     refine xw_id ?_
     try simp only [go_sem, Nat.reduceEqDiff, reduceIte, Nat.reduceAdd, Nat.reduceMul, Nat.reduceSub, Nat.reduceLT, Nat.reduceLeDiff, fx15_0, fx15_1, fx15_2]
     refine hKK _ ?_; clear hKK KK
     refine bq_n ?_
     refine lq_n ?_
     exact ⟨n2, (IntKind.wrap .i64 ((IntKind.wrap .i64 (((IntKind.wrap .u64 (IntKind.wrap .i64 (d14.1 + d14.2)))).fdiv (2 ^ (min 1 64)))) + 1), d14.2), rfl, hl3, (Wk.canonD [] [] [some 0] rfl trivial rfl (tmOU 0 tmO0 rfl List.not_mem_nil (by simp only [upd_get, Nat.reduceEqDiff, reduceIte, Nat.reduceAdd, Nat.reduceMul, Nat.reduceSub, Nat.reduceLT, Nat.reduceLeDiff, if_true, if_false] <;> rfl) (TmL.clean (e_Addr_clean _))) (tmAllU 10 (tmAllU 9 (tmAllU 8 (tmAllU 4 (tmAllU 2 (tmAllU 0 tmAll0 (Tm.clean (Clean.imm (c_MetricLink _)))) (Tm.clo TmL.nil TmL.nil)) (Tm.ptr rfl)) (Tm.v _)) (Tm.v _)) (Tm.v _)))⟩
    ·
     have hl3 := cF hl3 h5
     refine awp_nr1 [0,2,4,8,9,11] (fun _ => rfl) fun tz => ?_
     refine awp_reg1 fun KK hKK => ?_
     refine xw_id ?_
     try simp only [go_sem, Nat.reduceEqDiff, reduceIte, Nat.reduceAdd, Nat.reduceMul, Nat.reduceSub, Nat.reduceLT, Nat.reduceLeDiff, fx15_0, fx15_1, fx15_2]
     refine hKK _ ?_; clear hKK KK
     refine bq_n ?_
     refine lq_n ?_
     exact ⟨n2, (d14.1, IntKind.wrap .i64 (((IntKind.wrap .u64 (IntKind.wrap .i64 (d14.1 + d14.2)))).fdiv (2 ^ (min 1 64)))), rfl, hl3, (Wk.canonD [] [] [some 0] rfl trivial rfl (tmOU 0 tmO0 rfl List.not_mem_nil (by simp only [upd_get, Nat.reduceEqDiff, reduceIte, Nat.reduceAdd, Nat.reduceMul, Nat.reduceSub, Nat.reduceLT, Nat.reduceLeDiff, if_true, if_false] <;> rfl) (TmL.clean (e_Addr_clean _))) (tmAllU 10 (tmAllU 9 (tmAllU 8 (tmAllU 4 (tmAllU 2 (tmAllU 0 tmAll0 (Tm.clean (Clean.imm (c_MetricLink _)))) (Tm.clo TmL.nil TmL.nil)) (Tm.ptr rfl)) (Tm.v _)) (Tm.v _)) (Tm.v _)))⟩
   ·
    have hl3 := cF hl3 h4
    refine awp_exit ?_
    refine lq_e ?_
    refine bq_e ?_
    refine sq_n ?_
    obtain rfl := someInj hl3
    exact ⟨_, rfl, (Wk.canonD [] [] [some 0] rfl trivial rfl (tmOU 0 tmO0 rfl List.not_mem_nil (by simp only [upd_get, Nat.reduceEqDiff, reduceIte, Nat.reduceAdd, Nat.reduceMul, Nat.reduceSub, Nat.reduceLT, Nat.reduceLeDiff, if_true, if_false] <;> rfl) (TmL.clean (e_Addr_clean _))) (tmAllU 9 (tmAllU 8 (tmAllU 4 (tmAllU 2 (tmAllU 0 tmAll0 (Tm.clean (Clean.imm (c_MetricLink _)))) (Tm.clo TmL.nil TmL.nil)) (Tm.ptr rfl)) (Tm.v _)) (Tm.v _)))⟩
 ·
  rintro _ rfl
  clear hi1
  unfold slices_BinarySearchFunc_api_MetricLink_api_MetricLink_api_Addr_S0
  refine awp_nr [0,2,4,8,9] (fun _ => rfl) fun tz => ?_
  refine awp_regW fun KK hKK => ?_
  refine xw_id ?_
  refine xw_stop 5 (by (try simp only [go_sem]); rfl) (by (try simp only [go_sem]); rfl) (by rfl) fun K1 hK1 => ?_
  refine xw_id ?_
  try simp only [go_sem, Nat.reduceEqDiff, reduceIte, Nat.reduceAdd, Nat.reduceMul, Nat.reduceSub, Nat.reduceLT, Nat.reduceLeDiff]
  refine hK1 _ ?_; clear hK1 K1
  obtain ⟨x19, hvh6, h0⟩ := bnd h0
  refine xw_cut 9 [(35, (vi d13)), (48, (vb x19))] (by (try simp only [go_sem]); rfl) (by (try simp only [go_sem]); rfl) (by rfl) (fun K1 hK1 => ?_) fun tz => ?_
  ·
   refine xw_id ?_
   rcases Bool.eq_false_or_eq_true (decide (d13 < (a0.length : Int))) with h6 | h6
   ·
    have hvh6 := cT hvh6 h6
    obtain ⟨x17, bx17, hvh6⟩ := bnd hvh6
    obtain ⟨fx17_0, fx17_1, fx17_2, fx17_3⟩ := idx_some bx17
    obtain ⟨x18, bx18, hvh6⟩ := bnd hvh6
    try simp only [go_sem, Nat.reduceEqDiff, reduceIte, Nat.reduceAdd, Nat.reduceMul, Nat.reduceSub, Nat.reduceLT, Nat.reduceLeDiff, h6, fx17_0, fx17_1, fx17_2]
    refine xcall_p (metric_find_1_p x17 a1 bx18) ?_; try dsimp only
    try refine xw_id ?_
    try simp only [go_sem, Nat.reduceEqDiff, reduceIte, Nat.reduceAdd, Nat.reduceMul, Nat.reduceSub, Nat.reduceLT, Nat.reduceLeDiff, h6, fx17_0, fx17_1, fx17_2]
    obtain rfl := someInj hvh6
    exact hK1 _ ⟨rfl, rfl, (by first | rfl | (rw [h6]; rfl) | (simp only [h6, Bool.true_and, Bool.false_and, Bool.true_or, Bool.false_or, cond_true, cond_false]; done)), trivial⟩
   ·
    have hvh6 := cF hvh6 h6
    try simp only [go_sem, Nat.reduceEqDiff, reduceIte, Nat.reduceAdd, Nat.reduceMul, Nat.reduceSub, Nat.reduceLT, Nat.reduceLeDiff, h6]
    obtain rfl := someInj hvh6
    exact hK1 _ ⟨rfl, rfl, (by first | rfl | (rw [h6]; rfl) | (simp only [h6, Bool.true_and, Bool.false_and, Bool.true_or, Bool.false_or, cond_true, cond_false]; done)), trivial⟩
  ·
   refine xw_id ?_
   try simp only [go_sem, Nat.reduceEqDiff, reduceIte, Nat.reduceAdd, Nat.reduceMul, Nat.reduceSub, Nat.reduceLT, Nat.reduceLeDiff]
   refine hKK _ _ (Wk.refl _ _ _) ?_; clear hKK KK
   refine awp_ret1 ?_
   obtain rfl := someInj h0
   refine endW_i ?_
   refine end_ret0 rs49 (rfl) ?_
   try simp only [go_sem, Nat.reduceEqDiff, reduceIte, Nat.reduceAdd, Nat.reduceMul, Nat.reduceSub, Nat.reduceLT, Nat.reduceLeDiff, fz, nilS, packR, List.take_nil, List.take_length, List.length_map, List.length_append, cond_true, cond_false, Nat.ble_eq, ble_self, List.map_append]
   all_goals rfl

end Go.AX.Z.TM

/-! (TMW metric find) -/

set_option linter.unusedSimpArgs false
set_option linter.unusedVariables false
set_option maxHeartbeats 4000000
namespace Go.AX.Z.TM
open Go.AX Go.Proofs
attribute [local irreducible] awp xw xop xcall gsp ob xd xdop xcallD seqQ loopQ blkQ endQ


theorem metric_find_p (a0 : MetricTable) (a1 : Addr) {r : (Int × Bool)} (h0 : metric_find a0 a1 = some r) : SndP K 36 [(.agg (E_MetricTable a0)), (.agg (e_Addr a1))] (.tup [(vi r.1), (vb r.2)]) := by
 refine SndP.of_walkW hC (Clean.tup (clean_cons (Clean.v _) (clean_cons (Clean.v _) clean_nil))) (clean_cons (Clean.agg (E_MetricTable_clean _)) (clean_cons (Clean.agg (e_Addr_clean _)) clean_nil)) (show K.P.funcs[36]? = some Try.f36 from Try.func36) rfl rfl (by decide +kernel) (Nat.le_of_ble_eq_true rfl) ?_
 unfold metric_find at h0
 refine awp_nr [0,1] (fun _ => rfl) fun tz => ?_
 refine awp_regW fun KK hKK => ?_
 refine xw_id ?_
 try simp only [go_sem, Nat.reduceEqDiff, reduceIte, Nat.reduceAdd, Nat.reduceMul, Nat.reduceSub, Nat.reduceLT, Nat.reduceLeDiff]
 refine hKK _ _ (Wk.refl _ _ _) ?_; clear hKK KK
 refine awp_nr [2,3] (fun _ => rfl) fun tz => ?_
 refine awp_regW fun KK hKK => ?_
 refine xw_id ?_
 obtain ⟨x13, bx13, h0⟩ := bnd h0
 try simp only [go_sem, Nat.reduceEqDiff, reduceIte, Nat.reduceAdd, Nat.reduceMul, Nat.reduceSub, Nat.reduceLT, Nat.reduceLeDiff]
 refine xcall_p (slices_BinarySearchFunc_api_MetricLink_api_MetricLink_api_Addr_p a0.Links a1 bx13) ?_; try dsimp only
 try refine xw_id ?_
 try simp only [go_sem, Nat.reduceEqDiff, reduceIte, Nat.reduceAdd, Nat.reduceMul, Nat.reduceSub, Nat.reduceLT, Nat.reduceLeDiff]
 refine hKK _ _ (Wk.refl _ _ _) ?_; clear hKK KK
 refine awp_ret1 ?_
 obtain rfl := someInj h0
 refine endW_i ?_
 refine end_ret0 rs36 (rfl) ?_
 try simp only [go_sem, Nat.reduceEqDiff, reduceIte, Nat.reduceAdd, Nat.reduceMul, Nat.reduceSub, Nat.reduceLT, Nat.reduceLeDiff, fz, nilS, packR, List.take_nil, List.take_length, List.length_map, List.length_append, cond_true, cond_false, Nat.ble_eq, ble_self, List.map_append]
 all_goals rfl

end Go.AX.Z.TM

/-! (TMW slices Clone api MetricLink api MetricLink) -/

set_option linter.unusedSimpArgs false
set_option linter.unusedVariables false
set_option maxHeartbeats 4000000
namespace Go.AX.Z.TM
open Go.AX Go.Proofs
attribute [local irreducible] awp xw xop xcall gsp ob xd xdop xcallD seqQ loopQ blkQ endQ


theorem slices_Clone_api_MetricLink_api_MetricLink_r (a0 : (List MetricLink)) {r : (List MetricLink)} (h0 : slices_Clone_api_MetricLink_api_MetricLink a0 = some r) : SndR K 37 [(S_MetricLink a0)] (fun q => (.ref (q 0) 0 r.length 9)) [(List.flatMap e_MetricLink r)] := by
 cases a0 with
 | nil =>
  refine SndR.split_nil (fun cap => ?_) (fun a cap => ?_)
  ·
   unfold slices_Clone_api_MetricLink_api_MetricLink at h0
   obtain ⟨x1, bx1, h0⟩ := bnd h0
   obtain rfl := someInj h0
   refine SndR.of_walkW hC (show K.P.funcs[37]? = some Try.f37 from Try.func37) rfl rfl (by decide +kernel) (Nat.le_of_ble_eq_true rfl) ?_
   refine awp_nr [0] (fun _ => rfl) fun tz => ?_
   refine awp_regW fun KK hKK => ?_
   refine xw_id ?_
   try simp only [go_sem, Nat.reduceEqDiff, reduceIte, Nat.reduceAdd, Nat.reduceMul, Nat.reduceSub, Nat.reduceLT, Nat.reduceLeDiff, Option.isSome_some, if_true, eq_self]
   refine hKK _ _ (Wk.refl _ _ _) ?_; clear hKK KK
   refine awp_assoc ?_
   refine awp_nr [0] (fun _ => rfl) fun tz => ?_
   refine awp_regW fun KK hKK => ?_
   refine xw_id ?_
   try simp only [go_sem, Nat.reduceEqDiff, reduceIte, Nat.reduceAdd, Nat.reduceMul, Nat.reduceSub, Nat.reduceLT, Nat.reduceLeDiff, Option.isSome_some, if_true, eq_self]
   refine hKK _ _ (Wk.refl _ _ _) ?_; clear hKK KK
   refine awp_condT rfl ?_
   refine awp_assoc ?_
   refine awp_nr [] (fun _ => rfl) fun tz => ?_
   refine awp_regW fun KK hKK => ?_
   refine xw_id ?_
   try simp only [go_sem, Nat.reduceEqDiff, reduceIte, Nat.reduceAdd, Nat.reduceMul, Nat.reduceSub, Nat.reduceLT, Nat.reduceLeDiff, Option.isSome_some, if_true, eq_self]
   refine hKK _ _ (Wk.refl _ _ _) ?_; clear hKK KK
   refine awp_ret ?_
   refine endW_i ?_
   refine end_ret0 rs37 (rfl) ?_
   exact Res.mk [] [none] rfl (resON resO0) (Tm.thaw _ _ _)
  ·
   revert h0; intro h0
   refine SndR.of_walkW hC (show K.P.funcs[37]? = some Try.f37 from Try.func37) rfl rfl (by decide +kernel) (Nat.le_of_ble_eq_true rfl) ?_
   unfold slices_Clone_api_MetricLink_api_MetricLink at h0
   refine awp_nr [0] (fun _ => rfl) fun tz => ?_
   refine awp_regW fun KK hKK => ?_
   refine xw_id ?_
   try simp only [go_sem, Nat.reduceEqDiff, reduceIte, Nat.reduceAdd, Nat.reduceMul, Nat.reduceSub, Nat.reduceLT, Nat.reduceLeDiff, Option.isSome_some, if_true, eq_self]
   refine hKK _ _ (Wk.refl _ _ _) ?_; clear hKK KK
   refine awp_assoc ?_
   refine awp_nr [0] (fun _ => rfl) fun tz => ?_
   refine awp_regW fun KK hKK => ?_
   refine xw_id ?_
   try simp only [go_sem, Nat.reduceEqDiff, reduceIte, Nat.reduceAdd, Nat.reduceMul, Nat.reduceSub, Nat.reduceLT, Nat.reduceLeDiff, Option.isSome_some, if_true, eq_self]
   refine hKK _ _ (Wk.refl _ _ _) ?_; clear hKK KK
   refine awp_condF rfl ?_
   refine awp_skip ?_
   refine awp_nr [0] (fun _ => rfl) fun tz => ?_
   refine awp_regW fun KK hKK => ?_
   refine xw_id ?_
   obtain ⟨x15, bx15, h0⟩ := bnd h0
   have bx15 := chk_some bx15
   simp only [Bool.and_eq_true, decide_eq_true_eq] at bx15
   have gx15_0 := bx15
   try simp only [go_sem, Nat.reduceEqDiff, reduceIte, Nat.reduceAdd, Nat.reduceMul, Nat.reduceSub, Nat.reduceLT, Nat.reduceLeDiff, Int.reduceToNat, Int.reduceBEq, Int.reduceBNe, Int.reduceLT, Int.reduceLE, Int.reduceAdd, Int.reduceSub, Int.reduceMul, Int.reduceNeg, Int.reduceEq, Int.reduceNe, Option.isSome_some, if_true, eq_self, gx15_0]
   refine hKK _ _ (Wk.refl _ _ _) ?_; clear hKK KK
   refine awp_ret1 ?_
   obtain rfl := someInj h0
   refine endW_i ?_
   refine end_ret0 rs37 (rfl) ?_
   refine Res.mk [] [some 5] rfl (resOU List.not_mem_nil (by simp only [upd_get, Nat.reduceEqDiff, reduceIte, Nat.reduceAdd, Nat.reduceMul, Nat.reduceSub, Nat.reduceLT, Nat.reduceLeDiff, if_true, if_false] <;> rfl) (TmL.of_eq (by first | rfl | (simp only [List.flatMap_append, List.flatMap_cons, List.flatMap_nil, List.map_append, List.map_cons, List.map_nil, List.append_nil, List.nil_append]; done) | (simp only [List.flatMap_append, List.flatMap_cons, List.flatMap_nil, List.map_append, List.map_cons, List.map_nil, List.append_nil, List.nil_append]; rfl)) (c_MetricLink _)) resO0) (Tm.refL rfl ?_)
   all_goals (first | rfl | (simp only [List.length_take]; omega) | (simp only [List.length_append, List.length_cons, List.length_nil, List.length_modify, List.length_set, Nat.zero_add]; done) | (simp only [List.length_append, List.length_take, List.length_drop, List.length_cons, List.length_nil, List.length_modify, List.length_set, Nat.zero_add]; omega))
 | cons x l =>
  generalize ha : x :: l = a0 at *
  have nb : nilB (.imm (List.flatMap e_MetricLink a0) a0.length) = some false := by subst ha; rfl
  refine SndR.of_walkW hC (show K.P.funcs[37]? = some Try.f37 from Try.func37) rfl rfl (by decide +kernel) (Nat.le_of_ble_eq_true rfl) ?_
  unfold slices_Clone_api_MetricLink_api_MetricLink at h0
  refine awp_nr [0] (fun _ => rfl) fun tz => ?_
  refine awp_regW fun KK hKK => ?_
  refine xw_id ?_
  try simp only [go_sem, Nat.reduceEqDiff, reduceIte, Nat.reduceAdd, Nat.reduceMul, Nat.reduceSub, Nat.reduceLT, Nat.reduceLeDiff, ↓nb, Option.isSome_some, if_true, eq_self]
  refine hKK _ _ (Wk.refl _ _ _) ?_; clear hKK KK
  refine awp_assoc ?_
  refine awp_nr [0] (fun _ => rfl) fun tz => ?_
  refine awp_regW fun KK hKK => ?_
  refine xw_id ?_
  try simp only [go_sem, Nat.reduceEqDiff, reduceIte, Nat.reduceAdd, Nat.reduceMul, Nat.reduceSub, Nat.reduceLT, Nat.reduceLeDiff, ↓nb, Option.isSome_some, if_true, eq_self]
  refine hKK _ _ (Wk.refl _ _ _) ?_; clear hKK KK
  refine awp_condF rfl ?_
  refine awp_skip ?_
  refine awp_nr [0] (fun _ => rfl) fun tz => ?_
  refine awp_regW fun KK hKK => ?_
  refine xw_id ?_
  obtain ⟨x15, bx15, h0⟩ := bnd h0
  have bx15 := chk_some bx15
  simp only [Bool.and_eq_true, decide_eq_true_eq] at bx15
  have gx15_0 := bx15
  try simp only [go_sem, Nat.reduceEqDiff, reduceIte, Nat.reduceAdd, Nat.reduceMul, Nat.reduceSub, Nat.reduceLT, Nat.reduceLeDiff, Int.reduceToNat, Int.reduceBEq, Int.reduceBNe, Int.reduceLT, Int.reduceLE, Int.reduceAdd, Int.reduceSub, Int.reduceMul, Int.reduceNeg, Int.reduceEq, Int.reduceNe, ↓nb, Option.isSome_some, if_true, eq_self, gx15_0]
  refine hKK _ _ (Wk.refl _ _ _) ?_; clear hKK KK
  refine awp_ret1 ?_
  obtain rfl := someInj h0
  refine endW_i ?_
  refine end_ret0 rs37 (rfl) ?_
  refine Res.mk [] [some 5] rfl (resOU List.not_mem_nil (by simp only [upd_get, Nat.reduceEqDiff, reduceIte, Nat.reduceAdd, Nat.reduceMul, Nat.reduceSub, Nat.reduceLT, Nat.reduceLeDiff, if_true, if_false] <;> rfl) (TmL.of_eq (by first | rfl | (simp only [List.flatMap_append, List.flatMap_cons, List.flatMap_nil, List.map_append, List.map_cons, List.map_nil, List.append_nil, List.nil_append]; done) | (simp only [List.flatMap_append, List.flatMap_cons, List.flatMap_nil, List.map_append, List.map_cons, List.map_nil, List.append_nil, List.nil_append]; rfl)) (c_MetricLink _)) resO0) (Tm.refL rfl ?_)
  all_goals (first | rfl | (simp only [List.length_take]; omega) | (simp only [List.length_append, List.length_cons, List.length_nil, List.length_modify, List.length_set, Nat.zero_add]; done) | (simp only [List.length_append, List.length_take, List.length_drop, List.length_cons, List.length_nil, List.length_modify, List.length_set, Nat.zero_add]; omega))

theorem slices_Clone_api_MetricLink_api_MetricLink_m (a0 : (List MetricLink)) {r : (List MetricLink)} (h0 : slices_Clone_api_MetricLink_api_MetricLink a0 = some r) : SndM K 37 [(S_MetricLink a0)] (fun q => (.ref (q 0) 0 r.length 9)) [(List.flatMap e_MetricLink r)] :=
 fun hs => Snd.of_newM (RenM.ref 0 0 _ _) (rows_all_cons (c_MetricLink _) rows_all_nil) (clean_cons (S_MetricLink_clean _) clean_nil) (slices_Clone_api_MetricLink_api_MetricLink_r a0 h0) hs

theorem slices_Clone_api_MetricLink_api_MetricLink_e (a0 : (List MetricLink)) {r : (List MetricLink)} (h0 : slices_Clone_api_MetricLink_api_MetricLink a0 = some r) (fr : Nat) (hs : HS) : SndE K 37 [(S_MetricLink a0)] hs fr ⟨(fun q : Nat → Nat => (.ref (q 0) 0 r.length 9)) fun _ => fr, .new (List.flatMap e_MetricLink r)⟩ :=
 SndE.of_res (RenM.ref 0 0 _ _) (c_MetricLink _) (clean_cons (S_MetricLink_clean _) clean_nil) (fun a b h => by simp only [h]) (slices_Clone_api_MetricLink_api_MetricLink_r a0 h0) hs fr

theorem slices_Clone_api_MetricLink_api_MetricLink_p (a0 : (List MetricLink)) {r : (List MetricLink)} (h0 : slices_Clone_api_MetricLink_api_MetricLink a0 = some r) : SndP K 37 [(S_MetricLink a0)] (S_MetricLink r) :=
 SndM.pure (slices_Clone_api_MetricLink_api_MetricLink_m a0 h0) (S_MetricLink_clean _) (clean_cons (S_MetricLink_clean _) clean_nil) (by simp only [go_sem, newL_n, newL_c, upd_get, fz, nilS, cond_true, cond_false, List.drop_zero, List.take_length, List.length_map, ble_self, Nat.reduceEqDiff, reduceIte, Nat.reduceAdd, Nat.reduceMul, Nat.reduceSub, Nat.reduceLT, Nat.reduceLeDiff] <;> rfl)

end Go.AX.Z.TM

/-! (TMW slices Insert api MetricLink api MetricLink) -/

set_option linter.unusedSimpArgs false
set_option linter.unusedVariables false
set_option maxHeartbeats 4000000
namespace Go.AX.Z.TM
open Go.AX Go.Proofs
attribute [local irreducible] awp xw xop xcall gsp ob xd xdop xcallD seqQ loopQ blkQ endQ


theorem slices_Insert_api_MetricLink_api_MetricLink_io (a0 : Int) (a1 : List MetricLink) (a2 : List MetricLink) {r : (List MetricLink)} (h0 : slices_Insert_api_MetricLink_api_MetricLink a0 a1 a2 = some r) : SndIO K 38 2 (fun q => [(.ref (q 0) 0 a1.length 9), (vi a0), (.ref (q 1) 0 a2.length 9)]) [(fun q => (List.flatMap e_MetricLink a1)), (fun q => (List.flatMap e_MetricLink a2))] (fun q => (.ref (q 2) 0 ((r).length) 9)) [none, (some (fun q => (List.flatMap e_MetricLink a2))), (some (fun q => (List.flatMap e_MetricLink r)))] := by
 refine SndIO.of_walkW hC (RenML.cons (RenM.ref 0 0 _ _) (RenML.cons (RenM.const (Clean.v _)) (RenML.cons (RenM.ref 1 0 _ _) RenML.nil))) (tpl_cons (RenML.const (c_MetricLink _)) (tpl_cons (RenML.const (c_MetricLink _)) tpl_nil)) (otpl_none (otpl_some (RenML.const (c_MetricLink _)) (otpl_some (RenML.const (c_MetricLink _)) otpl_nil))) (RenM.ref 2 0 _ _) rfl (Nat.le_of_ble_eq_true rfl) (show K.P.funcs[38]? = some Try.f38 from Try.func38) rfl rfl (by decide +kernel) (Nat.le_of_ble_eq_true rfl) ?_
 unfold slices_Insert_api_MetricLink_api_MetricLink at h0
 refine awp_nr [0,1,2] (fun _ => rfl) fun tz => ?_
 refine awp_regW fun KK hKK => ?_
 refine xw_id ?_
 try simp only [go_sem, Nat.reduceEqDiff, reduceIte, Nat.reduceAdd, Nat.reduceMul, Nat.reduceSub, Nat.reduceLT, Nat.reduceLeDiff, Int.reduceToNat, Int.reduceBEq, Int.reduceBNe, Int.reduceLT, Int.reduceLE, Int.reduceAdd, Int.reduceSub, Int.reduceMul, Int.reduceNeg, Int.reduceEq, Int.reduceNe]
 refine hKK _ _ (Wk.refl _ _ _) ?_; clear hKK KK
 refine awp_nr [0,1,2] (fun _ => rfl) fun tz => ?_
 refine awp_regW fun KK hKK => ?_
 refine xw_id ?_
 obtain ⟨x17, bx17, h0⟩ := bnd h0
 have bx17 := chk_some bx17
 simp only [Bool.and_eq_true, decide_eq_true_eq] at bx17
 obtain ⟨gx17_0, gx17_1⟩ := bx17
 have g1 : (((a1.length : Nat) : Int) - a0).toNat = a1.length - (a0).toNat := by omega
 try simp only [go_sem, Nat.reduceEqDiff, reduceIte, Nat.reduceAdd, Nat.reduceMul, Nat.reduceSub, Nat.reduceLT, Nat.reduceLeDiff, gx17_0, gx17_1, g1]
 refine hKK _ _ (Wk.refl _ _ _) ?_; clear hKK KK
 refine awp_nr [0,1,2] (fun _ => rfl) fun tz => ?_
 refine awp_regW fun KK hKK => ?_
 refine xw_id ?_
 try simp only [go_sem, Nat.reduceEqDiff, reduceIte, Nat.reduceAdd, Nat.reduceMul, Nat.reduceSub, Nat.reduceLT, Nat.reduceLeDiff, Int.reduceToNat, Int.reduceBEq, Int.reduceBNe, Int.reduceLT, Int.reduceLE, Int.reduceAdd, Int.reduceSub, Int.reduceMul, Int.reduceNeg, Int.reduceEq, Int.reduceNe]
 refine hKK _ _ (Wk.refl _ _ _) ?_; clear hKK KK
 refine awp_assoc ?_
 refine awp_nr [0,1,2,7] (fun _ => rfl) fun tz => ?_
 refine awp_regW fun KK hKK => ?_
 refine xw_id ?_
 try simp only [go_sem, Nat.reduceEqDiff, reduceIte, Nat.reduceAdd, Nat.reduceMul, Nat.reduceSub, Nat.reduceLT, Nat.reduceLeDiff]
 refine hKK _ _ (Wk.refl _ _ _) ?_; clear hKK KK
 refine awp_cond (b := (((a2.length : Nat) : Int) == 0)) rfl (fun h2 => ?_) (fun h2 => ?_)
 ·
  have h0 := cT h0 h2
  refine awp_assoc ?_
  refine awp_nr [0] (fun _ => rfl) fun tz => ?_
  refine awp_regW fun KK hKK => ?_
  refine xw_id ?_
  try simp only [go_sem, Nat.reduceEqDiff, reduceIte, Nat.reduceAdd, Nat.reduceMul, Nat.reduceSub, Nat.reduceLT, Nat.reduceLeDiff]
  refine hKK _ _ (Wk.refl _ _ _) ?_; clear hKK KK
  refine awp_ret ?_
  obtain rfl := someInj h0
  refine endW_i ?_
  refine end_ret0 rs38 (rfl) ?_
  refine ResIO.mk [] [some 0, some 1, some 0] rfl (resED (resEU List.not_mem_nil (by simp only [upd_get, Nat.reduceEqDiff, reduceIte, Nat.reduceAdd, Nat.reduceMul, Nat.reduceSub, Nat.reduceLT, Nat.reduceLeDiff, if_true, if_false] <;> rfl) (TmL.of_eq (by first | rfl | (simp only [List.flatMap_append, List.flatMap_cons, List.flatMap_nil, List.map_append, List.map_cons, List.map_nil, List.append_nil, List.nil_append]; done) | (simp only [List.flatMap_append, List.flatMap_cons, List.flatMap_nil, List.map_append, List.map_cons, List.map_nil, List.append_nil, List.nil_append]; rfl)) (c_MetricLink _)) (resEU List.not_mem_nil (by simp only [upd_get, Nat.reduceEqDiff, reduceIte, Nat.reduceAdd, Nat.reduceMul, Nat.reduceSub, Nat.reduceLT, Nat.reduceLeDiff, if_true, if_false] <;> rfl) (TmL.of_eq (by first | rfl | (simp only [List.flatMap_append, List.flatMap_cons, List.flatMap_nil, List.map_append, List.map_cons, List.map_nil, List.append_nil, List.nil_append]; done) | (simp only [List.flatMap_append, List.flatMap_cons, List.flatMap_nil, List.map_append, List.map_cons, List.map_nil, List.append_nil, List.nil_append]; rfl)) (c_MetricLink _)) resE0))) (Tm.refL rfl ?_)
  all_goals (first | rfl | (simp only [List.length_take]; omega) | (simp only [List.length_append, List.length_cons, List.length_nil, List.length_modify, List.length_set, Nat.zero_add]; done) | (simp only [List.length_append, List.length_take, List.length_drop, List.length_cons, List.length_nil, List.length_modify, List.length_set, Nat.zero_add]; omega))
 ·
  have h0 := cF h0 h2
  refine awp_skip ?_
  refine awp_nr [0,1,2,7] (fun _ => rfl) fun tz => ?_
  refine awp_regW fun KK hKK => ?_
  refine xw_id ?_
  try simp only [go_sem, Nat.reduceEqDiff, reduceIte, Nat.reduceAdd, Nat.reduceMul, Nat.reduceSub, Nat.reduceLT, Nat.reduceLeDiff, Int.reduceToNat, Int.reduceBEq, Int.reduceBNe, Int.reduceLT, Int.reduceLE, Int.reduceAdd, Int.reduceSub, Int.reduceMul, Int.reduceNeg, Int.reduceEq, Int.reduceNe]
  refine hKK _ _ (Wk.refl _ _ _) ?_; clear hKK KK
  refine awp_assoc ?_
  refine awp_nr [0,1,2,7,8] (fun _ => rfl) fun tz => ?_
  refine awp_regW fun KK hKK => ?_
  refine xw_id ?_
  try simp only [go_sem, Nat.reduceEqDiff, reduceIte, Nat.reduceAdd, Nat.reduceMul, Nat.reduceSub, Nat.reduceLT, Nat.reduceLeDiff]
  refine hKK _ _ (Wk.refl _ _ _) ?_; clear hKK KK
  refine awp_cond (b := (a0 == ((a1.length : Nat) : Int))) rfl (fun h3 => ?_) (fun h3 => ?_)
  ·
   have h0 := cT h0 h3
   refine awp_assoc ?_
   refine awp_nr [0,2] (fun _ => rfl) fun tz => ?_
   refine awp_regW fun KK hKK => ?_
   refine xw_id ?_
   obtain ⟨x18, bx18, h0⟩ := bnd h0
   have bx18 := chk_some bx18
   simp only [Bool.and_eq_true, decide_eq_true_eq] at bx18
   have gx18_0 := bx18
   try simp only [go_sem, Nat.reduceEqDiff, reduceIte, Nat.reduceAdd, Nat.reduceMul, Nat.reduceSub, Nat.reduceLT, Nat.reduceLeDiff, Int.reduceToNat, Int.reduceBEq, Int.reduceBNe, Int.reduceLT, Int.reduceLE, Int.reduceAdd, Int.reduceSub, Int.reduceMul, Int.reduceNeg, Int.reduceEq, Int.reduceNe, gx18_0]
   refine hKK _ _ (Wk.refl _ _ _) ?_; clear hKK KK
   refine awp_ret ?_
   obtain rfl := someInj h0
   refine endW_i ?_
   refine end_ret0 rs38 (rfl) ?_
   refine ResIO.mk [] [some 0, some 1, some 19] rfl (resED (resEU List.not_mem_nil (by simp only [upd_get, Nat.reduceEqDiff, reduceIte, Nat.reduceAdd, Nat.reduceMul, Nat.reduceSub, Nat.reduceLT, Nat.reduceLeDiff, if_true, if_false] <;> rfl) (TmL.of_eq (by first | rfl | (simp only [List.flatMap_append, List.flatMap_cons, List.flatMap_nil, List.map_append, List.map_cons, List.map_nil, List.append_nil, List.nil_append]; done) | (simp only [List.flatMap_append, List.flatMap_cons, List.flatMap_nil, List.map_append, List.map_cons, List.map_nil, List.append_nil, List.nil_append]; rfl)) (c_MetricLink _)) (resEU List.not_mem_nil (by simp only [upd_get, Nat.reduceEqDiff, reduceIte, Nat.reduceAdd, Nat.reduceMul, Nat.reduceSub, Nat.reduceLT, Nat.reduceLeDiff, if_true, if_false] <;> rfl) (TmL.of_eq (by first | rfl | (simp only [List.flatMap_append, List.flatMap_cons, List.flatMap_nil, List.map_append, List.map_cons, List.map_nil, List.append_nil, List.nil_append]; done) | (simp only [List.flatMap_append, List.flatMap_cons, List.flatMap_nil, List.map_append, List.map_cons, List.map_nil, List.append_nil, List.nil_append]; rfl)) (c_MetricLink _)) resE0))) (Tm.refL rfl ?_)
   all_goals (first | rfl | (simp only [List.length_take]; omega) | (simp only [List.length_append, List.length_cons, List.length_nil, List.length_modify, List.length_set, Nat.zero_add]; done) | (simp only [List.length_append, List.length_take, List.length_drop, List.length_cons, List.length_nil, List.length_modify, List.length_set, Nat.zero_add]; omega))
  ·
   have h0 := cF h0 h3
   refine awp_skip ?_
   refine awp_assoc ?_
   refine awp_nr [0,1,2,7,8] (fun _ => rfl) fun tz => ?_
   refine awp_regW fun KK hKK => ?_
   refine xw_id ?_
   cases h0

end Go.AX.Z.TM

/-! (TMW metric Heard) -/

set_option linter.unusedSimpArgs false
set_option linter.unusedVariables false
set_option maxHeartbeats 4000000
namespace Go.AX.Z.TM
open Go.AX Go.Proofs
attribute [local irreducible] awp xw xop xcall gsp ob xd xdop xcallD seqQ loopQ blkQ endQ

def metric_Heard_S0 (a0 : MetricTable) (a1 : Addr) (a2 : Int) (a3 : Bool) (a4 : Int) (x9 : Int) : AS :=
 { objs := (upd (upd (upd (fun _ => .dead) 0 (.live (e_MetricTable a0 (.imm (List.flatMap e_MetricLink a0.Links) a0.Links.length)))) 1 (.live (e_Addr a1))) 2 (.live (e_MetricTable MetricTable.z vnil))), next := 3, tmps := (upd (upd (upd (upd (upd (upd (upd (fun _ => .unk) 2 (vi a2)) 3 (vb a3)) 4 (vi a4)) 5 (.ptr 0 0)) 6 (.ptr 1 0)) 10 (.ptr 2 0)) 12 (vi x9)) }

def metric_Heard_S1 (a0 : MetricTable) (x13 : (List MetricLink)) (a1 : Addr) (a2 : Int) (a3 : Bool) (a4 : Int) (x12 : (Int × Bool)) : AS :=
 { objs := (upd (upd (upd (upd (fun _ => .dead) 0 (.live (e_MetricTable a0 (.ref 1 0 x13.length 9)))) 1 (.live (List.flatMap e_MetricLink x13))) 2 (.live (e_Addr a1))) 3 (.live (e_MetricTable MetricTable.z vnil))), next := 4, tmps := (upd (upd (upd (upd (upd (upd (upd (upd (fun _ => .unk) 2 (vi a2)) 3 (vb a3)) 4 (vi a4)) 5 (.ptr 0 0)) 6 (.ptr 2 0)) 10 (.ptr 3 0)) 13 (vi x12.1)) 14 (vb x12.2)) }

theorem metric_Heard_r (a0 : MetricTable) (a1 : Addr) (a2 : Int) (a3 : Bool) (a4 : Int) {r : (MetricTable × Int)} (h0 : metric_Heard a0 a1 a2 a3 a4 = some r) : SndR K 19 [(.agg (E_MetricTable a0)), (.agg (e_Addr a1)), (vi a2), (vb a3), (vi a4)] (fun q => (.tup [(.agg (e_MetricTable r.1 (.ref (q 0) 0 r.1.Links.length 9))), (vi r.2)])) [(List.flatMap e_MetricLink r.1.Links)] := by
 refine SndR.of_walkW hC (show K.P.funcs[19]? = some Try.f19 from Try.func19) rfl rfl (by decide +kernel) (Nat.le_of_ble_eq_true rfl) ?_
 unfold metric_Heard at h0
 refine awp_nr [0,1,2,3,4] (fun _ => rfl) fun tz => ?_
 refine awp_regW fun KK hKK => ?_
 refine xw_id ?_
 try simp only [go_sem, Nat.reduceEqDiff, reduceIte, Nat.reduceAdd, Nat.reduceMul, Nat.reduceSub, Nat.reduceLT, Nat.reduceLeDiff]
 refine hKK _ _ (Wk.refl _ _ _) ?_; clear hKK KK
 refine awp_assoc ?_
 refine awp_nr [2,3,4,5,6,10] (fun _ => rfl) fun tz => ?_
 refine awp_regW fun KK hKK => ?_
 refine xw_id ?_
 obtain ⟨x9, bx9, h0⟩ := bnd h0
 try simp only [go_sem, Nat.reduceEqDiff, reduceIte, Nat.reduceAdd, Nat.reduceMul, Nat.reduceSub, Nat.reduceLT, Nat.reduceLeDiff]
 refine xcall_p (metric_checked_p a0 a4 bx9) ?_; try dsimp only
 try refine xw_id ?_
 try simp only [go_sem, Nat.reduceEqDiff, reduceIte, Nat.reduceAdd, Nat.reduceMul, Nat.reduceSub, Nat.reduceLT, Nat.reduceLeDiff]
 refine hKK _ (metric_Heard_S0 a0 a1 a2 a3 a4 x9) (Wk.canonD [] [] [some 0, some 1, some 2] rfl trivial rfl (tmOU 2 (tmOU 1 (tmOU 0 tmO0 rfl List.not_mem_nil (by simp only [upd_get, Nat.reduceEqDiff, reduceIte, Nat.reduceAdd, Nat.reduceMul, Nat.reduceSub, Nat.reduceLT, Nat.reduceLeDiff, if_true, if_false] <;> rfl) (e_MetricTable_tmx (by rfl) (Tm.clean (Clean.imm (c_MetricLink _))))) rfl List.not_mem_nil (by simp only [upd_get, Nat.reduceEqDiff, reduceIte, Nat.reduceAdd, Nat.reduceMul, Nat.reduceSub, Nat.reduceLT, Nat.reduceLeDiff, if_true, if_false] <;> rfl) (TmL.clean (e_Addr_clean _))) rfl List.not_mem_nil (by simp only [upd_get, Nat.reduceEqDiff, reduceIte, Nat.reduceAdd, Nat.reduceMul, Nat.reduceSub, Nat.reduceLT, Nat.reduceLeDiff, if_true, if_false] <;> rfl) (e_MetricTable_tmx (by rfl) (Tm.v _))) (tmAllU 12 (tmAllU 10 (tmAllU 6 (tmAllU 5 (tmAllU 4 (tmAllU 3 (tmAllU 2 tmAll0 (Tm.v _)) (Tm.v _)) (Tm.v _)) (Tm.ptr rfl)) (Tm.ptr rfl)) (Tm.ptr rfl)) (Tm.v _))) ?_; clear hKK KK
 unfold metric_Heard_S0
 refine awp_assoc ?_
 refine awp_nr [2,3,4,5,6,10,12] (fun _ => rfl) fun tz => ?_
 refine awp_regW fun KK hKK => ?_
 refine xw_id ?_
 try simp only [go_sem, Nat.reduceEqDiff, reduceIte, Nat.reduceAdd, Nat.reduceMul, Nat.reduceSub, Nat.reduceLT, Nat.reduceLeDiff]
 refine hKK _ _ (Wk.refl _ _ _) ?_; clear hKK KK
 refine awp_cond (b := (x9 != 0)) rfl (fun h1 => ?_) (fun h1 => ?_)
 ·
  have h0 := cT h0 h1
  refine awp_assoc ?_
  refine awp_nr [10,12] (fun _ => rfl) fun tz => ?_
  refine awp_regW fun KK hKK => ?_
  refine xw_id ?_
  try simp only [go_sem, Nat.reduceEqDiff, reduceIte, Nat.reduceAdd, Nat.reduceMul, Nat.reduceSub, Nat.reduceLT, Nat.reduceLeDiff]
  refine hKK _ _ (Wk.refl _ _ _) ?_; clear hKK KK
  refine awp_ret ?_
  obtain rfl := someInj h0
  refine endW_i ?_
  refine end_ret0 rs19 (by simp only [go_sem, resV, resAll, resOf, packR, Nat.reduceEqDiff, reduceIte, Nat.reduceAdd, Nat.reduceMul, Nat.reduceSub, Nat.reduceLT, Nat.reduceLeDiff]; rfl) ?_
  refine Res.mk [] [none] rfl (resON resO0) (Tm.tup (TmL.cons (Tm.agg (e_MetricTable_tmx (by rfl) (Tm.thaw _ _ _))) (TmL.cons (Tm.v _) TmL.nil)))
 ·
  have h0 := cF h0 h1
  refine awp_skip ?_
  refine awp_assoc ?_
  refine awp_nr [2,3,4,5,6,10] (fun _ => rfl) fun tz => ?_
  refine awp_regW fun KK hKK => ?_
  refine xw_id ?_
  refine xw_stop 3 (by (try simp only [go_sem]); rfl) (by (try simp only [go_sem]); rfl) (by rfl) fun K1 hK1 => ?_
  refine xw_id ?_
  try simp only [go_sem, Nat.reduceEqDiff, reduceIte, Nat.reduceAdd, Nat.reduceMul, Nat.reduceSub, Nat.reduceLT, Nat.reduceLeDiff]
  refine hK1 _ ?_; clear hK1 K1
  obtain ⟨x11, hvh2, h0⟩ := bnd h0
  refine xw_cut 4 [(2, (vi a2)), (3, (vb a3)), (4, (vi a4)), (5, (.ptr 0 0)), (6, (.ptr 1 0)), (10, (.ptr 2 0)), (29, (vb x11))] (by (try simp only [go_sem]); rfl) (by (try simp only [go_sem]); rfl) (by rfl) (fun K1 hK1 => ?_) fun tz => ?_
  ·
   refine xw_id ?_
   rcases Bool.eq_false_or_eq_true (decide (a2 < 0)) with h2 | h2
   ·
    have hvh2 := cT hvh2 h2
    try simp only [go_sem, Nat.reduceEqDiff, reduceIte, Nat.reduceAdd, Nat.reduceMul, Nat.reduceSub, Nat.reduceLT, Nat.reduceLeDiff, h2]
    obtain rfl := someInj hvh2
    exact hK1 _ ⟨rfl, rfl, rfl, rfl, rfl, rfl, rfl, (by first | rfl | (rw [h2]; rfl) | (simp only [h2, Bool.true_and, Bool.false_and, Bool.true_or, Bool.false_or, cond_true, cond_false]; done)), trivial⟩
   ·
    have hvh2 := cF hvh2 h2
    obtain ⟨x10, bx10, hvh2⟩ := bnd hvh2
    try simp only [go_sem, Nat.reduceEqDiff, reduceIte, Nat.reduceAdd, Nat.reduceMul, Nat.reduceSub, Nat.reduceLT, Nat.reduceLeDiff, h2]
    refine xcall_p (rate_Count_p  bx10) ?_; try dsimp only
    try refine xw_id ?_
    try simp only [go_sem, Nat.reduceEqDiff, reduceIte, Nat.reduceAdd, Nat.reduceMul, Nat.reduceSub, Nat.reduceLT, Nat.reduceLeDiff, h2]
    obtain rfl := someInj hvh2
    exact hK1 _ ⟨rfl, rfl, rfl, rfl, rfl, rfl, rfl, (by first | rfl | (rw [h2]; rfl) | (simp only [h2, Bool.true_and, Bool.false_and, Bool.true_or, Bool.false_or, cond_true, cond_false]; done)), trivial⟩
  ·
   refine xw_id ?_
   try simp only [go_sem, Nat.reduceEqDiff, reduceIte, Nat.reduceAdd, Nat.reduceMul, Nat.reduceSub, Nat.reduceLT, Nat.reduceLeDiff]
   refine hKK _ _ (Wk.refl _ _ _) ?_; clear hKK KK
   refine awp_cond (b := x11) rfl (fun h3 => ?_) (fun h3 => ?_)
   ·
    have h0 := cT h0 h3
    refine awp_assoc ?_
    refine awp_nr [10] (fun _ => rfl) fun tz => ?_
    refine awp_regW fun KK hKK => ?_
    refine xw_id ?_
    try simp only [go_sem, Nat.reduceEqDiff, reduceIte, Nat.reduceAdd, Nat.reduceMul, Nat.reduceSub, Nat.reduceLT, Nat.reduceLeDiff]
    refine hKK _ _ (Wk.refl _ _ _) ?_; clear hKK KK
    refine awp_ret ?_
    obtain rfl := someInj h0
    refine endW_i ?_
    refine end_ret0 rs19 (by simp only [go_sem, resV, resAll, resOf, packR, Nat.reduceEqDiff, reduceIte, Nat.reduceAdd, Nat.reduceMul, Nat.reduceSub, Nat.reduceLT, Nat.reduceLeDiff]; rfl) ?_
    refine Res.mk [] [none] rfl (resON resO0) (Tm.tup (TmL.cons (Tm.agg (e_MetricTable_tmx (by rfl) (Tm.thaw _ _ _))) (TmL.cons (Tm.v _) TmL.nil)))
   ·
    have h0 := cF h0 h3
    refine awp_skip ?_
    refine awp_nr [2,3,4,5,6,10] (fun _ => rfl) fun tz => ?_
    refine awp_regW fun KK hKK => ?_
    refine xw_id ?_
    obtain ⟨x12, bx12, h0⟩ := bnd h0
    try simp only [go_sem, Nat.reduceEqDiff, reduceIte, Nat.reduceAdd, Nat.reduceMul, Nat.reduceSub, Nat.reduceLT, Nat.reduceLeDiff]
    refine xcall_p (metric_find_p a0 a1 bx12) ?_; try dsimp only
    try refine xw_id ?_
    try simp only [go_sem, Nat.reduceEqDiff, reduceIte, Nat.reduceAdd, Nat.reduceMul, Nat.reduceSub, Nat.reduceLT, Nat.reduceLeDiff]
    refine hKK _ _ (Wk.refl _ _ _) ?_; clear hKK KK
    refine awp_blockW ?_
    refine awp_nr [2,3,4,5,6,10,13,14] (fun _ => rfl) fun tz => ?_
    refine awp_regW fun KK hKK => ?_
    refine xw_id ?_
    refine xw_stop 3 (by (try simp only [go_sem]); rfl) (by (try simp only [go_sem]); rfl) (by rfl) fun K1 hK1 => ?_
    refine xw_id ?_
    try simp only [go_sem, Nat.reduceEqDiff, reduceIte, Nat.reduceAdd, Nat.reduceMul, Nat.reduceSub, Nat.reduceLT, Nat.reduceLeDiff]
    refine hK1 _ ?_; clear hK1 K1
    refine xw_cut 3 [(2, (vi a2)), (3, (vb a3)), (4, (vi a4)), (5, (.ptr 0 0)), (6, (.ptr 1 0)), (10, (.ptr 2 0)), (13, (vi x12.1)), (14, (vb x12.2)), (43, (vb ((!x12.2) && (!a3))))] (by (try simp only [go_sem]); rfl) (by (try simp only [go_sem]); rfl) (by rfl) (fun K1 hK1 => ?_) fun tz => ?_
    ·
     refine xw_id ?_
     rcases Bool.eq_false_or_eq_true (!x12.2) with h4 | h4
     ·
      try simp only [go_sem, Nat.reduceEqDiff, reduceIte, Nat.reduceAdd, Nat.reduceMul, Nat.reduceSub, Nat.reduceLT, Nat.reduceLeDiff, h4]
      exact hK1 _ ⟨rfl, rfl, rfl, rfl, rfl, rfl, rfl, rfl, rfl, (by first | rfl | (rw [h4]; rfl) | (simp only [h4, Bool.true_and, Bool.false_and, Bool.true_or, Bool.false_or, cond_true, cond_false]; done)), trivial⟩
     ·
      try simp only [go_sem, Nat.reduceEqDiff, reduceIte, Nat.reduceAdd, Nat.reduceMul, Nat.reduceSub, Nat.reduceLT, Nat.reduceLeDiff, h4]
      exact hK1 _ ⟨rfl, rfl, rfl, rfl, rfl, rfl, rfl, rfl, rfl, (by first | rfl | (rw [h4]; rfl) | (simp only [h4, Bool.true_and, Bool.false_and, Bool.true_or, Bool.false_or, cond_true, cond_false]; done)), trivial⟩
    ·
     refine xw_id ?_
     try simp only [go_sem, Nat.reduceEqDiff, reduceIte, Nat.reduceAdd, Nat.reduceMul, Nat.reduceSub, Nat.reduceLT, Nat.reduceLeDiff]
     refine hKK _ _ (Wk.refl _ _ _) ?_; clear hKK KK
     refine awp_cond1 (b := ((!x12.2) && (!a3))) rfl (fun h5 => ?_) (fun h5 => ?_)
     ·
      have h0 := cT h0 h5
      refine awp_nr [10] (fun _ => rfl) fun tz => ?_
      refine awp_regW fun KK hKK => ?_
      refine xw_id ?_
      try simp only [go_sem, Nat.reduceEqDiff, reduceIte, Nat.reduceAdd, Nat.reduceMul, Nat.reduceSub, Nat.reduceLT, Nat.reduceLeDiff]
      refine hKK _ _ (Wk.refl _ _ _) ?_; clear hKK KK
      refine awp_ret1 ?_
      refine bq_r ?_
      refine sq_r ?_
      obtain rfl := someInj h0
      refine endW_i ?_
      refine end_ret0 rs19 (by simp only [go_sem, resV, resAll, resOf, packR, Nat.reduceEqDiff, reduceIte, Nat.reduceAdd, Nat.reduceMul, Nat.reduceSub, Nat.reduceLT, Nat.reduceLeDiff]; rfl) ?_
      refine Res.mk [] [none] rfl (resON resO0) (Tm.tup (TmL.cons (Tm.agg (e_MetricTable_tmx (by rfl) (Tm.thaw _ _ _))) (TmL.cons (Tm.v _) TmL.nil)))
     ·
      have h0 := cF h0 h5
      refine awp_nr [2,3,4,5,6,10,13,14] (fun _ => rfl) fun tz => ?_
      refine awp_regW fun KK hKK => ?_
      refine xw_id ?_
      refine xw_stop 3 (by (try simp only [go_sem]); rfl) (by (try simp only [go_sem]); rfl) (by rfl) fun K1 hK1 => ?_
      refine xw_id ?_
      try simp only [go_sem, Nat.reduceEqDiff, reduceIte, Nat.reduceAdd, Nat.reduceMul, Nat.reduceSub, Nat.reduceLT, Nat.reduceLeDiff]
      refine hK1 _ ?_; clear hK1 K1
      refine xw_cut 5 [(2, (vi a2)), (3, (vb a3)), (4, (vi a4)), (5, (.ptr 0 0)), (6, (.ptr 1 0)), (10, (.ptr 2 0)), (13, (vi x12.1)), (14, (vb x12.2)), (53, (vb ((!x12.2) && ((a0.Links.length : Int) == 32))))] (by (try simp only [go_sem]); rfl) (by (try simp only [go_sem]); rfl) (by rfl) (fun K1 hK1 => ?_) fun tz => ?_
      ·
       refine xw_id ?_
       rcases Bool.eq_false_or_eq_true (!x12.2) with h6 | h6
       ·
        try simp only [go_sem, Nat.reduceEqDiff, reduceIte, Nat.reduceAdd, Nat.reduceMul, Nat.reduceSub, Nat.reduceLT, Nat.reduceLeDiff, Int.reduceToNat, Int.reduceBEq, Int.reduceBNe, Int.reduceLT, Int.reduceLE, Int.reduceAdd, Int.reduceSub, Int.reduceMul, Int.reduceNeg, Int.reduceEq, Int.reduceNe, h6]
        exact hK1 _ ⟨rfl, rfl, rfl, rfl, rfl, rfl, rfl, rfl, rfl, (by first | rfl | (rw [h6]; rfl) | (simp only [h6, Bool.true_and, Bool.false_and, Bool.true_or, Bool.false_or, cond_true, cond_false]; done)), trivial⟩
       ·
        try simp only [go_sem, Nat.reduceEqDiff, reduceIte, Nat.reduceAdd, Nat.reduceMul, Nat.reduceSub, Nat.reduceLT, Nat.reduceLeDiff, h6]
        exact hK1 _ ⟨rfl, rfl, rfl, rfl, rfl, rfl, rfl, rfl, rfl, (by first | rfl | (rw [h6]; rfl) | (simp only [h6, Bool.true_and, Bool.false_and, Bool.true_or, Bool.false_or, cond_true, cond_false]; done)), trivial⟩
      ·
       refine xw_id ?_
       try simp only [go_sem, Nat.reduceEqDiff, reduceIte, Nat.reduceAdd, Nat.reduceMul, Nat.reduceSub, Nat.reduceLT, Nat.reduceLeDiff]
       refine hKK _ _ (Wk.refl _ _ _) ?_; clear hKK KK
       refine awp_cond1 (b := ((!x12.2) && ((a0.Links.length : Int) == 32))) rfl (fun h7 => ?_) (fun h7 => ?_)
       ·
        have h0 := cT h0 h7
        refine awp_nr [10] (fun _ => rfl) fun tz => ?_
        refine awp_regW fun KK hKK => ?_
        refine xw_id ?_
        try simp only [go_sem, Nat.reduceEqDiff, reduceIte, Nat.reduceAdd, Nat.reduceMul, Nat.reduceSub, Nat.reduceLT, Nat.reduceLeDiff]
        refine hKK _ _ (Wk.refl _ _ _) ?_; clear hKK KK
        refine awp_ret1 ?_
        refine bq_r ?_
        refine sq_r ?_
        obtain rfl := someInj h0
        refine endW_i ?_
        refine end_ret0 rs19 (by simp only [go_sem, resV, resAll, resOf, packR, Nat.reduceEqDiff, reduceIte, Nat.reduceAdd, Nat.reduceMul, Nat.reduceSub, Nat.reduceLT, Nat.reduceLeDiff]; rfl) ?_
        refine Res.mk [] [none] rfl (resON resO0) (Tm.tup (TmL.cons (Tm.agg (e_MetricTable_tmx (by rfl) (Tm.thaw _ _ _))) (TmL.cons (Tm.v _) TmL.nil)))
       ·
        have h0 := cF h0 h7
        refine awp_skip1 ?_
        refine bq_n ?_
        refine seqW_i ?_
        refine awp_nr [2,3,4,5,6,10,13,14] (fun _ => rfl) fun tz => ?_
        refine awp_regW fun KK hKK => ?_
        refine xw_id ?_
        obtain ⟨x13, bx13, h0⟩ := bnd h0
        try simp only [go_sem, Nat.reduceEqDiff, reduceIte, Nat.reduceAdd, Nat.reduceMul, Nat.reduceSub, Nat.reduceLT, Nat.reduceLeDiff]
        refine xcall_M (slices_Clone_api_MetricLink_api_MetricLink_m a0.Links bx13) ?_; try dsimp only
        try refine xw_id ?_
        try simp only [go_sem, Nat.reduceEqDiff, reduceIte, Nat.reduceAdd, Nat.reduceMul, Nat.reduceSub, Nat.reduceLT, Nat.reduceLeDiff]
        refine hKK _ (metric_Heard_S1 a0 x13 a1 a2 a3 a4 x12) (by refine Wk.canonD [] [] [some 0, some 41, some 1, some 2] rfl trivial rfl (tmOU 3 (tmOU 2 (tmOU 1 (tmOU 0 tmO0 rfl List.not_mem_nil (by simp only [upd_get, Nat.reduceEqDiff, reduceIte, Nat.reduceAdd, Nat.reduceMul, Nat.reduceSub, Nat.reduceLT, Nat.reduceLeDiff, if_true, if_false] <;> rfl) (e_MetricTable_tmx (by rfl) (Tm.refL rfl ?_))) rfl List.not_mem_nil (by simp only [upd_get, Nat.reduceEqDiff, reduceIte, Nat.reduceAdd, Nat.reduceMul, Nat.reduceSub, Nat.reduceLT, Nat.reduceLeDiff, if_true, if_false] <;> rfl) (TmL.of_eq (by first | rfl | (simp only [List.flatMap_append, List.flatMap_cons, List.flatMap_nil, List.map_append, List.map_cons, List.map_nil, List.append_nil, List.nil_append]; done) | (simp only [List.flatMap_append, List.flatMap_cons, List.flatMap_nil, List.map_append, List.map_cons, List.map_nil, List.append_nil, List.nil_append]; rfl)) (c_MetricLink _))) rfl List.not_mem_nil (by simp only [upd_get, Nat.reduceEqDiff, reduceIte, Nat.reduceAdd, Nat.reduceMul, Nat.reduceSub, Nat.reduceLT, Nat.reduceLeDiff, if_true, if_false] <;> rfl) (TmL.clean (e_Addr_clean _))) rfl List.not_mem_nil (by simp only [upd_get, Nat.reduceEqDiff, reduceIte, Nat.reduceAdd, Nat.reduceMul, Nat.reduceSub, Nat.reduceLT, Nat.reduceLeDiff, if_true, if_false] <;> rfl) (e_MetricTable_tmx (by rfl) (Tm.v _))) (tmAllU 14 (tmAllU 13 (tmAllU 10 (tmAllU 6 (tmAllU 5 (tmAllU 4 (tmAllU 3 (tmAllU 2 tmAll0 (Tm.v _)) (Tm.v _)) (Tm.v _)) (Tm.ptr rfl)) (Tm.ptr rfl)) (Tm.ptr rfl)) (Tm.v _)) (Tm.v _)); all_goals (first | rfl | (simp only [List.length_take]; omega) | (simp only [List.length_append, List.length_cons, List.length_nil, List.length_modify, List.length_set, Nat.zero_add]; done) | (simp only [List.length_append, List.length_take, List.length_drop, List.length_cons, List.length_nil, List.length_modify, List.length_set, Nat.zero_add]; omega))) ?_; clear hKK KK
        unfold metric_Heard_S1
        refine awp_assoc ?_
        refine awp_nr [2,3,4,5,6,10,13,14] (fun _ => rfl) fun tz => ?_
        refine awp_regW fun KK hKK => ?_
        refine xw_id ?_
        try simp only [go_sem, Nat.reduceEqDiff, reduceIte, Nat.reduceAdd, Nat.reduceMul, Nat.reduceSub, Nat.reduceLT, Nat.reduceLeDiff]
        refine hKK _ _ (Wk.refl _ _ _) ?_; clear hKK KK
        refine awp_cond (b := (!x12.2)) rfl (fun h8 => ?_) (fun h8 => ?_)
        ·
         have h0 := cT h0 h8
         refine awp_assoc ?_
         refine awp_nr [2,4,5,6,10,13] (fun _ => rfl) fun tz => ?_
         refine awp_regW fun KK hKK => ?_
         refine xw_id ?_
         obtain ⟨x14, bx14, h0⟩ := bnd h0
         try simp only [go_sem, Nat.reduceEqDiff, reduceIte, Nat.reduceAdd, Nat.reduceMul, Nat.reduceSub, Nat.reduceLT, Nat.reduceLeDiff]
         refine xcall_O [1, 13] (slices_Insert_api_MetricLink_api_MetricLink_io x12.1 x13 [{ MetricLink.z with Heard := a4, Peer := a1, Rate := a2 }] bx14) (by decide) (by decide) ⟨(by first | rfl | (simp only [go_sem, Nat.reduceEqDiff, reduceIte, Nat.reduceAdd, Nat.reduceMul, Nat.reduceSub, Nat.reduceLT, Nat.reduceLeDiff]; done) | (simp only [go_sem, Nat.reduceEqDiff, reduceIte, Nat.reduceAdd, Nat.reduceMul, Nat.reduceSub, Nat.reduceLT, Nat.reduceLeDiff]; rfl)), (by first | rfl | (simp only [go_sem, Nat.reduceEqDiff, reduceIte, Nat.reduceAdd, Nat.reduceMul, Nat.reduceSub, Nat.reduceLT, Nat.reduceLeDiff]; done) | (simp only [go_sem, Nat.reduceEqDiff, reduceIte, Nat.reduceAdd, Nat.reduceMul, Nat.reduceSub, Nat.reduceLT, Nat.reduceLeDiff]; rfl)), trivial⟩ (by first | rfl | (simp only [go_sem, Nat.reduceEqDiff, reduceIte, Nat.reduceAdd, Nat.reduceMul, Nat.reduceSub, Nat.reduceLT, Nat.reduceLeDiff]; done) | (simp only [go_sem, Nat.reduceEqDiff, reduceIte, Nat.reduceAdd, Nat.reduceMul, Nat.reduceSub, Nat.reduceLT, Nat.reduceLeDiff]; rfl)) ?_; try dsimp only
         try refine xw_id ?_
         try simp only [go_sem, Nat.reduceEqDiff, reduceIte, Nat.reduceAdd, Nat.reduceMul, Nat.reduceSub, Nat.reduceLT, Nat.reduceLeDiff, List.length_cons, List.length_nil]
         refine hKK _ _ (Wk.refl _ _ _) ?_; clear hKK KK
         refine awp_assoc ?_
         refine awp_nr [5,10] (fun _ => rfl) fun tz => ?_
         refine awp_regW fun KK hKK => ?_
         refine xw_id ?_
         try simp only [go_sem, Nat.reduceEqDiff, reduceIte, Nat.reduceAdd, Nat.reduceMul, Nat.reduceSub, Nat.reduceLT, Nat.reduceLeDiff]
         refine hKK _ _ (Wk.refl _ _ _) ?_; clear hKK KK
         refine awp_ret ?_
         obtain rfl := someInj h0
         refine endW_i ?_
         refine end_ret0 rs19 (by simp only [go_sem, resV, resAll, resOf, packR, Nat.reduceEqDiff, reduceIte, Nat.reduceAdd, Nat.reduceMul, Nat.reduceSub, Nat.reduceLT, Nat.reduceLeDiff]; rfl) ?_
         refine Res.mk [] [some 17] rfl (resOU List.not_mem_nil (by simp only [upd_get, Nat.reduceEqDiff, reduceIte, Nat.reduceAdd, Nat.reduceMul, Nat.reduceSub, Nat.reduceLT, Nat.reduceLeDiff, if_true, if_false] <;> rfl) (TmL.of_eq (by first | rfl | (simp only [List.flatMap_append, List.flatMap_cons, List.flatMap_nil, List.map_append, List.map_cons, List.map_nil, List.append_nil, List.nil_append]; done) | (simp only [List.flatMap_append, List.flatMap_cons, List.flatMap_nil, List.map_append, List.map_cons, List.map_nil, List.append_nil, List.nil_append]; rfl)) (c_MetricLink _)) resO0) (Tm.tup (TmL.cons (Tm.agg (e_MetricTable_tmx (by rfl) (Tm.refL rfl ?_))) (TmL.cons (Tm.v _) TmL.nil)))
         all_goals (first | rfl | (simp only [List.length_take]; omega) | (simp only [List.length_append, List.length_cons, List.length_nil, List.length_modify, List.length_set, Nat.zero_add]; done) | (simp only [List.length_append, List.length_take, List.length_drop, List.length_cons, List.length_nil, List.length_modify, List.length_set, Nat.zero_add]; omega))
        ·
         have h0 := cF h0 h8
         refine awp_skip ?_
         refine awp_nr [2,3,4,5,10,13] (fun _ => rfl) fun tz => ?_
         refine awp_regW fun KK hKK => ?_
         refine xw_id ?_
         obtain ⟨x15, bx15, h0⟩ := bnd h0
         obtain ⟨fx15_0, fx15_1, fx15_2, fx15_3⟩ := idx_some bx15
         have fx15_5 : ((x12.1 : Int) < ((x13.length : Nat) : Int)) = True := by first | exact fx15_1 | (simp [List.length_modify, List.length_set]; omega)
         try simp only [go_sem, Nat.reduceEqDiff, reduceIte, Nat.reduceAdd, Nat.reduceMul, Nat.reduceSub, Nat.reduceLT, Nat.reduceLeDiff, fx15_0, fx15_1, fx15_2, fx15_5]
         refine hKK _ _ (Wk.refl _ _ _) ?_; clear hKK KK
         refine awp_nr [2,3,4,5,10,15] (fun _ => rfl) fun tz => ?_
         refine awp_regW fun KK hKK => ?_
         refine xw_id ?_
         have gs9 : ((x12.1).toNat * 9 + 7 ≤ x13.length * 9) = True := eq_true (by (try simp only [List.length_modify, List.length_set]); omega)
         have gm10 : (x13.modify ((x12.1).toNat) fun y => { y with Rate := a2 })[(x12.1).toNat]? = some ({ x15 with Rate := a2 }) := getMod _ fx15_2
         try simp only [go_sem, Nat.reduceEqDiff, reduceIte, Nat.reduceAdd, Nat.reduceMul, Nat.reduceSub, Nat.reduceLT, Nat.reduceLeDiff, fx15_0, fx15_1, fx15_2, fx15_5, gs9, gm10]
         refine hKK _ _ (Wk.refl _ _ _) ?_; clear hKK KK
         refine awp_assoc ?_
         refine awp_nr [3,4,5,10,15] (fun _ => rfl) fun tz => ?_
         refine awp_regW fun KK hKK => ?_
         refine xw_id ?_
         try simp only [go_sem, Nat.reduceEqDiff, reduceIte, Nat.reduceAdd, Nat.reduceMul, Nat.reduceSub, Nat.reduceLT, Nat.reduceLeDiff, fx15_0, fx15_1, fx15_2, fx15_5, gm10]
         refine hKK _ _ (Wk.refl _ _ _) ?_; clear hKK KK
         refine awp_cond (b := a3) rfl (fun h11 => ?_) (fun h11 => ?_)
         ·
          have h0 := cT h0 h11
          refine awp_nr [4,5,10,15] (fun _ => rfl) fun tz => ?_
          refine awp_regDW fun KK hKK all hall => ?_
          refine xd_id ?_
          try simp only [List.toList_toArray, List.map_cons, List.map_nil, List.size_toArray, List.length_cons, List.length_nil, Nat.zero_add]
          try simp only [Nat.reduceAdd]
          have gs12 : ((x12.1).toNat * 9 + 8 ≤ (x13.modify ((x12.1).toNat) fun y => { y with Rate := a2 }).length * 9) = True := eq_true (by (try simp only [List.length_modify, List.length_set]); omega)
          have gm13 : ((x13.modify ((x12.1).toNat) fun y => { y with Rate := a2 }).modify ((x12.1).toNat) fun y => { y with Loss := IntKind.wrap .i64 (((IntKind.wrap .i64 (7 * (({ x15 with Rate := a2 }).Loss)))).tdiv 8) })[(x12.1).toNat]? = some ({ ({ x15 with Rate := a2 }) with Loss := IntKind.wrap .i64 (((IntKind.wrap .i64 (7 * (({ x15 with Rate := a2 }).Loss)))).tdiv 8) }) := getMod _ gm10
          have gs14 : ((x12.1).toNat * 9 + 9 ≤ ((x13.modify ((x12.1).toNat) fun y => { y with Rate := a2 }).modify ((x12.1).toNat) fun y => { y with Loss := IntKind.wrap .i64 (((IntKind.wrap .i64 (7 * (({ x15 with Rate := a2 }).Loss)))).tdiv 8) }).length * 9) = True := eq_true (by (try simp only [List.length_modify, List.length_set]); omega)
          have gm15 : (((x13.modify ((x12.1).toNat) fun y => { y with Rate := a2 }).modify ((x12.1).toNat) fun y => { y with Loss := IntKind.wrap .i64 (((IntKind.wrap .i64 (7 * (({ x15 with Rate := a2 }).Loss)))).tdiv 8) }).modify ((x12.1).toNat) fun y => { y with Heard := (if ({ x15 with Rate := a2 }).Heard < a4 then a4 else ({ x15 with Rate := a2 }).Heard) })[(x12.1).toNat]? = some ({ ({ ({ x15 with Rate := a2 }) with Loss := IntKind.wrap .i64 (((IntKind.wrap .i64 (7 * (({ x15 with Rate := a2 }).Loss)))).tdiv 8) }) with Heard := (if ({ x15 with Rate := a2 }).Heard < a4 then a4 else ({ x15 with Rate := a2 }).Heard) }) := getMod _ gm13
          simp only [go_sem, Nat.reduceEqDiff, reduceIte, Nat.reduceMul, Nat.reduceSub, Nat.reduceLT, Nat.reduceLeDiff, Int.reduceToNat, Int.reduceBEq, Int.reduceBNe, Int.reduceLT, Int.reduceLE, Int.reduceAdd, Int.reduceSub, Int.reduceMul, Int.reduceNeg, Int.reduceEq, Int.reduceNe, fx15_0, fx15_1, fx15_2, fx15_5, gm10, gs12, gm13, gs14, gm15]
          try simp only [Nat.reduceAdd]
          try simp only [go_sem, Nat.reduceEqDiff, reduceIte, Nat.reduceMul, Nat.reduceSub, Nat.reduceLT, Nat.reduceLeDiff, Int.reduceToNat, Int.reduceBEq, Int.reduceBNe, Int.reduceLT, Int.reduceLE, Int.reduceAdd, Int.reduceSub, Int.reduceMul, Int.reduceNeg, Int.reduceEq, Int.reduceNe, fx15_0, fx15_1, fx15_2, fx15_5, gm10, gs12, gm13, gs14, gm15]
          try simp only [Nat.reduceAdd]
          try simp only [go_sem, Nat.reduceEqDiff, reduceIte, Nat.reduceMul, Nat.reduceSub, Nat.reduceLT, Nat.reduceLeDiff, Int.reduceToNat, Int.reduceBEq, Int.reduceBNe, Int.reduceLT, Int.reduceLE, Int.reduceAdd, Int.reduceSub, Int.reduceMul, Int.reduceNeg, Int.reduceEq, Int.reduceNe, fx15_0, fx15_1, fx15_2, fx15_5, gm10, gs12, gm13, gs14, gm15]
          refine And.intro ?_ (hKK _ _ (Wk.refl _ _ _) ?_)
          ·
           subst hall
           clear hKK KK
           first | (simp [printsOk, apartP, clash, meet]; done) | (simp [printsOk, apartP, clash, meet]; decide +kernel) | decide +kernel
          ·
           clear hKK KK hall all
           refine awp_nr [5,10] (fun _ => rfl) fun tz => ?_
           refine awp_regW fun KK hKK => ?_
           refine xw_id ?_
           try simp only [go_sem, Nat.reduceEqDiff, reduceIte, Nat.reduceAdd, Nat.reduceMul, Nat.reduceSub, Nat.reduceLT, Nat.reduceLeDiff, fx15_0, fx15_1, fx15_2, fx15_5, gm10, gm13, gm15]
           refine hKK _ _ (Wk.refl _ _ _) ?_; clear hKK KK
           refine awp_ret1 ?_
           obtain rfl := someInj h0
           refine endW_i ?_
           refine end_ret0 rs19 (by simp only [go_sem, resV, resAll, resOf, packR, Nat.reduceEqDiff, reduceIte, Nat.reduceAdd, Nat.reduceMul, Nat.reduceSub, Nat.reduceLT, Nat.reduceLeDiff]; rfl) ?_
           refine Res.mk [] [some 1] rfl (resOU List.not_mem_nil (by simp only [upd_get, Nat.reduceEqDiff, reduceIte, Nat.reduceAdd, Nat.reduceMul, Nat.reduceSub, Nat.reduceLT, Nat.reduceLeDiff, if_true, if_false] <;> rfl) (TmL.of_eq (by first | rfl | (simp only [List.flatMap_append, List.flatMap_cons, List.flatMap_nil, List.map_append, List.map_cons, List.map_nil, List.append_nil, List.nil_append]; done) | (simp only [List.flatMap_append, List.flatMap_cons, List.flatMap_nil, List.map_append, List.map_cons, List.map_nil, List.append_nil, List.nil_append]; rfl)) (c_MetricLink _)) resO0) (Tm.tup (TmL.cons (Tm.agg (e_MetricTable_tmx (by rfl) (Tm.refL rfl ?_))) (TmL.cons (Tm.v _) TmL.nil)))
           all_goals (first | rfl | (simp only [List.length_take]; omega) | (simp only [List.length_append, List.length_cons, List.length_nil, List.length_modify, List.length_set, Nat.zero_add]; done) | (simp only [List.length_append, List.length_take, List.length_drop, List.length_cons, List.length_nil, List.length_modify, List.length_set, Nat.zero_add]; omega))
         ·
          have h0 := cF h0 h11
          refine awp_nr [5,10,15] (fun _ => rfl) fun tz => ?_
          refine awp_regW fun KK hKK => ?_
          refine xw_id ?_
          have gs16 : ((x12.1).toNat * 9 + 8 ≤ (x13.modify ((x12.1).toNat) fun y => { y with Rate := a2 }).length * 9) = True := eq_true (by (try simp only [List.length_modify, List.length_set]); omega)
          have gm17 : ((x13.modify ((x12.1).toNat) fun y => { y with Rate := a2 }).modify ((x12.1).toNat) fun y => { y with Loss := IntKind.wrap .i64 (((IntKind.wrap .i64 ((IntKind.wrap .i64 (7 * (({ x15 with Rate := a2 }).Loss))) + 1007))).tdiv 8) })[(x12.1).toNat]? = some ({ ({ x15 with Rate := a2 }) with Loss := IntKind.wrap .i64 (((IntKind.wrap .i64 ((IntKind.wrap .i64 (7 * (({ x15 with Rate := a2 }).Loss))) + 1007))).tdiv 8) }) := getMod _ gm10
          try simp only [go_sem, Nat.reduceEqDiff, reduceIte, Nat.reduceAdd, Nat.reduceMul, Nat.reduceSub, Nat.reduceLT, Nat.reduceLeDiff, Int.reduceToNat, Int.reduceBEq, Int.reduceBNe, Int.reduceLT, Int.reduceLE, Int.reduceAdd, Int.reduceSub, Int.reduceMul, Int.reduceNeg, Int.reduceEq, Int.reduceNe, fx15_0, fx15_1, fx15_2, fx15_5, gm10, gs16, gm17]
          refine hKK _ _ (Wk.refl _ _ _) ?_; clear hKK KK
          refine awp_nr [5,10] (fun _ => rfl) fun tz => ?_
          refine awp_regW fun KK hKK => ?_
          refine xw_id ?_
          try simp only [go_sem, Nat.reduceEqDiff, reduceIte, Nat.reduceAdd, Nat.reduceMul, Nat.reduceSub, Nat.reduceLT, Nat.reduceLeDiff, fx15_0, fx15_1, fx15_2, fx15_5, gm10, gm17]
          refine hKK _ _ (Wk.refl _ _ _) ?_; clear hKK KK
          refine awp_ret1 ?_
          obtain rfl := someInj h0
          refine endW_i ?_
          refine end_ret0 rs19 (by simp only [go_sem, resV, resAll, resOf, packR, Nat.reduceEqDiff, reduceIte, Nat.reduceAdd, Nat.reduceMul, Nat.reduceSub, Nat.reduceLT, Nat.reduceLeDiff]; rfl) ?_
          refine Res.mk [] [some 1] rfl (resOU List.not_mem_nil (by simp only [upd_get, Nat.reduceEqDiff, reduceIte, Nat.reduceAdd, Nat.reduceMul, Nat.reduceSub, Nat.reduceLT, Nat.reduceLeDiff, if_true, if_false] <;> rfl) (TmL.of_eq (by first | rfl | (simp only [List.flatMap_append, List.flatMap_cons, List.flatMap_nil, List.map_append, List.map_cons, List.map_nil, List.append_nil, List.nil_append]; done) | (simp only [List.flatMap_append, List.flatMap_cons, List.flatMap_nil, List.map_append, List.map_cons, List.map_nil, List.append_nil, List.nil_append]; rfl)) (c_MetricLink _)) resO0) (Tm.tup (TmL.cons (Tm.agg (e_MetricTable_tmx (by rfl) (Tm.refL rfl ?_))) (TmL.cons (Tm.v _) TmL.nil)))
          all_goals (first | rfl | (simp only [List.length_take]; omega) | (simp only [List.length_append, List.length_cons, List.length_nil, List.length_modify, List.length_set, Nat.zero_add]; done) | (simp only [List.length_append, List.length_take, List.length_drop, List.length_cons, List.length_nil, List.length_modify, List.length_set, Nat.zero_add]; omega))

theorem metric_Heard_m (a0 : MetricTable) (a1 : Addr) (a2 : Int) (a3 : Bool) (a4 : Int) {r : (MetricTable × Int)} (h0 : metric_Heard a0 a1 a2 a3 a4 = some r) : SndM K 19 [(.agg (E_MetricTable a0)), (.agg (e_Addr a1)), (vi a2), (vb a3), (vi a4)] (fun q => (.tup [(.agg (e_MetricTable r.1 (.ref (q 0) 0 r.1.Links.length 9))), (vi r.2)])) [(List.flatMap e_MetricLink r.1.Links)] :=
 fun hs => Snd.of_newM (RenM.tup (RenML.cons (RenM.agg (e_MetricTable_ren _ (RenM.ref 0 0 _ _))) (RenML.cons (RenM.const (Clean.v _)) RenML.nil))) (rows_all_cons (c_MetricLink _) rows_all_nil) (clean_cons (Clean.agg (E_MetricTable_clean _)) (clean_cons (Clean.agg (e_Addr_clean _)) (clean_cons (Clean.v _) (clean_cons (Clean.v _) (clean_cons (Clean.v _) clean_nil))))) (metric_Heard_r a0 a1 a2 a3 a4 h0) hs

theorem metric_Heard_e (a0 : MetricTable) (a1 : Addr) (a2 : Int) (a3 : Bool) (a4 : Int) {r : (MetricTable × Int)} (h0 : metric_Heard a0 a1 a2 a3 a4 = some r) (fr : Nat) (hs : HS) : SndE K 19 [(.agg (E_MetricTable a0)), (.agg (e_Addr a1)), (vi a2), (vb a3), (vi a4)] hs fr ⟨(fun q : Nat → Nat => (.tup [(.agg (e_MetricTable r.1 (.ref (q 0) 0 r.1.Links.length 9))), (vi r.2)])) fun _ => fr, .new (List.flatMap e_MetricLink r.1.Links)⟩ :=
 SndE.of_res (RenM.tup (RenML.cons (RenM.agg (e_MetricTable_ren _ (RenM.ref 0 0 _ _))) (RenML.cons (RenM.const (Clean.v _)) RenML.nil))) (c_MetricLink _) (clean_cons (Clean.agg (E_MetricTable_clean _)) (clean_cons (Clean.agg (e_Addr_clean _)) (clean_cons (Clean.v _) (clean_cons (Clean.v _) (clean_cons (Clean.v _) clean_nil))))) (fun a b h => by simp only [h]) (metric_Heard_r a0 a1 a2 a3 a4 h0) hs fr

theorem metric_Heard_p (a0 : MetricTable) (a1 : Addr) (a2 : Int) (a3 : Bool) (a4 : Int) {r : (MetricTable × Int)} (h0 : metric_Heard a0 a1 a2 a3 a4 = some r) : SndP K 19 [(.agg (E_MetricTable a0)), (.agg (e_Addr a1)), (vi a2), (vb a3), (vi a4)] (.tup [(.agg (E_MetricTable r.1)), (vi r.2)]) :=
 SndM.pure (metric_Heard_m a0 a1 a2 a3 a4 h0) (Clean.tup (clean_cons (Clean.agg (E_MetricTable_clean _)) (clean_cons (Clean.v _) clean_nil))) (clean_cons (Clean.agg (E_MetricTable_clean _)) (clean_cons (Clean.agg (e_Addr_clean _)) (clean_cons (Clean.v _) (clean_cons (Clean.v _) (clean_cons (Clean.v _) clean_nil))))) (by simp only [go_sem, newL_n, newL_c, upd_get, fz, nilS, cond_true, cond_false, List.drop_zero, List.take_length, List.length_map, ble_self, Nat.reduceEqDiff, reduceIte, Nat.reduceAdd, Nat.reduceMul, Nat.reduceSub, Nat.reduceLT, Nat.reduceLeDiff] <;> rfl)

end Go.AX.Z.TM

/-! (TMW hotspotlaw38 alive) -/

set_option linter.unusedSimpArgs false
set_option linter.unusedVariables false
set_option maxHeartbeats 4000000
namespace Go.AX.Z.TM
open Go.AX Go.Proofs
attribute [local irreducible] awp xw xop xcall gsp ob xd xdop xcallD seqQ loopQ blkQ endQ


theorem hotspotlaw38_alive_p {r : Bool} (h0 : hotspotlaw38_alive = some r) : SndP K 16 [] (vb r) := by
 refine SndP.of_walkW hC (Clean.v _) clean_nil (show K.P.funcs[16]? = some Try.f16 from Try.func16) rfl rfl (by decide +kernel) (Nat.le_of_ble_eq_true rfl) ?_
 unfold hotspotlaw38_alive at h0
 refine awp_nr [] (fun _ => rfl) fun tz => ?_
 refine awp_regW fun KK hKK => ?_
 refine xw_id ?_
 try simp only [go_sem, Nat.reduceEqDiff, reduceIte, Nat.reduceAdd, Nat.reduceMul, Nat.reduceSub, Nat.reduceLT, Nat.reduceLeDiff]
 refine hKK _ _ (Wk.refl _ _ _) ?_; clear hKK KK
 refine awp_nr [] (fun _ => rfl) fun tz => ?_
 refine awp_regW fun KK hKK => ?_
 refine xw_id ?_
 obtain ⟨x5, bx5, h0⟩ := bnd h0
 try simp only [go_sem, Nat.reduceEqDiff, reduceIte, Nat.reduceAdd, Nat.reduceMul, Nat.reduceSub, Nat.reduceLT, Nat.reduceLeDiff]
 refine xcall_p (metric_Cost_p 11 0 bx5) ?_; try dsimp only
 try refine xw_id ?_
 try simp only [go_sem, Nat.reduceEqDiff, reduceIte, Nat.reduceAdd, Nat.reduceMul, Nat.reduceSub, Nat.reduceLT, Nat.reduceLeDiff]
 refine hKK _ _ (Wk.refl _ _ _) ?_; clear hKK KK
 refine awp_nr [1,2] (fun _ => rfl) fun tz => ?_
 refine awp_regW fun KK hKK => ?_
 refine xw_id ?_
 obtain ⟨x6, bx6, h0⟩ := bnd h0
 try simp only [go_sem, Nat.reduceEqDiff, reduceIte, Nat.reduceAdd, Nat.reduceMul, Nat.reduceSub, Nat.reduceLT, Nat.reduceLeDiff]
 refine xcall_p (metric_Cost_p 11 500 bx6) ?_; try dsimp only
 try refine xw_id ?_
 try simp only [go_sem, Nat.reduceEqDiff, reduceIte, Nat.reduceAdd, Nat.reduceMul, Nat.reduceSub, Nat.reduceLT, Nat.reduceLeDiff]
 refine hKK _ _ (Wk.refl _ _ _) ?_; clear hKK KK
 refine awp_nr [1,2,3,4] (fun _ => rfl) fun tz => ?_
 refine awp_regW fun KK hKK => ?_
 refine xw_id ?_
 try simp only [go_sem, Nat.reduceEqDiff, reduceIte, Nat.reduceAdd, Nat.reduceMul, Nat.reduceSub, Nat.reduceLT, Nat.reduceLeDiff]
 refine hKK _ _ (Wk.refl _ _ _) ?_; clear hKK KK
 refine awp_nr [1,2,3,4,5] (fun _ => rfl) fun tz => ?_
 refine awp_regW fun KK hKK => ?_
 refine xw_id ?_
 obtain ⟨x7, bx7, h0⟩ := bnd h0
 try simp only [go_sem, Nat.reduceEqDiff, reduceIte, Nat.reduceAdd, Nat.reduceMul, Nat.reduceSub, Nat.reduceLT, Nat.reduceLeDiff]
 refine xcall_N (by first | (simp only [go_sem, fz, nilS, cond_true, cond_false, Nat.reduceEqDiff, reduceIte, Nat.reduceAdd, Nat.reduceMul, Nat.reduceSub, Nat.reduceLT, Nat.reduceLeDiff]; done) | (simp only [go_sem, fz, nilS, cond_true, cond_false, Nat.reduceEqDiff, reduceIte, Nat.reduceAdd, Nat.reduceMul, Nat.reduceSub, Nat.reduceLT, Nat.reduceLeDiff]; rfl)) (metric_Heard_p MetricTable.z { Addr.z with a0 := 2, a1 := 1 } 3 true 5 bx7) ?_; try dsimp only
 try refine xw_id ?_
 try simp only [go_sem, Nat.reduceEqDiff, reduceIte, Nat.reduceAdd, Nat.reduceMul, Nat.reduceSub, Nat.reduceLT, Nat.reduceLeDiff]
 refine hKK _ _ (Wk.refl _ _ _) ?_; clear hKK KK
 refine awp_nr [1,2,3,4,5,6,7] (fun _ => rfl) fun tz => ?_
 refine awp_regW fun KK hKK => ?_
 refine xw_id ?_
 obtain ⟨x8, bx8, h0⟩ := bnd h0
 try simp only [go_sem, Nat.reduceEqDiff, reduceIte, Nat.reduceAdd, Nat.reduceMul, Nat.reduceSub, Nat.reduceLT, Nat.reduceLeDiff]
 refine xcall_p (metric_Heard_p x7.1 { Addr.z with a0 := 2, a1 := 1 } 4 false 6 bx8) ?_; try dsimp only
 try refine xw_id ?_
 try simp only [go_sem, Nat.reduceEqDiff, reduceIte, Nat.reduceAdd, Nat.reduceMul, Nat.reduceSub, Nat.reduceLT, Nat.reduceLeDiff]
 refine hKK _ _ (Wk.refl _ _ _) ?_; clear hKK KK
 refine awp_nr [1,2,3,4,5,6,7,8,9] (fun _ => rfl) fun tz => ?_
 refine awp_regW fun KK hKK => ?_
 refine xw_id ?_
 obtain ⟨x9, bx9, h0⟩ := bnd h0
 try simp only [go_sem, Nat.reduceEqDiff, reduceIte, Nat.reduceAdd, Nat.reduceMul, Nat.reduceSub, Nat.reduceLT, Nat.reduceLeDiff]
 refine xcall_p (metric_Heard_p x8.1 { Addr.z with a0 := 2, a1 := 1 } 4 true 7 bx9) ?_; try dsimp only
 try refine xw_id ?_
 try simp only [go_sem, Nat.reduceEqDiff, reduceIte, Nat.reduceAdd, Nat.reduceMul, Nat.reduceSub, Nat.reduceLT, Nat.reduceLeDiff]
 refine hKK _ _ (Wk.refl _ _ _) ?_; clear hKK KK
 refine awp_nr [1,2,3,4,5,6,7,8,9,10,11] (fun _ => rfl) fun tz => ?_
 refine awp_regW fun KK hKK => ?_
 refine xw_id ?_
 try simp only [List.append_eq, Array.toList_append, List.append_toArray, List.toList_toArray, List.cons_append, List.nil_append]
 refine xw_stop 3 (by (try simp only [go_sem]); rfl) (by (try simp only [go_sem]); rfl) (by rfl) fun K1 hK1 => ?_
 refine xw_id ?_
 try simp only [go_sem, Nat.reduceEqDiff, reduceIte, Nat.reduceAdd, Nat.reduceMul, Nat.reduceSub, Nat.reduceLT, Nat.reduceLeDiff]
 refine hK1 _ ?_; clear hK1 K1
 refine xw_cut 3 [(3, (vi x6.1)), (4, (vi x6.2)), (5, (.ptr 14 0)), (6, (.ptr 22 0)), (7, (vi x7.2)), (8, (.ptr 31 0)), (9, (vi x8.2)), (10, (.ptr 40 0)), (11, (vi x9.2)), (44, (vb ((x5.2 == 0) && (x5.1 == 13600))))] (by (try simp only [go_sem]); rfl) (by (try simp only [go_sem]); rfl) (by rfl) (fun K1 hK1 => ?_) fun tz => ?_
 ·
  refine xw_id ?_
  rcases Bool.eq_false_or_eq_true (x5.2 == 0) with h1 | h1
  ·
   try simp only [go_sem, Nat.reduceEqDiff, reduceIte, Nat.reduceAdd, Nat.reduceMul, Nat.reduceSub, Nat.reduceLT, Nat.reduceLeDiff, h1]
   exact hK1 _ ⟨rfl, rfl, rfl, rfl, rfl, rfl, rfl, rfl, rfl, rfl, (by first | rfl | (rw [h1]; rfl) | (simp only [h1, Bool.true_and, Bool.false_and, Bool.true_or, Bool.false_or, cond_true, cond_false]; done)), trivial⟩
  ·
   try simp only [go_sem, Nat.reduceEqDiff, reduceIte, Nat.reduceAdd, Nat.reduceMul, Nat.reduceSub, Nat.reduceLT, Nat.reduceLeDiff, h1]
   exact hK1 _ ⟨rfl, rfl, rfl, rfl, rfl, rfl, rfl, rfl, rfl, rfl, (by first | rfl | (rw [h1]; rfl) | (simp only [h1, Bool.true_and, Bool.false_and, Bool.true_or, Bool.false_or, cond_true, cond_false]; done)), trivial⟩
 ·
  refine xw_id ?_
  refine xw_stop 1 (by (try simp only [go_sem]); rfl) (by (try simp only [go_sem]); rfl) (by rfl) fun K1 hK1 => ?_
  refine xw_id ?_
  try simp only [go_sem, Nat.reduceEqDiff, reduceIte, Nat.reduceAdd, Nat.reduceMul, Nat.reduceSub, Nat.reduceLT, Nat.reduceLeDiff]
  refine hK1 _ ?_; clear hK1 K1
  refine xw_cut 3 [(3, (vi x6.1)), (5, (.ptr 14 0)), (6, (.ptr 22 0)), (7, (vi x7.2)), (8, (.ptr 31 0)), (9, (vi x8.2)), (10, (.ptr 40 0)), (11, (vi x9.2)), (48, (vb (((x5.2 == 0) && (x5.1 == 13600)) && (x6.2 == 0))))] (by (try simp only [go_sem]); rfl) (by (try simp only [go_sem]); rfl) (by rfl) (fun K1 hK1 => ?_) fun tz => ?_
  ·
   refine xw_id ?_
   rcases Bool.eq_false_or_eq_true ((x5.2 == 0) && (x5.1 == 13600)) with h2 | h2
   ·
    have h2_0 : (x5.2 == 0) = true := by simp only [Bool.and_eq_true] at h2; exact h2.1
    have h2_1 : (x5.1 == 13600) = true := by simp only [Bool.and_eq_true] at h2; exact h2.2
    try simp only [go_sem, Nat.reduceEqDiff, reduceIte, Nat.reduceAdd, Nat.reduceMul, Nat.reduceSub, Nat.reduceLT, Nat.reduceLeDiff, h2, h2_0, h2_1]
    exact hK1 _ ⟨rfl, rfl, rfl, rfl, rfl, rfl, rfl, rfl, rfl, (by first | rfl | (rw [h2]; rfl) | (simp only [h2, Bool.true_and, Bool.false_and, Bool.true_or, Bool.false_or, cond_true, cond_false]; done)), trivial⟩
   ·
    try simp only [go_sem, Nat.reduceEqDiff, reduceIte, Nat.reduceAdd, Nat.reduceMul, Nat.reduceSub, Nat.reduceLT, Nat.reduceLeDiff, h2]
    exact hK1 _ ⟨rfl, rfl, rfl, rfl, rfl, rfl, rfl, rfl, rfl, (by first | rfl | (rw [h2]; rfl) | (simp only [h2, Bool.true_and, Bool.false_and, Bool.true_or, Bool.false_or, cond_true, cond_false]; done)), trivial⟩
  ·
   refine xw_id ?_
   refine xw_stop 1 (by (try simp only [go_sem]); rfl) (by (try simp only [go_sem]); rfl) (by rfl) fun K1 hK1 => ?_
   refine xw_id ?_
   try simp only [go_sem, Nat.reduceEqDiff, reduceIte, Nat.reduceAdd, Nat.reduceMul, Nat.reduceSub, Nat.reduceLT, Nat.reduceLeDiff]
   refine hK1 _ ?_; clear hK1 K1
   refine xw_cut 3 [(5, (.ptr 14 0)), (6, (.ptr 22 0)), (7, (vi x7.2)), (8, (.ptr 31 0)), (9, (vi x8.2)), (10, (.ptr 40 0)), (11, (vi x9.2)), (52, (vb ((((x5.2 == 0) && (x5.1 == 13600)) && (x6.2 == 0)) && (x6.1 == 27200))))] (by (try simp only [go_sem]); rfl) (by (try simp only [go_sem]); rfl) (by rfl) (fun K1 hK1 => ?_) fun tz => ?_
   ·
    refine xw_id ?_
    rcases Bool.eq_false_or_eq_true (((x5.2 == 0) && (x5.1 == 13600)) && (x6.2 == 0)) with h3 | h3
    ·
     have h3_0 : (x5.2 == 0) = true := by simp only [Bool.and_eq_true] at h3; exact h3.1.1
     have h3_1 : (x5.1 == 13600) = true := by simp only [Bool.and_eq_true] at h3; exact h3.1.2
     have h3_2 : (x6.2 == 0) = true := by simp only [Bool.and_eq_true] at h3; exact h3.2
     try simp only [go_sem, Nat.reduceEqDiff, reduceIte, Nat.reduceAdd, Nat.reduceMul, Nat.reduceSub, Nat.reduceLT, Nat.reduceLeDiff, h3, h3_0, h3_1, h3_2]
     exact hK1 _ ⟨rfl, rfl, rfl, rfl, rfl, rfl, rfl, rfl, (by first | rfl | (rw [h3]; rfl) | (simp only [h3, Bool.true_and, Bool.false_and, Bool.true_or, Bool.false_or, cond_true, cond_false]; done)), trivial⟩
    ·
     try simp only [go_sem, Nat.reduceEqDiff, reduceIte, Nat.reduceAdd, Nat.reduceMul, Nat.reduceSub, Nat.reduceLT, Nat.reduceLeDiff, h3]
     exact hK1 _ ⟨rfl, rfl, rfl, rfl, rfl, rfl, rfl, rfl, (by first | rfl | (rw [h3]; rfl) | (simp only [h3, Bool.true_and, Bool.false_and, Bool.true_or, Bool.false_or, cond_true, cond_false]; done)), trivial⟩
   ·
    refine xw_id ?_
    refine xw_stop 1 (by (try simp only [go_sem]); rfl) (by (try simp only [go_sem]); rfl) (by rfl) fun K1 hK1 => ?_
    refine xw_id ?_
    try simp only [go_sem, Nat.reduceEqDiff, reduceIte, Nat.reduceAdd, Nat.reduceMul, Nat.reduceSub, Nat.reduceLT, Nat.reduceLeDiff]
    refine hK1 _ ?_; clear hK1 K1
    refine xw_cut 3 [(5, (.ptr 14 0)), (6, (.ptr 22 0)), (8, (.ptr 31 0)), (9, (vi x8.2)), (10, (.ptr 40 0)), (11, (vi x9.2)), (56, (vb (((((x5.2 == 0) && (x5.1 == 13600)) && (x6.2 == 0)) && (x6.1 == 27200)) && (x7.2 == 0))))] (by (try simp only [go_sem]); rfl) (by (try simp only [go_sem]); rfl) (by rfl) (fun K1 hK1 => ?_) fun tz => ?_
    ·
     refine xw_id ?_
     rcases Bool.eq_false_or_eq_true ((((x5.2 == 0) && (x5.1 == 13600)) && (x6.2 == 0)) && (x6.1 == 27200)) with h4 | h4
     ·
      have h4_0 : (x5.2 == 0) = true := by simp only [Bool.and_eq_true] at h4; exact h4.1.1.1
      have h4_1 : (x5.1 == 13600) = true := by simp only [Bool.and_eq_true] at h4; exact h4.1.1.2
      have h4_2 : (x6.2 == 0) = true := by simp only [Bool.and_eq_true] at h4; exact h4.1.2
      have h4_3 : (x6.1 == 27200) = true := by simp only [Bool.and_eq_true] at h4; exact h4.2
      try simp only [go_sem, Nat.reduceEqDiff, reduceIte, Nat.reduceAdd, Nat.reduceMul, Nat.reduceSub, Nat.reduceLT, Nat.reduceLeDiff, h4, h4_0, h4_1, h4_2, h4_3]
      exact hK1 _ ⟨rfl, rfl, rfl, rfl, rfl, rfl, rfl, (by first | rfl | (rw [h4]; rfl) | (simp only [h4, Bool.true_and, Bool.false_and, Bool.true_or, Bool.false_or, cond_true, cond_false]; done)), trivial⟩
     ·
      try simp only [go_sem, Nat.reduceEqDiff, reduceIte, Nat.reduceAdd, Nat.reduceMul, Nat.reduceSub, Nat.reduceLT, Nat.reduceLeDiff, h4]
      exact hK1 _ ⟨rfl, rfl, rfl, rfl, rfl, rfl, rfl, (by first | rfl | (rw [h4]; rfl) | (simp only [h4, Bool.true_and, Bool.false_and, Bool.true_or, Bool.false_or, cond_true, cond_false]; done)), trivial⟩
    ·
     refine xw_id ?_
     refine xw_stop 1 (by (try simp only [go_sem]); rfl) (by (try simp only [go_sem]); rfl) (by rfl) fun K1 hK1 => ?_
     refine xw_id ?_
     try simp only [go_sem, Nat.reduceEqDiff, reduceIte, Nat.reduceAdd, Nat.reduceMul, Nat.reduceSub, Nat.reduceLT, Nat.reduceLeDiff]
     refine hK1 _ ?_; clear hK1 K1
     refine xw_cut 3 [(5, (.ptr 14 0)), (6, (.ptr 22 0)), (8, (.ptr 31 0)), (10, (.ptr 40 0)), (11, (vi x9.2)), (60, (vb ((((((x5.2 == 0) && (x5.1 == 13600)) && (x6.2 == 0)) && (x6.1 == 27200)) && (x7.2 == 0)) && (x8.2 == 0))))] (by (try simp only [go_sem]); rfl) (by (try simp only [go_sem]); rfl) (by rfl) (fun K1 hK1 => ?_) fun tz => ?_
     ·
      refine xw_id ?_
      rcases Bool.eq_false_or_eq_true (((((x5.2 == 0) && (x5.1 == 13600)) && (x6.2 == 0)) && (x6.1 == 27200)) && (x7.2 == 0)) with h5 | h5
      ·
       have h5_0 : (x5.2 == 0) = true := by simp only [Bool.and_eq_true] at h5; exact h5.1.1.1.1
       have h5_1 : (x5.1 == 13600) = true := by simp only [Bool.and_eq_true] at h5; exact h5.1.1.1.2
       have h5_2 : (x6.2 == 0) = true := by simp only [Bool.and_eq_true] at h5; exact h5.1.1.2
       have h5_3 : (x6.1 == 27200) = true := by simp only [Bool.and_eq_true] at h5; exact h5.1.2
       have h5_4 : (x7.2 == 0) = true := by simp only [Bool.and_eq_true] at h5; exact h5.2
       try simp only [go_sem, Nat.reduceEqDiff, reduceIte, Nat.reduceAdd, Nat.reduceMul, Nat.reduceSub, Nat.reduceLT, Nat.reduceLeDiff, h5, h5_0, h5_1, h5_2, h5_3, h5_4]
       exact hK1 _ ⟨rfl, rfl, rfl, rfl, rfl, rfl, (by first | rfl | (rw [h5]; rfl) | (simp only [h5, Bool.true_and, Bool.false_and, Bool.true_or, Bool.false_or, cond_true, cond_false]; done)), trivial⟩
      ·
       try simp only [go_sem, Nat.reduceEqDiff, reduceIte, Nat.reduceAdd, Nat.reduceMul, Nat.reduceSub, Nat.reduceLT, Nat.reduceLeDiff, h5]
       exact hK1 _ ⟨rfl, rfl, rfl, rfl, rfl, rfl, (by first | rfl | (rw [h5]; rfl) | (simp only [h5, Bool.true_and, Bool.false_and, Bool.true_or, Bool.false_or, cond_true, cond_false]; done)), trivial⟩
     ·
      refine xw_id ?_
      refine xw_stop 1 (by (try simp only [go_sem]); rfl) (by (try simp only [go_sem]); rfl) (by rfl) fun K1 hK1 => ?_
      refine xw_id ?_
      try simp only [go_sem, Nat.reduceEqDiff, reduceIte, Nat.reduceAdd, Nat.reduceMul, Nat.reduceSub, Nat.reduceLT, Nat.reduceLeDiff]
      refine hK1 _ ?_; clear hK1 K1
      refine xw_cut 3 [(5, (.ptr 14 0)), (6, (.ptr 22 0)), (8, (.ptr 31 0)), (10, (.ptr 40 0)), (64, (vb (((((((x5.2 == 0) && (x5.1 == 13600)) && (x6.2 == 0)) && (x6.1 == 27200)) && (x7.2 == 0)) && (x8.2 == 0)) && (x9.2 == 0))))] (by (try simp only [go_sem]); rfl) (by (try simp only [go_sem]); rfl) (by rfl) (fun K1 hK1 => ?_) fun tz => ?_
      ·
       refine xw_id ?_
       rcases Bool.eq_false_or_eq_true ((((((x5.2 == 0) && (x5.1 == 13600)) && (x6.2 == 0)) && (x6.1 == 27200)) && (x7.2 == 0)) && (x8.2 == 0)) with h6 | h6
       ·
        have h6_0 : (x5.2 == 0) = true := by simp only [Bool.and_eq_true] at h6; exact h6.1.1.1.1.1
        have h6_1 : (x5.1 == 13600) = true := by simp only [Bool.and_eq_true] at h6; exact h6.1.1.1.1.2
        have h6_2 : (x6.2 == 0) = true := by simp only [Bool.and_eq_true] at h6; exact h6.1.1.1.2
        have h6_3 : (x6.1 == 27200) = true := by simp only [Bool.and_eq_true] at h6; exact h6.1.1.2
        have h6_4 : (x7.2 == 0) = true := by simp only [Bool.and_eq_true] at h6; exact h6.1.2
        have h6_5 : (x8.2 == 0) = true := by simp only [Bool.and_eq_true] at h6; exact h6.2
        try simp only [go_sem, Nat.reduceEqDiff, reduceIte, Nat.reduceAdd, Nat.reduceMul, Nat.reduceSub, Nat.reduceLT, Nat.reduceLeDiff, h6, h6_0, h6_1, h6_2, h6_3, h6_4, h6_5]
        exact hK1 _ ⟨rfl, rfl, rfl, rfl, rfl, (by first | rfl | (rw [h6]; rfl) | (simp only [h6, Bool.true_and, Bool.false_and, Bool.true_or, Bool.false_or, cond_true, cond_false]; done)), trivial⟩
       ·
        try simp only [go_sem, Nat.reduceEqDiff, reduceIte, Nat.reduceAdd, Nat.reduceMul, Nat.reduceSub, Nat.reduceLT, Nat.reduceLeDiff, h6]
        exact hK1 _ ⟨rfl, rfl, rfl, rfl, rfl, (by first | rfl | (rw [h6]; rfl) | (simp only [h6, Bool.true_and, Bool.false_and, Bool.true_or, Bool.false_or, cond_true, cond_false]; done)), trivial⟩
      ·
       refine xw_id ?_
       refine xw_stop 1 (by (try simp only [go_sem]); rfl) (by (try simp only [go_sem]); rfl) (by rfl) fun K1 hK1 => ?_
       refine xw_id ?_
       try simp only [go_sem, Nat.reduceEqDiff, reduceIte, Nat.reduceAdd, Nat.reduceMul, Nat.reduceSub, Nat.reduceLT, Nat.reduceLeDiff]
       refine hK1 _ ?_; clear hK1 K1
       refine xw_cut 5 [(5, (.ptr 14 0)), (6, (.ptr 22 0)), (8, (.ptr 31 0)), (10, (.ptr 40 0)), (70, (vb ((((((((x5.2 == 0) && (x5.1 == 13600)) && (x6.2 == 0)) && (x6.1 == 27200)) && (x7.2 == 0)) && (x8.2 == 0)) && (x9.2 == 0)) && ((x7.1.Links.length : Int) == 1))))] (by (try simp only [go_sem]); rfl) (by (try simp only [go_sem]); rfl) (by rfl) (fun K1 hK1 => ?_) fun tz => ?_
       ·
        refine xw_id ?_
        rcases Bool.eq_false_or_eq_true (((((((x5.2 == 0) && (x5.1 == 13600)) && (x6.2 == 0)) && (x6.1 == 27200)) && (x7.2 == 0)) && (x8.2 == 0)) && (x9.2 == 0)) with h7 | h7
        ·
         have h7_0 : (x5.2 == 0) = true := by simp only [Bool.and_eq_true] at h7; exact h7.1.1.1.1.1.1
         have h7_1 : (x5.1 == 13600) = true := by simp only [Bool.and_eq_true] at h7; exact h7.1.1.1.1.1.2
         have h7_2 : (x6.2 == 0) = true := by simp only [Bool.and_eq_true] at h7; exact h7.1.1.1.1.2
         have h7_3 : (x6.1 == 27200) = true := by simp only [Bool.and_eq_true] at h7; exact h7.1.1.1.2
         have h7_4 : (x7.2 == 0) = true := by simp only [Bool.and_eq_true] at h7; exact h7.1.1.2
         have h7_5 : (x8.2 == 0) = true := by simp only [Bool.and_eq_true] at h7; exact h7.1.2
         have h7_6 : (x9.2 == 0) = true := by simp only [Bool.and_eq_true] at h7; exact h7.2
         try simp only [go_sem, Nat.reduceEqDiff, reduceIte, Nat.reduceAdd, Nat.reduceMul, Nat.reduceSub, Nat.reduceLT, Nat.reduceLeDiff, Int.reduceToNat, Int.reduceBEq, Int.reduceBNe, Int.reduceLT, Int.reduceLE, Int.reduceAdd, Int.reduceSub, Int.reduceMul, Int.reduceNeg, Int.reduceEq, Int.reduceNe, h7, h7_0, h7_1, h7_2, h7_3, h7_4, h7_5, h7_6]
         exact hK1 _ ⟨rfl, rfl, rfl, rfl, rfl, (by first | rfl | (rw [h7]; rfl) | (simp only [h7, Bool.true_and, Bool.false_and, Bool.true_or, Bool.false_or, cond_true, cond_false]; done)), trivial⟩
        ·
         try simp only [go_sem, Nat.reduceEqDiff, reduceIte, Nat.reduceAdd, Nat.reduceMul, Nat.reduceSub, Nat.reduceLT, Nat.reduceLeDiff, h7]
         exact hK1 _ ⟨rfl, rfl, rfl, rfl, rfl, (by first | rfl | (rw [h7]; rfl) | (simp only [h7, Bool.true_and, Bool.false_and, Bool.true_or, Bool.false_or, cond_true, cond_false]; done)), trivial⟩
       ·
        refine xw_id ?_
        refine xw_stop 1 (by (try simp only [go_sem]); rfl) (by (try simp only [go_sem]); rfl) (by rfl) fun K1 hK1 => ?_
        refine xw_id ?_
        try simp only [go_sem, Nat.reduceEqDiff, reduceIte, Nat.reduceAdd, Nat.reduceMul, Nat.reduceSub, Nat.reduceLT, Nat.reduceLeDiff]
        refine hK1 _ ?_; clear hK1 K1
        refine xw_cut 5 [(5, (.ptr 14 0)), (6, (.ptr 22 0)), (8, (.ptr 31 0)), (10, (.ptr 40 0)), (76, (vb (((((((((x5.2 == 0) && (x5.1 == 13600)) && (x6.2 == 0)) && (x6.1 == 27200)) && (x7.2 == 0)) && (x8.2 == 0)) && (x9.2 == 0)) && ((x7.1.Links.length : Int) == 1)) && ((x8.1.Links.length : Int) == 1))))] (by (try simp only [go_sem]); rfl) (by (try simp only [go_sem]); rfl) (by rfl) (fun K1 hK1 => ?_) fun tz => ?_
        ·
         refine xw_id ?_
         rcases Bool.eq_false_or_eq_true ((((((((x5.2 == 0) && (x5.1 == 13600)) && (x6.2 == 0)) && (x6.1 == 27200)) && (x7.2 == 0)) && (x8.2 == 0)) && (x9.2 == 0)) && ((x7.1.Links.length : Int) == 1)) with h8 | h8
         ·
          have h8_0 : (x5.2 == 0) = true := by simp only [Bool.and_eq_true] at h8; exact h8.1.1.1.1.1.1.1
          have h8_1 : (x5.1 == 13600) = true := by simp only [Bool.and_eq_true] at h8; exact h8.1.1.1.1.1.1.2
          have h8_2 : (x6.2 == 0) = true := by simp only [Bool.and_eq_true] at h8; exact h8.1.1.1.1.1.2
          have h8_3 : (x6.1 == 27200) = true := by simp only [Bool.and_eq_true] at h8; exact h8.1.1.1.1.2
          have h8_4 : (x7.2 == 0) = true := by simp only [Bool.and_eq_true] at h8; exact h8.1.1.1.2
          have h8_5 : (x8.2 == 0) = true := by simp only [Bool.and_eq_true] at h8; exact h8.1.1.2
          have h8_6 : (x9.2 == 0) = true := by simp only [Bool.and_eq_true] at h8; exact h8.1.2
          have h8_7 : ((x7.1.Links.length : Int) == 1) = true := by simp only [Bool.and_eq_true] at h8; exact h8.2
          try simp only [go_sem, Nat.reduceEqDiff, reduceIte, Nat.reduceAdd, Nat.reduceMul, Nat.reduceSub, Nat.reduceLT, Nat.reduceLeDiff, Int.reduceToNat, Int.reduceBEq, Int.reduceBNe, Int.reduceLT, Int.reduceLE, Int.reduceAdd, Int.reduceSub, Int.reduceMul, Int.reduceNeg, Int.reduceEq, Int.reduceNe, h8, h8_0, h8_1, h8_2, h8_3, h8_4, h8_5, h8_6, h8_7]
          exact hK1 _ ⟨rfl, rfl, rfl, rfl, rfl, (by first | rfl | (rw [h8]; rfl) | (simp only [h8, Bool.true_and, Bool.false_and, Bool.true_or, Bool.false_or, cond_true, cond_false]; done)), trivial⟩
         ·
          try simp only [go_sem, Nat.reduceEqDiff, reduceIte, Nat.reduceAdd, Nat.reduceMul, Nat.reduceSub, Nat.reduceLT, Nat.reduceLeDiff, h8]
          exact hK1 _ ⟨rfl, rfl, rfl, rfl, rfl, (by first | rfl | (rw [h8]; rfl) | (simp only [h8, Bool.true_and, Bool.false_and, Bool.true_or, Bool.false_or, cond_true, cond_false]; done)), trivial⟩
        ·
         refine xw_id ?_
         refine xw_stop 1 (by (try simp only [go_sem]); rfl) (by (try simp only [go_sem]); rfl) (by rfl) fun K1 hK1 => ?_
         refine xw_id ?_
         try simp only [go_sem, Nat.reduceEqDiff, reduceIte, Nat.reduceAdd, Nat.reduceMul, Nat.reduceSub, Nat.reduceLT, Nat.reduceLeDiff]
         refine hK1 _ ?_; clear hK1 K1
         refine xw_cut 5 [(5, (.ptr 14 0)), (6, (.ptr 22 0)), (8, (.ptr 31 0)), (10, (.ptr 40 0)), (82, (vb ((((((((((x5.2 == 0) && (x5.1 == 13600)) && (x6.2 == 0)) && (x6.1 == 27200)) && (x7.2 == 0)) && (x8.2 == 0)) && (x9.2 == 0)) && ((x7.1.Links.length : Int) == 1)) && ((x8.1.Links.length : Int) == 1)) && ((x9.1.Links.length : Int) == 1))))] (by (try simp only [go_sem]); rfl) (by (try simp only [go_sem]); rfl) (by rfl) (fun K1 hK1 => ?_) fun tz => ?_
         ·
          refine xw_id ?_
          rcases Bool.eq_false_or_eq_true (((((((((x5.2 == 0) && (x5.1 == 13600)) && (x6.2 == 0)) && (x6.1 == 27200)) && (x7.2 == 0)) && (x8.2 == 0)) && (x9.2 == 0)) && ((x7.1.Links.length : Int) == 1)) && ((x8.1.Links.length : Int) == 1)) with h9 | h9
          ·
           have h9_0 : (x5.2 == 0) = true := by simp only [Bool.and_eq_true] at h9; exact h9.1.1.1.1.1.1.1.1
           have h9_1 : (x5.1 == 13600) = true := by simp only [Bool.and_eq_true] at h9; exact h9.1.1.1.1.1.1.1.2
           have h9_2 : (x6.2 == 0) = true := by simp only [Bool.and_eq_true] at h9; exact h9.1.1.1.1.1.1.2
           have h9_3 : (x6.1 == 27200) = true := by simp only [Bool.and_eq_true] at h9; exact h9.1.1.1.1.1.2
           have h9_4 : (x7.2 == 0) = true := by simp only [Bool.and_eq_true] at h9; exact h9.1.1.1.1.2
           have h9_5 : (x8.2 == 0) = true := by simp only [Bool.and_eq_true] at h9; exact h9.1.1.1.2
           have h9_6 : (x9.2 == 0) = true := by simp only [Bool.and_eq_true] at h9; exact h9.1.1.2
           have h9_7 : ((x7.1.Links.length : Int) == 1) = true := by simp only [Bool.and_eq_true] at h9; exact h9.1.2
           have h9_8 : ((x8.1.Links.length : Int) == 1) = true := by simp only [Bool.and_eq_true] at h9; exact h9.2
           try simp only [go_sem, Nat.reduceEqDiff, reduceIte, Nat.reduceAdd, Nat.reduceMul, Nat.reduceSub, Nat.reduceLT, Nat.reduceLeDiff, Int.reduceToNat, Int.reduceBEq, Int.reduceBNe, Int.reduceLT, Int.reduceLE, Int.reduceAdd, Int.reduceSub, Int.reduceMul, Int.reduceNeg, Int.reduceEq, Int.reduceNe, h9, h9_0, h9_1, h9_2, h9_3, h9_4, h9_5, h9_6, h9_7, h9_8]
           exact hK1 _ ⟨rfl, rfl, rfl, rfl, rfl, (by first | rfl | (rw [h9]; rfl) | (simp only [h9, Bool.true_and, Bool.false_and, Bool.true_or, Bool.false_or, cond_true, cond_false]; done)), trivial⟩
          ·
           try simp only [go_sem, Nat.reduceEqDiff, reduceIte, Nat.reduceAdd, Nat.reduceMul, Nat.reduceSub, Nat.reduceLT, Nat.reduceLeDiff, h9]
           exact hK1 _ ⟨rfl, rfl, rfl, rfl, rfl, (by first | rfl | (rw [h9]; rfl) | (simp only [h9, Bool.true_and, Bool.false_and, Bool.true_or, Bool.false_or, cond_true, cond_false]; done)), trivial⟩
         ·
          refine xw_id ?_
          refine xw_stop 1 (by (try simp only [go_sem]); rfl) (by (try simp only [go_sem]); rfl) (by rfl) fun K1 hK1 => ?_
          refine xw_id ?_
          try simp only [go_sem, Nat.reduceEqDiff, reduceIte, Nat.reduceAdd, Nat.reduceMul, Nat.reduceSub, Nat.reduceLT, Nat.reduceLeDiff]
          refine hK1 _ ?_; clear hK1 K1
          obtain ⟨x11, hvh10, h0⟩ := bnd h0
          refine xw_cut 8 [(5, (.ptr 14 0)), (8, (.ptr 31 0)), (10, (.ptr 40 0)), (91, (vb x11))] (by (try simp only [go_sem]); rfl) (by (try simp only [go_sem]); rfl) (by rfl) (fun K1 hK1 => ?_) fun tz => ?_
          ·
           refine xw_id ?_
           rcases Bool.eq_false_or_eq_true ((((((((((x5.2 == 0) && (x5.1 == 13600)) && (x6.2 == 0)) && (x6.1 == 27200)) && (x7.2 == 0)) && (x8.2 == 0)) && (x9.2 == 0)) && ((x7.1.Links.length : Int) == 1)) && ((x8.1.Links.length : Int) == 1)) && ((x9.1.Links.length : Int) == 1)) with h10 | h10
           ·
            have hvh10 := cT hvh10 h10
            have h10_0 : (x5.2 == 0) = true := by simp only [Bool.and_eq_true] at h10; exact h10.1.1.1.1.1.1.1.1.1
            have h10_1 : (x5.1 == 13600) = true := by simp only [Bool.and_eq_true] at h10; exact h10.1.1.1.1.1.1.1.1.2
            have h10_2 : (x6.2 == 0) = true := by simp only [Bool.and_eq_true] at h10; exact h10.1.1.1.1.1.1.1.2
            have h10_3 : (x6.1 == 27200) = true := by simp only [Bool.and_eq_true] at h10; exact h10.1.1.1.1.1.1.2
            have h10_4 : (x7.2 == 0) = true := by simp only [Bool.and_eq_true] at h10; exact h10.1.1.1.1.1.2
            have h10_5 : (x8.2 == 0) = true := by simp only [Bool.and_eq_true] at h10; exact h10.1.1.1.1.2
            have h10_6 : (x9.2 == 0) = true := by simp only [Bool.and_eq_true] at h10; exact h10.1.1.1.2
            have h10_7 : ((x7.1.Links.length : Int) == 1) = true := by simp only [Bool.and_eq_true] at h10; exact h10.1.1.2
            have h10_8 : ((x8.1.Links.length : Int) == 1) = true := by simp only [Bool.and_eq_true] at h10; exact h10.1.2
            have h10_9 : ((x9.1.Links.length : Int) == 1) = true := by simp only [Bool.and_eq_true] at h10; exact h10.2
            obtain ⟨x10, bx10, hvh10⟩ := bnd hvh10
            obtain ⟨fx10_0, fx10_1, fx10_2, fx10_3⟩ := idx_some bx10
            simp only [Int.reduceToNat] at fx10_2 fx10_3
            try simp only [go_sem, Nat.reduceEqDiff, reduceIte, Nat.reduceAdd, Nat.reduceMul, Nat.reduceSub, Nat.reduceLT, Nat.reduceLeDiff, Int.reduceToNat, Int.reduceBEq, Int.reduceBNe, Int.reduceLT, Int.reduceLE, Int.reduceAdd, Int.reduceSub, Int.reduceMul, Int.reduceNeg, Int.reduceEq, Int.reduceNe, h10, h10_0, h10_1, h10_2, h10_3, h10_4, h10_5, h10_6, h10_7, h10_8, h10_9, fx10_0, fx10_1, fx10_2, r_MetricLink_getL, r_MetricLink_subL, Nat.reduceDiv, Nat.reduceMod]
            obtain rfl := someInj hvh10
            exact hK1 _ ⟨rfl, rfl, rfl, rfl, (by first | rfl | (rw [h10]; rfl) | (simp only [h10, Bool.true_and, Bool.false_and, Bool.true_or, Bool.false_or, cond_true, cond_false]; done)), trivial⟩
           ·
            have hvh10 := cF hvh10 h10
            try simp only [go_sem, Nat.reduceEqDiff, reduceIte, Nat.reduceAdd, Nat.reduceMul, Nat.reduceSub, Nat.reduceLT, Nat.reduceLeDiff, h10]
            obtain rfl := someInj hvh10
            exact hK1 _ ⟨rfl, rfl, rfl, rfl, (by first | rfl | (rw [h10]; rfl) | (simp only [h10, Bool.true_and, Bool.false_and, Bool.true_or, Bool.false_or, cond_true, cond_false]; done)), trivial⟩
          ·
           refine xw_id ?_
           refine xw_stop 1 (by (try simp only [go_sem]); rfl) (by (try simp only [go_sem]); rfl) (by rfl) fun K1 hK1 => ?_
           refine xw_id ?_
           try simp only [go_sem, Nat.reduceEqDiff, reduceIte, Nat.reduceAdd, Nat.reduceMul, Nat.reduceSub, Nat.reduceLT, Nat.reduceLeDiff]
           refine hK1 _ ?_; clear hK1 K1
           obtain ⟨x13, hvh11, h0⟩ := bnd h0
           refine xw_cut 8 [(5, (.ptr 14 0)), (10, (.ptr 40 0)), (100, (vb x13))] (by (try simp only [go_sem]); rfl) (by (try simp only [go_sem]); rfl) (by rfl) (fun K1 hK1 => ?_) fun tz => ?_
           ·
            refine xw_id ?_
            rcases Bool.eq_false_or_eq_true x11 with h11 | h11
            ·
             have hvh11 := cT hvh11 h11
             obtain ⟨x12, bx12, hvh11⟩ := bnd hvh11
             obtain ⟨fx12_0, fx12_1, fx12_2, fx12_3⟩ := idx_some bx12
             simp only [Int.reduceToNat] at fx12_2 fx12_3
             try simp only [go_sem, Nat.reduceEqDiff, reduceIte, Nat.reduceAdd, Nat.reduceMul, Nat.reduceSub, Nat.reduceLT, Nat.reduceLeDiff, Int.reduceToNat, Int.reduceBEq, Int.reduceBNe, Int.reduceLT, Int.reduceLE, Int.reduceAdd, Int.reduceSub, Int.reduceMul, Int.reduceNeg, Int.reduceEq, Int.reduceNe, h11, fx12_0, fx12_1, fx12_2, r_MetricLink_getL, r_MetricLink_subL, Nat.reduceDiv, Nat.reduceMod]
             obtain rfl := someInj hvh11
             exact hK1 _ ⟨rfl, rfl, rfl, (by first | rfl | (rw [h11]; rfl) | (simp only [h11, Bool.true_and, Bool.false_and, Bool.true_or, Bool.false_or, cond_true, cond_false]; done)), trivial⟩
            ·
             have hvh11 := cF hvh11 h11
             try simp only [go_sem, Nat.reduceEqDiff, reduceIte, Nat.reduceAdd, Nat.reduceMul, Nat.reduceSub, Nat.reduceLT, Nat.reduceLeDiff, h11]
             obtain rfl := someInj hvh11
             exact hK1 _ ⟨rfl, rfl, rfl, (by first | rfl | (rw [h11]; rfl) | (simp only [h11, Bool.true_and, Bool.false_and, Bool.true_or, Bool.false_or, cond_true, cond_false]; done)), trivial⟩
           ·
            refine xw_id ?_
            refine xw_stop 1 (by (try simp only [go_sem]); rfl) (by (try simp only [go_sem]); rfl) (by rfl) fun K1 hK1 => ?_
            refine xw_id ?_
            try simp only [go_sem, Nat.reduceEqDiff, reduceIte, Nat.reduceAdd, Nat.reduceMul, Nat.reduceSub, Nat.reduceLT, Nat.reduceLeDiff]
            refine hK1 _ ?_; clear hK1 K1
            obtain ⟨x15, hvh12, h0⟩ := bnd h0
            refine xw_cut 8 [(109, (vb x15))] (by (try simp only [go_sem]); rfl) (by (try simp only [go_sem]); rfl) (by rfl) (fun K1 hK1 => ?_) fun tz => ?_
            ·
             refine xw_id ?_
             rcases Bool.eq_false_or_eq_true x13 with h12 | h12
             ·
              have hvh12 := cT hvh12 h12
              obtain ⟨x14, bx14, hvh12⟩ := bnd hvh12
              obtain ⟨fx14_0, fx14_1, fx14_2, fx14_3⟩ := idx_some bx14
              simp only [Int.reduceToNat] at fx14_2 fx14_3
              try simp only [go_sem, Nat.reduceEqDiff, reduceIte, Nat.reduceAdd, Nat.reduceMul, Nat.reduceSub, Nat.reduceLT, Nat.reduceLeDiff, Int.reduceToNat, Int.reduceBEq, Int.reduceBNe, Int.reduceLT, Int.reduceLE, Int.reduceAdd, Int.reduceSub, Int.reduceMul, Int.reduceNeg, Int.reduceEq, Int.reduceNe, h12, fx14_0, fx14_1, fx14_2, r_MetricLink_getL, r_MetricLink_subL, Nat.reduceDiv, Nat.reduceMod]
              obtain rfl := someInj hvh12
              exact hK1 _ ⟨rfl, (by first | rfl | (rw [h12]; rfl) | (simp only [h12, Bool.true_and, Bool.false_and, Bool.true_or, Bool.false_or, cond_true, cond_false]; done)), trivial⟩
             ·
              have hvh12 := cF hvh12 h12
              try simp only [go_sem, Nat.reduceEqDiff, reduceIte, Nat.reduceAdd, Nat.reduceMul, Nat.reduceSub, Nat.reduceLT, Nat.reduceLeDiff, h12]
              obtain rfl := someInj hvh12
              exact hK1 _ ⟨rfl, (by first | rfl | (rw [h12]; rfl) | (simp only [h12, Bool.true_and, Bool.false_and, Bool.true_or, Bool.false_or, cond_true, cond_false]; done)), trivial⟩
            ·
             refine xw_id ?_
             try simp only [go_sem, Nat.reduceEqDiff, reduceIte, Nat.reduceAdd, Nat.reduceMul, Nat.reduceSub, Nat.reduceLT, Nat.reduceLeDiff]
             refine hKK _ _ (Wk.refl _ _ _) ?_; clear hKK KK
             refine awp_ret1 ?_
             obtain rfl := someInj h0
             refine endW_i ?_
             refine end_ret0 rs16 (rfl) ?_
             try simp only [go_sem, Nat.reduceEqDiff, reduceIte, Nat.reduceAdd, Nat.reduceMul, Nat.reduceSub, Nat.reduceLT, Nat.reduceLeDiff, fz, nilS, packR, List.take_nil, List.take_length, List.length_map, List.length_append, cond_true, cond_false, Nat.ble_eq, ble_self, List.map_append]
             all_goals rfl

end Go.AX.Z.TM

/-! (TMW metric old) -/

set_option linter.unusedSimpArgs false
set_option linter.unusedVariables false
set_option maxHeartbeats 4000000
namespace Go.AX.Z.TM
open Go.AX Go.Proofs
attribute [local irreducible] awp xw xop xcall gsp ob xd xdop xcallD seqQ loopQ blkQ endQ


theorem metric_old_p (a0 : Int) {r : Int} (h0 : metric_old a0 = some r) : SndP K 41 [(vi a0)] (.clo 53 [] [(.iptr [(vi r)] 0)]) := by
 refine SndP.of_walkW hC (Clean.clo clean_nil (clean_cons (Clean.iptr (clean_cons (Clean.v _) clean_nil)) clean_nil)) (clean_cons (Clean.v _) clean_nil) (show K.P.funcs[41]? = some Try.f41 from Try.func41) rfl rfl (by decide +kernel) (Nat.le_of_ble_eq_true rfl) ?_
 unfold metric_old at h0
 refine awp_nr [0] (fun _ => rfl) fun tz => ?_
 refine awp_regW fun KK hKK => ?_
 refine xw_id ?_
 try simp only [go_sem, Nat.reduceEqDiff, reduceIte, Nat.reduceAdd, Nat.reduceMul, Nat.reduceSub, Nat.reduceLT, Nat.reduceLeDiff]
 refine hKK _ _ (Wk.refl _ _ _) ?_; clear hKK KK
 refine awp_nr [1] (fun _ => rfl) fun tz => ?_
 refine awp_regW fun KK hKK => ?_
 refine xw_id ?_
 try simp only [go_sem, Nat.reduceEqDiff, reduceIte, Nat.reduceAdd, Nat.reduceMul, Nat.reduceSub, Nat.reduceLT, Nat.reduceLeDiff]
 refine hKK _ _ (Wk.refl _ _ _) ?_; clear hKK KK
 refine awp_ret1 ?_
 obtain rfl := someInj h0
 refine endW_i ?_
 refine end_ret0 rs41 (rfl) ?_
 try simp only [go_sem, Nat.reduceEqDiff, reduceIte, Nat.reduceAdd, Nat.reduceMul, Nat.reduceSub, Nat.reduceLT, Nat.reduceLeDiff, fz, nilS, packR, List.take_nil, List.take_length, List.length_map, List.length_append, cond_true, cond_false, Nat.ble_eq, ble_self, List.map_append]
 all_goals rfl

end Go.AX.Z.TM

/-! (TMW metric old 1) -/

set_option linter.unusedSimpArgs false
set_option linter.unusedVariables false
set_option maxHeartbeats 4000000
namespace Go.AX.Z.TM
open Go.AX Go.Proofs
attribute [local irreducible] awp xw xop xcall gsp ob xd xdop xcallD seqQ loopQ blkQ endQ


theorem metric_old_1_p (a0 : MetricLink) (a1 : Int) {r : Bool} (h0 : metric_old_1 a0 a1 = some r) : SndP K 53 [(.agg (e_MetricLink a0)), (.iptr [(vi a1)] 0)] (vb r) := by
 refine SndP.of_walkW hC (Clean.v _) (clean_cons (Clean.agg (e_MetricLink_clean _)) (clean_cons (Clean.iptr (clean_cons (Clean.v _) clean_nil)) clean_nil)) (show K.P.funcs[53]? = some Try.f53 from Try.func53) rfl rfl (by decide +kernel) (Nat.le_of_ble_eq_true rfl) ?_
 unfold metric_old_1 at h0
 refine awp_nr [0,1] (fun _ => rfl) fun tz => ?_
 refine awp_regW fun KK hKK => ?_
 refine xw_id ?_
 try simp only [go_sem, Nat.reduceEqDiff, reduceIte, Nat.reduceAdd, Nat.reduceMul, Nat.reduceSub, Nat.reduceLT, Nat.reduceLeDiff]
 refine hKK _ _ (Wk.refl _ _ _) ?_; clear hKK KK
 refine awp_nr [1,2] (fun _ => rfl) fun tz => ?_
 refine awp_regW fun KK hKK => ?_
 refine xw_id ?_
 try simp only [go_sem, Nat.reduceEqDiff, reduceIte, Nat.reduceAdd, Nat.reduceMul, Nat.reduceSub, Nat.reduceLT, Nat.reduceLeDiff]
 refine hKK _ _ (Wk.refl _ _ _) ?_; clear hKK KK
 refine awp_ret1 ?_
 obtain rfl := someInj h0
 refine endW_i ?_
 refine end_ret0 rs53 (rfl) ?_
 try simp only [go_sem, Nat.reduceEqDiff, reduceIte, Nat.reduceAdd, Nat.reduceMul, Nat.reduceSub, Nat.reduceLT, Nat.reduceLeDiff, fz, nilS, packR, List.take_nil, List.take_length, List.length_map, List.length_append, cond_true, cond_false, Nat.ble_eq, ble_self, List.map_append]
 all_goals rfl

end Go.AX.Z.TM

/-! (TMW metric Of) -/

set_option linter.unusedSimpArgs false
set_option linter.unusedVariables false
set_option maxHeartbeats 4000000
namespace Go.AX.Z.TM
open Go.AX Go.Proofs
attribute [local irreducible] awp xw xop xcall gsp ob xd xdop xcallD seqQ loopQ blkQ endQ

def metric_Of_S0 (a0 : MetricTable) (a2 : Int) (x28 : (Int × Bool)) : AS :=
 { objs := (upd (fun _ => .dead) 0 (.live (e_MetricTable a0 (.imm (List.flatMap e_MetricLink a0.Links) a0.Links.length)))), next := 1, tmps := (upd (upd (upd (upd (fun _ => .unk) 2 (vi a2)) 3 (.ptr 0 0)) 9 (vi x28.1)) 10 (vb x28.2)) }

theorem metric_Of_p (a0 : MetricTable) (a1 : Addr) (a2 : Int) {r : (Int × Int)} (h0 : metric_Of a0 a1 a2 = some r) : SndP K 22 [(.agg (E_MetricTable a0)), (.agg (e_Addr a1)), (vi a2)] (.tup [(vi r.1), (vi r.2)]) := by
 refine SndP.of_walkW hC (Clean.tup (clean_cons (Clean.v _) (clean_cons (Clean.v _) clean_nil))) (clean_cons (Clean.agg (E_MetricTable_clean _)) (clean_cons (Clean.agg (e_Addr_clean _)) (clean_cons (Clean.v _) clean_nil))) (show K.P.funcs[22]? = some Try.f22 from Try.func22) rfl rfl (by decide +kernel) (Nat.le_of_ble_eq_true rfl) ?_
 unfold metric_Of at h0
 refine awp_nr [0,1,2] (fun _ => rfl) fun tz => ?_
 refine awp_regW fun KK hKK => ?_
 refine xw_id ?_
 try simp only [go_sem, Nat.reduceEqDiff, reduceIte, Nat.reduceAdd, Nat.reduceMul, Nat.reduceSub, Nat.reduceLT, Nat.reduceLeDiff]
 refine hKK _ _ (Wk.refl _ _ _) ?_; clear hKK KK
 refine awp_assoc ?_
 refine awp_nr [2,3,4] (fun _ => rfl) fun tz => ?_
 refine awp_regW fun KK hKK => ?_
 refine xw_id ?_
 obtain ⟨x27, bx27, h0⟩ := bnd h0
 try simp only [go_sem, Nat.reduceEqDiff, reduceIte, Nat.reduceAdd, Nat.reduceMul, Nat.reduceSub, Nat.reduceLT, Nat.reduceLeDiff]
 refine xcall_p (metric_checked_p a0 a2 bx27) ?_; try dsimp only
 try refine xw_id ?_
 try simp only [go_sem, Nat.reduceEqDiff, reduceIte, Nat.reduceAdd, Nat.reduceMul, Nat.reduceSub, Nat.reduceLT, Nat.reduceLeDiff]
 refine hKK _ _ (Wk.refl _ _ _) ?_; clear hKK KK
 refine awp_assoc ?_
 refine awp_nr [2,3,4,8] (fun _ => rfl) fun tz => ?_
 refine awp_regW fun KK hKK => ?_
 refine xw_id ?_
 try simp only [go_sem, Nat.reduceEqDiff, reduceIte, Nat.reduceAdd, Nat.reduceMul, Nat.reduceSub, Nat.reduceLT, Nat.reduceLeDiff]
 refine hKK _ _ (Wk.refl _ _ _) ?_; clear hKK KK
 refine awp_cond (b := (x27 != 0)) rfl (fun h1 => ?_) (fun h1 => ?_)
 ·
  have h0 := cT h0 h1
  refine awp_assoc ?_
  refine awp_nr [8] (fun _ => rfl) fun tz => ?_
  refine awp_regW fun KK hKK => ?_
  refine xw_id ?_
  try simp only [go_sem, Nat.reduceEqDiff, reduceIte, Nat.reduceAdd, Nat.reduceMul, Nat.reduceSub, Nat.reduceLT, Nat.reduceLeDiff]
  refine hKK _ _ (Wk.refl _ _ _) ?_; clear hKK KK
  refine awp_ret ?_
  obtain rfl := someInj h0
  refine endW_i ?_
  refine end_ret0 rs22 (rfl) ?_
  try simp only [go_sem, Nat.reduceEqDiff, reduceIte, Nat.reduceAdd, Nat.reduceMul, Nat.reduceSub, Nat.reduceLT, Nat.reduceLeDiff, fz, nilS, packR, List.take_nil, List.take_length, List.length_map, List.length_append, cond_true, cond_false, Nat.ble_eq, ble_self, List.map_append]
  all_goals rfl
 ·
  have h0 := cF h0 h1
  refine awp_skip ?_
  refine awp_nr [2,3,4] (fun _ => rfl) fun tz => ?_
  refine awp_regW fun KK hKK => ?_
  refine xw_id ?_
  obtain ⟨x28, bx28, h0⟩ := bnd h0
  try simp only [go_sem, Nat.reduceEqDiff, reduceIte, Nat.reduceAdd, Nat.reduceMul, Nat.reduceSub, Nat.reduceLT, Nat.reduceLeDiff]
  refine xcall_p (metric_find_p a0 a1 bx28) ?_; try dsimp only
  try refine xw_id ?_
  try simp only [go_sem, Nat.reduceEqDiff, reduceIte, Nat.reduceAdd, Nat.reduceMul, Nat.reduceSub, Nat.reduceLT, Nat.reduceLeDiff]
  refine hKK _ (metric_Of_S0 a0 a2 x28) (Wk.canonD [] [] [some 0] rfl trivial rfl (tmOU 0 tmO0 rfl List.not_mem_nil (by simp only [upd_get, Nat.reduceEqDiff, reduceIte, Nat.reduceAdd, Nat.reduceMul, Nat.reduceSub, Nat.reduceLT, Nat.reduceLeDiff, if_true, if_false] <;> rfl) (e_MetricTable_tmx (by rfl) (Tm.clean (Clean.imm (c_MetricLink _))))) (tmAllU 10 (tmAllU 9 (tmAllU 3 (tmAllU 2 tmAll0 (Tm.v _)) (Tm.ptr rfl)) (Tm.v _)) (Tm.v _))) ?_; clear hKK KK
  unfold metric_Of_S0
  refine awp_assoc ?_
  refine awp_nr [2,3,9,10] (fun _ => rfl) fun tz => ?_
  refine awp_regW fun KK hKK => ?_
  refine xw_id ?_
  refine xw_stop 3 (by (try simp only [go_sem]); rfl) (by (try simp only [go_sem]); rfl) (by rfl) fun K1 hK1 => ?_
  refine xw_id ?_
  try simp only [go_sem, Nat.reduceEqDiff, reduceIte, Nat.reduceAdd, Nat.reduceMul, Nat.reduceSub, Nat.reduceLT, Nat.reduceLeDiff]
  refine hK1 _ ?_; clear hK1 K1
  obtain ⟨x32, hvh2, h0⟩ := bnd h0
  refine xw_cut 9 [(3, (.ptr 0 0)), (9, (vi x28.1)), (34, (vb x32))] (by (try simp only [go_sem]); rfl) (by (try simp only [go_sem]); rfl) (by rfl) (fun K1 hK1 => ?_) fun tz => ?_
  ·
   refine xw_id ?_
   rcases Bool.eq_false_or_eq_true (!x28.2) with h2 | h2
   ·
    have hvh2 := cT hvh2 h2
    try simp only [go_sem, Nat.reduceEqDiff, reduceIte, Nat.reduceAdd, Nat.reduceMul, Nat.reduceSub, Nat.reduceLT, Nat.reduceLeDiff, h2]
    obtain rfl := someInj hvh2
    exact hK1 _ ⟨rfl, rfl, rfl, (by first | rfl | (rw [h2]; rfl) | (simp only [h2, Bool.true_and, Bool.false_and, Bool.true_or, Bool.false_or, cond_true, cond_false]; done)), trivial⟩
   ·
    have hvh2 := cF hvh2 h2
    obtain ⟨x29, bx29, hvh2⟩ := bnd hvh2
    try simp only [go_sem, Nat.reduceEqDiff, reduceIte, Nat.reduceAdd, Nat.reduceMul, Nat.reduceSub, Nat.reduceLT, Nat.reduceLeDiff, h2]
    refine xcall_p (metric_old_p a2 bx29) ?_; try dsimp only
    try refine xw_id ?_
    obtain ⟨x30, bx30, hvh2⟩ := bnd hvh2
    obtain ⟨fx30_0, fx30_1, fx30_2, fx30_3⟩ := idx_some bx30
    obtain ⟨x31, bx31, hvh2⟩ := bnd hvh2
    try simp only [go_sem, Nat.reduceEqDiff, reduceIte, Nat.reduceAdd, Nat.reduceMul, Nat.reduceSub, Nat.reduceLT, Nat.reduceLeDiff, h2, fx30_0, fx30_1, fx30_2]
    refine xcall_p (metric_old_1_p x30 x29 bx31) ?_; try dsimp only
    try refine xw_id ?_
    try simp only [go_sem, Nat.reduceEqDiff, reduceIte, Nat.reduceAdd, Nat.reduceMul, Nat.reduceSub, Nat.reduceLT, Nat.reduceLeDiff, h2, fx30_0, fx30_1, fx30_2]
    obtain rfl := someInj hvh2
    exact hK1 _ ⟨rfl, rfl, rfl, (by first | rfl | (rw [h2]; rfl) | (simp only [h2, Bool.true_and, Bool.false_and, Bool.true_or, Bool.false_or, cond_true, cond_false]; done)), trivial⟩
  ·
   refine xw_id ?_
   try simp only [go_sem, Nat.reduceEqDiff, reduceIte, Nat.reduceAdd, Nat.reduceMul, Nat.reduceSub, Nat.reduceLT, Nat.reduceLeDiff]
   refine hKK _ _ (Wk.refl _ _ _) ?_; clear hKK KK
   refine awp_cond (b := x32) rfl (fun h3 => ?_) (fun h3 => ?_)
   ·
    have h0 := cT h0 h3
    refine awp_assoc ?_
    refine awp_nr [] (fun _ => rfl) fun tz => ?_
    refine awp_regW fun KK hKK => ?_
    refine xw_id ?_
    try simp only [go_sem, Nat.reduceEqDiff, reduceIte, Nat.reduceAdd, Nat.reduceMul, Nat.reduceSub, Nat.reduceLT, Nat.reduceLeDiff]
    refine hKK _ _ (Wk.refl _ _ _) ?_; clear hKK KK
    refine awp_ret ?_
    obtain rfl := someInj h0
    refine endW_i ?_
    refine end_ret0 rs22 (rfl) ?_
    try simp only [go_sem, Nat.reduceEqDiff, reduceIte, Nat.reduceAdd, Nat.reduceMul, Nat.reduceSub, Nat.reduceLT, Nat.reduceLeDiff, fz, nilS, packR, List.take_nil, List.take_length, List.length_map, List.length_append, cond_true, cond_false, Nat.ble_eq, ble_self, List.map_append]
    all_goals rfl
   ·
    have h0 := cF h0 h3
    refine awp_skip ?_
    refine awp_nr [3,9] (fun _ => rfl) fun tz => ?_
    refine awp_regW fun KK hKK => ?_
    refine xw_id ?_
    obtain ⟨x33, bx33, h0⟩ := bnd h0
    obtain ⟨fx33_0, fx33_1, fx33_2, fx33_3⟩ := idx_some bx33
    obtain ⟨x34, bx34, h0⟩ := bnd h0
    try simp only [go_sem, Nat.reduceEqDiff, reduceIte, Nat.reduceAdd, Nat.reduceMul, Nat.reduceSub, Nat.reduceLT, Nat.reduceLeDiff, fx33_0, fx33_1, fx33_2]
    refine xcall_p (metric_Cost_p x33.Rate x33.Loss bx34) ?_; try dsimp only
    try refine xw_id ?_
    try simp only [go_sem, Nat.reduceEqDiff, reduceIte, Nat.reduceAdd, Nat.reduceMul, Nat.reduceSub, Nat.reduceLT, Nat.reduceLeDiff, fx33_0, fx33_1, fx33_2]
    refine hKK _ _ (Wk.refl _ _ _) ?_; clear hKK KK
    refine awp_ret1 ?_
    obtain rfl := someInj h0
    refine endW_i ?_
    refine end_ret0 rs22 (rfl) ?_
    try simp only [go_sem, Nat.reduceEqDiff, reduceIte, Nat.reduceAdd, Nat.reduceMul, Nat.reduceSub, Nat.reduceLT, Nat.reduceLeDiff, fz, nilS, packR, List.take_nil, List.take_length, List.length_map, List.length_append, cond_true, cond_false, Nat.ble_eq, ble_self, List.map_append]
    all_goals rfl

end Go.AX.Z.TM

/-! (TMW metric split) -/

set_option linter.unusedSimpArgs false
set_option linter.unusedVariables false
set_option maxHeartbeats 4000000
namespace Go.AX.Z.TM
open Go.AX Go.Proofs
attribute [local irreducible] awp xw xop xcall gsp ob xd xdop xcallD seqQ loopQ blkQ endQ

def metric_split_S0 (d41 : (List MetricLink × List Addr)) : AS :=
 { objs := (upd (upd (fun _ => .dead) 0 (.live (List.flatMap e_MetricLink d41.1))) 1 (.live (List.flatMap e_Addr d41.2))), next := 2, tmps := (upd (upd (fun _ => .unk) 4 (.ref 0 0 ((d41.1).length) 9)) 5 (.ref 1 0 ((d41.2).length) 6)) }

def metric_split_S1 (a1 : Int) (a0 : (List MetricLink)) (d42 : (List MetricLink × List Addr × Int)) : AS :=
 { objs := (upd (upd (fun _ => .dead) 0 (.live (List.flatMap e_MetricLink d42.1))) 1 (.live (List.flatMap e_Addr d42.2.1))), next := 2, tmps := (upd (upd (upd (upd (upd (upd (fun _ => .unk) 1 (.clo 53 [] [(.iptr [(vi a1)] 0)])) 4 (.ref 0 0 ((d42.1).length) 9)) 5 (.ref 1 0 ((d42.2.1).length) 6)) 8 (.imm (List.flatMap e_MetricLink a0) a0.length)) 9 (vi (a0.length : Int))) 10 (vi d42.2.2)) }

theorem metric_split_r (a0 : (List MetricLink)) (a1 : Int) {r : ((List MetricLink) × (List Addr))} (h0 : metric_split a0 a1 = some r) : SndR K 42 [(S_MetricLink a0), (.clo 53 [] [(.iptr [(vi a1)] 0)])] (fun q => (.tup [(.ref (q 0) 0 r.1.length 9), (.ref (q 1) 0 r.2.length 6)])) [(List.flatMap e_MetricLink r.1), (List.flatMap e_Addr r.2)] := by
 refine SndR.of_walkW hC (show K.P.funcs[42]? = some Try.f42 from Try.func42) rfl rfl (by decide +kernel) (Nat.le_of_ble_eq_true rfl) ?_
 unfold metric_split at h0
 refine awp_nr [0,1] (fun _ => rfl) fun tz => ?_
 refine awp_regW fun KK hKK => ?_
 refine xw_id ?_
 try simp only [go_sem, Nat.reduceEqDiff, reduceIte, Nat.reduceAdd, Nat.reduceMul, Nat.reduceSub, Nat.reduceLT, Nat.reduceLeDiff]
 refine hKK _ _ (Wk.refl _ _ _) ?_; clear hKK KK
 refine awp_assoc ?_
 refine awp_nr [0,1,4,5] (fun _ => rfl) fun tz => ?_
 refine awp_regW fun KK hKK => ?_
 refine xw_id ?_
 try simp only [go_sem, Nat.reduceEqDiff, reduceIte, Nat.reduceAdd, Nat.reduceMul, Nat.reduceSub, Nat.reduceLT, Nat.reduceLeDiff, Int.reduceToNat, Int.reduceBEq, Int.reduceBNe, Int.reduceLT, Int.reduceLE, Int.reduceAdd, Int.reduceSub, Int.reduceMul, Int.reduceNeg, Int.reduceEq, Int.reduceNe]
 refine hKK _ _ (Wk.refl _ _ _) ?_; clear hKK KK
 obtain ⟨d41, hi1, h0⟩ := bnd h0
 refine awp_cut (fun z => d41 = z) (fun d41 : (List MetricLink × List Addr) => metric_split_S0 d41) ?_ ?_
 ·
  refine awp_block1 ?_
  refine awp_loopS (fun n (d42 : (List MetricLink × List Addr × Int)) => metric_split_L2 a0 a1 n d42 = some d41) (fun d42 : (List MetricLink × List Addr × Int) => metric_split_S1 a1 a0 d42) big ([], [], 0) (by refine Wk.canonD [] [] [none, none] rfl trivial rfl (tmON 1 (tmON 0 tmO0 rfl) rfl) (tmAllU 10 (tmAllU 9 (tmAllU 8 (tmAllU 5 (tmAllU 4 (tmAllU 1 tmAll0 (Tm.clo TmL.nil (TmL.cons (Tm.clean (by first | exact Clean.v _ | (refine Clean.iptr ?_; (repeat (first | exact clean_nil | (refine clean_cons (Clean.v _) ?_)))))) TmL.nil))) (Tm.thaw _ _ _)) (Tm.thaw _ _ _)) (Tm.clean (Clean.imm (c_MetricLink _)))) (Tm.v _)) (Tm.v _)); all_goals (first | rfl | (simp only [List.length_take]; omega) | (simp only [List.length_append, List.length_cons, List.length_nil, List.length_modify, List.length_set, Nat.zero_add]; done) | (simp only [List.length_append, List.length_take, List.length_drop, List.length_cons, List.length_nil, List.length_modify, List.length_set, Nat.zero_add]; omega))) hi1 ?_
  clear hi1
  rintro n d42 hl3
  rcases n with _ | n2
  ·
   (rw [metric_split_L2] at hl3; cases hl3)
  ·
   rw [metric_split_L2] at hl3
   unfold metric_split_S1
   refine awp_nr [1,4,5,8,9,10] (fun _ => rfl) fun tz => ?_
   refine awp_regW fun KK hKK => ?_
   refine xw_id ?_
   try simp only [go_sem, Nat.reduceEqDiff, reduceIte, Nat.reduceAdd, Nat.reduceMul, Nat.reduceSub, Nat.reduceLT, Nat.reduceLeDiff]
   refine hKK _ _ (Wk.refl _ _ _) ?_; clear hKK KK
   refine awp_cond (b := (decide (d42.2.2 < (a0.length : Int)))) rfl (fun h4 => ?_) (fun h4 => ?_)
   ·
    have hl3 := cT hl3 h4
    refine awp_skip ?_
    refine awp_blockW ?_
    refine awp_nr [1,4,5,8,9,10] (fun _ => rfl) fun tz => ?_
    refine awp_regW fun KK hKK => ?_
    refine xw_id ?_
    obtain ⟨x43, bx43, hl3⟩ := bnd hl3
    obtain ⟨fx43_0, fx43_1, fx43_2, fx43_3⟩ := idx_some bx43
    try simp only [go_sem, Nat.reduceEqDiff, reduceIte, Nat.reduceAdd, Nat.reduceMul, Nat.reduceSub, Nat.reduceLT, Nat.reduceLeDiff, fx43_0, fx43_1, fx43_2]
    refine hKK _ _ (Wk.refl _ _ _) ?_; clear hKK KK
    refine awp_nr [1,4,5,7,8,9,10] (fun _ => rfl) fun tz => ?_
    refine awp_regW fun KK hKK => ?_
    refine xw_id ?_
    obtain ⟨x44, bx44, hl3⟩ := bnd hl3
    try simp only [go_sem, Nat.reduceEqDiff, reduceIte, Nat.reduceAdd, Nat.reduceMul, Nat.reduceSub, Nat.reduceLT, Nat.reduceLeDiff, fx43_0, fx43_1, fx43_2]
    refine xcall_p (metric_old_1_p x43 a1 bx44) ?_; try dsimp only
    try refine xw_id ?_
    try simp only [go_sem, Nat.reduceEqDiff, reduceIte, Nat.reduceAdd, Nat.reduceMul, Nat.reduceSub, Nat.reduceLT, Nat.reduceLeDiff, fx43_0, fx43_1, fx43_2]
    refine hKK _ _ (Wk.refl _ _ _) ?_; clear hKK KK
    refine awp_cond1 (b := x44) rfl (fun h5 => ?_) (fun h5 => ?_)
    ·
     have hl3 := cT hl3 h5
     refine awp_nr1 [1,4,5,7,8,9,10] (fun _ => rfl) fun tz => ?_
     refine awp_reg1 fun KK hKK => ?_
     refine xw_id ?_
     obtain ⟨x45, bx45, hl3⟩ := bnd hl3
     have bx45 := chk_some bx45
     simp only [Bool.and_eq_true, decide_eq_true_eq] at bx45
     have gx45_0 := bx45
     try simp only [go_sem, Nat.reduceEqDiff, reduceIte, Nat.reduceAdd, Nat.reduceMul, Nat.reduceSub, Nat.reduceLT, Nat.reduceLeDiff, Int.reduceToNat, Int.reduceBEq, Int.reduceBNe, Int.reduceLT, Int.reduceLE, Int.reduceAdd, Int.reduceSub, Int.reduceMul, Int.reduceNeg, Int.reduceEq, Int.reduceNe, fx43_0, fx43_1, fx43_2, gx45_0]
     refine hKK _ ?_; clear hKK KK
     refine bq_n ?_
     refine seqW_i ?_
     refine awp_nr1 [1,4,5,8,9,10] (fun _ => rfl) fun tz => ?_
     refine awp_reg1 fun KK hKK => ?_
     refine xw_id ?_
     try simp only [go_sem, Nat.reduceEqDiff, reduceIte, Nat.reduceAdd, Nat.reduceMul, Nat.reduceSub, Nat.reduceLT, Nat.reduceLeDiff, fx43_0, fx43_1, fx43_2]
     refine hKK _ ?_; clear hKK KK
     refine lq_n ?_
     exact ⟨n2, (d42.1, (d42.2.1 ++ [x43.Peer]), IntKind.wrap .i64 (d42.2.2 + 1)), rfl, hl3, (by refine Wk.canonD [] [] [some 0, some 14] rfl trivial rfl (tmOU 1 (tmOU 0 tmO0 rfl List.not_mem_nil (by simp only [upd_get, Nat.reduceEqDiff, reduceIte, Nat.reduceAdd, Nat.reduceMul, Nat.reduceSub, Nat.reduceLT, Nat.reduceLeDiff, if_true, if_false] <;> rfl) (TmL.of_eq (by first | rfl | (simp only [List.flatMap_append, List.flatMap_cons, List.flatMap_nil, List.map_append, List.map_cons, List.map_nil, List.append_nil, List.nil_append]; done) | (simp only [List.flatMap_append, List.flatMap_cons, List.flatMap_nil, List.map_append, List.map_cons, List.map_nil, List.append_nil, List.nil_append]; rfl)) (c_MetricLink _))) rfl List.not_mem_nil (by simp only [upd_get, Nat.reduceEqDiff, reduceIte, Nat.reduceAdd, Nat.reduceMul, Nat.reduceSub, Nat.reduceLT, Nat.reduceLeDiff, if_true, if_false] <;> rfl) (TmL.of_eq (by first | rfl | (simp only [List.flatMap_append, List.flatMap_cons, List.flatMap_nil, List.map_append, List.map_cons, List.map_nil, List.append_nil, List.nil_append]; done) | (simp only [List.flatMap_append, List.flatMap_cons, List.flatMap_nil, List.map_append, List.map_cons, List.map_nil, List.append_nil, List.nil_append]; rfl)) (c_Addr _))) (tmAllU 10 (tmAllU 9 (tmAllU 8 (tmAllU 5 (tmAllU 4 (tmAllU 1 tmAll0 (Tm.clo TmL.nil (TmL.cons (Tm.clean (by first | exact Clean.v _ | (refine Clean.iptr ?_; (repeat (first | exact clean_nil | (refine clean_cons (Clean.v _) ?_)))))) TmL.nil))) (Tm.refL rfl ?_)) (Tm.refL rfl ?_)) (Tm.clean (Clean.imm (c_MetricLink _)))) (Tm.v _)) (Tm.v _)); all_goals (first | rfl | (simp only [List.length_take]; omega) | (simp only [List.length_append, List.length_cons, List.length_nil, List.length_modify, List.length_set, Nat.zero_add]; done) | (simp only [List.length_append, List.length_take, List.length_drop, List.length_cons, List.length_nil, List.length_modify, List.length_set, Nat.zero_add]; omega)))⟩
    ·
     have hl3 := cF hl3 h5
     refine awp_nr1 [1,4,5,7,8,9,10] (fun _ => rfl) fun tz => ?_
     refine awp_reg1 fun KK hKK => ?_
     refine xw_id ?_
     obtain ⟨x46, bx46, hl3⟩ := bnd hl3
     have bx46 := chk_some bx46
     simp only [Bool.and_eq_true, decide_eq_true_eq] at bx46
     have gx46_0 := bx46
     try simp only [go_sem, Nat.reduceEqDiff, reduceIte, Nat.reduceAdd, Nat.reduceMul, Nat.reduceSub, Nat.reduceLT, Nat.reduceLeDiff, Int.reduceToNat, Int.reduceBEq, Int.reduceBNe, Int.reduceLT, Int.reduceLE, Int.reduceAdd, Int.reduceSub, Int.reduceMul, Int.reduceNeg, Int.reduceEq, Int.reduceNe, fx43_0, fx43_1, fx43_2, gx46_0]
     refine hKK _ ?_; clear hKK KK
     refine bq_n ?_
     refine seqW_i ?_
     refine awp_nr1 [1,4,5,8,9,10] (fun _ => rfl) fun tz => ?_
     refine awp_reg1 fun KK hKK => ?_
     refine xw_id ?_
     try simp only [go_sem, Nat.reduceEqDiff, reduceIte, Nat.reduceAdd, Nat.reduceMul, Nat.reduceSub, Nat.reduceLT, Nat.reduceLeDiff, fx43_0, fx43_1, fx43_2]
     refine hKK _ ?_; clear hKK KK
     refine lq_n ?_
     exact ⟨n2, ((d42.1 ++ [x43]), d42.2.1, IntKind.wrap .i64 (d42.2.2 + 1)), rfl, hl3, (by refine Wk.canonD [] [] [some 13, some 1] rfl trivial rfl (tmOU 1 (tmOU 0 tmO0 rfl List.not_mem_nil (by simp only [upd_get, Nat.reduceEqDiff, reduceIte, Nat.reduceAdd, Nat.reduceMul, Nat.reduceSub, Nat.reduceLT, Nat.reduceLeDiff, if_true, if_false] <;> rfl) (TmL.of_eq (by first | rfl | (simp only [List.flatMap_append, List.flatMap_cons, List.flatMap_nil, List.map_append, List.map_cons, List.map_nil, List.append_nil, List.nil_append]; done) | (simp only [List.flatMap_append, List.flatMap_cons, List.flatMap_nil, List.map_append, List.map_cons, List.map_nil, List.append_nil, List.nil_append]; rfl)) (c_MetricLink _))) rfl List.not_mem_nil (by simp only [upd_get, Nat.reduceEqDiff, reduceIte, Nat.reduceAdd, Nat.reduceMul, Nat.reduceSub, Nat.reduceLT, Nat.reduceLeDiff, if_true, if_false] <;> rfl) (TmL.of_eq (by first | rfl | (simp only [List.flatMap_append, List.flatMap_cons, List.flatMap_nil, List.map_append, List.map_cons, List.map_nil, List.append_nil, List.nil_append]; done) | (simp only [List.flatMap_append, List.flatMap_cons, List.flatMap_nil, List.map_append, List.map_cons, List.map_nil, List.append_nil, List.nil_append]; rfl)) (c_Addr _))) (tmAllU 10 (tmAllU 9 (tmAllU 8 (tmAllU 5 (tmAllU 4 (tmAllU 1 tmAll0 (Tm.clo TmL.nil (TmL.cons (Tm.clean (by first | exact Clean.v _ | (refine Clean.iptr ?_; (repeat (first | exact clean_nil | (refine clean_cons (Clean.v _) ?_)))))) TmL.nil))) (Tm.refL rfl ?_)) (Tm.refL rfl ?_)) (Tm.clean (Clean.imm (c_MetricLink _)))) (Tm.v _)) (Tm.v _)); all_goals (first | rfl | (simp only [List.length_take]; omega) | (simp only [List.length_append, List.length_cons, List.length_nil, List.length_modify, List.length_set, Nat.zero_add]; done) | (simp only [List.length_append, List.length_take, List.length_drop, List.length_cons, List.length_nil, List.length_modify, List.length_set, Nat.zero_add]; omega)))⟩
   ·
    have hl3 := cF hl3 h4
    refine awp_exit ?_
    refine lq_e ?_
    refine bq_e ?_
    refine sq_n ?_
    obtain rfl := someInj hl3
    exact ⟨_, rfl, (by refine Wk.canonD [] [] [some 0, some 1] rfl trivial rfl (tmOU 1 (tmOU 0 tmO0 rfl List.not_mem_nil (by simp only [upd_get, Nat.reduceEqDiff, reduceIte, Nat.reduceAdd, Nat.reduceMul, Nat.reduceSub, Nat.reduceLT, Nat.reduceLeDiff, if_true, if_false] <;> rfl) (TmL.of_eq (by first | rfl | (simp only [List.flatMap_append, List.flatMap_cons, List.flatMap_nil, List.map_append, List.map_cons, List.map_nil, List.append_nil, List.nil_append]; done) | (simp only [List.flatMap_append, List.flatMap_cons, List.flatMap_nil, List.map_append, List.map_cons, List.map_nil, List.append_nil, List.nil_append]; rfl)) (c_MetricLink _))) rfl List.not_mem_nil (by simp only [upd_get, Nat.reduceEqDiff, reduceIte, Nat.reduceAdd, Nat.reduceMul, Nat.reduceSub, Nat.reduceLT, Nat.reduceLeDiff, if_true, if_false] <;> rfl) (TmL.of_eq (by first | rfl | (simp only [List.flatMap_append, List.flatMap_cons, List.flatMap_nil, List.map_append, List.map_cons, List.map_nil, List.append_nil, List.nil_append]; done) | (simp only [List.flatMap_append, List.flatMap_cons, List.flatMap_nil, List.map_append, List.map_cons, List.map_nil, List.append_nil, List.nil_append]; rfl)) (c_Addr _))) (tmAllU 5 (tmAllU 4 tmAll0 (Tm.refL rfl ?_)) (Tm.refL rfl ?_)); all_goals (first | rfl | (simp only [List.length_take]; omega) | (simp only [List.length_append, List.length_cons, List.length_nil, List.length_modify, List.length_set, Nat.zero_add]; done) | (simp only [List.length_append, List.length_take, List.length_drop, List.length_cons, List.length_nil, List.length_modify, List.length_set, Nat.zero_add]; omega)))⟩
 ·
  rintro _ rfl
  clear hi1
  unfold metric_split_S0
  refine awp_nr [4,5] (fun _ => rfl) fun tz => ?_
  refine awp_regW fun KK hKK => ?_
  refine xw_id ?_
  try simp only [go_sem, Nat.reduceEqDiff, reduceIte, Nat.reduceAdd, Nat.reduceMul, Nat.reduceSub, Nat.reduceLT, Nat.reduceLeDiff]
  refine hKK _ _ (Wk.refl _ _ _) ?_; clear hKK KK
  refine awp_ret1 ?_
  obtain rfl := someInj h0
  refine endW_i ?_
  refine end_ret0 rs42 (rfl) ?_
  refine Res.mk [] [some 0, some 1] rfl (resOU List.not_mem_nil (by simp only [upd_get, Nat.reduceEqDiff, reduceIte, Nat.reduceAdd, Nat.reduceMul, Nat.reduceSub, Nat.reduceLT, Nat.reduceLeDiff, if_true, if_false] <;> rfl) (TmL.of_eq (by first | rfl | (simp only [List.flatMap_append, List.flatMap_cons, List.flatMap_nil, List.map_append, List.map_cons, List.map_nil, List.append_nil, List.nil_append]; done) | (simp only [List.flatMap_append, List.flatMap_cons, List.flatMap_nil, List.map_append, List.map_cons, List.map_nil, List.append_nil, List.nil_append]; rfl)) (c_MetricLink _)) (resOU List.not_mem_nil (by simp only [upd_get, Nat.reduceEqDiff, reduceIte, Nat.reduceAdd, Nat.reduceMul, Nat.reduceSub, Nat.reduceLT, Nat.reduceLeDiff, if_true, if_false] <;> rfl) (TmL.of_eq (by first | rfl | (simp only [List.flatMap_append, List.flatMap_cons, List.flatMap_nil, List.map_append, List.map_cons, List.map_nil, List.append_nil, List.nil_append]; done) | (simp only [List.flatMap_append, List.flatMap_cons, List.flatMap_nil, List.map_append, List.map_cons, List.map_nil, List.append_nil, List.nil_append]; rfl)) (c_Addr _)) resO0)) (Tm.tup (TmL.cons (Tm.refL rfl ?_) (TmL.cons (Tm.refL rfl ?_) TmL.nil)))
  all_goals (first | rfl | (simp only [List.length_take]; omega) | (simp only [List.length_append, List.length_cons, List.length_nil, List.length_modify, List.length_set, Nat.zero_add]; done) | (simp only [List.length_append, List.length_take, List.length_drop, List.length_cons, List.length_nil, List.length_modify, List.length_set, Nat.zero_add]; omega))

theorem metric_split_m (a0 : (List MetricLink)) (a1 : Int) {r : ((List MetricLink) × (List Addr))} (h0 : metric_split a0 a1 = some r) : SndM K 42 [(S_MetricLink a0), (.clo 53 [] [(.iptr [(vi a1)] 0)])] (fun q => (.tup [(.ref (q 0) 0 r.1.length 9), (.ref (q 1) 0 r.2.length 6)])) [(List.flatMap e_MetricLink r.1), (List.flatMap e_Addr r.2)] :=
 fun hs => Snd.of_newM (RenM.tup (RenML.cons (RenM.ref 0 0 _ _) (RenML.cons (RenM.ref 1 0 _ _) RenML.nil))) (rows_all_cons (c_MetricLink _) (rows_all_cons (c_Addr _) rows_all_nil)) (clean_cons (S_MetricLink_clean _) (clean_cons (Clean.clo clean_nil (clean_cons (Clean.iptr (clean_cons (Clean.v _) clean_nil)) clean_nil)) clean_nil)) (metric_split_r a0 a1 h0) hs

theorem metric_split_p (a0 : (List MetricLink)) (a1 : Int) {r : ((List MetricLink) × (List Addr))} (h0 : metric_split a0 a1 = some r) : SndP K 42 [(S_MetricLink a0), (.clo 53 [] [(.iptr [(vi a1)] 0)])] (.tup [(S_MetricLink r.1), (S_Addr r.2)]) :=
 SndM.pure (metric_split_m a0 a1 h0) (Clean.tup (clean_cons (S_MetricLink_clean _) (clean_cons (S_Addr_clean _) clean_nil))) (clean_cons (S_MetricLink_clean _) (clean_cons (Clean.clo clean_nil (clean_cons (Clean.iptr (clean_cons (Clean.v _) clean_nil)) clean_nil)) clean_nil)) (by simp only [go_sem, newL_n, newL_c, upd_get, fz, nilS, cond_true, cond_false, List.drop_zero, List.take_length, List.length_map, ble_self, Nat.reduceEqDiff, reduceIte, Nat.reduceAdd, Nat.reduceMul, Nat.reduceSub, Nat.reduceLT, Nat.reduceLeDiff] <;> rfl)

end Go.AX.Z.TM

/-! (TMW metric Age) -/

set_option linter.unusedSimpArgs false
set_option linter.unusedVariables false
set_option maxHeartbeats 4000000
namespace Go.AX.Z.TM
open Go.AX Go.Proofs
attribute [local irreducible] awp xw xop xcall gsp ob xd xdop xcallD seqQ loopQ blkQ endQ


theorem metric_Age_p (a0 : MetricTable) (a1 : Int) {r : (MetricTable × (List Addr) × Int)} (h0 : metric_Age a0 a1 = some r) : SndP K 24 [(.agg (E_MetricTable a0)), (vi a1)] (.tup [(.agg (E_MetricTable r.1)), (S_Addr r.2.1), (vi r.2.2)]) := by
 refine SndP.of_walkW hC (Clean.tup (clean_cons (Clean.agg (E_MetricTable_clean _)) (clean_cons (S_Addr_clean _) (clean_cons (Clean.v _) clean_nil)))) (clean_cons (Clean.agg (E_MetricTable_clean _)) (clean_cons (Clean.v _) clean_nil)) (show K.P.funcs[24]? = some Try.f24 from Try.func24) rfl rfl (by decide +kernel) (Nat.le_of_ble_eq_true rfl) ?_
 unfold metric_Age at h0
 refine awp_nr [0,1] (fun _ => rfl) fun tz => ?_
 refine awp_regW fun KK hKK => ?_
 refine xw_id ?_
 try simp only [go_sem, Nat.reduceEqDiff, reduceIte, Nat.reduceAdd, Nat.reduceMul, Nat.reduceSub, Nat.reduceLT, Nat.reduceLeDiff]
 refine hKK _ _ (Wk.refl _ _ _) ?_; clear hKK KK
 refine awp_assoc ?_
 refine awp_nr [1,2,4] (fun _ => rfl) fun tz => ?_
 refine awp_regW fun KK hKK => ?_
 refine xw_id ?_
 obtain ⟨x39, bx39, h0⟩ := bnd h0
 try simp only [go_sem, Nat.reduceEqDiff, reduceIte, Nat.reduceAdd, Nat.reduceMul, Nat.reduceSub, Nat.reduceLT, Nat.reduceLeDiff]
 refine xcall_p (metric_checked_p a0 a1 bx39) ?_; try dsimp only
 try refine xw_id ?_
 try simp only [go_sem, Nat.reduceEqDiff, reduceIte, Nat.reduceAdd, Nat.reduceMul, Nat.reduceSub, Nat.reduceLT, Nat.reduceLeDiff]
 refine hKK _ _ (Wk.refl _ _ _) ?_; clear hKK KK
 refine awp_assoc ?_
 refine awp_nr [1,2,4,7] (fun _ => rfl) fun tz => ?_
 refine awp_regW fun KK hKK => ?_
 refine xw_id ?_
 try simp only [go_sem, Nat.reduceEqDiff, reduceIte, Nat.reduceAdd, Nat.reduceMul, Nat.reduceSub, Nat.reduceLT, Nat.reduceLeDiff]
 refine hKK _ _ (Wk.refl _ _ _) ?_; clear hKK KK
 refine awp_cond (b := (x39 != 0)) rfl (fun h1 => ?_) (fun h1 => ?_)
 ·
  have h0 := cT h0 h1
  refine awp_assoc ?_
  refine awp_nr [4,7] (fun _ => rfl) fun tz => ?_
  refine awp_regW fun KK hKK => ?_
  refine xw_id ?_
  try simp only [go_sem, Nat.reduceEqDiff, reduceIte, Nat.reduceAdd, Nat.reduceMul, Nat.reduceSub, Nat.reduceLT, Nat.reduceLeDiff]
  refine hKK _ _ (Wk.refl _ _ _) ?_; clear hKK KK
  refine awp_ret ?_
  obtain rfl := someInj h0
  refine endW_i ?_
  refine end_ret0 rs24 (by simp only [go_sem, resV, resAll, resOf, packR, Nat.reduceEqDiff, reduceIte, Nat.reduceAdd, Nat.reduceMul, Nat.reduceSub, Nat.reduceLT, Nat.reduceLeDiff]; rfl) ?_
  try simp only [go_sem, Nat.reduceEqDiff, reduceIte, Nat.reduceAdd, Nat.reduceMul, Nat.reduceSub, Nat.reduceLT, Nat.reduceLeDiff, fz, nilS, packR, List.take_nil, List.take_length, List.length_map, List.length_append, cond_true, cond_false, Nat.ble_eq, ble_self, List.map_append]
  all_goals rfl
 ·
  have h0 := cF h0 h1
  refine awp_skip ?_
  refine awp_nr [1,2,4] (fun _ => rfl) fun tz => ?_
  refine awp_regW fun KK hKK => ?_
  refine xw_id ?_
  obtain ⟨x40, bx40, h0⟩ := bnd h0
  try simp only [go_sem, Nat.reduceEqDiff, reduceIte, Nat.reduceAdd, Nat.reduceMul, Nat.reduceSub, Nat.reduceLT, Nat.reduceLeDiff]
  refine xcall_p (metric_old_p a1 bx40) ?_; try dsimp only
  try refine xw_id ?_
  obtain ⟨x41, bx41, h0⟩ := bnd h0
  try simp only [go_sem, Nat.reduceEqDiff, reduceIte, Nat.reduceAdd, Nat.reduceMul, Nat.reduceSub, Nat.reduceLT, Nat.reduceLeDiff]
  refine xcall_p (metric_split_p a0.Links x40 bx41) ?_; try dsimp only
  try refine xw_id ?_
  try simp only [go_sem, Nat.reduceEqDiff, reduceIte, Nat.reduceAdd, Nat.reduceMul, Nat.reduceSub, Nat.reduceLT, Nat.reduceLeDiff]
  refine hKK _ _ (Wk.refl _ _ _) ?_; clear hKK KK
  refine awp_nr [4,8,9] (fun _ => rfl) fun tz => ?_
  refine awp_regW fun KK hKK => ?_
  refine xw_id ?_
  try simp only [go_sem, Nat.reduceEqDiff, reduceIte, Nat.reduceAdd, Nat.reduceMul, Nat.reduceSub, Nat.reduceLT, Nat.reduceLeDiff]
  refine hKK _ _ (Wk.refl _ _ _) ?_; clear hKK KK
  refine awp_ret1 ?_
  obtain rfl := someInj h0
  refine endW_i ?_
  refine end_ret0 rs24 (by simp only [go_sem, resV, resAll, resOf, packR, Nat.reduceEqDiff, reduceIte, Nat.reduceAdd, Nat.reduceMul, Nat.reduceSub, Nat.reduceLT, Nat.reduceLeDiff]; rfl) ?_
  try simp only [go_sem, Nat.reduceEqDiff, reduceIte, Nat.reduceAdd, Nat.reduceMul, Nat.reduceSub, Nat.reduceLT, Nat.reduceLeDiff, fz, nilS, packR, List.take_nil, List.take_length, List.length_map, List.length_append, cond_true, cond_false, Nat.ble_eq, ble_self, List.map_append]
  all_goals rfl

end Go.AX.Z.TM

/-! (TMW hotspotlaw38 MetricAges) -/

set_option linter.unusedSimpArgs false
set_option linter.unusedVariables false
set_option maxHeartbeats 4000000
namespace Go.AX.Z.TM
open Go.AX Go.Proofs
attribute [local irreducible] awp xw xop xcall gsp ob xd xdop xcallD seqQ loopQ blkQ endQ

def hotspotlaw38_MetricAges_S0 (a0 : MetricTable) (x39 : (MetricTable × (List Addr) × Int)) (a1 : Int) (x37 : Bool) : AS :=
 { objs := (upd (upd (fun _ => .dead) 0 (.live (e_MetricTable a0 (.imm (List.flatMap e_MetricLink a0.Links) a0.Links.length)))) 1 (.live (e_MetricTable x39.1 (.imm (List.flatMap e_MetricLink x39.1.Links) x39.1.Links.length)))), next := 2, tmps := (upd (upd (upd (upd (upd (upd (fun _ => .unk) 1 (vi a1)) 2 (.ptr 0 0)) 5 (vb x37)) 6 (.ptr 1 0)) 7 (.imm (List.flatMap e_Addr x39.2.1) x39.2.1.length)) 8 (vi x39.2.2)) }

def hotspotlaw38_MetricAges_S1 (x37 : Bool) (d42 : Unit) : AS :=
 { objs := (fun _ => .dead), next := 0, tmps := (upd (fun _ => .unk) 5 (vb x37)) }

def hotspotlaw38_MetricAges_S2 (a0 : MetricTable) (x39 : (MetricTable × (List Addr) × Int)) (a1 : Int) (x37 : Bool) (d44 : (Int × Int × Int)) : AS :=
 { objs := (upd (upd (fun _ => .dead) 0 (.live (e_MetricTable a0 (.imm (List.flatMap e_MetricLink a0.Links) a0.Links.length)))) 1 (.live (e_MetricTable x39.1 (.imm (List.flatMap e_MetricLink x39.1.Links) x39.1.Links.length)))), next := 2, tmps := (upd (upd (upd (upd (upd (upd (upd (upd (fun _ => .unk) 1 (vi a1)) 2 (.ptr 0 0)) 5 (vb x37)) 6 (.ptr 1 0)) 7 (.imm (List.flatMap e_Addr x39.2.1) x39.2.1.length)) 9 (vi d44.1)) 10 (vi d44.2.1)) 11 (vi d44.2.2)) }

theorem hotspotlaw38_MetricAges_p (a0 : MetricTable) (a1 : Int) {r : Bool} (h0 : hotspotlaw38_MetricAges a0 a1 = some r) : SndP K 11 [(.agg (E_MetricTable a0)), (vi a1)] (vb r) := by
 refine SndP.of_walkW hC (Clean.v _) (clean_cons (Clean.agg (E_MetricTable_clean _)) (clean_cons (Clean.v _) clean_nil)) (show K.P.funcs[11]? = some Try.f11 from Try.func11) rfl rfl (by decide +kernel) (Nat.le_of_ble_eq_true rfl) ?_
 unfold hotspotlaw38_MetricAges at h0
 refine awp_nr [0,1] (fun _ => rfl) fun tz => ?_
 refine awp_regW fun KK hKK => ?_
 refine xw_id ?_
 try simp only [go_sem, Nat.reduceEqDiff, reduceIte, Nat.reduceAdd, Nat.reduceMul, Nat.reduceSub, Nat.reduceLT, Nat.reduceLeDiff]
 refine hKK _ _ (Wk.refl _ _ _) ?_; clear hKK KK
 refine awp_nr [1,2] (fun _ => rfl) fun tz => ?_
 refine awp_regW fun KK hKK => ?_
 refine xw_id ?_
 obtain ⟨x37, bx37, h0⟩ := bnd h0
 try simp only [go_sem, Nat.reduceEqDiff, reduceIte, Nat.reduceAdd, Nat.reduceMul, Nat.reduceSub, Nat.reduceLT, Nat.reduceLeDiff]
 refine xcall_p (hotspotlaw38_alive_p  bx37) ?_; try dsimp only
 try refine xw_id ?_
 try simp only [go_sem, Nat.reduceEqDiff, reduceIte, Nat.reduceAdd, Nat.reduceMul, Nat.reduceSub, Nat.reduceLT, Nat.reduceLeDiff]
 refine hKK _ _ (Wk.refl _ _ _) ?_; clear hKK KK
 refine awp_assoc ?_
 refine awp_nr [1,2,5] (fun _ => rfl) fun tz => ?_
 refine awp_regW fun KK hKK => ?_
 refine xw_id ?_
 obtain ⟨x38, bx38, h0⟩ := bnd h0
 try simp only [go_sem, Nat.reduceEqDiff, reduceIte, Nat.reduceAdd, Nat.reduceMul, Nat.reduceSub, Nat.reduceLT, Nat.reduceLeDiff]
 refine xcall_p (metric_Check_p a0 bx38) ?_; try dsimp only
 try refine xw_id ?_
 refine xw_stop 2 (by (try simp only [go_sem]); rfl) (by (try simp only [go_sem]); rfl) (by rfl) fun K1 hK1 => ?_
 refine xw_id ?_
 try simp only [go_sem, Nat.reduceEqDiff, reduceIte, Nat.reduceAdd, Nat.reduceMul, Nat.reduceSub, Nat.reduceLT, Nat.reduceLeDiff]
 refine hK1 _ ?_; clear hK1 K1
 refine xw_cut 3 [(1, (vi a1)), (2, (.ptr 0 0)), (5, (vb x37)), (21, (vb ((x38 != 0) || (decide (a1 < 0)))))] (by (try simp only [go_sem]); rfl) (by (try simp only [go_sem]); rfl) (by rfl) (fun K1 hK1 => ?_) fun tz => ?_
 ·
  refine xw_id ?_
  rcases Bool.eq_false_or_eq_true (x38 != 0) with h1 | h1
  ·
   try simp only [go_sem, Nat.reduceEqDiff, reduceIte, Nat.reduceAdd, Nat.reduceMul, Nat.reduceSub, Nat.reduceLT, Nat.reduceLeDiff, h1]
   exact hK1 _ ⟨rfl, rfl, rfl, rfl, (by first | rfl | (rw [h1]; rfl) | (simp only [h1, Bool.true_and, Bool.false_and, Bool.true_or, Bool.false_or, cond_true, cond_false]; done)), trivial⟩
  ·
   try simp only [go_sem, Nat.reduceEqDiff, reduceIte, Nat.reduceAdd, Nat.reduceMul, Nat.reduceSub, Nat.reduceLT, Nat.reduceLeDiff, h1]
   exact hK1 _ ⟨rfl, rfl, rfl, rfl, (by first | rfl | (rw [h1]; rfl) | (simp only [h1, Bool.true_and, Bool.false_and, Bool.true_or, Bool.false_or, cond_true, cond_false]; done)), trivial⟩
 ·
  refine xw_id ?_
  refine xw_stop 1 (by (try simp only [go_sem]); rfl) (by (try simp only [go_sem]); rfl) (by rfl) fun K1 hK1 => ?_
  refine xw_id ?_
  try simp only [go_sem, Nat.reduceEqDiff, reduceIte, Nat.reduceAdd, Nat.reduceMul, Nat.reduceSub, Nat.reduceLT, Nat.reduceLeDiff]
  refine hK1 _ ?_; clear hK1 K1
  refine xw_cut 3 [(1, (vi a1)), (2, (.ptr 0 0)), (5, (vb x37)), (25, (vb (((x38 != 0) || (decide (a1 < 0))) || (decide (1099511627776 < a1)))))] (by (try simp only [go_sem]); rfl) (by (try simp only [go_sem]); rfl) (by rfl) (fun K1 hK1 => ?_) fun tz => ?_
  ·
   refine xw_id ?_
   rcases Bool.eq_false_or_eq_true ((x38 != 0) || (decide (a1 < 0))) with h2 | h2
   ·
    try simp only [go_sem, Nat.reduceEqDiff, reduceIte, Nat.reduceAdd, Nat.reduceMul, Nat.reduceSub, Nat.reduceLT, Nat.reduceLeDiff, h2]
    exact hK1 _ ⟨rfl, rfl, rfl, rfl, (by first | rfl | (rw [h2]; rfl) | (simp only [h2, Bool.true_and, Bool.false_and, Bool.true_or, Bool.false_or, cond_true, cond_false]; done)), trivial⟩
   ·
    try simp only [go_sem, Nat.reduceEqDiff, reduceIte, Nat.reduceAdd, Nat.reduceMul, Nat.reduceSub, Nat.reduceLT, Nat.reduceLeDiff, h2]
    exact hK1 _ ⟨rfl, rfl, rfl, rfl, (by first | rfl | (rw [h2]; rfl) | (simp only [h2, Bool.true_and, Bool.false_and, Bool.true_or, Bool.false_or, cond_true, cond_false]; done)), trivial⟩
  ·
   refine xw_id ?_
   refine xw_stop 1 (by (try simp only [go_sem]); rfl) (by (try simp only [go_sem]); rfl) (by rfl) fun K1 hK1 => ?_
   refine xw_id ?_
   try simp only [go_sem, Nat.reduceEqDiff, reduceIte, Nat.reduceAdd, Nat.reduceMul, Nat.reduceSub, Nat.reduceLT, Nat.reduceLeDiff]
   refine hK1 _ ?_; clear hK1 K1
   refine xw_cut 3 [(1, (vi a1)), (2, (.ptr 0 0)), (5, (vb x37)), (29, (vb ((((x38 != 0) || (decide (a1 < 0))) || (decide (1099511627776 < a1))) || (!x37))))] (by (try simp only [go_sem]); rfl) (by (try simp only [go_sem]); rfl) (by rfl) (fun K1 hK1 => ?_) fun tz => ?_
   ·
    refine xw_id ?_
    rcases Bool.eq_false_or_eq_true (((x38 != 0) || (decide (a1 < 0))) || (decide (1099511627776 < a1))) with h3 | h3
    ·
     try simp only [go_sem, Nat.reduceEqDiff, reduceIte, Nat.reduceAdd, Nat.reduceMul, Nat.reduceSub, Nat.reduceLT, Nat.reduceLeDiff, h3]
     exact hK1 _ ⟨rfl, rfl, rfl, rfl, (by first | rfl | (rw [h3]; rfl) | (simp only [h3, Bool.true_and, Bool.false_and, Bool.true_or, Bool.false_or, cond_true, cond_false]; done)), trivial⟩
    ·
     try simp only [go_sem, Nat.reduceEqDiff, reduceIte, Nat.reduceAdd, Nat.reduceMul, Nat.reduceSub, Nat.reduceLT, Nat.reduceLeDiff, h3]
     exact hK1 _ ⟨rfl, rfl, rfl, rfl, (by first | rfl | (rw [h3]; rfl) | (simp only [h3, Bool.true_and, Bool.false_and, Bool.true_or, Bool.false_or, cond_true, cond_false]; done)), trivial⟩
   ·
    refine xw_id ?_
    try simp only [go_sem, Nat.reduceEqDiff, reduceIte, Nat.reduceAdd, Nat.reduceMul, Nat.reduceSub, Nat.reduceLT, Nat.reduceLeDiff]
    refine hKK _ _ (Wk.refl _ _ _) ?_; clear hKK KK
    refine awp_cond (b := ((((x38 != 0) || (decide (a1 < 0))) || (decide (1099511627776 < a1))) || (!x37))) rfl (fun h4 => ?_) (fun h4 => ?_)
    ·
     have h0 := cT h0 h4
     refine awp_assoc ?_
     refine awp_nr [5] (fun _ => rfl) fun tz => ?_
     refine awp_regW fun KK hKK => ?_
     refine xw_id ?_
     try simp only [go_sem, Nat.reduceEqDiff, reduceIte, Nat.reduceAdd, Nat.reduceMul, Nat.reduceSub, Nat.reduceLT, Nat.reduceLeDiff]
     refine hKK _ _ (Wk.refl _ _ _) ?_; clear hKK KK
     refine awp_ret ?_
     obtain rfl := someInj h0
     refine endW_i ?_
     refine end_ret0 rs11 (rfl) ?_
     try simp only [go_sem, Nat.reduceEqDiff, reduceIte, Nat.reduceAdd, Nat.reduceMul, Nat.reduceSub, Nat.reduceLT, Nat.reduceLeDiff, fz, nilS, packR, List.take_nil, List.take_length, List.length_map, List.length_append, cond_true, cond_false, Nat.ble_eq, ble_self, List.map_append]
     all_goals rfl
    ·
     have h0 := cF h0 h4
     refine awp_skip ?_
     refine awp_nr [1,2,5] (fun _ => rfl) fun tz => ?_
     refine awp_regW fun KK hKK => ?_
     refine xw_id ?_
     obtain ⟨x39, bx39, h0⟩ := bnd h0
     try simp only [go_sem, Nat.reduceEqDiff, reduceIte, Nat.reduceAdd, Nat.reduceMul, Nat.reduceSub, Nat.reduceLT, Nat.reduceLeDiff]
     refine xcall_p (metric_Age_p a0 a1 bx39) ?_; try dsimp only
     try refine xw_id ?_
     try simp only [go_sem, Nat.reduceEqDiff, reduceIte, Nat.reduceAdd, Nat.reduceMul, Nat.reduceSub, Nat.reduceLT, Nat.reduceLeDiff]
     refine hKK _ (hotspotlaw38_MetricAges_S0 a0 x39 a1 x37) (Wk.canonD [] [] [some 0, some 26] rfl trivial rfl (tmOU 1 (tmOU 0 tmO0 rfl List.not_mem_nil (by simp only [upd_get, Nat.reduceEqDiff, reduceIte, Nat.reduceAdd, Nat.reduceMul, Nat.reduceSub, Nat.reduceLT, Nat.reduceLeDiff, if_true, if_false] <;> rfl) (e_MetricTable_tmx (by rfl) (Tm.clean (Clean.imm (c_MetricLink _))))) rfl List.not_mem_nil (by simp only [upd_get, Nat.reduceEqDiff, reduceIte, Nat.reduceAdd, Nat.reduceMul, Nat.reduceSub, Nat.reduceLT, Nat.reduceLeDiff, if_true, if_false] <;> rfl) (e_MetricTable_tmx (by rfl) (Tm.clean (Clean.imm (c_MetricLink _))))) (tmAllU 8 (tmAllU 7 (tmAllU 6 (tmAllU 5 (tmAllU 2 (tmAllU 1 tmAll0 (Tm.v _)) (Tm.ptr rfl)) (Tm.v _)) (Tm.ptr rfl)) (Tm.clean (Clean.imm (c_Addr _)))) (Tm.v _))) ?_; clear hKK KK
     unfold hotspotlaw38_MetricAges_S0
     refine awp_assoc ?_
     refine awp_nr [1,2,5,6,7,8] (fun _ => rfl) fun tz => ?_
     refine awp_regW fun KK hKK => ?_
     refine xw_id ?_
     refine xw_stop 3 (by (try simp only [go_sem]); rfl) (by (try simp only [go_sem]); rfl) (by rfl) fun K1 hK1 => ?_
     refine xw_id ?_
     try simp only [go_sem, Nat.reduceEqDiff, reduceIte, Nat.reduceAdd, Nat.reduceMul, Nat.reduceSub, Nat.reduceLT, Nat.reduceLeDiff]
     refine hK1 _ ?_; clear hK1 K1
     obtain ⟨x41, hvh5, h0⟩ := bnd h0
     refine xw_cut 4 [(1, (vi a1)), (2, (.ptr 0 0)), (5, (vb x37)), (6, (.ptr 1 0)), (7, (.imm (List.flatMap e_Addr x39.2.1) x39.2.1.length)), (44, (vb x41))] (by (try simp only [go_sem]); rfl) (by (try simp only [go_sem]); rfl) (by rfl) (fun K1 hK1 => ?_) fun tz => ?_
     ·
      refine xw_id ?_
      rcases Bool.eq_false_or_eq_true (x39.2.2 != 0) with h5 | h5
      ·
       have hvh5 := cT hvh5 h5
       try simp only [go_sem, Nat.reduceEqDiff, reduceIte, Nat.reduceAdd, Nat.reduceMul, Nat.reduceSub, Nat.reduceLT, Nat.reduceLeDiff, h5]
       obtain rfl := someInj hvh5
       exact hK1 _ ⟨rfl, rfl, rfl, rfl, rfl, rfl, (by first | rfl | (rw [h5]; rfl) | (simp only [h5, Bool.true_and, Bool.false_and, Bool.true_or, Bool.false_or, cond_true, cond_false]; done)), trivial⟩
      ·
       have hvh5 := cF hvh5 h5
       obtain ⟨x40, bx40, hvh5⟩ := bnd hvh5
       try simp only [go_sem, Nat.reduceEqDiff, reduceIte, Nat.reduceAdd, Nat.reduceMul, Nat.reduceSub, Nat.reduceLT, Nat.reduceLeDiff, h5]
       refine xcall_p (metric_Check_p x39.1 bx40) ?_; try dsimp only
       try refine xw_id ?_
       try simp only [go_sem, Nat.reduceEqDiff, reduceIte, Nat.reduceAdd, Nat.reduceMul, Nat.reduceSub, Nat.reduceLT, Nat.reduceLeDiff, h5]
       obtain rfl := someInj hvh5
       exact hK1 _ ⟨rfl, rfl, rfl, rfl, rfl, rfl, (by first | rfl | (rw [h5]; rfl) | (simp only [h5, Bool.true_and, Bool.false_and, Bool.true_or, Bool.false_or, cond_true, cond_false]; done)), trivial⟩
     ·
      refine xw_id ?_
      refine xw_stop 1 (by (try simp only [go_sem]); rfl) (by (try simp only [go_sem]); rfl) (by rfl) fun K1 hK1 => ?_
      refine xw_id ?_
      try simp only [go_sem, Nat.reduceEqDiff, reduceIte, Nat.reduceAdd, Nat.reduceMul, Nat.reduceSub, Nat.reduceLT, Nat.reduceLeDiff]
      refine hK1 _ ?_; clear hK1 K1
      refine xw_cut 11 [(1, (vi a1)), (2, (.ptr 0 0)), (5, (vb x37)), (6, (.ptr 1 0)), (7, (.imm (List.flatMap e_Addr x39.2.1) x39.2.1.length)), (56, (vb (x41 || ((IntKind.wrap .i64 ((x39.1.Links.length : Int) + (x39.2.1.length : Int))) != (a0.Links.length : Int)))))] (by (try simp only [go_sem]); rfl) (by (try simp only [go_sem]); rfl) (by rfl) (fun K1 hK1 => ?_) fun tz => ?_
      ·
       refine xw_id ?_
       rcases Bool.eq_false_or_eq_true x41 with h6 | h6
       ·
        try simp only [go_sem, Nat.reduceEqDiff, reduceIte, Nat.reduceAdd, Nat.reduceMul, Nat.reduceSub, Nat.reduceLT, Nat.reduceLeDiff, h6]
        exact hK1 _ ⟨rfl, rfl, rfl, rfl, rfl, rfl, (by first | rfl | (rw [h6]; rfl) | (simp only [h6, Bool.true_and, Bool.false_and, Bool.true_or, Bool.false_or, cond_true, cond_false]; done)), trivial⟩
       ·
        try simp only [go_sem, Nat.reduceEqDiff, reduceIte, Nat.reduceAdd, Nat.reduceMul, Nat.reduceSub, Nat.reduceLT, Nat.reduceLeDiff, Int.reduceToNat, Int.reduceBEq, Int.reduceBNe, Int.reduceLT, Int.reduceLE, Int.reduceAdd, Int.reduceSub, Int.reduceMul, Int.reduceNeg, Int.reduceEq, Int.reduceNe, h6]
        exact hK1 _ ⟨rfl, rfl, rfl, rfl, rfl, rfl, (by first | rfl | (rw [h6]; rfl) | (simp only [h6, Bool.true_and, Bool.false_and, Bool.true_or, Bool.false_or, cond_true, cond_false]; done)), trivial⟩
      ·
       refine xw_id ?_
       try simp only [go_sem, Nat.reduceEqDiff, reduceIte, Nat.reduceAdd, Nat.reduceMul, Nat.reduceSub, Nat.reduceLT, Nat.reduceLeDiff]
       refine hKK _ _ (Wk.refl _ _ _) ?_; clear hKK KK
       refine awp_cond (b := (x41 || ((IntKind.wrap .i64 ((x39.1.Links.length : Int) + (x39.2.1.length : Int))) != (a0.Links.length : Int)))) rfl (fun h7 => ?_) (fun h7 => ?_)
       ·
        have h0 := cT h0 h7
        refine awp_assoc ?_
        refine awp_nr [] (fun _ => rfl) fun tz => ?_
        refine awp_regW fun KK hKK => ?_
        refine xw_id ?_
        try simp only [go_sem, Nat.reduceEqDiff, reduceIte, Nat.reduceAdd, Nat.reduceMul, Nat.reduceSub, Nat.reduceLT, Nat.reduceLeDiff]
        refine hKK _ _ (Wk.refl _ _ _) ?_; clear hKK KK
        refine awp_ret ?_
        obtain rfl := someInj h0
        refine endW_i ?_
        refine end_ret0 rs11 (rfl) ?_
        try simp only [go_sem, Nat.reduceEqDiff, reduceIte, Nat.reduceAdd, Nat.reduceMul, Nat.reduceSub, Nat.reduceLT, Nat.reduceLeDiff, fz, nilS, packR, List.take_nil, List.take_length, List.length_map, List.length_append, cond_true, cond_false, Nat.ble_eq, ble_self, List.map_append]
        all_goals rfl
       ·
        have h0 := cF h0 h7
        refine awp_skip ?_
        refine awp_nr [1,2,5,6,7] (fun _ => rfl) fun tz => ?_
        refine awp_regW fun KK hKK => ?_
        refine xw_id ?_
        try simp only [go_sem, Nat.reduceEqDiff, reduceIte, Nat.reduceAdd, Nat.reduceMul, Nat.reduceSub, Nat.reduceLT, Nat.reduceLeDiff]
        refine hKK _ _ (Wk.refl _ _ _) ?_; clear hKK KK
        refine awp_assoc ?_
        refine awp_nr [1,2,5,6,7,9,10] (fun _ => rfl) fun tz => ?_
        refine awp_regW fun KK hKK => ?_
        refine xw_id ?_
        try simp only [go_sem, Nat.reduceEqDiff, reduceIte, Nat.reduceAdd, Nat.reduceMul, Nat.reduceSub, Nat.reduceLT, Nat.reduceLeDiff]
        refine hKK _ _ (Wk.refl _ _ _) ?_; clear hKK KK
        obtain ⟨o43, hi8, h0⟩ := bnd h0
        refine awp_cut (fun d42 : Unit => o43 = Ex.go d42) (fun d42 : Unit => hotspotlaw38_MetricAges_S1 x37 d42) ?_ ?_
        ·
         refine awp_block1 ?_
         refine awp_loopS (fun n (d44 : (Int × Int × Int)) => hotspotlaw38_MetricAges_L3 a0 a1 x39 n d44 = some o43) (fun d44 : (Int × Int × Int) => hotspotlaw38_MetricAges_S2 a0 x39 a1 x37 d44) big (0, 0, 0) (Wk.canonD [] [] [some 0, some 1] rfl trivial rfl (tmOU 1 (tmOU 0 tmO0 rfl List.not_mem_nil (by simp only [upd_get, Nat.reduceEqDiff, reduceIte, Nat.reduceAdd, Nat.reduceMul, Nat.reduceSub, Nat.reduceLT, Nat.reduceLeDiff, if_true, if_false] <;> rfl) (e_MetricTable_tmx (by rfl) (Tm.clean (Clean.imm (c_MetricLink _))))) rfl List.not_mem_nil (by simp only [upd_get, Nat.reduceEqDiff, reduceIte, Nat.reduceAdd, Nat.reduceMul, Nat.reduceSub, Nat.reduceLT, Nat.reduceLeDiff, if_true, if_false] <;> rfl) (e_MetricTable_tmx (by rfl) (Tm.clean (Clean.imm (c_MetricLink _))))) (tmAllU 11 (tmAllU 10 (tmAllU 9 (tmAllU 7 (tmAllU 6 (tmAllU 5 (tmAllU 2 (tmAllU 1 tmAll0 (Tm.v _)) (Tm.ptr rfl)) (Tm.v _)) (Tm.ptr rfl)) (Tm.clean (Clean.imm (c_Addr _)))) (Tm.v _)) (Tm.v _)) (Tm.v _))) hi8 ?_
         clear hi8
         rintro n d44 hl10
         rcases n with _ | n9
         ·
          (rw [hotspotlaw38_MetricAges_L3] at hl10; cases hl10)
         ·
          rw [hotspotlaw38_MetricAges_L3] at hl10
          unfold hotspotlaw38_MetricAges_S2
          refine awp_assoc ?_
          refine awp_nr [1,2,5,6,7,9,10,11] (fun _ => rfl) fun tz => ?_
          refine awp_regW fun KK hKK => ?_
          refine xw_id ?_
          try simp only [go_sem, Nat.reduceEqDiff, reduceIte, Nat.reduceAdd, Nat.reduceMul, Nat.reduceSub, Nat.reduceLT, Nat.reduceLeDiff, Int.reduceToNat, Int.reduceBEq, Int.reduceBNe, Int.reduceLT, Int.reduceLE, Int.reduceAdd, Int.reduceSub, Int.reduceMul, Int.reduceNeg, Int.reduceEq, Int.reduceNe]
          refine hKK _ _ (Wk.refl _ _ _) ?_; clear hKK KK
          refine awp_cond (b := (decide (d44.2.2 < (a0.Links.length : Int)))) rfl (fun h11 => ?_) (fun h11 => ?_)
          ·
           have hl10 := cT hl10 h11
           refine awp_skip ?_
           refine awp_blockW ?_
           refine awp_nr [1,2,5,6,7,9,10,11] (fun _ => rfl) fun tz => ?_
           refine awp_regW fun KK hKK => ?_
           refine xw_id ?_
           obtain ⟨x45, bx45, hl10⟩ := bnd hl10
           obtain ⟨fx45_0, fx45_1, fx45_2, fx45_3⟩ := idx_some bx45
           obtain ⟨x46, bx46, hl10⟩ := bnd hl10
           try simp only [go_sem, Nat.reduceEqDiff, reduceIte, Nat.reduceAdd, Nat.reduceMul, Nat.reduceSub, Nat.reduceLT, Nat.reduceLeDiff, fx45_0, fx45_1, fx45_2]
           refine xcall_p (metric_Of_p a0 x45.Peer a1 bx46) ?_; try dsimp only
           try refine xw_id ?_
           try simp only [go_sem, Nat.reduceEqDiff, reduceIte, Nat.reduceAdd, Nat.reduceMul, Nat.reduceSub, Nat.reduceLT, Nat.reduceLeDiff, fx45_0, fx45_1, fx45_2]
           refine hKK _ _ (Wk.refl _ _ _) ?_; clear hKK KK
           refine awp_block1 ?_
           refine awp_nr [1,2,5,6,7,9,10,11,13] (fun _ => rfl) fun tz => ?_
           refine awp_regW fun KK hKK => ?_
           refine xw_id ?_
           refine xw_stop 3 (by (try simp only [go_sem]); rfl) (by (try simp only [go_sem]); rfl) (by rfl) fun K1 hK1 => ?_
           refine xw_id ?_
           try simp only [go_sem, Nat.reduceEqDiff, reduceIte, Nat.reduceAdd, Nat.reduceMul, Nat.reduceSub, Nat.reduceLT, Nat.reduceLeDiff, fx45_0, fx45_1, fx45_2]
           refine hK1 _ ?_; clear hK1 K1
           refine xw_cut 6 [(1, (vi a1)), (2, (.ptr 0 0)), (5, (vb x37)), (6, (.ptr 1 0)), (7, (.imm (List.flatMap e_Addr x39.2.1) x39.2.1.length)), (9, (vi d44.1)), (10, (vi d44.2.1)), (11, (vi d44.2.2)), (13, (vi x46.2)), (85, (vb ((x46.2 == 0) && (decide (d44.1 < (x39.1.Links.length : Int))))))] (by (try simp only [go_sem]); rfl) (by (try simp only [go_sem]); rfl) (by rfl) (fun K1 hK1 => ?_) fun tz => ?_
           ·
            refine xw_id ?_
            rcases Bool.eq_false_or_eq_true (x46.2 == 0) with h12 | h12
            ·
             try simp only [go_sem, Nat.reduceEqDiff, reduceIte, Nat.reduceAdd, Nat.reduceMul, Nat.reduceSub, Nat.reduceLT, Nat.reduceLeDiff, Int.reduceToNat, Int.reduceBEq, Int.reduceBNe, Int.reduceLT, Int.reduceLE, Int.reduceAdd, Int.reduceSub, Int.reduceMul, Int.reduceNeg, Int.reduceEq, Int.reduceNe, fx45_0, fx45_1, fx45_2, h12]
             exact hK1 _ ⟨rfl, rfl, rfl, rfl, rfl, rfl, rfl, rfl, rfl, rfl, (by first | rfl | (rw [h12]; rfl) | (simp only [h12, Bool.true_and, Bool.false_and, Bool.true_or, Bool.false_or, cond_true, cond_false]; done)), trivial⟩
            ·
             try simp only [go_sem, Nat.reduceEqDiff, reduceIte, Nat.reduceAdd, Nat.reduceMul, Nat.reduceSub, Nat.reduceLT, Nat.reduceLeDiff, fx45_0, fx45_1, fx45_2, h12]
             exact hK1 _ ⟨rfl, rfl, rfl, rfl, rfl, rfl, rfl, rfl, rfl, rfl, (by first | rfl | (rw [h12]; rfl) | (simp only [h12, Bool.true_and, Bool.false_and, Bool.true_or, Bool.false_or, cond_true, cond_false]; done)), trivial⟩
           ·
            refine xw_id ?_
            refine xw_stop 1 (by (try simp only [go_sem]); rfl) (by (try simp only [go_sem]); rfl) (by rfl) fun K1 hK1 => ?_
            refine xw_id ?_
            try simp only [go_sem, Nat.reduceEqDiff, reduceIte, Nat.reduceAdd, Nat.reduceMul, Nat.reduceSub, Nat.reduceLT, Nat.reduceLeDiff, fx45_0, fx45_1, fx45_2]
            refine hK1 _ ?_; clear hK1 K1
            obtain ⟨x48, hvh13, hl10⟩ := bnd hl10
            refine xw_cut 12 [(1, (vi a1)), (2, (.ptr 0 0)), (5, (vb x37)), (6, (.ptr 1 0)), (7, (.imm (List.flatMap e_Addr x39.2.1) x39.2.1.length)), (9, (vi d44.1)), (10, (vi d44.2.1)), (11, (vi d44.2.2)), (13, (vi x46.2)), (98, (vb x48))] (by (try simp only [go_sem]); rfl) (by (try simp only [go_sem]); rfl) (by rfl) (fun K1 hK1 => ?_) fun tz => ?_
            ·
             refine xw_id ?_
             rcases Bool.eq_false_or_eq_true ((x46.2 == 0) && (decide (d44.1 < (x39.1.Links.length : Int)))) with h13 | h13
             ·
              have hvh13 := cT hvh13 h13
              have h13_0 : (x46.2 == 0) = true := by simp only [Bool.and_eq_true] at h13; exact h13.1
              have h13_1 : (decide (d44.1 < (x39.1.Links.length : Int))) = true := by simp only [Bool.and_eq_true] at h13; exact h13.2
              obtain ⟨x47, bx47, hvh13⟩ := bnd hvh13
              obtain ⟨fx47_0, fx47_1, fx47_2, fx47_3⟩ := idx_some bx47
              try simp only [go_sem, Nat.reduceEqDiff, reduceIte, Nat.reduceAdd, Nat.reduceMul, Nat.reduceSub, Nat.reduceLT, Nat.reduceLeDiff, fx45_0, fx45_1, fx45_2, h13, h13_0, h13_1, fx47_0, fx47_1, fx47_2]
              obtain rfl := someInj hvh13
              exact hK1 _ ⟨rfl, rfl, rfl, rfl, rfl, rfl, rfl, rfl, rfl, rfl, (by first | rfl | (rw [h13]; rfl) | (simp only [h13, Bool.true_and, Bool.false_and, Bool.true_or, Bool.false_or, cond_true, cond_false]; done)), trivial⟩
             ·
              have hvh13 := cF hvh13 h13
              try simp only [go_sem, Nat.reduceEqDiff, reduceIte, Nat.reduceAdd, Nat.reduceMul, Nat.reduceSub, Nat.reduceLT, Nat.reduceLeDiff, fx45_0, fx45_1, fx45_2, h13]
              obtain rfl := someInj hvh13
              exact hK1 _ ⟨rfl, rfl, rfl, rfl, rfl, rfl, rfl, rfl, rfl, rfl, (by first | rfl | (rw [h13]; rfl) | (simp only [h13, Bool.true_and, Bool.false_and, Bool.true_or, Bool.false_or, cond_true, cond_false]; done)), trivial⟩
            ·
             refine xw_id ?_
             try simp only [go_sem, Nat.reduceEqDiff, reduceIte, Nat.reduceAdd, Nat.reduceMul, Nat.reduceSub, Nat.reduceLT, Nat.reduceLeDiff, fx45_0, fx45_1, fx45_2]
             refine hKK _ _ (Wk.refl _ _ _) ?_; clear hKK KK
             refine awp_cond1 (b := x48) rfl (fun h14 => ?_) (fun h14 => ?_)
             ·
              have hl10 := cT hl10 h14
              refine awp_nr1 [1,2,5,6,7,9,10,11] (fun _ => rfl) fun tz => ?_
              refine awp_reg1 fun KK hKK => ?_
              refine xw_id ?_
              try simp only [go_sem, Nat.reduceEqDiff, reduceIte, Nat.reduceAdd, Nat.reduceMul, Nat.reduceSub, Nat.reduceLT, Nat.reduceLeDiff, fx45_0, fx45_1, fx45_2]
              refine hKK _ ?_; clear hKK KK
              refine bq_n ?_
              refine bq_n ?_
              refine seqW_i ?_
              refine awp_nr1 [1,2,5,6,7,9,10,11] (fun _ => rfl) fun tz => ?_
              refine awp_reg1 fun KK hKK => ?_
              refine xw_id ?_
              try simp only [go_sem, Nat.reduceEqDiff, reduceIte, Nat.reduceAdd, Nat.reduceMul, Nat.reduceSub, Nat.reduceLT, Nat.reduceLeDiff, fx45_0, fx45_1, fx45_2]
              refine hKK _ ?_; clear hKK KK
              refine lq_n ?_
              exact ⟨n9, (IntKind.wrap .i64 (d44.1 + 1), d44.2.1, IntKind.wrap .i64 (d44.2.2 + 1)), rfl, hl10, (Wk.canonD [] [] [some 0, some 1] rfl trivial rfl (tmOU 1 (tmOU 0 tmO0 rfl List.not_mem_nil (by simp only [upd_get, Nat.reduceEqDiff, reduceIte, Nat.reduceAdd, Nat.reduceMul, Nat.reduceSub, Nat.reduceLT, Nat.reduceLeDiff, if_true, if_false] <;> rfl) (e_MetricTable_tmx (by rfl) (Tm.clean (Clean.imm (c_MetricLink _))))) rfl List.not_mem_nil (by simp only [upd_get, Nat.reduceEqDiff, reduceIte, Nat.reduceAdd, Nat.reduceMul, Nat.reduceSub, Nat.reduceLT, Nat.reduceLeDiff, if_true, if_false] <;> rfl) (e_MetricTable_tmx (by rfl) (Tm.clean (Clean.imm (c_MetricLink _))))) (tmAllU 11 (tmAllU 10 (tmAllU 9 (tmAllU 7 (tmAllU 6 (tmAllU 5 (tmAllU 2 (tmAllU 1 tmAll0 (Tm.v _)) (Tm.ptr rfl)) (Tm.v _)) (Tm.ptr rfl)) (Tm.clean (Clean.imm (c_Addr _)))) (Tm.v _)) (Tm.v _)) (Tm.v _)))⟩
             ·
              have hl10 := cF hl10 h14
              refine awp_nr [1,2,5,6,7,9,10,11,13] (fun _ => rfl) fun tz => ?_
              refine awp_regW fun KK hKK => ?_
              refine xw_id ?_
              refine xw_stop 3 (by (try simp only [go_sem]); rfl) (by (try simp only [go_sem]); rfl) (by rfl) fun K1 hK1 => ?_
              refine xw_id ?_
              try simp only [go_sem, Nat.reduceEqDiff, reduceIte, Nat.reduceAdd, Nat.reduceMul, Nat.reduceSub, Nat.reduceLT, Nat.reduceLeDiff, fx45_0, fx45_1, fx45_2]
              refine hK1 _ ?_; clear hK1 K1
              refine xw_cut 5 [(1, (vi a1)), (2, (.ptr 0 0)), (5, (vb x37)), (6, (.ptr 1 0)), (7, (.imm (List.flatMap e_Addr x39.2.1) x39.2.1.length)), (9, (vi d44.1)), (10, (vi d44.2.1)), (11, (vi d44.2.2)), (109, (vb ((x46.2 == 6) && (decide (d44.2.1 < (x39.2.1.length : Int))))))] (by (try simp only [go_sem]); rfl) (by (try simp only [go_sem]); rfl) (by rfl) (fun K1 hK1 => ?_) fun tz => ?_
              ·
               refine xw_id ?_
               rcases Bool.eq_false_or_eq_true (x46.2 == 6) with h15 | h15
               ·
                try simp only [go_sem, Nat.reduceEqDiff, reduceIte, Nat.reduceAdd, Nat.reduceMul, Nat.reduceSub, Nat.reduceLT, Nat.reduceLeDiff, Int.reduceToNat, Int.reduceBEq, Int.reduceBNe, Int.reduceLT, Int.reduceLE, Int.reduceAdd, Int.reduceSub, Int.reduceMul, Int.reduceNeg, Int.reduceEq, Int.reduceNe, fx45_0, fx45_1, fx45_2, h15]
                exact hK1 _ ⟨rfl, rfl, rfl, rfl, rfl, rfl, rfl, rfl, rfl, (by first | rfl | (rw [h15]; rfl) | (simp only [h15, Bool.true_and, Bool.false_and, Bool.true_or, Bool.false_or, cond_true, cond_false]; done)), trivial⟩
               ·
                try simp only [go_sem, Nat.reduceEqDiff, reduceIte, Nat.reduceAdd, Nat.reduceMul, Nat.reduceSub, Nat.reduceLT, Nat.reduceLeDiff, fx45_0, fx45_1, fx45_2, h15]
                exact hK1 _ ⟨rfl, rfl, rfl, rfl, rfl, rfl, rfl, rfl, rfl, (by first | rfl | (rw [h15]; rfl) | (simp only [h15, Bool.true_and, Bool.false_and, Bool.true_or, Bool.false_or, cond_true, cond_false]; done)), trivial⟩
              ·
               refine xw_id ?_
               refine xw_stop 1 (by (try simp only [go_sem]); rfl) (by (try simp only [go_sem]); rfl) (by rfl) fun K1 hK1 => ?_
               refine xw_id ?_
               try simp only [go_sem, Nat.reduceEqDiff, reduceIte, Nat.reduceAdd, Nat.reduceMul, Nat.reduceSub, Nat.reduceLT, Nat.reduceLeDiff, fx45_0, fx45_1, fx45_2]
               refine hK1 _ ?_; clear hK1 K1
               obtain ⟨x50, hvh16, hl10⟩ := bnd hl10
               refine xw_cut 12 [(1, (vi a1)), (2, (.ptr 0 0)), (5, (vb x37)), (6, (.ptr 1 0)), (7, (.imm (List.flatMap e_Addr x39.2.1) x39.2.1.length)), (9, (vi d44.1)), (10, (vi d44.2.1)), (11, (vi d44.2.2)), (122, (vb x50))] (by (try simp only [go_sem]); rfl) (by (try simp only [go_sem]); rfl) (by rfl) (fun K1 hK1 => ?_) fun tz => ?_
               ·
                refine xw_id ?_
                rcases Bool.eq_false_or_eq_true ((x46.2 == 6) && (decide (d44.2.1 < (x39.2.1.length : Int)))) with h16 | h16
                ·
                 have hvh16 := cT hvh16 h16
                 have h16_0 : (x46.2 == 6) = true := by simp only [Bool.and_eq_true] at h16; exact h16.1
                 have h16_1 : (decide (d44.2.1 < (x39.2.1.length : Int))) = true := by simp only [Bool.and_eq_true] at h16; exact h16.2
                 obtain ⟨x49, bx49, hvh16⟩ := bnd hvh16
                 obtain ⟨fx49_0, fx49_1, fx49_2, fx49_3⟩ := idx_some bx49
                 try simp only [go_sem, Nat.reduceEqDiff, reduceIte, Nat.reduceAdd, Nat.reduceMul, Nat.reduceSub, Nat.reduceLT, Nat.reduceLeDiff, fx45_0, fx45_1, fx45_2, h16, h16_0, h16_1, fx49_0, fx49_1, fx49_2]
                 obtain rfl := someInj hvh16
                 exact hK1 _ ⟨rfl, rfl, rfl, rfl, rfl, rfl, rfl, rfl, rfl, (by first | rfl | (rw [h16]; rfl) | (simp only [h16, Bool.true_and, Bool.false_and, Bool.true_or, Bool.false_or, cond_true, cond_false]; done)), trivial⟩
                ·
                 have hvh16 := cF hvh16 h16
                 try simp only [go_sem, Nat.reduceEqDiff, reduceIte, Nat.reduceAdd, Nat.reduceMul, Nat.reduceSub, Nat.reduceLT, Nat.reduceLeDiff, fx45_0, fx45_1, fx45_2, h16]
                 obtain rfl := someInj hvh16
                 exact hK1 _ ⟨rfl, rfl, rfl, rfl, rfl, rfl, rfl, rfl, rfl, (by first | rfl | (rw [h16]; rfl) | (simp only [h16, Bool.true_and, Bool.false_and, Bool.true_or, Bool.false_or, cond_true, cond_false]; done)), trivial⟩
               ·
                refine xw_id ?_
                try simp only [go_sem, Nat.reduceEqDiff, reduceIte, Nat.reduceAdd, Nat.reduceMul, Nat.reduceSub, Nat.reduceLT, Nat.reduceLeDiff, fx45_0, fx45_1, fx45_2]
                refine hKK _ _ (Wk.refl _ _ _) ?_; clear hKK KK
                refine awp_cond1 (b := x50) rfl (fun h17 => ?_) (fun h17 => ?_)
                ·
                 have hl10 := cT hl10 h17
                 refine awp_nr1 [1,2,5,6,7,9,10,11] (fun _ => rfl) fun tz => ?_
                 refine awp_reg1 fun KK hKK => ?_
                 refine xw_id ?_
                 try simp only [go_sem, Nat.reduceEqDiff, reduceIte, Nat.reduceAdd, Nat.reduceMul, Nat.reduceSub, Nat.reduceLT, Nat.reduceLeDiff, fx45_0, fx45_1, fx45_2]
                 refine hKK _ ?_; clear hKK KK
                 refine bq_n ?_
                 refine bq_n ?_
                 refine seqW_i ?_
                 refine awp_nr1 [1,2,5,6,7,9,10,11] (fun _ => rfl) fun tz => ?_
                 refine awp_reg1 fun KK hKK => ?_
                 refine xw_id ?_
                 try simp only [go_sem, Nat.reduceEqDiff, reduceIte, Nat.reduceAdd, Nat.reduceMul, Nat.reduceSub, Nat.reduceLT, Nat.reduceLeDiff, fx45_0, fx45_1, fx45_2]
                 refine hKK _ ?_; clear hKK KK
                 refine lq_n ?_
                 exact ⟨n9, (d44.1, IntKind.wrap .i64 (d44.2.1 + 1), IntKind.wrap .i64 (d44.2.2 + 1)), rfl, hl10, (Wk.canonD [] [] [some 0, some 1] rfl trivial rfl (tmOU 1 (tmOU 0 tmO0 rfl List.not_mem_nil (by simp only [upd_get, Nat.reduceEqDiff, reduceIte, Nat.reduceAdd, Nat.reduceMul, Nat.reduceSub, Nat.reduceLT, Nat.reduceLeDiff, if_true, if_false] <;> rfl) (e_MetricTable_tmx (by rfl) (Tm.clean (Clean.imm (c_MetricLink _))))) rfl List.not_mem_nil (by simp only [upd_get, Nat.reduceEqDiff, reduceIte, Nat.reduceAdd, Nat.reduceMul, Nat.reduceSub, Nat.reduceLT, Nat.reduceLeDiff, if_true, if_false] <;> rfl) (e_MetricTable_tmx (by rfl) (Tm.clean (Clean.imm (c_MetricLink _))))) (tmAllU 11 (tmAllU 10 (tmAllU 9 (tmAllU 7 (tmAllU 6 (tmAllU 5 (tmAllU 2 (tmAllU 1 tmAll0 (Tm.v _)) (Tm.ptr rfl)) (Tm.v _)) (Tm.ptr rfl)) (Tm.clean (Clean.imm (c_Addr _)))) (Tm.v _)) (Tm.v _)) (Tm.v _)))⟩
                ·
                 have hl10 := cF hl10 h17
                 refine awp_nr [] (fun _ => rfl) fun tz => ?_
                 refine awp_regW fun KK hKK => ?_
                 refine xw_id ?_
                 try simp only [go_sem, Nat.reduceEqDiff, reduceIte, Nat.reduceAdd, Nat.reduceMul, Nat.reduceSub, Nat.reduceLT, Nat.reduceLeDiff, fx45_0, fx45_1, fx45_2]
                 refine hKK _ _ (Wk.refl _ _ _) ?_; clear hKK KK
                 refine awp_ret1 ?_
                 refine bq_r ?_
                 refine bq_r ?_
                 refine sq_r ?_
                 refine lq_r ?_
                 refine bq_r ?_
                 refine sq_r ?_
                 obtain rfl := someInj hl10
                 obtain rfl := Ex.k_ret h0
                 refine endW_i ?_
                 refine end_ret0 rs11 (rfl) ?_
                 try simp only [go_sem, Nat.reduceEqDiff, reduceIte, Nat.reduceAdd, Nat.reduceMul, Nat.reduceSub, Nat.reduceLT, Nat.reduceLeDiff, fz, nilS, packR, List.take_nil, List.take_length, List.length_map, List.length_append, cond_true, cond_false, Nat.ble_eq, ble_self, List.map_append]
                 all_goals rfl
          ·
           have hl10 := cF hl10 h11
           refine awp_exit ?_
           refine lq_e ?_
           refine bq_e ?_
           refine sq_n ?_
           obtain rfl := someInj hl10
           exact ⟨_, rfl, (Wk.canonD [] [] [] rfl trivial rfl tmO0 (tmAllU 5 tmAll0 (Tm.v _)))⟩
        ·
         rintro d42 rfl
         have h0 := Ex.k_go h0
         clear hi8
         unfold hotspotlaw38_MetricAges_S1
         refine awp_nr [5] (fun _ => rfl) fun tz => ?_
         refine awp_regW fun KK hKK => ?_
         refine xw_id ?_
         try simp only [go_sem, Nat.reduceEqDiff, reduceIte, Nat.reduceAdd, Nat.reduceMul, Nat.reduceSub, Nat.reduceLT, Nat.reduceLeDiff]
         refine hKK _ _ (Wk.refl _ _ _) ?_; clear hKK KK
         refine awp_ret1 ?_
         obtain rfl := someInj h0
         refine endW_i ?_
         refine end_ret0 rs11 (rfl) ?_
         try simp only [go_sem, Nat.reduceEqDiff, reduceIte, Nat.reduceAdd, Nat.reduceMul, Nat.reduceSub, Nat.reduceLT, Nat.reduceLeDiff, fz, nilS, packR, List.take_nil, List.take_length, List.length_map, List.length_append, cond_true, cond_false, Nat.ble_eq, ble_self, List.map_append]
         all_goals rfl

end Go.AX.Z.TM
