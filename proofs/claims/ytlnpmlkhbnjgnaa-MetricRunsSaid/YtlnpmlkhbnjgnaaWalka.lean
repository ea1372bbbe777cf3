/- A part of the proof: walks through the functions that the statement reaches. -/
import Derived.Test.YtlnpmlkhbnjgnaaPrea
set_option linter.unusedVariables false
set_option linter.unusedSimpArgs false

/-! (TMW rate Count run0) -/

set_option linter.unusedSimpArgs false
set_option linter.unusedVariables false
set_option maxHeartbeats 4000000
namespace Go.AX.Z.TM
open Go.AX Go.Proofs
attribute [local irreducible] awp xw xop xcall gsp ob xd xdop xcallD seqQ loopQ blkQ endQ

theorem rate_Count_run0 : ranX K 60 35 [] = some (vi 12) := by kernel_rfl

end Go.AX.Z.TM

/-! (TMW rate Count) -/

set_option linter.unusedSimpArgs false
set_option linter.unusedVariables false
set_option maxHeartbeats 4000000
namespace Go.AX.Z.TM
open Go.AX Go.Proofs
attribute [local irreducible] awp xw xop xcall gsp ob xd xdop xcallD seqQ loopQ blkQ endQ

theorem rate_Count_p {r : Int} (h0 : rate_Count = some r) : SndP K 35 [] (vi r) := by
 unfold rate_Count at h0
 rcases Bool.eq_false_or_eq_true (true) with k0 | k0
 ·
  have h0 := cT h0 k0
  cases h0
  exact SndP.of_run hC rfl rfl rate_Count_run0
 have h0 := cF h0 k0
 cases h0

end Go.AX.Z.TM

/-! (TMW metric valid) -/

set_option linter.unusedSimpArgs false
set_option linter.unusedVariables false
set_option maxHeartbeats 4000000
namespace Go.AX.Z.TM
open Go.AX Go.Proofs
attribute [local irreducible] awp xw xop xcall gsp ob xd xdop xcallD seqQ loopQ blkQ endQ


theorem metric_valid_p (a0 : MetricLink) {r : Bool} (h0 : metric_valid a0 = some r) : SndP K 32 [(.agg (e_MetricLink a0))] (vb r) := by
 refine SndP.of_walkW hC (Clean.v _) (clean_cons (Clean.agg (e_MetricLink_clean _)) clean_nil) (show K.P.funcs[32]? = some Try.f32 from Try.func32) rfl rfl (by decide +kernel) (Nat.le_of_ble_eq_true rfl) ?_
 unfold metric_valid at h0
 refine awp_nr [0] (fun _ => rfl) fun tz => ?_
 refine awp_regW fun KK hKK => ?_
 refine xw_id ?_
 try simp only [go_sem, Nat.reduceEqDiff, reduceIte, Nat.reduceAdd, Nat.reduceMul, Nat.reduceSub, Nat.reduceLT, Nat.reduceLeDiff]
 refine hKK _ _ (Wk.refl _ _ _) ?_; clear hKK KK
 refine awp_nr [1] (fun _ => rfl) fun tz => ?_
 refine awp_regW fun KK hKK => ?_
 refine xw_id ?_
 refine xw_stop 4 (by (try simp only [go_sem]); rfl) (by (try simp only [go_sem]); rfl) (by rfl) fun K1 hK1 => ?_
 refine xw_id ?_
 try simp only [go_sem, Nat.reduceEqDiff, reduceIte, Nat.reduceAdd, Nat.reduceMul, Nat.reduceSub, Nat.reduceLT, Nat.reduceLeDiff]
 refine hK1 _ ?_; clear hK1 K1
 obtain ⟨x8, hvh1, h0⟩ := bnd h0
 refine xw_cut 5 [(1, (.ptr 0 0)), (11, (vb x8))] (by (try simp only [go_sem]); rfl) (by (try simp only [go_sem]); rfl) (by rfl) (fun K1 hK1 => ?_) fun tz => ?_
 ·
  refine xw_id ?_
  rcases Bool.eq_false_or_eq_true (decide (0 ≤ a0.Rate)) with h1 | h1
  ·
   have hvh1 := cT hvh1 h1
   obtain ⟨x7, bx7, hvh1⟩ := bnd hvh1
   try simp only [go_sem, Nat.reduceEqDiff, reduceIte, Nat.reduceAdd, Nat.reduceMul, Nat.reduceSub, Nat.reduceLT, Nat.reduceLeDiff, h1]
   refine xcall_p (rate_Count_p  bx7) ?_; try dsimp only
   try refine xw_id ?_
   try simp only [go_sem, Nat.reduceEqDiff, reduceIte, Nat.reduceAdd, Nat.reduceMul, Nat.reduceSub, Nat.reduceLT, Nat.reduceLeDiff, h1]
   obtain rfl := someInj hvh1
   exact hK1 _ ⟨rfl, rfl, (by first | rfl | (rw [h1]; rfl) | (simp only [h1, Bool.true_and, Bool.false_and, Bool.true_or, Bool.false_or, cond_true, cond_false]; done)), trivial⟩
  ·
   have hvh1 := cF hvh1 h1
   try simp only [go_sem, Nat.reduceEqDiff, reduceIte, Nat.reduceAdd, Nat.reduceMul, Nat.reduceSub, Nat.reduceLT, Nat.reduceLeDiff, h1]
   obtain rfl := someInj hvh1
   exact hK1 _ ⟨rfl, rfl, (by first | rfl | (rw [h1]; rfl) | (simp only [h1, Bool.true_and, Bool.false_and, Bool.true_or, Bool.false_or, cond_true, cond_false]; done)), trivial⟩
 ·
  refine xw_id ?_
  refine xw_stop 1 (by (try simp only [go_sem]); rfl) (by (try simp only [go_sem]); rfl) (by rfl) fun K1 hK1 => ?_
  refine xw_id ?_
  try simp only [go_sem, Nat.reduceEqDiff, reduceIte, Nat.reduceAdd, Nat.reduceMul, Nat.reduceSub, Nat.reduceLT, Nat.reduceLeDiff]
  refine hK1 _ ?_; clear hK1 K1
  refine xw_cut 4 [(1, (.ptr 0 0)), (16, (vb (x8 && (decide (0 ≤ a0.Loss)))))] (by (try simp only [go_sem]); rfl) (by (try simp only [go_sem]); rfl) (by rfl) (fun K1 hK1 => ?_) fun tz => ?_
  ·
   refine xw_id ?_
   rcases Bool.eq_false_or_eq_true x8 with h2 | h2
   ·
    try simp only [go_sem, Nat.reduceEqDiff, reduceIte, Nat.reduceAdd, Nat.reduceMul, Nat.reduceSub, Nat.reduceLT, Nat.reduceLeDiff, h2]
    exact hK1 _ ⟨rfl, rfl, (by first | rfl | (rw [h2]; rfl) | (simp only [h2, Bool.true_and, Bool.false_and, Bool.true_or, Bool.false_or, cond_true, cond_false]; done)), trivial⟩
   ·
    try simp only [go_sem, Nat.reduceEqDiff, reduceIte, Nat.reduceAdd, Nat.reduceMul, Nat.reduceSub, Nat.reduceLT, Nat.reduceLeDiff, h2]
    exact hK1 _ ⟨rfl, rfl, (by first | rfl | (rw [h2]; rfl) | (simp only [h2, Bool.true_and, Bool.false_and, Bool.true_or, Bool.false_or, cond_true, cond_false]; done)), trivial⟩
  ·
   refine xw_id ?_
   refine xw_stop 1 (by (try simp only [go_sem]); rfl) (by (try simp only [go_sem]); rfl) (by rfl) fun K1 hK1 => ?_
   refine xw_id ?_
   try simp only [go_sem, Nat.reduceEqDiff, reduceIte, Nat.reduceAdd, Nat.reduceMul, Nat.reduceSub, Nat.reduceLT, Nat.reduceLeDiff]
   refine hK1 _ ?_; clear hK1 K1
   refine xw_cut 4 [(1, (.ptr 0 0)), (21, (vb ((x8 && (decide (0 ≤ a0.Loss))) && (decide (a0.Loss ≤ 1000)))))] (by (try simp only [go_sem]); rfl) (by (try simp only [go_sem]); rfl) (by rfl) (fun K1 hK1 => ?_) fun tz => ?_
   ·
    refine xw_id ?_
    rcases Bool.eq_false_or_eq_true (x8 && (decide (0 ≤ a0.Loss))) with h3 | h3
    ·
     have h3_0 : (x8) = true := by simp only [Bool.and_eq_true] at h3; exact h3.1
     have h3_1 : (decide (0 ≤ a0.Loss)) = true := by simp only [Bool.and_eq_true] at h3; exact h3.2
     try simp only [go_sem, Nat.reduceEqDiff, reduceIte, Nat.reduceAdd, Nat.reduceMul, Nat.reduceSub, Nat.reduceLT, Nat.reduceLeDiff, h3, h3_0, h3_1]
     exact hK1 _ ⟨rfl, (by first | rfl | (rw [h3_0]; rfl) | (rw [h3_1]; rfl)), (by first | rfl | (rw [h3]; rfl) | (simp only [h3, Bool.true_and, Bool.false_and, Bool.true_or, Bool.false_or, cond_true, cond_false]; done)), trivial⟩
    ·
     try simp only [go_sem, Nat.reduceEqDiff, reduceIte, Nat.reduceAdd, Nat.reduceMul, Nat.reduceSub, Nat.reduceLT, Nat.reduceLeDiff, h3]
     exact hK1 _ ⟨rfl, rfl, (by first | rfl | (rw [h3]; rfl) | (simp only [h3, Bool.true_and, Bool.false_and, Bool.true_or, Bool.false_or, cond_true, cond_false]; done)), trivial⟩
   ·
    refine xw_id ?_
    refine xw_stop 1 (by (try simp only [go_sem]); rfl) (by (try simp only [go_sem]); rfl) (by rfl) fun K1 hK1 => ?_
    refine xw_id ?_
    try simp only [go_sem, Nat.reduceEqDiff, reduceIte, Nat.reduceAdd, Nat.reduceMul, Nat.reduceSub, Nat.reduceLT, Nat.reduceLeDiff]
    refine hK1 _ ?_; clear hK1 K1
    refine xw_cut 4 [(1, (.ptr 0 0)), (26, (vb (((x8 && (decide (0 ≤ a0.Loss))) && (decide (a0.Loss ≤ 1000))) && (decide (0 ≤ a0.Heard)))))] (by (try simp only [go_sem]); rfl) (by (try simp only [go_sem]); rfl) (by rfl) (fun K1 hK1 => ?_) fun tz => ?_
    ·
     refine xw_id ?_
     rcases Bool.eq_false_or_eq_true ((x8 && (decide (0 ≤ a0.Loss))) && (decide (a0.Loss ≤ 1000))) with h4 | h4
     ·
      have h4_0 : (x8) = true := by simp only [Bool.and_eq_true] at h4; exact h4.1.1
      have h4_1 : (decide (0 ≤ a0.Loss)) = true := by simp only [Bool.and_eq_true] at h4; exact h4.1.2
      have h4_2 : (decide (a0.Loss ≤ 1000)) = true := by simp only [Bool.and_eq_true] at h4; exact h4.2
      try simp only [go_sem, Nat.reduceEqDiff, reduceIte, Nat.reduceAdd, Nat.reduceMul, Nat.reduceSub, Nat.reduceLT, Nat.reduceLeDiff, h4, h4_0, h4_1, h4_2]
      exact hK1 _ ⟨rfl, (by first | rfl | (rw [h4_0]; rfl) | (rw [h4_1]; rfl) | (rw [h4_2]; rfl)), (by first | rfl | (rw [h4]; rfl) | (simp only [h4, Bool.true_and, Bool.false_and, Bool.true_or, Bool.false_or, cond_true, cond_false]; done)), trivial⟩
     ·
      try simp only [go_sem, Nat.reduceEqDiff, reduceIte, Nat.reduceAdd, Nat.reduceMul, Nat.reduceSub, Nat.reduceLT, Nat.reduceLeDiff, h4]
      exact hK1 _ ⟨rfl, rfl, (by first | rfl | (rw [h4]; rfl) | (simp only [h4, Bool.true_and, Bool.false_and, Bool.true_or, Bool.false_or, cond_true, cond_false]; done)), trivial⟩
    ·
     refine xw_id ?_
     refine xw_stop 1 (by (try simp only [go_sem]); rfl) (by (try simp only [go_sem]); rfl) (by rfl) fun K1 hK1 => ?_
     refine xw_id ?_
     try simp only [go_sem, Nat.reduceEqDiff, reduceIte, Nat.reduceAdd, Nat.reduceMul, Nat.reduceSub, Nat.reduceLT, Nat.reduceLeDiff]
     refine hK1 _ ?_; clear hK1 K1
     refine xw_cut 4 [(31, (vb ((((x8 && (decide (0 ≤ a0.Loss))) && (decide (a0.Loss ≤ 1000))) && (decide (0 ≤ a0.Heard))) && (decide (a0.Heard ≤ 1099511627776)))))] (by (try simp only [go_sem]); rfl) (by (try simp only [go_sem]); rfl) (by rfl) (fun K1 hK1 => ?_) fun tz => ?_
     ·
      refine xw_id ?_
      rcases Bool.eq_false_or_eq_true (((x8 && (decide (0 ≤ a0.Loss))) && (decide (a0.Loss ≤ 1000))) && (decide (0 ≤ a0.Heard))) with h5 | h5
      ·
       have h5_0 : (x8) = true := by simp only [Bool.and_eq_true] at h5; exact h5.1.1.1
       have h5_1 : (decide (0 ≤ a0.Loss)) = true := by simp only [Bool.and_eq_true] at h5; exact h5.1.1.2
       have h5_2 : (decide (a0.Loss ≤ 1000)) = true := by simp only [Bool.and_eq_true] at h5; exact h5.1.2
       have h5_3 : (decide (0 ≤ a0.Heard)) = true := by simp only [Bool.and_eq_true] at h5; exact h5.2
       try simp only [go_sem, Nat.reduceEqDiff, reduceIte, Nat.reduceAdd, Nat.reduceMul, Nat.reduceSub, Nat.reduceLT, Nat.reduceLeDiff, h5, h5_0, h5_1, h5_2, h5_3]
       exact hK1 _ ⟨rfl, (by first | rfl | (rw [h5]; rfl) | (simp only [h5, Bool.true_and, Bool.false_and, Bool.true_or, Bool.false_or, cond_true, cond_false]; done)), trivial⟩
      ·
       try simp only [go_sem, Nat.reduceEqDiff, reduceIte, Nat.reduceAdd, Nat.reduceMul, Nat.reduceSub, Nat.reduceLT, Nat.reduceLeDiff, h5]
       exact hK1 _ ⟨rfl, (by first | rfl | (rw [h5]; rfl) | (simp only [h5, Bool.true_and, Bool.false_and, Bool.true_or, Bool.false_or, cond_true, cond_false]; done)), trivial⟩
     ·
      refine xw_id ?_
      try simp only [go_sem, Nat.reduceEqDiff, reduceIte, Nat.reduceAdd, Nat.reduceMul, Nat.reduceSub, Nat.reduceLT, Nat.reduceLeDiff]
      refine hKK _ _ (Wk.refl _ _ _) ?_; clear hKK KK
      refine awp_ret1 ?_
      obtain rfl := someInj h0
      refine endW_i ?_
      refine end_ret0 rs32 (rfl) ?_
      try simp only [go_sem, Nat.reduceEqDiff, reduceIte, Nat.reduceAdd, Nat.reduceMul, Nat.reduceSub, Nat.reduceLT, Nat.reduceLeDiff, fz, nilS, packR, List.take_nil, List.take_length, List.length_map, List.length_append, cond_true, cond_false, Nat.ble_eq, ble_self, List.map_append]
      all_goals rfl

end Go.AX.Z.TM

/-! (TMW bytealg Compare) -/

set_option linter.unusedSimpArgs false
set_option linter.unusedVariables false
set_option maxHeartbeats 4000000
namespace Go.AX.Z.TM
open Go.AX Go.Proofs
attribute [local irreducible] awp xw xop xcall gsp ob xd xdop xcallD seqQ loopQ blkQ endQ

theorem bytealg_Compare_p (a0 : List Int) (a1 : List Int) {r : Int} (h0 : bytealg_Compare a0 a1 = some r) : SndP K 58 [(S_vu a0), (S_vu a1)] (vi r) := by
 cases h0
 exact cmp_p (show K.P.funcs[58]? = some Try.f58 from Try.func58) rfl rfl rfl rfl a0 a1

end Go.AX.Z.TM

/-! (TMW bytes Compare) -/

set_option linter.unusedSimpArgs false
set_option linter.unusedVariables false
set_option maxHeartbeats 4000000
namespace Go.AX.Z.TM
open Go.AX Go.Proofs
attribute [local irreducible] awp xw xop xcall gsp ob xd xdop xcallD seqQ loopQ blkQ endQ


theorem bytes_Compare_p (a0 : (List Int)) (a1 : (List Int)) {r : Int} (h0 : bytes_Compare a0 a1 = some r) : SndP K 47 [(S_vu a0), (S_vu a1)] (vi r) := by
 refine SndP.of_walkW hC (Clean.v _) (clean_cons (S_vu_clean _) (clean_cons (S_vu_clean _) clean_nil)) (show K.P.funcs[47]? = some Try.f47 from Try.func47) rfl rfl (by decide +kernel) (Nat.le_of_ble_eq_true rfl) ?_
 unfold bytes_Compare at h0
 refine awp_nr [0,1] (fun _ => rfl) fun tz => ?_
 refine awp_regW fun KK hKK => ?_
 refine xw_id ?_
 try simp only [go_sem, Nat.reduceEqDiff, reduceIte, Nat.reduceAdd, Nat.reduceMul, Nat.reduceSub, Nat.reduceLT, Nat.reduceLeDiff]
 refine hKK _ _ (Wk.refl _ _ _) ?_; clear hKK KK
 refine awp_nr [0,1] (fun _ => rfl) fun tz => ?_
 refine awp_regW fun KK hKK => ?_
 refine xw_id ?_
 obtain ⟨x9, bx9, h0⟩ := bnd h0
 try simp only [go_sem, Nat.reduceEqDiff, reduceIte, Nat.reduceAdd, Nat.reduceMul, Nat.reduceSub, Nat.reduceLT, Nat.reduceLeDiff]
 refine xcall_p (bytealg_Compare_p a0 a1 bx9) ?_; try dsimp only
 try refine xw_id ?_
 try simp only [go_sem, Nat.reduceEqDiff, reduceIte, Nat.reduceAdd, Nat.reduceMul, Nat.reduceSub, Nat.reduceLT, Nat.reduceLeDiff]
 refine hKK _ _ (Wk.refl _ _ _) ?_; clear hKK KK
 refine awp_ret1 ?_
 obtain rfl := someInj h0
 refine endW_i ?_
 refine end_ret0 rs47 (rfl) ?_
 try simp only [go_sem, Nat.reduceEqDiff, reduceIte, Nat.reduceAdd, Nat.reduceMul, Nat.reduceSub, Nat.reduceLT, Nat.reduceLeDiff, fz, nilS, packR, List.take_nil, List.take_length, List.length_map, List.length_append, cond_true, cond_false, Nat.ble_eq, ble_self, List.map_append]
 all_goals rfl

end Go.AX.Z.TM

/-! (TMW address Compare) -/

set_option linter.unusedSimpArgs false
set_option linter.unusedVariables false
set_option maxHeartbeats 4000000
namespace Go.AX.Z.TM
open Go.AX Go.Proofs
attribute [local irreducible] awp xw xop xcall gsp ob xd xdop xcallD seqQ loopQ blkQ endQ


theorem address_Compare_p (a0 : Addr) (a1 : Addr) {r : Int} (h0 : address_Compare a0 a1 = some r) : SndP K 33 [(.agg (e_Addr a0)), (.agg (e_Addr a1))] (vi r) := by
 refine SndP.of_walkW hC (Clean.v _) (clean_cons (Clean.agg (e_Addr_clean _)) (clean_cons (Clean.agg (e_Addr_clean _)) clean_nil)) (show K.P.funcs[33]? = some Try.f33 from Try.func33) rfl rfl (by decide +kernel) (Nat.le_of_ble_eq_true rfl) ?_
 unfold address_Compare at h0
 refine awp_nr [0,1] (fun _ => rfl) fun tz => ?_
 refine awp_regW fun KK hKK => ?_
 refine xw_id ?_
 try simp only [go_sem, Nat.reduceEqDiff, reduceIte, Nat.reduceAdd, Nat.reduceMul, Nat.reduceSub, Nat.reduceLT, Nat.reduceLeDiff]
 refine hKK _ _ (Wk.refl _ _ _) ?_; clear hKK KK
 refine awp_nr [2,3] (fun _ => rfl) fun tz => ?_
 refine awp_regW fun KK hKK => ?_
 refine xw_id ?_
 obtain ⟨x9, bx9, h0⟩ := bnd h0
 try simp only [go_sem, Nat.reduceEqDiff, reduceIte, Nat.reduceAdd, Nat.reduceMul, Nat.reduceSub, Nat.reduceLT, Nat.reduceLeDiff, Int.reduceToNat, Int.reduceBEq, Int.reduceBNe, Int.reduceLT, Int.reduceLE, Int.reduceAdd, Int.reduceSub, Int.reduceMul, Int.reduceNeg, Int.reduceEq, Int.reduceNe, Int.sub_zero, Int.sub_zero]
 refine xcall_L (by first | (simp only [go_sem, fz, Nat.reduceEqDiff, reduceIte, Nat.reduceAdd, Nat.reduceMul, Nat.reduceSub, Nat.reduceLT, Nat.reduceLeDiff, Int.sub_zero, Int.sub_zero]; done) | (simp only [go_sem, fz, Nat.reduceEqDiff, reduceIte, Nat.reduceAdd, Nat.reduceMul, Nat.reduceSub, Nat.reduceLT, Nat.reduceLeDiff, Int.sub_zero, Int.sub_zero]; rfl) | (simp only [go_sem, fz, List.length_set, ble_self, take_set, cond_true, cond_false, Nat.reduceEqDiff, reduceIte, Nat.reduceAdd, Nat.reduceMul, Nat.reduceSub, Nat.reduceLT, Nat.reduceLeDiff, Int.sub_zero, Int.sub_zero]; done) | (simp only [go_sem, fz, List.length_set, ble_self, take_set, cond_true, cond_false, Nat.reduceEqDiff, reduceIte, Nat.reduceAdd, Nat.reduceMul, Nat.reduceSub, Nat.reduceLT, Nat.reduceLeDiff, Int.sub_zero, Int.sub_zero]; rfl)) (bytes_Compare_p [a0.a0, a0.a1, a0.a2, a0.a3, a0.a4, a0.a5] [a1.a0, a1.a1, a1.a2, a1.a3, a1.a4, a1.a5] bx9) (Bare.v _) ?_; try dsimp only
 try refine xw_id ?_
 try simp only [go_sem, Nat.reduceEqDiff, reduceIte, Nat.reduceAdd, Nat.reduceMul, Nat.reduceSub, Nat.reduceLT, Nat.reduceLeDiff, Int.reduceToNat, Int.reduceBEq, Int.reduceBNe, Int.reduceLT, Int.reduceLE, Int.reduceAdd, Int.reduceSub, Int.reduceMul, Int.reduceNeg, Int.reduceEq, Int.reduceNe, Int.sub_zero, Int.sub_zero]
 refine hKK _ _ (Wk.refl _ _ _) ?_; clear hKK KK
 refine awp_ret1 ?_
 obtain rfl := someInj h0
 refine endW_i ?_
 refine end_ret0 rs33 (rfl) ?_
 try simp only [go_sem, Nat.reduceEqDiff, reduceIte, Nat.reduceAdd, Nat.reduceMul, Nat.reduceSub, Nat.reduceLT, Nat.reduceLeDiff, fz, nilS, packR, List.take_nil, List.take_length, List.length_map, List.length_append, cond_true, cond_false, Nat.ble_eq, ble_self, List.map_append]
 all_goals rfl

end Go.AX.Z.TM

/-! (TMW metric Check) -/

set_option linter.unusedSimpArgs false
set_option linter.unusedVariables false
set_option maxHeartbeats 4000000
namespace Go.AX.Z.TM
open Go.AX Go.Proofs
attribute [local irreducible] awp xw xop xcall gsp ob xd xdop xcallD seqQ loopQ blkQ endQ

def metric_Check_S0 (d5 : Unit) : AS :=
 { objs := (fun _ => .dead), next := 0, tmps := (fun _ => .unk) }

def metric_Check_S1 (a0 : MetricTable) (d7 : Int) : AS :=
 { objs := (upd (fun _ => .dead) 0 (.live (e_MetricTable a0 (.imm (List.flatMap e_MetricLink a0.Links) a0.Links.length)))), next := 1, tmps := (upd (upd (upd (upd (fun _ => .unk) 1 (.ptr 0 0)) 10 (.imm (List.flatMap e_MetricLink a0.Links) a0.Links.length)) 11 (vi (a0.Links.length : Int))) 12 (vi d7)) }

def metric_Check_S3 (a0 : MetricTable) (d7 : Int) (x13 : Bool) : AS :=
 { objs := (upd (fun _ => .dead) 0 (.live (e_MetricTable a0 (.imm (List.flatMap e_MetricLink a0.Links) a0.Links.length)))), next := 1, tmps := (upd (upd (upd (upd (upd (fun _ => .unk) 1 (.ptr 0 0)) 10 (.imm (List.flatMap e_MetricLink a0.Links) a0.Links.length)) 11 (vi (a0.Links.length : Int))) 12 (vi d7)) 36 (vb x13)) }

theorem metric_Check_p (a0 : MetricTable) {r : Int} (h0 : metric_Check a0 = some r) : SndP K 17 [(.agg (E_MetricTable a0))] (vi r) := by
 refine SndP.of_walkW hC (Clean.v _) (clean_cons (Clean.agg (E_MetricTable_clean _)) clean_nil) (show K.P.funcs[17]? = some Try.f17 from Try.func17) rfl rfl (by decide +kernel) (Nat.le_of_ble_eq_true rfl) ?_
 unfold metric_Check at h0
 refine awp_nr [0] (fun _ => rfl) fun tz => ?_
 refine awp_regW fun KK hKK => ?_
 refine xw_id ?_
 try simp only [go_sem, Nat.reduceEqDiff, reduceIte, Nat.reduceAdd, Nat.reduceMul, Nat.reduceSub, Nat.reduceLT, Nat.reduceLeDiff]
 refine hKK _ _ (Wk.refl _ _ _) ?_; clear hKK KK
 refine awp_assoc ?_
 refine awp_nr [1] (fun _ => rfl) fun tz => ?_
 refine awp_regW fun KK hKK => ?_
 refine xw_id ?_
 try simp only [go_sem, Nat.reduceEqDiff, reduceIte, Nat.reduceAdd, Nat.reduceMul, Nat.reduceSub, Nat.reduceLT, Nat.reduceLeDiff, Int.reduceToNat, Int.reduceBEq, Int.reduceBNe, Int.reduceLT, Int.reduceLE, Int.reduceAdd, Int.reduceSub, Int.reduceMul, Int.reduceNeg, Int.reduceEq, Int.reduceNe]
 refine hKK _ _ (Wk.refl _ _ _) ?_; clear hKK KK
 refine awp_cond (b := (decide (32 < (a0.Links.length : Int)))) rfl (fun h1 => ?_) (fun h1 => ?_)
 ·
  have h0 := cT h0 h1
  refine awp_assoc ?_
  refine awp_nr [] (fun _ => rfl) fun tz => ?_
  refine awp_regW fun KK hKK => ?_
  refine xw_id ?_
  try simp only [go_sem, Nat.reduceEqDiff, reduceIte, Nat.reduceAdd, Nat.reduceMul, Nat.reduceSub, Nat.reduceLT, Nat.reduceLeDiff]
  refine hKK _ _ (Wk.refl _ _ _) ?_; clear hKK KK
  refine awp_ret ?_
  obtain rfl := someInj h0
  refine endW_i ?_
  refine end_ret0 rs17 (rfl) ?_
  try simp only [go_sem, Nat.reduceEqDiff, reduceIte, Nat.reduceAdd, Nat.reduceMul, Nat.reduceSub, Nat.reduceLT, Nat.reduceLeDiff, fz, nilS, packR, List.take_nil, List.take_length, List.length_map, List.length_append, cond_true, cond_false, Nat.ble_eq, ble_self, List.map_append]
  all_goals rfl
 ·
  have h0 := cF h0 h1
  refine awp_skip ?_
  refine awp_assoc ?_
  refine awp_nr [1] (fun _ => rfl) fun tz => ?_
  refine awp_regW fun KK hKK => ?_
  refine xw_id ?_
  try simp only [go_sem, Nat.reduceEqDiff, reduceIte, Nat.reduceAdd, Nat.reduceMul, Nat.reduceSub, Nat.reduceLT, Nat.reduceLeDiff, Int.reduceToNat, Int.reduceBEq, Int.reduceBNe, Int.reduceLT, Int.reduceLE, Int.reduceAdd, Int.reduceSub, Int.reduceMul, Int.reduceNeg, Int.reduceEq, Int.reduceNe]
  refine hKK _ _ (Wk.refl _ _ _) ?_; clear hKK KK
  obtain ⟨o6, hi2, h0⟩ := bnd h0
  refine awp_cut (fun d5 : Unit => o6 = Ex.go d5) (fun d5 : Unit => metric_Check_S0 d5) ?_ ?_
  ·
   refine awp_block1 ?_
   refine awp_loopS (fun n (d7 : Int) => metric_Check_L2 a0 n d7 = some o6) (fun d7 : Int => metric_Check_S1 a0 d7) big 0 (Wk.canonD [] [] [some 0] rfl trivial rfl (tmOU 0 tmO0 rfl List.not_mem_nil (by simp only [upd_get, Nat.reduceEqDiff, reduceIte, Nat.reduceAdd, Nat.reduceMul, Nat.reduceSub, Nat.reduceLT, Nat.reduceLeDiff, if_true, if_false] <;> rfl) (e_MetricTable_tmx (by rfl) (Tm.clean (Clean.imm (c_MetricLink _))))) (tmAllU 12 (tmAllU 11 (tmAllU 10 (tmAllU 1 tmAll0 (Tm.ptr rfl)) (Tm.clean (Clean.imm (c_MetricLink _)))) (Tm.v _)) (Tm.v _))) hi2 ?_
   clear hi2
   rintro n d7 hl4
   rcases n with _ | n3
   ·
    (rw [metric_Check_L2] at hl4; cases hl4)
   ·
    rw [metric_Check_L2] at hl4
    unfold metric_Check_S1
    refine awp_nr [1,10,11,12] (fun _ => rfl) fun tz => ?_
    refine awp_regW fun KK hKK => ?_
    refine xw_id ?_
    try simp only [go_sem, Nat.reduceEqDiff, reduceIte, Nat.reduceAdd, Nat.reduceMul, Nat.reduceSub, Nat.reduceLT, Nat.reduceLeDiff]
    refine hKK _ _ (Wk.refl _ _ _) ?_; clear hKK KK
    refine awp_cond (b := (decide (d7 < (a0.Links.length : Int)))) rfl (fun h5 => ?_) (fun h5 => ?_)
    ·
     have hl4 := cT hl4 h5
     refine awp_skip ?_
     refine awp_blockW ?_
     refine awp_nr [1,10,11,12] (fun _ => rfl) fun tz => ?_
     refine awp_regW fun KK hKK => ?_
     refine xw_id ?_
     obtain ⟨x8, bx8, hl4⟩ := bnd hl4
     obtain ⟨fx8_0, fx8_1, fx8_2, fx8_3⟩ := idx_some bx8
     try simp only [go_sem, Nat.reduceEqDiff, reduceIte, Nat.reduceAdd, Nat.reduceMul, Nat.reduceSub, Nat.reduceLT, Nat.reduceLeDiff, fx8_0, fx8_1, fx8_2]
     refine hKK _ _ (Wk.refl _ _ _) ?_; clear hKK KK
     refine awp_nr [1,3,4,10,11,12] (fun _ => rfl) fun tz => ?_
     refine awp_regW fun KK hKK => ?_
     refine xw_id ?_
     obtain ⟨x9, bx9, hl4⟩ := bnd hl4
     try simp only [go_sem, Nat.reduceEqDiff, reduceIte, Nat.reduceAdd, Nat.reduceMul, Nat.reduceSub, Nat.reduceLT, Nat.reduceLeDiff, fx8_0, fx8_1, fx8_2]
     refine xcall_p (metric_valid_p x8 bx9) ?_; try dsimp only
     try refine xw_id ?_
     refine xw_stop 2 (by (try simp only [go_sem]); rfl) (by (try simp only [go_sem]); rfl) (by rfl) fun K1 hK1 => ?_
     refine xw_id ?_
     try simp only [go_sem, Nat.reduceEqDiff, reduceIte, Nat.reduceAdd, Nat.reduceMul, Nat.reduceSub, Nat.reduceLT, Nat.reduceLeDiff, fx8_0, fx8_1, fx8_2]
     refine hK1 _ ?_; clear hK1 K1
     obtain ⟨x13, hvh6, hl4⟩ := bnd hl4
     refine xw_cut 16 [(1, (.ptr 0 0)), (10, (.imm (List.flatMap e_MetricLink a0.Links) a0.Links.length)), (11, (vi (a0.Links.length : Int))), (12, (vi d7)), (36, (vb x13))] (by (try simp only [go_sem]); rfl) (by (try simp only [go_sem]); rfl) (by rfl) (fun K1 hK1 => ?_) fun tz => ?_
     ·
      refine xw_id ?_
      rcases Bool.eq_false_or_eq_true (!x9) with h6 | h6
      ·
       have hvh6 := cT hvh6 h6
       try simp only [go_sem, Nat.reduceEqDiff, reduceIte, Nat.reduceAdd, Nat.reduceMul, Nat.reduceSub, Nat.reduceLT, Nat.reduceLeDiff, fx8_0, fx8_1, fx8_2, h6]
       obtain rfl := someInj hvh6
       exact hK1 _ ⟨rfl, rfl, rfl, rfl, rfl, (by first | rfl | (rw [h6]; rfl) | (simp only [h6, Bool.true_and, Bool.false_and, Bool.true_or, Bool.false_or, cond_true, cond_false]; done)), trivial⟩
      ·
       have hvh6 := cF hvh6 h6
       refine xw_stop 3 (by (try simp only [go_sem]); rfl) (by (try simp only [go_sem]); rfl) (by rfl) fun K1 hK1 => ?_
       refine xw_id ?_
       try simp only [go_sem, Nat.reduceEqDiff, reduceIte, Nat.reduceAdd, Nat.reduceMul, Nat.reduceSub, Nat.reduceLT, Nat.reduceLeDiff, fx8_0, fx8_1, fx8_2, h6]
       refine hK1 _ ?_; clear hK1 K1
       obtain ⟨x12, hvh7, hvh6⟩ := bnd hvh6
       refine xw_cut 12 [(1, (.ptr 0 0)), (10, (.imm (List.flatMap e_MetricLink a0.Links) a0.Links.length)), (11, (vi (a0.Links.length : Int))), (12, (vi d7)), (20, (vb false)), (35, (vb x12))] (by (try simp only [go_sem]); rfl) (by (try simp only [go_sem]); rfl) (by rfl) (fun K1 hK1 => ?_) fun tz => ?_
       ·
        refine xw_id ?_
        rcases Bool.eq_false_or_eq_true (decide (0 < d7)) with h7 | h7
        ·
         have hvh7 := cT hvh7 h7
         obtain ⟨x10, bx10, hvh7⟩ := bnd hvh7
         obtain ⟨fx10_0, fx10_1, fx10_2, fx10_3⟩ := idx_some bx10
         obtain ⟨x11, bx11, hvh7⟩ := bnd hvh7
         try simp only [go_sem, Nat.reduceEqDiff, reduceIte, Nat.reduceAdd, Nat.reduceMul, Nat.reduceSub, Nat.reduceLT, Nat.reduceLeDiff, fx8_0, fx8_1, fx8_2, h6, h7, fx10_0, fx10_1, fx10_2]
         refine xcall_p (address_Compare_p x10.Peer x8.Peer bx11) ?_; try dsimp only
         try refine xw_id ?_
         try simp only [go_sem, Nat.reduceEqDiff, reduceIte, Nat.reduceAdd, Nat.reduceMul, Nat.reduceSub, Nat.reduceLT, Nat.reduceLeDiff, fx8_0, fx8_1, fx8_2, h6, h7, fx10_0, fx10_1, fx10_2]
         obtain rfl := someInj hvh7
         exact hK1 _ ⟨rfl, rfl, rfl, rfl, rfl, rfl, (by first | rfl | (rw [h7]; rfl) | (simp only [h7, Bool.true_and, Bool.false_and, Bool.true_or, Bool.false_or, cond_true, cond_false]; done)), trivial⟩
        ·
         have hvh7 := cF hvh7 h7
         try simp only [go_sem, Nat.reduceEqDiff, reduceIte, Nat.reduceAdd, Nat.reduceMul, Nat.reduceSub, Nat.reduceLT, Nat.reduceLeDiff, fx8_0, fx8_1, fx8_2, h6, h7]
         obtain rfl := someInj hvh7
         exact hK1 _ ⟨rfl, rfl, rfl, rfl, rfl, rfl, (by first | rfl | (rw [h7]; rfl) | (simp only [h7, Bool.true_and, Bool.false_and, Bool.true_or, Bool.false_or, cond_true, cond_false]; done)), trivial⟩
       ·
        refine xw_id ?_
        try simp only [go_sem, Nat.reduceEqDiff, reduceIte, Nat.reduceAdd, Nat.reduceMul, Nat.reduceSub, Nat.reduceLT, Nat.reduceLeDiff, fx8_0, fx8_1, fx8_2, h6]
        obtain rfl := someInj hvh6
        exact hK1 _ ⟨rfl, rfl, rfl, rfl, rfl, (by first | rfl | (rw [h6]; rfl) | (simp only [h6, Bool.true_and, Bool.false_and, Bool.true_or, Bool.false_or, cond_true, cond_false]; done)), trivial⟩
     ·
      refine xw_id ?_
      try simp only [go_sem, Nat.reduceEqDiff, reduceIte, Nat.reduceAdd, Nat.reduceMul, Nat.reduceSub, Nat.reduceLT, Nat.reduceLeDiff, fx8_0, fx8_1, fx8_2]
      refine hKK _ (metric_Check_S3 a0 d7 x13) (Wk.canonD [] [] [some 0] rfl trivial rfl (tmOU 0 tmO0 rfl List.not_mem_nil (by simp only [upd_get, Nat.reduceEqDiff, reduceIte, Nat.reduceAdd, Nat.reduceMul, Nat.reduceSub, Nat.reduceLT, Nat.reduceLeDiff, if_true, if_false] <;> rfl) (e_MetricTable_tmx (by rfl) (Tm.clean (Clean.imm (c_MetricLink _))))) (tmAllU 36 (tmAllU 12 (tmAllU 11 (tmAllU 10 (tmAllU 1 tmAll0 (Tm.ptr rfl)) (Tm.clean (Clean.imm (c_MetricLink _)))) (Tm.v _)) (Tm.v _)) (Tm.v _))) ?_; clear hKK KK
      unfold metric_Check_S3
      refine awp_cond1 (b := x13) rfl (fun h8 => ?_) (fun h8 => ?_)
      ·
       have hl4 := cT hl4 h8
       refine awp_nr [] (fun _ => rfl) fun tz => ?_
       refine awp_regW fun KK hKK => ?_
       refine xw_id ?_
       try simp only [go_sem, Nat.reduceEqDiff, reduceIte, Nat.reduceAdd, Nat.reduceMul, Nat.reduceSub, Nat.reduceLT, Nat.reduceLeDiff, fx8_0, fx8_1, fx8_2]
       refine hKK _ _ (Wk.refl _ _ _) ?_; clear hKK KK
       refine awp_ret1 ?_
       refine bq_r ?_
       refine sq_r ?_
       refine lq_r ?_
       refine bq_r ?_
       refine sq_r ?_
       obtain rfl := someInj hl4
       obtain rfl := Ex.k_ret h0
       refine endW_i ?_
       refine end_ret0 rs17 (rfl) ?_
       try simp only [go_sem, Nat.reduceEqDiff, reduceIte, Nat.reduceAdd, Nat.reduceMul, Nat.reduceSub, Nat.reduceLT, Nat.reduceLeDiff, fz, nilS, packR, List.take_nil, List.take_length, List.length_map, List.length_append, cond_true, cond_false, Nat.ble_eq, ble_self, List.map_append]
       all_goals rfl
      ·
       have hl4 := cF hl4 h8
       refine awp_skip1 ?_
       refine bq_n ?_
       refine seqW_i ?_
       refine awp_nr1 [1,10,11,12] (fun _ => rfl) fun tz => ?_
       refine awp_reg1 fun KK hKK => ?_
       refine xw_id ?_
       try simp only [go_sem, Nat.reduceEqDiff, reduceIte, Nat.reduceAdd, Nat.reduceMul, Nat.reduceSub, Nat.reduceLT, Nat.reduceLeDiff, fx8_0, fx8_1, fx8_2]
       refine hKK _ ?_; clear hKK KK
       refine lq_n ?_
       exact ⟨n3, IntKind.wrap .i64 (d7 + 1), rfl, hl4, (Wk.canonD [] [] [some 0] rfl trivial rfl (tmOU 0 tmO0 rfl List.not_mem_nil (by simp only [upd_get, Nat.reduceEqDiff, reduceIte, Nat.reduceAdd, Nat.reduceMul, Nat.reduceSub, Nat.reduceLT, Nat.reduceLeDiff, if_true, if_false] <;> rfl) (e_MetricTable_tmx (by rfl) (Tm.clean (Clean.imm (c_MetricLink _))))) (tmAllU 12 (tmAllU 11 (tmAllU 10 (tmAllU 1 tmAll0 (Tm.ptr rfl)) (Tm.clean (Clean.imm (c_MetricLink _)))) (Tm.v _)) (Tm.v _)))⟩
    ·
     have hl4 := cF hl4 h5
     refine awp_exit ?_
     refine lq_e ?_
     refine bq_e ?_
     refine sq_n ?_
     obtain rfl := someInj hl4
     exact ⟨_, rfl, (Wk.canonD [] [] [] rfl trivial rfl tmO0 tmAll0)⟩
  ·
   rintro d5 rfl
   have h0 := Ex.k_go h0
   clear hi2
   unfold metric_Check_S0
   refine awp_nr [] (fun _ => rfl) fun tz => ?_
   refine awp_regW fun KK hKK => ?_
   refine xw_id ?_
   try simp only [go_sem, Nat.reduceEqDiff, reduceIte, Nat.reduceAdd, Nat.reduceMul, Nat.reduceSub, Nat.reduceLT, Nat.reduceLeDiff]
   refine hKK _ _ (Wk.refl _ _ _) ?_; clear hKK KK
   refine awp_ret1 ?_
   obtain rfl := someInj h0
   refine endW_i ?_
   refine end_ret0 rs17 (rfl) ?_
   try simp only [go_sem, Nat.reduceEqDiff, reduceIte, Nat.reduceAdd, Nat.reduceMul, Nat.reduceSub, Nat.reduceLT, Nat.reduceLeDiff, fz, nilS, packR, List.take_nil, List.take_length, List.length_map, List.length_append, cond_true, cond_false, Nat.ble_eq, ble_self, List.map_append]
   all_goals rfl

end Go.AX.Z.TM

/-! (TMW metric checked) -/

set_option linter.unusedSimpArgs false
set_option linter.unusedVariables false
set_option maxHeartbeats 4000000
namespace Go.AX.Z.TM
open Go.AX Go.Proofs
attribute [local irreducible] awp xw xop xcall gsp ob xd xdop xcallD seqQ loopQ blkQ endQ


theorem metric_checked_p (a0 : MetricTable) (a1 : Int) {r : Int} (h0 : metric_checked a0 a1 = some r) : SndP K 34 [(.agg (E_MetricTable a0)), (vi a1)] (vi r) := by
 refine SndP.of_walkW hC (Clean.v _) (clean_cons (Clean.agg (E_MetricTable_clean _)) (clean_cons (Clean.v _) clean_nil)) (show K.P.funcs[34]? = some Try.f34 from Try.func34) rfl rfl (by decide +kernel) (Nat.le_of_ble_eq_true rfl) ?_
 unfold metric_checked at h0
 refine awp_nr [0,1] (fun _ => rfl) fun tz => ?_
 refine awp_regW fun KK hKK => ?_
 refine xw_id ?_
 try simp only [go_sem, Nat.reduceEqDiff, reduceIte, Nat.reduceAdd, Nat.reduceMul, Nat.reduceSub, Nat.reduceLT, Nat.reduceLeDiff]
 refine hKK _ _ (Wk.refl _ _ _) ?_; clear hKK KK
 refine awp_assoc ?_
 refine awp_nr [1,2] (fun _ => rfl) fun tz => ?_
 refine awp_regW fun KK hKK => ?_
 refine xw_id ?_
 obtain ⟨x5, bx5, h0⟩ := bnd h0
 try simp only [go_sem, Nat.reduceEqDiff, reduceIte, Nat.reduceAdd, Nat.reduceMul, Nat.reduceSub, Nat.reduceLT, Nat.reduceLeDiff]
 refine xcall_p (metric_Check_p a0 bx5) ?_; try dsimp only
 try refine xw_id ?_
 try simp only [go_sem, Nat.reduceEqDiff, reduceIte, Nat.reduceAdd, Nat.reduceMul, Nat.reduceSub, Nat.reduceLT, Nat.reduceLeDiff]
 refine hKK _ _ (Wk.refl _ _ _) ?_; clear hKK KK
 refine awp_assoc ?_
 refine awp_nr [1,5] (fun _ => rfl) fun tz => ?_
 refine awp_regW fun KK hKK => ?_
 refine xw_id ?_
 try simp only [go_sem, Nat.reduceEqDiff, reduceIte, Nat.reduceAdd, Nat.reduceMul, Nat.reduceSub, Nat.reduceLT, Nat.reduceLeDiff]
 refine hKK _ _ (Wk.refl _ _ _) ?_; clear hKK KK
 refine awp_cond (b := (x5 != 0)) rfl (fun h1 => ?_) (fun h1 => ?_)
 ·
  have h0 := cT h0 h1
  refine awp_assoc ?_
  refine awp_nr [5] (fun _ => rfl) fun tz => ?_
  refine awp_regW fun KK hKK => ?_
  refine xw_id ?_
  try simp only [go_sem, Nat.reduceEqDiff, reduceIte, Nat.reduceAdd, Nat.reduceMul, Nat.reduceSub, Nat.reduceLT, Nat.reduceLeDiff]
  refine hKK _ _ (Wk.refl _ _ _) ?_; clear hKK KK
  refine awp_ret ?_
  obtain rfl := someInj h0
  refine endW_i ?_
  refine end_ret0 rs34 (rfl) ?_
  try simp only [go_sem, Nat.reduceEqDiff, reduceIte, Nat.reduceAdd, Nat.reduceMul, Nat.reduceSub, Nat.reduceLT, Nat.reduceLeDiff, fz, nilS, packR, List.take_nil, List.take_length, List.length_map, List.length_append, cond_true, cond_false, Nat.ble_eq, ble_self, List.map_append]
  all_goals rfl
 ·
  have h0 := cF h0 h1
  refine awp_skip ?_
  refine awp_assoc ?_
  refine awp_nr [1] (fun _ => rfl) fun tz => ?_
  refine awp_regW fun KK hKK => ?_
  refine xw_id ?_
  refine xw_stop 3 (by (try simp only [go_sem]); rfl) (by (try simp only [go_sem]); rfl) (by rfl) fun K1 hK1 => ?_
  refine xw_id ?_
  try simp only [go_sem, Nat.reduceEqDiff, reduceIte, Nat.reduceAdd, Nat.reduceMul, Nat.reduceSub, Nat.reduceLT, Nat.reduceLeDiff]
  refine hK1 _ ?_; clear hK1 K1
  refine xw_cut 3 [(16, (vb ((decide (a1 < 0)) || (decide (1099511627776 < a1)))))] (by (try simp only [go_sem]); rfl) (by (try simp only [go_sem]); rfl) (by rfl) (fun K1 hK1 => ?_) fun tz => ?_
  ·
   refine xw_id ?_
   rcases Bool.eq_false_or_eq_true (decide (a1 < 0)) with h2 | h2
   ·
    try simp only [go_sem, Nat.reduceEqDiff, reduceIte, Nat.reduceAdd, Nat.reduceMul, Nat.reduceSub, Nat.reduceLT, Nat.reduceLeDiff, h2]
    exact hK1 _ ⟨rfl, (by first | rfl | (rw [h2]; rfl) | (simp only [h2, Bool.true_and, Bool.false_and, Bool.true_or, Bool.false_or, cond_true, cond_false]; done)), trivial⟩
   ·
    try simp only [go_sem, Nat.reduceEqDiff, reduceIte, Nat.reduceAdd, Nat.reduceMul, Nat.reduceSub, Nat.reduceLT, Nat.reduceLeDiff, h2]
    exact hK1 _ ⟨rfl, (by first | rfl | (rw [h2]; rfl) | (simp only [h2, Bool.true_and, Bool.false_and, Bool.true_or, Bool.false_or, cond_true, cond_false]; done)), trivial⟩
  ·
   refine xw_id ?_
   try simp only [go_sem, Nat.reduceEqDiff, reduceIte, Nat.reduceAdd, Nat.reduceMul, Nat.reduceSub, Nat.reduceLT, Nat.reduceLeDiff]
   refine hKK _ _ (Wk.refl _ _ _) ?_; clear hKK KK
   refine awp_cond (b := ((decide (a1 < 0)) || (decide (1099511627776 < a1)))) rfl (fun h3 => ?_) (fun h3 => ?_)
   ·
    have h0 := cT h0 h3
    refine awp_assoc ?_
    refine awp_nr [] (fun _ => rfl) fun tz => ?_
    refine awp_regW fun KK hKK => ?_
    refine xw_id ?_
    try simp only [go_sem, Nat.reduceEqDiff, reduceIte, Nat.reduceAdd, Nat.reduceMul, Nat.reduceSub, Nat.reduceLT, Nat.reduceLeDiff]
    refine hKK _ _ (Wk.refl _ _ _) ?_; clear hKK KK
    refine awp_ret ?_
    obtain rfl := someInj h0
    refine endW_i ?_
    refine end_ret0 rs34 (rfl) ?_
    try simp only [go_sem, Nat.reduceEqDiff, reduceIte, Nat.reduceAdd, Nat.reduceMul, Nat.reduceSub, Nat.reduceLT, Nat.reduceLeDiff, fz, nilS, packR, List.take_nil, List.take_length, List.length_map, List.length_append, cond_true, cond_false, Nat.ble_eq, ble_self, List.map_append]
    all_goals rfl
   ·
    have h0 := cF h0 h3
    refine awp_skip ?_
    refine awp_nr [] (fun _ => rfl) fun tz => ?_
    refine awp_regW fun KK hKK => ?_
    refine xw_id ?_
    try simp only [go_sem, Nat.reduceEqDiff, reduceIte, Nat.reduceAdd, Nat.reduceMul, Nat.reduceSub, Nat.reduceLT, Nat.reduceLeDiff]
    refine hKK _ _ (Wk.refl _ _ _) ?_; clear hKK KK
    refine awp_ret1 ?_
    obtain rfl := someInj h0
    refine endW_i ?_
    refine end_ret0 rs34 (rfl) ?_
    try simp only [go_sem, Nat.reduceEqDiff, reduceIte, Nat.reduceAdd, Nat.reduceMul, Nat.reduceSub, Nat.reduceLT, Nat.reduceLeDiff, fz, nilS, packR, List.take_nil, List.take_length, List.length_map, List.length_append, cond_true, cond_false, Nat.ble_eq, ble_self, List.map_append]
    all_goals rfl

end Go.AX.Z.TM

/-! (TMW metric find 1) -/

set_option linter.unusedSimpArgs false
set_option linter.unusedVariables false
set_option maxHeartbeats 4000000
namespace Go.AX.Z.TM
open Go.AX Go.Proofs
attribute [local irreducible] awp xw xop xcall gsp ob xd xdop xcallD seqQ loopQ blkQ endQ


theorem metric_find_1_p (a0 : MetricLink) (a1 : Addr) {r : Int} (h0 : metric_find_1 a0 a1 = some r) : SndP K 50 [(.agg (e_MetricLink a0)), (.agg (e_Addr a1))] (vi r) := by
 refine SndP.of_walkW hC (Clean.v _) (clean_cons (Clean.agg (e_MetricLink_clean _)) (clean_cons (Clean.agg (e_Addr_clean _)) clean_nil)) (show K.P.funcs[50]? = some Try.f50 from Try.func50) rfl rfl (by decide +kernel) (Nat.le_of_ble_eq_true rfl) ?_
 unfold metric_find_1 at h0
 refine awp_nr [0,1] (fun _ => rfl) fun tz => ?_
 refine awp_regW fun KK hKK => ?_
 refine xw_id ?_
 try simp only [go_sem, Nat.reduceEqDiff, reduceIte, Nat.reduceAdd, Nat.reduceMul, Nat.reduceSub, Nat.reduceLT, Nat.reduceLeDiff]
 refine hKK _ _ (Wk.refl _ _ _) ?_; clear hKK KK
 refine awp_nr [2,3] (fun _ => rfl) fun tz => ?_
 refine awp_regW fun KK hKK => ?_
 refine xw_id ?_
 obtain ⟨x11, bx11, h0⟩ := bnd h0
 try simp only [go_sem, Nat.reduceEqDiff, reduceIte, Nat.reduceAdd, Nat.reduceMul, Nat.reduceSub, Nat.reduceLT, Nat.reduceLeDiff]
 refine xcall_p (address_Compare_p a0.Peer a1 bx11) ?_; try dsimp only
 try refine xw_id ?_
 try simp only [go_sem, Nat.reduceEqDiff, reduceIte, Nat.reduceAdd, Nat.reduceMul, Nat.reduceSub, Nat.reduceLT, Nat.reduceLeDiff]
 refine hKK _ _ (Wk.refl _ _ _) ?_; clear hKK KK
 refine awp_ret1 ?_
 obtain rfl := someInj h0
 refine endW_i ?_
 refine end_ret0 rs50 (rfl) ?_
 try simp only [go_sem, Nat.reduceEqDiff, reduceIte, Nat.reduceAdd, Nat.reduceMul, Nat.reduceSub, Nat.reduceLT, Nat.reduceLeDiff, fz, nilS, packR, List.take_nil, List.take_length, List.length_map, List.length_append, cond_true, cond_false, Nat.ble_eq, ble_self, List.map_append]
 all_goals rfl

end Go.AX.Z.TM

/-! (TMW slices BinarySearchFunc api MetricLink api MetricLink api Addr) -/

set_option linter.unusedSimpArgs false
set_option linter.unusedVariables false
set_option maxHeartbeats 4000000
namespace Go.AX.Z.TM
open Go.AX Go.Proofs
attribute [local irreducible] awp xw xop xcall gsp ob xd xdop xcallD seqQ loopQ blkQ endQ

def slices_BinarySearchFunc_api_MetricLink_api_MetricLink_api_Addr_S0 (a1 : Addr) (a0 : (List MetricLink)) (d9 : Int) : AS :=
 { objs := (upd (fun _ => .dead) 0 (.live (e_Addr a1))), next := 1, tmps := (upd (upd (upd (upd (upd (fun _ => .unk) 0 (.imm (List.flatMap e_MetricLink a0) a0.length)) 2 (.clo 50 [] [])) 4 (.ptr 0 0)) 8 (vi (a0.length : Int))) 9 (vi d9)) }

def slices_BinarySearchFunc_api_MetricLink_api_MetricLink_api_Addr_S1 (a1 : Addr) (a0 : (List MetricLink)) (d10 : (Int × Int)) : AS :=
 { objs := (upd (fun _ => .dead) 0 (.live (e_Addr a1))), next := 1, tmps := (upd (upd (upd (upd (upd (upd (fun _ => .unk) 0 (.imm (List.flatMap e_MetricLink a0) a0.length)) 2 (.clo 50 [] [])) 4 (.ptr 0 0)) 8 (vi (a0.length : Int))) 9 (vi d10.1)) 10 (vi d10.2)) }

theorem slices_BinarySearchFunc_api_MetricLink_api_MetricLink_api_Addr_p (a0 : (List MetricLink)) (a1 : Addr) {r : (Int × Bool)} (h0 : slices_BinarySearchFunc_api_MetricLink_api_MetricLink_api_Addr a0 a1 = some r) : SndP K 49 [(S_MetricLink a0), (.agg (e_Addr a1)), (.clo 50 [] [])] (.tup [(vi r.1), (vb r.2)]) := by
 refine SndP.of_walkW hC (Clean.tup (clean_cons (Clean.v _) (clean_cons (Clean.v _) clean_nil))) (clean_cons (S_MetricLink_clean _) (clean_cons (Clean.agg (e_Addr_clean _)) (clean_cons (Clean.clo clean_nil clean_nil) clean_nil))) (show K.P.funcs[49]? = some Try.f49 from Try.func49) rfl rfl (by decide +kernel) (Nat.le_of_ble_eq_true rfl) ?_
 unfold slices_BinarySearchFunc_api_MetricLink_api_MetricLink_api_Addr at h0
 refine awp_nr [0,1,2] (fun _ => rfl) fun tz => ?_
 refine awp_regW fun KK hKK => ?_
 refine xw_id ?_
 try simp only [go_sem, Nat.reduceEqDiff, reduceIte, Nat.reduceAdd, Nat.reduceMul, Nat.reduceSub, Nat.reduceLT, Nat.reduceLeDiff]
 refine hKK _ _ (Wk.refl _ _ _) ?_; clear hKK KK
 refine awp_nr [0,2,4] (fun _ => rfl) fun tz => ?_
 refine awp_regW fun KK hKK => ?_
 refine xw_id ?_
 try simp only [go_sem, Nat.reduceEqDiff, reduceIte, Nat.reduceAdd, Nat.reduceMul, Nat.reduceSub, Nat.reduceLT, Nat.reduceLeDiff, Int.reduceToNat, Int.reduceBEq, Int.reduceBNe, Int.reduceLT, Int.reduceLE, Int.reduceAdd, Int.reduceSub, Int.reduceMul, Int.reduceNeg, Int.reduceEq, Int.reduceNe]
 refine hKK _ _ (Wk.refl _ _ _) ?_; clear hKK KK
 refine awp_nr [0,2,4,8] (fun _ => rfl) fun tz => ?_
 refine awp_regW fun KK hKK => ?_
 refine xw_id ?_
 try simp only [go_sem, Nat.reduceEqDiff, reduceIte, Nat.reduceAdd, Nat.reduceMul, Nat.reduceSub, Nat.reduceLT, Nat.reduceLeDiff]
 refine hKK _ _ (Wk.refl _ _ _) ?_; clear hKK KK
 obtain ⟨d9, hi1, h0⟩ := bnd h0
 refine awp_cut (fun z => d9 = z) (fun d9 : Int => slices_BinarySearchFunc_api_MetricLink_api_MetricLink_api_Addr_S0 a1 a0 d9) ?_ ?_
 ·
  refine awp_block1 ?_
  refine awp_loopS (fun n (d10 : (Int × Int)) => slices_BinarySearchFunc_api_MetricLink_api_MetricLink_api_Addr_L2 a0 a1 n d10 = some d9) (fun d10 : (Int × Int) => slices_BinarySearchFunc_api_MetricLink_api_MetricLink_api_Addr_S1 a1 a0 d10) big (0, (a0.length : Int)) (Wk.canonD [] [] [some 0] rfl trivial rfl (tmOU 0 tmO0 rfl List.not_mem_nil (by simp only [upd_get, Nat.reduceEqDiff, reduceIte, Nat.reduceAdd, Nat.reduceMul, Nat.reduceSub, Nat.reduceLT, Nat.reduceLeDiff, if_true, if_false] <;> rfl) (TmL.clean (e_Addr_clean _))) (tmAllU 10 (tmAllU 9 (tmAllU 8 (tmAllU 4 (tmAllU 2 (tmAllU 0 tmAll0 (Tm.clean (Clean.imm (c_MetricLink _)))) (Tm.clo TmL.nil TmL.nil)) (Tm.ptr rfl)) (Tm.v _)) (Tm.v _)) (Tm.v _))) hi1 ?_
  clear hi1
  rintro n d10 hl3
  rcases n with _ | n2
  ·
   (rw [slices_BinarySearchFunc_api_MetricLink_api_MetricLink_api_Addr_L2] at hl3; cases hl3)
  ·
   rw [slices_BinarySearchFunc_api_MetricLink_api_MetricLink_api_Addr_L2] at hl3
   unfold slices_BinarySearchFunc_api_MetricLink_api_MetricLink_api_Addr_S1
   refine awp_assoc ?_
   refine awp_nr [0,2,4,8,9,10] (fun _ => rfl) fun tz => ?_
   refine awp_regW fun KK hKK => ?_
   refine xw_id ?_
   try simp only [go_sem, Nat.reduceEqDiff, reduceIte, Nat.reduceAdd, Nat.reduceMul, Nat.reduceSub, Nat.reduceLT, Nat.reduceLeDiff]
   refine hKK _ _ (Wk.refl _ _ _) ?_; clear hKK KK
   refine awp_cond (b := (decide (d10.1 < d10.2))) rfl (fun h4 => ?_) (fun h4 => ?_)
   ·
    have hl3 := cT hl3 h4
    refine awp_skip ?_
    refine awp_block1 ?_
    refine awp_nr [0,2,4,8,9,10] (fun _ => rfl) fun tz => ?_
    refine awp_regW fun KK hKK => ?_
    refine xw_id ?_
    try simp only [go_sem, Nat.reduceEqDiff, reduceIte, Nat.reduceAdd, Nat.reduceMul, Nat.reduceSub, Nat.reduceLT, Nat.reduceLeDiff, Int.reduceToNat, Int.reduceBEq, Int.reduceBNe, Int.reduceLT, Int.reduceLE, Int.reduceAdd, Int.reduceSub, Int.reduceMul, Int.reduceNeg, Int.reduceEq, Int.reduceNe]
    refine hKK _ _ (Wk.refl _ _ _) ?_; clear hKK KK
    refine awp_nr [0,2,4,8,9,10,11] (fun _ => rfl) fun tz => ?_
    refine awp_regW fun KK hKK => ?_
    refine xw_id ?_
    obtain ⟨x11, bx11, hl3⟩ := bnd hl3
    obtain ⟨fx11_0, fx11_1, fx11_2, fx11_3⟩ := idx_some bx11
    obtain ⟨x12, bx12, hl3⟩ := bnd hl3
    try simp only [go_sem, Nat.reduceEqDiff, reduceIte, Nat.reduceAdd, Nat.reduceMul, Nat.reduceSub, Nat.reduceLT, Nat.reduceLeDiff, fx11_0, fx11_1, fx11_2]
    refine xcall_p (metric_find_1_p x11 a1 bx12) ?_; try dsimp only
    try refine xw_id ?_
    try simp only [go_sem, Nat.reduceEqDiff, reduceIte, Nat.reduceAdd, Nat.reduceMul, Nat.reduceSub, Nat.reduceLT, Nat.reduceLeDiff, fx11_0, fx11_1, fx11_2]
    refine hKK _ _ (Wk.refl _ _ _) ?_; clear hKK KK
    refine awp_cond1 (b := (decide (x12 < 0))) rfl (fun h5 => ?_) (fun h5 => ?_)
    ·
     have hl3 := cT hl3 h5
     refine awp_nr1 [0,2,4,8,10,11] (fun _ => rfl) fun tz => ?_
     refine awp_reg1 fun KK hKK => ?_
     refine xw_id ?_
     try simp only [go_sem, Nat.reduceEqDiff, reduceIte, Nat.reduceAdd, Nat.reduceMul, Nat.reduceSub, Nat.reduceLT, Nat.reduceLeDiff, fx11_0, fx11_1, fx11_2]
     refine hKK _ ?_; clear hKK KK
     refine bq_n ?_
     refine lq_n ?_
     exact ⟨n2, (IntKind.wrap .i64 ((IntKind.wrap .i64 (((IntKind.wrap .u64 (IntKind.wrap .i64 (d10.1 + d10.2)))).fdiv (2 ^ (min 1 64)))) + 1), d10.2), rfl, hl3, (Wk.canonD [] [] [some 0] rfl trivial rfl (tmOU 0 tmO0 rfl List.not_mem_nil (by simp only [upd_get, Nat.reduceEqDiff, reduceIte, Nat.reduceAdd, Nat.reduceMul, Nat.reduceSub, Nat.reduceLT, Nat.reduceLeDiff, if_true, if_false] <;> rfl) (TmL.clean (e_Addr_clean _))) (tmAllU 10 (tmAllU 9 (tmAllU 8 (tmAllU 4 (tmAllU 2 (tmAllU 0 tmAll0 (Tm.clean (Clean.imm (c_MetricLink _)))) (Tm.clo TmL.nil TmL.nil)) (Tm.ptr rfl)) (Tm.v _)) (Tm.v _)) (Tm.v _)))⟩
    ·
     have hl3 := cF hl3 h5
     refine awp_nr1 [0,2,4,8,9,11] (fun _ => rfl) fun tz => ?_
     refine awp_reg1 fun KK hKK => ?_
     refine xw_id ?_
     try simp only [go_sem, Nat.reduceEqDiff, reduceIte, Nat.reduceAdd, Nat.reduceMul, Nat.reduceSub, Nat.reduceLT, Nat.reduceLeDiff, fx11_0, fx11_1, fx11_2]
     refine hKK _ ?_; clear hKK KK
     refine bq_n ?_
     refine lq_n ?_
     exact ⟨n2, (d10.1, IntKind.wrap .i64 (((IntKind.wrap .u64 (IntKind.wrap .i64 (d10.1 + d10.2)))).fdiv (2 ^ (min 1 64)))), rfl, hl3, (Wk.canonD [] [] [some 0] rfl trivial rfl (tmOU 0 tmO0 rfl List.not_mem_nil (by simp only [upd_get, Nat.reduceEqDiff, reduceIte, Nat.reduceAdd, Nat.reduceMul, Nat.reduceSub, Nat.reduceLT, Nat.reduceLeDiff, if_true, if_false] <;> rfl) (TmL.clean (e_Addr_clean _))) (tmAllU 10 (tmAllU 9 (tmAllU 8 (tmAllU 4 (tmAllU 2 (tmAllU 0 tmAll0 (Tm.clean (Clean.imm (c_MetricLink _)))) (Tm.clo TmL.nil TmL.nil)) (Tm.ptr rfl)) (Tm.v _)) (Tm.v _)) (Tm.v _)))⟩
   ·
    have hl3 := cF hl3 h4
    refine awp_exit ?_
    refine lq_e ?_
    refine bq_e ?_
    refine sq_n ?_
    obtain rfl := someInj hl3
    exact ⟨_, rfl, (Wk.canonD [] [] [some 0] rfl trivial rfl (tmOU 0 tmO0 rfl List.not_mem_nil (by simp only [upd_get, Nat.reduceEqDiff, reduceIte, Nat.reduceAdd, Nat.reduceMul, Nat.reduceSub, Nat.reduceLT, Nat.reduceLeDiff, if_true, if_false] <;> rfl) (TmL.clean (e_Addr_clean _))) (tmAllU 9 (tmAllU 8 (tmAllU 4 (tmAllU 2 (tmAllU 0 tmAll0 (Tm.clean (Clean.imm (c_MetricLink _)))) (Tm.clo TmL.nil TmL.nil)) (Tm.ptr rfl)) (Tm.v _)) (Tm.v _)))⟩
 ·
  rintro _ rfl
  clear hi1
  unfold slices_BinarySearchFunc_api_MetricLink_api_MetricLink_api_Addr_S0
  refine awp_nr [0,2,4,8,9] (fun _ => rfl) fun tz => ?_
  refine awp_regW fun KK hKK => ?_
  refine xw_id ?_
  refine xw_stop 5 (by (try simp only [go_sem]); rfl) (by (try simp only [go_sem]); rfl) (by rfl) fun K1 hK1 => ?_
  refine xw_id ?_
  try simp only [go_sem, Nat.reduceEqDiff, reduceIte, Nat.reduceAdd, Nat.reduceMul, Nat.reduceSub, Nat.reduceLT, Nat.reduceLeDiff]
  refine hK1 _ ?_; clear hK1 K1
  obtain ⟨x15, hvh6, h0⟩ := bnd h0
  refine xw_cut 9 [(35, (vi d9)), (48, (vb x15))] (by (try simp only [go_sem]); rfl) (by (try simp only [go_sem]); rfl) (by rfl) (fun K1 hK1 => ?_) fun tz => ?_
  ·
   refine xw_id ?_
   rcases Bool.eq_false_or_eq_true (decide (d9 < (a0.length : Int))) with h6 | h6
   ·
    have hvh6 := cT hvh6 h6
    obtain ⟨x13, bx13, hvh6⟩ := bnd hvh6
    obtain ⟨fx13_0, fx13_1, fx13_2, fx13_3⟩ := idx_some bx13
    obtain ⟨x14, bx14, hvh6⟩ := bnd hvh6
    try simp only [go_sem, Nat.reduceEqDiff, reduceIte, Nat.reduceAdd, Nat.reduceMul, Nat.reduceSub, Nat.reduceLT, Nat.reduceLeDiff, h6, fx13_0, fx13_1, fx13_2]
    refine xcall_p (metric_find_1_p x13 a1 bx14) ?_; try dsimp only
    try refine xw_id ?_
    try simp only [go_sem, Nat.reduceEqDiff, reduceIte, Nat.reduceAdd, Nat.reduceMul, Nat.reduceSub, Nat.reduceLT, Nat.reduceLeDiff, h6, fx13_0, fx13_1, fx13_2]
    obtain rfl := someInj hvh6
    exact hK1 _ ⟨rfl, rfl, (by first | rfl | (rw [h6]; rfl) | (simp only [h6, Bool.true_and, Bool.false_and, Bool.true_or, Bool.false_or, cond_true, cond_false]; done)), trivial⟩
   ·
    have hvh6 := cF hvh6 h6
    try simp only [go_sem, Nat.reduceEqDiff, reduceIte, Nat.reduceAdd, Nat.reduceMul, Nat.reduceSub, Nat.reduceLT, Nat.reduceLeDiff, h6]
    obtain rfl := someInj hvh6
    exact hK1 _ ⟨rfl, rfl, (by first | rfl | (rw [h6]; rfl) | (simp only [h6, Bool.true_and, Bool.false_and, Bool.true_or, Bool.false_or, cond_true, cond_false]; done)), trivial⟩
  ·
   refine xw_id ?_
   try simp only [go_sem, Nat.reduceEqDiff, reduceIte, Nat.reduceAdd, Nat.reduceMul, Nat.reduceSub, Nat.reduceLT, Nat.reduceLeDiff]
   refine hKK _ _ (Wk.refl _ _ _) ?_; clear hKK KK
   refine awp_ret1 ?_
   obtain rfl := someInj h0
   refine endW_i ?_
   refine end_ret0 rs49 (rfl) ?_
   try simp only [go_sem, Nat.reduceEqDiff, reduceIte, Nat.reduceAdd, Nat.reduceMul, Nat.reduceSub, Nat.reduceLT, Nat.reduceLeDiff, fz, nilS, packR, List.take_nil, List.take_length, List.length_map, List.length_append, cond_true, cond_false, Nat.ble_eq, ble_self, List.map_append]
   all_goals rfl

end Go.AX.Z.TM

/-! (TMW metric find) -/

set_option linter.unusedSimpArgs false
set_option linter.unusedVariables false
set_option maxHeartbeats 4000000
namespace Go.AX.Z.TM
open Go.AX Go.Proofs
attribute [local irreducible] awp xw xop xcall gsp ob xd xdop xcallD seqQ loopQ blkQ endQ


theorem metric_find_p (a0 : MetricTable) (a1 : Addr) {r : (Int × Bool)} (h0 : metric_find a0 a1 = some r) : SndP K 36 [(.agg (E_MetricTable a0)), (.agg (e_Addr a1))] (.tup [(vi r.1), (vb r.2)]) := by
 refine SndP.of_walkW hC (Clean.tup (clean_cons (Clean.v _) (clean_cons (Clean.v _) clean_nil))) (clean_cons (Clean.agg (E_MetricTable_clean _)) (clean_cons (Clean.agg (e_Addr_clean _)) clean_nil)) (show K.P.funcs[36]? = some Try.f36 from Try.func36) rfl rfl (by decide +kernel) (Nat.le_of_ble_eq_true rfl) ?_
 unfold metric_find at h0
 refine awp_nr [0,1] (fun _ => rfl) fun tz => ?_
 refine awp_regW fun KK hKK => ?_
 refine xw_id ?_
 try simp only [go_sem, Nat.reduceEqDiff, reduceIte, Nat.reduceAdd, Nat.reduceMul, Nat.reduceSub, Nat.reduceLT, Nat.reduceLeDiff]
 refine hKK _ _ (Wk.refl _ _ _) ?_; clear hKK KK
 refine awp_nr [2,3] (fun _ => rfl) fun tz => ?_
 refine awp_regW fun KK hKK => ?_
 refine xw_id ?_
 obtain ⟨x9, bx9, h0⟩ := bnd h0
 try simp only [go_sem, Nat.reduceEqDiff, reduceIte, Nat.reduceAdd, Nat.reduceMul, Nat.reduceSub, Nat.reduceLT, Nat.reduceLeDiff]
 refine xcall_p (slices_BinarySearchFunc_api_MetricLink_api_MetricLink_api_Addr_p a0.Links a1 bx9) ?_; try dsimp only
 try refine xw_id ?_
 try simp only [go_sem, Nat.reduceEqDiff, reduceIte, Nat.reduceAdd, Nat.reduceMul, Nat.reduceSub, Nat.reduceLT, Nat.reduceLeDiff]
 refine hKK _ _ (Wk.refl _ _ _) ?_; clear hKK KK
 refine awp_ret1 ?_
 obtain rfl := someInj h0
 refine endW_i ?_
 refine end_ret0 rs36 (rfl) ?_
 try simp only [go_sem, Nat.reduceEqDiff, reduceIte, Nat.reduceAdd, Nat.reduceMul, Nat.reduceSub, Nat.reduceLT, Nat.reduceLeDiff, fz, nilS, packR, List.take_nil, List.take_length, List.length_map, List.length_append, cond_true, cond_false, Nat.ble_eq, ble_self, List.map_append]
 all_goals rfl

end Go.AX.Z.TM

/-! (TMW slices Clone api MetricLink api MetricLink) -/

set_option linter.unusedSimpArgs false
set_option linter.unusedVariables false
set_option maxHeartbeats 4000000
namespace Go.AX.Z.TM
open Go.AX Go.Proofs
attribute [local irreducible] awp xw xop xcall gsp ob xd xdop xcallD seqQ loopQ blkQ endQ


theorem slices_Clone_api_MetricLink_api_MetricLink_r (a0 : (List MetricLink)) {r : (List MetricLink)} (h0 : slices_Clone_api_MetricLink_api_MetricLink a0 = some r) : SndR K 37 [(S_MetricLink a0)] (fun q => (.ref (q 0) 0 r.length 9)) [(List.flatMap e_MetricLink r)] := by
 cases a0 with
 | nil =>
  refine SndR.split_nil (fun cap => ?_) (fun a cap => ?_)
  ·
   unfold slices_Clone_api_MetricLink_api_MetricLink at h0
   obtain ⟨x1, bx1, h0⟩ := bnd h0
   obtain rfl := someInj h0
   refine SndR.of_walkW hC (show K.P.funcs[37]? = some Try.f37 from Try.func37) rfl rfl (by decide +kernel) (Nat.le_of_ble_eq_true rfl) ?_
   refine awp_nr [0] (fun _ => rfl) fun tz => ?_
   refine awp_regW fun KK hKK => ?_
   refine xw_id ?_
   try simp only [go_sem, Nat.reduceEqDiff, reduceIte, Nat.reduceAdd, Nat.reduceMul, Nat.reduceSub, Nat.reduceLT, Nat.reduceLeDiff, Option.isSome_some, if_true, eq_self]
   refine hKK _ _ (Wk.refl _ _ _) ?_; clear hKK KK
   refine awp_assoc ?_
   refine awp_nr [0] (fun _ => rfl) fun tz => ?_
   refine awp_regW fun KK hKK => ?_
   refine xw_id ?_
   try simp only [go_sem, Nat.reduceEqDiff, reduceIte, Nat.reduceAdd, Nat.reduceMul, Nat.reduceSub, Nat.reduceLT, Nat.reduceLeDiff, Option.isSome_some, if_true, eq_self]
   refine hKK _ _ (Wk.refl _ _ _) ?_; clear hKK KK
   refine awp_condT rfl ?_
   refine awp_assoc ?_
   refine awp_nr [] (fun _ => rfl) fun tz => ?_
   refine awp_regW fun KK hKK => ?_
   refine xw_id ?_
   try simp only [go_sem, Nat.reduceEqDiff, reduceIte, Nat.reduceAdd, Nat.reduceMul, Nat.reduceSub, Nat.reduceLT, Nat.reduceLeDiff, Option.isSome_some, if_true, eq_self]
   refine hKK _ _ (Wk.refl _ _ _) ?_; clear hKK KK
   refine awp_ret ?_
   refine endW_i ?_
   refine end_ret0 rs37 (rfl) ?_
   exact Res.mk [] [none] rfl (resON resO0) (Tm.thaw _ _ _)
  ·
   revert h0; intro h0
   refine SndR.of_walkW hC (show K.P.funcs[37]? = some Try.f37 from Try.func37) rfl rfl (by decide +kernel) (Nat.le_of_ble_eq_true rfl) ?_
   unfold slices_Clone_api_MetricLink_api_MetricLink at h0
   refine awp_nr [0] (fun _ => rfl) fun tz => ?_
   refine awp_regW fun KK hKK => ?_
   refine xw_id ?_
   try simp only [go_sem, Nat.reduceEqDiff, reduceIte, Nat.reduceAdd, Nat.reduceMul, Nat.reduceSub, Nat.reduceLT, Nat.reduceLeDiff, Option.isSome_some, if_true, eq_self]
   refine hKK _ _ (Wk.refl _ _ _) ?_; clear hKK KK
   refine awp_assoc ?_
   refine awp_nr [0] (fun _ => rfl) fun tz => ?_
   refine awp_regW fun KK hKK => ?_
   refine xw_id ?_
   try simp only [go_sem, Nat.reduceEqDiff, reduceIte, Nat.reduceAdd, Nat.reduceMul, Nat.reduceSub, Nat.reduceLT, Nat.reduceLeDiff, Option.isSome_some, if_true, eq_self]
   refine hKK _ _ (Wk.refl _ _ _) ?_; clear hKK KK
   refine awp_condF rfl ?_
   refine awp_skip ?_
   refine awp_nr [0] (fun _ => rfl) fun tz => ?_
   refine awp_regW fun KK hKK => ?_
   refine xw_id ?_
   obtain ⟨x11, bx11, h0⟩ := bnd h0
   have bx11 := chk_some bx11
   simp only [Bool.and_eq_true, decide_eq_true_eq] at bx11
   have gx11_0 := bx11
   try simp only [go_sem, Nat.reduceEqDiff, reduceIte, Nat.reduceAdd, Nat.reduceMul, Nat.reduceSub, Nat.reduceLT, Nat.reduceLeDiff, Int.reduceToNat, Int.reduceBEq, Int.reduceBNe, Int.reduceLT, Int.reduceLE, Int.reduceAdd, Int.reduceSub, Int.reduceMul, Int.reduceNeg, Int.reduceEq, Int.reduceNe, Option.isSome_some, if_true, eq_self, gx11_0]
   refine hKK _ _ (Wk.refl _ _ _) ?_; clear hKK KK
   refine awp_ret1 ?_
   obtain rfl := someInj h0
   refine endW_i ?_
   refine end_ret0 rs37 (rfl) ?_
   refine Res.mk [] [some 5] rfl (resOU List.not_mem_nil (by simp only [upd_get, Nat.reduceEqDiff, reduceIte, Nat.reduceAdd, Nat.reduceMul, Nat.reduceSub, Nat.reduceLT, Nat.reduceLeDiff, if_true, if_false] <;> rfl) (TmL.of_eq (by first | rfl | (simp only [List.flatMap_append, List.flatMap_cons, List.flatMap_nil, List.map_append, List.map_cons, List.map_nil, List.append_nil, List.nil_append]; done) | (simp only [List.flatMap_append, List.flatMap_cons, List.flatMap_nil, List.map_append, List.map_cons, List.map_nil, List.append_nil, List.nil_append]; rfl)) (c_MetricLink _)) resO0) (Tm.refL rfl ?_)
   all_goals (first | rfl | (simp only [List.length_take]; omega) | (simp only [List.length_append, List.length_cons, List.length_nil, List.length_modify, List.length_set, Nat.zero_add]; done) | (simp only [List.length_append, List.length_take, List.length_drop, List.length_cons, List.length_nil, List.length_modify, List.length_set, Nat.zero_add]; omega))
 | cons x l =>
  generalize ha : x :: l = a0 at *
  have nb : nilB (.imm (List.flatMap e_MetricLink a0) a0.length) = some false := by subst ha; rfl
  refine SndR.of_walkW hC (show K.P.funcs[37]? = some Try.f37 from Try.func37) rfl rfl (by decide +kernel) (Nat.le_of_ble_eq_true rfl) ?_
  unfold slices_Clone_api_MetricLink_api_MetricLink at h0
  refine awp_nr [0] (fun _ => rfl) fun tz => ?_
  refine awp_regW fun KK hKK => ?_
  refine xw_id ?_
  try simp only [go_sem, Nat.reduceEqDiff, reduceIte, Nat.reduceAdd, Nat.reduceMul, Nat.reduceSub, Nat.reduceLT, Nat.reduceLeDiff, ↓nb, Option.isSome_some, if_true, eq_self]
  refine hKK _ _ (Wk.refl _ _ _) ?_; clear hKK KK
  refine awp_assoc ?_
  refine awp_nr [0] (fun _ => rfl) fun tz => ?_
  refine awp_regW fun KK hKK => ?_
  refine xw_id ?_
  try simp only [go_sem, Nat.reduceEqDiff, reduceIte, Nat.reduceAdd, Nat.reduceMul, Nat.reduceSub, Nat.reduceLT, Nat.reduceLeDiff, ↓nb, Option.isSome_some, if_true, eq_self]
  refine hKK _ _ (Wk.refl _ _ _) ?_; clear hKK KK
  refine awp_condF rfl ?_
  refine awp_skip ?_
  refine awp_nr [0] (fun _ => rfl) fun tz => ?_
  refine awp_regW fun KK hKK => ?_
  refine xw_id ?_
  obtain ⟨x11, bx11, h0⟩ := bnd h0
  have bx11 := chk_some bx11
  simp only [Bool.and_eq_true, decide_eq_true_eq] at bx11
  have gx11_0 := bx11
  try simp only [go_sem, Nat.reduceEqDiff, reduceIte, Nat.reduceAdd, Nat.reduceMul, Nat.reduceSub, Nat.reduceLT, Nat.reduceLeDiff, Int.reduceToNat, Int.reduceBEq, Int.reduceBNe, Int.reduceLT, Int.reduceLE, Int.reduceAdd, Int.reduceSub, Int.reduceMul, Int.reduceNeg, Int.reduceEq, Int.reduceNe, ↓nb, Option.isSome_some, if_true, eq_self, gx11_0]
  refine hKK _ _ (Wk.refl _ _ _) ?_; clear hKK KK
  refine awp_ret1 ?_
  obtain rfl := someInj h0
  refine endW_i ?_
  refine end_ret0 rs37 (rfl) ?_
  refine Res.mk [] [some 5] rfl (resOU List.not_mem_nil (by simp only [upd_get, Nat.reduceEqDiff, reduceIte, Nat.reduceAdd, Nat.reduceMul, Nat.reduceSub, Nat.reduceLT, Nat.reduceLeDiff, if_true, if_false] <;> rfl) (TmL.of_eq (by first | rfl | (simp only [List.flatMap_append, List.flatMap_cons, List.flatMap_nil, List.map_append, List.map_cons, List.map_nil, List.append_nil, List.nil_append]; done) | (simp only [List.flatMap_append, List.flatMap_cons, List.flatMap_nil, List.map_append, List.map_cons, List.map_nil, List.append_nil, List.nil_append]; rfl)) (c_MetricLink _)) resO0) (Tm.refL rfl ?_)
  all_goals (first | rfl | (simp only [List.length_take]; omega) | (simp only [List.length_append, List.length_cons, List.length_nil, List.length_modify, List.length_set, Nat.zero_add]; done) | (simp only [List.length_append, List.length_take, List.length_drop, List.length_cons, List.length_nil, List.length_modify, List.length_set, Nat.zero_add]; omega))

theorem slices_Clone_api_MetricLink_api_MetricLink_m (a0 : (List MetricLink)) {r : (List MetricLink)} (h0 : slices_Clone_api_MetricLink_api_MetricLink a0 = some r) : SndM K 37 [(S_MetricLink a0)] (fun q => (.ref (q 0) 0 r.length 9)) [(List.flatMap e_MetricLink r)] :=
 fun hs => Snd.of_newM (RenM.ref 0 0 _ _) (rows_all_cons (c_MetricLink _) rows_all_nil) (clean_cons (S_MetricLink_clean _) clean_nil) (slices_Clone_api_MetricLink_api_MetricLink_r a0 h0) hs

theorem slices_Clone_api_MetricLink_api_MetricLink_e (a0 : (List MetricLink)) {r : (List MetricLink)} (h0 : slices_Clone_api_MetricLink_api_MetricLink a0 = some r) (fr : Nat) (hs : HS) : SndE K 37 [(S_MetricLink a0)] hs fr ⟨(fun q : Nat → Nat => (.ref (q 0) 0 r.length 9)) fun _ => fr, .new (List.flatMap e_MetricLink r)⟩ :=
 SndE.of_res (RenM.ref 0 0 _ _) (c_MetricLink _) (clean_cons (S_MetricLink_clean _) clean_nil) (fun a b h => by simp only [h]) (slices_Clone_api_MetricLink_api_MetricLink_r a0 h0) hs fr

theorem slices_Clone_api_MetricLink_api_MetricLink_p (a0 : (List MetricLink)) {r : (List MetricLink)} (h0 : slices_Clone_api_MetricLink_api_MetricLink a0 = some r) : SndP K 37 [(S_MetricLink a0)] (S_MetricLink r) :=
 SndM.pure (slices_Clone_api_MetricLink_api_MetricLink_m a0 h0) (S_MetricLink_clean _) (clean_cons (S_MetricLink_clean _) clean_nil) (by simp only [go_sem, newL_n, newL_c, upd_get, fz, nilS, cond_true, cond_false, List.drop_zero, List.take_length, List.length_map, ble_self, Nat.reduceEqDiff, reduceIte, Nat.reduceAdd, Nat.reduceMul, Nat.reduceSub, Nat.reduceLT, Nat.reduceLeDiff] <;> rfl)

end Go.AX.Z.TM

/-! (TMW slices Insert api MetricLink api MetricLink) -/

set_option linter.unusedSimpArgs false
set_option linter.unusedVariables false
set_option maxHeartbeats 4000000
namespace Go.AX.Z.TM
open Go.AX Go.Proofs
attribute [local irreducible] awp xw xop xcall gsp ob xd xdop xcallD seqQ loopQ blkQ endQ


theorem slices_Insert_api_MetricLink_api_MetricLink_0_io (a0 : Int) (a1 : List MetricLink) (a2 : List MetricLink) {r : (List MetricLink)} (h0 : slices_Insert_api_MetricLink_api_MetricLink_0 a0 a1 a2 = some r) : SndIO K 38 2 (fun q => [(.ref (q 0) 0 a1.length 9), (vi a0), (.ref (q 1) 0 a2.length 9)]) [(fun q => (List.flatMap e_MetricLink a1)), (fun q => (List.flatMap e_MetricLink a2))] (fun q => (.ref (q 2) 0 ((r).length) 9)) [none, (some (fun q => (List.flatMap e_MetricLink a2))), (some (fun q => (List.flatMap e_MetricLink r)))] := by
 refine SndIO.of_walkW hC (RenML.cons (RenM.ref 0 0 _ _) (RenML.cons (RenM.const (Clean.v _)) (RenML.cons (RenM.ref 1 0 _ _) RenML.nil))) (tpl_cons (RenML.const (c_MetricLink _)) (tpl_cons (RenML.const (c_MetricLink _)) tpl_nil)) (otpl_none (otpl_some (RenML.const (c_MetricLink _)) (otpl_some (RenML.const (c_MetricLink _)) otpl_nil))) (RenM.ref 2 0 _ _) rfl (Nat.le_of_ble_eq_true rfl) (show K.P.funcs[38]? = some Try.f38 from Try.func38) rfl rfl (by decide +kernel) (Nat.le_of_ble_eq_true rfl) ?_
 unfold slices_Insert_api_MetricLink_api_MetricLink_0 at h0
 refine awp_nr [0,1,2] (fun _ => rfl) fun tz => ?_
 refine awp_regW fun KK hKK => ?_
 refine xw_id ?_
 try simp only [go_sem, Nat.reduceEqDiff, reduceIte, Nat.reduceAdd, Nat.reduceMul, Nat.reduceSub, Nat.reduceLT, Nat.reduceLeDiff, Int.reduceToNat, Int.reduceBEq, Int.reduceBNe, Int.reduceLT, Int.reduceLE, Int.reduceAdd, Int.reduceSub, Int.reduceMul, Int.reduceNeg, Int.reduceEq, Int.reduceNe]
 refine hKK _ _ (Wk.refl _ _ _) ?_; clear hKK KK
 refine awp_nr [0,1,2] (fun _ => rfl) fun tz => ?_
 refine awp_regW fun KK hKK => ?_
 refine xw_id ?_
 obtain ⟨x13, bx13, h0⟩ := bnd h0
 have bx13 := chk_some bx13
 simp only [Bool.and_eq_true, decide_eq_true_eq] at bx13
 obtain ⟨gx13_0, gx13_1⟩ := bx13
 have g1 : (((a1.length : Nat) : Int) - a0).toNat = a1.length - (a0).toNat := by omega
 try simp only [go_sem, Nat.reduceEqDiff, reduceIte, Nat.reduceAdd, Nat.reduceMul, Nat.reduceSub, Nat.reduceLT, Nat.reduceLeDiff, gx13_0, gx13_1, g1]
 refine hKK _ _ (Wk.refl _ _ _) ?_; clear hKK KK
 refine awp_nr [0,1,2] (fun _ => rfl) fun tz => ?_
 refine awp_regW fun KK hKK => ?_
 refine xw_id ?_
 try simp only [go_sem, Nat.reduceEqDiff, reduceIte, Nat.reduceAdd, Nat.reduceMul, Nat.reduceSub, Nat.reduceLT, Nat.reduceLeDiff, Int.reduceToNat, Int.reduceBEq, Int.reduceBNe, Int.reduceLT, Int.reduceLE, Int.reduceAdd, Int.reduceSub, Int.reduceMul, Int.reduceNeg, Int.reduceEq, Int.reduceNe]
 refine hKK _ _ (Wk.refl _ _ _) ?_; clear hKK KK
 refine awp_assoc ?_
 refine awp_nr [0,1,2,7] (fun _ => rfl) fun tz => ?_
 refine awp_regW fun KK hKK => ?_
 refine xw_id ?_
 try simp only [go_sem, Nat.reduceEqDiff, reduceIte, Nat.reduceAdd, Nat.reduceMul, Nat.reduceSub, Nat.reduceLT, Nat.reduceLeDiff]
 refine hKK _ _ (Wk.refl _ _ _) ?_; clear hKK KK
 refine awp_cond (b := (((a2.length : Nat) : Int) == 0)) rfl (fun h2 => ?_) (fun h2 => ?_)
 ·
  have h0 := cT h0 h2
  refine awp_assoc ?_
  refine awp_nr [0] (fun _ => rfl) fun tz => ?_
  refine awp_regW fun KK hKK => ?_
  refine xw_id ?_
  try simp only [go_sem, Nat.reduceEqDiff, reduceIte, Nat.reduceAdd, Nat.reduceMul, Nat.reduceSub, Nat.reduceLT, Nat.reduceLeDiff]
  refine hKK _ _ (Wk.refl _ _ _) ?_; clear hKK KK
  refine awp_ret ?_
  obtain rfl := someInj h0
  refine endW_i ?_
  refine end_ret0 rs38 (rfl) ?_
  refine ResIO.mk [] [some 0, some 1, some 0] rfl (resED (resEU List.not_mem_nil (by simp only [upd_get, Nat.reduceEqDiff, reduceIte, Nat.reduceAdd, Nat.reduceMul, Nat.reduceSub, Nat.reduceLT, Nat.reduceLeDiff, if_true, if_false] <;> rfl) (TmL.of_eq (by first | rfl | (simp only [List.flatMap_append, List.flatMap_cons, List.flatMap_nil, List.map_append, List.map_cons, List.map_nil, List.append_nil, List.nil_append]; done) | (simp only [List.flatMap_append, List.flatMap_cons, List.flatMap_nil, List.map_append, List.map_cons, List.map_nil, List.append_nil, List.nil_append]; rfl)) (c_MetricLink _)) (resEU List.not_mem_nil (by simp only [upd_get, Nat.reduceEqDiff, reduceIte, Nat.reduceAdd, Nat.reduceMul, Nat.reduceSub, Nat.reduceLT, Nat.reduceLeDiff, if_true, if_false] <;> rfl) (TmL.of_eq (by first | rfl | (simp only [List.flatMap_append, List.flatMap_cons, List.flatMap_nil, List.map_append, List.map_cons, List.map_nil, List.append_nil, List.nil_append]; done) | (simp only [List.flatMap_append, List.flatMap_cons, List.flatMap_nil, List.map_append, List.map_cons, List.map_nil, List.append_nil, List.nil_append]; rfl)) (c_MetricLink _)) resE0))) (Tm.refL rfl ?_)
  all_goals (first | rfl | (simp only [List.length_take]; omega) | (simp only [List.length_append, List.length_cons, List.length_nil, List.length_modify, List.length_set, Nat.zero_add]; done) | (simp only [List.length_append, List.length_take, List.length_drop, List.length_cons, List.length_nil, List.length_modify, List.length_set, Nat.zero_add]; omega))
 ·
  have h0 := cF h0 h2
  refine awp_skip ?_
  refine awp_nr [0,1,2,7] (fun _ => rfl) fun tz => ?_
  refine awp_regW fun KK hKK => ?_
  refine xw_id ?_
  try simp only [go_sem, Nat.reduceEqDiff, reduceIte, Nat.reduceAdd, Nat.reduceMul, Nat.reduceSub, Nat.reduceLT, Nat.reduceLeDiff, Int.reduceToNat, Int.reduceBEq, Int.reduceBNe, Int.reduceLT, Int.reduceLE, Int.reduceAdd, Int.reduceSub, Int.reduceMul, Int.reduceNeg, Int.reduceEq, Int.reduceNe]
  refine hKK _ _ (Wk.refl _ _ _) ?_; clear hKK KK
  refine awp_assoc ?_
  refine awp_nr [0,1,2,7,8] (fun _ => rfl) fun tz => ?_
  refine awp_regW fun KK hKK => ?_
  refine xw_id ?_
  try simp only [go_sem, Nat.reduceEqDiff, reduceIte, Nat.reduceAdd, Nat.reduceMul, Nat.reduceSub, Nat.reduceLT, Nat.reduceLeDiff]
  refine hKK _ _ (Wk.refl _ _ _) ?_; clear hKK KK
  refine awp_cond (b := (a0 == ((a1.length : Nat) : Int))) rfl (fun h3 => ?_) (fun h3 => ?_)
  ·
   have h0 := cT h0 h3
   refine awp_assoc ?_
   refine awp_nr [0,2] (fun _ => rfl) fun tz => ?_
   refine awp_regW fun KK hKK => ?_
   refine xw_id ?_
   obtain ⟨x14, bx14, h0⟩ := bnd h0
   have bx14 := chk_some bx14
   simp only [Bool.and_eq_true, decide_eq_true_eq] at bx14
   have gx14_0 := bx14
   try simp only [go_sem, Nat.reduceEqDiff, reduceIte, Nat.reduceAdd, Nat.reduceMul, Nat.reduceSub, Nat.reduceLT, Nat.reduceLeDiff, Int.reduceToNat, Int.reduceBEq, Int.reduceBNe, Int.reduceLT, Int.reduceLE, Int.reduceAdd, Int.reduceSub, Int.reduceMul, Int.reduceNeg, Int.reduceEq, Int.reduceNe, gx14_0]
   refine hKK _ _ (Wk.refl _ _ _) ?_; clear hKK KK
   refine awp_ret ?_
   obtain rfl := someInj h0
   refine endW_i ?_
   refine end_ret0 rs38 (rfl) ?_
   refine ResIO.mk [] [some 0, some 1, some 19] rfl (resED (resEU List.not_mem_nil (by simp only [upd_get, Nat.reduceEqDiff, reduceIte, Nat.reduceAdd, Nat.reduceMul, Nat.reduceSub, Nat.reduceLT, Nat.reduceLeDiff, if_true, if_false] <;> rfl) (TmL.of_eq (by first | rfl | (simp only [List.flatMap_append, List.flatMap_cons, List.flatMap_nil, List.map_append, List.map_cons, List.map_nil, List.append_nil, List.nil_append]; done) | (simp only [List.flatMap_append, List.flatMap_cons, List.flatMap_nil, List.map_append, List.map_cons, List.map_nil, List.append_nil, List.nil_append]; rfl)) (c_MetricLink _)) (resEU List.not_mem_nil (by simp only [upd_get, Nat.reduceEqDiff, reduceIte, Nat.reduceAdd, Nat.reduceMul, Nat.reduceSub, Nat.reduceLT, Nat.reduceLeDiff, if_true, if_false] <;> rfl) (TmL.of_eq (by first | rfl | (simp only [List.flatMap_append, List.flatMap_cons, List.flatMap_nil, List.map_append, List.map_cons, List.map_nil, List.append_nil, List.nil_append]; done) | (simp only [List.flatMap_append, List.flatMap_cons, List.flatMap_nil, List.map_append, List.map_cons, List.map_nil, List.append_nil, List.nil_append]; rfl)) (c_MetricLink _)) resE0))) (Tm.refL rfl ?_)
   all_goals (first | rfl | (simp only [List.length_take]; omega) | (simp only [List.length_append, List.length_cons, List.length_nil, List.length_modify, List.length_set, Nat.zero_add]; done) | (simp only [List.length_append, List.length_take, List.length_drop, List.length_cons, List.length_nil, List.length_modify, List.length_set, Nat.zero_add]; omega))
  ·
   have h0 := cF h0 h3
   refine awp_skip ?_
   refine awp_assoc ?_
   refine awp_nr [0,1,2,7,8] (fun _ => rfl) fun tz => ?_
   refine awp_regW fun KK hKK => ?_
   refine xw_id ?_
   cases h0

theorem slices_Insert_api_MetricLink_api_MetricLink_io (a0 : Int) (a1 : List MetricLink) (a2 : List MetricLink) {r : (List MetricLink)} (h0 : slices_Insert_api_MetricLink_api_MetricLink a0 a1 a2 = some r) : SndIO K 38 2 (fun q => [(.ref (q 0) 0 a1.length 9), (vi a0), (.ref (q 1) 0 a2.length 9)]) [(fun q => (List.flatMap e_MetricLink a1)), (fun q => (List.flatMap e_MetricLink a2))] (fun q => (.ref (q 2) 0 ((r).length) 9)) [none, (some (fun q => (List.flatMap e_MetricLink a2))), (some (fun q => (List.flatMap e_MetricLink r)))] := by
 unfold slices_Insert_api_MetricLink_api_MetricLink at h0
 obtain ⟨x13, bx13, h0⟩ := bnd h0
 have bx13' := bx13
 have bx13 := chk_some bx13
 simp only [Bool.and_eq_true, decide_eq_true_eq] at bx13
 obtain ⟨gx13_0, gx13_1⟩ := bx13
 have bx13' := bx13'
 obtain ⟨i, rfl⟩ : ∃ i : Nat, a0 = (i : Int) := ⟨a0.toNat, by omega⟩
 rcases Bool.eq_false_or_eq_true (((a2.length : Nat) : Int) == 0) with h2 | h2
 ·
  exact slices_Insert_api_MetricLink_api_MetricLink_0_io _ _ _ (by unfold slices_Insert_api_MetricLink_api_MetricLink_0; simp only [bx13', Option.bind_some, h2, cond_true]; exact cT h0 h2)
 have h0 := cF h0 h2
 rcases Bool.eq_false_or_eq_true (((i : Nat) : Int) == ((a1.length : Nat) : Int)) with h3 | h3
 ·
  exact slices_Insert_api_MetricLink_api_MetricLink_0_io _ _ _ (by unfold slices_Insert_api_MetricLink_api_MetricLink_0; simp only [bx13', Option.bind_some, h2, cond_false, h3, cond_true]; exact cT h0 h3)
 have h0 := cF h0 h3
 obtain ⟨x15, bx15, h0⟩ := bnd h0
 have bx15 := chk_some bx15
 simp only [Bool.and_eq_true, decide_eq_true_eq] at bx15
 obtain ⟨hm, hb⟩ := bx15
 obtain rfl := someInj h0
 have hne : (i : Int) ≠ (a1.length : Int) := by simpa using h3
 have hlt : i < a1.length := by omega
 simp only [Int.toNat_natCast]
 refine SndIO.of_walkC hC (RenML.cons (RenM.ref 0 0 _ _) (RenML.cons (RenM.const (Clean.v _)) (RenML.cons (RenM.ref 1 0 _ _) RenML.nil))) (tpl_cons (RenML.const (c_MetricLink _)) (tpl_cons (RenML.const (c_MetricLink _)) tpl_nil)) (otpl_none (otpl_some (RenML.const (c_MetricLink _)) (otpl_some (RenML.const (c_MetricLink _)) otpl_nil))) (RenM.ref 2 0 _ _) rfl (Nat.le_of_ble_eq_true rfl) (show K.P.funcs[38]? = some Try.f38 from Try.func38) rfl rfl (by decide +kernel) (Nat.le_of_ble_eq_true rfl) rfl (by omega) fun cap hcap => ?_
 have g0 : (0 ≤ (i : Int)) = True := eq_true (by omega)
 have g1 : ((i : Int) ≤ (a1.length : Int)) = True := eq_true (by omega)
 have g2 : ((a1.length : Int) ≤ (cap : Int)) = True := eq_true (by omega)
 have g3 : ((i : Int) < (cap : Int)) = True := eq_true (by omega)
 have hw1 : IntKind.wrap .i64 ((a1.length : Int) + 1) = (a1.length : Int) + 1 := by rw [IntKind.wrap_i64]; omega
 have hw2 : IntKind.wrap .i64 ((a1.length : Int) + 1 - (i : Int)) = (a1.length : Int) + 1 - (i : Int) := by rw [IntKind.wrap_i64]; omega
 have hLr : ∀ l : List MetricLink, (List.flatMap e_MetricLink l).length = l.length * 9 := fun l => r_MetricLink_len l
 repeat refine awp_assoc ?_
 refine awp_nr [0,1,2] (fun _ => rfl) fun tz => ?_
 refine awp_regW fun KK hKK => ?_
 refine xw_id ?_
 try simp only [go_sem, Nat.reduceEqDiff, reduceIte, Nat.reduceMul, Nat.reduceSub, Nat.reduceLT, Nat.reduceLeDiff, Int.reduceToNat, Int.reduceBEq, Int.reduceBNe, Int.reduceLT, Int.reduceLE, Int.reduceAdd, Int.reduceSub, Int.reduceMul, Int.reduceNeg, Int.reduceEq, Int.reduceNe, Nat.reduceAdd, g0, g1, g2, g3, hm, hLr, Int.sub_zero, Int.toNat_natCast, Nat.sub_zero]
 refine hKK _ _ (Wk.refl _ _ _) ?_; clear hKK KK
 repeat refine awp_assoc ?_
 refine awp_nr [0,1,2] (fun _ => rfl) fun tz => ?_
 refine awp_regW fun KK hKK => ?_
 refine xw_id ?_
 try simp only [go_sem, Nat.reduceEqDiff, reduceIte, Nat.reduceMul, Nat.reduceSub, Nat.reduceLT, Nat.reduceLeDiff, Int.reduceToNat, Int.reduceBEq, Int.reduceBNe, Int.reduceLT, Int.reduceLE, Int.reduceAdd, Int.reduceSub, Int.reduceMul, Int.reduceNeg, Int.reduceEq, Int.reduceNe, Nat.reduceAdd, g0, g1, g2, g3, hm, hLr, Int.sub_zero, Int.toNat_natCast, Nat.sub_zero]
 refine hKK _ _ (Wk.refl _ _ _) ?_; clear hKK KK
 repeat refine awp_assoc ?_
 refine awp_nr [0,1,2] (fun _ => rfl) fun tz => ?_
 refine awp_regW fun KK hKK => ?_
 refine xw_id ?_
 try simp only [go_sem, Nat.reduceEqDiff, reduceIte, Nat.reduceMul, Nat.reduceSub, Nat.reduceLT, Nat.reduceLeDiff, Int.reduceToNat, Int.reduceBEq, Int.reduceBNe, Int.reduceLT, Int.reduceLE, Int.reduceAdd, Int.reduceSub, Int.reduceMul, Int.reduceNeg, Int.reduceEq, Int.reduceNe, Nat.reduceAdd, g0, g1, g2, g3, hm, hLr, Int.sub_zero, Int.toNat_natCast, Nat.sub_zero]
 refine hKK _ _ (Wk.refl _ _ _) ?_; clear hKK KK
 refine awp_assoc ?_
 repeat refine awp_assoc ?_
 refine awp_nr [0,1,2,7] (fun _ => rfl) fun tz => ?_
 refine awp_regW fun KK hKK => ?_
 refine xw_id ?_
 try simp only [go_sem, Nat.reduceEqDiff, reduceIte, Nat.reduceMul, Nat.reduceSub, Nat.reduceLT, Nat.reduceLeDiff, Int.reduceToNat, Int.reduceBEq, Int.reduceBNe, Int.reduceLT, Int.reduceLE, Int.reduceAdd, Int.reduceSub, Int.reduceMul, Int.reduceNeg, Int.reduceEq, Int.reduceNe, Nat.reduceAdd, g0, g1, g2, g3, hm, hLr, Int.sub_zero, Int.toNat_natCast, Nat.sub_zero]
 refine hKK _ _ (Wk.refl _ _ _) ?_; clear hKK KK
 refine awp_cond (b := false) rfl (fun h => by cases h) (fun _ => ?_)
 refine awp_skip ?_
 repeat refine awp_assoc ?_
 refine awp_nr [0,1,2,7] (fun _ => rfl) fun tz => ?_
 refine awp_regW fun KK hKK => ?_
 refine xw_id ?_
 try simp only [go_sem, Nat.reduceEqDiff, reduceIte, Nat.reduceMul, Nat.reduceSub, Nat.reduceLT, Nat.reduceLeDiff, Int.reduceToNat, Int.reduceBEq, Int.reduceBNe, Int.reduceLT, Int.reduceLE, Int.reduceAdd, Int.reduceSub, Int.reduceMul, Int.reduceNeg, Int.reduceEq, Int.reduceNe, Nat.reduceAdd, g0, g1, g2, g3, hm, hLr, Int.sub_zero, Int.toNat_natCast, Nat.sub_zero]
 refine hKK _ _ (Wk.refl _ _ _) ?_; clear hKK KK
 refine awp_assoc ?_
 repeat refine awp_assoc ?_
 refine awp_nr [0,1,2,7,8] (fun _ => rfl) fun tz => ?_
 refine awp_regW fun KK hKK => ?_
 refine xw_id ?_
 try simp only [go_sem, Nat.reduceEqDiff, reduceIte, Nat.reduceMul, Nat.reduceSub, Nat.reduceLT, Nat.reduceLeDiff, Int.reduceToNat, Int.reduceBEq, Int.reduceBNe, Int.reduceLT, Int.reduceLE, Int.reduceAdd, Int.reduceSub, Int.reduceMul, Int.reduceNeg, Int.reduceEq, Int.reduceNe, Nat.reduceAdd, g0, g1, g2, g3, hm, hLr, Int.sub_zero, Int.toNat_natCast, Nat.sub_zero]
 refine hKK _ _ (Wk.refl _ _ _) ?_; clear hKK KK
 refine awp_cond (b := (((i : Nat) : Int) == ((a1.length : Nat) : Int))) rfl (fun h => absurd h (by simp only [beq_iff_eq]; omega)) (fun _ => ?_)
 refine awp_skip ?_
 refine awp_assoc ?_
 repeat refine awp_assoc ?_
 refine awp_nr [0,1,2,7,8] (fun _ => rfl) fun tz => ?_
 refine awp_regW fun KK hKK => ?_
 refine xw_id ?_
 try simp only [go_sem, Nat.reduceEqDiff, reduceIte, Nat.reduceMul, Nat.reduceSub, Nat.reduceLT, Nat.reduceLeDiff, Int.reduceToNat, Int.reduceBEq, Int.reduceBNe, Int.reduceLT, Int.reduceLE, Int.reduceAdd, Int.reduceSub, Int.reduceMul, Int.reduceNeg, Int.reduceEq, Int.reduceNe, Nat.reduceAdd, g0, g1, g2, g3, hm, hLr, Int.sub_zero, Int.toNat_natCast, Nat.sub_zero, hw1]
 refine hKK _ _ (Wk.refl _ _ _) ?_; clear hKK KK
 refine awp_cond (b := decide ((cap : Int) < (a1.length : Int) + 1)) rfl (fun h3 => ?_) (fun h3 => ?_)
 ·
  have h3 := of_decide_eq_true h3
  refine awp_assoc ?_
  have elI : elS K.P 3 = none := by kernel_rfl
  have e1 : ((i : Int) + ((a1.length : Int) + 1 - (i : Int))) = (a1.length : Int) + 1 := by omega
  have e2 : ((a1.length : Int) + 1 - (i : Int)).toNat = a1.length + 1 - i := by omega
  have e3 : (i + (a1.length + 1 - i)) = a1.length + 1 := by omega
  have e4 : (0 < (a1.length : Int) + 1 - (i : Int)) = True := eq_true (by omega)
  have e5 : ((a1.length : Int) + 1 - (i : Int) < 9223372036854775808) = True := eq_true (by omega)
  have e6 : ((cap : Int) < (a1.length : Int) + 1) = True := eq_true h3
  have e7 : (((a1.length : Int) + 1) * 32 ≤ 140737488355328) = True := eq_true (by omega)
  have e8 : (i * 9 ≤ a1.length * 9) = True := eq_true (by omega)
  have e9 : ((i : Int) ≤ (cap : Int)) = True := eq_true (by omega)
  have e10 : ((0 : Int) < (cap : Int)) = True := eq_true (by omega)
  obtain ⟨c0, hc0⟩ : ∃ c, c = (List.flatMap e_MetricLink (List.take i a1)) ++ rep (a1.length + 1 - i) (e_MetricLink MetricLink.z) := ⟨_, rfl⟩
  have hl0 : c0.length = (a1.length + 1) * 9 := by rw [hc0, List.length_append, hLr, List.length_take, rep_length]; rw [e_MetricLink_len]; omega
  repeat refine awp_assoc ?_
  refine awp_nr [0,1,2,7,8] (fun _ => rfl) fun tz => ?_
  refine awp_regW fun KK hKK => ?_
  refine xw_id ?_
  try simp only [go_sem, Nat.reduceEqDiff, reduceIte, Nat.reduceMul, Nat.reduceSub, Nat.reduceLT, Nat.reduceLeDiff, Int.reduceToNat, Int.reduceBEq, Int.reduceBNe, Int.reduceLT, Int.reduceLE, Int.reduceAdd, Int.reduceSub, Int.reduceMul, Int.reduceNeg, Int.reduceEq, Int.reduceNe, Nat.reduceAdd, g0, g1, g2, g3, hm, hLr, Int.sub_zero, Int.toNat_natCast, Nat.sub_zero, hw1, hw2, e1, e2, e3, e4, e5, e6, e7, e8, e9, e10, elI, ← hc0]
  refine hKK _ _ (Wk.refl _ _ _) ?_; clear hKK KK
  have f1 : ((i : Int) ≤ ((a1.length + 1 : Nat) : Int)) = True := eq_true (by omega)
  have f2 : (((a1.length + 1 : Nat) : Int) - (i : Int)).toNat = a1.length + 1 - i := by omega
  have s2 : sub? (List.flatMap e_MetricLink a2) 0 9 = some (List.flatMap e_MetricLink a2) := by unfold sub?; rw [if_pos (by rw [hLr, hm]; omega), List.drop_zero, List.take_of_length_le (by rw [hLr, hm]; omega)]
  have t2 : List.take 9 (List.flatMap e_MetricLink a2) = (List.flatMap e_MetricLink a2) := List.take_of_length_le (by rw [hLr, hm]; omega)
  have m1 : min 1 (a1.length + 1 - i) = 1 := by omega
  have q1 : (i * 9 + 9 ≤ c0.length) = True := eq_true (by rw [hl0]; omega)
  obtain ⟨c1, hc1⟩ : ∃ c, c = putAt c0 (i * 9) (List.flatMap e_MetricLink a2) := ⟨_, rfl⟩
  have hl1 : c1.length = (a1.length + 1) * 9 := by rw [hc1, putAt_length, hl0]
  repeat refine awp_assoc ?_
  refine awp_nr [0,1,2,7,8,9] (fun _ => rfl) fun tz => ?_
  refine awp_regW fun KK hKK => ?_
  refine xw_id ?_
  try simp only [go_sem, Nat.reduceEqDiff, reduceIte, Nat.reduceMul, Nat.reduceSub, Nat.reduceLT, Nat.reduceLeDiff, Int.reduceToNat, Int.reduceBEq, Int.reduceBNe, Int.reduceLT, Int.reduceLE, Int.reduceAdd, Int.reduceSub, Int.reduceMul, Int.reduceNeg, Int.reduceEq, Int.reduceNe, Nat.reduceAdd, g0, g1, g2, g3, hm, hLr, Int.sub_zero, Int.toNat_natCast, Nat.sub_zero, f1, f2, s2, t2, m1, q1, ← hc1]
  refine hKK _ _ (Wk.refl _ _ _) ?_; clear hKK KK
  have f3 : ((i : Int) + 1 ≤ ((a1.length + 1 : Nat) : Int)) = True := eq_true (by omega)
  have f4 : (((a1.length + 1 : Nat) : Int) - ((i : Int) + 1)).toNat = a1.length - i := by omega
  have f5 : ((i : Int) + 1).toNat = i + 1 := by omega
  have f6 : ((a1.length : Int) - (i : Int)).toNat = a1.length - i := by omega
  have f7 : (0 ≤ (i : Int) + 1) = True := eq_true (by omega)
  have hw3 : IntKind.wrap .i64 ((i : Int) + 1) = (i : Int) + 1 := by rw [IntKind.wrap_i64]; omega
  have s3 : sub? (List.flatMap e_MetricLink a1) (i * 9) ((a1.length - i) * 9) = some (List.flatMap e_MetricLink (List.drop i a1)) := rows_subD l_MetricLink a1 i (by omega)
  have t3 : List.take ((a1.length - i) * 9) (List.flatMap e_MetricLink (List.drop i a1)) = (List.flatMap e_MetricLink (List.drop i a1)) := List.take_of_length_le (by rw [hLr, List.length_drop]; exact Nat.le_refl _)
  have q2 : ((i + 1) * 9 + (a1.length - i) * 9 ≤ c1.length) = True := eq_true (by rw [hl1]; omega)
  have m2 : min (a1.length - i) (a1.length - i) = a1.length - i := Nat.min_self _
  have hfin : putAt c1 ((i + 1) * 9) (List.flatMap e_MetricLink (List.drop i a1)) = (List.flatMap e_MetricLink (List.take i a1 ++ a2 ++ List.drop i a1)) := by
   have := ins_grow (fun l => (List.flatMap e_MetricLink l)) 9 (fun l => r_MetricLink_len l) (fun x y => List.flatMap_append) a1 a2 i hm hlt (e_MetricLink MetricLink.z) (by rw [e_MetricLink_len])
   rw [hc1, hc0]; simpa using this
  repeat refine awp_assoc ?_
  refine awp_nr [0,1,2,7,8,9] (fun _ => rfl) fun tz => ?_
  refine awp_regDW fun KK hKK all hall => ?_
  refine xd_id ?_
  try simp only [go_sem, Nat.reduceEqDiff, reduceIte, Nat.reduceMul, Nat.reduceSub, Nat.reduceLT, Nat.reduceLeDiff, Int.reduceToNat, Int.reduceBEq, Int.reduceBNe, Int.reduceLT, Int.reduceLE, Int.reduceAdd, Int.reduceSub, Int.reduceMul, Int.reduceNeg, Int.reduceEq, Int.reduceNe, Nat.reduceAdd, g0, g1, g2, g3, hm, hLr, Int.sub_zero, Int.toNat_natCast, Nat.sub_zero, f3, f4, f5, f6, f7, hw3, s3, t3, q2, m2, hfin]
  refine And.intro ?_ (hKK _ _ (Wk.refl _ _ _) ?_)
  ·
   subst hall
   clear hKK KK
   first | (simp [printsOk, apartP, clash, meet]; done) | (simp [printsOk, apartP, clash, meet]; decide +kernel) | decide +kernel
  ·
   clear hKK KK hall all
   repeat refine awp_assoc ?_
   refine awp_nr [0,1,2,7,8,9] (fun _ => rfl) fun tz => ?_
   refine awp_regW fun KK hKK => ?_
   refine xw_id ?_
   try simp only [go_sem, Nat.reduceEqDiff, reduceIte, Nat.reduceMul, Nat.reduceSub, Nat.reduceLT, Nat.reduceLeDiff, Int.reduceToNat, Int.reduceBEq, Int.reduceBNe, Int.reduceLT, Int.reduceLE, Int.reduceAdd, Int.reduceSub, Int.reduceMul, Int.reduceNeg, Int.reduceEq, Int.reduceNe, Nat.reduceAdd, g0, g1, g2, g3, hm, hLr, Int.sub_zero, Int.toNat_natCast, Nat.sub_zero]
   refine hKK _ _ (Wk.refl _ _ _) ?_; clear hKK KK
   repeat refine awp_assoc ?_
   refine awp_ret ?_
   refine endW_i ?_
   refine end_ret0 rs38 (rfl) ?_
   refine ResIO.mk [] [some 0, some 1, some 31] rfl (resED (resEU List.not_mem_nil (by simp only [upd_get, Nat.reduceEqDiff, reduceIte, Nat.reduceMul, Nat.reduceSub, Nat.reduceLT, Nat.reduceLeDiff, Int.reduceToNat, Int.reduceBEq, Int.reduceBNe, Int.reduceLT, Int.reduceLE, Int.reduceAdd, Int.reduceSub, Int.reduceMul, Int.reduceNeg, Int.reduceEq, Int.reduceNe, Nat.reduceAdd, if_true, if_false] <;> rfl) (TmL.of_eq rfl (c_MetricLink _)) (resEU List.not_mem_nil (by simp only [upd_get, Nat.reduceEqDiff, reduceIte, Nat.reduceMul, Nat.reduceSub, Nat.reduceLT, Nat.reduceLeDiff, Int.reduceToNat, Int.reduceBEq, Int.reduceBNe, Int.reduceLT, Int.reduceLE, Int.reduceAdd, Int.reduceSub, Int.reduceMul, Int.reduceNeg, Int.reduceEq, Int.reduceNe, Nat.reduceAdd, if_true, if_false] <;> rfl) (TmL.of_eq rfl (c_MetricLink _)) resE0))) (Tm.refL rfl ?_)
   all_goals (first | rfl | (simp only [List.length_append, List.length_take, List.length_drop, hm]; omega))
 ·
  have h3 := of_decide_eq_false h3
  refine awp_skip ?_
  have k0 : (0 ≤ (a1.length : Int) + 1) = True := eq_true (by omega)
  have k1 : ((a1.length : Int) + 1 ≤ (cap : Int)) = True := eq_true (by omega)
  have k2 : ((0 : Int) < (cap : Int)) = True := eq_true (by omega)
  have k3 : ((a1.length : Int) + 1).toNat = a1.length + 1 := by omega
  repeat refine awp_assoc ?_
  refine awp_nr [0,1,2,7,8] (fun _ => rfl) fun tz => ?_
  refine awp_regW fun KK hKK => ?_
  refine xw_id ?_
  try simp only [go_sem, Nat.reduceEqDiff, reduceIte, Nat.reduceMul, Nat.reduceSub, Nat.reduceLT, Nat.reduceLeDiff, Int.reduceToNat, Int.reduceBEq, Int.reduceBNe, Int.reduceLT, Int.reduceLE, Int.reduceAdd, Int.reduceSub, Int.reduceMul, Int.reduceNeg, Int.reduceEq, Int.reduceNe, Nat.reduceAdd, g0, g1, g2, g3, hm, hLr, Int.sub_zero, Int.toNat_natCast, Nat.sub_zero, hw1, k0, k1, k2, k3]
  refine hKK _ _ (Wk.refl _ _ _) ?_; clear hKK KK
  have f3 : ((i : Int) + 1 ≤ ((a1.length + 1 : Nat) : Int)) = True := eq_true (by omega)
  have f4 : (((a1.length + 1 : Nat) : Int) - ((i : Int) + 1)).toNat = a1.length - i := by omega
  have f5 : ((i : Int) + 1).toNat = i + 1 := by omega
  have f6 : (((a1.length + 1 : Nat) : Int) - (i : Int)).toNat = a1.length + 1 - i := by omega
  have f7 : (0 ≤ (i : Int) + 1) = True := eq_true (by omega)
  have f8 : ((i : Int) + 1 < (cap : Int)) = True := eq_true (by omega)
  have f9 : (((a1.length + 1 : Nat) : Int) ≤ (cap : Int)) = True := eq_true (by omega)
  have f1 : ((i : Int) ≤ ((a1.length + 1 : Nat) : Int)) = True := eq_true (by omega)
  have hw3 : IntKind.wrap .i64 ((i : Int) + 1) = (i : Int) + 1 := by rw [IntKind.wrap_i64]; omega
  repeat refine awp_assoc ?_
  refine awp_nr [0,1,2,7,8] (fun _ => rfl) fun tz => ?_
  refine awp_regW fun KK hKK => ?_
  refine xw_id ?_
  try simp only [go_sem, Nat.reduceEqDiff, reduceIte, Nat.reduceMul, Nat.reduceSub, Nat.reduceLT, Nat.reduceLeDiff, Int.reduceToNat, Int.reduceBEq, Int.reduceBNe, Int.reduceLT, Int.reduceLE, Int.reduceAdd, Int.reduceSub, Int.reduceMul, Int.reduceNeg, Int.reduceEq, Int.reduceNe, Nat.reduceAdd, g0, g1, g2, g3, hm, hLr, Int.sub_zero, Int.toNat_natCast, Nat.sub_zero, f3, f4, f5, f6, f7, f8, f9, hw3]
  refine xcall_g (overlaps_apart (tS := 31) (tR := 4) (show K.P.funcs[51]? = some Try.f51 from Try.func51) rfl rfl rfl (by kernel_rfl) (elS_eq el31) sz38 (by omega) (by simp only [upd_get, Nat.reduceEqDiff, reduceIte]; rfl) (by simp only [upd_get, Nat.reduceEqDiff, reduceIte]; rfl) (by decide) (by omega) (by omega)) ?_
  rintro r hs ⟨rfl, rfl⟩
  refine xw_id ?_
  try simp only [go_sem, Nat.reduceEqDiff, reduceIte, Nat.reduceMul, Nat.reduceSub, Nat.reduceLT, Nat.reduceLeDiff, Int.reduceToNat, Int.reduceBEq, Int.reduceBNe, Int.reduceLT, Int.reduceLE, Int.reduceAdd, Int.reduceSub, Int.reduceMul, Int.reduceNeg, Int.reduceEq, Int.reduceNe, Nat.reduceAdd, g0, g1, g2, g3, hm, hLr, Int.sub_zero, Int.toNat_natCast, Nat.sub_zero]
  refine hKK _ _ (Wk.refl _ _ _) ?_; clear hKK KK
  repeat refine awp_assoc ?_
  refine awp_cond (b := true) rfl (fun _ => ?_) (fun h => by cases h)
  obtain ⟨c1, hc1⟩ : ∃ c, c = (List.flatMap e_MetricLink (List.take (i + 1) a1 ++ List.drop i a1)) ++ List.drop ((i + 1) * 9 + (a1.length - i) * 9) (List.flatMap e_MetricLink a1) := ⟨_, rfl⟩
  obtain ⟨hl1, hfin⟩ := ins_room (fun l => (List.flatMap e_MetricLink l)) 9 (fun l => r_MetricLink_len l) (fun x y => List.flatMap_append) (fun x n => rows_take l_MetricLink x n) a1 a2 i hlt (c1 := c1) (by rw [hc1, List.flatMap_append, rows_take l_MetricLink])
  try simp only [Nat.mul_one] at hfin
  have s3 : sub? (List.flatMap e_MetricLink a1) (i * 9) ((a1.length - i) * 9) = some (List.flatMap e_MetricLink (List.drop i a1)) := rows_subD l_MetricLink a1 i (by omega)
  have m2 : min (a1.length + 1 - i) (a1.length - i) = a1.length - i := by omega
  have q2 : ((i + 1) * 9 ≤ a1.length * 9) = True := eq_true (by omega)
  have s9 : sub? (List.flatMap e_MetricLink a1) (i * 9) ((a1.length + 1 - i) * 9) = none := by unfold sub?; rw [if_neg]; rw [hLr]; omega
  repeat refine awp_assoc ?_
  refine awp_nr [0,1,2,7,8] (fun _ => rfl) fun tz => ?_
  refine awp_regDW fun KK hKK all hall => ?_
  refine xd_id ?_
  try simp only [go_sem, Nat.reduceEqDiff, reduceIte, Nat.reduceMul, Nat.reduceSub, Nat.reduceLT, Nat.reduceLeDiff, Int.reduceToNat, Int.reduceBEq, Int.reduceBNe, Int.reduceLT, Int.reduceLE, Int.reduceAdd, Int.reduceSub, Int.reduceMul, Int.reduceNeg, Int.reduceEq, Int.reduceNe, Nat.reduceAdd, g0, g1, g2, g3, hm, hLr, Int.sub_zero, Int.toNat_natCast, Nat.sub_zero, f1, f3, f4, f5, f6, f7, f8, f9, hw3, s3, s9, m2, q2, ← hc1]
  refine And.intro ?_ (hKK _ _ (Wk.refl _ _ _) ?_)
  ·
   subst hall
   clear hKK KK
   first | (simp [printsOk, apartP, clash, meet]; done) | (simp [printsOk, apartP, clash, meet]; decide +kernel) | decide +kernel
  ·
   clear hKK KK hall all
   have s2 : sub? (List.flatMap e_MetricLink a2) 0 9 = some (List.flatMap e_MetricLink a2) := by unfold sub?; rw [if_pos (by rw [hLr, hm]; omega), List.drop_zero, List.take_of_length_le (by rw [hLr, hm]; omega)]
   have t2 : List.take 9 (List.flatMap e_MetricLink a2) = (List.flatMap e_MetricLink a2) := List.take_of_length_le (by rw [hLr, hm]; omega)
   have m1 : min 1 (a1.length + 1 - i) = 1 := by omega
   have q1 : (i * 9 ≤ c1.length) = True := eq_true (by rw [hl1]; omega)
   repeat refine awp_assoc ?_
   refine awp_nr [0,1,2,7,8] (fun _ => rfl) fun tz => ?_
   refine awp_regW fun KK hKK => ?_
   refine xw_id ?_
   try simp only [go_sem, Nat.reduceEqDiff, reduceIte, Nat.reduceMul, Nat.reduceSub, Nat.reduceLT, Nat.reduceLeDiff, Int.reduceToNat, Int.reduceBEq, Int.reduceBNe, Int.reduceLT, Int.reduceLE, Int.reduceAdd, Int.reduceSub, Int.reduceMul, Int.reduceNeg, Int.reduceEq, Int.reduceNe, Nat.reduceAdd, g0, g1, g2, g3, hm, hLr, Int.sub_zero, Int.toNat_natCast, Nat.sub_zero, f1, f6, f7, f9, s2, t2, m1, q1, hfin]
   refine hKK _ _ (Wk.refl _ _ _) ?_; clear hKK KK
   repeat refine awp_assoc ?_
   refine awp_nr [0,1,2,7,8] (fun _ => rfl) fun tz => ?_
   refine awp_regW fun KK hKK => ?_
   refine xw_id ?_
   try simp only [go_sem, Nat.reduceEqDiff, reduceIte, Nat.reduceMul, Nat.reduceSub, Nat.reduceLT, Nat.reduceLeDiff, Int.reduceToNat, Int.reduceBEq, Int.reduceBNe, Int.reduceLT, Int.reduceLE, Int.reduceAdd, Int.reduceSub, Int.reduceMul, Int.reduceNeg, Int.reduceEq, Int.reduceNe, Nat.reduceAdd, g0, g1, g2, g3, hm, hLr, Int.sub_zero, Int.toNat_natCast, Nat.sub_zero]
   refine hKK _ _ (Wk.cap 6 (by simp only [upd_get, Nat.reduceEqDiff, reduceIte]; rfl)) ?_; clear hKK KK
   repeat refine awp_assoc ?_
   refine awp_ret ?_
   refine endW_i ?_
   refine end_ret0 rs38 (rfl) ?_
   refine ResIO.mk [] [some 0, some 1, some 0] rfl (resED (resEU List.not_mem_nil (by simp only [upd_get, Nat.reduceEqDiff, reduceIte, Nat.reduceMul, Nat.reduceSub, Nat.reduceLT, Nat.reduceLeDiff, Int.reduceToNat, Int.reduceBEq, Int.reduceBNe, Int.reduceLT, Int.reduceLE, Int.reduceAdd, Int.reduceSub, Int.reduceMul, Int.reduceNeg, Int.reduceEq, Int.reduceNe, Nat.reduceAdd, if_true, if_false] <;> rfl) (TmL.of_eq rfl (c_MetricLink _)) (resEU List.not_mem_nil (by simp only [upd_get, Nat.reduceEqDiff, reduceIte, Nat.reduceMul, Nat.reduceSub, Nat.reduceLT, Nat.reduceLeDiff, Int.reduceToNat, Int.reduceBEq, Int.reduceBNe, Int.reduceLT, Int.reduceLE, Int.reduceAdd, Int.reduceSub, Int.reduceMul, Int.reduceNeg, Int.reduceEq, Int.reduceNe, Nat.reduceAdd, if_true, if_false] <;> rfl) (TmL.of_eq rfl (c_MetricLink _)) resE0))) (Tm.refL rfl ?_)
   all_goals (first | rfl | (simp only [List.length_append, List.length_take, List.length_drop, hm]; omega))

end Go.AX.Z.TM

/-! (TMW metric Heard) -/

set_option linter.unusedSimpArgs false
set_option linter.unusedVariables false
set_option maxHeartbeats 4000000
namespace Go.AX.Z.TM
open Go.AX Go.Proofs
attribute [local irreducible] awp xw xop xcall gsp ob xd xdop xcallD seqQ loopQ blkQ endQ

def metric_Heard_S0 (a0 : MetricTable) (a1 : Addr) (a2 : Int) (a3 : Bool) (a4 : Int) (x5 : Int) : AS :=
 { objs := (upd (upd (upd (fun _ => .dead) 0 (.live (e_MetricTable a0 (.imm (List.flatMap e_MetricLink a0.Links) a0.Links.length)))) 1 (.live (e_Addr a1))) 2 (.live (e_MetricTable MetricTable.z vnil))), next := 3, tmps := (upd (upd (upd (upd (upd (upd (upd (fun _ => .unk) 2 (vi a2)) 3 (vb a3)) 4 (vi a4)) 5 (.ptr 0 0)) 6 (.ptr 1 0)) 10 (.ptr 2 0)) 12 (vi x5)) }

def metric_Heard_S1 (a0 : MetricTable) (x9 : (List MetricLink)) (a1 : Addr) (a2 : Int) (a3 : Bool) (a4 : Int) (x8 : (Int × Bool)) : AS :=
 { objs := (upd (upd (upd (upd (fun _ => .dead) 0 (.live (e_MetricTable a0 (.ref 1 0 x9.length 9)))) 1 (.live (List.flatMap e_MetricLink x9))) 2 (.live (e_Addr a1))) 3 (.live (e_MetricTable MetricTable.z vnil))), next := 4, tmps := (upd (upd (upd (upd (upd (upd (upd (upd (fun _ => .unk) 2 (vi a2)) 3 (vb a3)) 4 (vi a4)) 5 (.ptr 0 0)) 6 (.ptr 2 0)) 10 (.ptr 3 0)) 13 (vi x8.1)) 14 (vb x8.2)) }

theorem metric_Heard_r (a0 : MetricTable) (a1 : Addr) (a2 : Int) (a3 : Bool) (a4 : Int) {r : (MetricTable × Int)} (h0 : metric_Heard a0 a1 a2 a3 a4 = some r) : SndR K 19 [(.agg (E_MetricTable a0)), (.agg (e_Addr a1)), (vi a2), (vb a3), (vi a4)] (fun q => (.tup [(.agg (e_MetricTable r.1 (.ref (q 0) 0 r.1.Links.length 9))), (vi r.2)])) [(List.flatMap e_MetricLink r.1.Links)] := by
 refine SndR.of_walkW hC (show K.P.funcs[19]? = some Try.f19 from Try.func19) rfl rfl (by decide +kernel) (Nat.le_of_ble_eq_true rfl) ?_
 unfold metric_Heard at h0
 refine awp_nr [0,1,2,3,4] (fun _ => rfl) fun tz => ?_
 refine awp_regW fun KK hKK => ?_
 refine xw_id ?_
 try simp only [go_sem, Nat.reduceEqDiff, reduceIte, Nat.reduceAdd, Nat.reduceMul, Nat.reduceSub, Nat.reduceLT, Nat.reduceLeDiff]
 refine hKK _ _ (Wk.refl _ _ _) ?_; clear hKK KK
 refine awp_assoc ?_
 refine awp_nr [2,3,4,5,6,10] (fun _ => rfl) fun tz => ?_
 refine awp_regW fun KK hKK => ?_
 refine xw_id ?_
 obtain ⟨x5, bx5, h0⟩ := bnd h0
 try simp only [go_sem, Nat.reduceEqDiff, reduceIte, Nat.reduceAdd, Nat.reduceMul, Nat.reduceSub, Nat.reduceLT, Nat.reduceLeDiff]
 refine xcall_p (metric_checked_p a0 a4 bx5) ?_; try dsimp only
 try refine xw_id ?_
 try simp only [go_sem, Nat.reduceEqDiff, reduceIte, Nat.reduceAdd, Nat.reduceMul, Nat.reduceSub, Nat.reduceLT, Nat.reduceLeDiff]
 refine hKK _ (metric_Heard_S0 a0 a1 a2 a3 a4 x5) (Wk.canonD [] [] [some 0, some 1, some 2] rfl trivial rfl (tmOU 2 (tmOU 1 (tmOU 0 tmO0 rfl List.not_mem_nil (by simp only [upd_get, Nat.reduceEqDiff, reduceIte, Nat.reduceAdd, Nat.reduceMul, Nat.reduceSub, Nat.reduceLT, Nat.reduceLeDiff, if_true, if_false] <;> rfl) (e_MetricTable_tmx (by rfl) (Tm.clean (Clean.imm (c_MetricLink _))))) rfl List.not_mem_nil (by simp only [upd_get, Nat.reduceEqDiff, reduceIte, Nat.reduceAdd, Nat.reduceMul, Nat.reduceSub, Nat.reduceLT, Nat.reduceLeDiff, if_true, if_false] <;> rfl) (TmL.clean (e_Addr_clean _))) rfl List.not_mem_nil (by simp only [upd_get, Nat.reduceEqDiff, reduceIte, Nat.reduceAdd, Nat.reduceMul, Nat.reduceSub, Nat.reduceLT, Nat.reduceLeDiff, if_true, if_false] <;> rfl) (e_MetricTable_tmx (by rfl) (Tm.v _))) (tmAllU 12 (tmAllU 10 (tmAllU 6 (tmAllU 5 (tmAllU 4 (tmAllU 3 (tmAllU 2 tmAll0 (Tm.v _)) (Tm.v _)) (Tm.v _)) (Tm.ptr rfl)) (Tm.ptr rfl)) (Tm.ptr rfl)) (Tm.v _))) ?_; clear hKK KK
 unfold metric_Heard_S0
 refine awp_assoc ?_
 refine awp_nr [2,3,4,5,6,10,12] (fun _ => rfl) fun tz => ?_
 refine awp_regW fun KK hKK => ?_
 refine xw_id ?_
 try simp only [go_sem, Nat.reduceEqDiff, reduceIte, Nat.reduceAdd, Nat.reduceMul, Nat.reduceSub, Nat.reduceLT, Nat.reduceLeDiff]
 refine hKK _ _ (Wk.refl _ _ _) ?_; clear hKK KK
 refine awp_cond (b := (x5 != 0)) rfl (fun h1 => ?_) (fun h1 => ?_)
 ·
  have h0 := cT h0 h1
  refine awp_assoc ?_
  refine awp_nr [10,12] (fun _ => rfl) fun tz => ?_
  refine awp_regW fun KK hKK => ?_
  refine xw_id ?_
  try simp only [go_sem, Nat.reduceEqDiff, reduceIte, Nat.reduceAdd, Nat.reduceMul, Nat.reduceSub, Nat.reduceLT, Nat.reduceLeDiff]
  refine hKK _ _ (Wk.refl _ _ _) ?_; clear hKK KK
  refine awp_ret ?_
  obtain rfl := someInj h0
  refine endW_i ?_
  refine end_ret0 rs19 (by simp only [go_sem, resV, resAll, resOf, packR, Nat.reduceEqDiff, reduceIte, Nat.reduceAdd, Nat.reduceMul, Nat.reduceSub, Nat.reduceLT, Nat.reduceLeDiff]; rfl) ?_
  refine Res.mk [] [none] rfl (resON resO0) (Tm.tup (TmL.cons (Tm.agg (e_MetricTable_tmx (by rfl) (Tm.thaw _ _ _))) (TmL.cons (Tm.v _) TmL.nil)))
 ·
  have h0 := cF h0 h1
  refine awp_skip ?_
  refine awp_assoc ?_
  refine awp_nr [2,3,4,5,6,10] (fun _ => rfl) fun tz => ?_
  refine awp_regW fun KK hKK => ?_
  refine xw_id ?_
  refine xw_stop 3 (by (try simp only [go_sem]); rfl) (by (try simp only [go_sem]); rfl) (by rfl) fun K1 hK1 => ?_
  refine xw_id ?_
  try simp only [go_sem, Nat.reduceEqDiff, reduceIte, Nat.reduceAdd, Nat.reduceMul, Nat.reduceSub, Nat.reduceLT, Nat.reduceLeDiff]
  refine hK1 _ ?_; clear hK1 K1
  obtain ⟨x7, hvh2, h0⟩ := bnd h0
  refine xw_cut 4 [(2, (vi a2)), (3, (vb a3)), (4, (vi a4)), (5, (.ptr 0 0)), (6, (.ptr 1 0)), (10, (.ptr 2 0)), (29, (vb x7))] (by (try simp only [go_sem]); rfl) (by (try simp only [go_sem]); rfl) (by rfl) (fun K1 hK1 => ?_) fun tz => ?_
  ·
   refine xw_id ?_
   rcases Bool.eq_false_or_eq_true (decide (a2 < 0)) with h2 | h2
   ·
    have hvh2 := cT hvh2 h2
    try simp only [go_sem, Nat.reduceEqDiff, reduceIte, Nat.reduceAdd, Nat.reduceMul, Nat.reduceSub, Nat.reduceLT, Nat.reduceLeDiff, h2]
    obtain rfl := someInj hvh2
    exact hK1 _ ⟨rfl, rfl, rfl, rfl, rfl, rfl, rfl, (by first | rfl | (rw [h2]; rfl) | (simp only [h2, Bool.true_and, Bool.false_and, Bool.true_or, Bool.false_or, cond_true, cond_false]; done)), trivial⟩
   ·
    have hvh2 := cF hvh2 h2
    obtain ⟨x6, bx6, hvh2⟩ := bnd hvh2
    try simp only [go_sem, Nat.reduceEqDiff, reduceIte, Nat.reduceAdd, Nat.reduceMul, Nat.reduceSub, Nat.reduceLT, Nat.reduceLeDiff, h2]
    refine xcall_p (rate_Count_p  bx6) ?_; try dsimp only
    try refine xw_id ?_
    try simp only [go_sem, Nat.reduceEqDiff, reduceIte, Nat.reduceAdd, Nat.reduceMul, Nat.reduceSub, Nat.reduceLT, Nat.reduceLeDiff, h2]
    obtain rfl := someInj hvh2
    exact hK1 _ ⟨rfl, rfl, rfl, rfl, rfl, rfl, rfl, (by first | rfl | (rw [h2]; rfl) | (simp only [h2, Bool.true_and, Bool.false_and, Bool.true_or, Bool.false_or, cond_true, cond_false]; done)), trivial⟩
  ·
   refine xw_id ?_
   try simp only [go_sem, Nat.reduceEqDiff, reduceIte, Nat.reduceAdd, Nat.reduceMul, Nat.reduceSub, Nat.reduceLT, Nat.reduceLeDiff]
   refine hKK _ _ (Wk.refl _ _ _) ?_; clear hKK KK
   refine awp_cond (b := x7) rfl (fun h3 => ?_) (fun h3 => ?_)
   ·
    have h0 := cT h0 h3
    refine awp_assoc ?_
    refine awp_nr [10] (fun _ => rfl) fun tz => ?_
    refine awp_regW fun KK hKK => ?_
    refine xw_id ?_
    try simp only [go_sem, Nat.reduceEqDiff, reduceIte, Nat.reduceAdd, Nat.reduceMul, Nat.reduceSub, Nat.reduceLT, Nat.reduceLeDiff]
    refine hKK _ _ (Wk.refl _ _ _) ?_; clear hKK KK
    refine awp_ret ?_
    obtain rfl := someInj h0
    refine endW_i ?_
    refine end_ret0 rs19 (by simp only [go_sem, resV, resAll, resOf, packR, Nat.reduceEqDiff, reduceIte, Nat.reduceAdd, Nat.reduceMul, Nat.reduceSub, Nat.reduceLT, Nat.reduceLeDiff]; rfl) ?_
    refine Res.mk [] [none] rfl (resON resO0) (Tm.tup (TmL.cons (Tm.agg (e_MetricTable_tmx (by rfl) (Tm.thaw _ _ _))) (TmL.cons (Tm.v _) TmL.nil)))
   ·
    have h0 := cF h0 h3
    refine awp_skip ?_
    refine awp_nr [2,3,4,5,6,10] (fun _ => rfl) fun tz => ?_
    refine awp_regW fun KK hKK => ?_
    refine xw_id ?_
    obtain ⟨x8, bx8, h0⟩ := bnd h0
    try simp only [go_sem, Nat.reduceEqDiff, reduceIte, Nat.reduceAdd, Nat.reduceMul, Nat.reduceSub, Nat.reduceLT, Nat.reduceLeDiff]
    refine xcall_p (metric_find_p a0 a1 bx8) ?_; try dsimp only
    try refine xw_id ?_
    try simp only [go_sem, Nat.reduceEqDiff, reduceIte, Nat.reduceAdd, Nat.reduceMul, Nat.reduceSub, Nat.reduceLT, Nat.reduceLeDiff]
    refine hKK _ _ (Wk.refl _ _ _) ?_; clear hKK KK
    refine awp_blockW ?_
    refine awp_nr [2,3,4,5,6,10,13,14] (fun _ => rfl) fun tz => ?_
    refine awp_regW fun KK hKK => ?_
    refine xw_id ?_
    refine xw_stop 3 (by (try simp only [go_sem]); rfl) (by (try simp only [go_sem]); rfl) (by rfl) fun K1 hK1 => ?_
    refine xw_id ?_
    try simp only [go_sem, Nat.reduceEqDiff, reduceIte, Nat.reduceAdd, Nat.reduceMul, Nat.reduceSub, Nat.reduceLT, Nat.reduceLeDiff]
    refine hK1 _ ?_; clear hK1 K1
    refine xw_cut 3 [(2, (vi a2)), (3, (vb a3)), (4, (vi a4)), (5, (.ptr 0 0)), (6, (.ptr 1 0)), (10, (.ptr 2 0)), (13, (vi x8.1)), (14, (vb x8.2)), (43, (vb ((!x8.2) && (!a3))))] (by (try simp only [go_sem]); rfl) (by (try simp only [go_sem]); rfl) (by rfl) (fun K1 hK1 => ?_) fun tz => ?_
    ·
     refine xw_id ?_
     rcases Bool.eq_false_or_eq_true (!x8.2) with h4 | h4
     ·
      try simp only [go_sem, Nat.reduceEqDiff, reduceIte, Nat.reduceAdd, Nat.reduceMul, Nat.reduceSub, Nat.reduceLT, Nat.reduceLeDiff, h4]
      exact hK1 _ ⟨rfl, rfl, rfl, rfl, rfl, rfl, rfl, rfl, rfl, (by first | rfl | (rw [h4]; rfl) | (simp only [h4, Bool.true_and, Bool.false_and, Bool.true_or, Bool.false_or, cond_true, cond_false]; done)), trivial⟩
     ·
      try simp only [go_sem, Nat.reduceEqDiff, reduceIte, Nat.reduceAdd, Nat.reduceMul, Nat.reduceSub, Nat.reduceLT, Nat.reduceLeDiff, h4]
      exact hK1 _ ⟨rfl, rfl, rfl, rfl, rfl, rfl, rfl, rfl, rfl, (by first | rfl | (rw [h4]; rfl) | (simp only [h4, Bool.true_and, Bool.false_and, Bool.true_or, Bool.false_or, cond_true, cond_false]; done)), trivial⟩
    ·
     refine xw_id ?_
     try simp only [go_sem, Nat.reduceEqDiff, reduceIte, Nat.reduceAdd, Nat.reduceMul, Nat.reduceSub, Nat.reduceLT, Nat.reduceLeDiff]
     refine hKK _ _ (Wk.refl _ _ _) ?_; clear hKK KK
     refine awp_cond1 (b := ((!x8.2) && (!a3))) rfl (fun h5 => ?_) (fun h5 => ?_)
     ·
      have h0 := cT h0 h5
      refine awp_nr [10] (fun _ => rfl) fun tz => ?_
      refine awp_regW fun KK hKK => ?_
      refine xw_id ?_
      try simp only [go_sem, Nat.reduceEqDiff, reduceIte, Nat.reduceAdd, Nat.reduceMul, Nat.reduceSub, Nat.reduceLT, Nat.reduceLeDiff]
      refine hKK _ _ (Wk.refl _ _ _) ?_; clear hKK KK
      refine awp_ret1 ?_
      refine bq_r ?_
      refine sq_r ?_
      obtain rfl := someInj h0
      refine endW_i ?_
      refine end_ret0 rs19 (by simp only [go_sem, resV, resAll, resOf, packR, Nat.reduceEqDiff, reduceIte, Nat.reduceAdd, Nat.reduceMul, Nat.reduceSub, Nat.reduceLT, Nat.reduceLeDiff]; rfl) ?_
      refine Res.mk [] [none] rfl (resON resO0) (Tm.tup (TmL.cons (Tm.agg (e_MetricTable_tmx (by rfl) (Tm.thaw _ _ _))) (TmL.cons (Tm.v _) TmL.nil)))
     ·
      have h0 := cF h0 h5
      refine awp_nr [2,3,4,5,6,10,13,14] (fun _ => rfl) fun tz => ?_
      refine awp_regW fun KK hKK => ?_
      refine xw_id ?_
      refine xw_stop 3 (by (try simp only [go_sem]); rfl) (by (try simp only [go_sem]); rfl) (by rfl) fun K1 hK1 => ?_
      refine xw_id ?_
      try simp only [go_sem, Nat.reduceEqDiff, reduceIte, Nat.reduceAdd, Nat.reduceMul, Nat.reduceSub, Nat.reduceLT, Nat.reduceLeDiff]
      refine hK1 _ ?_; clear hK1 K1
      refine xw_cut 5 [(2, (vi a2)), (3, (vb a3)), (4, (vi a4)), (5, (.ptr 0 0)), (6, (.ptr 1 0)), (10, (.ptr 2 0)), (13, (vi x8.1)), (14, (vb x8.2)), (53, (vb ((!x8.2) && ((a0.Links.length : Int) == 32))))] (by (try simp only [go_sem]); rfl) (by (try simp only [go_sem]); rfl) (by rfl) (fun K1 hK1 => ?_) fun tz => ?_
      ·
       refine xw_id ?_
       rcases Bool.eq_false_or_eq_true (!x8.2) with h6 | h6
       ·
        try simp only [go_sem, Nat.reduceEqDiff, reduceIte, Nat.reduceAdd, Nat.reduceMul, Nat.reduceSub, Nat.reduceLT, Nat.reduceLeDiff, Int.reduceToNat, Int.reduceBEq, Int.reduceBNe, Int.reduceLT, Int.reduceLE, Int.reduceAdd, Int.reduceSub, Int.reduceMul, Int.reduceNeg, Int.reduceEq, Int.reduceNe, h6]
        exact hK1 _ ⟨rfl, rfl, rfl, rfl, rfl, rfl, rfl, rfl, rfl, (by first | rfl | (rw [h6]; rfl) | (simp only [h6, Bool.true_and, Bool.false_and, Bool.true_or, Bool.false_or, cond_true, cond_false]; done)), trivial⟩
       ·
        try simp only [go_sem, Nat.reduceEqDiff, reduceIte, Nat.reduceAdd, Nat.reduceMul, Nat.reduceSub, Nat.reduceLT, Nat.reduceLeDiff, h6]
        exact hK1 _ ⟨rfl, rfl, rfl, rfl, rfl, rfl, rfl, rfl, rfl, (by first | rfl | (rw [h6]; rfl) | (simp only [h6, Bool.true_and, Bool.false_and, Bool.true_or, Bool.false_or, cond_true, cond_false]; done)), trivial⟩
      ·
       refine xw_id ?_
       try simp only [go_sem, Nat.reduceEqDiff, reduceIte, Nat.reduceAdd, Nat.reduceMul, Nat.reduceSub, Nat.reduceLT, Nat.reduceLeDiff]
       refine hKK _ _ (Wk.refl _ _ _) ?_; clear hKK KK
       refine awp_cond1 (b := ((!x8.2) && ((a0.Links.length : Int) == 32))) rfl (fun h7 => ?_) (fun h7 => ?_)
       ·
        have h0 := cT h0 h7
        refine awp_nr [10] (fun _ => rfl) fun tz => ?_
        refine awp_regW fun KK hKK => ?_
        refine xw_id ?_
        try simp only [go_sem, Nat.reduceEqDiff, reduceIte, Nat.reduceAdd, Nat.reduceMul, Nat.reduceSub, Nat.reduceLT, Nat.reduceLeDiff]
        refine hKK _ _ (Wk.refl _ _ _) ?_; clear hKK KK
        refine awp_ret1 ?_
        refine bq_r ?_
        refine sq_r ?_
        obtain rfl := someInj h0
        refine endW_i ?_
        refine end_ret0 rs19 (by simp only [go_sem, resV, resAll, resOf, packR, Nat.reduceEqDiff, reduceIte, Nat.reduceAdd, Nat.reduceMul, Nat.reduceSub, Nat.reduceLT, Nat.reduceLeDiff]; rfl) ?_
        refine Res.mk [] [none] rfl (resON resO0) (Tm.tup (TmL.cons (Tm.agg (e_MetricTable_tmx (by rfl) (Tm.thaw _ _ _))) (TmL.cons (Tm.v _) TmL.nil)))
       ·
        have h0 := cF h0 h7
        refine awp_skip1 ?_
        refine bq_n ?_
        refine seqW_i ?_
        refine awp_nr [2,3,4,5,6,10,13,14] (fun _ => rfl) fun tz => ?_
        refine awp_regW fun KK hKK => ?_
        refine xw_id ?_
        obtain ⟨x9, bx9, h0⟩ := bnd h0
        try simp only [go_sem, Nat.reduceEqDiff, reduceIte, Nat.reduceAdd, Nat.reduceMul, Nat.reduceSub, Nat.reduceLT, Nat.reduceLeDiff]
        refine xcall_M (slices_Clone_api_MetricLink_api_MetricLink_m a0.Links bx9) ?_; try dsimp only
        try refine xw_id ?_
        try simp only [go_sem, Nat.reduceEqDiff, reduceIte, Nat.reduceAdd, Nat.reduceMul, Nat.reduceSub, Nat.reduceLT, Nat.reduceLeDiff]
        refine hKK _ (metric_Heard_S1 a0 x9 a1 a2 a3 a4 x8) (by refine Wk.canonD [] [] [some 0, some 41, some 1, some 2] rfl trivial rfl (tmOU 3 (tmOU 2 (tmOU 1 (tmOU 0 tmO0 rfl List.not_mem_nil (by simp only [upd_get, Nat.reduceEqDiff, reduceIte, Nat.reduceAdd, Nat.reduceMul, Nat.reduceSub, Nat.reduceLT, Nat.reduceLeDiff, if_true, if_false] <;> rfl) (e_MetricTable_tmx (by rfl) (Tm.refL rfl ?_))) rfl List.not_mem_nil (by simp only [upd_get, Nat.reduceEqDiff, reduceIte, Nat.reduceAdd, Nat.reduceMul, Nat.reduceSub, Nat.reduceLT, Nat.reduceLeDiff, if_true, if_false] <;> rfl) (TmL.of_eq (by first | rfl | (simp only [List.flatMap_append, List.flatMap_cons, List.flatMap_nil, List.map_append, List.map_cons, List.map_nil, List.append_nil, List.nil_append]; done) | (simp only [List.flatMap_append, List.flatMap_cons, List.flatMap_nil, List.map_append, List.map_cons, List.map_nil, List.append_nil, List.nil_append]; rfl)) (c_MetricLink _))) rfl List.not_mem_nil (by simp only [upd_get, Nat.reduceEqDiff, reduceIte, Nat.reduceAdd, Nat.reduceMul, Nat.reduceSub, Nat.reduceLT, Nat.reduceLeDiff, if_true, if_false] <;> rfl) (TmL.clean (e_Addr_clean _))) rfl List.not_mem_nil (by simp only [upd_get, Nat.reduceEqDiff, reduceIte, Nat.reduceAdd, Nat.reduceMul, Nat.reduceSub, Nat.reduceLT, Nat.reduceLeDiff, if_true, if_false] <;> rfl) (e_MetricTable_tmx (by rfl) (Tm.v _))) (tmAllU 14 (tmAllU 13 (tmAllU 10 (tmAllU 6 (tmAllU 5 (tmAllU 4 (tmAllU 3 (tmAllU 2 tmAll0 (Tm.v _)) (Tm.v _)) (Tm.v _)) (Tm.ptr rfl)) (Tm.ptr rfl)) (Tm.ptr rfl)) (Tm.v _)) (Tm.v _)); all_goals (first | rfl | (simp only [List.length_take]; omega) | (simp only [List.length_append, List.length_cons, List.length_nil, List.length_modify, List.length_set, Nat.zero_add]; done) | (simp only [List.length_append, List.length_take, List.length_drop, List.length_cons, List.length_nil, List.length_modify, List.length_set, Nat.zero_add]; omega))) ?_; clear hKK KK
        unfold metric_Heard_S1
        refine awp_assoc ?_
        refine awp_nr [2,3,4,5,6,10,13,14] (fun _ => rfl) fun tz => ?_
        refine awp_regW fun KK hKK => ?_
        refine xw_id ?_
        try simp only [go_sem, Nat.reduceEqDiff, reduceIte, Nat.reduceAdd, Nat.reduceMul, Nat.reduceSub, Nat.reduceLT, Nat.reduceLeDiff]
        refine hKK _ _ (Wk.refl _ _ _) ?_; clear hKK KK
        refine awp_cond (b := (!x8.2)) rfl (fun h8 => ?_) (fun h8 => ?_)
        ·
         have h0 := cT h0 h8
         refine awp_assoc ?_
         refine awp_nr [2,4,5,6,10,13] (fun _ => rfl) fun tz => ?_
         refine awp_regW fun KK hKK => ?_
         refine xw_id ?_
         obtain ⟨x10, bx10, h0⟩ := bnd h0
         try simp only [go_sem, Nat.reduceEqDiff, reduceIte, Nat.reduceAdd, Nat.reduceMul, Nat.reduceSub, Nat.reduceLT, Nat.reduceLeDiff]
         refine xcall_O [1, 13] (slices_Insert_api_MetricLink_api_MetricLink_io x8.1 x9 [{ MetricLink.z with Heard := a4, Peer := a1, Rate := a2 }] bx10) (by decide) (by decide) ⟨(by first | rfl | (simp only [go_sem, Nat.reduceEqDiff, reduceIte, Nat.reduceAdd, Nat.reduceMul, Nat.reduceSub, Nat.reduceLT, Nat.reduceLeDiff]; done) | (simp only [go_sem, Nat.reduceEqDiff, reduceIte, Nat.reduceAdd, Nat.reduceMul, Nat.reduceSub, Nat.reduceLT, Nat.reduceLeDiff]; rfl)), (by first | rfl | (simp only [go_sem, Nat.reduceEqDiff, reduceIte, Nat.reduceAdd, Nat.reduceMul, Nat.reduceSub, Nat.reduceLT, Nat.reduceLeDiff]; done) | (simp only [go_sem, Nat.reduceEqDiff, reduceIte, Nat.reduceAdd, Nat.reduceMul, Nat.reduceSub, Nat.reduceLT, Nat.reduceLeDiff]; rfl)), trivial⟩ (by first | rfl | (simp only [go_sem, Nat.reduceEqDiff, reduceIte, Nat.reduceAdd, Nat.reduceMul, Nat.reduceSub, Nat.reduceLT, Nat.reduceLeDiff]; done) | (simp only [go_sem, Nat.reduceEqDiff, reduceIte, Nat.reduceAdd, Nat.reduceMul, Nat.reduceSub, Nat.reduceLT, Nat.reduceLeDiff]; rfl)) ?_; try dsimp only
         try refine xw_id ?_
         try simp only [go_sem, Nat.reduceEqDiff, reduceIte, Nat.reduceAdd, Nat.reduceMul, Nat.reduceSub, Nat.reduceLT, Nat.reduceLeDiff, List.length_cons, List.length_nil]
         refine hKK _ _ (Wk.refl _ _ _) ?_; clear hKK KK
         refine awp_assoc ?_
         refine awp_nr [5,10] (fun _ => rfl) fun tz => ?_
         refine awp_regW fun KK hKK => ?_
         refine xw_id ?_
         try simp only [go_sem, Nat.reduceEqDiff, reduceIte, Nat.reduceAdd, Nat.reduceMul, Nat.reduceSub, Nat.reduceLT, Nat.reduceLeDiff]
         refine hKK _ _ (Wk.refl _ _ _) ?_; clear hKK KK
         refine awp_ret ?_
         obtain rfl := someInj h0
         refine endW_i ?_
         refine end_ret0 rs19 (by simp only [go_sem, resV, resAll, resOf, packR, Nat.reduceEqDiff, reduceIte, Nat.reduceAdd, Nat.reduceMul, Nat.reduceSub, Nat.reduceLT, Nat.reduceLeDiff]; rfl) ?_
         refine Res.mk [] [some 17] rfl (resOU List.not_mem_nil (by simp only [upd_get, Nat.reduceEqDiff, reduceIte, Nat.reduceAdd, Nat.reduceMul, Nat.reduceSub, Nat.reduceLT, Nat.reduceLeDiff, if_true, if_false] <;> rfl) (TmL.of_eq (by first | rfl | (simp only [List.flatMap_append, List.flatMap_cons, List.flatMap_nil, List.map_append, List.map_cons, List.map_nil, List.append_nil, List.nil_append]; done) | (simp only [List.flatMap_append, List.flatMap_cons, List.flatMap_nil, List.map_append, List.map_cons, List.map_nil, List.append_nil, List.nil_append]; rfl)) (c_MetricLink _)) resO0) (Tm.tup (TmL.cons (Tm.agg (e_MetricTable_tmx (by rfl) (Tm.refL rfl ?_))) (TmL.cons (Tm.v _) TmL.nil)))
         all_goals (first | rfl | (simp only [List.length_take]; omega) | (simp only [List.length_append, List.length_cons, List.length_nil, List.length_modify, List.length_set, Nat.zero_add]; done) | (simp only [List.length_append, List.length_take, List.length_drop, List.length_cons, List.length_nil, List.length_modify, List.length_set, Nat.zero_add]; omega))
        ·
         have h0 := cF h0 h8
         refine awp_skip ?_
         refine awp_nr [2,3,4,5,10,13] (fun _ => rfl) fun tz => ?_
         refine awp_regW fun KK hKK => ?_
         refine xw_id ?_
         obtain ⟨x11, bx11, h0⟩ := bnd h0
         obtain ⟨fx11_0, fx11_1, fx11_2, fx11_3⟩ := idx_some bx11
         have fx11_5 : ((x8.1 : Int) < ((x9.length : Nat) : Int)) = True := by first | exact fx11_1 | (simp [List.length_modify, List.length_set]; omega)
         try simp only [go_sem, Nat.reduceEqDiff, reduceIte, Nat.reduceAdd, Nat.reduceMul, Nat.reduceSub, Nat.reduceLT, Nat.reduceLeDiff, fx11_0, fx11_1, fx11_2, fx11_5]
         refine hKK _ _ (Wk.refl _ _ _) ?_; clear hKK KK
         refine awp_nr [2,3,4,5,10,15] (fun _ => rfl) fun tz => ?_
         refine awp_regW fun KK hKK => ?_
         refine xw_id ?_
         have gs9 : ((x8.1).toNat * 9 + 7 ≤ x9.length * 9) = True := eq_true (by (try simp only [List.length_modify, List.length_set]); omega)
         have gm10 : (x9.modify ((x8.1).toNat) fun y => { y with Rate := a2 })[(x8.1).toNat]? = some ({ x11 with Rate := a2 }) := getMod _ fx11_2
         try simp only [go_sem, Nat.reduceEqDiff, reduceIte, Nat.reduceAdd, Nat.reduceMul, Nat.reduceSub, Nat.reduceLT, Nat.reduceLeDiff, fx11_0, fx11_1, fx11_2, fx11_5, gs9, gm10]
         refine hKK _ _ (Wk.refl _ _ _) ?_; clear hKK KK
         refine awp_assoc ?_
         refine awp_nr [3,4,5,10,15] (fun _ => rfl) fun tz => ?_
         refine awp_regW fun KK hKK => ?_
         refine xw_id ?_
         try simp only [go_sem, Nat.reduceEqDiff, reduceIte, Nat.reduceAdd, Nat.reduceMul, Nat.reduceSub, Nat.reduceLT, Nat.reduceLeDiff, fx11_0, fx11_1, fx11_2, fx11_5, gm10]
         refine hKK _ _ (Wk.refl _ _ _) ?_; clear hKK KK
         refine awp_cond (b := a3) rfl (fun h11 => ?_) (fun h11 => ?_)
         ·
          have h0 := cT h0 h11
          refine awp_nr [4,5,10,15] (fun _ => rfl) fun tz => ?_
          refine awp_regDW fun KK hKK all hall => ?_
          refine xd_id ?_
          try simp only [List.toList_toArray, List.map_cons, List.map_nil, List.size_toArray, List.length_cons, List.length_nil, Nat.zero_add]
          try simp only [Nat.reduceAdd]
          have gs12 : ((x8.1).toNat * 9 + 8 ≤ (x9.modify ((x8.1).toNat) fun y => { y with Rate := a2 }).length * 9) = True := eq_true (by (try simp only [List.length_modify, List.length_set]); omega)
          have gm13 : ((x9.modify ((x8.1).toNat) fun y => { y with Rate := a2 }).modify ((x8.1).toNat) fun y => { y with Loss := IntKind.wrap .i64 (((IntKind.wrap .i64 (7 * (({ x11 with Rate := a2 }).Loss)))).tdiv 8) })[(x8.1).toNat]? = some ({ ({ x11 with Rate := a2 }) with Loss := IntKind.wrap .i64 (((IntKind.wrap .i64 (7 * (({ x11 with Rate := a2 }).Loss)))).tdiv 8) }) := getMod _ gm10
          have gs14 : ((x8.1).toNat * 9 + 9 ≤ ((x9.modify ((x8.1).toNat) fun y => { y with Rate := a2 }).modify ((x8.1).toNat) fun y => { y with Loss := IntKind.wrap .i64 (((IntKind.wrap .i64 (7 * (({ x11 with Rate := a2 }).Loss)))).tdiv 8) }).length * 9) = True := eq_true (by (try simp only [List.length_modify, List.length_set]); omega)
          have gm15 : (((x9.modify ((x8.1).toNat) fun y => { y with Rate := a2 }).modify ((x8.1).toNat) fun y => { y with Loss := IntKind.wrap .i64 (((IntKind.wrap .i64 (7 * (({ x11 with Rate := a2 }).Loss)))).tdiv 8) }).modify ((x8.1).toNat) fun y => { y with Heard := (if ({ x11 with Rate := a2 }).Heard < a4 then a4 else ({ x11 with Rate := a2 }).Heard) })[(x8.1).toNat]? = some ({ ({ ({ x11 with Rate := a2 }) with Loss := IntKind.wrap .i64 (((IntKind.wrap .i64 (7 * (({ x11 with Rate := a2 }).Loss)))).tdiv 8) }) with Heard := (if ({ x11 with Rate := a2 }).Heard < a4 then a4 else ({ x11 with Rate := a2 }).Heard) }) := getMod _ gm13
          simp only [go_sem, Nat.reduceEqDiff, reduceIte, Nat.reduceMul, Nat.reduceSub, Nat.reduceLT, Nat.reduceLeDiff, Int.reduceToNat, Int.reduceBEq, Int.reduceBNe, Int.reduceLT, Int.reduceLE, Int.reduceAdd, Int.reduceSub, Int.reduceMul, Int.reduceNeg, Int.reduceEq, Int.reduceNe, fx11_0, fx11_1, fx11_2, fx11_5, gm10, gs12, gm13, gs14, gm15]
          try simp only [Nat.reduceAdd]
          try simp only [go_sem, Nat.reduceEqDiff, reduceIte, Nat.reduceMul, Nat.reduceSub, Nat.reduceLT, Nat.reduceLeDiff, Int.reduceToNat, Int.reduceBEq, Int.reduceBNe, Int.reduceLT, Int.reduceLE, Int.reduceAdd, Int.reduceSub, Int.reduceMul, Int.reduceNeg, Int.reduceEq, Int.reduceNe, fx11_0, fx11_1, fx11_2, fx11_5, gm10, gs12, gm13, gs14, gm15]
          try simp only [Nat.reduceAdd]
          try simp only [go_sem, Nat.reduceEqDiff, reduceIte, Nat.reduceMul, Nat.reduceSub, Nat.reduceLT, Nat.reduceLeDiff, Int.reduceToNat, Int.reduceBEq, Int.reduceBNe, Int.reduceLT, Int.reduceLE, Int.reduceAdd, Int.reduceSub, Int.reduceMul, Int.reduceNeg, Int.reduceEq, Int.reduceNe, fx11_0, fx11_1, fx11_2, fx11_5, gm10, gs12, gm13, gs14, gm15]
          refine And.intro ?_ (hKK _ _ (Wk.refl _ _ _) ?_)
          ·
           subst hall
           clear hKK KK
           first | (simp [printsOk, apartP, clash, meet]; done) | (simp [printsOk, apartP, clash, meet]; decide +kernel) | decide +kernel
          ·
           clear hKK KK hall all
           refine awp_nr [5,10] (fun _ => rfl) fun tz => ?_
           refine awp_regW fun KK hKK => ?_
           refine xw_id ?_
           try simp only [go_sem, Nat.reduceEqDiff, reduceIte, Nat.reduceAdd, Nat.reduceMul, Nat.reduceSub, Nat.reduceLT, Nat.reduceLeDiff, fx11_0, fx11_1, fx11_2, fx11_5, gm10, gm13, gm15]
           refine hKK _ _ (Wk.refl _ _ _) ?_; clear hKK KK
           refine awp_ret1 ?_
           obtain rfl := someInj h0
           refine endW_i ?_
           refine end_ret0 rs19 (by simp only [go_sem, resV, resAll, resOf, packR, Nat.reduceEqDiff, reduceIte, Nat.reduceAdd, Nat.reduceMul, Nat.reduceSub, Nat.reduceLT, Nat.reduceLeDiff]; rfl) ?_
           refine Res.mk [] [some 1] rfl (resOU List.not_mem_nil (by simp only [upd_get, Nat.reduceEqDiff, reduceIte, Nat.reduceAdd, Nat.reduceMul, Nat.reduceSub, Nat.reduceLT, Nat.reduceLeDiff, if_true, if_false] <;> rfl) (TmL.of_eq (by first | rfl | (simp only [List.flatMap_append, List.flatMap_cons, List.flatMap_nil, List.map_append, List.map_cons, List.map_nil, List.append_nil, List.nil_append]; done) | (simp only [List.flatMap_append, List.flatMap_cons, List.flatMap_nil, List.map_append, List.map_cons, List.map_nil, List.append_nil, List.nil_append]; rfl)) (c_MetricLink _)) resO0) (Tm.tup (TmL.cons (Tm.agg (e_MetricTable_tmx (by rfl) (Tm.refL rfl ?_))) (TmL.cons (Tm.v _) TmL.nil)))
           all_goals (first | rfl | (simp only [List.length_take]; omega) | (simp only [List.length_append, List.length_cons, List.length_nil, List.length_modify, List.length_set, Nat.zero_add]; done) | (simp only [List.length_append, List.length_take, List.length_drop, List.length_cons, List.length_nil, List.length_modify, List.length_set, Nat.zero_add]; omega))
         ·
          have h0 := cF h0 h11
          refine awp_nr [5,10,15] (fun _ => rfl) fun tz => ?_
          refine awp_regW fun KK hKK => ?_
          refine xw_id ?_
          have gs16 : ((x8.1).toNat * 9 + 8 ≤ (x9.modify ((x8.1).toNat) fun y => { y with Rate := a2 }).length * 9) = True := eq_true (by (try simp only [List.length_modify, List.length_set]); omega)
          have gm17 : ((x9.modify ((x8.1).toNat) fun y => { y with Rate := a2 }).modify ((x8.1).toNat) fun y => { y with Loss := IntKind.wrap .i64 (((IntKind.wrap .i64 ((IntKind.wrap .i64 (7 * (({ x11 with Rate := a2 }).Loss))) + 1007))).tdiv 8) })[(x8.1).toNat]? = some ({ ({ x11 with Rate := a2 }) with Loss := IntKind.wrap .i64 (((IntKind.wrap .i64 ((IntKind.wrap .i64 (7 * (({ x11 with Rate := a2 }).Loss))) + 1007))).tdiv 8) }) := getMod _ gm10
          try simp only [go_sem, Nat.reduceEqDiff, reduceIte, Nat.reduceAdd, Nat.reduceMul, Nat.reduceSub, Nat.reduceLT, Nat.reduceLeDiff, Int.reduceToNat, Int.reduceBEq, Int.reduceBNe, Int.reduceLT, Int.reduceLE, Int.reduceAdd, Int.reduceSub, Int.reduceMul, Int.reduceNeg, Int.reduceEq, Int.reduceNe, fx11_0, fx11_1, fx11_2, fx11_5, gm10, gs16, gm17]
          refine hKK _ _ (Wk.refl _ _ _) ?_; clear hKK KK
          refine awp_nr [5,10] (fun _ => rfl) fun tz => ?_
          refine awp_regW fun KK hKK => ?_
          refine xw_id ?_
          try simp only [go_sem, Nat.reduceEqDiff, reduceIte, Nat.reduceAdd, Nat.reduceMul, Nat.reduceSub, Nat.reduceLT, Nat.reduceLeDiff, fx11_0, fx11_1, fx11_2, fx11_5, gm10, gm17]
          refine hKK _ _ (Wk.refl _ _ _) ?_; clear hKK KK
          refine awp_ret1 ?_
          obtain rfl := someInj h0
          refine endW_i ?_
          refine end_ret0 rs19 (by simp only [go_sem, resV, resAll, resOf, packR, Nat.reduceEqDiff, reduceIte, Nat.reduceAdd, Nat.reduceMul, Nat.reduceSub, Nat.reduceLT, Nat.reduceLeDiff]; rfl) ?_
          refine Res.mk [] [some 1] rfl (resOU List.not_mem_nil (by simp only [upd_get, Nat.reduceEqDiff, reduceIte, Nat.reduceAdd, Nat.reduceMul, Nat.reduceSub, Nat.reduceLT, Nat.reduceLeDiff, if_true, if_false] <;> rfl) (TmL.of_eq (by first | rfl | (simp only [List.flatMap_append, List.flatMap_cons, List.flatMap_nil, List.map_append, List.map_cons, List.map_nil, List.append_nil, List.nil_append]; done) | (simp only [List.flatMap_append, List.flatMap_cons, List.flatMap_nil, List.map_append, List.map_cons, List.map_nil, List.append_nil, List.nil_append]; rfl)) (c_MetricLink _)) resO0) (Tm.tup (TmL.cons (Tm.agg (e_MetricTable_tmx (by rfl) (Tm.refL rfl ?_))) (TmL.cons (Tm.v _) TmL.nil)))
          all_goals (first | rfl | (simp only [List.length_take]; omega) | (simp only [List.length_append, List.length_cons, List.length_nil, List.length_modify, List.length_set, Nat.zero_add]; done) | (simp only [List.length_append, List.length_take, List.length_drop, List.length_cons, List.length_nil, List.length_modify, List.length_set, Nat.zero_add]; omega))

theorem metric_Heard_m (a0 : MetricTable) (a1 : Addr) (a2 : Int) (a3 : Bool) (a4 : Int) {r : (MetricTable × Int)} (h0 : metric_Heard a0 a1 a2 a3 a4 = some r) : SndM K 19 [(.agg (E_MetricTable a0)), (.agg (e_Addr a1)), (vi a2), (vb a3), (vi a4)] (fun q => (.tup [(.agg (e_MetricTable r.1 (.ref (q 0) 0 r.1.Links.length 9))), (vi r.2)])) [(List.flatMap e_MetricLink r.1.Links)] :=
 fun hs => Snd.of_newM (RenM.tup (RenML.cons (RenM.agg (e_MetricTable_ren _ (RenM.ref 0 0 _ _))) (RenML.cons (RenM.const (Clean.v _)) RenML.nil))) (rows_all_cons (c_MetricLink _) rows_all_nil) (clean_cons (Clean.agg (E_MetricTable_clean _)) (clean_cons (Clean.agg (e_Addr_clean _)) (clean_cons (Clean.v _) (clean_cons (Clean.v _) (clean_cons (Clean.v _) clean_nil))))) (metric_Heard_r a0 a1 a2 a3 a4 h0) hs

theorem metric_Heard_e (a0 : MetricTable) (a1 : Addr) (a2 : Int) (a3 : Bool) (a4 : Int) {r : (MetricTable × Int)} (h0 : metric_Heard a0 a1 a2 a3 a4 = some r) (fr : Nat) (hs : HS) : SndE K 19 [(.agg (E_MetricTable a0)), (.agg (e_Addr a1)), (vi a2), (vb a3), (vi a4)] hs fr ⟨(fun q : Nat → Nat => (.tup [(.agg (e_MetricTable r.1 (.ref (q 0) 0 r.1.Links.length 9))), (vi r.2)])) fun _ => fr, .new (List.flatMap e_MetricLink r.1.Links)⟩ :=
 SndE.of_res (RenM.tup (RenML.cons (RenM.agg (e_MetricTable_ren _ (RenM.ref 0 0 _ _))) (RenML.cons (RenM.const (Clean.v _)) RenML.nil))) (c_MetricLink _) (clean_cons (Clean.agg (E_MetricTable_clean _)) (clean_cons (Clean.agg (e_Addr_clean _)) (clean_cons (Clean.v _) (clean_cons (Clean.v _) (clean_cons (Clean.v _) clean_nil))))) (fun a b h => by simp only [h]) (metric_Heard_r a0 a1 a2 a3 a4 h0) hs fr

theorem metric_Heard_p (a0 : MetricTable) (a1 : Addr) (a2 : Int) (a3 : Bool) (a4 : Int) {r : (MetricTable × Int)} (h0 : metric_Heard a0 a1 a2 a3 a4 = some r) : SndP K 19 [(.agg (E_MetricTable a0)), (.agg (e_Addr a1)), (vi a2), (vb a3), (vi a4)] (.tup [(.agg (E_MetricTable r.1)), (vi r.2)]) :=
 SndM.pure (metric_Heard_m a0 a1 a2 a3 a4 h0) (Clean.tup (clean_cons (Clean.agg (E_MetricTable_clean _)) (clean_cons (Clean.v _) clean_nil))) (clean_cons (Clean.agg (E_MetricTable_clean _)) (clean_cons (Clean.agg (e_Addr_clean _)) (clean_cons (Clean.v _) (clean_cons (Clean.v _) (clean_cons (Clean.v _) clean_nil))))) (by simp only [go_sem, newL_n, newL_c, upd_get, fz, nilS, cond_true, cond_false, List.drop_zero, List.take_length, List.length_map, ble_self, Nat.reduceEqDiff, reduceIte, Nat.reduceAdd, Nat.reduceMul, Nat.reduceSub, Nat.reduceLT, Nat.reduceLeDiff] <;> rfl)

end Go.AX.Z.TM

/-! (TMW rate Total run0) -/

set_option linter.unusedSimpArgs false
set_option linter.unusedVariables false
set_option maxHeartbeats 4000000
namespace Go.AX.Z.TM
open Go.AX Go.Proofs
attribute [local irreducible] awp xw xop xcall gsp ob xd xdop xcallD seqQ loopQ blkQ endQ

theorem rate_Total_run0 : ranX K 60 28 [vi 0, vi 1024] = some (.tup [vi 1452, vi 0]) := by kernel_rfl

end Go.AX.Z.TM

/-! (TMW rate Total run1) -/

set_option linter.unusedSimpArgs false
set_option linter.unusedVariables false
set_option maxHeartbeats 4000000
namespace Go.AX.Z.TM
open Go.AX Go.Proofs
attribute [local irreducible] awp xw xop xcall gsp ob xd xdop xcallD seqQ loopQ blkQ endQ

theorem rate_Total_run1 : ranX K 60 28 [vi 1, vi 1024] = some (.tup [vi 996, vi 0]) := by kernel_rfl

end Go.AX.Z.TM

/-! (TMW rate Total run2) -/

set_option linter.unusedSimpArgs false
set_option linter.unusedVariables false
set_option maxHeartbeats 4000000
namespace Go.AX.Z.TM
open Go.AX Go.Proofs
attribute [local irreducible] awp xw xop xcall gsp ob xd xdop xcallD seqQ loopQ blkQ endQ

theorem rate_Total_run2 : ranX K 60 28 [vi 2, vi 1024] = some (.tup [vi 756, vi 0]) := by kernel_rfl

end Go.AX.Z.TM

/-! (TMW rate Total run3) -/

set_option linter.unusedSimpArgs false
set_option linter.unusedVariables false
set_option maxHeartbeats 4000000
namespace Go.AX.Z.TM
open Go.AX Go.Proofs
attribute [local irreducible] awp xw xop xcall gsp ob xd xdop xcallD seqQ loopQ blkQ endQ

theorem rate_Total_run3 : ranX K 60 28 [vi 3, vi 1024] = some (.tup [vi 528, vi 0]) := by kernel_rfl

end Go.AX.Z.TM

/-! (TMW rate Total run4) -/

set_option linter.unusedSimpArgs false
set_option linter.unusedVariables false
set_option maxHeartbeats 4000000
namespace Go.AX.Z.TM
open Go.AX Go.Proofs
attribute [local irreducible] awp xw xop xcall gsp ob xd xdop xcallD seqQ loopQ blkQ endQ

theorem rate_Total_run4 : ranX K 60 28 [vi 4, vi 1024] = some (.tup [vi 396, vi 0]) := by kernel_rfl

end Go.AX.Z.TM

/-! (TMW rate Total run5) -/

set_option linter.unusedSimpArgs false
set_option linter.unusedVariables false
set_option maxHeartbeats 4000000
namespace Go.AX.Z.TM
open Go.AX Go.Proofs
attribute [local irreducible] awp xw xop xcall gsp ob xd xdop xcallD seqQ loopQ blkQ endQ

theorem rate_Total_run5 : ranX K 60 28 [vi 5, vi 1024] = some (.tup [vi 288, vi 0]) := by kernel_rfl

end Go.AX.Z.TM

/-! (TMW rate Total run6) -/

set_option linter.unusedSimpArgs false
set_option linter.unusedVariables false
set_option maxHeartbeats 4000000
namespace Go.AX.Z.TM
open Go.AX Go.Proofs
attribute [local irreducible] awp xw xop xcall gsp ob xd xdop xcallD seqQ loopQ blkQ endQ

theorem rate_Total_run6 : ranX K 60 28 [vi 6, vi 1024] = some (.tup [vi 232, vi 0]) := by kernel_rfl

end Go.AX.Z.TM

/-! (TMW rate Total run7) -/

set_option linter.unusedSimpArgs false
set_option linter.unusedVariables false
set_option maxHeartbeats 4000000
namespace Go.AX.Z.TM
open Go.AX Go.Proofs
attribute [local irreducible] awp xw xop xcall gsp ob xd xdop xcallD seqQ loopQ blkQ endQ

theorem rate_Total_run7 : ranX K 60 28 [vi 7, vi 1024] = some (.tup [vi 216, vi 0]) := by kernel_rfl

end Go.AX.Z.TM

/-! (TMW rate Total run8) -/

set_option linter.unusedSimpArgs false
set_option linter.unusedVariables false
set_option maxHeartbeats 4000000
namespace Go.AX.Z.TM
open Go.AX Go.Proofs
attribute [local irreducible] awp xw xop xcall gsp ob xd xdop xcallD seqQ loopQ blkQ endQ

theorem rate_Total_run8 : ranX K 60 28 [vi 8, vi 1024] = some (.tup [vi 192, vi 0]) := by kernel_rfl

end Go.AX.Z.TM

/-! (TMW rate Total run9) -/

set_option linter.unusedSimpArgs false
set_option linter.unusedVariables false
set_option maxHeartbeats 4000000
namespace Go.AX.Z.TM
open Go.AX Go.Proofs
attribute [local irreducible] awp xw xop xcall gsp ob xd xdop xcallD seqQ loopQ blkQ endQ

theorem rate_Total_run9 : ranX K 60 28 [vi 9, vi 1024] = some (.tup [vi 168, vi 0]) := by kernel_rfl

end Go.AX.Z.TM

/-! (TMW rate Total run10) -/

set_option linter.unusedSimpArgs false
set_option linter.unusedVariables false
set_option maxHeartbeats 4000000
namespace Go.AX.Z.TM
open Go.AX Go.Proofs
attribute [local irreducible] awp xw xop xcall gsp ob xd xdop xcallD seqQ loopQ blkQ endQ

theorem rate_Total_run10 : ranX K 60 28 [vi 10, vi 1024] = some (.tup [vi 148, vi 0]) := by kernel_rfl

end Go.AX.Z.TM

/-! (TMW rate Total run11) -/

set_option linter.unusedSimpArgs false
set_option linter.unusedVariables false
set_option maxHeartbeats 4000000
namespace Go.AX.Z.TM
open Go.AX Go.Proofs
attribute [local irreducible] awp xw xop xcall gsp ob xd xdop xcallD seqQ loopQ blkQ endQ

theorem rate_Total_run11 : ranX K 60 28 [vi 11, vi 1024] = some (.tup [vi 136, vi 0]) := by kernel_rfl

end Go.AX.Z.TM

/-! (TMW rate Total run12) -/

set_option linter.unusedSimpArgs false
set_option linter.unusedVariables false
set_option maxHeartbeats 4000000
namespace Go.AX.Z.TM
open Go.AX Go.Proofs
attribute [local irreducible] awp xw xop xcall gsp ob xd xdop xcallD seqQ loopQ blkQ endQ

theorem rate_Total_run12 : ranX K 60 28 [vi 12, vi 1024] = some (.tup [vi 0, vi 2]) := by kernel_rfl

end Go.AX.Z.TM

/-! (TMW rate Total) -/

set_option linter.unusedSimpArgs false
set_option linter.unusedVariables false
set_option maxHeartbeats 4000000
namespace Go.AX.Z.TM
open Go.AX Go.Proofs
attribute [local irreducible] awp xw xop xcall gsp ob xd xdop xcallD seqQ loopQ blkQ endQ

theorem rate_Total_p (a0 : Int) (a1 : Int) {r : (Int × Int)} (h0 : rate_Total a0 a1 = some r) : SndP K 28 [(vi a0), (vi a1)] (.tup [(vi r.1), (vi r.2)]) := by
 unfold rate_Total at h0
 rcases Bool.eq_false_or_eq_true ((a0 == 0) && (a1 == 1024)) with k0 | k0
 ·
  have h0 := cT h0 k0
  simp only [Bool.and_eq_true, beq_iff_eq] at k0
  obtain ⟨rfl, rfl⟩ := k0
  cases h0
  exact SndP.of_run hC rfl rfl rate_Total_run0
 have h0 := cF h0 k0
 rcases Bool.eq_false_or_eq_true ((a0 == 1) && (a1 == 1024)) with k1 | k1
 ·
  have h0 := cT h0 k1
  simp only [Bool.and_eq_true, beq_iff_eq] at k1
  obtain ⟨rfl, rfl⟩ := k1
  cases h0
  exact SndP.of_run hC rfl rfl rate_Total_run1
 have h0 := cF h0 k1
 rcases Bool.eq_false_or_eq_true ((a0 == 2) && (a1 == 1024)) with k2 | k2
 ·
  have h0 := cT h0 k2
  simp only [Bool.and_eq_true, beq_iff_eq] at k2
  obtain ⟨rfl, rfl⟩ := k2
  cases h0
  exact SndP.of_run hC rfl rfl rate_Total_run2
 have h0 := cF h0 k2
 rcases Bool.eq_false_or_eq_true ((a0 == 3) && (a1 == 1024)) with k3 | k3
 ·
  have h0 := cT h0 k3
  simp only [Bool.and_eq_true, beq_iff_eq] at k3
  obtain ⟨rfl, rfl⟩ := k3
  cases h0
  exact SndP.of_run hC rfl rfl rate_Total_run3
 have h0 := cF h0 k3
 rcases Bool.eq_false_or_eq_true ((a0 == 4) && (a1 == 1024)) with k4 | k4
 ·
  have h0 := cT h0 k4
  simp only [Bool.and_eq_true, beq_iff_eq] at k4
  obtain ⟨rfl, rfl⟩ := k4
  cases h0
  exact SndP.of_run hC rfl rfl rate_Total_run4
 have h0 := cF h0 k4
 rcases Bool.eq_false_or_eq_true ((a0 == 5) && (a1 == 1024)) with k5 | k5
 ·
  have h0 := cT h0 k5
  simp only [Bool.and_eq_true, beq_iff_eq] at k5
  obtain ⟨rfl, rfl⟩ := k5
  cases h0
  exact SndP.of_run hC rfl rfl rate_Total_run5
 have h0 := cF h0 k5
 rcases Bool.eq_false_or_eq_true ((a0 == 6) && (a1 == 1024)) with k6 | k6
 ·
  have h0 := cT h0 k6
  simp only [Bool.and_eq_true, beq_iff_eq] at k6
  obtain ⟨rfl, rfl⟩ := k6
  cases h0
  exact SndP.of_run hC rfl rfl rate_Total_run6
 have h0 := cF h0 k6
 rcases Bool.eq_false_or_eq_true ((a0 == 7) && (a1 == 1024)) with k7 | k7
 ·
  have h0 := cT h0 k7
  simp only [Bool.and_eq_true, beq_iff_eq] at k7
  obtain ⟨rfl, rfl⟩ := k7
  cases h0
  exact SndP.of_run hC rfl rfl rate_Total_run7
 have h0 := cF h0 k7
 rcases Bool.eq_false_or_eq_true ((a0 == 8) && (a1 == 1024)) with k8 | k8
 ·
  have h0 := cT h0 k8
  simp only [Bool.and_eq_true, beq_iff_eq] at k8
  obtain ⟨rfl, rfl⟩ := k8
  cases h0
  exact SndP.of_run hC rfl rfl rate_Total_run8
 have h0 := cF h0 k8
 rcases Bool.eq_false_or_eq_true ((a0 == 9) && (a1 == 1024)) with k9 | k9
 ·
  have h0 := cT h0 k9
  simp only [Bool.and_eq_true, beq_iff_eq] at k9
  obtain ⟨rfl, rfl⟩ := k9
  cases h0
  exact SndP.of_run hC rfl rfl rate_Total_run9
 have h0 := cF h0 k9
 rcases Bool.eq_false_or_eq_true ((a0 == 10) && (a1 == 1024)) with k10 | k10
 ·
  have h0 := cT h0 k10
  simp only [Bool.and_eq_true, beq_iff_eq] at k10
  obtain ⟨rfl, rfl⟩ := k10
  cases h0
  exact SndP.of_run hC rfl rfl rate_Total_run10
 have h0 := cF h0 k10
 rcases Bool.eq_false_or_eq_true ((a0 == 11) && (a1 == 1024)) with k11 | k11
 ·
  have h0 := cT h0 k11
  simp only [Bool.and_eq_true, beq_iff_eq] at k11
  obtain ⟨rfl, rfl⟩ := k11
  cases h0
  exact SndP.of_run hC rfl rfl rate_Total_run11
 have h0 := cF h0 k11
 rcases Bool.eq_false_or_eq_true ((a0 == 12) && (a1 == 1024)) with k12 | k12
 ·
  have h0 := cT h0 k12
  simp only [Bool.and_eq_true, beq_iff_eq] at k12
  obtain ⟨rfl, rfl⟩ := k12
  cases h0
  exact SndP.of_run hC rfl rfl rate_Total_run12
 have h0 := cF h0 k12
 cases h0

end Go.AX.Z.TM

/-! (TMW metric Cost) -/

set_option linter.unusedSimpArgs false
set_option linter.unusedVariables false
set_option maxHeartbeats 4000000
namespace Go.AX.Z.TM
open Go.AX Go.Proofs
attribute [local irreducible] awp xw xop xcall gsp ob xd xdop xcallD seqQ loopQ blkQ endQ


theorem metric_Cost_p (a0 : Int) (a1 : Int) {r : (Int × Int)} (h0 : metric_Cost a0 a1 = some r) : SndP K 12 [(vi a0), (vi a1)] (.tup [(vi r.1), (vi r.2)]) := by
 refine SndP.of_walkW hC (Clean.tup (clean_cons (Clean.v _) (clean_cons (Clean.v _) clean_nil))) (clean_cons (Clean.v _) (clean_cons (Clean.v _) clean_nil)) (show K.P.funcs[12]? = some Try.f12 from Try.func12) rfl rfl (by decide +kernel) (Nat.le_of_ble_eq_true rfl) ?_
 unfold metric_Cost at h0
 refine awp_nr [0,1] (fun _ => rfl) fun tz => ?_
 refine awp_regW fun KK hKK => ?_
 refine xw_id ?_
 try simp only [go_sem, Nat.reduceEqDiff, reduceIte, Nat.reduceAdd, Nat.reduceMul, Nat.reduceSub, Nat.reduceLT, Nat.reduceLeDiff]
 refine hKK _ _ (Wk.refl _ _ _) ?_; clear hKK KK
 refine awp_nr [0,1] (fun _ => rfl) fun tz => ?_
 refine awp_regW fun KK hKK => ?_
 refine xw_id ?_
 obtain ⟨x1, bx1, h0⟩ := bnd h0
 try simp only [go_sem, Nat.reduceEqDiff, reduceIte, Nat.reduceAdd, Nat.reduceMul, Nat.reduceSub, Nat.reduceLT, Nat.reduceLeDiff]
 refine xcall_p (rate_Total_p a0 1024 bx1) ?_; try dsimp only
 try refine xw_id ?_
 try simp only [go_sem, Nat.reduceEqDiff, reduceIte, Nat.reduceAdd, Nat.reduceMul, Nat.reduceSub, Nat.reduceLT, Nat.reduceLeDiff]
 refine hKK _ _ (Wk.refl _ _ _) ?_; clear hKK KK
 refine awp_assoc ?_
 refine awp_nr [1,6,7] (fun _ => rfl) fun tz => ?_
 refine awp_regW fun KK hKK => ?_
 refine xw_id ?_
 refine xw_stop 3 (by (try simp only [go_sem]); rfl) (by (try simp only [go_sem]); rfl) (by rfl) fun K1 hK1 => ?_
 refine xw_id ?_
 try simp only [go_sem, Nat.reduceEqDiff, reduceIte, Nat.reduceAdd, Nat.reduceMul, Nat.reduceSub, Nat.reduceLT, Nat.reduceLeDiff]
 refine hK1 _ ?_; clear hK1 K1
 refine xw_cut 3 [(1, (vi a1)), (6, (vi x1.1)), (19, (vb ((x1.2 != 0) || (decide (a1 < 0)))))] (by (try simp only [go_sem]); rfl) (by (try simp only [go_sem]); rfl) (by rfl) (fun K1 hK1 => ?_) fun tz => ?_
 ·
  refine xw_id ?_
  rcases Bool.eq_false_or_eq_true (x1.2 != 0) with h1 | h1
  ·
   try simp only [go_sem, Nat.reduceEqDiff, reduceIte, Nat.reduceAdd, Nat.reduceMul, Nat.reduceSub, Nat.reduceLT, Nat.reduceLeDiff, h1]
   exact hK1 _ ⟨rfl, rfl, rfl, (by first | rfl | (rw [h1]; rfl) | (simp only [h1, Bool.true_and, Bool.false_and, Bool.true_or, Bool.false_or, cond_true, cond_false]; done)), trivial⟩
  ·
   try simp only [go_sem, Nat.reduceEqDiff, reduceIte, Nat.reduceAdd, Nat.reduceMul, Nat.reduceSub, Nat.reduceLT, Nat.reduceLeDiff, h1]
   exact hK1 _ ⟨rfl, rfl, rfl, (by first | rfl | (rw [h1]; rfl) | (simp only [h1, Bool.true_and, Bool.false_and, Bool.true_or, Bool.false_or, cond_true, cond_false]; done)), trivial⟩
 ·
  refine xw_id ?_
  refine xw_stop 1 (by (try simp only [go_sem]); rfl) (by (try simp only [go_sem]); rfl) (by rfl) fun K1 hK1 => ?_
  refine xw_id ?_
  try simp only [go_sem, Nat.reduceEqDiff, reduceIte, Nat.reduceAdd, Nat.reduceMul, Nat.reduceSub, Nat.reduceLT, Nat.reduceLeDiff]
  refine hK1 _ ?_; clear hK1 K1
  refine xw_cut 3 [(1, (vi a1)), (6, (vi x1.1)), (23, (vb (((x1.2 != 0) || (decide (a1 < 0))) || (decide (1000 < a1)))))] (by (try simp only [go_sem]); rfl) (by (try simp only [go_sem]); rfl) (by rfl) (fun K1 hK1 => ?_) fun tz => ?_
  ·
   refine xw_id ?_
   rcases Bool.eq_false_or_eq_true ((x1.2 != 0) || (decide (a1 < 0))) with h2 | h2
   ·
    try simp only [go_sem, Nat.reduceEqDiff, reduceIte, Nat.reduceAdd, Nat.reduceMul, Nat.reduceSub, Nat.reduceLT, Nat.reduceLeDiff, h2]
    exact hK1 _ ⟨rfl, rfl, rfl, (by first | rfl | (rw [h2]; rfl) | (simp only [h2, Bool.true_and, Bool.false_and, Bool.true_or, Bool.false_or, cond_true, cond_false]; done)), trivial⟩
   ·
    try simp only [go_sem, Nat.reduceEqDiff, reduceIte, Nat.reduceAdd, Nat.reduceMul, Nat.reduceSub, Nat.reduceLT, Nat.reduceLeDiff, h2]
    exact hK1 _ ⟨rfl, rfl, rfl, (by first | rfl | (rw [h2]; rfl) | (simp only [h2, Bool.true_and, Bool.false_and, Bool.true_or, Bool.false_or, cond_true, cond_false]; done)), trivial⟩
  ·
   refine xw_id ?_
   try simp only [go_sem, Nat.reduceEqDiff, reduceIte, Nat.reduceAdd, Nat.reduceMul, Nat.reduceSub, Nat.reduceLT, Nat.reduceLeDiff]
   refine hKK _ _ (Wk.refl _ _ _) ?_; clear hKK KK
   refine awp_cond (b := (((x1.2 != 0) || (decide (a1 < 0))) || (decide (1000 < a1)))) rfl (fun h3 => ?_) (fun h3 => ?_)
   ·
    have h0 := cT h0 h3
    refine awp_assoc ?_
    refine awp_nr [] (fun _ => rfl) fun tz => ?_
    refine awp_regW fun KK hKK => ?_
    refine xw_id ?_
    try simp only [go_sem, Nat.reduceEqDiff, reduceIte, Nat.reduceAdd, Nat.reduceMul, Nat.reduceSub, Nat.reduceLT, Nat.reduceLeDiff]
    refine hKK _ _ (Wk.refl _ _ _) ?_; clear hKK KK
    refine awp_ret ?_
    obtain rfl := someInj h0
    refine endW_i ?_
    refine end_ret0 rs12 (rfl) ?_
    try simp only [go_sem, Nat.reduceEqDiff, reduceIte, Nat.reduceAdd, Nat.reduceMul, Nat.reduceSub, Nat.reduceLT, Nat.reduceLeDiff, fz, nilS, packR, List.take_nil, List.take_length, List.length_map, List.length_append, cond_true, cond_false, Nat.ble_eq, ble_self, List.map_append]
    all_goals rfl
   ·
    have h0 := cF h0 h3
    refine awp_skip ?_
    refine awp_nr [1,6] (fun _ => rfl) fun tz => ?_
    refine awp_regW fun KK hKK => ?_
    refine xw_id ?_
    try simp only [go_sem, Nat.reduceEqDiff, reduceIte, Nat.reduceAdd, Nat.reduceMul, Nat.reduceSub, Nat.reduceLT, Nat.reduceLeDiff]
    refine hKK _ _ (Wk.refl _ _ _) ?_; clear hKK KK
    refine awp_assoc ?_
    refine awp_nr [6,8] (fun _ => rfl) fun tz => ?_
    refine awp_regW fun KK hKK => ?_
    refine xw_id ?_
    try simp only [go_sem, Nat.reduceEqDiff, reduceIte, Nat.reduceAdd, Nat.reduceMul, Nat.reduceSub, Nat.reduceLT, Nat.reduceLeDiff]
    refine hKK _ _ (Wk.refl _ _ _) ?_; clear hKK KK
    refine awp_cond (b := ((IntKind.wrap .i64 (1000 - a1)) == 0)) rfl (fun h4 => ?_) (fun h4 => ?_)
    ·
     have h0 := cT h0 h4
     refine awp_assoc ?_
     refine awp_nr [] (fun _ => rfl) fun tz => ?_
     refine awp_regW fun KK hKK => ?_
     refine xw_id ?_
     try simp only [go_sem, Nat.reduceEqDiff, reduceIte, Nat.reduceAdd, Nat.reduceMul, Nat.reduceSub, Nat.reduceLT, Nat.reduceLeDiff]
     refine hKK _ _ (Wk.refl _ _ _) ?_; clear hKK KK
     refine awp_ret ?_
     obtain rfl := someInj h0
     refine endW_i ?_
     refine end_ret0 rs12 (rfl) ?_
     try simp only [go_sem, Nat.reduceEqDiff, reduceIte, Nat.reduceAdd, Nat.reduceMul, Nat.reduceSub, Nat.reduceLT, Nat.reduceLeDiff, fz, nilS, packR, List.take_nil, List.take_length, List.length_map, List.length_append, cond_true, cond_false, Nat.ble_eq, ble_self, List.map_append]
     all_goals rfl
    ·
     have h0 := cF h0 h4
     refine awp_skip ?_
     refine awp_nr [6,8] (fun _ => rfl) fun tz => ?_
     refine awp_regW fun KK hKK => ?_
     refine xw_id ?_
     obtain ⟨x2, bx2, h0⟩ := bnd h0
     have bx2 := chk_some bx2
     simp only [Bool.and_eq_true, decide_eq_true_eq] at bx2
     have gx2_0 := bx2
     try simp only [go_sem, Nat.reduceEqDiff, reduceIte, Nat.reduceAdd, Nat.reduceMul, Nat.reduceSub, Nat.reduceLT, Nat.reduceLeDiff, gx2_0]
     refine hKK _ _ (Wk.refl _ _ _) ?_; clear hKK KK
     refine awp_ret1 ?_
     obtain rfl := someInj h0
     refine endW_i ?_
     refine end_ret0 rs12 (rfl) ?_
     try simp only [go_sem, Nat.reduceEqDiff, reduceIte, Nat.reduceAdd, Nat.reduceMul, Nat.reduceSub, Nat.reduceLT, Nat.reduceLeDiff, fz, nilS, packR, List.take_nil, List.take_length, List.length_map, List.length_append, cond_true, cond_false, Nat.ble_eq, ble_self, List.map_append]
     all_goals rfl

end Go.AX.Z.TM

/-! (TMW metric old) -/

set_option linter.unusedSimpArgs false
set_option linter.unusedVariables false
set_option maxHeartbeats 4000000
namespace Go.AX.Z.TM
open Go.AX Go.Proofs
attribute [local irreducible] awp xw xop xcall gsp ob xd xdop xcallD seqQ loopQ blkQ endQ


theorem metric_old_p (a0 : Int) {r : Int} (h0 : metric_old a0 = some r) : SndP K 41 [(vi a0)] (.clo 53 [] [(.iptr [(vi r)] 0)]) := by
 refine SndP.of_walkW hC (Clean.clo clean_nil (clean_cons (Clean.iptr (clean_cons (Clean.v _) clean_nil)) clean_nil)) (clean_cons (Clean.v _) clean_nil) (show K.P.funcs[41]? = some Try.f41 from Try.func41) rfl rfl (by decide +kernel) (Nat.le_of_ble_eq_true rfl) ?_
 unfold metric_old at h0
 refine awp_nr [0] (fun _ => rfl) fun tz => ?_
 refine awp_regW fun KK hKK => ?_
 refine xw_id ?_
 try simp only [go_sem, Nat.reduceEqDiff, reduceIte, Nat.reduceAdd, Nat.reduceMul, Nat.reduceSub, Nat.reduceLT, Nat.reduceLeDiff]
 refine hKK _ _ (Wk.refl _ _ _) ?_; clear hKK KK
 refine awp_nr [1] (fun _ => rfl) fun tz => ?_
 refine awp_regW fun KK hKK => ?_
 refine xw_id ?_
 try simp only [go_sem, Nat.reduceEqDiff, reduceIte, Nat.reduceAdd, Nat.reduceMul, Nat.reduceSub, Nat.reduceLT, Nat.reduceLeDiff]
 refine hKK _ _ (Wk.refl _ _ _) ?_; clear hKK KK
 refine awp_ret1 ?_
 obtain rfl := someInj h0
 refine endW_i ?_
 refine end_ret0 rs41 (rfl) ?_
 try simp only [go_sem, Nat.reduceEqDiff, reduceIte, Nat.reduceAdd, Nat.reduceMul, Nat.reduceSub, Nat.reduceLT, Nat.reduceLeDiff, fz, nilS, packR, List.take_nil, List.take_length, List.length_map, List.length_append, cond_true, cond_false, Nat.ble_eq, ble_self, List.map_append]
 all_goals rfl

end Go.AX.Z.TM

/-! (TMW metric old 1) -/

set_option linter.unusedSimpArgs false
set_option linter.unusedVariables false
set_option maxHeartbeats 4000000
namespace Go.AX.Z.TM
open Go.AX Go.Proofs
attribute [local irreducible] awp xw xop xcall gsp ob xd xdop xcallD seqQ loopQ blkQ endQ


theorem metric_old_1_p (a0 : MetricLink) (a1 : Int) {r : Bool} (h0 : metric_old_1 a0 a1 = some r) : SndP K 53 [(.agg (e_MetricLink a0)), (.iptr [(vi a1)] 0)] (vb r) := by
 refine SndP.of_walkW hC (Clean.v _) (clean_cons (Clean.agg (e_MetricLink_clean _)) (clean_cons (Clean.iptr (clean_cons (Clean.v _) clean_nil)) clean_nil)) (show K.P.funcs[53]? = some Try.f53 from Try.func53) rfl rfl (by decide +kernel) (Nat.le_of_ble_eq_true rfl) ?_
 unfold metric_old_1 at h0
 refine awp_nr [0,1] (fun _ => rfl) fun tz => ?_
 refine awp_regW fun KK hKK => ?_
 refine xw_id ?_
 try simp only [go_sem, Nat.reduceEqDiff, reduceIte, Nat.reduceAdd, Nat.reduceMul, Nat.reduceSub, Nat.reduceLT, Nat.reduceLeDiff]
 refine hKK _ _ (Wk.refl _ _ _) ?_; clear hKK KK
 refine awp_nr [1,2] (fun _ => rfl) fun tz => ?_
 refine awp_regW fun KK hKK => ?_
 refine xw_id ?_
 try simp only [go_sem, Nat.reduceEqDiff, reduceIte, Nat.reduceAdd, Nat.reduceMul, Nat.reduceSub, Nat.reduceLT, Nat.reduceLeDiff]
 refine hKK _ _ (Wk.refl _ _ _) ?_; clear hKK KK
 refine awp_ret1 ?_
 obtain rfl := someInj h0
 refine endW_i ?_
 refine end_ret0 rs53 (rfl) ?_
 try simp only [go_sem, Nat.reduceEqDiff, reduceIte, Nat.reduceAdd, Nat.reduceMul, Nat.reduceSub, Nat.reduceLT, Nat.reduceLeDiff, fz, nilS, packR, List.take_nil, List.take_length, List.length_map, List.length_append, cond_true, cond_false, Nat.ble_eq, ble_self, List.map_append]
 all_goals rfl

end Go.AX.Z.TM

/-! (TMW metric Of) -/

set_option linter.unusedSimpArgs false
set_option linter.unusedVariables false
set_option maxHeartbeats 4000000
namespace Go.AX.Z.TM
open Go.AX Go.Proofs
attribute [local irreducible] awp xw xop xcall gsp ob xd xdop xcallD seqQ loopQ blkQ endQ

def metric_Of_S0 (a0 : MetricTable) (a2 : Int) (x23 : (Int × Bool)) : AS :=
 { objs := (upd (fun _ => .dead) 0 (.live (e_MetricTable a0 (.imm (List.flatMap e_MetricLink a0.Links) a0.Links.length)))), next := 1, tmps := (upd (upd (upd (upd (fun _ => .unk) 2 (vi a2)) 3 (.ptr 0 0)) 9 (vi x23.1)) 10 (vb x23.2)) }

theorem metric_Of_p (a0 : MetricTable) (a1 : Addr) (a2 : Int) {r : (Int × Int)} (h0 : metric_Of a0 a1 a2 = some r) : SndP K 22 [(.agg (E_MetricTable a0)), (.agg (e_Addr a1)), (vi a2)] (.tup [(vi r.1), (vi r.2)]) := by
 refine SndP.of_walkW hC (Clean.tup (clean_cons (Clean.v _) (clean_cons (Clean.v _) clean_nil))) (clean_cons (Clean.agg (E_MetricTable_clean _)) (clean_cons (Clean.agg (e_Addr_clean _)) (clean_cons (Clean.v _) clean_nil))) (show K.P.funcs[22]? = some Try.f22 from Try.func22) rfl rfl (by decide +kernel) (Nat.le_of_ble_eq_true rfl) ?_
 unfold metric_Of at h0
 refine awp_nr [0,1,2] (fun _ => rfl) fun tz => ?_
 refine awp_regW fun KK hKK => ?_
 refine xw_id ?_
 try simp only [go_sem, Nat.reduceEqDiff, reduceIte, Nat.reduceAdd, Nat.reduceMul, Nat.reduceSub, Nat.reduceLT, Nat.reduceLeDiff]
 refine hKK _ _ (Wk.refl _ _ _) ?_; clear hKK KK
 refine awp_assoc ?_
 refine awp_nr [2,3,4] (fun _ => rfl) fun tz => ?_
 refine awp_regW fun KK hKK => ?_
 refine xw_id ?_
 obtain ⟨x22, bx22, h0⟩ := bnd h0
 try simp only [go_sem, Nat.reduceEqDiff, reduceIte, Nat.reduceAdd, Nat.reduceMul, Nat.reduceSub, Nat.reduceLT, Nat.reduceLeDiff]
 refine xcall_p (metric_checked_p a0 a2 bx22) ?_; try dsimp only
 try refine xw_id ?_
 try simp only [go_sem, Nat.reduceEqDiff, reduceIte, Nat.reduceAdd, Nat.reduceMul, Nat.reduceSub, Nat.reduceLT, Nat.reduceLeDiff]
 refine hKK _ _ (Wk.refl _ _ _) ?_; clear hKK KK
 refine awp_assoc ?_
 refine awp_nr [2,3,4,8] (fun _ => rfl) fun tz => ?_
 refine awp_regW fun KK hKK => ?_
 refine xw_id ?_
 try simp only [go_sem, Nat.reduceEqDiff, reduceIte, Nat.reduceAdd, Nat.reduceMul, Nat.reduceSub, Nat.reduceLT, Nat.reduceLeDiff]
 refine hKK _ _ (Wk.refl _ _ _) ?_; clear hKK KK
 refine awp_cond (b := (x22 != 0)) rfl (fun h1 => ?_) (fun h1 => ?_)
 ·
  have h0 := cT h0 h1
  refine awp_assoc ?_
  refine awp_nr [8] (fun _ => rfl) fun tz => ?_
  refine awp_regW fun KK hKK => ?_
  refine xw_id ?_
  try simp only [go_sem, Nat.reduceEqDiff, reduceIte, Nat.reduceAdd, Nat.reduceMul, Nat.reduceSub, Nat.reduceLT, Nat.reduceLeDiff]
  refine hKK _ _ (Wk.refl _ _ _) ?_; clear hKK KK
  refine awp_ret ?_
  obtain rfl := someInj h0
  refine endW_i ?_
  refine end_ret0 rs22 (rfl) ?_
  try simp only [go_sem, Nat.reduceEqDiff, reduceIte, Nat.reduceAdd, Nat.reduceMul, Nat.reduceSub, Nat.reduceLT, Nat.reduceLeDiff, fz, nilS, packR, List.take_nil, List.take_length, List.length_map, List.length_append, cond_true, cond_false, Nat.ble_eq, ble_self, List.map_append]
  all_goals rfl
 ·
  have h0 := cF h0 h1
  refine awp_skip ?_
  refine awp_nr [2,3,4] (fun _ => rfl) fun tz => ?_
  refine awp_regW fun KK hKK => ?_
  refine xw_id ?_
  obtain ⟨x23, bx23, h0⟩ := bnd h0
  try simp only [go_sem, Nat.reduceEqDiff, reduceIte, Nat.reduceAdd, Nat.reduceMul, Nat.reduceSub, Nat.reduceLT, Nat.reduceLeDiff]
  refine xcall_p (metric_find_p a0 a1 bx23) ?_; try dsimp only
  try refine xw_id ?_
  try simp only [go_sem, Nat.reduceEqDiff, reduceIte, Nat.reduceAdd, Nat.reduceMul, Nat.reduceSub, Nat.reduceLT, Nat.reduceLeDiff]
  refine hKK _ (metric_Of_S0 a0 a2 x23) (Wk.canonD [] [] [some 0] rfl trivial rfl (tmOU 0 tmO0 rfl List.not_mem_nil (by simp only [upd_get, Nat.reduceEqDiff, reduceIte, Nat.reduceAdd, Nat.reduceMul, Nat.reduceSub, Nat.reduceLT, Nat.reduceLeDiff, if_true, if_false] <;> rfl) (e_MetricTable_tmx (by rfl) (Tm.clean (Clean.imm (c_MetricLink _))))) (tmAllU 10 (tmAllU 9 (tmAllU 3 (tmAllU 2 tmAll0 (Tm.v _)) (Tm.ptr rfl)) (Tm.v _)) (Tm.v _))) ?_; clear hKK KK
  unfold metric_Of_S0
  refine awp_assoc ?_
  refine awp_nr [2,3,9,10] (fun _ => rfl) fun tz => ?_
  refine awp_regW fun KK hKK => ?_
  refine xw_id ?_
  refine xw_stop 3 (by (try simp only [go_sem]); rfl) (by (try simp only [go_sem]); rfl) (by rfl) fun K1 hK1 => ?_
  refine xw_id ?_
  try simp only [go_sem, Nat.reduceEqDiff, reduceIte, Nat.reduceAdd, Nat.reduceMul, Nat.reduceSub, Nat.reduceLT, Nat.reduceLeDiff]
  refine hK1 _ ?_; clear hK1 K1
  obtain ⟨x27, hvh2, h0⟩ := bnd h0
  refine xw_cut 9 [(3, (.ptr 0 0)), (9, (vi x23.1)), (34, (vb x27))] (by (try simp only [go_sem]); rfl) (by (try simp only [go_sem]); rfl) (by rfl) (fun K1 hK1 => ?_) fun tz => ?_
  ·
   refine xw_id ?_
   rcases Bool.eq_false_or_eq_true (!x23.2) with h2 | h2
   ·
    have hvh2 := cT hvh2 h2
    try simp only [go_sem, Nat.reduceEqDiff, reduceIte, Nat.reduceAdd, Nat.reduceMul, Nat.reduceSub, Nat.reduceLT, Nat.reduceLeDiff, h2]
    obtain rfl := someInj hvh2
    exact hK1 _ ⟨rfl, rfl, rfl, (by first | rfl | (rw [h2]; rfl) | (simp only [h2, Bool.true_and, Bool.false_and, Bool.true_or, Bool.false_or, cond_true, cond_false]; done)), trivial⟩
   ·
    have hvh2 := cF hvh2 h2
    obtain ⟨x24, bx24, hvh2⟩ := bnd hvh2
    try simp only [go_sem, Nat.reduceEqDiff, reduceIte, Nat.reduceAdd, Nat.reduceMul, Nat.reduceSub, Nat.reduceLT, Nat.reduceLeDiff, h2]
    refine xcall_p (metric_old_p a2 bx24) ?_; try dsimp only
    try refine xw_id ?_
    obtain ⟨x25, bx25, hvh2⟩ := bnd hvh2
    obtain ⟨fx25_0, fx25_1, fx25_2, fx25_3⟩ := idx_some bx25
    obtain ⟨x26, bx26, hvh2⟩ := bnd hvh2
    try simp only [go_sem, Nat.reduceEqDiff, reduceIte, Nat.reduceAdd, Nat.reduceMul, Nat.reduceSub, Nat.reduceLT, Nat.reduceLeDiff, h2, fx25_0, fx25_1, fx25_2]
    refine xcall_p (metric_old_1_p x25 x24 bx26) ?_; try dsimp only
    try refine xw_id ?_
    try simp only [go_sem, Nat.reduceEqDiff, reduceIte, Nat.reduceAdd, Nat.reduceMul, Nat.reduceSub, Nat.reduceLT, Nat.reduceLeDiff, h2, fx25_0, fx25_1, fx25_2]
    obtain rfl := someInj hvh2
    exact hK1 _ ⟨rfl, rfl, rfl, (by first | rfl | (rw [h2]; rfl) | (simp only [h2, Bool.true_and, Bool.false_and, Bool.true_or, Bool.false_or, cond_true, cond_false]; done)), trivial⟩
  ·
   refine xw_id ?_
   try simp only [go_sem, Nat.reduceEqDiff, reduceIte, Nat.reduceAdd, Nat.reduceMul, Nat.reduceSub, Nat.reduceLT, Nat.reduceLeDiff]
   refine hKK _ _ (Wk.refl _ _ _) ?_; clear hKK KK
   refine awp_cond (b := x27) rfl (fun h3 => ?_) (fun h3 => ?_)
   ·
    have h0 := cT h0 h3
    refine awp_assoc ?_
    refine awp_nr [] (fun _ => rfl) fun tz => ?_
    refine awp_regW fun KK hKK => ?_
    refine xw_id ?_
    try simp only [go_sem, Nat.reduceEqDiff, reduceIte, Nat.reduceAdd, Nat.reduceMul, Nat.reduceSub, Nat.reduceLT, Nat.reduceLeDiff]
    refine hKK _ _ (Wk.refl _ _ _) ?_; clear hKK KK
    refine awp_ret ?_
    obtain rfl := someInj h0
    refine endW_i ?_
    refine end_ret0 rs22 (rfl) ?_
    try simp only [go_sem, Nat.reduceEqDiff, reduceIte, Nat.reduceAdd, Nat.reduceMul, Nat.reduceSub, Nat.reduceLT, Nat.reduceLeDiff, fz, nilS, packR, List.take_nil, List.take_length, List.length_map, List.length_append, cond_true, cond_false, Nat.ble_eq, ble_self, List.map_append]
    all_goals rfl
   ·
    have h0 := cF h0 h3
    refine awp_skip ?_
    refine awp_nr [3,9] (fun _ => rfl) fun tz => ?_
    refine awp_regW fun KK hKK => ?_
    refine xw_id ?_
    obtain ⟨x28, bx28, h0⟩ := bnd h0
    obtain ⟨fx28_0, fx28_1, fx28_2, fx28_3⟩ := idx_some bx28
    obtain ⟨x29, bx29, h0⟩ := bnd h0
    try simp only [go_sem, Nat.reduceEqDiff, reduceIte, Nat.reduceAdd, Nat.reduceMul, Nat.reduceSub, Nat.reduceLT, Nat.reduceLeDiff, fx28_0, fx28_1, fx28_2]
    refine xcall_p (metric_Cost_p x28.Rate x28.Loss bx29) ?_; try dsimp only
    try refine xw_id ?_
    try simp only [go_sem, Nat.reduceEqDiff, reduceIte, Nat.reduceAdd, Nat.reduceMul, Nat.reduceSub, Nat.reduceLT, Nat.reduceLeDiff, fx28_0, fx28_1, fx28_2]
    refine hKK _ _ (Wk.refl _ _ _) ?_; clear hKK KK
    refine awp_ret1 ?_
    obtain rfl := someInj h0
    refine endW_i ?_
    refine end_ret0 rs22 (rfl) ?_
    try simp only [go_sem, Nat.reduceEqDiff, reduceIte, Nat.reduceAdd, Nat.reduceMul, Nat.reduceSub, Nat.reduceLT, Nat.reduceLeDiff, fz, nilS, packR, List.take_nil, List.take_length, List.length_map, List.length_append, cond_true, cond_false, Nat.ble_eq, ble_self, List.map_append]
    all_goals rfl

end Go.AX.Z.TM

/-! (TMW hotspotref38 Same) -/

set_option linter.unusedSimpArgs false
set_option linter.unusedVariables false
set_option maxHeartbeats 4000000
namespace Go.AX.Z.TM
open Go.AX Go.Proofs
attribute [local irreducible] awp xw xop xcall gsp ob xd xdop xcallD seqQ loopQ blkQ endQ

def hotspotref38_Same_S0 (d30 : Unit) : AS :=
 { objs := (fun _ => .dead), next := 0, tmps := (fun _ => .unk) }

def hotspotref38_Same_S1 (a0 : MetricTable) (a1 : MetricTable) (d32 : Int) : AS :=
 { objs := (upd (upd (fun _ => .dead) 0 (.live (e_MetricTable a0 (.imm (List.flatMap e_MetricLink a0.Links) a0.Links.length)))) 1 (.live (e_MetricTable a1 (.imm (List.flatMap e_MetricLink a1.Links) a1.Links.length)))), next := 2, tmps := (upd (upd (upd (fun _ => .unk) 2 (.ptr 0 0)) 3 (.ptr 1 0)) 5 (vi d32)) }

theorem hotspotref38_Same_p (a0 : MetricTable) (a1 : MetricTable) {r : Bool} (h0 : hotspotref38_Same a0 a1 = some r) : SndP K 20 [(.agg (E_MetricTable a0)), (.agg (E_MetricTable a1))] (vb r) := by
 refine SndP.of_walkW hC (Clean.v _) (clean_cons (Clean.agg (E_MetricTable_clean _)) (clean_cons (Clean.agg (E_MetricTable_clean _)) clean_nil)) (show K.P.funcs[20]? = some Try.f20 from Try.func20) rfl rfl (by decide +kernel) (Nat.le_of_ble_eq_true rfl) ?_
 unfold hotspotref38_Same at h0
 refine awp_nr [0,1] (fun _ => rfl) fun tz => ?_
 refine awp_regW fun KK hKK => ?_
 refine xw_id ?_
 try simp only [go_sem, Nat.reduceEqDiff, reduceIte, Nat.reduceAdd, Nat.reduceMul, Nat.reduceSub, Nat.reduceLT, Nat.reduceLeDiff]
 refine hKK _ _ (Wk.refl _ _ _) ?_; clear hKK KK
 refine awp_assoc ?_
 refine awp_nr [2,3] (fun _ => rfl) fun tz => ?_
 refine awp_regW fun KK hKK => ?_
 refine xw_id ?_
 try simp only [go_sem, Nat.reduceEqDiff, reduceIte, Nat.reduceAdd, Nat.reduceMul, Nat.reduceSub, Nat.reduceLT, Nat.reduceLeDiff, Int.reduceToNat, Int.reduceBEq, Int.reduceBNe, Int.reduceLT, Int.reduceLE, Int.reduceAdd, Int.reduceSub, Int.reduceMul, Int.reduceNeg, Int.reduceEq, Int.reduceNe]
 refine hKK _ _ (Wk.refl _ _ _) ?_; clear hKK KK
 refine awp_cond (b := ((a0.Links.length : Int) != (a1.Links.length : Int))) rfl (fun h1 => ?_) (fun h1 => ?_)
 ·
  have h0 := cT h0 h1
  refine awp_assoc ?_
  refine awp_nr [] (fun _ => rfl) fun tz => ?_
  refine awp_regW fun KK hKK => ?_
  refine xw_id ?_
  try simp only [go_sem, Nat.reduceEqDiff, reduceIte, Nat.reduceAdd, Nat.reduceMul, Nat.reduceSub, Nat.reduceLT, Nat.reduceLeDiff]
  refine hKK _ _ (Wk.refl _ _ _) ?_; clear hKK KK
  refine awp_ret ?_
  obtain rfl := someInj h0
  refine endW_i ?_
  refine end_ret0 rs20 (rfl) ?_
  try simp only [go_sem, Nat.reduceEqDiff, reduceIte, Nat.reduceAdd, Nat.reduceMul, Nat.reduceSub, Nat.reduceLT, Nat.reduceLeDiff, fz, nilS, packR, List.take_nil, List.take_length, List.length_map, List.length_append, cond_true, cond_false, Nat.ble_eq, ble_self, List.map_append]
  all_goals rfl
 ·
  have h0 := cF h0 h1
  refine awp_skip ?_
  refine awp_assoc ?_
  refine awp_nr [2,3] (fun _ => rfl) fun tz => ?_
  refine awp_regW fun KK hKK => ?_
  refine xw_id ?_
  try simp only [go_sem, Nat.reduceEqDiff, reduceIte, Nat.reduceAdd, Nat.reduceMul, Nat.reduceSub, Nat.reduceLT, Nat.reduceLeDiff]
  refine hKK _ _ (Wk.refl _ _ _) ?_; clear hKK KK
  obtain ⟨o31, hi2, h0⟩ := bnd h0
  refine awp_cut (fun d30 : Unit => o31 = Ex.go d30) (fun d30 : Unit => hotspotref38_Same_S0 d30) ?_ ?_
  ·
   refine awp_block1 ?_
   refine awp_loopS (fun n (d32 : Int) => hotspotref38_Same_L2 a0 a1 n d32 = some o31) (fun d32 : Int => hotspotref38_Same_S1 a0 a1 d32) big 0 (Wk.canonD [] [] [some 0, some 1] rfl trivial rfl (tmOU 1 (tmOU 0 tmO0 rfl List.not_mem_nil (by simp only [upd_get, Nat.reduceEqDiff, reduceIte, Nat.reduceAdd, Nat.reduceMul, Nat.reduceSub, Nat.reduceLT, Nat.reduceLeDiff, if_true, if_false] <;> rfl) (e_MetricTable_tmx (by rfl) (Tm.clean (Clean.imm (c_MetricLink _))))) rfl List.not_mem_nil (by simp only [upd_get, Nat.reduceEqDiff, reduceIte, Nat.reduceAdd, Nat.reduceMul, Nat.reduceSub, Nat.reduceLT, Nat.reduceLeDiff, if_true, if_false] <;> rfl) (e_MetricTable_tmx (by rfl) (Tm.clean (Clean.imm (c_MetricLink _))))) (tmAllU 5 (tmAllU 3 (tmAllU 2 tmAll0 (Tm.ptr rfl)) (Tm.ptr rfl)) (Tm.v _))) hi2 ?_
   clear hi2
   rintro n d32 hl4
   rcases n with _ | n3
   ·
    (rw [hotspotref38_Same_L2] at hl4; cases hl4)
   ·
    rw [hotspotref38_Same_L2] at hl4
    unfold hotspotref38_Same_S1
    refine awp_assoc ?_
    refine awp_nr [2,3,5] (fun _ => rfl) fun tz => ?_
    refine awp_regW fun KK hKK => ?_
    refine xw_id ?_
    try simp only [go_sem, Nat.reduceEqDiff, reduceIte, Nat.reduceAdd, Nat.reduceMul, Nat.reduceSub, Nat.reduceLT, Nat.reduceLeDiff, Int.reduceToNat, Int.reduceBEq, Int.reduceBNe, Int.reduceLT, Int.reduceLE, Int.reduceAdd, Int.reduceSub, Int.reduceMul, Int.reduceNeg, Int.reduceEq, Int.reduceNe]
    refine hKK _ _ (Wk.refl _ _ _) ?_; clear hKK KK
    refine awp_cond (b := (decide (d32 < (a0.Links.length : Int)))) rfl (fun h5 => ?_) (fun h5 => ?_)
    ·
     have hl4 := cT hl4 h5
     refine awp_skip ?_
     refine awp_blockW ?_
     refine awp_nr [2,3,5] (fun _ => rfl) fun tz => ?_
     refine awp_regW fun KK hKK => ?_
     refine xw_id ?_
     obtain ⟨x33, bx33, hl4⟩ := bnd hl4
     obtain ⟨fx33_0, fx33_1, fx33_2, fx33_3⟩ := idx_some bx33
     obtain ⟨x34, bx34, hl4⟩ := bnd hl4
     obtain ⟨fx34_0, fx34_1, fx34_2, fx34_3⟩ := idx_some bx34
     try simp only [go_sem, Nat.reduceEqDiff, reduceIte, Nat.reduceAdd, Nat.reduceMul, Nat.reduceSub, Nat.reduceLT, Nat.reduceLeDiff, fx33_0, fx33_1, fx33_2, fx34_0, fx34_1, fx34_2]
     refine hKK _ _ (Wk.refl _ _ _) ?_; clear hKK KK
     refine awp_cond1 (b := (!decide (x33 = x34))) rfl (fun h6 => ?_) (fun h6 => ?_)
     ·
      have hl4 := cT hl4 h6
      refine awp_nr [] (fun _ => rfl) fun tz => ?_
      refine awp_regW fun KK hKK => ?_
      refine xw_id ?_
      try simp only [go_sem, Nat.reduceEqDiff, reduceIte, Nat.reduceAdd, Nat.reduceMul, Nat.reduceSub, Nat.reduceLT, Nat.reduceLeDiff, fx33_0, fx33_1, fx33_2, fx34_0, fx34_1, fx34_2]
      refine hKK _ _ (Wk.refl _ _ _) ?_; clear hKK KK
      refine awp_ret1 ?_
      refine bq_r ?_
      refine sq_r ?_
      refine lq_r ?_
      refine bq_r ?_
      refine sq_r ?_
      obtain rfl := someInj hl4
      obtain rfl := Ex.k_ret h0
      refine endW_i ?_
      refine end_ret0 rs20 (rfl) ?_
      try simp only [go_sem, Nat.reduceEqDiff, reduceIte, Nat.reduceAdd, Nat.reduceMul, Nat.reduceSub, Nat.reduceLT, Nat.reduceLeDiff, fz, nilS, packR, List.take_nil, List.take_length, List.length_map, List.length_append, cond_true, cond_false, Nat.ble_eq, ble_self, List.map_append]
      all_goals rfl
     ·
      have hl4 := cF hl4 h6
      refine awp_skip1 ?_
      refine bq_n ?_
      refine seqW_i ?_
      refine awp_nr1 [2,3,5] (fun _ => rfl) fun tz => ?_
      refine awp_reg1 fun KK hKK => ?_
      refine xw_id ?_
      try simp only [go_sem, Nat.reduceEqDiff, reduceIte, Nat.reduceAdd, Nat.reduceMul, Nat.reduceSub, Nat.reduceLT, Nat.reduceLeDiff, fx33_0, fx33_1, fx33_2, fx34_0, fx34_1, fx34_2]
      refine hKK _ ?_; clear hKK KK
      refine lq_n ?_
      exact ⟨n3, IntKind.wrap .i64 (d32 + 1), rfl, hl4, (Wk.canonD [] [] [some 0, some 1] rfl trivial rfl (tmOU 1 (tmOU 0 tmO0 rfl List.not_mem_nil (by simp only [upd_get, Nat.reduceEqDiff, reduceIte, Nat.reduceAdd, Nat.reduceMul, Nat.reduceSub, Nat.reduceLT, Nat.reduceLeDiff, if_true, if_false] <;> rfl) (e_MetricTable_tmx (by rfl) (Tm.clean (Clean.imm (c_MetricLink _))))) rfl List.not_mem_nil (by simp only [upd_get, Nat.reduceEqDiff, reduceIte, Nat.reduceAdd, Nat.reduceMul, Nat.reduceSub, Nat.reduceLT, Nat.reduceLeDiff, if_true, if_false] <;> rfl) (e_MetricTable_tmx (by rfl) (Tm.clean (Clean.imm (c_MetricLink _))))) (tmAllU 5 (tmAllU 3 (tmAllU 2 tmAll0 (Tm.ptr rfl)) (Tm.ptr rfl)) (Tm.v _)))⟩
    ·
     have hl4 := cF hl4 h5
     refine awp_exit ?_
     refine lq_e ?_
     refine bq_e ?_
     refine sq_n ?_
     obtain rfl := someInj hl4
     exact ⟨_, rfl, (Wk.canonD [] [] [] rfl trivial rfl tmO0 tmAll0)⟩
  ·
   rintro d30 rfl
   have h0 := Ex.k_go h0
   clear hi2
   unfold hotspotref38_Same_S0
   refine awp_nr [] (fun _ => rfl) fun tz => ?_
   refine awp_regW fun KK hKK => ?_
   refine xw_id ?_
   try simp only [go_sem, Nat.reduceEqDiff, reduceIte, Nat.reduceAdd, Nat.reduceMul, Nat.reduceSub, Nat.reduceLT, Nat.reduceLeDiff]
   refine hKK _ _ (Wk.refl _ _ _) ?_; clear hKK KK
   refine awp_ret1 ?_
   obtain rfl := someInj h0
   refine endW_i ?_
   refine end_ret0 rs20 (rfl) ?_
   try simp only [go_sem, Nat.reduceEqDiff, reduceIte, Nat.reduceAdd, Nat.reduceMul, Nat.reduceSub, Nat.reduceLT, Nat.reduceLeDiff, fz, nilS, packR, List.take_nil, List.take_length, List.length_map, List.length_append, cond_true, cond_false, Nat.ble_eq, ble_self, List.map_append]
   all_goals rfl

end Go.AX.Z.TM

/-! (TMW hotspotref23 Smaller) -/

set_option linter.unusedSimpArgs false
set_option linter.unusedVariables false
set_option maxHeartbeats 4000000
namespace Go.AX.Z.TM
open Go.AX Go.Proofs
attribute [local irreducible] awp xw xop xcall gsp ob xd xdop xcallD seqQ loopQ blkQ endQ

def hotspotref23_Smaller_S0 (d72 : Unit) : AS :=
 { objs := (fun _ => .dead), next := 0, tmps := (fun _ => .unk) }

def hotspotref23_Smaller_S1 (a0 : Addr) (a1 : Addr) (d74 : Int) : AS :=
 { objs := (upd (upd (fun _ => .dead) 0 (.live (e_Addr a0))) 1 (.live (e_Addr a1))), next := 2, tmps := (upd (upd (upd (fun _ => .unk) 2 (.ptr 0 0)) 3 (.ptr 1 0)) 5 (vi d74)) }

theorem hotspotref23_Smaller_p (a0 : Addr) (a1 : Addr) {r : Bool} (h0 : hotspotref23_Smaller a0 a1 = some r) : SndP K 40 [(.agg (e_Addr a0)), (.agg (e_Addr a1))] (vb r) := by
 refine SndP.of_walkW hC (Clean.v _) (clean_cons (Clean.agg (e_Addr_clean _)) (clean_cons (Clean.agg (e_Addr_clean _)) clean_nil)) (show K.P.funcs[40]? = some Try.f40 from Try.func40) rfl rfl (by decide +kernel) (Nat.le_of_ble_eq_true rfl) ?_
 unfold hotspotref23_Smaller at h0
 refine awp_nr [0,1] (fun _ => rfl) fun tz => ?_
 refine awp_regW fun KK hKK => ?_
 refine xw_id ?_
 try simp only [go_sem, Nat.reduceEqDiff, reduceIte, Nat.reduceAdd, Nat.reduceMul, Nat.reduceSub, Nat.reduceLT, Nat.reduceLeDiff]
 refine hKK _ _ (Wk.refl _ _ _) ?_; clear hKK KK
 refine awp_assoc ?_
 refine awp_nr [2,3] (fun _ => rfl) fun tz => ?_
 refine awp_regW fun KK hKK => ?_
 refine xw_id ?_
 try simp only [go_sem, Nat.reduceEqDiff, reduceIte, Nat.reduceAdd, Nat.reduceMul, Nat.reduceSub, Nat.reduceLT, Nat.reduceLeDiff]
 refine hKK _ _ (Wk.refl _ _ _) ?_; clear hKK KK
 obtain ⟨o73, hi1, h0⟩ := bnd h0
 refine awp_cut (fun d72 : Unit => o73 = Ex.go d72) (fun d72 : Unit => hotspotref23_Smaller_S0 d72) ?_ ?_
 ·
  refine awp_block1 ?_
  refine awp_loopS (fun n (d74 : Int) => hotspotref23_Smaller_L2 a0 a1 n d74 = some o73) (fun d74 : Int => hotspotref23_Smaller_S1 a0 a1 d74) big 0 (Wk.canonD [] [] [some 0, some 1] rfl trivial rfl (tmOU 1 (tmOU 0 tmO0 rfl List.not_mem_nil (by simp only [upd_get, Nat.reduceEqDiff, reduceIte, Nat.reduceAdd, Nat.reduceMul, Nat.reduceSub, Nat.reduceLT, Nat.reduceLeDiff, if_true, if_false] <;> rfl) (TmL.clean (e_Addr_clean _))) rfl List.not_mem_nil (by simp only [upd_get, Nat.reduceEqDiff, reduceIte, Nat.reduceAdd, Nat.reduceMul, Nat.reduceSub, Nat.reduceLT, Nat.reduceLeDiff, if_true, if_false] <;> rfl) (TmL.clean (e_Addr_clean _))) (tmAllU 5 (tmAllU 3 (tmAllU 2 tmAll0 (Tm.ptr rfl)) (Tm.ptr rfl)) (Tm.v _))) hi1 ?_
  clear hi1
  rintro n d74 hl3
  rcases n with _ | n2
  ·
   (rw [hotspotref23_Smaller_L2] at hl3; cases hl3)
  ·
   rw [hotspotref23_Smaller_L2] at hl3
   unfold hotspotref23_Smaller_S1
   refine awp_assoc ?_
   refine awp_nr [2,3,5] (fun _ => rfl) fun tz => ?_
   refine awp_regW fun KK hKK => ?_
   refine xw_id ?_
   try simp only [go_sem, Nat.reduceEqDiff, reduceIte, Nat.reduceAdd, Nat.reduceMul, Nat.reduceSub, Nat.reduceLT, Nat.reduceLeDiff]
   refine hKK _ _ (Wk.refl _ _ _) ?_; clear hKK KK
   refine awp_cond (b := (decide (d74 < 6))) rfl (fun h4 => ?_) (fun h4 => ?_)
   ·
    have hl3 := cT hl3 h4
    refine awp_skip ?_
    refine awp_blockW ?_
    refine awp_nr [2,3,5] (fun _ => rfl) fun tz => ?_
    refine awp_regW fun KK hKK => ?_
    refine xw_id ?_
    obtain ⟨x75, bx75, hl3⟩ := bnd hl3
    obtain ⟨fx75_0, fx75_1, fx75_2, fx75_3⟩ := idxA_some bx75
    have fx75_6 : (e_Addr a0)[(d74).toNat]? = some (vu x75) := by show (List.map vu [a0.a0, a0.a1, a0.a2, a0.a3, a0.a4, a0.a5])[(d74).toNat]? = _; rw [List.getElem?_map, fx75_2]; rfl
    obtain ⟨x76, bx76, hl3⟩ := bnd hl3
    obtain ⟨fx76_0, fx76_1, fx76_2, fx76_3⟩ := idxA_some bx76
    have fx76_6 : (e_Addr a1)[(d74).toNat]? = some (vu x76) := by show (List.map vu [a1.a0, a1.a1, a1.a2, a1.a3, a1.a4, a1.a5])[(d74).toNat]? = _; rw [List.getElem?_map, fx76_2]; rfl
    try simp only [go_sem, Nat.reduceEqDiff, reduceIte, Nat.reduceAdd, Nat.reduceMul, Nat.reduceSub, Nat.reduceLT, Nat.reduceLeDiff, Int.reduceToNat, Int.reduceBEq, Int.reduceBNe, Int.reduceLT, Int.reduceLE, Int.reduceAdd, Int.reduceSub, Int.reduceMul, Int.reduceNeg, Int.reduceEq, Int.reduceNe, fx75_0, fx75_1, fx75_6, fx76_0, fx76_1, fx76_6]
    refine hKK _ _ (Wk.refl _ _ _) ?_; clear hKK KK
    refine awp_cond1 (b := (x75 != x76)) rfl (fun h5 => ?_) (fun h5 => ?_)
    ·
     have hl3 := cT hl3 h5
     refine awp_nr [2,3,5] (fun _ => rfl) fun tz => ?_
     refine awp_regW fun KK hKK => ?_
     refine xw_id ?_
     try simp only [go_sem, Nat.reduceEqDiff, reduceIte, Nat.reduceAdd, Nat.reduceMul, Nat.reduceSub, Nat.reduceLT, Nat.reduceLeDiff, Int.reduceToNat, Int.reduceBEq, Int.reduceBNe, Int.reduceLT, Int.reduceLE, Int.reduceAdd, Int.reduceSub, Int.reduceMul, Int.reduceNeg, Int.reduceEq, Int.reduceNe, fx75_0, fx75_1, fx75_6, fx76_0, fx76_1, fx76_6]
     refine hKK _ _ (Wk.refl _ _ _) ?_; clear hKK KK
     refine awp_ret1 ?_
     refine bq_r ?_
     refine sq_r ?_
     refine lq_r ?_
     refine bq_r ?_
     refine sq_r ?_
     obtain rfl := someInj hl3
     obtain rfl := Ex.k_ret h0
     refine endW_i ?_
     refine end_ret0 rs40 (rfl) ?_
     try simp only [go_sem, Nat.reduceEqDiff, reduceIte, Nat.reduceAdd, Nat.reduceMul, Nat.reduceSub, Nat.reduceLT, Nat.reduceLeDiff, fz, nilS, packR, List.take_nil, List.take_length, List.length_map, List.length_append, cond_true, cond_false, Nat.ble_eq, ble_self, List.map_append]
     all_goals rfl
    ·
     have hl3 := cF hl3 h5
     refine awp_skip1 ?_
     refine bq_n ?_
     refine seqW_i ?_
     refine awp_nr1 [2,3,5] (fun _ => rfl) fun tz => ?_
     refine awp_reg1 fun KK hKK => ?_
     refine xw_id ?_
     try simp only [go_sem, Nat.reduceEqDiff, reduceIte, Nat.reduceAdd, Nat.reduceMul, Nat.reduceSub, Nat.reduceLT, Nat.reduceLeDiff, fx75_0, fx75_1, fx75_6, fx76_0, fx76_1, fx76_6]
     refine hKK _ ?_; clear hKK KK
     refine lq_n ?_
     exact ⟨n2, IntKind.wrap .i64 (d74 + 1), rfl, hl3, (Wk.canonD [] [] [some 0, some 1] rfl trivial rfl (tmOU 1 (tmOU 0 tmO0 rfl List.not_mem_nil (by simp only [upd_get, Nat.reduceEqDiff, reduceIte, Nat.reduceAdd, Nat.reduceMul, Nat.reduceSub, Nat.reduceLT, Nat.reduceLeDiff, if_true, if_false] <;> rfl) (TmL.clean (e_Addr_clean _))) rfl List.not_mem_nil (by simp only [upd_get, Nat.reduceEqDiff, reduceIte, Nat.reduceAdd, Nat.reduceMul, Nat.reduceSub, Nat.reduceLT, Nat.reduceLeDiff, if_true, if_false] <;> rfl) (TmL.clean (e_Addr_clean _))) (tmAllU 5 (tmAllU 3 (tmAllU 2 tmAll0 (Tm.ptr rfl)) (Tm.ptr rfl)) (Tm.v _)))⟩
   ·
    have hl3 := cF hl3 h4
    refine awp_exit ?_
    refine lq_e ?_
    refine bq_e ?_
    refine sq_n ?_
    obtain rfl := someInj hl3
    exact ⟨_, rfl, (Wk.canonD [] [] [] rfl trivial rfl tmO0 tmAll0)⟩
 ·
  rintro d72 rfl
  have h0 := Ex.k_go h0
  clear hi1
  unfold hotspotref23_Smaller_S0
  refine awp_nr [] (fun _ => rfl) fun tz => ?_
  refine awp_regW fun KK hKK => ?_
  refine xw_id ?_
  try simp only [go_sem, Nat.reduceEqDiff, reduceIte, Nat.reduceAdd, Nat.reduceMul, Nat.reduceSub, Nat.reduceLT, Nat.reduceLeDiff]
  refine hKK _ _ (Wk.refl _ _ _) ?_; clear hKK KK
  refine awp_ret1 ?_
  obtain rfl := someInj h0
  refine endW_i ?_
  refine end_ret0 rs40 (rfl) ?_
  try simp only [go_sem, Nat.reduceEqDiff, reduceIte, Nat.reduceAdd, Nat.reduceMul, Nat.reduceSub, Nat.reduceLT, Nat.reduceLeDiff, fz, nilS, packR, List.take_nil, List.take_length, List.length_map, List.length_append, cond_true, cond_false, Nat.ble_eq, ble_self, List.map_append]
  all_goals rfl

end Go.AX.Z.TM

/-! (TMW hotspotref38 Check) -/

set_option linter.unusedSimpArgs false
set_option linter.unusedVariables false
set_option maxHeartbeats 4000000
namespace Go.AX.Z.TM
open Go.AX Go.Proofs
attribute [local irreducible] awp xw xop xcall gsp ob xd xdop xcallD seqQ loopQ blkQ endQ

def hotspotref38_Check_S0 (d69 : Unit) : AS :=
 { objs := (fun _ => .dead), next := 0, tmps := (fun _ => .unk) }

def hotspotref38_Check_S1 (a0 : MetricTable) (d71 : Int) : AS :=
 { objs := (upd (fun _ => .dead) 0 (.live (e_MetricTable a0 (.imm (List.flatMap e_MetricLink a0.Links) a0.Links.length)))), next := 1, tmps := (upd (upd (fun _ => .unk) 1 (.ptr 0 0)) 3 (vi d71)) }

theorem hotspotref38_Check_p (a0 : MetricTable) {r : Int} (h0 : hotspotref38_Check a0 = some r) : SndP K 27 [(.agg (E_MetricTable a0))] (vi r) := by
 refine SndP.of_walkW hC (Clean.v _) (clean_cons (Clean.agg (E_MetricTable_clean _)) clean_nil) (show K.P.funcs[27]? = some Try.f27 from Try.func27) rfl rfl (by decide +kernel) (Nat.le_of_ble_eq_true rfl) ?_
 unfold hotspotref38_Check at h0
 refine awp_nr [0] (fun _ => rfl) fun tz => ?_
 refine awp_regW fun KK hKK => ?_
 refine xw_id ?_
 try simp only [go_sem, Nat.reduceEqDiff, reduceIte, Nat.reduceAdd, Nat.reduceMul, Nat.reduceSub, Nat.reduceLT, Nat.reduceLeDiff]
 refine hKK _ _ (Wk.refl _ _ _) ?_; clear hKK KK
 refine awp_assoc ?_
 refine awp_nr [1] (fun _ => rfl) fun tz => ?_
 refine awp_regW fun KK hKK => ?_
 refine xw_id ?_
 try simp only [go_sem, Nat.reduceEqDiff, reduceIte, Nat.reduceAdd, Nat.reduceMul, Nat.reduceSub, Nat.reduceLT, Nat.reduceLeDiff, Int.reduceToNat, Int.reduceBEq, Int.reduceBNe, Int.reduceLT, Int.reduceLE, Int.reduceAdd, Int.reduceSub, Int.reduceMul, Int.reduceNeg, Int.reduceEq, Int.reduceNe]
 refine hKK _ _ (Wk.refl _ _ _) ?_; clear hKK KK
 refine awp_cond (b := (decide (32 < (a0.Links.length : Int)))) rfl (fun h1 => ?_) (fun h1 => ?_)
 ·
  have h0 := cT h0 h1
  refine awp_assoc ?_
  refine awp_nr [] (fun _ => rfl) fun tz => ?_
  refine awp_regW fun KK hKK => ?_
  refine xw_id ?_
  try simp only [go_sem, Nat.reduceEqDiff, reduceIte, Nat.reduceAdd, Nat.reduceMul, Nat.reduceSub, Nat.reduceLT, Nat.reduceLeDiff]
  refine hKK _ _ (Wk.refl _ _ _) ?_; clear hKK KK
  refine awp_ret ?_
  obtain rfl := someInj h0
  refine endW_i ?_
  refine end_ret0 rs27 (rfl) ?_
  try simp only [go_sem, Nat.reduceEqDiff, reduceIte, Nat.reduceAdd, Nat.reduceMul, Nat.reduceSub, Nat.reduceLT, Nat.reduceLeDiff, fz, nilS, packR, List.take_nil, List.take_length, List.length_map, List.length_append, cond_true, cond_false, Nat.ble_eq, ble_self, List.map_append]
  all_goals rfl
 ·
  have h0 := cF h0 h1
  refine awp_skip ?_
  refine awp_assoc ?_
  refine awp_nr [1] (fun _ => rfl) fun tz => ?_
  refine awp_regW fun KK hKK => ?_
  refine xw_id ?_
  try simp only [go_sem, Nat.reduceEqDiff, reduceIte, Nat.reduceAdd, Nat.reduceMul, Nat.reduceSub, Nat.reduceLT, Nat.reduceLeDiff]
  refine hKK _ _ (Wk.refl _ _ _) ?_; clear hKK KK
  obtain ⟨o70, hi2, h0⟩ := bnd h0
  refine awp_cut (fun d69 : Unit => o70 = Ex.go d69) (fun d69 : Unit => hotspotref38_Check_S0 d69) ?_ ?_
  ·
   refine awp_block1 ?_
   refine awp_loopS (fun n (d71 : Int) => hotspotref38_Check_L2 a0 n d71 = some o70) (fun d71 : Int => hotspotref38_Check_S1 a0 d71) big 0 (Wk.canonD [] [] [some 0] rfl trivial rfl (tmOU 0 tmO0 rfl List.not_mem_nil (by simp only [upd_get, Nat.reduceEqDiff, reduceIte, Nat.reduceAdd, Nat.reduceMul, Nat.reduceSub, Nat.reduceLT, Nat.reduceLeDiff, if_true, if_false] <;> rfl) (e_MetricTable_tmx (by rfl) (Tm.clean (Clean.imm (c_MetricLink _))))) (tmAllU 3 (tmAllU 1 tmAll0 (Tm.ptr rfl)) (Tm.v _))) hi2 ?_
   clear hi2
   rintro n d71 hl4
   rcases n with _ | n3
   ·
    (rw [hotspotref38_Check_L2] at hl4; cases hl4)
   ·
    rw [hotspotref38_Check_L2] at hl4
    unfold hotspotref38_Check_S1
    refine awp_assoc ?_
    refine awp_nr [1,3] (fun _ => rfl) fun tz => ?_
    refine awp_regW fun KK hKK => ?_
    refine xw_id ?_
    try simp only [go_sem, Nat.reduceEqDiff, reduceIte, Nat.reduceAdd, Nat.reduceMul, Nat.reduceSub, Nat.reduceLT, Nat.reduceLeDiff, Int.reduceToNat, Int.reduceBEq, Int.reduceBNe, Int.reduceLT, Int.reduceLE, Int.reduceAdd, Int.reduceSub, Int.reduceMul, Int.reduceNeg, Int.reduceEq, Int.reduceNe]
    refine hKK _ _ (Wk.refl _ _ _) ?_; clear hKK KK
    refine awp_cond (b := (decide (d71 < (a0.Links.length : Int)))) rfl (fun h5 => ?_) (fun h5 => ?_)
    ·
     have hl4 := cT hl4 h5
     refine awp_skip ?_
     refine awp_blockW ?_
     refine awp_nr [1,3] (fun _ => rfl) fun tz => ?_
     refine awp_regW fun KK hKK => ?_
     refine xw_id ?_
     obtain ⟨x72, bx72, hl4⟩ := bnd hl4
     obtain ⟨fx72_0, fx72_1, fx72_2, fx72_3⟩ := idx_some bx72
     try simp only [go_sem, Nat.reduceEqDiff, reduceIte, Nat.reduceAdd, Nat.reduceMul, Nat.reduceSub, Nat.reduceLT, Nat.reduceLeDiff, fx72_0, fx72_1, fx72_2]
     refine hKK _ _ (Wk.refl _ _ _) ?_; clear hKK KK
     refine awp_assoc ?_
     refine awp_nr [1,3,4] (fun _ => rfl) fun tz => ?_
     refine awp_regW fun KK hKK => ?_
     refine xw_id ?_
     refine xw_stop 4 (by (try simp only [go_sem]); rfl) (by (try simp only [go_sem]); rfl) (by rfl) fun K1 hK1 => ?_
     refine xw_id ?_
     try simp only [go_sem, Nat.reduceEqDiff, reduceIte, Nat.reduceAdd, Nat.reduceMul, Nat.reduceSub, Nat.reduceLT, Nat.reduceLeDiff, fx72_0, fx72_1, fx72_2]
     refine hK1 _ ?_; clear hK1 K1
     refine xw_cut 4 [(1, (.ptr 0 0)), (3, (vi d71)), (4, (.ptr 11 0)), (28, (vb ((decide (x72.Rate < 0)) || (decide (12 ≤ x72.Rate)))))] (by (try simp only [go_sem]); rfl) (by (try simp only [go_sem]); rfl) (by rfl) (fun K1 hK1 => ?_) fun tz => ?_
     ·
      refine xw_id ?_
      rcases Bool.eq_false_or_eq_true (decide (x72.Rate < 0)) with h6 | h6
      ·
       try simp only [go_sem, Nat.reduceEqDiff, reduceIte, Nat.reduceAdd, Nat.reduceMul, Nat.reduceSub, Nat.reduceLT, Nat.reduceLeDiff, fx72_0, fx72_1, fx72_2, h6]
       exact hK1 _ ⟨rfl, rfl, rfl, rfl, (by first | rfl | (rw [h6]; rfl) | (simp only [h6, Bool.true_and, Bool.false_and, Bool.true_or, Bool.false_or, cond_true, cond_false]; done)), trivial⟩
      ·
       try simp only [go_sem, Nat.reduceEqDiff, reduceIte, Nat.reduceAdd, Nat.reduceMul, Nat.reduceSub, Nat.reduceLT, Nat.reduceLeDiff, fx72_0, fx72_1, fx72_2, h6]
       exact hK1 _ ⟨rfl, rfl, rfl, rfl, (by first | rfl | (rw [h6]; rfl) | (simp only [h6, Bool.true_and, Bool.false_and, Bool.true_or, Bool.false_or, cond_true, cond_false]; done)), trivial⟩
     ·
      refine xw_id ?_
      refine xw_stop 1 (by (try simp only [go_sem]); rfl) (by (try simp only [go_sem]); rfl) (by rfl) fun K1 hK1 => ?_
      refine xw_id ?_
      try simp only [go_sem, Nat.reduceEqDiff, reduceIte, Nat.reduceAdd, Nat.reduceMul, Nat.reduceSub, Nat.reduceLT, Nat.reduceLeDiff, fx72_0, fx72_1, fx72_2]
      refine hK1 _ ?_; clear hK1 K1
      refine xw_cut 4 [(1, (.ptr 0 0)), (3, (vi d71)), (4, (.ptr 11 0)), (33, (vb (((decide (x72.Rate < 0)) || (decide (12 ≤ x72.Rate))) || (decide (x72.Loss < 0)))))] (by (try simp only [go_sem]); rfl) (by (try simp only [go_sem]); rfl) (by rfl) (fun K1 hK1 => ?_) fun tz => ?_
      ·
       refine xw_id ?_
       rcases Bool.eq_false_or_eq_true ((decide (x72.Rate < 0)) || (decide (12 ≤ x72.Rate))) with h7 | h7
       ·
        try simp only [go_sem, Nat.reduceEqDiff, reduceIte, Nat.reduceAdd, Nat.reduceMul, Nat.reduceSub, Nat.reduceLT, Nat.reduceLeDiff, fx72_0, fx72_1, fx72_2, h7]
        exact hK1 _ ⟨rfl, rfl, rfl, rfl, (by first | rfl | (rw [h7]; rfl) | (simp only [h7, Bool.true_and, Bool.false_and, Bool.true_or, Bool.false_or, cond_true, cond_false]; done)), trivial⟩
       ·
        try simp only [go_sem, Nat.reduceEqDiff, reduceIte, Nat.reduceAdd, Nat.reduceMul, Nat.reduceSub, Nat.reduceLT, Nat.reduceLeDiff, fx72_0, fx72_1, fx72_2, h7]
        exact hK1 _ ⟨rfl, rfl, rfl, rfl, (by first | rfl | (rw [h7]; rfl) | (simp only [h7, Bool.true_and, Bool.false_and, Bool.true_or, Bool.false_or, cond_true, cond_false]; done)), trivial⟩
      ·
       refine xw_id ?_
       refine xw_stop 1 (by (try simp only [go_sem]); rfl) (by (try simp only [go_sem]); rfl) (by rfl) fun K1 hK1 => ?_
       refine xw_id ?_
       try simp only [go_sem, Nat.reduceEqDiff, reduceIte, Nat.reduceAdd, Nat.reduceMul, Nat.reduceSub, Nat.reduceLT, Nat.reduceLeDiff, fx72_0, fx72_1, fx72_2]
       refine hK1 _ ?_; clear hK1 K1
       refine xw_cut 4 [(1, (.ptr 0 0)), (3, (vi d71)), (4, (.ptr 11 0)), (38, (vb ((((decide (x72.Rate < 0)) || (decide (12 ≤ x72.Rate))) || (decide (x72.Loss < 0))) || (decide (1000 < x72.Loss)))))] (by (try simp only [go_sem]); rfl) (by (try simp only [go_sem]); rfl) (by rfl) (fun K1 hK1 => ?_) fun tz => ?_
       ·
        refine xw_id ?_
        rcases Bool.eq_false_or_eq_true (((decide (x72.Rate < 0)) || (decide (12 ≤ x72.Rate))) || (decide (x72.Loss < 0))) with h8 | h8
        ·
         try simp only [go_sem, Nat.reduceEqDiff, reduceIte, Nat.reduceAdd, Nat.reduceMul, Nat.reduceSub, Nat.reduceLT, Nat.reduceLeDiff, fx72_0, fx72_1, fx72_2, h8]
         exact hK1 _ ⟨rfl, rfl, rfl, rfl, (by first | rfl | (rw [h8]; rfl) | (simp only [h8, Bool.true_and, Bool.false_and, Bool.true_or, Bool.false_or, cond_true, cond_false]; done)), trivial⟩
        ·
         try simp only [go_sem, Nat.reduceEqDiff, reduceIte, Nat.reduceAdd, Nat.reduceMul, Nat.reduceSub, Nat.reduceLT, Nat.reduceLeDiff, fx72_0, fx72_1, fx72_2, h8]
         exact hK1 _ ⟨rfl, rfl, rfl, rfl, (by first | rfl | (rw [h8]; rfl) | (simp only [h8, Bool.true_and, Bool.false_and, Bool.true_or, Bool.false_or, cond_true, cond_false]; done)), trivial⟩
       ·
        refine xw_id ?_
        refine xw_stop 1 (by (try simp only [go_sem]); rfl) (by (try simp only [go_sem]); rfl) (by rfl) fun K1 hK1 => ?_
        refine xw_id ?_
        try simp only [go_sem, Nat.reduceEqDiff, reduceIte, Nat.reduceAdd, Nat.reduceMul, Nat.reduceSub, Nat.reduceLT, Nat.reduceLeDiff, fx72_0, fx72_1, fx72_2]
        refine hK1 _ ?_; clear hK1 K1
        refine xw_cut 4 [(1, (.ptr 0 0)), (3, (vi d71)), (4, (.ptr 11 0)), (43, (vb (((((decide (x72.Rate < 0)) || (decide (12 ≤ x72.Rate))) || (decide (x72.Loss < 0))) || (decide (1000 < x72.Loss))) || (decide (x72.Heard < 0)))))] (by (try simp only [go_sem]); rfl) (by (try simp only [go_sem]); rfl) (by rfl) (fun K1 hK1 => ?_) fun tz => ?_
        ·
         refine xw_id ?_
         rcases Bool.eq_false_or_eq_true ((((decide (x72.Rate < 0)) || (decide (12 ≤ x72.Rate))) || (decide (x72.Loss < 0))) || (decide (1000 < x72.Loss))) with h9 | h9
         ·
          try simp only [go_sem, Nat.reduceEqDiff, reduceIte, Nat.reduceAdd, Nat.reduceMul, Nat.reduceSub, Nat.reduceLT, Nat.reduceLeDiff, fx72_0, fx72_1, fx72_2, h9]
          exact hK1 _ ⟨rfl, rfl, rfl, rfl, (by first | rfl | (rw [h9]; rfl) | (simp only [h9, Bool.true_and, Bool.false_and, Bool.true_or, Bool.false_or, cond_true, cond_false]; done)), trivial⟩
         ·
          try simp only [go_sem, Nat.reduceEqDiff, reduceIte, Nat.reduceAdd, Nat.reduceMul, Nat.reduceSub, Nat.reduceLT, Nat.reduceLeDiff, fx72_0, fx72_1, fx72_2, h9]
          exact hK1 _ ⟨rfl, rfl, rfl, rfl, (by first | rfl | (rw [h9]; rfl) | (simp only [h9, Bool.true_and, Bool.false_and, Bool.true_or, Bool.false_or, cond_true, cond_false]; done)), trivial⟩
        ·
         refine xw_id ?_
         refine xw_stop 1 (by (try simp only [go_sem]); rfl) (by (try simp only [go_sem]); rfl) (by rfl) fun K1 hK1 => ?_
         refine xw_id ?_
         try simp only [go_sem, Nat.reduceEqDiff, reduceIte, Nat.reduceAdd, Nat.reduceMul, Nat.reduceSub, Nat.reduceLT, Nat.reduceLeDiff, fx72_0, fx72_1, fx72_2]
         refine hK1 _ ?_; clear hK1 K1
         refine xw_cut 4 [(1, (.ptr 0 0)), (3, (vi d71)), (4, (.ptr 11 0)), (48, (vb ((((((decide (x72.Rate < 0)) || (decide (12 ≤ x72.Rate))) || (decide (x72.Loss < 0))) || (decide (1000 < x72.Loss))) || (decide (x72.Heard < 0))) || (decide (1099511627776 < x72.Heard)))))] (by (try simp only [go_sem]); rfl) (by (try simp only [go_sem]); rfl) (by rfl) (fun K1 hK1 => ?_) fun tz => ?_
         ·
          refine xw_id ?_
          rcases Bool.eq_false_or_eq_true (((((decide (x72.Rate < 0)) || (decide (12 ≤ x72.Rate))) || (decide (x72.Loss < 0))) || (decide (1000 < x72.Loss))) || (decide (x72.Heard < 0))) with h10 | h10
          ·
           try simp only [go_sem, Nat.reduceEqDiff, reduceIte, Nat.reduceAdd, Nat.reduceMul, Nat.reduceSub, Nat.reduceLT, Nat.reduceLeDiff, fx72_0, fx72_1, fx72_2, h10]
           exact hK1 _ ⟨rfl, rfl, rfl, rfl, (by first | rfl | (rw [h10]; rfl) | (simp only [h10, Bool.true_and, Bool.false_and, Bool.true_or, Bool.false_or, cond_true, cond_false]; done)), trivial⟩
          ·
           try simp only [go_sem, Nat.reduceEqDiff, reduceIte, Nat.reduceAdd, Nat.reduceMul, Nat.reduceSub, Nat.reduceLT, Nat.reduceLeDiff, fx72_0, fx72_1, fx72_2, h10]
           exact hK1 _ ⟨rfl, rfl, rfl, rfl, (by first | rfl | (rw [h10]; rfl) | (simp only [h10, Bool.true_and, Bool.false_and, Bool.true_or, Bool.false_or, cond_true, cond_false]; done)), trivial⟩
         ·
          refine xw_id ?_
          try simp only [go_sem, Nat.reduceEqDiff, reduceIte, Nat.reduceAdd, Nat.reduceMul, Nat.reduceSub, Nat.reduceLT, Nat.reduceLeDiff, fx72_0, fx72_1, fx72_2]
          refine hKK _ _ (Wk.refl _ _ _) ?_; clear hKK KK
          refine awp_cond (b := ((((((decide (x72.Rate < 0)) || (decide (12 ≤ x72.Rate))) || (decide (x72.Loss < 0))) || (decide (1000 < x72.Loss))) || (decide (x72.Heard < 0))) || (decide (1099511627776 < x72.Heard)))) rfl (fun h11 => ?_) (fun h11 => ?_)
          ·
           have hl4 := cT hl4 h11
           refine awp_assoc ?_
           refine awp_nr [] (fun _ => rfl) fun tz => ?_
           refine awp_regW fun KK hKK => ?_
           refine xw_id ?_
           try simp only [go_sem, Nat.reduceEqDiff, reduceIte, Nat.reduceAdd, Nat.reduceMul, Nat.reduceSub, Nat.reduceLT, Nat.reduceLeDiff, fx72_0, fx72_1, fx72_2]
           refine hKK _ _ (Wk.refl _ _ _) ?_; clear hKK KK
           refine awp_ret ?_
           refine bq_r ?_
           refine sq_r ?_
           refine lq_r ?_
           refine bq_r ?_
           refine sq_r ?_
           obtain rfl := someInj hl4
           obtain rfl := Ex.k_ret h0
           refine endW_i ?_
           refine end_ret0 rs27 (rfl) ?_
           try simp only [go_sem, Nat.reduceEqDiff, reduceIte, Nat.reduceAdd, Nat.reduceMul, Nat.reduceSub, Nat.reduceLT, Nat.reduceLeDiff, fz, nilS, packR, List.take_nil, List.take_length, List.length_map, List.length_append, cond_true, cond_false, Nat.ble_eq, ble_self, List.map_append]
           all_goals rfl
          ·
           have hl4 := cF hl4 h11
           refine awp_skip ?_
           refine awp_nr [1,3,4] (fun _ => rfl) fun tz => ?_
           refine awp_regW fun KK hKK => ?_
           refine xw_id ?_
           refine xw_stop 3 (by (try simp only [go_sem]); rfl) (by (try simp only [go_sem]); rfl) (by rfl) fun K1 hK1 => ?_
           refine xw_id ?_
           try simp only [go_sem, Nat.reduceEqDiff, reduceIte, Nat.reduceAdd, Nat.reduceMul, Nat.reduceSub, Nat.reduceLT, Nat.reduceLeDiff, fx72_0, fx72_1, fx72_2]
           refine hK1 _ ?_; clear hK1 K1
           obtain ⟨x75, hvh12, hl4⟩ := bnd hl4
           refine xw_cut 12 [(1, (.ptr 0 0)), (3, (vi d71)), (63, (vb x75))] (by (try simp only [go_sem]); rfl) (by (try simp only [go_sem]); rfl) (by rfl) (fun K1 hK1 => ?_) fun tz => ?_
           ·
            refine xw_id ?_
            rcases Bool.eq_false_or_eq_true (decide (0 < d71)) with h12 | h12
            ·
             have hvh12 := cT hvh12 h12
             obtain ⟨x73, bx73, hvh12⟩ := bnd hvh12
             obtain ⟨fx73_0, fx73_1, fx73_2, fx73_3⟩ := idx_some bx73
             obtain ⟨x74, bx74, hvh12⟩ := bnd hvh12
             try simp only [go_sem, Nat.reduceEqDiff, reduceIte, Nat.reduceAdd, Nat.reduceMul, Nat.reduceSub, Nat.reduceLT, Nat.reduceLeDiff, fx72_0, fx72_1, fx72_2, h12, fx73_0, fx73_1, fx73_2]
             refine xcall_p (hotspotref23_Smaller_p x73.Peer x72.Peer bx74) ?_; try dsimp only
             try refine xw_id ?_
             try simp only [go_sem, Nat.reduceEqDiff, reduceIte, Nat.reduceAdd, Nat.reduceMul, Nat.reduceSub, Nat.reduceLT, Nat.reduceLeDiff, fx72_0, fx72_1, fx72_2, h12, fx73_0, fx73_1, fx73_2]
             obtain rfl := someInj hvh12
             exact hK1 _ ⟨rfl, rfl, rfl, (by first | rfl | (rw [h12]; rfl) | (simp only [h12, Bool.true_and, Bool.false_and, Bool.true_or, Bool.false_or, cond_true, cond_false]; done)), trivial⟩
            ·
             have hvh12 := cF hvh12 h12
             try simp only [go_sem, Nat.reduceEqDiff, reduceIte, Nat.reduceAdd, Nat.reduceMul, Nat.reduceSub, Nat.reduceLT, Nat.reduceLeDiff, fx72_0, fx72_1, fx72_2, h12]
             obtain rfl := someInj hvh12
             exact hK1 _ ⟨rfl, rfl, rfl, (by first | rfl | (rw [h12]; rfl) | (simp only [h12, Bool.true_and, Bool.false_and, Bool.true_or, Bool.false_or, cond_true, cond_false]; done)), trivial⟩
           ·
            refine xw_id ?_
            try simp only [go_sem, Nat.reduceEqDiff, reduceIte, Nat.reduceAdd, Nat.reduceMul, Nat.reduceSub, Nat.reduceLT, Nat.reduceLeDiff, fx72_0, fx72_1, fx72_2]
            refine hKK _ _ (Wk.refl _ _ _) ?_; clear hKK KK
            refine awp_cond1 (b := x75) rfl (fun h13 => ?_) (fun h13 => ?_)
            ·
             have hl4 := cT hl4 h13
             refine awp_nr [] (fun _ => rfl) fun tz => ?_
             refine awp_regW fun KK hKK => ?_
             refine xw_id ?_
             try simp only [go_sem, Nat.reduceEqDiff, reduceIte, Nat.reduceAdd, Nat.reduceMul, Nat.reduceSub, Nat.reduceLT, Nat.reduceLeDiff, fx72_0, fx72_1, fx72_2]
             refine hKK _ _ (Wk.refl _ _ _) ?_; clear hKK KK
             refine awp_ret1 ?_
             refine bq_r ?_
             refine sq_r ?_
             refine lq_r ?_
             refine bq_r ?_
             refine sq_r ?_
             obtain rfl := someInj hl4
             obtain rfl := Ex.k_ret h0
             refine endW_i ?_
             refine end_ret0 rs27 (rfl) ?_
             try simp only [go_sem, Nat.reduceEqDiff, reduceIte, Nat.reduceAdd, Nat.reduceMul, Nat.reduceSub, Nat.reduceLT, Nat.reduceLeDiff, fz, nilS, packR, List.take_nil, List.take_length, List.length_map, List.length_append, cond_true, cond_false, Nat.ble_eq, ble_self, List.map_append]
             all_goals rfl
            ·
             have hl4 := cF hl4 h13
             refine awp_skip1 ?_
             refine bq_n ?_
             refine seqW_i ?_
             refine awp_nr1 [1,3] (fun _ => rfl) fun tz => ?_
             refine awp_reg1 fun KK hKK => ?_
             refine xw_id ?_
             try simp only [go_sem, Nat.reduceEqDiff, reduceIte, Nat.reduceAdd, Nat.reduceMul, Nat.reduceSub, Nat.reduceLT, Nat.reduceLeDiff, fx72_0, fx72_1, fx72_2]
             refine hKK _ ?_; clear hKK KK
             refine lq_n ?_
             exact ⟨n3, IntKind.wrap .i64 (d71 + 1), rfl, hl4, (Wk.canonD [] [] [some 0] rfl trivial rfl (tmOU 0 tmO0 rfl List.not_mem_nil (by simp only [upd_get, Nat.reduceEqDiff, reduceIte, Nat.reduceAdd, Nat.reduceMul, Nat.reduceSub, Nat.reduceLT, Nat.reduceLeDiff, if_true, if_false] <;> rfl) (e_MetricTable_tmx (by rfl) (Tm.clean (Clean.imm (c_MetricLink _))))) (tmAllU 3 (tmAllU 1 tmAll0 (Tm.ptr rfl)) (Tm.v _)))⟩
    ·
     have hl4 := cF hl4 h5
     refine awp_exit ?_
     refine lq_e ?_
     refine bq_e ?_
     refine sq_n ?_
     obtain rfl := someInj hl4
     exact ⟨_, rfl, (Wk.canonD [] [] [] rfl trivial rfl tmO0 tmAll0)⟩
  ·
   rintro d69 rfl
   have h0 := Ex.k_go h0
   clear hi2
   unfold hotspotref38_Check_S0
   refine awp_nr [] (fun _ => rfl) fun tz => ?_
   refine awp_regW fun KK hKK => ?_
   refine xw_id ?_
   try simp only [go_sem, Nat.reduceEqDiff, reduceIte, Nat.reduceAdd, Nat.reduceMul, Nat.reduceSub, Nat.reduceLT, Nat.reduceLeDiff]
   refine hKK _ _ (Wk.refl _ _ _) ?_; clear hKK KK
   refine awp_ret1 ?_
   obtain rfl := someInj h0
   refine endW_i ?_
   refine end_ret0 rs27 (rfl) ?_
   try simp only [go_sem, Nat.reduceEqDiff, reduceIte, Nat.reduceAdd, Nat.reduceMul, Nat.reduceSub, Nat.reduceLT, Nat.reduceLeDiff, fz, nilS, packR, List.take_nil, List.take_length, List.length_map, List.length_append, cond_true, cond_false, Nat.ble_eq, ble_self, List.map_append]
   all_goals rfl

end Go.AX.Z.TM

/-! (TMW hotspotref38 before) -/

set_option linter.unusedSimpArgs false
set_option linter.unusedVariables false
set_option maxHeartbeats 4000000
namespace Go.AX.Z.TM
open Go.AX Go.Proofs
attribute [local irreducible] awp xw xop xcall gsp ob xd xdop xcallD seqQ loopQ blkQ endQ


theorem hotspotref38_before_p (a0 : MetricTable) (a1 : Int) {r : Int} (h0 : hotspotref38_before a0 a1 = some r) : SndP K 39 [(.agg (E_MetricTable a0)), (vi a1)] (vi r) := by
 refine SndP.of_walkW hC (Clean.v _) (clean_cons (Clean.agg (E_MetricTable_clean _)) (clean_cons (Clean.v _) clean_nil)) (show K.P.funcs[39]? = some Try.f39 from Try.func39) rfl rfl (by decide +kernel) (Nat.le_of_ble_eq_true rfl) ?_
 unfold hotspotref38_before at h0
 refine awp_nr [0,1] (fun _ => rfl) fun tz => ?_
 refine awp_regW fun KK hKK => ?_
 refine xw_id ?_
 try simp only [go_sem, Nat.reduceEqDiff, reduceIte, Nat.reduceAdd, Nat.reduceMul, Nat.reduceSub, Nat.reduceLT, Nat.reduceLeDiff]
 refine hKK _ _ (Wk.refl _ _ _) ?_; clear hKK KK
 refine awp_assoc ?_
 refine awp_nr [1,2] (fun _ => rfl) fun tz => ?_
 refine awp_regW fun KK hKK => ?_
 refine xw_id ?_
 obtain ⟨x69, bx69, h0⟩ := bnd h0
 try simp only [go_sem, Nat.reduceEqDiff, reduceIte, Nat.reduceAdd, Nat.reduceMul, Nat.reduceSub, Nat.reduceLT, Nat.reduceLeDiff]
 refine xcall_p (hotspotref38_Check_p a0 bx69) ?_; try dsimp only
 try refine xw_id ?_
 try simp only [go_sem, Nat.reduceEqDiff, reduceIte, Nat.reduceAdd, Nat.reduceMul, Nat.reduceSub, Nat.reduceLT, Nat.reduceLeDiff]
 refine hKK _ _ (Wk.refl _ _ _) ?_; clear hKK KK
 refine awp_cond (b := (x69 != 0)) rfl (fun h1 => ?_) (fun h1 => ?_)
 ·
  have h0 := cT h0 h1
  refine awp_assoc ?_
  refine awp_nr [] (fun _ => rfl) fun tz => ?_
  refine awp_regW fun KK hKK => ?_
  refine xw_id ?_
  try simp only [go_sem, Nat.reduceEqDiff, reduceIte, Nat.reduceAdd, Nat.reduceMul, Nat.reduceSub, Nat.reduceLT, Nat.reduceLeDiff]
  refine hKK _ _ (Wk.refl _ _ _) ?_; clear hKK KK
  refine awp_ret ?_
  obtain rfl := someInj h0
  refine endW_i ?_
  refine end_ret0 rs39 (rfl) ?_
  try simp only [go_sem, Nat.reduceEqDiff, reduceIte, Nat.reduceAdd, Nat.reduceMul, Nat.reduceSub, Nat.reduceLT, Nat.reduceLeDiff, fz, nilS, packR, List.take_nil, List.take_length, List.length_map, List.length_append, cond_true, cond_false, Nat.ble_eq, ble_self, List.map_append]
  all_goals rfl
 ·
  have h0 := cF h0 h1
  refine awp_skip ?_
  refine awp_assoc ?_
  refine awp_nr [1] (fun _ => rfl) fun tz => ?_
  refine awp_regW fun KK hKK => ?_
  refine xw_id ?_
  refine xw_stop 3 (by (try simp only [go_sem]); rfl) (by (try simp only [go_sem]); rfl) (by rfl) fun K1 hK1 => ?_
  refine xw_id ?_
  try simp only [go_sem, Nat.reduceEqDiff, reduceIte, Nat.reduceAdd, Nat.reduceMul, Nat.reduceSub, Nat.reduceLT, Nat.reduceLeDiff]
  refine hK1 _ ?_; clear hK1 K1
  refine xw_cut 3 [(13, (vb ((decide (a1 < 0)) || (decide (1099511627776 < a1)))))] (by (try simp only [go_sem]); rfl) (by (try simp only [go_sem]); rfl) (by rfl) (fun K1 hK1 => ?_) fun tz => ?_
  ·
   refine xw_id ?_
   rcases Bool.eq_false_or_eq_true (decide (a1 < 0)) with h2 | h2
   ·
    try simp only [go_sem, Nat.reduceEqDiff, reduceIte, Nat.reduceAdd, Nat.reduceMul, Nat.reduceSub, Nat.reduceLT, Nat.reduceLeDiff, h2]
    exact hK1 _ ⟨rfl, (by first | rfl | (rw [h2]; rfl) | (simp only [h2, Bool.true_and, Bool.false_and, Bool.true_or, Bool.false_or, cond_true, cond_false]; done)), trivial⟩
   ·
    try simp only [go_sem, Nat.reduceEqDiff, reduceIte, Nat.reduceAdd, Nat.reduceMul, Nat.reduceSub, Nat.reduceLT, Nat.reduceLeDiff, h2]
    exact hK1 _ ⟨rfl, (by first | rfl | (rw [h2]; rfl) | (simp only [h2, Bool.true_and, Bool.false_and, Bool.true_or, Bool.false_or, cond_true, cond_false]; done)), trivial⟩
  ·
   refine xw_id ?_
   try simp only [go_sem, Nat.reduceEqDiff, reduceIte, Nat.reduceAdd, Nat.reduceMul, Nat.reduceSub, Nat.reduceLT, Nat.reduceLeDiff]
   refine hKK _ _ (Wk.refl _ _ _) ?_; clear hKK KK
   refine awp_cond (b := ((decide (a1 < 0)) || (decide (1099511627776 < a1)))) rfl (fun h3 => ?_) (fun h3 => ?_)
   ·
    have h0 := cT h0 h3
    refine awp_assoc ?_
    refine awp_nr [] (fun _ => rfl) fun tz => ?_
    refine awp_regW fun KK hKK => ?_
    refine xw_id ?_
    try simp only [go_sem, Nat.reduceEqDiff, reduceIte, Nat.reduceAdd, Nat.reduceMul, Nat.reduceSub, Nat.reduceLT, Nat.reduceLeDiff]
    refine hKK _ _ (Wk.refl _ _ _) ?_; clear hKK KK
    refine awp_ret ?_
    obtain rfl := someInj h0
    refine endW_i ?_
    refine end_ret0 rs39 (rfl) ?_
    try simp only [go_sem, Nat.reduceEqDiff, reduceIte, Nat.reduceAdd, Nat.reduceMul, Nat.reduceSub, Nat.reduceLT, Nat.reduceLeDiff, fz, nilS, packR, List.take_nil, List.take_length, List.length_map, List.length_append, cond_true, cond_false, Nat.ble_eq, ble_self, List.map_append]
    all_goals rfl
   ·
    have h0 := cF h0 h3
    refine awp_skip ?_
    refine awp_nr [] (fun _ => rfl) fun tz => ?_
    refine awp_regW fun KK hKK => ?_
    refine xw_id ?_
    try simp only [go_sem, Nat.reduceEqDiff, reduceIte, Nat.reduceAdd, Nat.reduceMul, Nat.reduceSub, Nat.reduceLT, Nat.reduceLeDiff]
    refine hKK _ _ (Wk.refl _ _ _) ?_; clear hKK KK
    refine awp_ret1 ?_
    obtain rfl := someInj h0
    refine endW_i ?_
    refine end_ret0 rs39 (rfl) ?_
    try simp only [go_sem, Nat.reduceEqDiff, reduceIte, Nat.reduceAdd, Nat.reduceMul, Nat.reduceSub, Nat.reduceLT, Nat.reduceLeDiff, fz, nilS, packR, List.take_nil, List.take_length, List.length_map, List.length_append, cond_true, cond_false, Nat.ble_eq, ble_self, List.map_append]
    all_goals rfl

end Go.AX.Z.TM

/-! (TMW hotspotref38 Heard) -/

set_option linter.unusedSimpArgs false
set_option linter.unusedVariables false
set_option maxHeartbeats 4000000
namespace Go.AX.Z.TM
open Go.AX Go.Proofs
attribute [local irreducible] awp xw xop xcall gsp ob xd xdop xcallD seqQ loopQ blkQ endQ

def hotspotref38_Heard_S0 (a0 : MetricTable) (a1 : Addr) (a2 : Int) (a3 : Bool) (a4 : Int) (x69 : Int) : AS :=
 { objs := (upd (upd (upd (fun _ => .dead) 0 (.live (e_MetricTable a0 (.imm (List.flatMap e_MetricLink a0.Links) a0.Links.length)))) 1 (.live (e_Addr a1))) 2 (.live (e_MetricTable MetricTable.z vnil))), next := 3, tmps := (upd (upd (upd (upd (upd (upd (upd (fun _ => .unk) 2 (vi a2)) 3 (vb a3)) 4 (vi a4)) 5 (.ptr 0 0)) 6 (.ptr 1 0)) 10 (.ptr 2 0)) 12 (vi x69)) }

def hotspotref38_Heard_S1 (a0 : MetricTable) (a1 : Addr) (a2 : Int) (a3 : Bool) (a4 : Int) (d70 : Int) : AS :=
 { objs := (upd (upd (upd (fun _ => .dead) 0 (.live (e_MetricTable a0 (.imm (List.flatMap e_MetricLink a0.Links) a0.Links.length)))) 1 (.live (e_Addr a1))) 2 (.live (e_MetricTable MetricTable.z vnil))), next := 3, tmps := (upd (upd (upd (upd (upd (upd (upd (fun _ => .unk) 2 (vi a2)) 3 (vb a3)) 4 (vi a4)) 5 (.ptr 0 0)) 6 (.ptr 1 0)) 10 (.ptr 2 0)) 12 (vi d70)) }

def hotspotref38_Heard_S2 (a0 : MetricTable) (a1 : Addr) (a2 : Int) (a3 : Bool) (a4 : Int) (d71 : (MetricTable × List MetricLink × Bool)) : AS :=
 { objs := (upd (upd (upd (upd (upd (fun _ => .dead) 0 (.live (e_MetricTable a0 (.imm (List.flatMap e_MetricLink a0.Links) a0.Links.length)))) 1 (.live (e_Addr a1))) 2 (.live (e_MetricTable MetricTable.z vnil))) 3 (.live (e_MetricTable d71.1 (.ref 4 0 ((d71.2.1).length) 9)))) 4 (.live (List.flatMap e_MetricLink d71.2.1))), next := 5, tmps := (upd (upd (upd (upd (upd (upd (upd (upd (fun _ => .unk) 2 (vi a2)) 3 (vb a3)) 4 (vi a4)) 5 (.ptr 0 0)) 6 (.ptr 1 0)) 10 (.ptr 2 0)) 13 (.ptr 3 0)) 14 (vb d71.2.2)) }

def hotspotref38_Heard_S3 (a0 : MetricTable) (a1 : Addr) (a2 : Int) (a3 : Bool) (a4 : Int) (d72 : (MetricTable × List MetricLink × Bool × Int)) : AS :=
 { objs := (upd (upd (upd (upd (upd (fun _ => .dead) 0 (.live (e_MetricTable a0 (.imm (List.flatMap e_MetricLink a0.Links) a0.Links.length)))) 1 (.live (e_Addr a1))) 2 (.live (e_MetricTable MetricTable.z vnil))) 3 (.live (e_MetricTable d72.1 (.ref 4 0 ((d72.2.1).length) 9)))) 4 (.live (List.flatMap e_MetricLink d72.2.1))), next := 5, tmps := (upd (upd (upd (upd (upd (upd (upd (upd (upd (fun _ => .unk) 2 (vi a2)) 3 (vb a3)) 4 (vi a4)) 5 (.ptr 0 0)) 6 (.ptr 1 0)) 10 (.ptr 2 0)) 13 (.ptr 3 0)) 14 (vb d72.2.2.1)) 15 (vi d72.2.2.2)) }

def hotspotref38_Heard_S5 (a0 : MetricTable) (a1 : Addr) (d72 : (MetricTable × List MetricLink × Bool × Int)) (a2 : Int) (a3 : Bool) (a4 : Int) (d74 : (Bool × MetricLink)) : AS :=
 { objs := (upd (upd (upd (upd (upd (upd (fun _ => .dead) 0 (.live (e_MetricTable a0 (.imm (List.flatMap e_MetricLink a0.Links) a0.Links.length)))) 1 (.live (e_Addr a1))) 2 (.live (e_MetricTable MetricTable.z vnil))) 3 (.live (e_MetricTable d72.1 (.ref 4 0 d72.2.1.length 9)))) 4 (.live (List.flatMap e_MetricLink d72.2.1))) 5 (.live (e_MetricLink d74.2))), next := 6, tmps := (upd (upd (upd (upd (upd (upd (upd (upd (upd (upd (fun _ => .unk) 2 (vi a2)) 3 (vb a3)) 4 (vi a4)) 5 (.ptr 0 0)) 6 (.ptr 1 0)) 10 (.ptr 2 0)) 13 (.ptr 3 0)) 14 (vb d74.1)) 15 (vi d72.2.2.2)) 16 (.ptr 5 0)) }

def hotspotref38_Heard_S6 (a0 : MetricTable) (a1 : Addr) (d72 : (MetricTable × List MetricLink × Bool × Int)) (x73 : MetricLink) (a2 : Int) (a3 : Bool) (a4 : Int) : AS :=
 { objs := (upd (upd (upd (upd (upd (upd (fun _ => .dead) 0 (.live (e_MetricTable a0 (.imm (List.flatMap e_MetricLink a0.Links) a0.Links.length)))) 1 (.live (e_Addr a1))) 2 (.live (e_MetricTable MetricTable.z vnil))) 3 (.live (e_MetricTable d72.1 (.ref 4 0 d72.2.1.length 9)))) 4 (.live (List.flatMap e_MetricLink d72.2.1))) 5 (.live (e_MetricLink { x73 with Loss := IntKind.wrap .i64 (((IntKind.wrap .i64 (7 * x73.Loss))).tdiv 8), Rate := a2 }))), next := 6, tmps := (upd (upd (upd (upd (upd (upd (upd (upd (upd (upd (fun _ => .unk) 2 (vi a2)) 3 (vb a3)) 4 (vi a4)) 5 (.ptr 0 0)) 6 (.ptr 1 0)) 10 (.ptr 2 0)) 13 (.ptr 3 0)) 14 (vb true)) 15 (vi d72.2.2.2)) 16 (.ptr 5 0)) }

def hotspotref38_Heard_S7 (a4 : Int) (a1 : Addr) (a2 : Int) (d76 : (MetricTable × List MetricLink × Bool)) : AS :=
 { objs := (upd (upd (upd (upd (fun _ => .dead) 0 (.live (e_MetricTable MetricTable.z vnil))) 1 (.live (e_MetricTable d76.1 (.ref 2 0 ((d76.2.1).length) 9)))) 2 (.live (List.flatMap e_MetricLink d76.2.1))) 3 (.live (e_MetricLink { MetricLink.z with Heard := a4, Peer := a1, Rate := a2 }))), next := 4, tmps := (upd (upd (upd (upd (fun _ => .unk) 10 (.ptr 0 0)) 13 (.ptr 1 0)) 17 (.ptr 3 0)) 18 (vb d76.2.2)) }

def hotspotref38_Heard_S8 (a0 : MetricTable) (a1 : Addr) (a4 : Int) (a2 : Int) (d77 : (MetricTable × List MetricLink × Bool × Int)) : AS :=
 { objs := (upd (upd (upd (upd (upd (upd (fun _ => .dead) 0 (.live (e_MetricTable a0 (.imm (List.flatMap e_MetricLink a0.Links) a0.Links.length)))) 1 (.live (e_Addr a1))) 2 (.live (e_MetricTable MetricTable.z vnil))) 3 (.live (e_MetricTable d77.1 (.ref 4 0 ((d77.2.1).length) 9)))) 4 (.live (List.flatMap e_MetricLink d77.2.1))) 5 (.live (e_MetricLink { MetricLink.z with Heard := a4, Peer := a1, Rate := a2 }))), next := 6, tmps := (upd (upd (upd (upd (upd (upd (upd (fun _ => .unk) 5 (.ptr 0 0)) 6 (.ptr 1 0)) 10 (.ptr 2 0)) 13 (.ptr 3 0)) 17 (.ptr 5 0)) 18 (vb d77.2.2.1)) 19 (vi d77.2.2.2)) }

def hotspotref38_Heard_S10 (a0 : MetricTable) (a1 : Addr) (d77 : (MetricTable × List MetricLink × Bool × Int)) (a4 : Int) (a2 : Int) (d81 : (List MetricLink × Bool)) : AS :=
 { objs := (upd (upd (upd (upd (upd (upd (fun _ => .dead) 0 (.live (e_MetricTable a0 (.imm (List.flatMap e_MetricLink a0.Links) a0.Links.length)))) 1 (.live (e_Addr a1))) 2 (.live (e_MetricTable MetricTable.z vnil))) 3 (.live (e_MetricTable d77.1 (.ref 4 0 ((d81.1).length) 9)))) 4 (.live (List.flatMap e_MetricLink d81.1))) 5 (.live (e_MetricLink { MetricLink.z with Heard := a4, Peer := a1, Rate := a2 }))), next := 6, tmps := (upd (upd (upd (upd (upd (upd (upd (fun _ => .unk) 5 (.ptr 0 0)) 6 (.ptr 1 0)) 10 (.ptr 2 0)) 13 (.ptr 3 0)) 17 (.ptr 5 0)) 18 (vb d81.2)) 19 (vi d77.2.2.2)) }

theorem hotspotref38_Heard_r (a0 : MetricTable) (a1 : Addr) (a2 : Int) (a3 : Bool) (a4 : Int) {r : (MetricTable × Int)} (h0 : hotspotref38_Heard a0 a1 a2 a3 a4 = some r) : SndR K 21 [(.agg (E_MetricTable a0)), (.agg (e_Addr a1)), (vi a2), (vb a3), (vi a4)] (fun q => (.tup [(.agg (e_MetricTable r.1 (.ref (q 0) 0 r.1.Links.length 9))), (vi r.2)])) [(List.flatMap e_MetricLink r.1.Links)] := by
 refine SndR.of_walkW hC (show K.P.funcs[21]? = some Try.f21 from Try.func21) rfl rfl (by decide +kernel) (Nat.le_of_ble_eq_true rfl) ?_
 unfold hotspotref38_Heard at h0
 refine awp_nr [0,1,2,3,4] (fun _ => rfl) fun tz => ?_
 refine awp_regW fun KK hKK => ?_
 refine xw_id ?_
 try simp only [go_sem, Nat.reduceEqDiff, reduceIte, Nat.reduceAdd, Nat.reduceMul, Nat.reduceSub, Nat.reduceLT, Nat.reduceLeDiff]
 refine hKK _ _ (Wk.refl _ _ _) ?_; clear hKK KK
 refine awp_nr [2,3,4,5,6,10] (fun _ => rfl) fun tz => ?_
 refine awp_regW fun KK hKK => ?_
 refine xw_id ?_
 obtain ⟨x69, bx69, h0⟩ := bnd h0
 try simp only [go_sem, Nat.reduceEqDiff, reduceIte, Nat.reduceAdd, Nat.reduceMul, Nat.reduceSub, Nat.reduceLT, Nat.reduceLeDiff]
 refine xcall_p (hotspotref38_before_p a0 a4 bx69) ?_; try dsimp only
 try refine xw_id ?_
 try simp only [go_sem, Nat.reduceEqDiff, reduceIte, Nat.reduceAdd, Nat.reduceMul, Nat.reduceSub, Nat.reduceLT, Nat.reduceLeDiff]
 refine hKK _ (hotspotref38_Heard_S0 a0 a1 a2 a3 a4 x69) (Wk.canonD [] [] [some 0, some 1, some 2] rfl trivial rfl (tmOU 2 (tmOU 1 (tmOU 0 tmO0 rfl List.not_mem_nil (by simp only [upd_get, Nat.reduceEqDiff, reduceIte, Nat.reduceAdd, Nat.reduceMul, Nat.reduceSub, Nat.reduceLT, Nat.reduceLeDiff, if_true, if_false] <;> rfl) (e_MetricTable_tmx (by rfl) (Tm.clean (Clean.imm (c_MetricLink _))))) rfl List.not_mem_nil (by simp only [upd_get, Nat.reduceEqDiff, reduceIte, Nat.reduceAdd, Nat.reduceMul, Nat.reduceSub, Nat.reduceLT, Nat.reduceLeDiff, if_true, if_false] <;> rfl) (TmL.clean (e_Addr_clean _))) rfl List.not_mem_nil (by simp only [upd_get, Nat.reduceEqDiff, reduceIte, Nat.reduceAdd, Nat.reduceMul, Nat.reduceSub, Nat.reduceLT, Nat.reduceLeDiff, if_true, if_false] <;> rfl) (e_MetricTable_tmx (by rfl) (Tm.v _))) (tmAllU 12 (tmAllU 10 (tmAllU 6 (tmAllU 5 (tmAllU 4 (tmAllU 3 (tmAllU 2 tmAll0 (Tm.v _)) (Tm.v _)) (Tm.v _)) (Tm.ptr rfl)) (Tm.ptr rfl)) (Tm.ptr rfl)) (Tm.v _))) ?_; clear hKK KK
 unfold hotspotref38_Heard_S0
 refine awp_assoc ?_
 refine awp_nr [2,3,4,5,6,10,12] (fun _ => rfl) fun tz => ?_
 refine awp_regW fun KK hKK => ?_
 refine xw_id ?_
 refine xw_stop 3 (by (try simp only [go_sem]); rfl) (by (try simp only [go_sem]); rfl) (by rfl) fun K1 hK1 => ?_
 refine xw_id ?_
 try simp only [go_sem, Nat.reduceEqDiff, reduceIte, Nat.reduceAdd, Nat.reduceMul, Nat.reduceSub, Nat.reduceLT, Nat.reduceLeDiff]
 refine hK1 _ ?_; clear hK1 K1
 refine xw_cut 7 [(2, (vi a2)), (3, (vb a3)), (4, (vi a4)), (5, (.ptr 0 0)), (6, (.ptr 1 0)), (10, (.ptr 2 0)), (12, (vi x69)), (32, (vb ((x69 == 0) && ((decide (a2 < 0)) || (decide (12 ≤ a2))))))] (by (try simp only [go_sem]); rfl) (by (try simp only [go_sem]); rfl) (by rfl) (fun K1 hK1 => ?_) fun tz => ?_
 ·
  refine xw_id ?_
  rcases Bool.eq_false_or_eq_true (x69 == 0) with h1 | h1
  ·
   refine xw_stop 3 (by (try simp only [go_sem]); rfl) (by (try simp only [go_sem]); rfl) (by rfl) fun K1 hK1 => ?_
   refine xw_id ?_
   try simp only [go_sem, Nat.reduceEqDiff, reduceIte, Nat.reduceAdd, Nat.reduceMul, Nat.reduceSub, Nat.reduceLT, Nat.reduceLeDiff, h1]
   refine hK1 _ ?_; clear hK1 K1
   refine xw_cut 3 [(2, (vi a2)), (3, (vb a3)), (4, (vi a4)), (5, (.ptr 0 0)), (6, (.ptr 1 0)), (10, (.ptr 2 0)), (12, (vi x69)), (25, (vb true)), (31, (vb ((decide (a2 < 0)) || (decide (12 ≤ a2)))))] (by (try simp only [go_sem]); rfl) (by (try simp only [go_sem]); rfl) (by rfl) (fun K1 hK1 => ?_) fun tz => ?_
   ·
    refine xw_id ?_
    rcases Bool.eq_false_or_eq_true (decide (a2 < 0)) with h2 | h2
    ·
     try simp only [go_sem, Nat.reduceEqDiff, reduceIte, Nat.reduceAdd, Nat.reduceMul, Nat.reduceSub, Nat.reduceLT, Nat.reduceLeDiff, h1, h2]
     exact hK1 _ ⟨rfl, rfl, rfl, rfl, rfl, rfl, rfl, rfl, rfl, (by first | rfl | (rw [h2]; rfl) | (simp only [h2, Bool.true_and, Bool.false_and, Bool.true_or, Bool.false_or, cond_true, cond_false]; done)), trivial⟩
    ·
     try simp only [go_sem, Nat.reduceEqDiff, reduceIte, Nat.reduceAdd, Nat.reduceMul, Nat.reduceSub, Nat.reduceLT, Nat.reduceLeDiff, h1, h2]
     exact hK1 _ ⟨rfl, rfl, rfl, rfl, rfl, rfl, rfl, rfl, rfl, (by first | rfl | (rw [h2]; rfl) | (simp only [h2, Bool.true_and, Bool.false_and, Bool.true_or, Bool.false_or, cond_true, cond_false]; done)), trivial⟩
   ·
    refine xw_id ?_
    try simp only [go_sem, Nat.reduceEqDiff, reduceIte, Nat.reduceAdd, Nat.reduceMul, Nat.reduceSub, Nat.reduceLT, Nat.reduceLeDiff, h1]
    exact hK1 _ ⟨rfl, rfl, rfl, rfl, rfl, rfl, rfl, rfl, (by first | rfl | (rw [h1]; rfl) | (simp only [h1, Bool.true_and, Bool.false_and, Bool.true_or, Bool.false_or, cond_true, cond_false]; done)), trivial⟩
  ·
   try simp only [go_sem, Nat.reduceEqDiff, reduceIte, Nat.reduceAdd, Nat.reduceMul, Nat.reduceSub, Nat.reduceLT, Nat.reduceLeDiff, h1]
   exact hK1 _ ⟨rfl, rfl, rfl, rfl, rfl, rfl, rfl, rfl, (by first | rfl | (rw [h1]; rfl) | (simp only [h1, Bool.true_and, Bool.false_and, Bool.true_or, Bool.false_or, cond_true, cond_false]; done)), trivial⟩
 ·
  refine xw_id ?_
  try simp only [go_sem, Nat.reduceEqDiff, reduceIte, Nat.reduceAdd, Nat.reduceMul, Nat.reduceSub, Nat.reduceLT, Nat.reduceLeDiff]
  refine hKK _ _ (Wk.refl _ _ _) ?_; clear hKK KK
  obtain ⟨d70, hi3, h0⟩ := bnd h0
  refine awp_cut (fun z => d70 = z) (fun d70 : Int => hotspotref38_Heard_S1 a0 a1 a2 a3 a4 d70) ?_ ?_
  ·
   refine awp_cond1 (b := ((x69 == 0) && ((decide (a2 < 0)) || (decide (12 ≤ a2))))) rfl (fun h4 => ?_) (fun h4 => ?_)
   ·
    have hi3 := cT hi3 h4
    refine awp_nr1 [2,3,4,5,6,10] (fun _ => rfl) fun tz => ?_
    refine awp_reg1 fun KK hKK => ?_
    refine xw_id ?_
    try simp only [go_sem, Nat.reduceEqDiff, reduceIte, Nat.reduceAdd, Nat.reduceMul, Nat.reduceSub, Nat.reduceLT, Nat.reduceLeDiff]
    refine hKK _ ?_; clear hKK KK
    refine sq_n ?_
    obtain rfl := someInj hi3
    exact ⟨_, rfl, (Wk.canonD [] [] [some 0, some 1, some 2] rfl trivial rfl (tmOU 2 (tmOU 1 (tmOU 0 tmO0 rfl List.not_mem_nil (by simp only [upd_get, Nat.reduceEqDiff, reduceIte, Nat.reduceAdd, Nat.reduceMul, Nat.reduceSub, Nat.reduceLT, Nat.reduceLeDiff, if_true, if_false] <;> rfl) (e_MetricTable_tmx (by rfl) (Tm.clean (Clean.imm (c_MetricLink _))))) rfl List.not_mem_nil (by simp only [upd_get, Nat.reduceEqDiff, reduceIte, Nat.reduceAdd, Nat.reduceMul, Nat.reduceSub, Nat.reduceLT, Nat.reduceLeDiff, if_true, if_false] <;> rfl) (TmL.clean (e_Addr_clean _))) rfl List.not_mem_nil (by simp only [upd_get, Nat.reduceEqDiff, reduceIte, Nat.reduceAdd, Nat.reduceMul, Nat.reduceSub, Nat.reduceLT, Nat.reduceLeDiff, if_true, if_false] <;> rfl) (e_MetricTable_tmx (by rfl) (Tm.v _))) (tmAllU 12 (tmAllU 10 (tmAllU 6 (tmAllU 5 (tmAllU 4 (tmAllU 3 (tmAllU 2 tmAll0 (Tm.v _)) (Tm.v _)) (Tm.v _)) (Tm.ptr rfl)) (Tm.ptr rfl)) (Tm.ptr rfl)) (Tm.v _)))⟩
   ·
    have hi3 := cF hi3 h4
    refine awp_skip1 ?_
    refine sq_n ?_
    obtain rfl := someInj hi3
    exact ⟨_, rfl, (Wk.canonD [] [] [some 0, some 1, some 2] rfl trivial rfl (tmOU 2 (tmOU 1 (tmOU 0 tmO0 rfl List.not_mem_nil (by simp only [upd_get, Nat.reduceEqDiff, reduceIte, Nat.reduceAdd, Nat.reduceMul, Nat.reduceSub, Nat.reduceLT, Nat.reduceLeDiff, if_true, if_false] <;> rfl) (e_MetricTable_tmx (by rfl) (Tm.clean (Clean.imm (c_MetricLink _))))) rfl List.not_mem_nil (by simp only [upd_get, Nat.reduceEqDiff, reduceIte, Nat.reduceAdd, Nat.reduceMul, Nat.reduceSub, Nat.reduceLT, Nat.reduceLeDiff, if_true, if_false] <;> rfl) (TmL.clean (e_Addr_clean _))) rfl List.not_mem_nil (by simp only [upd_get, Nat.reduceEqDiff, reduceIte, Nat.reduceAdd, Nat.reduceMul, Nat.reduceSub, Nat.reduceLT, Nat.reduceLeDiff, if_true, if_false] <;> rfl) (e_MetricTable_tmx (by rfl) (Tm.v _))) (tmAllU 12 (tmAllU 10 (tmAllU 6 (tmAllU 5 (tmAllU 4 (tmAllU 3 (tmAllU 2 tmAll0 (Tm.v _)) (Tm.v _)) (Tm.v _)) (Tm.ptr rfl)) (Tm.ptr rfl)) (Tm.ptr rfl)) (Tm.v _)))⟩
  ·
   rintro _ rfl
   clear hi3
   unfold hotspotref38_Heard_S1
   refine awp_assoc ?_
   refine awp_nr [2,3,4,5,6,10,12] (fun _ => rfl) fun tz => ?_
   refine awp_regW fun KK hKK => ?_
   refine xw_id ?_
   try simp only [go_sem, Nat.reduceEqDiff, reduceIte, Nat.reduceAdd, Nat.reduceMul, Nat.reduceSub, Nat.reduceLT, Nat.reduceLeDiff]
   refine hKK _ _ (Wk.refl _ _ _) ?_; clear hKK KK
   refine awp_cond (b := (d70 != 0)) rfl (fun h5 => ?_) (fun h5 => ?_)
   ·
    have h0 := cT h0 h5
    refine awp_assoc ?_
    refine awp_nr [10,12] (fun _ => rfl) fun tz => ?_
    refine awp_regW fun KK hKK => ?_
    refine xw_id ?_
    try simp only [go_sem, Nat.reduceEqDiff, reduceIte, Nat.reduceAdd, Nat.reduceMul, Nat.reduceSub, Nat.reduceLT, Nat.reduceLeDiff]
    refine hKK _ _ (Wk.refl _ _ _) ?_; clear hKK KK
    refine awp_ret ?_
    obtain rfl := someInj h0
    refine endW_i ?_
    refine end_ret0 rs21 (by simp only [go_sem, resV, resAll, resOf, packR, Nat.reduceEqDiff, reduceIte, Nat.reduceAdd, Nat.reduceMul, Nat.reduceSub, Nat.reduceLT, Nat.reduceLeDiff]; rfl) ?_
    refine Res.mk [] [none] rfl (resON resO0) (Tm.tup (TmL.cons (Tm.agg (e_MetricTable_tmx (by rfl) (Tm.thaw _ _ _))) (TmL.cons (Tm.v _) TmL.nil)))
   ·
    have h0 := cF h0 h5
    refine awp_skip ?_
    refine awp_nr [2,3,4,5,6,10] (fun _ => rfl) fun tz => ?_
    refine awp_regW fun KK hKK => ?_
    refine xw_id ?_
    try simp only [go_sem, Nat.reduceEqDiff, reduceIte, Nat.reduceAdd, Nat.reduceMul, Nat.reduceSub, Nat.reduceLT, Nat.reduceLeDiff]
    refine hKK _ _ (Wk.refl _ _ _) ?_; clear hKK KK
    refine awp_nr [2,3,4,5,6,10,13] (fun _ => rfl) fun tz => ?_
    refine awp_regW fun KK hKK => ?_
    refine xw_id ?_
    try simp only [go_sem, Nat.reduceEqDiff, reduceIte, Nat.reduceAdd, Nat.reduceMul, Nat.reduceSub, Nat.reduceLT, Nat.reduceLeDiff]
    refine hKK _ _ (Wk.refl _ _ _) ?_; clear hKK KK
    refine awp_assoc ?_
    refine awp_nr [2,3,4,5,6,10,13,14] (fun _ => rfl) fun tz => ?_
    refine awp_regW fun KK hKK => ?_
    refine xw_id ?_
    try simp only [go_sem, Nat.reduceEqDiff, reduceIte, Nat.reduceAdd, Nat.reduceMul, Nat.reduceSub, Nat.reduceLT, Nat.reduceLeDiff]
    refine hKK _ _ (Wk.refl _ _ _) ?_; clear hKK KK
    obtain ⟨d71, hi6, h0⟩ := bnd h0
    refine awp_cut (fun z => d71 = z) (fun d71 : (MetricTable × List MetricLink × Bool) => hotspotref38_Heard_S2 a0 a1 a2 a3 a4 d71) ?_ ?_
    ·
     refine awp_block1 ?_
     refine awp_loopS (fun n (d72 : (MetricTable × List MetricLink × Bool × Int)) => hotspotref38_Heard_L4 a0 a1 a3 a4 a2 n d72 = some d71) (fun d72 : (MetricTable × List MetricLink × Bool × Int) => hotspotref38_Heard_S3 a0 a1 a2 a3 a4 d72) big (MetricTable.z, [], false, 0) (Wk.canonD [] [] [some 0, some 1, some 2, some 5, none] rfl trivial rfl (tmON 4 (tmOU 3 (tmOU 2 (tmOU 1 (tmOU 0 tmO0 rfl List.not_mem_nil (by simp only [upd_get, Nat.reduceEqDiff, reduceIte, Nat.reduceAdd, Nat.reduceMul, Nat.reduceSub, Nat.reduceLT, Nat.reduceLeDiff, if_true, if_false] <;> rfl) (e_MetricTable_tmx (by rfl) (Tm.clean (Clean.imm (c_MetricLink _))))) rfl List.not_mem_nil (by simp only [upd_get, Nat.reduceEqDiff, reduceIte, Nat.reduceAdd, Nat.reduceMul, Nat.reduceSub, Nat.reduceLT, Nat.reduceLeDiff, if_true, if_false] <;> rfl) (TmL.clean (e_Addr_clean _))) rfl List.not_mem_nil (by simp only [upd_get, Nat.reduceEqDiff, reduceIte, Nat.reduceAdd, Nat.reduceMul, Nat.reduceSub, Nat.reduceLT, Nat.reduceLeDiff, if_true, if_false] <;> rfl) (e_MetricTable_tmx (by rfl) (Tm.v _))) rfl List.not_mem_nil (by simp only [upd_get, Nat.reduceEqDiff, reduceIte, Nat.reduceAdd, Nat.reduceMul, Nat.reduceSub, Nat.reduceLT, Nat.reduceLeDiff, if_true, if_false] <;> rfl) (e_MetricTable_tmx (by rfl) (Tm.thaw _ _ _))) rfl) (tmAllU 15 (tmAllU 14 (tmAllU 13 (tmAllU 10 (tmAllU 6 (tmAllU 5 (tmAllU 4 (tmAllU 3 (tmAllU 2 tmAll0 (Tm.v _)) (Tm.v _)) (Tm.v _)) (Tm.ptr rfl)) (Tm.ptr rfl)) (Tm.ptr rfl)) (Tm.ptr rfl)) (Tm.v _)) (Tm.v _))) hi6 ?_
     clear hi6
     rintro n d72 hl8
     rcases n with _ | n7
     ·
      (rw [hotspotref38_Heard_L4] at hl8; cases hl8)
     ·
      rw [hotspotref38_Heard_L4] at hl8
      unfold hotspotref38_Heard_S3
      refine awp_assoc ?_
      refine awp_nr [2,3,4,5,6,10,13,14,15] (fun _ => rfl) fun tz => ?_
      refine awp_regW fun KK hKK => ?_
      refine xw_id ?_
      try simp only [go_sem, Nat.reduceEqDiff, reduceIte, Nat.reduceAdd, Nat.reduceMul, Nat.reduceSub, Nat.reduceLT, Nat.reduceLeDiff, Int.reduceToNat, Int.reduceBEq, Int.reduceBNe, Int.reduceLT, Int.reduceLE, Int.reduceAdd, Int.reduceSub, Int.reduceMul, Int.reduceNeg, Int.reduceEq, Int.reduceNe]
      refine hKK _ _ (Wk.refl _ _ _) ?_; clear hKK KK
      refine awp_cond (b := (decide (d72.2.2.2 < (a0.Links.length : Int)))) rfl (fun h9 => ?_) (fun h9 => ?_)
      ·
       have hl8 := cT hl8 h9
       refine awp_skip ?_
       refine awp_blockW ?_
       refine awp_nr [2,3,4,5,6,10,13,14,15] (fun _ => rfl) fun tz => ?_
       refine awp_regW fun KK hKK => ?_
       refine xw_id ?_
       obtain ⟨x73, bx73, hl8⟩ := bnd hl8
       obtain ⟨fx73_0, fx73_1, fx73_2, fx73_3⟩ := idx_some bx73
       try simp only [go_sem, Nat.reduceEqDiff, reduceIte, Nat.reduceAdd, Nat.reduceMul, Nat.reduceSub, Nat.reduceLT, Nat.reduceLeDiff, fx73_0, fx73_1, fx73_2]
       refine hKK _ _ (Wk.refl _ _ _) ?_; clear hKK KK
       refine awp_assoc ?_
       refine awp_nr [2,3,4,5,6,10,13,14,15,16] (fun _ => rfl) fun tz => ?_
       refine awp_regW fun KK hKK => ?_
       refine xw_id ?_
       try simp only [go_sem, Nat.reduceEqDiff, reduceIte, Nat.reduceAdd, Nat.reduceMul, Nat.reduceSub, Nat.reduceLT, Nat.reduceLeDiff, fx73_0, fx73_1, fx73_2]
       refine hKK _ _ (Wk.refl _ _ _) ?_; clear hKK KK
       obtain ⟨d74, hi10, hl8⟩ := bnd hl8
       refine awp_cut (fun z => d74 = z) (fun d74 : (Bool × MetricLink) => hotspotref38_Heard_S5 a0 a1 d72 a2 a3 a4 d74) ?_ ?_
       ·
        refine awp_cond1 (b := (decide (x73.Peer = a1))) rfl (fun h11 => ?_) (fun h11 => ?_)
        ·
         have hi10 := cT hi10 h11
         refine awp_nr [2,3,4,5,6,10,13,15,16] (fun _ => rfl) fun tz => ?_
         refine awp_regW fun KK hKK => ?_
         refine xw_id ?_
         try simp only [go_sem, Nat.reduceEqDiff, reduceIte, Nat.reduceAdd, Nat.reduceMul, Nat.reduceSub, Nat.reduceLT, Nat.reduceLeDiff, fx73_0, fx73_1, fx73_2]
         refine hKK _ _ (Wk.refl _ _ _) ?_; clear hKK KK
         refine awp_nr [2,3,4,5,6,10,13,14,15,16] (fun _ => rfl) fun tz => ?_
         refine awp_regW fun KK hKK => ?_
         refine xw_id ?_
         try simp only [go_sem, Nat.reduceEqDiff, reduceIte, Nat.reduceAdd, Nat.reduceMul, Nat.reduceSub, Nat.reduceLT, Nat.reduceLeDiff, fx73_0, fx73_1, fx73_2]
         refine hKK _ _ (Wk.refl _ _ _) ?_; clear hKK KK
         refine awp_nr [2,3,4,5,6,10,13,14,15,16] (fun _ => rfl) fun tz => ?_
         refine awp_regW fun KK hKK => ?_
         refine xw_id ?_
         try simp only [go_sem, Nat.reduceEqDiff, reduceIte, Nat.reduceAdd, Nat.reduceMul, Nat.reduceSub, Nat.reduceLT, Nat.reduceLeDiff, fx73_0, fx73_1, fx73_2]
         refine hKK _ _ (Wk.refl _ _ _) ?_; clear hKK KK
         refine awp_cond1 (b := a3) rfl (fun h12 => ?_) (fun h12 => ?_)
         ·
          have hi10 := cT hi10 h12
          refine awp_nr [2,3,4,5,6,10,13,14,15,16] (fun _ => rfl) fun tz => ?_
          refine awp_regW fun KK hKK => ?_
          refine xw_id ?_
          try simp only [go_sem, Nat.reduceEqDiff, reduceIte, Nat.reduceAdd, Nat.reduceMul, Nat.reduceSub, Nat.reduceLT, Nat.reduceLeDiff, Int.reduceToNat, Int.reduceBEq, Int.reduceBNe, Int.reduceLT, Int.reduceLE, Int.reduceAdd, Int.reduceSub, Int.reduceMul, Int.reduceNeg, Int.reduceEq, Int.reduceNe, fx73_0, fx73_1, fx73_2]
          refine hKK _ (hotspotref38_Heard_S6 a0 a1 d72 x73 a2 a3 a4) (by refine Wk.canonD [] [] [some 0, some 1, some 2, some 3, some 4, some 15] rfl trivial rfl (tmOU 5 (tmOU 4 (tmOU 3 (tmOU 2 (tmOU 1 (tmOU 0 tmO0 rfl List.not_mem_nil (by simp only [upd_get, Nat.reduceEqDiff, reduceIte, Nat.reduceAdd, Nat.reduceMul, Nat.reduceSub, Nat.reduceLT, Nat.reduceLeDiff, if_true, if_false] <;> rfl) (e_MetricTable_tmx (by rfl) (Tm.clean (Clean.imm (c_MetricLink _))))) rfl List.not_mem_nil (by simp only [upd_get, Nat.reduceEqDiff, reduceIte, Nat.reduceAdd, Nat.reduceMul, Nat.reduceSub, Nat.reduceLT, Nat.reduceLeDiff, if_true, if_false] <;> rfl) (TmL.clean (e_Addr_clean _))) rfl List.not_mem_nil (by simp only [upd_get, Nat.reduceEqDiff, reduceIte, Nat.reduceAdd, Nat.reduceMul, Nat.reduceSub, Nat.reduceLT, Nat.reduceLeDiff, if_true, if_false] <;> rfl) (e_MetricTable_tmx (by rfl) (Tm.v _))) rfl List.not_mem_nil (by simp only [upd_get, Nat.reduceEqDiff, reduceIte, Nat.reduceAdd, Nat.reduceMul, Nat.reduceSub, Nat.reduceLT, Nat.reduceLeDiff, if_true, if_false] <;> rfl) (e_MetricTable_tmx (by rfl) (Tm.refL rfl ?_))) rfl List.not_mem_nil (by simp only [upd_get, Nat.reduceEqDiff, reduceIte, Nat.reduceAdd, Nat.reduceMul, Nat.reduceSub, Nat.reduceLT, Nat.reduceLeDiff, if_true, if_false] <;> rfl) (TmL.of_eq (by first | rfl | (simp only [List.flatMap_append, List.flatMap_cons, List.flatMap_nil, List.map_append, List.map_cons, List.map_nil, List.append_nil, List.nil_append]; done) | (simp only [List.flatMap_append, List.flatMap_cons, List.flatMap_nil, List.map_append, List.map_cons, List.map_nil, List.append_nil, List.nil_append]; rfl)) (c_MetricLink _))) rfl List.not_mem_nil (by simp only [upd_get, Nat.reduceEqDiff, reduceIte, Nat.reduceAdd, Nat.reduceMul, Nat.reduceSub, Nat.reduceLT, Nat.reduceLeDiff, if_true, if_false] <;> rfl) (TmL.clean (e_MetricLink_clean _))) (tmAllU 16 (tmAllU 15 (tmAllU 14 (tmAllU 13 (tmAllU 10 (tmAllU 6 (tmAllU 5 (tmAllU 4 (tmAllU 3 (tmAllU 2 tmAll0 (Tm.v _)) (Tm.v _)) (Tm.v _)) (Tm.ptr rfl)) (Tm.ptr rfl)) (Tm.ptr rfl)) (Tm.ptr rfl)) (Tm.v _)) (Tm.v _)) (Tm.ptr rfl)); all_goals (first | rfl | (simp only [List.length_take]; omega) | (simp only [List.length_append, List.length_cons, List.length_nil, List.length_modify, List.length_set, Nat.zero_add]; done) | (simp only [List.length_append, List.length_take, List.length_drop, List.length_cons, List.length_nil, List.length_modify, List.length_set, Nat.zero_add]; omega))) ?_; clear hKK KK
          unfold hotspotref38_Heard_S6
          refine awp_nr1 [2,3,4,5,6,10,13,14,15,16] (fun _ => rfl) fun tz => ?_
          refine awp_reg1 fun KK hKK => ?_
          refine xw_id ?_
          try simp only [go_sem, Nat.reduceEqDiff, reduceIte, Nat.reduceAdd, Nat.reduceMul, Nat.reduceSub, Nat.reduceLT, Nat.reduceLeDiff, Int.reduceToNat, Int.reduceBEq, Int.reduceBNe, Int.reduceLT, Int.reduceLE, Int.reduceAdd, Int.reduceSub, Int.reduceMul, Int.reduceNeg, Int.reduceEq, Int.reduceNe, fx73_0, fx73_1, fx73_2]
          refine hKK _ ?_; clear hKK KK
          refine sq_n ?_
          obtain rfl := someInj hi10
          exact ⟨_, rfl, (by refine Wk.canonD [] [] [some 0, some 1, some 2, some 3, some 4, some 5] rfl trivial rfl (tmOU 5 (tmOU 4 (tmOU 3 (tmOU 2 (tmOU 1 (tmOU 0 tmO0 rfl List.not_mem_nil (by simp only [upd_get, Nat.reduceEqDiff, reduceIte, Nat.reduceAdd, Nat.reduceMul, Nat.reduceSub, Nat.reduceLT, Nat.reduceLeDiff, if_true, if_false] <;> rfl) (e_MetricTable_tmx (by rfl) (Tm.clean (Clean.imm (c_MetricLink _))))) rfl List.not_mem_nil (by simp only [upd_get, Nat.reduceEqDiff, reduceIte, Nat.reduceAdd, Nat.reduceMul, Nat.reduceSub, Nat.reduceLT, Nat.reduceLeDiff, if_true, if_false] <;> rfl) (TmL.clean (e_Addr_clean _))) rfl List.not_mem_nil (by simp only [upd_get, Nat.reduceEqDiff, reduceIte, Nat.reduceAdd, Nat.reduceMul, Nat.reduceSub, Nat.reduceLT, Nat.reduceLeDiff, if_true, if_false] <;> rfl) (e_MetricTable_tmx (by rfl) (Tm.v _))) rfl List.not_mem_nil (by simp only [upd_get, Nat.reduceEqDiff, reduceIte, Nat.reduceAdd, Nat.reduceMul, Nat.reduceSub, Nat.reduceLT, Nat.reduceLeDiff, if_true, if_false] <;> rfl) (e_MetricTable_tmx (by rfl) (Tm.refL rfl ?_))) rfl List.not_mem_nil (by simp only [upd_get, Nat.reduceEqDiff, reduceIte, Nat.reduceAdd, Nat.reduceMul, Nat.reduceSub, Nat.reduceLT, Nat.reduceLeDiff, if_true, if_false] <;> rfl) (TmL.of_eq (by first | rfl | (simp only [List.flatMap_append, List.flatMap_cons, List.flatMap_nil, List.map_append, List.map_cons, List.map_nil, List.append_nil, List.nil_append]; done) | (simp only [List.flatMap_append, List.flatMap_cons, List.flatMap_nil, List.map_append, List.map_cons, List.map_nil, List.append_nil, List.nil_append]; rfl)) (c_MetricLink _))) rfl List.not_mem_nil (by simp only [upd_get, Nat.reduceEqDiff, reduceIte, Nat.reduceAdd, Nat.reduceMul, Nat.reduceSub, Nat.reduceLT, Nat.reduceLeDiff, if_true, if_false] <;> rfl) (TmL.clean (e_MetricLink_clean _))) (tmAllU 16 (tmAllU 15 (tmAllU 14 (tmAllU 13 (tmAllU 10 (tmAllU 6 (tmAllU 5 (tmAllU 4 (tmAllU 3 (tmAllU 2 tmAll0 (Tm.v _)) (Tm.v _)) (Tm.v _)) (Tm.ptr rfl)) (Tm.ptr rfl)) (Tm.ptr rfl)) (Tm.ptr rfl)) (Tm.v _)) (Tm.v _)) (Tm.ptr rfl)); all_goals (first | rfl | (simp only [List.length_take]; omega) | (simp only [List.length_append, List.length_cons, List.length_nil, List.length_modify, List.length_set, Nat.zero_add]; done) | (simp only [List.length_append, List.length_take, List.length_drop, List.length_cons, List.length_nil, List.length_modify, List.length_set, Nat.zero_add]; omega)))⟩
         ·
          have hi10 := cF hi10 h12
          refine awp_nr1 [2,3,4,5,6,10,13,14,15,16] (fun _ => rfl) fun tz => ?_
          refine awp_reg1 fun KK hKK => ?_
          refine xw_id ?_
          try simp only [go_sem, Nat.reduceEqDiff, reduceIte, Nat.reduceAdd, Nat.reduceMul, Nat.reduceSub, Nat.reduceLT, Nat.reduceLeDiff, Int.reduceToNat, Int.reduceBEq, Int.reduceBNe, Int.reduceLT, Int.reduceLE, Int.reduceAdd, Int.reduceSub, Int.reduceMul, Int.reduceNeg, Int.reduceEq, Int.reduceNe, fx73_0, fx73_1, fx73_2]
          refine hKK _ ?_; clear hKK KK
          refine sq_n ?_
          obtain rfl := someInj hi10
          exact ⟨_, rfl, (by refine Wk.canonD [] [] [some 0, some 1, some 2, some 3, some 4, some 15] rfl trivial rfl (tmOU 5 (tmOU 4 (tmOU 3 (tmOU 2 (tmOU 1 (tmOU 0 tmO0 rfl List.not_mem_nil (by simp only [upd_get, Nat.reduceEqDiff, reduceIte, Nat.reduceAdd, Nat.reduceMul, Nat.reduceSub, Nat.reduceLT, Nat.reduceLeDiff, if_true, if_false] <;> rfl) (e_MetricTable_tmx (by rfl) (Tm.clean (Clean.imm (c_MetricLink _))))) rfl List.not_mem_nil (by simp only [upd_get, Nat.reduceEqDiff, reduceIte, Nat.reduceAdd, Nat.reduceMul, Nat.reduceSub, Nat.reduceLT, Nat.reduceLeDiff, if_true, if_false] <;> rfl) (TmL.clean (e_Addr_clean _))) rfl List.not_mem_nil (by simp only [upd_get, Nat.reduceEqDiff, reduceIte, Nat.reduceAdd, Nat.reduceMul, Nat.reduceSub, Nat.reduceLT, Nat.reduceLeDiff, if_true, if_false] <;> rfl) (e_MetricTable_tmx (by rfl) (Tm.v _))) rfl List.not_mem_nil (by simp only [upd_get, Nat.reduceEqDiff, reduceIte, Nat.reduceAdd, Nat.reduceMul, Nat.reduceSub, Nat.reduceLT, Nat.reduceLeDiff, if_true, if_false] <;> rfl) (e_MetricTable_tmx (by rfl) (Tm.refL rfl ?_))) rfl List.not_mem_nil (by simp only [upd_get, Nat.reduceEqDiff, reduceIte, Nat.reduceAdd, Nat.reduceMul, Nat.reduceSub, Nat.reduceLT, Nat.reduceLeDiff, if_true, if_false] <;> rfl) (TmL.of_eq (by first | rfl | (simp only [List.flatMap_append, List.flatMap_cons, List.flatMap_nil, List.map_append, List.map_cons, List.map_nil, List.append_nil, List.nil_append]; done) | (simp only [List.flatMap_append, List.flatMap_cons, List.flatMap_nil, List.map_append, List.map_cons, List.map_nil, List.append_nil, List.nil_append]; rfl)) (c_MetricLink _))) rfl List.not_mem_nil (by simp only [upd_get, Nat.reduceEqDiff, reduceIte, Nat.reduceAdd, Nat.reduceMul, Nat.reduceSub, Nat.reduceLT, Nat.reduceLeDiff, if_true, if_false] <;> rfl) (TmL.clean (e_MetricLink_clean _))) (tmAllU 16 (tmAllU 15 (tmAllU 14 (tmAllU 13 (tmAllU 10 (tmAllU 6 (tmAllU 5 (tmAllU 4 (tmAllU 3 (tmAllU 2 tmAll0 (Tm.v _)) (Tm.v _)) (Tm.v _)) (Tm.ptr rfl)) (Tm.ptr rfl)) (Tm.ptr rfl)) (Tm.ptr rfl)) (Tm.v _)) (Tm.v _)) (Tm.ptr rfl)); all_goals (first | rfl | (simp only [List.length_take]; omega) | (simp only [List.length_append, List.length_cons, List.length_nil, List.length_modify, List.length_set, Nat.zero_add]; done) | (simp only [List.length_append, List.length_take, List.length_drop, List.length_cons, List.length_nil, List.length_modify, List.length_set, Nat.zero_add]; omega)))⟩
        ·
         have hi10 := cF hi10 h11
         refine awp_skip1 ?_
         refine sq_n ?_
         obtain rfl := someInj hi10
         exact ⟨_, rfl, (by refine Wk.canonD [] [] [some 0, some 1, some 2, some 3, some 4, some 15] rfl trivial rfl (tmOU 5 (tmOU 4 (tmOU 3 (tmOU 2 (tmOU 1 (tmOU 0 tmO0 rfl List.not_mem_nil (by simp only [upd_get, Nat.reduceEqDiff, reduceIte, Nat.reduceAdd, Nat.reduceMul, Nat.reduceSub, Nat.reduceLT, Nat.reduceLeDiff, if_true, if_false] <;> rfl) (e_MetricTable_tmx (by rfl) (Tm.clean (Clean.imm (c_MetricLink _))))) rfl List.not_mem_nil (by simp only [upd_get, Nat.reduceEqDiff, reduceIte, Nat.reduceAdd, Nat.reduceMul, Nat.reduceSub, Nat.reduceLT, Nat.reduceLeDiff, if_true, if_false] <;> rfl) (TmL.clean (e_Addr_clean _))) rfl List.not_mem_nil (by simp only [upd_get, Nat.reduceEqDiff, reduceIte, Nat.reduceAdd, Nat.reduceMul, Nat.reduceSub, Nat.reduceLT, Nat.reduceLeDiff, if_true, if_false] <;> rfl) (e_MetricTable_tmx (by rfl) (Tm.v _))) rfl List.not_mem_nil (by simp only [upd_get, Nat.reduceEqDiff, reduceIte, Nat.reduceAdd, Nat.reduceMul, Nat.reduceSub, Nat.reduceLT, Nat.reduceLeDiff, if_true, if_false] <;> rfl) (e_MetricTable_tmx (by rfl) (Tm.refL rfl ?_))) rfl List.not_mem_nil (by simp only [upd_get, Nat.reduceEqDiff, reduceIte, Nat.reduceAdd, Nat.reduceMul, Nat.reduceSub, Nat.reduceLT, Nat.reduceLeDiff, if_true, if_false] <;> rfl) (TmL.of_eq (by first | rfl | (simp only [List.flatMap_append, List.flatMap_cons, List.flatMap_nil, List.map_append, List.map_cons, List.map_nil, List.append_nil, List.nil_append]; done) | (simp only [List.flatMap_append, List.flatMap_cons, List.flatMap_nil, List.map_append, List.map_cons, List.map_nil, List.append_nil, List.nil_append]; rfl)) (c_MetricLink _))) rfl List.not_mem_nil (by simp only [upd_get, Nat.reduceEqDiff, reduceIte, Nat.reduceAdd, Nat.reduceMul, Nat.reduceSub, Nat.reduceLT, Nat.reduceLeDiff, if_true, if_false] <;> rfl) (TmL.clean (e_MetricLink_clean _))) (tmAllU 16 (tmAllU 15 (tmAllU 14 (tmAllU 13 (tmAllU 10 (tmAllU 6 (tmAllU 5 (tmAllU 4 (tmAllU 3 (tmAllU 2 tmAll0 (Tm.v _)) (Tm.v _)) (Tm.v _)) (Tm.ptr rfl)) (Tm.ptr rfl)) (Tm.ptr rfl)) (Tm.ptr rfl)) (Tm.v _)) (Tm.v _)) (Tm.ptr rfl)); all_goals (first | rfl | (simp only [List.length_take]; omega) | (simp only [List.length_append, List.length_cons, List.length_nil, List.length_modify, List.length_set, Nat.zero_add]; done) | (simp only [List.length_append, List.length_take, List.length_drop, List.length_cons, List.length_nil, List.length_modify, List.length_set, Nat.zero_add]; omega)))⟩
       ·
        rintro _ rfl
        clear hi10
        unfold hotspotref38_Heard_S5
        refine awp_nr1 [2,3,4,5,6,10,13,14,15,16] (fun _ => rfl) fun tz => ?_
        refine awp_reg1 fun KK hKK => ?_
        refine xw_id ?_
        obtain ⟨x75, bx75, hl8⟩ := bnd hl8
        have bx75 := chk_some bx75
        simp only [Bool.and_eq_true, decide_eq_true_eq] at bx75
        have gx75_0 := bx75
        try simp only [go_sem, Nat.reduceEqDiff, reduceIte, Nat.reduceAdd, Nat.reduceMul, Nat.reduceSub, Nat.reduceLT, Nat.reduceLeDiff, Int.reduceToNat, Int.reduceBEq, Int.reduceBNe, Int.reduceLT, Int.reduceLE, Int.reduceAdd, Int.reduceSub, Int.reduceMul, Int.reduceNeg, Int.reduceEq, Int.reduceNe, gx75_0]
        refine hKK _ ?_; clear hKK KK
        refine bq_n ?_
        refine seqW_i ?_
        refine awp_nr1 [2,3,4,5,6,10,13,14,15] (fun _ => rfl) fun tz => ?_
        refine awp_reg1 fun KK hKK => ?_
        refine xw_id ?_
        try simp only [go_sem, Nat.reduceEqDiff, reduceIte, Nat.reduceAdd, Nat.reduceMul, Nat.reduceSub, Nat.reduceLT, Nat.reduceLeDiff]
        refine hKK _ ?_; clear hKK KK
        refine lq_n ?_
        exact ⟨n7, (d72.1, (d72.2.1 ++ [d74.2]), d74.1, IntKind.wrap .i64 (d72.2.2.2 + 1)), rfl, hl8, (by refine Wk.canonD [] [] [some 0, some 1, some 2, some 3, some 10] rfl trivial rfl (tmOU 4 (tmOU 3 (tmOU 2 (tmOU 1 (tmOU 0 tmO0 rfl List.not_mem_nil (by simp only [upd_get, Nat.reduceEqDiff, reduceIte, Nat.reduceAdd, Nat.reduceMul, Nat.reduceSub, Nat.reduceLT, Nat.reduceLeDiff, if_true, if_false] <;> rfl) (e_MetricTable_tmx (by rfl) (Tm.clean (Clean.imm (c_MetricLink _))))) rfl List.not_mem_nil (by simp only [upd_get, Nat.reduceEqDiff, reduceIte, Nat.reduceAdd, Nat.reduceMul, Nat.reduceSub, Nat.reduceLT, Nat.reduceLeDiff, if_true, if_false] <;> rfl) (TmL.clean (e_Addr_clean _))) rfl List.not_mem_nil (by simp only [upd_get, Nat.reduceEqDiff, reduceIte, Nat.reduceAdd, Nat.reduceMul, Nat.reduceSub, Nat.reduceLT, Nat.reduceLeDiff, if_true, if_false] <;> rfl) (e_MetricTable_tmx (by rfl) (Tm.v _))) rfl List.not_mem_nil (by simp only [upd_get, Nat.reduceEqDiff, reduceIte, Nat.reduceAdd, Nat.reduceMul, Nat.reduceSub, Nat.reduceLT, Nat.reduceLeDiff, if_true, if_false] <;> rfl) (e_MetricTable_tmx (by rfl) (Tm.refL rfl ?_))) rfl List.not_mem_nil (by simp only [upd_get, Nat.reduceEqDiff, reduceIte, Nat.reduceAdd, Nat.reduceMul, Nat.reduceSub, Nat.reduceLT, Nat.reduceLeDiff, if_true, if_false] <;> rfl) (TmL.of_eq (by first | rfl | (simp only [List.flatMap_append, List.flatMap_cons, List.flatMap_nil, List.map_append, List.map_cons, List.map_nil, List.append_nil, List.nil_append]; done) | (simp only [List.flatMap_append, List.flatMap_cons, List.flatMap_nil, List.map_append, List.map_cons, List.map_nil, List.append_nil, List.nil_append]; rfl)) (c_MetricLink _))) (tmAllU 15 (tmAllU 14 (tmAllU 13 (tmAllU 10 (tmAllU 6 (tmAllU 5 (tmAllU 4 (tmAllU 3 (tmAllU 2 tmAll0 (Tm.v _)) (Tm.v _)) (Tm.v _)) (Tm.ptr rfl)) (Tm.ptr rfl)) (Tm.ptr rfl)) (Tm.ptr rfl)) (Tm.v _)) (Tm.v _)); all_goals (first | rfl | (simp only [List.length_take]; omega) | (simp only [List.length_append, List.length_cons, List.length_nil, List.length_modify, List.length_set, Nat.zero_add]; done) | (simp only [List.length_append, List.length_take, List.length_drop, List.length_cons, List.length_nil, List.length_modify, List.length_set, Nat.zero_add]; omega)))⟩
      ·
       have hl8 := cF hl8 h9
       refine awp_exit ?_
       refine lq_e ?_
       refine bq_e ?_
       refine sq_n ?_
       obtain rfl := someInj hl8
       exact ⟨_, rfl, (by refine Wk.canonD [] [] [some 0, some 1, some 2, some 3, some 4] rfl trivial rfl (tmOU 4 (tmOU 3 (tmOU 2 (tmOU 1 (tmOU 0 tmO0 rfl List.not_mem_nil (by simp only [upd_get, Nat.reduceEqDiff, reduceIte, Nat.reduceAdd, Nat.reduceMul, Nat.reduceSub, Nat.reduceLT, Nat.reduceLeDiff, if_true, if_false] <;> rfl) (e_MetricTable_tmx (by rfl) (Tm.clean (Clean.imm (c_MetricLink _))))) rfl List.not_mem_nil (by simp only [upd_get, Nat.reduceEqDiff, reduceIte, Nat.reduceAdd, Nat.reduceMul, Nat.reduceSub, Nat.reduceLT, Nat.reduceLeDiff, if_true, if_false] <;> rfl) (TmL.clean (e_Addr_clean _))) rfl List.not_mem_nil (by simp only [upd_get, Nat.reduceEqDiff, reduceIte, Nat.reduceAdd, Nat.reduceMul, Nat.reduceSub, Nat.reduceLT, Nat.reduceLeDiff, if_true, if_false] <;> rfl) (e_MetricTable_tmx (by rfl) (Tm.v _))) rfl List.not_mem_nil (by simp only [upd_get, Nat.reduceEqDiff, reduceIte, Nat.reduceAdd, Nat.reduceMul, Nat.reduceSub, Nat.reduceLT, Nat.reduceLeDiff, if_true, if_false] <;> rfl) (e_MetricTable_tmx (by rfl) (Tm.refL rfl ?_))) rfl List.not_mem_nil (by simp only [upd_get, Nat.reduceEqDiff, reduceIte, Nat.reduceAdd, Nat.reduceMul, Nat.reduceSub, Nat.reduceLT, Nat.reduceLeDiff, if_true, if_false] <;> rfl) (TmL.of_eq (by first | rfl | (simp only [List.flatMap_append, List.flatMap_cons, List.flatMap_nil, List.map_append, List.map_cons, List.map_nil, List.append_nil, List.nil_append]; done) | (simp only [List.flatMap_append, List.flatMap_cons, List.flatMap_nil, List.map_append, List.map_cons, List.map_nil, List.append_nil, List.nil_append]; rfl)) (c_MetricLink _))) (tmAllU 14 (tmAllU 13 (tmAllU 10 (tmAllU 6 (tmAllU 5 (tmAllU 4 (tmAllU 3 (tmAllU 2 tmAll0 (Tm.v _)) (Tm.v _)) (Tm.v _)) (Tm.ptr rfl)) (Tm.ptr rfl)) (Tm.ptr rfl)) (Tm.ptr rfl)) (Tm.v _)); all_goals (first | rfl | (simp only [List.length_take]; omega) | (simp only [List.length_append, List.length_cons, List.length_nil, List.length_modify, List.length_set, Nat.zero_add]; done) | (simp only [List.length_append, List.length_take, List.length_drop, List.length_cons, List.length_nil, List.length_modify, List.length_set, Nat.zero_add]; omega)))⟩
    ·
     rintro _ rfl
     clear hi6
     unfold hotspotref38_Heard_S2
     refine awp_assoc ?_
     refine awp_nr [2,3,4,5,6,10,13,14] (fun _ => rfl) fun tz => ?_
     refine awp_regW fun KK hKK => ?_
     refine xw_id ?_
     try simp only [go_sem, Nat.reduceEqDiff, reduceIte, Nat.reduceAdd, Nat.reduceMul, Nat.reduceSub, Nat.reduceLT, Nat.reduceLeDiff]
     refine hKK _ _ (Wk.refl _ _ _) ?_; clear hKK KK
     refine awp_cond (b := d71.2.2) rfl (fun h13 => ?_) (fun h13 => ?_)
     ·
      have h0 := cT h0 h13
      refine awp_assoc ?_
      refine awp_nr [10,13] (fun _ => rfl) fun tz => ?_
      refine awp_regW fun KK hKK => ?_
      refine xw_id ?_
      try simp only [go_sem, Nat.reduceEqDiff, reduceIte, Nat.reduceAdd, Nat.reduceMul, Nat.reduceSub, Nat.reduceLT, Nat.reduceLeDiff]
      refine hKK _ _ (Wk.refl _ _ _) ?_; clear hKK KK
      refine awp_ret ?_
      obtain rfl := someInj h0
      refine endW_i ?_
      refine end_ret0 rs21 (by simp only [go_sem, resV, resAll, resOf, packR, Nat.reduceEqDiff, reduceIte, Nat.reduceAdd, Nat.reduceMul, Nat.reduceSub, Nat.reduceLT, Nat.reduceLeDiff]; rfl) ?_
      refine Res.mk [] [some 4] rfl (resOU List.not_mem_nil (by simp only [upd_get, Nat.reduceEqDiff, reduceIte, Nat.reduceAdd, Nat.reduceMul, Nat.reduceSub, Nat.reduceLT, Nat.reduceLeDiff, if_true, if_false] <;> rfl) (TmL.of_eq (by first | rfl | (simp only [List.flatMap_append, List.flatMap_cons, List.flatMap_nil, List.map_append, List.map_cons, List.map_nil, List.append_nil, List.nil_append]; done) | (simp only [List.flatMap_append, List.flatMap_cons, List.flatMap_nil, List.map_append, List.map_cons, List.map_nil, List.append_nil, List.nil_append]; rfl)) (c_MetricLink _)) resO0) (Tm.tup (TmL.cons (Tm.agg (e_MetricTable_tmx (by rfl) (Tm.refL rfl ?_))) (TmL.cons (Tm.v _) TmL.nil)))
      all_goals (first | rfl | (simp only [List.length_take]; omega) | (simp only [List.length_append, List.length_cons, List.length_nil, List.length_modify, List.length_set, Nat.zero_add]; done) | (simp only [List.length_append, List.length_take, List.length_drop, List.length_cons, List.length_nil, List.length_modify, List.length_set, Nat.zero_add]; omega))
     ·
      have h0 := cF h0 h13
      refine awp_skip ?_
      refine awp_assoc ?_
      refine awp_nr [2,3,4,5,6,10,13] (fun _ => rfl) fun tz => ?_
      refine awp_regW fun KK hKK => ?_
      refine xw_id ?_
      try simp only [go_sem, Nat.reduceEqDiff, reduceIte, Nat.reduceAdd, Nat.reduceMul, Nat.reduceSub, Nat.reduceLT, Nat.reduceLeDiff]
      refine hKK _ _ (Wk.refl _ _ _) ?_; clear hKK KK
      refine awp_cond (b := (!a3)) rfl (fun h14 => ?_) (fun h14 => ?_)
      ·
       have h0 := cT h0 h14
       refine awp_assoc ?_
       refine awp_nr [10] (fun _ => rfl) fun tz => ?_
       refine awp_regW fun KK hKK => ?_
       refine xw_id ?_
       try simp only [go_sem, Nat.reduceEqDiff, reduceIte, Nat.reduceAdd, Nat.reduceMul, Nat.reduceSub, Nat.reduceLT, Nat.reduceLeDiff]
       refine hKK _ _ (Wk.refl _ _ _) ?_; clear hKK KK
       refine awp_ret ?_
       obtain rfl := someInj h0
       refine endW_i ?_
       refine end_ret0 rs21 (by simp only [go_sem, resV, resAll, resOf, packR, Nat.reduceEqDiff, reduceIte, Nat.reduceAdd, Nat.reduceMul, Nat.reduceSub, Nat.reduceLT, Nat.reduceLeDiff]; rfl) ?_
       refine Res.mk [] [none] rfl (resON resO0) (Tm.tup (TmL.cons (Tm.agg (e_MetricTable_tmx (by rfl) (Tm.thaw _ _ _))) (TmL.cons (Tm.v _) TmL.nil)))
      ·
       have h0 := cF h0 h14
       refine awp_skip ?_
       refine awp_assoc ?_
       refine awp_nr [2,4,5,6,10,13] (fun _ => rfl) fun tz => ?_
       refine awp_regW fun KK hKK => ?_
       refine xw_id ?_
       try simp only [go_sem, Nat.reduceEqDiff, reduceIte, Nat.reduceAdd, Nat.reduceMul, Nat.reduceSub, Nat.reduceLT, Nat.reduceLeDiff, Int.reduceToNat, Int.reduceBEq, Int.reduceBNe, Int.reduceLT, Int.reduceLE, Int.reduceAdd, Int.reduceSub, Int.reduceMul, Int.reduceNeg, Int.reduceEq, Int.reduceNe]
       refine hKK _ _ (Wk.refl _ _ _) ?_; clear hKK KK
       refine awp_cond (b := (decide (32 ≤ (a0.Links.length : Int)))) rfl (fun h15 => ?_) (fun h15 => ?_)
       ·
        have h0 := cT h0 h15
        refine awp_assoc ?_
        refine awp_nr [10] (fun _ => rfl) fun tz => ?_
        refine awp_regW fun KK hKK => ?_
        refine xw_id ?_
        try simp only [go_sem, Nat.reduceEqDiff, reduceIte, Nat.reduceAdd, Nat.reduceMul, Nat.reduceSub, Nat.reduceLT, Nat.reduceLeDiff]
        refine hKK _ _ (Wk.refl _ _ _) ?_; clear hKK KK
        refine awp_ret ?_
        obtain rfl := someInj h0
        refine endW_i ?_
        refine end_ret0 rs21 (by simp only [go_sem, resV, resAll, resOf, packR, Nat.reduceEqDiff, reduceIte, Nat.reduceAdd, Nat.reduceMul, Nat.reduceSub, Nat.reduceLT, Nat.reduceLeDiff]; rfl) ?_
        refine Res.mk [] [none] rfl (resON resO0) (Tm.tup (TmL.cons (Tm.agg (e_MetricTable_tmx (by rfl) (Tm.thaw _ _ _))) (TmL.cons (Tm.v _) TmL.nil)))
       ·
        have h0 := cF h0 h15
        refine awp_skip ?_
        refine awp_nr [2,4,5,6,10,13] (fun _ => rfl) fun tz => ?_
        refine awp_regW fun KK hKK => ?_
        refine xw_id ?_
        try simp only [go_sem, Nat.reduceEqDiff, reduceIte, Nat.reduceAdd, Nat.reduceMul, Nat.reduceSub, Nat.reduceLT, Nat.reduceLeDiff]
        refine hKK _ _ (Wk.refl _ _ _) ?_; clear hKK KK
        refine awp_nr [2,4,5,6,10,13] (fun _ => rfl) fun tz => ?_
        refine awp_regW fun KK hKK => ?_
        refine xw_id ?_
        try simp only [go_sem, Nat.reduceEqDiff, reduceIte, Nat.reduceAdd, Nat.reduceMul, Nat.reduceSub, Nat.reduceLT, Nat.reduceLeDiff]
        refine hKK _ _ (Wk.refl _ _ _) ?_; clear hKK KK
        refine awp_nr [5,6,10,13,17] (fun _ => rfl) fun tz => ?_
        refine awp_regW fun KK hKK => ?_
        refine xw_id ?_
        try simp only [go_sem, Nat.reduceEqDiff, reduceIte, Nat.reduceAdd, Nat.reduceMul, Nat.reduceSub, Nat.reduceLT, Nat.reduceLeDiff]
        refine hKK _ _ (Wk.refl _ _ _) ?_; clear hKK KK
        refine awp_assoc ?_
        refine awp_nr [5,6,10,13,17,18] (fun _ => rfl) fun tz => ?_
        refine awp_regW fun KK hKK => ?_
        refine xw_id ?_
        try simp only [go_sem, Nat.reduceEqDiff, reduceIte, Nat.reduceAdd, Nat.reduceMul, Nat.reduceSub, Nat.reduceLT, Nat.reduceLeDiff]
        refine hKK _ _ (Wk.refl _ _ _) ?_; clear hKK KK
        obtain ⟨d76, hi16, h0⟩ := bnd h0
        refine awp_cut (fun z => d76 = z) (fun d76 : (MetricTable × List MetricLink × Bool) => hotspotref38_Heard_S7 a4 a1 a2 d76) ?_ ?_
        ·
         refine awp_block1 ?_
         refine awp_loopS (fun n (d77 : (MetricTable × List MetricLink × Bool × Int)) => hotspotref38_Heard_L9 a0 a1 a4 a2 n d77 = some d76) (fun d77 : (MetricTable × List MetricLink × Bool × Int) => hotspotref38_Heard_S8 a0 a1 a4 a2 d77) big (MetricTable.z, [], false, 0) (Wk.canonD [] [] [some 0, some 1, some 2, some 3, none, some 18] rfl trivial rfl (tmOU 5 (tmON 4 (tmOU 3 (tmOU 2 (tmOU 1 (tmOU 0 tmO0 rfl List.not_mem_nil (by simp only [upd_get, Nat.reduceEqDiff, reduceIte, Nat.reduceAdd, Nat.reduceMul, Nat.reduceSub, Nat.reduceLT, Nat.reduceLeDiff, if_true, if_false] <;> rfl) (e_MetricTable_tmx (by rfl) (Tm.clean (Clean.imm (c_MetricLink _))))) rfl List.not_mem_nil (by simp only [upd_get, Nat.reduceEqDiff, reduceIte, Nat.reduceAdd, Nat.reduceMul, Nat.reduceSub, Nat.reduceLT, Nat.reduceLeDiff, if_true, if_false] <;> rfl) (TmL.clean (e_Addr_clean _))) rfl List.not_mem_nil (by simp only [upd_get, Nat.reduceEqDiff, reduceIte, Nat.reduceAdd, Nat.reduceMul, Nat.reduceSub, Nat.reduceLT, Nat.reduceLeDiff, if_true, if_false] <;> rfl) (e_MetricTable_tmx (by rfl) (Tm.v _))) rfl List.not_mem_nil (by simp only [upd_get, Nat.reduceEqDiff, reduceIte, Nat.reduceAdd, Nat.reduceMul, Nat.reduceSub, Nat.reduceLT, Nat.reduceLeDiff, if_true, if_false] <;> rfl) (e_MetricTable_tmx (by rfl) (Tm.thaw _ _ _))) rfl) rfl List.not_mem_nil (by simp only [upd_get, Nat.reduceEqDiff, reduceIte, Nat.reduceAdd, Nat.reduceMul, Nat.reduceSub, Nat.reduceLT, Nat.reduceLeDiff, if_true, if_false] <;> rfl) (TmL.clean (e_MetricLink_clean _))) (tmAllU 19 (tmAllU 18 (tmAllU 17 (tmAllU 13 (tmAllU 10 (tmAllU 6 (tmAllU 5 tmAll0 (Tm.ptr rfl)) (Tm.ptr rfl)) (Tm.ptr rfl)) (Tm.ptr rfl)) (Tm.ptr rfl)) (Tm.v _)) (Tm.v _))) hi16 ?_
         clear hi16
         rintro n d77 hl18
         rcases n with _ | n17
         ·
          (rw [hotspotref38_Heard_L9] at hl18; cases hl18)
         ·
          rw [hotspotref38_Heard_L9] at hl18
          unfold hotspotref38_Heard_S8
          refine awp_assoc ?_
          refine awp_nr [5,6,10,13,17,18,19] (fun _ => rfl) fun tz => ?_
          refine awp_regW fun KK hKK => ?_
          refine xw_id ?_
          try simp only [go_sem, Nat.reduceEqDiff, reduceIte, Nat.reduceAdd, Nat.reduceMul, Nat.reduceSub, Nat.reduceLT, Nat.reduceLeDiff, Int.reduceToNat, Int.reduceBEq, Int.reduceBNe, Int.reduceLT, Int.reduceLE, Int.reduceAdd, Int.reduceSub, Int.reduceMul, Int.reduceNeg, Int.reduceEq, Int.reduceNe]
          refine hKK _ _ (Wk.refl _ _ _) ?_; clear hKK KK
          refine awp_cond (b := (decide (d77.2.2.2 < (a0.Links.length : Int)))) rfl (fun h19 => ?_) (fun h19 => ?_)
          ·
           have hl18 := cT hl18 h19
           refine awp_skip ?_
           refine awp_blockW ?_
           refine awp_assoc ?_
           refine awp_nr [5,6,10,13,17,18,19] (fun _ => rfl) fun tz => ?_
           refine awp_regW fun KK hKK => ?_
           refine xw_id ?_
           refine xw_stop 3 (by (try simp only [go_sem]); rfl) (by (try simp only [go_sem]); rfl) (by rfl) fun K1 hK1 => ?_
           refine xw_id ?_
           try simp only [go_sem, Nat.reduceEqDiff, reduceIte, Nat.reduceAdd, Nat.reduceMul, Nat.reduceSub, Nat.reduceLT, Nat.reduceLeDiff]
           refine hK1 _ ?_; clear hK1 K1
           obtain ⟨x80, hvh20, hl18⟩ := bnd hl18
           refine xw_cut 9 [(5, (.ptr 0 0)), (6, (.ptr 1 0)), (10, (.ptr 2 0)), (13, (.ptr 3 0)), (17, (.ptr 5 0)), (18, (vb d77.2.2.1)), (19, (vi d77.2.2.2)), (111, (vb x80))] (by (try simp only [go_sem]); rfl) (by (try simp only [go_sem]); rfl) (by rfl) (fun K1 hK1 => ?_) fun tz => ?_
           ·
            refine xw_id ?_
            rcases Bool.eq_false_or_eq_true (!d77.2.2.1) with h20 | h20
            ·
             have hvh20 := cT hvh20 h20
             obtain ⟨x78, bx78, hvh20⟩ := bnd hvh20
             obtain ⟨fx78_0, fx78_1, fx78_2, fx78_3⟩ := idx_some bx78
             obtain ⟨x79, bx79, hvh20⟩ := bnd hvh20
             try simp only [go_sem, Nat.reduceEqDiff, reduceIte, Nat.reduceAdd, Nat.reduceMul, Nat.reduceSub, Nat.reduceLT, Nat.reduceLeDiff, h20, fx78_0, fx78_1, fx78_2]
             refine xcall_p (hotspotref23_Smaller_p a1 x78.Peer bx79) ?_; try dsimp only
             try refine xw_id ?_
             try simp only [go_sem, Nat.reduceEqDiff, reduceIte, Nat.reduceAdd, Nat.reduceMul, Nat.reduceSub, Nat.reduceLT, Nat.reduceLeDiff, h20, fx78_0, fx78_1, fx78_2]
             obtain rfl := someInj hvh20
             exact hK1 _ ⟨rfl, rfl, rfl, rfl, rfl, rfl, rfl, rfl, (by first | rfl | (rw [h20]; rfl) | (simp only [h20, Bool.true_and, Bool.false_and, Bool.true_or, Bool.false_or, cond_true, cond_false]; done)), trivial⟩
            ·
             have hvh20 := cF hvh20 h20
             try simp only [go_sem, Nat.reduceEqDiff, reduceIte, Nat.reduceAdd, Nat.reduceMul, Nat.reduceSub, Nat.reduceLT, Nat.reduceLeDiff, h20]
             obtain rfl := someInj hvh20
             exact hK1 _ ⟨rfl, rfl, rfl, rfl, rfl, rfl, rfl, rfl, (by first | rfl | (rw [h20]; rfl) | (simp only [h20, Bool.true_and, Bool.false_and, Bool.true_or, Bool.false_or, cond_true, cond_false]; done)), trivial⟩
           ·
            refine xw_id ?_
            try simp only [go_sem, Nat.reduceEqDiff, reduceIte, Nat.reduceAdd, Nat.reduceMul, Nat.reduceSub, Nat.reduceLT, Nat.reduceLeDiff]
            refine hKK _ _ (Wk.refl _ _ _) ?_; clear hKK KK
            obtain ⟨d81, hi21, hl18⟩ := bnd hl18
            refine awp_cut (fun z => d81 = z) (fun d81 : (List MetricLink × Bool) => hotspotref38_Heard_S10 a0 a1 d77 a4 a2 d81) ?_ ?_
            ·
             refine awp_cond1 (b := x80) rfl (fun h22 => ?_) (fun h22 => ?_)
             ·
              have hi21 := cT hi21 h22
              refine awp_nr [5,6,10,13,17,19] (fun _ => rfl) fun tz => ?_
              refine awp_regW fun KK hKK => ?_
              refine xw_id ?_
              obtain ⟨x82, bx82, hi21⟩ := bnd hi21
              have bx82 := chk_some bx82
              simp only [Bool.and_eq_true, decide_eq_true_eq] at bx82
              have gx82_0 := bx82
              try simp only [go_sem, Nat.reduceEqDiff, reduceIte, Nat.reduceAdd, Nat.reduceMul, Nat.reduceSub, Nat.reduceLT, Nat.reduceLeDiff, Int.reduceToNat, Int.reduceBEq, Int.reduceBNe, Int.reduceLT, Int.reduceLE, Int.reduceAdd, Int.reduceSub, Int.reduceMul, Int.reduceNeg, Int.reduceEq, Int.reduceNe, gx82_0]
              refine hKK _ _ (Wk.refl _ _ _) ?_; clear hKK KK
              refine awp_nr1 [5,6,10,13,17,19] (fun _ => rfl) fun tz => ?_
              refine awp_reg1 fun KK hKK => ?_
              refine xw_id ?_
              try simp only [go_sem, Nat.reduceEqDiff, reduceIte, Nat.reduceAdd, Nat.reduceMul, Nat.reduceSub, Nat.reduceLT, Nat.reduceLeDiff]
              refine hKK _ ?_; clear hKK KK
              refine sq_n ?_
              obtain rfl := someInj hi21
              exact ⟨_, rfl, (by refine Wk.canonD [] [] [some 0, some 1, some 2, some 3, some 27, some 5] rfl trivial rfl (tmOU 5 (tmOU 4 (tmOU 3 (tmOU 2 (tmOU 1 (tmOU 0 tmO0 rfl List.not_mem_nil (by simp only [upd_get, Nat.reduceEqDiff, reduceIte, Nat.reduceAdd, Nat.reduceMul, Nat.reduceSub, Nat.reduceLT, Nat.reduceLeDiff, if_true, if_false] <;> rfl) (e_MetricTable_tmx (by rfl) (Tm.clean (Clean.imm (c_MetricLink _))))) rfl List.not_mem_nil (by simp only [upd_get, Nat.reduceEqDiff, reduceIte, Nat.reduceAdd, Nat.reduceMul, Nat.reduceSub, Nat.reduceLT, Nat.reduceLeDiff, if_true, if_false] <;> rfl) (TmL.clean (e_Addr_clean _))) rfl List.not_mem_nil (by simp only [upd_get, Nat.reduceEqDiff, reduceIte, Nat.reduceAdd, Nat.reduceMul, Nat.reduceSub, Nat.reduceLT, Nat.reduceLeDiff, if_true, if_false] <;> rfl) (e_MetricTable_tmx (by rfl) (Tm.v _))) rfl List.not_mem_nil (by simp only [upd_get, Nat.reduceEqDiff, reduceIte, Nat.reduceAdd, Nat.reduceMul, Nat.reduceSub, Nat.reduceLT, Nat.reduceLeDiff, if_true, if_false] <;> rfl) (e_MetricTable_tmx (by rfl) (Tm.refL rfl ?_))) rfl List.not_mem_nil (by simp only [upd_get, Nat.reduceEqDiff, reduceIte, Nat.reduceAdd, Nat.reduceMul, Nat.reduceSub, Nat.reduceLT, Nat.reduceLeDiff, if_true, if_false] <;> rfl) (TmL.of_eq (by first | rfl | (simp only [List.flatMap_append, List.flatMap_cons, List.flatMap_nil, List.map_append, List.map_cons, List.map_nil, List.append_nil, List.nil_append]; done) | (simp only [List.flatMap_append, List.flatMap_cons, List.flatMap_nil, List.map_append, List.map_cons, List.map_nil, List.append_nil, List.nil_append]; rfl)) (c_MetricLink _))) rfl List.not_mem_nil (by simp only [upd_get, Nat.reduceEqDiff, reduceIte, Nat.reduceAdd, Nat.reduceMul, Nat.reduceSub, Nat.reduceLT, Nat.reduceLeDiff, if_true, if_false] <;> rfl) (TmL.clean (e_MetricLink_clean _))) (tmAllU 19 (tmAllU 18 (tmAllU 17 (tmAllU 13 (tmAllU 10 (tmAllU 6 (tmAllU 5 tmAll0 (Tm.ptr rfl)) (Tm.ptr rfl)) (Tm.ptr rfl)) (Tm.ptr rfl)) (Tm.ptr rfl)) (Tm.v _)) (Tm.v _)); all_goals (first | rfl | (simp only [List.length_take]; omega) | (simp only [List.length_append, List.length_cons, List.length_nil, List.length_modify, List.length_set, Nat.zero_add]; done) | (simp only [List.length_append, List.length_take, List.length_drop, List.length_cons, List.length_nil, List.length_modify, List.length_set, Nat.zero_add]; omega)))⟩
             ·
              have hi21 := cF hi21 h22
              refine awp_skip1 ?_
              refine sq_n ?_
              obtain rfl := someInj hi21
              exact ⟨_, rfl, (by refine Wk.canonD [] [] [some 0, some 1, some 2, some 3, some 4, some 5] rfl trivial rfl (tmOU 5 (tmOU 4 (tmOU 3 (tmOU 2 (tmOU 1 (tmOU 0 tmO0 rfl List.not_mem_nil (by simp only [upd_get, Nat.reduceEqDiff, reduceIte, Nat.reduceAdd, Nat.reduceMul, Nat.reduceSub, Nat.reduceLT, Nat.reduceLeDiff, if_true, if_false] <;> rfl) (e_MetricTable_tmx (by rfl) (Tm.clean (Clean.imm (c_MetricLink _))))) rfl List.not_mem_nil (by simp only [upd_get, Nat.reduceEqDiff, reduceIte, Nat.reduceAdd, Nat.reduceMul, Nat.reduceSub, Nat.reduceLT, Nat.reduceLeDiff, if_true, if_false] <;> rfl) (TmL.clean (e_Addr_clean _))) rfl List.not_mem_nil (by simp only [upd_get, Nat.reduceEqDiff, reduceIte, Nat.reduceAdd, Nat.reduceMul, Nat.reduceSub, Nat.reduceLT, Nat.reduceLeDiff, if_true, if_false] <;> rfl) (e_MetricTable_tmx (by rfl) (Tm.v _))) rfl List.not_mem_nil (by simp only [upd_get, Nat.reduceEqDiff, reduceIte, Nat.reduceAdd, Nat.reduceMul, Nat.reduceSub, Nat.reduceLT, Nat.reduceLeDiff, if_true, if_false] <;> rfl) (e_MetricTable_tmx (by rfl) (Tm.refL rfl ?_))) rfl List.not_mem_nil (by simp only [upd_get, Nat.reduceEqDiff, reduceIte, Nat.reduceAdd, Nat.reduceMul, Nat.reduceSub, Nat.reduceLT, Nat.reduceLeDiff, if_true, if_false] <;> rfl) (TmL.of_eq (by first | rfl | (simp only [List.flatMap_append, List.flatMap_cons, List.flatMap_nil, List.map_append, List.map_cons, List.map_nil, List.append_nil, List.nil_append]; done) | (simp only [List.flatMap_append, List.flatMap_cons, List.flatMap_nil, List.map_append, List.map_cons, List.map_nil, List.append_nil, List.nil_append]; rfl)) (c_MetricLink _))) rfl List.not_mem_nil (by simp only [upd_get, Nat.reduceEqDiff, reduceIte, Nat.reduceAdd, Nat.reduceMul, Nat.reduceSub, Nat.reduceLT, Nat.reduceLeDiff, if_true, if_false] <;> rfl) (TmL.clean (e_MetricLink_clean _))) (tmAllU 19 (tmAllU 18 (tmAllU 17 (tmAllU 13 (tmAllU 10 (tmAllU 6 (tmAllU 5 tmAll0 (Tm.ptr rfl)) (Tm.ptr rfl)) (Tm.ptr rfl)) (Tm.ptr rfl)) (Tm.ptr rfl)) (Tm.v _)) (Tm.v _)); all_goals (first | rfl | (simp only [List.length_take]; omega) | (simp only [List.length_append, List.length_cons, List.length_nil, List.length_modify, List.length_set, Nat.zero_add]; done) | (simp only [List.length_append, List.length_take, List.length_drop, List.length_cons, List.length_nil, List.length_modify, List.length_set, Nat.zero_add]; omega)))⟩
            ·
             rintro _ rfl
             clear hi21
             unfold hotspotref38_Heard_S10
             refine awp_nr1 [5,6,10,13,17,18,19] (fun _ => rfl) fun tz => ?_
             refine awp_regD1 fun KK hKK all hall => ?_
             refine xd_id ?_
             try simp only [List.toList_toArray, List.map_cons, List.map_nil, List.size_toArray, List.length_cons, List.length_nil, Nat.zero_add]
             try simp only [Nat.reduceAdd]
             obtain ⟨x83, bx83, hl18⟩ := bnd hl18
             obtain ⟨fx83_0, fx83_1, fx83_2, fx83_3⟩ := idx_some bx83
             obtain ⟨x84, bx84, hl18⟩ := bnd hl18
             have bx84 := chk_some bx84
             simp only [Bool.and_eq_true, decide_eq_true_eq] at bx84
             have gx84_0 := bx84
             simp only [go_sem, Nat.reduceEqDiff, reduceIte, Nat.reduceMul, Nat.reduceSub, Nat.reduceLT, Nat.reduceLeDiff, Int.reduceToNat, Int.reduceBEq, Int.reduceBNe, Int.reduceLT, Int.reduceLE, Int.reduceAdd, Int.reduceSub, Int.reduceMul, Int.reduceNeg, Int.reduceEq, Int.reduceNe, fx83_0, fx83_1, fx83_2, gx84_0]
             try simp only [Nat.reduceAdd]
             try simp only [go_sem, Nat.reduceEqDiff, reduceIte, Nat.reduceMul, Nat.reduceSub, Nat.reduceLT, Nat.reduceLeDiff, Int.reduceToNat, Int.reduceBEq, Int.reduceBNe, Int.reduceLT, Int.reduceLE, Int.reduceAdd, Int.reduceSub, Int.reduceMul, Int.reduceNeg, Int.reduceEq, Int.reduceNe, fx83_0, fx83_1, fx83_2, gx84_0]
             try simp only [Nat.reduceAdd]
             try simp only [go_sem, Nat.reduceEqDiff, reduceIte, Nat.reduceMul, Nat.reduceSub, Nat.reduceLT, Nat.reduceLeDiff, Int.reduceToNat, Int.reduceBEq, Int.reduceBNe, Int.reduceLT, Int.reduceLE, Int.reduceAdd, Int.reduceSub, Int.reduceMul, Int.reduceNeg, Int.reduceEq, Int.reduceNe, fx83_0, fx83_1, fx83_2, gx84_0]
             refine And.intro ?_ (hKK _ ?_)
             ·
              subst hall
              clear hKK KK
              first | (simp [printsOk, apartP, clash, meet]; done) | (simp [printsOk, apartP, clash, meet]; decide +kernel) | decide +kernel
             ·
              clear hKK KK hall all
              refine bq_n ?_
              refine seqW_i ?_
              refine awp_nr1 [5,6,10,13,17,18,19] (fun _ => rfl) fun tz => ?_
              refine awp_reg1 fun KK hKK => ?_
              refine xw_id ?_
              try simp only [go_sem, Nat.reduceEqDiff, reduceIte, Nat.reduceAdd, Nat.reduceMul, Nat.reduceSub, Nat.reduceLT, Nat.reduceLeDiff, fx83_0, fx83_1, fx83_2]
              refine hKK _ ?_; clear hKK KK
              refine lq_n ?_
              exact ⟨n17, (d77.1, (d81.1 ++ [x83]), d81.2, IntKind.wrap .i64 (d77.2.2.2 + 1)), rfl, hl18, (by refine Wk.canonD [] [] [some 0, some 1, some 2, some 3, some 14, some 5] rfl trivial rfl (tmOU 5 (tmOU 4 (tmOU 3 (tmOU 2 (tmOU 1 (tmOU 0 tmO0 rfl List.not_mem_nil (by simp only [upd_get, Nat.reduceEqDiff, reduceIte, Nat.reduceAdd, Nat.reduceMul, Nat.reduceSub, Nat.reduceLT, Nat.reduceLeDiff, if_true, if_false] <;> rfl) (e_MetricTable_tmx (by rfl) (Tm.clean (Clean.imm (c_MetricLink _))))) rfl List.not_mem_nil (by simp only [upd_get, Nat.reduceEqDiff, reduceIte, Nat.reduceAdd, Nat.reduceMul, Nat.reduceSub, Nat.reduceLT, Nat.reduceLeDiff, if_true, if_false] <;> rfl) (TmL.clean (e_Addr_clean _))) rfl List.not_mem_nil (by simp only [upd_get, Nat.reduceEqDiff, reduceIte, Nat.reduceAdd, Nat.reduceMul, Nat.reduceSub, Nat.reduceLT, Nat.reduceLeDiff, if_true, if_false] <;> rfl) (e_MetricTable_tmx (by rfl) (Tm.v _))) rfl List.not_mem_nil (by simp only [upd_get, Nat.reduceEqDiff, reduceIte, Nat.reduceAdd, Nat.reduceMul, Nat.reduceSub, Nat.reduceLT, Nat.reduceLeDiff, if_true, if_false] <;> rfl) (e_MetricTable_tmx (by rfl) (Tm.refL rfl ?_))) rfl List.not_mem_nil (by simp only [upd_get, Nat.reduceEqDiff, reduceIte, Nat.reduceAdd, Nat.reduceMul, Nat.reduceSub, Nat.reduceLT, Nat.reduceLeDiff, if_true, if_false] <;> rfl) (TmL.of_eq (by first | rfl | (simp only [List.flatMap_append, List.flatMap_cons, List.flatMap_nil, List.map_append, List.map_cons, List.map_nil, List.append_nil, List.nil_append]; done) | (simp only [List.flatMap_append, List.flatMap_cons, List.flatMap_nil, List.map_append, List.map_cons, List.map_nil, List.append_nil, List.nil_append]; rfl)) (c_MetricLink _))) rfl List.not_mem_nil (by simp only [upd_get, Nat.reduceEqDiff, reduceIte, Nat.reduceAdd, Nat.reduceMul, Nat.reduceSub, Nat.reduceLT, Nat.reduceLeDiff, if_true, if_false] <;> rfl) (TmL.clean (e_MetricLink_clean _))) (tmAllU 19 (tmAllU 18 (tmAllU 17 (tmAllU 13 (tmAllU 10 (tmAllU 6 (tmAllU 5 tmAll0 (Tm.ptr rfl)) (Tm.ptr rfl)) (Tm.ptr rfl)) (Tm.ptr rfl)) (Tm.ptr rfl)) (Tm.v _)) (Tm.v _)); all_goals (first | rfl | (simp only [List.length_take]; omega) | (simp only [List.length_append, List.length_cons, List.length_nil, List.length_modify, List.length_set, Nat.zero_add]; done) | (simp only [List.length_append, List.length_take, List.length_drop, List.length_cons, List.length_nil, List.length_modify, List.length_set, Nat.zero_add]; omega)))⟩
          ·
           have hl18 := cF hl18 h19
           refine awp_exit ?_
           refine lq_e ?_
           refine bq_e ?_
           refine sq_n ?_
           obtain rfl := someInj hl18
           exact ⟨_, rfl, (by refine Wk.canonD [] [] [some 2, some 3, some 4, some 5] rfl trivial rfl (tmOU 3 (tmOU 2 (tmOU 1 (tmOU 0 tmO0 rfl List.not_mem_nil (by simp only [upd_get, Nat.reduceEqDiff, reduceIte, Nat.reduceAdd, Nat.reduceMul, Nat.reduceSub, Nat.reduceLT, Nat.reduceLeDiff, if_true, if_false] <;> rfl) (e_MetricTable_tmx (by rfl) (Tm.v _))) rfl List.not_mem_nil (by simp only [upd_get, Nat.reduceEqDiff, reduceIte, Nat.reduceAdd, Nat.reduceMul, Nat.reduceSub, Nat.reduceLT, Nat.reduceLeDiff, if_true, if_false] <;> rfl) (e_MetricTable_tmx (by rfl) (Tm.refL rfl ?_))) rfl List.not_mem_nil (by simp only [upd_get, Nat.reduceEqDiff, reduceIte, Nat.reduceAdd, Nat.reduceMul, Nat.reduceSub, Nat.reduceLT, Nat.reduceLeDiff, if_true, if_false] <;> rfl) (TmL.of_eq (by first | rfl | (simp only [List.flatMap_append, List.flatMap_cons, List.flatMap_nil, List.map_append, List.map_cons, List.map_nil, List.append_nil, List.nil_append]; done) | (simp only [List.flatMap_append, List.flatMap_cons, List.flatMap_nil, List.map_append, List.map_cons, List.map_nil, List.append_nil, List.nil_append]; rfl)) (c_MetricLink _))) rfl List.not_mem_nil (by simp only [upd_get, Nat.reduceEqDiff, reduceIte, Nat.reduceAdd, Nat.reduceMul, Nat.reduceSub, Nat.reduceLT, Nat.reduceLeDiff, if_true, if_false] <;> rfl) (TmL.clean (e_MetricLink_clean _))) (tmAllU 18 (tmAllU 17 (tmAllU 13 (tmAllU 10 tmAll0 (Tm.ptr rfl)) (Tm.ptr rfl)) (Tm.ptr rfl)) (Tm.v _)); all_goals (first | rfl | (simp only [List.length_take]; omega) | (simp only [List.length_append, List.length_cons, List.length_nil, List.length_modify, List.length_set, Nat.zero_add]; done) | (simp only [List.length_append, List.length_take, List.length_drop, List.length_cons, List.length_nil, List.length_modify, List.length_set, Nat.zero_add]; omega)))⟩
        ·
         rintro _ rfl
         clear hi16
         unfold hotspotref38_Heard_S7
         refine awp_assoc ?_
         refine awp_nr [10,13,17,18] (fun _ => rfl) fun tz => ?_
         refine awp_regW fun KK hKK => ?_
         refine xw_id ?_
         try simp only [go_sem, Nat.reduceEqDiff, reduceIte, Nat.reduceAdd, Nat.reduceMul, Nat.reduceSub, Nat.reduceLT, Nat.reduceLeDiff]
         refine hKK _ _ (Wk.refl _ _ _) ?_; clear hKK KK
         refine awp_cond (b := (!d76.2.2)) rfl (fun h23 => ?_) (fun h23 => ?_)
         ·
          have h0 := cT h0 h23
          refine awp_nr [10,13,17] (fun _ => rfl) fun tz => ?_
          refine awp_regW fun KK hKK => ?_
          refine xw_id ?_
          obtain ⟨x85, bx85, h0⟩ := bnd h0
          have bx85 := chk_some bx85
          simp only [Bool.and_eq_true, decide_eq_true_eq] at bx85
          have gx85_0 := bx85
          try simp only [go_sem, Nat.reduceEqDiff, reduceIte, Nat.reduceAdd, Nat.reduceMul, Nat.reduceSub, Nat.reduceLT, Nat.reduceLeDiff, Int.reduceToNat, Int.reduceBEq, Int.reduceBNe, Int.reduceLT, Int.reduceLE, Int.reduceAdd, Int.reduceSub, Int.reduceMul, Int.reduceNeg, Int.reduceEq, Int.reduceNe, gx85_0]
          refine hKK _ _ (Wk.refl _ _ _) ?_; clear hKK KK
          refine awp_nr [10,13] (fun _ => rfl) fun tz => ?_
          refine awp_regW fun KK hKK => ?_
          refine xw_id ?_
          try simp only [go_sem, Nat.reduceEqDiff, reduceIte, Nat.reduceAdd, Nat.reduceMul, Nat.reduceSub, Nat.reduceLT, Nat.reduceLeDiff]
          refine hKK _ _ (Wk.refl _ _ _) ?_; clear hKK KK
          refine awp_ret1 ?_
          obtain rfl := someInj h0
          refine endW_i ?_
          refine end_ret0 rs21 (by simp only [go_sem, resV, resAll, resOf, packR, Nat.reduceEqDiff, reduceIte, Nat.reduceAdd, Nat.reduceMul, Nat.reduceSub, Nat.reduceLT, Nat.reduceLeDiff]; rfl) ?_
          refine Res.mk [] [some 10] rfl (resOU List.not_mem_nil (by simp only [upd_get, Nat.reduceEqDiff, reduceIte, Nat.reduceAdd, Nat.reduceMul, Nat.reduceSub, Nat.reduceLT, Nat.reduceLeDiff, if_true, if_false] <;> rfl) (TmL.of_eq (by first | rfl | (simp only [List.flatMap_append, List.flatMap_cons, List.flatMap_nil, List.map_append, List.map_cons, List.map_nil, List.append_nil, List.nil_append]; done) | (simp only [List.flatMap_append, List.flatMap_cons, List.flatMap_nil, List.map_append, List.map_cons, List.map_nil, List.append_nil, List.nil_append]; rfl)) (c_MetricLink _)) resO0) (Tm.tup (TmL.cons (Tm.agg (e_MetricTable_tmx (by rfl) (Tm.refL rfl ?_))) (TmL.cons (Tm.v _) TmL.nil)))
          all_goals (first | rfl | (simp only [List.length_take]; omega) | (simp only [List.length_append, List.length_cons, List.length_nil, List.length_modify, List.length_set, Nat.zero_add]; done) | (simp only [List.length_append, List.length_take, List.length_drop, List.length_cons, List.length_nil, List.length_modify, List.length_set, Nat.zero_add]; omega))
         ·
          have h0 := cF h0 h23
          refine awp_skip ?_
          refine awp_nr [10,13] (fun _ => rfl) fun tz => ?_
          refine awp_regW fun KK hKK => ?_
          refine xw_id ?_
          try simp only [go_sem, Nat.reduceEqDiff, reduceIte, Nat.reduceAdd, Nat.reduceMul, Nat.reduceSub, Nat.reduceLT, Nat.reduceLeDiff]
          refine hKK _ _ (Wk.refl _ _ _) ?_; clear hKK KK
          refine awp_ret1 ?_
          obtain rfl := someInj h0
          refine endW_i ?_
          refine end_ret0 rs21 (by simp only [go_sem, resV, resAll, resOf, packR, Nat.reduceEqDiff, reduceIte, Nat.reduceAdd, Nat.reduceMul, Nat.reduceSub, Nat.reduceLT, Nat.reduceLeDiff]; rfl) ?_
          refine Res.mk [] [some 2] rfl (resOU List.not_mem_nil (by simp only [upd_get, Nat.reduceEqDiff, reduceIte, Nat.reduceAdd, Nat.reduceMul, Nat.reduceSub, Nat.reduceLT, Nat.reduceLeDiff, if_true, if_false] <;> rfl) (TmL.of_eq (by first | rfl | (simp only [List.flatMap_append, List.flatMap_cons, List.flatMap_nil, List.map_append, List.map_cons, List.map_nil, List.append_nil, List.nil_append]; done) | (simp only [List.flatMap_append, List.flatMap_cons, List.flatMap_nil, List.map_append, List.map_cons, List.map_nil, List.append_nil, List.nil_append]; rfl)) (c_MetricLink _)) resO0) (Tm.tup (TmL.cons (Tm.agg (e_MetricTable_tmx (by rfl) (Tm.refL rfl ?_))) (TmL.cons (Tm.v _) TmL.nil)))
          all_goals (first | rfl | (simp only [List.length_take]; omega) | (simp only [List.length_append, List.length_cons, List.length_nil, List.length_modify, List.length_set, Nat.zero_add]; done) | (simp only [List.length_append, List.length_take, List.length_drop, List.length_cons, List.length_nil, List.length_modify, List.length_set, Nat.zero_add]; omega))

theorem hotspotref38_Heard_m (a0 : MetricTable) (a1 : Addr) (a2 : Int) (a3 : Bool) (a4 : Int) {r : (MetricTable × Int)} (h0 : hotspotref38_Heard a0 a1 a2 a3 a4 = some r) : SndM K 21 [(.agg (E_MetricTable a0)), (.agg (e_Addr a1)), (vi a2), (vb a3), (vi a4)] (fun q => (.tup [(.agg (e_MetricTable r.1 (.ref (q 0) 0 r.1.Links.length 9))), (vi r.2)])) [(List.flatMap e_MetricLink r.1.Links)] :=
 fun hs => Snd.of_newM (RenM.tup (RenML.cons (RenM.agg (e_MetricTable_ren _ (RenM.ref 0 0 _ _))) (RenML.cons (RenM.const (Clean.v _)) RenML.nil))) (rows_all_cons (c_MetricLink _) rows_all_nil) (clean_cons (Clean.agg (E_MetricTable_clean _)) (clean_cons (Clean.agg (e_Addr_clean _)) (clean_cons (Clean.v _) (clean_cons (Clean.v _) (clean_cons (Clean.v _) clean_nil))))) (hotspotref38_Heard_r a0 a1 a2 a3 a4 h0) hs

theorem hotspotref38_Heard_e (a0 : MetricTable) (a1 : Addr) (a2 : Int) (a3 : Bool) (a4 : Int) {r : (MetricTable × Int)} (h0 : hotspotref38_Heard a0 a1 a2 a3 a4 = some r) (fr : Nat) (hs : HS) : SndE K 21 [(.agg (E_MetricTable a0)), (.agg (e_Addr a1)), (vi a2), (vb a3), (vi a4)] hs fr ⟨(fun q : Nat → Nat => (.tup [(.agg (e_MetricTable r.1 (.ref (q 0) 0 r.1.Links.length 9))), (vi r.2)])) fun _ => fr, .new (List.flatMap e_MetricLink r.1.Links)⟩ :=
 SndE.of_res (RenM.tup (RenML.cons (RenM.agg (e_MetricTable_ren _ (RenM.ref 0 0 _ _))) (RenML.cons (RenM.const (Clean.v _)) RenML.nil))) (c_MetricLink _) (clean_cons (Clean.agg (E_MetricTable_clean _)) (clean_cons (Clean.agg (e_Addr_clean _)) (clean_cons (Clean.v _) (clean_cons (Clean.v _) (clean_cons (Clean.v _) clean_nil))))) (fun a b h => by simp only [h]) (hotspotref38_Heard_r a0 a1 a2 a3 a4 h0) hs fr

theorem hotspotref38_Heard_p (a0 : MetricTable) (a1 : Addr) (a2 : Int) (a3 : Bool) (a4 : Int) {r : (MetricTable × Int)} (h0 : hotspotref38_Heard a0 a1 a2 a3 a4 = some r) : SndP K 21 [(.agg (E_MetricTable a0)), (.agg (e_Addr a1)), (vi a2), (vb a3), (vi a4)] (.tup [(.agg (E_MetricTable r.1)), (vi r.2)]) :=
 SndM.pure (hotspotref38_Heard_m a0 a1 a2 a3 a4 h0) (Clean.tup (clean_cons (Clean.agg (E_MetricTable_clean _)) (clean_cons (Clean.v _) clean_nil))) (clean_cons (Clean.agg (E_MetricTable_clean _)) (clean_cons (Clean.agg (e_Addr_clean _)) (clean_cons (Clean.v _) (clean_cons (Clean.v _) (clean_cons (Clean.v _) clean_nil))))) (by simp only [go_sem, newL_n, newL_c, upd_get, fz, nilS, cond_true, cond_false, List.drop_zero, List.take_length, List.length_map, ble_self, Nat.reduceEqDiff, reduceIte, Nat.reduceAdd, Nat.reduceMul, Nat.reduceSub, Nat.reduceLT, Nat.reduceLeDiff] <;> rfl)

end Go.AX.Z.TM

/-! (TMW hotspotref09 Total run0) -/

set_option linter.unusedSimpArgs false
set_option linter.unusedVariables false
set_option maxHeartbeats 4000000
namespace Go.AX.Z.TM
open Go.AX Go.Proofs
attribute [local irreducible] awp xw xop xcall gsp ob xd xdop xcallD seqQ loopQ blkQ endQ

theorem hotspotref09_Total_run0 : ranX K 60 29 [vi 0, vi 1024] = some (.tup [vi 1452, vi 0]) := by kernel_rfl

end Go.AX.Z.TM

/-! (TMW hotspotref09 Total run1) -/

set_option linter.unusedSimpArgs false
set_option linter.unusedVariables false
set_option maxHeartbeats 4000000
namespace Go.AX.Z.TM
open Go.AX Go.Proofs
attribute [local irreducible] awp xw xop xcall gsp ob xd xdop xcallD seqQ loopQ blkQ endQ

theorem hotspotref09_Total_run1 : ranX K 60 29 [vi 1, vi 1024] = some (.tup [vi 996, vi 0]) := by kernel_rfl

end Go.AX.Z.TM

/-! (TMW hotspotref09 Total run2) -/

set_option linter.unusedSimpArgs false
set_option linter.unusedVariables false
set_option maxHeartbeats 4000000
namespace Go.AX.Z.TM
open Go.AX Go.Proofs
attribute [local irreducible] awp xw xop xcall gsp ob xd xdop xcallD seqQ loopQ blkQ endQ

theorem hotspotref09_Total_run2 : ranX K 60 29 [vi 2, vi 1024] = some (.tup [vi 756, vi 0]) := by kernel_rfl

end Go.AX.Z.TM

/-! (TMW hotspotref09 Total run3) -/

set_option linter.unusedSimpArgs false
set_option linter.unusedVariables false
set_option maxHeartbeats 4000000
namespace Go.AX.Z.TM
open Go.AX Go.Proofs
attribute [local irreducible] awp xw xop xcall gsp ob xd xdop xcallD seqQ loopQ blkQ endQ

theorem hotspotref09_Total_run3 : ranX K 60 29 [vi 3, vi 1024] = some (.tup [vi 528, vi 0]) := by kernel_rfl

end Go.AX.Z.TM

/-! (TMW hotspotref09 Total run4) -/

set_option linter.unusedSimpArgs false
set_option linter.unusedVariables false
set_option maxHeartbeats 4000000
namespace Go.AX.Z.TM
open Go.AX Go.Proofs
attribute [local irreducible] awp xw xop xcall gsp ob xd xdop xcallD seqQ loopQ blkQ endQ

theorem hotspotref09_Total_run4 : ranX K 60 29 [vi 4, vi 1024] = some (.tup [vi 396, vi 0]) := by kernel_rfl

end Go.AX.Z.TM

/-! (TMW hotspotref09 Total run5) -/

set_option linter.unusedSimpArgs false
set_option linter.unusedVariables false
set_option maxHeartbeats 4000000
namespace Go.AX.Z.TM
open Go.AX Go.Proofs
attribute [local irreducible] awp xw xop xcall gsp ob xd xdop xcallD seqQ loopQ blkQ endQ

theorem hotspotref09_Total_run5 : ranX K 60 29 [vi 5, vi 1024] = some (.tup [vi 288, vi 0]) := by kernel_rfl

end Go.AX.Z.TM

/-! (TMW hotspotref09 Total run6) -/

set_option linter.unusedSimpArgs false
set_option linter.unusedVariables false
set_option maxHeartbeats 4000000
namespace Go.AX.Z.TM
open Go.AX Go.Proofs
attribute [local irreducible] awp xw xop xcall gsp ob xd xdop xcallD seqQ loopQ blkQ endQ

theorem hotspotref09_Total_run6 : ranX K 60 29 [vi 6, vi 1024] = some (.tup [vi 232, vi 0]) := by kernel_rfl

end Go.AX.Z.TM

/-! (TMW hotspotref09 Total run7) -/

set_option linter.unusedSimpArgs false
set_option linter.unusedVariables false
set_option maxHeartbeats 4000000
namespace Go.AX.Z.TM
open Go.AX Go.Proofs
attribute [local irreducible] awp xw xop xcall gsp ob xd xdop xcallD seqQ loopQ blkQ endQ

theorem hotspotref09_Total_run7 : ranX K 60 29 [vi 7, vi 1024] = some (.tup [vi 216, vi 0]) := by kernel_rfl

end Go.AX.Z.TM

/-! (TMW hotspotref09 Total run8) -/

set_option linter.unusedSimpArgs false
set_option linter.unusedVariables false
set_option maxHeartbeats 4000000
namespace Go.AX.Z.TM
open Go.AX Go.Proofs
attribute [local irreducible] awp xw xop xcall gsp ob xd xdop xcallD seqQ loopQ blkQ endQ

theorem hotspotref09_Total_run8 : ranX K 60 29 [vi 8, vi 1024] = some (.tup [vi 192, vi 0]) := by kernel_rfl

end Go.AX.Z.TM

/-! (TMW hotspotref09 Total run9) -/

set_option linter.unusedSimpArgs false
set_option linter.unusedVariables false
set_option maxHeartbeats 4000000
namespace Go.AX.Z.TM
open Go.AX Go.Proofs
attribute [local irreducible] awp xw xop xcall gsp ob xd xdop xcallD seqQ loopQ blkQ endQ

theorem hotspotref09_Total_run9 : ranX K 60 29 [vi 9, vi 1024] = some (.tup [vi 168, vi 0]) := by kernel_rfl

end Go.AX.Z.TM

/-! (TMW hotspotref09 Total run10) -/

set_option linter.unusedSimpArgs false
set_option linter.unusedVariables false
set_option maxHeartbeats 4000000
namespace Go.AX.Z.TM
open Go.AX Go.Proofs
attribute [local irreducible] awp xw xop xcall gsp ob xd xdop xcallD seqQ loopQ blkQ endQ

theorem hotspotref09_Total_run10 : ranX K 60 29 [vi 10, vi 1024] = some (.tup [vi 148, vi 0]) := by kernel_rfl

end Go.AX.Z.TM

/-! (TMW hotspotref09 Total run11) -/

set_option linter.unusedSimpArgs false
set_option linter.unusedVariables false
set_option maxHeartbeats 4000000
namespace Go.AX.Z.TM
open Go.AX Go.Proofs
attribute [local irreducible] awp xw xop xcall gsp ob xd xdop xcallD seqQ loopQ blkQ endQ

theorem hotspotref09_Total_run11 : ranX K 60 29 [vi 11, vi 1024] = some (.tup [vi 136, vi 0]) := by kernel_rfl

end Go.AX.Z.TM

/-! (TMW hotspotref09 Total) -/

set_option linter.unusedSimpArgs false
set_option linter.unusedVariables false
set_option maxHeartbeats 4000000
namespace Go.AX.Z.TM
open Go.AX Go.Proofs
attribute [local irreducible] awp xw xop xcall gsp ob xd xdop xcallD seqQ loopQ blkQ endQ

theorem hotspotref09_Total_p (a0 : Int) (a1 : Int) {r : (Int × Int)} (h0 : hotspotref09_Total a0 a1 = some r) : SndP K 29 [(vi a0), (vi a1)] (.tup [(vi r.1), (vi r.2)]) := by
 unfold hotspotref09_Total at h0
 rcases Bool.eq_false_or_eq_true ((a0 == 0) && (a1 == 1024)) with k0 | k0
 ·
  have h0 := cT h0 k0
  simp only [Bool.and_eq_true, beq_iff_eq] at k0
  obtain ⟨rfl, rfl⟩ := k0
  cases h0
  exact SndP.of_run hC rfl rfl hotspotref09_Total_run0
 have h0 := cF h0 k0
 rcases Bool.eq_false_or_eq_true ((a0 == 1) && (a1 == 1024)) with k1 | k1
 ·
  have h0 := cT h0 k1
  simp only [Bool.and_eq_true, beq_iff_eq] at k1
  obtain ⟨rfl, rfl⟩ := k1
  cases h0
  exact SndP.of_run hC rfl rfl hotspotref09_Total_run1
 have h0 := cF h0 k1
 rcases Bool.eq_false_or_eq_true ((a0 == 2) && (a1 == 1024)) with k2 | k2
 ·
  have h0 := cT h0 k2
  simp only [Bool.and_eq_true, beq_iff_eq] at k2
  obtain ⟨rfl, rfl⟩ := k2
  cases h0
  exact SndP.of_run hC rfl rfl hotspotref09_Total_run2
 have h0 := cF h0 k2
 rcases Bool.eq_false_or_eq_true ((a0 == 3) && (a1 == 1024)) with k3 | k3
 ·
  have h0 := cT h0 k3
  simp only [Bool.and_eq_true, beq_iff_eq] at k3
  obtain ⟨rfl, rfl⟩ := k3
  cases h0
  exact SndP.of_run hC rfl rfl hotspotref09_Total_run3
 have h0 := cF h0 k3
 rcases Bool.eq_false_or_eq_true ((a0 == 4) && (a1 == 1024)) with k4 | k4
 ·
  have h0 := cT h0 k4
  simp only [Bool.and_eq_true, beq_iff_eq] at k4
  obtain ⟨rfl, rfl⟩ := k4
  cases h0
  exact SndP.of_run hC rfl rfl hotspotref09_Total_run4
 have h0 := cF h0 k4
 rcases Bool.eq_false_or_eq_true ((a0 == 5) && (a1 == 1024)) with k5 | k5
 ·
  have h0 := cT h0 k5
  simp only [Bool.and_eq_true, beq_iff_eq] at k5
  obtain ⟨rfl, rfl⟩ := k5
  cases h0
  exact SndP.of_run hC rfl rfl hotspotref09_Total_run5
 have h0 := cF h0 k5
 rcases Bool.eq_false_or_eq_true ((a0 == 6) && (a1 == 1024)) with k6 | k6
 ·
  have h0 := cT h0 k6
  simp only [Bool.and_eq_true, beq_iff_eq] at k6
  obtain ⟨rfl, rfl⟩ := k6
  cases h0
  exact SndP.of_run hC rfl rfl hotspotref09_Total_run6
 have h0 := cF h0 k6
 rcases Bool.eq_false_or_eq_true ((a0 == 7) && (a1 == 1024)) with k7 | k7
 ·
  have h0 := cT h0 k7
  simp only [Bool.and_eq_true, beq_iff_eq] at k7
  obtain ⟨rfl, rfl⟩ := k7
  cases h0
  exact SndP.of_run hC rfl rfl hotspotref09_Total_run7
 have h0 := cF h0 k7
 rcases Bool.eq_false_or_eq_true ((a0 == 8) && (a1 == 1024)) with k8 | k8
 ·
  have h0 := cT h0 k8
  simp only [Bool.and_eq_true, beq_iff_eq] at k8
  obtain ⟨rfl, rfl⟩ := k8
  cases h0
  exact SndP.of_run hC rfl rfl hotspotref09_Total_run8
 have h0 := cF h0 k8
 rcases Bool.eq_false_or_eq_true ((a0 == 9) && (a1 == 1024)) with k9 | k9
 ·
  have h0 := cT h0 k9
  simp only [Bool.and_eq_true, beq_iff_eq] at k9
  obtain ⟨rfl, rfl⟩ := k9
  cases h0
  exact SndP.of_run hC rfl rfl hotspotref09_Total_run9
 have h0 := cF h0 k9
 rcases Bool.eq_false_or_eq_true ((a0 == 10) && (a1 == 1024)) with k10 | k10
 ·
  have h0 := cT h0 k10
  simp only [Bool.and_eq_true, beq_iff_eq] at k10
  obtain ⟨rfl, rfl⟩ := k10
  cases h0
  exact SndP.of_run hC rfl rfl hotspotref09_Total_run10
 have h0 := cF h0 k10
 rcases Bool.eq_false_or_eq_true ((a0 == 11) && (a1 == 1024)) with k11 | k11
 ·
  have h0 := cT h0 k11
  simp only [Bool.and_eq_true, beq_iff_eq] at k11
  obtain ⟨rfl, rfl⟩ := k11
  cases h0
  exact SndP.of_run hC rfl rfl hotspotref09_Total_run11
 have h0 := cF h0 k11
 cases h0

end Go.AX.Z.TM
