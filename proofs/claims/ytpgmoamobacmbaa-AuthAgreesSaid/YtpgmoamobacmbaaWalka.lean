/- A part of the proof: walks through the functions that the statement reaches. -/
import Derived.Test.YtpgmoamobacmbaaPrea
set_option linter.unusedVariables false
set_option linter.unusedSimpArgs false

/-! (walks) -/

set_option linter.unusedSimpArgs false
set_option linter.unusedVariables false
set_option maxHeartbeats 4000000
set_option maxRecDepth 20000
namespace Go.AX.Z.TV
open Go.AX Go.Proofs
attribute [local irreducible] awp xw xop xcall gsp ob xd xdop xcallD seqQ loopQ blkQ endQ
attribute [local go_sem ↓] iop_and iop_or iop_xor iop_andn
attribute [local go_sem] Nat.reduceAdd
theorem auth_secret_p (a0 : Auth) {r : Bool} (h0 : auth_secret a0 = some r) : SndP K 48 [(.agg (e_Auth a0))] (vb r) := by
 refine SndP.of_walkW hC (Clean.v _) (clean_cons (Clean.agg (e_Auth_clean _)) clean_nil) (show K.P.funcs[48]? = some Try.f48 from Try.func48) rfl rfl (by decide +kernel) (Nat.le_of_ble_eq_true rfl) ?_; unfold auth_secret at h0; refine awp_nw [0] fun tz U u => ?_; (try simp only [go_sem]); refine qU u ?_; clear u U; refine awp_nw [1] fun tz U u => ?_; refine xw_stop 4 qS qS (by rfl) fun V v => ?_; refine xw_id ?_; (try simp only [go_sem]); refine v _ ?_; clear v V; refine xw_cut 4 [(1, (.ptr 0 0)), (10, (vb ((decide (2 ≤ a0.Rand)) && (decide (a0.Rand < 2305843009213693950)))))] qS qS (by rfl) (fun V v => ?_) fun tz => ?_
 ·
  refine xw_id ?_; rcases Bool.eq_false_or_eq_true (decide (2 ≤ a0.Rand)) with h1 | h1
  ·
   (try simp only [go_sem, h1]); exact v _ ⟨rfl, rfl, (qB h1), trivial⟩
  ·
   (try simp only [go_sem, h1]); exact v _ ⟨rfl, rfl, (qB h1), trivial⟩
 ·
  refine xw_id ?_; refine xw_stop 1 qS qS (by rfl) fun V v => ?_; refine xw_id ?_; (try simp only [go_sem]); refine v _ ?_; clear v V; refine xw_cut 4 [(1, (.ptr 0 0)), (15, (vb (((decide (2 ≤ a0.Rand)) && (decide (a0.Rand < 2305843009213693950))) && (decide (2 ≤ a0.Mask)))))] qS qS (by rfl) (fun V v => ?_) fun tz => ?_
  ·
   refine xw_id ?_; rcases Bool.eq_false_or_eq_true ((decide (2 ≤ a0.Rand)) && (decide (a0.Rand < 2305843009213693950))) with h2 | h2
   ·
    (have h2_0 : (decide (2 ≤ a0.Rand)) = true := by simp only [Bool.and_eq_true] at h2; exact h2.1); (have h2_1 : (decide (a0.Rand < 2305843009213693950)) = true := by simp only [Bool.and_eq_true] at h2; exact h2.2); (try simp only [go_sem, h2, h2_0, h2_1]); exact v _ ⟨rfl, rfl, (qB h2), trivial⟩
   ·
    (try simp only [go_sem, h2]); exact v _ ⟨rfl, rfl, (qB h2), trivial⟩
  ·
   refine xw_id ?_; refine xw_stop 1 qS qS (by rfl) fun V v => ?_; refine xw_id ?_; (try simp only [go_sem]); refine v _ ?_; clear v V; refine xw_cut 4 [(20, (vb ((((decide (2 ≤ a0.Rand)) && (decide (a0.Rand < 2305843009213693950))) && (decide (2 ≤ a0.Mask))) && (decide (a0.Mask < 2305843009213693950)))))] qS qS (by rfl) (fun V v => ?_) fun tz => ?_
   ·
    refine xw_id ?_; rcases Bool.eq_false_or_eq_true (((decide (2 ≤ a0.Rand)) && (decide (a0.Rand < 2305843009213693950))) && (decide (2 ≤ a0.Mask))) with h3 | h3
    ·
     (have h3_0 : (decide (2 ≤ a0.Rand)) = true := by simp only [Bool.and_eq_true] at h3; exact h3.1.1); (have h3_1 : (decide (a0.Rand < 2305843009213693950)) = true := by simp only [Bool.and_eq_true] at h3; exact h3.1.2); (have h3_2 : (decide (2 ≤ a0.Mask)) = true := by simp only [Bool.and_eq_true] at h3; exact h3.2); (try simp only [go_sem, h3, h3_0, h3_1, h3_2]); exact v _ ⟨rfl, (qB h3), trivial⟩
    ·
     (try simp only [go_sem, h3]); exact v _ ⟨rfl, (qB h3), trivial⟩
   ·
    refine xw_id ?_; (try simp only [go_sem]); refine qU u ?_; clear u U; refine awp_ret1 ?_; obtain rfl := someInj h0; refine endW_i ?_; refine end_ret0 rs48 (rfl) ?_; exact qF
theorem auth_sum_p (a0 : Int) (a1 : Int) {r : Int} (h0 : auth_sum a0 a1 = some r) : SndP K 49 [(vq a0), (vq a1)] (vq r) := by
 refine SndP.of_walkW hC (Clean.v _) (clean_cons (Clean.v _) (clean_cons (Clean.v _) clean_nil)) (show K.P.funcs[49]? = some Try.f49 from Try.func49) rfl rfl (by decide +kernel) (Nat.le_of_ble_eq_true rfl) ?_; unfold auth_sum at h0; refine awp_nw [0,1] fun tz U u => ?_; (try simp only [go_sem]); refine qU u ?_; clear u U; refine awp_nw [0,1] fun tz U u => ?_; (try simp only [go_sem, Int.reduceEq]); refine qU u ?_; clear u U; refine awp_ret1 ?_; obtain rfl := someInj h0; refine endW_i ?_; refine end_ret0 rs49 (rfl) ?_; exact qF
theorem math_bits_Mul64_p (a0 : Int) (a1 : Int) {r : (Int × Int)} (h0 : math_bits_Mul64 a0 a1 = some r) : SndP K 68 [(vq a0), (vq a1)] (.tup [(vq r.1), (vq r.2)]) := by
 refine SndP.of_walkW hC (Clean.tup (clean_cons (Clean.v _) (clean_cons (Clean.v _) clean_nil))) (clean_cons (Clean.v _) (clean_cons (Clean.v _) clean_nil)) (show K.P.funcs[68]? = some Try.f68 from Try.func68) rfl rfl (by decide +kernel) (Nat.le_of_ble_eq_true rfl) ?_; unfold math_bits_Mul64 at h0; refine awp_nw [0,1] fun tz U u => ?_; (try simp only [go_sem]); refine qU u ?_; clear u U; refine awp_nw [0,1] fun tz U u => ?_; (try simp only [go_sem]); refine qU u ?_; clear u U; refine awp_nw [0,1,6] fun tz U u => ?_; (try simp only [go_sem]); refine qU u ?_; clear u U; refine awp_nw [0,1,6,7] fun tz U u => ?_; (try simp only [go_sem]); refine qU u ?_; clear u U; refine awp_nw [0,1,6,7,8] fun tz U u => ?_; (try simp only [go_sem]); refine qU u ?_; clear u U; refine awp_nw [0,1,6,7,8,9] fun tz U u => ?_; (try simp only [go_sem]); refine qU u ?_; clear u U; refine awp_nw [0,1,6,7,8,9,10] fun tz U u => ?_; (try simp only [go_sem]); refine qU u ?_; clear u U; refine awp_nw [0,1,6,7,9,11] fun tz U u => ?_; (try simp only [go_sem]); refine qU u ?_; clear u U; refine awp_nw [0,1,6,7,9,11,12] fun tz U u => ?_; (try simp only [go_sem]); refine qU u ?_; clear u U; refine awp_nw [0,1,6,7,9,12,13] fun tz U u => ?_; (try simp only [go_sem]); refine qU u ?_; clear u U; refine awp_nw [0,1,7,9,12,13] fun tz U u => ?_; (try simp only [go_sem]); refine qU u ?_; clear u U; refine awp_nw [0,1,4] fun tz U u => ?_; (try simp only [go_sem]); refine qU u ?_; clear u U; refine awp_ret1 ?_; obtain rfl := someInj h0; refine endW_i ?_; refine end_ret0 rs68 (rfl) ?_; exact qF
theorem math_bits_LeadingZeros64_run0 : ranX K 60 89 [vq 2305843009213693951] = some (vi 3) := by kernel_rfl
theorem math_bits_LeadingZeros64_p (a0 : Int) {r : Int} (h0 : math_bits_LeadingZeros64 a0 = some r) : SndP K 89 [(vq a0)] (vi r) := by
 unfold math_bits_LeadingZeros64 at h0; rcases Bool.eq_false_or_eq_true ((a0 == 2305843009213693951)) with k0 | k0
 ·
  have h0 := cT h0 k0; simp only [Bool.and_eq_true, beq_iff_eq] at k0; subst k0; cases h0; exact SndP.of_run hC rfl rfl math_bits_LeadingZeros64_run0
 have h0 := cF h0 k0; cases h0
def math_bits_Div64_S0 (a0 : Int) (a1 : Int) (a2 : Int) (d54 : Unit) : AS :=
 { objs := (fun _ => .dead), next := 0, tmps := (upd (upd (upd (fun _ => .unk) 0 (vq a0)) 1 (vq a1)) 2 (vq a2)) }

def math_bits_Div64_S1 (a0 : Int) (a1 : Int) (a2 : Int) (d55 : Unit) : AS :=
 { objs := (fun _ => .dead), next := 0, tmps := (upd (upd (upd (fun _ => .unk) 0 (vq a0)) 1 (vq a1)) 2 (vq a2)) }

def math_bits_Div64_S2 (a2 : Int) (x58 : Int) (a0 : Int) (a1 : Int) (d64 : Int) : AS :=
 { objs := (fun _ => .dead), next := 0, tmps := (upd (upd (upd (upd (upd (upd (upd (upd (fun _ => .unk) 2 (vq (IntKind.wrap .u64 (a2 * 2 ^ (min ((IntKind.wrap .u64 x58)).toNat 64))))) 8 (vq (IntKind.wrap .u64 x58))) 9 (vq (((IntKind.wrap .u64 (a2 * 2 ^ (min ((IntKind.wrap .u64 x58)).toNat 64)))).fdiv (2 ^ (min 32 64))))) 10 (vq (band .u64 (IntKind.wrap .u64 (a2 * 2 ^ (min ((IntKind.wrap .u64 x58)).toNat 64))) 4294967295))) 11 (vq (bor .u64 (IntKind.wrap .u64 (a0 * 2 ^ (min ((IntKind.wrap .u64 x58)).toNat 64))) ((a1).fdiv (2 ^ (min ((IntKind.wrap .u64 (64 - (IntKind.wrap .u64 x58)))).toNat 64)))))) 13 (vq (((IntKind.wrap .u64 (a1 * 2 ^ (min ((IntKind.wrap .u64 x58)).toNat 64)))).fdiv (2 ^ (min 32 64))))) 14 (vq (band .u64 (IntKind.wrap .u64 (a1 * 2 ^ (min ((IntKind.wrap .u64 x58)).toNat 64))) 4294967295))) 15 (vq d64)) }

def math_bits_Div64_S3 (a2 : Int) (x58 : Int) (a0 : Int) (a1 : Int) (d65 : (Int × Int)) : AS :=
 { objs := (fun _ => .dead), next := 0, tmps := (upd (upd (upd (upd (upd (upd (upd (upd (upd (fun _ => .unk) 2 (vq (IntKind.wrap .u64 (a2 * 2 ^ (min ((IntKind.wrap .u64 x58)).toNat 64))))) 8 (vq (IntKind.wrap .u64 x58))) 9 (vq (((IntKind.wrap .u64 (a2 * 2 ^ (min ((IntKind.wrap .u64 x58)).toNat 64)))).fdiv (2 ^ (min 32 64))))) 10 (vq (band .u64 (IntKind.wrap .u64 (a2 * 2 ^ (min ((IntKind.wrap .u64 x58)).toNat 64))) 4294967295))) 11 (vq (bor .u64 (IntKind.wrap .u64 (a0 * 2 ^ (min ((IntKind.wrap .u64 x58)).toNat 64))) ((a1).fdiv (2 ^ (min ((IntKind.wrap .u64 (64 - (IntKind.wrap .u64 x58)))).toNat 64)))))) 13 (vq (((IntKind.wrap .u64 (a1 * 2 ^ (min ((IntKind.wrap .u64 x58)).toNat 64)))).fdiv (2 ^ (min 32 64))))) 14 (vq (band .u64 (IntKind.wrap .u64 (a1 * 2 ^ (min ((IntKind.wrap .u64 x58)).toNat 64))) 4294967295))) 15 (vq d65.1)) 16 (vq d65.2)) }

def math_bits_Div64_S5 (a2 : Int) (x58 : Int) (a1 : Int) (d64 : Int) (a0 : Int) (d67 : Int) : AS :=
 { objs := (fun _ => .dead), next := 0, tmps := (upd (upd (upd (upd (upd (upd (fun _ => .unk) 2 (vq (IntKind.wrap .u64 (a2 * 2 ^ (min ((IntKind.wrap .u64 x58)).toNat 64))))) 8 (vq (IntKind.wrap .u64 x58))) 14 (vq (band .u64 (IntKind.wrap .u64 (a1 * 2 ^ (min ((IntKind.wrap .u64 x58)).toNat 64))) 4294967295))) 15 (vq d64)) 17 (vq (IntKind.wrap .u64 ((IntKind.wrap .u64 ((IntKind.wrap .u64 ((bor .u64 (IntKind.wrap .u64 (a0 * 2 ^ (min ((IntKind.wrap .u64 x58)).toNat 64))) ((a1).fdiv (2 ^ (min ((IntKind.wrap .u64 (64 - (IntKind.wrap .u64 x58)))).toNat 64)))) * 4294967296)) + (((IntKind.wrap .u64 (a1 * 2 ^ (min ((IntKind.wrap .u64 x58)).toNat 64)))).fdiv (2 ^ (min 32 64))))) - (IntKind.wrap .u64 (d64 * (IntKind.wrap .u64 (a2 * 2 ^ (min ((IntKind.wrap .u64 x58)).toNat 64))))))))) 18 (vq d67)) }

def math_bits_Div64_S6 (a2 : Int) (x58 : Int) (a1 : Int) (d64 : Int) (a0 : Int) (d68 : (Int × Int)) : AS :=
 { objs := (fun _ => .dead), next := 0, tmps := (upd (upd (upd (upd (upd (upd (upd (upd (upd (fun _ => .unk) 2 (vq (IntKind.wrap .u64 (a2 * 2 ^ (min ((IntKind.wrap .u64 x58)).toNat 64))))) 8 (vq (IntKind.wrap .u64 x58))) 9 (vq (((IntKind.wrap .u64 (a2 * 2 ^ (min ((IntKind.wrap .u64 x58)).toNat 64)))).fdiv (2 ^ (min 32 64))))) 10 (vq (band .u64 (IntKind.wrap .u64 (a2 * 2 ^ (min ((IntKind.wrap .u64 x58)).toNat 64))) 4294967295))) 14 (vq (band .u64 (IntKind.wrap .u64 (a1 * 2 ^ (min ((IntKind.wrap .u64 x58)).toNat 64))) 4294967295))) 15 (vq d64)) 16 (vq d68.1)) 17 (vq (IntKind.wrap .u64 ((IntKind.wrap .u64 ((IntKind.wrap .u64 ((bor .u64 (IntKind.wrap .u64 (a0 * 2 ^ (min ((IntKind.wrap .u64 x58)).toNat 64))) ((a1).fdiv (2 ^ (min ((IntKind.wrap .u64 (64 - (IntKind.wrap .u64 x58)))).toNat 64)))) * 4294967296)) + (((IntKind.wrap .u64 (a1 * 2 ^ (min ((IntKind.wrap .u64 x58)).toNat 64)))).fdiv (2 ^ (min 32 64))))) - (IntKind.wrap .u64 (d64 * (IntKind.wrap .u64 (a2 * 2 ^ (min ((IntKind.wrap .u64 x58)).toNat 64))))))))) 18 (vq d68.2)) }

theorem math_bits_Div64_p (a0 : Int) (a1 : Int) (a2 : Int) {r : (Int × Int)} (h0 : math_bits_Div64 a0 a1 a2 = some r) : SndP K 78 [(vq a0), (vq a1), (vq a2)] (.tup [(vq r.1), (vq r.2)]) := by
 refine SndP.of_walkW hC (Clean.tup (clean_cons (Clean.v _) (clean_cons (Clean.v _) clean_nil))) (clean_cons (Clean.v _) (clean_cons (Clean.v _) (clean_cons (Clean.v _) clean_nil))) (show K.P.funcs[78]? = some Try.f78 from Try.func78) rfl rfl (by decide +kernel) (Nat.le_of_ble_eq_true rfl) ?_; unfold math_bits_Div64 at h0; refine awp_nw [0,1,2] fun tz U u => ?_; (try simp only [go_sem]); refine qU u ?_; clear u U; refine awp_assoc ?_; refine awp_nw [0,1,2] fun tz U u => ?_; (try simp only [go_sem]); refine qU u ?_; clear u U; obtain ⟨d54, hi1, h0⟩ := bnd h0; refine awp_cut (fun z => d54 = z) (fun d54 : Unit => math_bits_Div64_S0 a0 a1 a2 d54) ?_ ?_
 ·
  refine awp_cond1 (b := (a2 == 0)) rfl (fun h2 => ?_) (fun h2 => ?_)
  ·
   have hi1 := cT hi1 h2; refine awp_nw1 [0,1,2] fun tz U u => ?_; cases hi1
  ·
   have hi1 := cF hi1 h2; refine awp_skip1 ?_; refine sq_n ?_; obtain rfl := someInj hi1; exact ⟨_, rfl, (Wk.canonD [] [] [] rfl trivial rfl tmO0 (tmAllU 2 (tmAllU 1 (tmAllU 0 tmAll0 (Tm.v _)) (Tm.v _)) (Tm.v _)))⟩
 ·
  rintro _ rfl; clear hi1; unfold math_bits_Div64_S0; refine awp_assoc ?_; refine awp_nw [0,1,2] fun tz U u => ?_; (try simp only [go_sem]); refine qU u ?_; clear u U; obtain ⟨d55, hi3, h0⟩ := bnd h0; refine awp_cut (fun z => d55 = z) (fun d55 : Unit => math_bits_Div64_S1 a0 a1 a2 d55) ?_ ?_
  ·
   refine awp_cond1 (b := (decide (a2 ≤ a0))) rfl (fun h4 => ?_) (fun h4 => ?_)
   ·
    have hi3 := cT hi3 h4; refine awp_nw1 [0,1,2] fun tz U u => ?_; cases hi3
   ·
    have hi3 := cF hi3 h4; refine awp_skip1 ?_; refine sq_n ?_; obtain rfl := someInj hi3; exact ⟨_, rfl, (Wk.canonD [] [] [] rfl trivial rfl tmO0 (tmAllU 2 (tmAllU 1 (tmAllU 0 tmAll0 (Tm.v _)) (Tm.v _)) (Tm.v _)))⟩
  ·
   rintro _ rfl; clear hi3; unfold math_bits_Div64_S1; refine awp_assoc ?_; refine awp_nw [0,1,2] fun tz U u => ?_; (try simp only [go_sem]); refine qU u ?_; clear u U; refine awp_cond (b := (a0 == 0)) rfl (fun h5 => ?_) (fun h5 => ?_)
   ·
    have h0 := cT h0 h5; refine awp_assoc ?_; refine awp_nw [1,2] fun tz U u => ?_; obtain ⟨x56, bx56, h0⟩ := bnd h0; have bx56 := chk_some bx56; simp only [Bool.and_eq_true, decide_eq_true_eq] at bx56; have gx56_0 := bx56; obtain ⟨x57, bx57, h0⟩ := bnd h0; have bx57 := chk_some bx57; simp only [Bool.and_eq_true, decide_eq_true_eq] at bx57; have gx57_0 := bx57; (try simp only [go_sem, Int.reduceEq, gx56_0, gx57_0]); refine qU u ?_; clear u U; refine awp_ret ?_; obtain rfl := someInj h0; refine endW_i ?_; refine end_ret0 rs78 (rfl) ?_; exact qF
   ·
    have h0 := cF h0 h5; refine awp_skip ?_; refine awp_nw [0,1,2] fun tz U u => ?_; obtain ⟨x58, bx58, h0⟩ := bnd h0; (try simp only [go_sem]); (refine xcall_p (math_bits_LeadingZeros64_p a2 bx58) ?_; try dsimp only); (try refine xw_id ?_); (try simp only [go_sem]); refine qU u ?_; clear u U; refine awp_nw [0,1,2,8] fun tz U u => ?_; obtain ⟨x59, bx59, h0⟩ := bnd h0; have bx59 := chk_some bx59; simp only [Bool.and_eq_true, decide_eq_true_eq] at bx59; have gx59_0 := bx59; (try simp only [go_sem, gx59_0]); refine qU u ?_; clear u U; refine awp_nw [0,1,2,8] fun tz U u => ?_; (try simp only [go_sem]); refine qU u ?_; clear u U; refine awp_nw [0,1,2,8,9] fun tz U u => ?_; (try simp only [go_sem]); refine qU u ?_; clear u U; refine awp_nw [0,1,2,8,9,10] fun tz U u => ?_; obtain ⟨x60, bx60, h0⟩ := bnd h0; have bx60 := chk_some bx60; simp only [Bool.and_eq_true, decide_eq_true_eq] at bx60; have gx60_0 := bx60; obtain ⟨x61, bx61, h0⟩ := bnd h0; have bx61 := chk_some bx61; simp only [Bool.and_eq_true, decide_eq_true_eq] at bx61; have gx61_0 := bx61; (try simp only [go_sem, gx60_0, gx61_0]); refine qU u ?_; clear u U; refine awp_nw [1,2,8,9,10,11] fun tz U u => ?_; obtain ⟨x62, bx62, h0⟩ := bnd h0; have bx62 := chk_some bx62; simp only [Bool.and_eq_true, decide_eq_true_eq] at bx62; have gx62_0 := bx62; (try simp only [go_sem, gx62_0]); refine qU u ?_; clear u U; refine awp_nw [2,8,9,10,11,12] fun tz U u => ?_; (try simp only [go_sem]); refine qU u ?_; clear u U; refine awp_nw [2,8,9,10,11,12,13] fun tz U u => ?_; (try simp only [go_sem]); refine qU u ?_; clear u U; refine awp_nw [2,8,9,10,11,13,14] fun tz U u => ?_; obtain ⟨x63, bx63, h0⟩ := bnd h0; have bx63 := chk_some bx63; simp only [Bool.and_eq_true, decide_eq_true_eq] at bx63; have gx63_0 := bx63; (try simp only [go_sem, Int.reduceEq, gx63_0]); refine qU u ?_; clear u U; refine awp_nw [2,8,9,10,11,13,14,15] fun tz U u => ?_; (try simp only [go_sem]); refine qU u ?_; clear u U; obtain ⟨d64, hi6, h0⟩ := bnd h0; refine awp_cut (fun z => d64 = z) (fun d64 : Int => math_bits_Div64_S2 a2 x58 a0 a1 d64) ?_ ?_
    ·
     refine awp_block1 ?_; refine awp_loopS (fun n (d65 : (Int × Int)) => math_bits_Div64_L4 a1 x58 a2 n d65 = some d64) (fun d65 : (Int × Int) => math_bits_Div64_S3 a2 x58 a0 a1 d65) big (IntKind.wrap .u64 (((bor .u64 (IntKind.wrap .u64 (a0 * 2 ^ (min ((IntKind.wrap .u64 x58)).toNat 64))) ((a1).fdiv (2 ^ (min ((IntKind.wrap .u64 (64 - (IntKind.wrap .u64 x58)))).toNat 64))))).tdiv (((IntKind.wrap .u64 (a2 * 2 ^ (min ((IntKind.wrap .u64 x58)).toNat 64)))).fdiv (2 ^ (min 32 64)))), IntKind.wrap .u64 ((bor .u64 (IntKind.wrap .u64 (a0 * 2 ^ (min ((IntKind.wrap .u64 x58)).toNat 64))) ((a1).fdiv (2 ^ (min ((IntKind.wrap .u64 (64 - (IntKind.wrap .u64 x58)))).toNat 64)))) - (IntKind.wrap .u64 ((IntKind.wrap .u64 (((bor .u64 (IntKind.wrap .u64 (a0 * 2 ^ (min ((IntKind.wrap .u64 x58)).toNat 64))) ((a1).fdiv (2 ^ (min ((IntKind.wrap .u64 (64 - (IntKind.wrap .u64 x58)))).toNat 64))))).tdiv (((IntKind.wrap .u64 (a2 * 2 ^ (min ((IntKind.wrap .u64 x58)).toNat 64)))).fdiv (2 ^ (min 32 64))))) * (((IntKind.wrap .u64 (a2 * 2 ^ (min ((IntKind.wrap .u64 x58)).toNat 64)))).fdiv (2 ^ (min 32 64))))))) (Wk.canonD [] [] [] rfl trivial rfl tmO0 (tmAllU 16 (tmAllU 15 (tmAllU 14 (tmAllU 13 (tmAllU 11 (tmAllU 10 (tmAllU 9 (tmAllU 8 (tmAllU 2 tmAll0 (Tm.v _)) (Tm.v _)) (Tm.v _)) (Tm.v _)) (Tm.v _)) (Tm.v _)) (Tm.v _)) (Tm.v _)) (Tm.v _))) hi6 ?_; clear hi6; rintro n d65 hl8; rcases n with _ | n7
     ·
      (rw [math_bits_Div64_L4] at hl8; cases hl8)
     ·
      rw [math_bits_Div64_L4] at hl8; unfold math_bits_Div64_S3; refine awp_assoc ?_; refine awp_nw [2,8,9,10,11,13,14,15,16] fun tz U u => ?_; refine xw_stop 3 qS qS (by rfl) fun V v => ?_; refine xw_id ?_; (try simp only [go_sem]); refine v _ ?_; clear v V; refine xw_cut 9 [(2, (vq (IntKind.wrap .u64 (a2 * 2 ^ (min ((IntKind.wrap .u64 x58)).toNat 64))))), (8, (vq (IntKind.wrap .u64 x58))), (9, (vq (((IntKind.wrap .u64 (a2 * 2 ^ (min ((IntKind.wrap .u64 x58)).toNat 64)))).fdiv (2 ^ (min 32 64))))), (10, (vq (band .u64 (IntKind.wrap .u64 (a2 * 2 ^ (min ((IntKind.wrap .u64 x58)).toNat 64))) 4294967295))), (11, (vq (bor .u64 (IntKind.wrap .u64 (a0 * 2 ^ (min ((IntKind.wrap .u64 x58)).toNat 64))) ((a1).fdiv (2 ^ (min ((IntKind.wrap .u64 (64 - (IntKind.wrap .u64 x58)))).toNat 64)))))), (13, (vq (((IntKind.wrap .u64 (a1 * 2 ^ (min ((IntKind.wrap .u64 x58)).toNat 64)))).fdiv (2 ^ (min 32 64))))), (14, (vq (band .u64 (IntKind.wrap .u64 (a1 * 2 ^ (min ((IntKind.wrap .u64 x58)).toNat 64))) 4294967295))), (15, (vq d65.1)), (16, (vq d65.2)), (78, (vb ((decide (4294967296 ≤ d65.1)) || (decide ((IntKind.wrap .u64 ((IntKind.wrap .u64 (4294967296 * d65.2)) + (((IntKind.wrap .u64 (a1 * 2 ^ (min ((IntKind.wrap .u64 x58)).toNat 64)))).fdiv (2 ^ (min 32 64))))) < (IntKind.wrap .u64 (d65.1 * (band .u64 (IntKind.wrap .u64 (a2 * 2 ^ (min ((IntKind.wrap .u64 x58)).toNat 64))) 4294967295))))))))] qS qS (by rfl) (fun V v => ?_) fun tz => ?_
      ·
       refine xw_id ?_; rcases Bool.eq_false_or_eq_true (decide (4294967296 ≤ d65.1)) with h9 | h9
       ·
        (try simp only [go_sem, h9]); exact v _ ⟨rfl, rfl, rfl, rfl, rfl, rfl, rfl, rfl, rfl, rfl, (qB h9), trivial⟩
       ·
        (try simp only [go_sem, h9]); exact v _ ⟨rfl, rfl, rfl, rfl, rfl, rfl, rfl, rfl, rfl, rfl, (qB h9), trivial⟩
      ·
       refine xw_id ?_; (try simp only [go_sem]); refine qU u ?_; clear u U; refine awp_cond (b := ((decide (4294967296 ≤ d65.1)) || (decide ((IntKind.wrap .u64 ((IntKind.wrap .u64 (4294967296 * d65.2)) + (((IntKind.wrap .u64 (a1 * 2 ^ (min ((IntKind.wrap .u64 x58)).toNat 64)))).fdiv (2 ^ (min 32 64))))) < (IntKind.wrap .u64 (d65.1 * (band .u64 (IntKind.wrap .u64 (a2 * 2 ^ (min ((IntKind.wrap .u64 x58)).toNat 64))) 4294967295))))))) rfl (fun h10 => ?_) (fun h10 => ?_)
       ·
        have hl8 := cT hl8 h10; refine awp_skip ?_; refine awp_block1 ?_; refine awp_nw [2,8,9,10,11,13,14,15,16] fun tz U u => ?_; (try simp only [go_sem]); refine qU u ?_; clear u U; refine awp_nw [2,8,9,10,11,13,14,15,16] fun tz U u => ?_; (try simp only [go_sem]); refine qU u ?_; clear u U; refine awp_nw [2,8,9,10,11,13,14,15,16] fun tz U u => ?_; (try simp only [go_sem]); refine qU u ?_; clear u U; refine awp_cond1 (b := (decide (4294967296 ≤ (IntKind.wrap .u64 (d65.2 + (((IntKind.wrap .u64 (a2 * 2 ^ (min ((IntKind.wrap .u64 x58)).toNat 64)))).fdiv (2 ^ (min 32 64)))))))) rfl (fun h11 => ?_) (fun h11 => ?_)
        ·
         have hl8 := cT hl8 h11; refine awp_exit1 ?_; refine bq_o rfl ?_; refine lq_e ?_; refine bq_e ?_; refine sq_n ?_; obtain rfl := someInj hl8; exact ⟨_, rfl, (Wk.canonD [] [] [] rfl trivial rfl tmO0 (tmAllU 15 (tmAllU 14 (tmAllU 13 (tmAllU 11 (tmAllU 10 (tmAllU 9 (tmAllU 8 (tmAllU 2 tmAll0 (Tm.v _)) (Tm.v _)) (Tm.v _)) (Tm.v _)) (Tm.v _)) (Tm.v _)) (Tm.v _)) (Tm.v _)))⟩
        ·
         have hl8 := cF hl8 h11; refine awp_skip1 ?_; refine bq_n ?_; refine lq_n ?_; exact ⟨n7, (IntKind.wrap .u64 (d65.1 - 1), IntKind.wrap .u64 (d65.2 + (((IntKind.wrap .u64 (a2 * 2 ^ (min ((IntKind.wrap .u64 x58)).toNat 64)))).fdiv (2 ^ (min 32 64))))), rfl, hl8, (Wk.canonD [] [] [] rfl trivial rfl tmO0 (tmAllU 16 (tmAllU 15 (tmAllU 14 (tmAllU 13 (tmAllU 11 (tmAllU 10 (tmAllU 9 (tmAllU 8 (tmAllU 2 tmAll0 (Tm.v _)) (Tm.v _)) (Tm.v _)) (Tm.v _)) (Tm.v _)) (Tm.v _)) (Tm.v _)) (Tm.v _)) (Tm.v _)))⟩
       ·
        have hl8 := cF hl8 h10; refine awp_exit ?_; refine lq_e ?_; refine bq_e ?_; refine sq_n ?_; obtain rfl := someInj hl8; exact ⟨_, rfl, (Wk.canonD [] [] [] rfl trivial rfl tmO0 (tmAllU 15 (tmAllU 14 (tmAllU 13 (tmAllU 11 (tmAllU 10 (tmAllU 9 (tmAllU 8 (tmAllU 2 tmAll0 (Tm.v _)) (Tm.v _)) (Tm.v _)) (Tm.v _)) (Tm.v _)) (Tm.v _)) (Tm.v _)) (Tm.v _)))⟩
    ·
     rintro _ rfl; clear hi6; unfold math_bits_Div64_S2; refine awp_nw [2,8,9,10,11,13,14,15] fun tz U u => ?_; (try simp only [go_sem]); refine qU u ?_; clear u U; refine awp_nw [2,8,9,10,14,15,17] fun tz U u => ?_; obtain ⟨x66, bx66, h0⟩ := bnd h0; have bx66 := chk_some bx66; simp only [Bool.and_eq_true, decide_eq_true_eq] at bx66; have gx66_0 := bx66; (try simp only [go_sem, Int.reduceEq, gx66_0]); refine qU u ?_; clear u U; refine awp_nw [2,8,9,10,14,15,17,18] fun tz U u => ?_; (try simp only [go_sem]); refine qU u ?_; clear u U; obtain ⟨d67, hi12, h0⟩ := bnd h0; refine awp_cut (fun z => d67 = z) (fun d67 : Int => math_bits_Div64_S5 a2 x58 a1 d64 a0 d67) ?_ ?_
     ·
      refine awp_block1 ?_; refine awp_loopS (fun n (d68 : (Int × Int)) => math_bits_Div64_L7 a1 x58 a2 n d68 = some d67) (fun d68 : (Int × Int) => math_bits_Div64_S6 a2 x58 a1 d64 a0 d68) big (IntKind.wrap .u64 ((IntKind.wrap .u64 ((IntKind.wrap .u64 ((IntKind.wrap .u64 ((bor .u64 (IntKind.wrap .u64 (a0 * 2 ^ (min ((IntKind.wrap .u64 x58)).toNat 64))) ((a1).fdiv (2 ^ (min ((IntKind.wrap .u64 (64 - (IntKind.wrap .u64 x58)))).toNat 64)))) * 4294967296)) + (((IntKind.wrap .u64 (a1 * 2 ^ (min ((IntKind.wrap .u64 x58)).toNat 64)))).fdiv (2 ^ (min 32 64))))) - (IntKind.wrap .u64 (d64 * (IntKind.wrap .u64 (a2 * 2 ^ (min ((IntKind.wrap .u64 x58)).toNat 64))))))) - (IntKind.wrap .u64 ((IntKind.wrap .u64 (((IntKind.wrap .u64 ((IntKind.wrap .u64 ((IntKind.wrap .u64 ((bor .u64 (IntKind.wrap .u64 (a0 * 2 ^ (min ((IntKind.wrap .u64 x58)).toNat 64))) ((a1).fdiv (2 ^ (min ((IntKind.wrap .u64 (64 - (IntKind.wrap .u64 x58)))).toNat 64)))) * 4294967296)) + (((IntKind.wrap .u64 (a1 * 2 ^ (min ((IntKind.wrap .u64 x58)).toNat 64)))).fdiv (2 ^ (min 32 64))))) - (IntKind.wrap .u64 (d64 * (IntKind.wrap .u64 (a2 * 2 ^ (min ((IntKind.wrap .u64 x58)).toNat 64)))))))).tdiv (((IntKind.wrap .u64 (a2 * 2 ^ (min ((IntKind.wrap .u64 x58)).toNat 64)))).fdiv (2 ^ (min 32 64))))) * (((IntKind.wrap .u64 (a2 * 2 ^ (min ((IntKind.wrap .u64 x58)).toNat 64)))).fdiv (2 ^ (min 32 64)))))), IntKind.wrap .u64 (((IntKind.wrap .u64 ((IntKind.wrap .u64 ((IntKind.wrap .u64 ((bor .u64 (IntKind.wrap .u64 (a0 * 2 ^ (min ((IntKind.wrap .u64 x58)).toNat 64))) ((a1).fdiv (2 ^ (min ((IntKind.wrap .u64 (64 - (IntKind.wrap .u64 x58)))).toNat 64)))) * 4294967296)) + (((IntKind.wrap .u64 (a1 * 2 ^ (min ((IntKind.wrap .u64 x58)).toNat 64)))).fdiv (2 ^ (min 32 64))))) - (IntKind.wrap .u64 (d64 * (IntKind.wrap .u64 (a2 * 2 ^ (min ((IntKind.wrap .u64 x58)).toNat 64)))))))).tdiv (((IntKind.wrap .u64 (a2 * 2 ^ (min ((IntKind.wrap .u64 x58)).toNat 64)))).fdiv (2 ^ (min 32 64))))) (Wk.canonD [] [] [] rfl trivial rfl tmO0 (tmAllU 18 (tmAllU 17 (tmAllU 16 (tmAllU 15 (tmAllU 14 (tmAllU 10 (tmAllU 9 (tmAllU 8 (tmAllU 2 tmAll0 (Tm.v _)) (Tm.v _)) (Tm.v _)) (Tm.v _)) (Tm.v _)) (Tm.v _)) (Tm.v _)) (Tm.v _)) (Tm.v _))) hi12 ?_; clear hi12; rintro n d68 hl14; rcases n with _ | n13
      ·
       (rw [math_bits_Div64_L7] at hl14; cases hl14)
      ·
       rw [math_bits_Div64_L7] at hl14; unfold math_bits_Div64_S6; refine awp_assoc ?_; refine awp_nw [2,8,9,10,14,15,16,17,18] fun tz U u => ?_; refine xw_stop 3 qS qS (by rfl) fun V v => ?_; refine xw_id ?_; (try simp only [go_sem]); refine v _ ?_; clear v V; refine xw_cut 9 [(2, (vq (IntKind.wrap .u64 (a2 * 2 ^ (min ((IntKind.wrap .u64 x58)).toNat 64))))), (8, (vq (IntKind.wrap .u64 x58))), (9, (vq (((IntKind.wrap .u64 (a2 * 2 ^ (min ((IntKind.wrap .u64 x58)).toNat 64)))).fdiv (2 ^ (min 32 64))))), (10, (vq (band .u64 (IntKind.wrap .u64 (a2 * 2 ^ (min ((IntKind.wrap .u64 x58)).toNat 64))) 4294967295))), (14, (vq (band .u64 (IntKind.wrap .u64 (a1 * 2 ^ (min ((IntKind.wrap .u64 x58)).toNat 64))) 4294967295))), (15, (vq d64)), (16, (vq d68.1)), (17, (vq (IntKind.wrap .u64 ((IntKind.wrap .u64 ((IntKind.wrap .u64 ((bor .u64 (IntKind.wrap .u64 (a0 * 2 ^ (min ((IntKind.wrap .u64 x58)).toNat 64))) ((a1).fdiv (2 ^ (min ((IntKind.wrap .u64 (64 - (IntKind.wrap .u64 x58)))).toNat 64)))) * 4294967296)) + (((IntKind.wrap .u64 (a1 * 2 ^ (min ((IntKind.wrap .u64 x58)).toNat 64)))).fdiv (2 ^ (min 32 64))))) - (IntKind.wrap .u64 (d64 * (IntKind.wrap .u64 (a2 * 2 ^ (min ((IntKind.wrap .u64 x58)).toNat 64))))))))), (18, (vq d68.2)), (113, (vb ((decide (4294967296 ≤ d68.2)) || (decide ((IntKind.wrap .u64 ((IntKind.wrap .u64 (4294967296 * d68.1)) + (band .u64 (IntKind.wrap .u64 (a1 * 2 ^ (min ((IntKind.wrap .u64 x58)).toNat 64))) 4294967295))) < (IntKind.wrap .u64 (d68.2 * (band .u64 (IntKind.wrap .u64 (a2 * 2 ^ (min ((IntKind.wrap .u64 x58)).toNat 64))) 4294967295))))))))] qS qS (by rfl) (fun V v => ?_) fun tz => ?_
       ·
        refine xw_id ?_; rcases Bool.eq_false_or_eq_true (decide (4294967296 ≤ d68.2)) with h15 | h15
        ·
         (try simp only [go_sem, h15]); exact v _ ⟨rfl, rfl, rfl, rfl, rfl, rfl, rfl, rfl, rfl, rfl, (qB h15), trivial⟩
        ·
         (try simp only [go_sem, h15]); exact v _ ⟨rfl, rfl, rfl, rfl, rfl, rfl, rfl, rfl, rfl, rfl, (qB h15), trivial⟩
       ·
        refine xw_id ?_; (try simp only [go_sem]); refine qU u ?_; clear u U; refine awp_cond (b := ((decide (4294967296 ≤ d68.2)) || (decide ((IntKind.wrap .u64 ((IntKind.wrap .u64 (4294967296 * d68.1)) + (band .u64 (IntKind.wrap .u64 (a1 * 2 ^ (min ((IntKind.wrap .u64 x58)).toNat 64))) 4294967295))) < (IntKind.wrap .u64 (d68.2 * (band .u64 (IntKind.wrap .u64 (a2 * 2 ^ (min ((IntKind.wrap .u64 x58)).toNat 64))) 4294967295))))))) rfl (fun h16 => ?_) (fun h16 => ?_)
        ·
         have hl14 := cT hl14 h16; refine awp_skip ?_; refine awp_block1 ?_; refine awp_nw [2,8,9,10,14,15,16,17,18] fun tz U u => ?_; (try simp only [go_sem]); refine qU u ?_; clear u U; refine awp_nw [2,8,9,10,14,15,16,17,18] fun tz U u => ?_; (try simp only [go_sem]); refine qU u ?_; clear u U; refine awp_nw [2,8,9,10,14,15,16,17,18] fun tz U u => ?_; (try simp only [go_sem]); refine qU u ?_; clear u U; refine awp_cond1 (b := (decide (4294967296 ≤ (IntKind.wrap .u64 (d68.1 + (((IntKind.wrap .u64 (a2 * 2 ^ (min ((IntKind.wrap .u64 x58)).toNat 64)))).fdiv (2 ^ (min 32 64)))))))) rfl (fun h17 => ?_) (fun h17 => ?_)
         ·
          have hl14 := cT hl14 h17; refine awp_exit1 ?_; refine bq_o rfl ?_; refine lq_e ?_; refine bq_e ?_; refine sq_n ?_; obtain rfl := someInj hl14; exact ⟨_, rfl, (Wk.canonD [] [] [] rfl trivial rfl tmO0 (tmAllU 18 (tmAllU 17 (tmAllU 15 (tmAllU 14 (tmAllU 8 (tmAllU 2 tmAll0 (Tm.v _)) (Tm.v _)) (Tm.v _)) (Tm.v _)) (Tm.v _)) (Tm.v _)))⟩
         ·
          have hl14 := cF hl14 h17; refine awp_skip1 ?_; refine bq_n ?_; refine lq_n ?_; exact ⟨n13, (IntKind.wrap .u64 (d68.1 + (((IntKind.wrap .u64 (a2 * 2 ^ (min ((IntKind.wrap .u64 x58)).toNat 64)))).fdiv (2 ^ (min 32 64)))), IntKind.wrap .u64 (d68.2 - 1)), rfl, hl14, (Wk.canonD [] [] [] rfl trivial rfl tmO0 (tmAllU 18 (tmAllU 17 (tmAllU 16 (tmAllU 15 (tmAllU 14 (tmAllU 10 (tmAllU 9 (tmAllU 8 (tmAllU 2 tmAll0 (Tm.v _)) (Tm.v _)) (Tm.v _)) (Tm.v _)) (Tm.v _)) (Tm.v _)) (Tm.v _)) (Tm.v _)) (Tm.v _)))⟩
        ·
         have hl14 := cF hl14 h16; refine awp_exit ?_; refine lq_e ?_; refine bq_e ?_; refine sq_n ?_; obtain rfl := someInj hl14; exact ⟨_, rfl, (Wk.canonD [] [] [] rfl trivial rfl tmO0 (tmAllU 18 (tmAllU 17 (tmAllU 15 (tmAllU 14 (tmAllU 8 (tmAllU 2 tmAll0 (Tm.v _)) (Tm.v _)) (Tm.v _)) (Tm.v _)) (Tm.v _)) (Tm.v _)))⟩
     ·
      rintro _ rfl; clear hi12; unfold math_bits_Div64_S5; refine awp_nw [2,8,14,15,17,18] fun tz U u => ?_; obtain ⟨x69, bx69, h0⟩ := bnd h0; have bx69 := chk_some bx69; simp only [Bool.and_eq_true, decide_eq_true_eq] at bx69; have gx69_0 := bx69; (try simp only [go_sem, gx69_0]); refine qU u ?_; clear u U; refine awp_ret1 ?_; obtain rfl := someInj h0; refine endW_i ?_; refine end_ret0 rs78 (rfl) ?_; exact qF
theorem math_bits_Rem64_p (a0 : Int) (a1 : Int) (a2 : Int) {r : Int} (h0 : math_bits_Rem64 a0 a1 a2 = some r) : SndP K 69 [(vq a0), (vq a1), (vq a2)] (vq r) := by
 refine SndP.of_walkW hC (Clean.v _) (clean_cons (Clean.v _) (clean_cons (Clean.v _) (clean_cons (Clean.v _) clean_nil))) (show K.P.funcs[69]? = some Try.f69 from Try.func69) rfl rfl (by decide +kernel) (Nat.le_of_ble_eq_true rfl) ?_; unfold math_bits_Rem64 at h0; refine awp_nw [0,1,2] fun tz U u => ?_; (try simp only [go_sem]); refine qU u ?_; clear u U; refine awp_nw [0,1,2] fun tz U u => ?_; obtain ⟨x53, bx53, h0⟩ := bnd h0; have bx53 := chk_some bx53; simp only [Bool.and_eq_true, decide_eq_true_eq] at bx53; have gx53_0 := bx53; obtain ⟨x54, bx54, h0⟩ := bnd h0; (try simp only [go_sem, Int.reduceEq, gx53_0]); (refine xcall_p (math_bits_Div64_p ((a0).tmod a2) a1 a2 bx54) ?_; try dsimp only); (try refine xw_id ?_); (try simp only [go_sem, Int.reduceEq, gx53_0]); refine qU u ?_; clear u U; refine awp_nw [8] fun tz U u => ?_; (try simp only [go_sem]); refine qU u ?_; clear u U; refine awp_ret1 ?_; obtain rfl := someInj h0; refine endW_i ?_; refine end_ret0 rs69 (rfl) ?_; exact qF
theorem auth_Mul_p (a0 : Int) (a1 : Int) {r : Int} (h0 : auth_Mul a0 a1 = some r) : SndP K 46 [(vq a0), (vq a1)] (vq r) := by
 refine SndP.of_walkW hC (Clean.v _) (clean_cons (Clean.v _) (clean_cons (Clean.v _) clean_nil)) (show K.P.funcs[46]? = some Try.f46 from Try.func46) rfl rfl (by decide +kernel) (Nat.le_of_ble_eq_true rfl) ?_; unfold auth_Mul at h0; refine awp_nw [0,1] fun tz U u => ?_; (try simp only [go_sem]); refine qU u ?_; clear u U; refine awp_nw [0,1] fun tz U u => ?_; obtain ⟨x52, bx52, h0⟩ := bnd h0; (try simp only [go_sem, Int.reduceEq]); (refine xcall_p (math_bits_Mul64_p ((a0).tmod 2305843009213693951) ((a1).tmod 2305843009213693951) bx52) ?_; try dsimp only); (try refine xw_id ?_); (try simp only [go_sem, Int.reduceEq]); refine qU u ?_; clear u U; refine awp_nw [5,6] fun tz U u => ?_; obtain ⟨x53, bx53, h0⟩ := bnd h0; (try simp only [go_sem]); (refine xcall_p (math_bits_Rem64_p x52.1 x52.2 2305843009213693951 bx53) ?_; try dsimp only); (try refine xw_id ?_); (try simp only [go_sem]); refine qU u ?_; clear u U; refine awp_ret1 ?_; obtain rfl := someInj h0; refine endW_i ?_; refine end_ret0 rs46 (rfl) ?_; exact qF
def auth_Pow_S0 (d41 : Int) : AS :=
 { objs := (fun _ => .dead), next := 0, tmps := (upd (fun _ => .unk) 5 (vq d41)) }

def auth_Pow_S1 (d42 : (Int × Int × Int)) : AS :=
 { objs := (fun _ => .dead), next := 0, tmps := (upd (upd (upd (fun _ => .unk) 0 (vq d42.1)) 1 (vq d42.2.1)) 5 (vq d42.2.2)) }

def auth_Pow_S3 (d42 : (Int × Int × Int)) (d43 : Int) : AS :=
 { objs := (fun _ => .dead), next := 0, tmps := (upd (upd (upd (fun _ => .unk) 0 (vq d42.1)) 1 (vq d42.2.1)) 5 (vq d43)) }

theorem auth_Pow_p (a0 : Int) (a1 : Int) {r : Int} (h0 : auth_Pow a0 a1 = some r) : SndP K 47 [(vq a0), (vq a1)] (vq r) := by
 refine SndP.of_walkW hC (Clean.v _) (clean_cons (Clean.v _) (clean_cons (Clean.v _) clean_nil)) (show K.P.funcs[47]? = some Try.f47 from Try.func47) rfl rfl (by decide +kernel) (Nat.le_of_ble_eq_true rfl) ?_; unfold auth_Pow at h0; refine awp_nw [0,1] fun tz U u => ?_; (try simp only [go_sem]); refine qU u ?_; clear u U; refine awp_nw [0,1] fun tz U u => ?_; (try simp only [go_sem]); refine qU u ?_; clear u U; obtain ⟨d41, hi1, h0⟩ := bnd h0; refine awp_cut (fun z => d41 = z) (fun d41 : Int => auth_Pow_S0 d41) ?_ ?_
 ·
  refine awp_block1 ?_; refine awp_loopS (fun n (d42 : (Int × Int × Int)) => auth_Pow_L2 n d42 = some d41) (fun d42 : (Int × Int × Int) => auth_Pow_S1 d42) big (a0, a1, 1) (Wk.canonD [] [] [] rfl trivial rfl tmO0 (tmAllU 5 (tmAllU 1 (tmAllU 0 tmAll0 (Tm.v _)) (Tm.v _)) (Tm.v _))) hi1 ?_; clear hi1; rintro n d42 hl3; rcases n with _ | n2
  ·
   (rw [auth_Pow_L2] at hl3; cases hl3)
  ·
   rw [auth_Pow_L2] at hl3; unfold auth_Pow_S1; refine awp_assoc ?_; refine awp_nw [0,1,5] fun tz U u => ?_; (try simp only [go_sem]); refine qU u ?_; clear u U; refine awp_cond (b := (decide (0 < d42.2.1))) rfl (fun h4 => ?_) (fun h4 => ?_)
   ·
    have hl3 := cT hl3 h4; refine awp_skip ?_; refine awp_blockW ?_; refine awp_assoc ?_; refine awp_nw [0,1,5] fun tz U u => ?_; (try simp only [go_sem]); refine qU u ?_; clear u U; obtain ⟨d43, hi5, hl3⟩ := bnd hl3; refine awp_cut (fun z => d43 = z) (fun d43 : Int => auth_Pow_S3 d42 d43) ?_ ?_
    ·
     refine awp_cond1 (b := ((band .u64 d42.2.1 1) == 1)) rfl (fun h6 => ?_) (fun h6 => ?_)
     ·
      have hi5 := cT hi5 h6; refine awp_nw1 [0,1,5] fun tz U u => ?_; obtain ⟨x44, bx44, hi5⟩ := bnd hi5; (try simp only [go_sem]); (refine xcall_p (auth_Mul_p d42.2.2 d42.1 bx44) ?_; try dsimp only); (try refine xw_id ?_); (try simp only [go_sem]); refine u _ ?_; clear u U; refine sq_n ?_; obtain rfl := someInj hi5; exact ⟨_, rfl, (Wk.canonD [] [] [] rfl trivial rfl tmO0 (tmAllU 5 (tmAllU 1 (tmAllU 0 tmAll0 (Tm.v _)) (Tm.v _)) (Tm.v _)))⟩
     ·
      have hi5 := cF hi5 h6; refine awp_skip1 ?_; refine sq_n ?_; obtain rfl := someInj hi5; exact ⟨_, rfl, (Wk.canonD [] [] [] rfl trivial rfl tmO0 (tmAllU 5 (tmAllU 1 (tmAllU 0 tmAll0 (Tm.v _)) (Tm.v _)) (Tm.v _)))⟩
    ·
     rintro _ rfl; clear hi5; unfold auth_Pow_S3; refine awp_nw1 [0,1,5] fun tz U u => ?_; obtain ⟨x45, bx45, hl3⟩ := bnd hl3; (try simp only [go_sem]); (refine xcall_p (auth_Mul_p d42.1 d42.1 bx45) ?_; try dsimp only); (try refine xw_id ?_); (try simp only [go_sem]); refine u _ ?_; clear u U; refine bq_n ?_; refine seqW_i ?_; refine awp_nw1 [0,1,5] fun tz U u => ?_; (try simp only [go_sem]); refine u _ ?_; clear u U; refine lq_n ?_; exact ⟨n2, (x45, (d42.2.1).fdiv (2 ^ (min 1 64)), d43), rfl, hl3, (Wk.canonD [] [] [] rfl trivial rfl tmO0 (tmAllU 5 (tmAllU 1 (tmAllU 0 tmAll0 (Tm.v _)) (Tm.v _)) (Tm.v _)))⟩
   ·
    have hl3 := cF hl3 h4; refine awp_exit ?_; refine lq_e ?_; refine bq_e ?_; refine sq_n ?_; obtain rfl := someInj hl3; exact ⟨_, rfl, (Wk.canonD [] [] [] rfl trivial rfl tmO0 (tmAllU 5 tmAll0 (Tm.v _)))⟩
 ·
  rintro _ rfl; clear hi1; unfold auth_Pow_S0; refine awp_nw [5] fun tz U u => ?_; (try simp only [go_sem]); refine qU u ?_; clear u U; refine awp_ret1 ?_; obtain rfl := someInj h0; refine endW_i ?_; refine end_ret0 rs47 (rfl) ?_; exact qF
def auth_put_2_S0 (d31 : (List Int)) : AS :=
 { objs := (upd (fun _ => .dead) 1 (.live (List.map vu d31))), next := 2, tmps := (upd (fun _ => .unk) 0 (.ref 1 0 ((d31).length) 1)) }

def auth_put_2_S1 (a0 : Int) (d32 : (List Int × Int)) : AS :=
 { objs := (upd (fun _ => .dead) 1 (.live (List.map vu d32.1))), next := 2, tmps := (upd (upd (upd (fun _ => .unk) 0 (.ref 1 0 ((d32.1).length) 1)) 1 (vq a0)) 6 (vi d32.2)) }

theorem auth_put_2_io (a0 : Int) (a1 : List Int) {r : (List Int)} (h0 : auth_put_2 a0 a1 = some r) : SndIO K 63 1 (fun q => [(.ref (q 0) 0 a1.length 1), (vq a0)]) [(fun q => (List.map vu a1))] (fun q => (.ref (q 1) 0 ((r).length) 1)) [none, (some (fun q => (List.map vu r)))] := by
 refine SndIO.of_walkW hC (RenML.cons (RenM.ref 0 0 _ _) (RenML.cons (RenM.const (Clean.v _)) RenML.nil)) (tpl_cons (RenML.const (vu_clean _)) tpl_nil) (otpl_none (otpl_some (RenML.const (vu_clean _)) otpl_nil)) (RenM.ref 1 0 _ _) rfl (Nat.le_of_ble_eq_true rfl) (show K.P.funcs[63]? = some Try.f63 from Try.func63) rfl rfl (by decide +kernel) (Nat.le_of_ble_eq_true rfl) ?_; unfold auth_put_2 at h0; refine awp_nw [0,1] fun tz U u => ?_; (try simp only [go_sem]); refine qU u ?_; clear u U; refine awp_assoc ?_; refine awp_nw [0,1] fun tz U u => ?_; (try simp only [go_sem]); refine qU u ?_; clear u U; obtain ⟨d31, hi1, h0⟩ := bnd h0; refine awp_cut (fun z => d31 = z) (fun d31 : (List Int) => auth_put_2_S0 d31) ?_ ?_
 ·
  refine awp_block1 ?_; refine awp_loopS (fun n (d32 : (List Int × Int)) => auth_put_2_L2 a0 n d32 = some d31) (fun d32 : (List Int × Int) => auth_put_2_S1 a0 d32) big (a1, 0) (by refine Wk.canonD [] [0] [some 0, some 0] rfl ⟨rfl, trivial⟩ rfl (tmOE 1 tmO0 (vu_clean _)) (tmAllU 6 (tmAllU 1 (tmAllU 0 tmAll0 (Tm.refL rfl ?_)) (Tm.v _)) (Tm.v _)); all_goals (first | rfl | (simp only [List.length_append, List.length_take, List.length_drop, List.length_cons, List.length_nil, List.length_modify, List.length_set, Nat.zero_add] <;> omega) | omega)) hi1 ?_; clear hi1; rintro n d32 hl3; rcases n with _ | n2
  ·
   (rw [auth_put_2_L2] at hl3; cases hl3)
  ·
   rw [auth_put_2_L2] at hl3; unfold auth_put_2_S1; refine awp_nw [0,1,6] fun tz U u => ?_; (try simp only [go_sem]); refine qU u ?_; clear u U; refine awp_cond (b := (decide (d32.2 < 8))) rfl (fun h4 => ?_) (fun h4 => ?_)
   ·
    have hl3 := cT hl3 h4; refine awp_skip ?_; refine awp_blockW ?_; refine awp_nw [0,1,6] fun tz U u => ?_; (try simp only [go_sem]); refine qU u ?_; clear u U; refine awp_nw1 [0,1,5,6] fun tz U u => ?_; obtain ⟨x33, bx33, hl3⟩ := bnd hl3; have bx33 := chk_some bx33; simp only [Bool.and_eq_true, decide_eq_true_eq] at bx33; have gx33_0 := bx33; obtain ⟨x34, bx34, hl3⟩ := bnd hl3; have bx34 := chk_some bx34; simp only [Bool.and_eq_true, decide_eq_true_eq] at bx34; have gx34_0 := bx34; (try simp only [go_sem, gx33_0, gx34_0]); refine u _ ?_; clear u U; refine bq_n ?_; refine seqW_i ?_; refine awp_nw1 [0,1,6] fun tz U u => ?_; (try simp only [go_sem]); refine u _ ?_; clear u U; refine lq_n ?_; exact ⟨n2, ((d32.1 ++ [IntKind.wrap .u8 ((a0).fdiv (2 ^ (min ((IntKind.wrap .i64 (8 * d32.2))).toNat 64)))]), IntKind.wrap .i64 (d32.2 + 1)), rfl, hl3, (by refine Wk.canonD [] [0] [some 0, some 12] rfl ⟨rfl, trivial⟩ rfl (tmOE 1 tmO0 (vu_clean _)) (tmAllU 6 (tmAllU 1 (tmAllU 0 tmAll0 (Tm.refL rfl ?_)) (Tm.v _)) (Tm.v _)); all_goals (first | rfl | (simp only [List.length_append, List.length_take, List.length_drop, List.length_cons, List.length_nil, List.length_modify, List.length_set, Nat.zero_add] <;> omega) | omega))⟩
   ·
    have hl3 := cF hl3 h4; refine awp_exit ?_; refine lq_e ?_; refine bq_e ?_; refine sq_n ?_; obtain rfl := someInj hl3; exact ⟨_, rfl, (by refine Wk.canonD [] [0] [some 0, some 1] rfl ⟨rfl, trivial⟩ rfl (tmOE 1 tmO0 (vu_clean _)) (tmAllU 0 tmAll0 (Tm.refL rfl ?_)); all_goals (first | rfl | (simp only [List.length_append, List.length_take, List.length_drop, List.length_cons, List.length_nil, List.length_modify, List.length_set, Nat.zero_add] <;> omega) | omega))⟩
 ·
  rintro _ rfl; clear hi1; unfold auth_put_2_S0; refine awp_nw [0] fun tz U u => ?_; (try simp only [go_sem]); refine qU u ?_; clear u U; refine awp_ret1 ?_; obtain rfl := someInj h0; refine endW_i ?_; refine end_ret0 rs63 (rfl) ?_; refine ResIO.mk [] [some 0, some 1] rfl (resED (resEU List.not_mem_nil rfl (TmL.of_eq qL (vu_clean _)) resE0)) (Tm.refL rfl ?_); (all_goals (first | rfl | (simp only [List.length_append, List.length_take, List.length_drop, List.length_cons, List.length_nil, List.length_modify, List.length_set, Nat.zero_add] <;> omega) | omega))
def auth_numbers_S0 (d29 : (List Int)) : AS :=
 { objs := (upd (fun _ => .dead) 0 (.live (List.map vu d29))), next := 1, tmps := (upd (fun _ => .unk) 2 (.ref 0 0 ((d29).length) 1)) }

def auth_numbers_S1 (a0 : (List Int)) (d30 : (List Int × Int)) : AS :=
 { objs := (upd (fun _ => .dead) 0 (.live (List.map vu d30.1))), next := 1, tmps := (upd (upd (upd (upd (fun _ => .unk) 2 (.ref 0 0 ((d30.1).length) 1)) 5 (.imm (List.map vq a0) a0.length)) 6 (vi (a0.length : Int))) 7 (vi d30.2)) }

theorem auth_numbers_r (a0 : (List Int)) {r : (List Int)} (h0 : auth_numbers a0 = some r) : SndR K 37 [(S_vq a0)] (fun q => (.ref (q 0) 0 r.length 1)) [(List.map vu r)] := by
 refine SndR.of_walkW hC (show K.P.funcs[37]? = some Try.f37 from Try.func37) rfl rfl (by decide +kernel) (Nat.le_of_ble_eq_true rfl) ?_; unfold auth_numbers at h0; refine awp_nw [0] fun tz U u => ?_; (try simp only [go_sem]); refine qU u ?_; clear u U; refine awp_assoc ?_; refine awp_nw [0,2] fun tz U u => ?_; (try simp only [go_sem]); refine qU u ?_; clear u U; obtain ⟨d29, hi1, h0⟩ := bnd h0; refine awp_cut (fun z => d29 = z) (fun d29 : (List Int) => auth_numbers_S0 d29) ?_ ?_
 ·
  refine awp_block1 ?_; refine awp_loopS (fun n (d30 : (List Int × Int)) => auth_numbers_L2 a0 n d30 = some d29) (fun d30 : (List Int × Int) => auth_numbers_S1 a0 d30) big ([], 0) (Wk.canonD [] [] [none] rfl trivial rfl (tmON 0 tmO0 rfl) (tmAllU 7 (tmAllU 6 (tmAllU 5 (tmAllU 2 tmAll0 (Tm.thaw _ _ _)) (Tm.clean (Clean.imm (vq_clean _)))) (Tm.v _)) (Tm.v _))) hi1 ?_; clear hi1; rintro n d30 hl3; rcases n with _ | n2
  ·
   (rw [auth_numbers_L2] at hl3; cases hl3)
  ·
   rw [auth_numbers_L2] at hl3; unfold auth_numbers_S1; refine awp_nw [2,5,6,7] fun tz U u => ?_; (try simp only [go_sem]); refine qU u ?_; clear u U; refine awp_cond (b := (decide (d30.2 < (a0.length : Int)))) rfl (fun h4 => ?_) (fun h4 => ?_)
   ·
    have hl3 := cT hl3 h4; refine awp_skip ?_; refine awp_blockW ?_; refine awp_nw [2,5,6,7] fun tz U u => ?_; obtain ⟨x31, bx31, hl3⟩ := bnd hl3; obtain ⟨fx31_0, fx31_1, fx31_2, fx31_3⟩ := idx_some bx31; (try simp only [go_sem, fx31_0, fx31_1, fx31_2]); refine qU u ?_; clear u U; refine awp_nw1 [2,4,5,6,7] fun tz U u => ?_; obtain ⟨x32, bx32, hl3⟩ := bnd hl3; (try simp only [go_sem, fx31_0, fx31_1, fx31_2]); (refine xcall_O [0] (auth_put_2_io x31 d30.1 bx32) (by decide) (by decide) ⟨(by first | rfl | (simp only [go_sem, fx31_0, fx31_1, fx31_2] <;> rfl)), trivial⟩ (by first | rfl | (simp only [go_sem, fx31_0, fx31_1, fx31_2] <;> rfl)) ?_; try dsimp only); (try refine xw_id ?_); (try simp only [go_sem, fx31_0, fx31_1, fx31_2, List.length_cons, List.length_nil]); refine u _ ?_; clear u U; refine bq_n ?_; refine seqW_i ?_; refine awp_nw1 [2,5,6,7] fun tz U u => ?_; (try simp only [go_sem, fx31_0, fx31_1, fx31_2]); refine u _ ?_; clear u U; refine lq_n ?_; exact ⟨n2, (x32, IntKind.wrap .i64 (d30.2 + 1)), rfl, hl3, (by refine Wk.canonD [] [] [some 9] rfl trivial rfl (tmOE 0 tmO0 (vu_clean _)) (tmAllU 7 (tmAllU 6 (tmAllU 5 (tmAllU 2 tmAll0 (Tm.refL rfl ?_)) (Tm.clean (Clean.imm (vq_clean _)))) (Tm.v _)) (Tm.v _)); all_goals (first | rfl | (simp only [List.length_append, List.length_take, List.length_drop, List.length_cons, List.length_nil, List.length_modify, List.length_set, Nat.zero_add] <;> omega) | omega))⟩
   ·
    have hl3 := cF hl3 h4; refine awp_exit ?_; refine lq_e ?_; refine bq_e ?_; refine sq_n ?_; obtain rfl := someInj hl3; exact ⟨_, rfl, (by refine Wk.canonD [] [] [some 0] rfl trivial rfl (tmOE 0 tmO0 (vu_clean _)) (tmAllU 2 tmAll0 (Tm.refL rfl ?_)); all_goals (first | rfl | (simp only [List.length_append, List.length_take, List.length_drop, List.length_cons, List.length_nil, List.length_modify, List.length_set, Nat.zero_add] <;> omega) | omega))⟩
 ·
  rintro _ rfl; clear hi1; unfold auth_numbers_S0; refine awp_nw [2] fun tz U u => ?_; (try simp only [go_sem]); refine qU u ?_; clear u U; refine awp_ret1 ?_; obtain rfl := someInj h0; refine endW_i ?_; refine end_ret0 rs37 (rfl) ?_; refine Res.mk [] [some 0] rfl (resOU List.not_mem_nil rfl (TmL.of_eq qL (vu_clean _)) resO0) (Tm.refL rfl ?_); (all_goals (first | rfl | (simp only [List.length_append, List.length_take, List.length_drop, List.length_cons, List.length_nil, List.length_modify, List.length_set, Nat.zero_add] <;> omega) | omega))

theorem auth_numbers_m (a0 : (List Int)) {r : (List Int)} (h0 : auth_numbers a0 = some r) : SndM K 37 [(S_vq a0)] (fun q => (.ref (q 0) 0 r.length 1)) [(List.map vu r)] :=
 fun hs => Snd.of_newM (RenM.ref 0 0 _ _) (rows_all_cons (vu_clean _) rows_all_nil) (clean_cons (S_vq_clean _) clean_nil) (auth_numbers_r a0 h0) hs

theorem auth_numbers_e (a0 : (List Int)) {r : (List Int)} (h0 : auth_numbers a0 = some r) (fr : Nat) (hs : HS) : SndE K 37 [(S_vq a0)] hs fr ⟨(fun q : Nat → Nat => (.ref (q 0) 0 r.length 1)) fun _ => fr, .new (List.map vu r)⟩ :=
 SndE.of_res (RenM.ref 0 0 _ _) (vu_clean _) (clean_cons (S_vq_clean _) clean_nil) (fun a b h => by simp only [h]) (auth_numbers_r a0 h0) hs fr

theorem auth_numbers_p (a0 : (List Int)) {r : (List Int)} (h0 : auth_numbers a0 = some r) : SndP K 37 [(S_vq a0)] (S_vu r) :=
 SndM.pure (auth_numbers_m a0 h0) (S_vu_clean _) (clean_cons (S_vq_clean _) clean_nil) (by simp only [go_sem, newL_n, newL_c, upd_get, fz, nilS, cond_true, cond_false, List.drop_zero, List.take_length, List.length_map, ble_self] <;> rfl)
def cipher_Words_S0 (d10 : A4vw) : AS :=
 { objs := (upd (fun _ => .dead) 0 (.live (e_A4vw d10))), next := 1, tmps := (upd (fun _ => .unk) 2 (.ptr 0 0)) }

def cipher_Words_S1 (a0 : A16vu) (d11 : (A4vw × Int)) : AS :=
 { objs := (upd (fun _ => .dead) 0 (.live (e_A4vw d11.1))), next := 1, tmps := (upd (upd (upd (fun _ => .unk) 2 (.ptr 0 0)) 5 (.agg (e_A16vu a0))) 6 (vi d11.2)) }

theorem cipher_Words_p (a0 : A16vu) {r : A4vw} (h0 : cipher_Words a0 = some r) : SndP K 82 [(.agg (e_A16vu a0))] (.agg (e_A4vw r)) := by
 refine SndP.of_walkW hC (Clean.agg (e_A4vw_clean _)) (clean_cons (Clean.agg (e_A16vu_clean _)) clean_nil) (show K.P.funcs[82]? = some Try.f82 from Try.func82) rfl rfl (by decide +kernel) (Nat.le_of_ble_eq_true rfl) ?_; unfold cipher_Words at h0; refine awp_nw [0] fun tz U u => ?_; (try simp only [go_sem]); refine qU u ?_; clear u U; refine awp_assoc ?_; refine awp_nw [1,2] fun tz U u => ?_; (try simp only [go_sem]); refine qU u ?_; clear u U; obtain ⟨d10, hi1, h0⟩ := bnd h0; refine awp_cut (fun z => d10 = z) (fun d10 : A4vw => cipher_Words_S0 d10) ?_ ?_
 ·
  refine awp_block1 ?_; refine awp_loopS (fun n (d11 : (A4vw × Int)) => cipher_Words_L2 a0 n d11 = some d10) (fun d11 : (A4vw × Int) => cipher_Words_S1 a0 d11) big (A4vw.z, 0) (Wk.canonD [] [] [some 1] rfl trivial rfl (tmOC 0 tmO0 (e_A4vw_clean _)) (tmAllU 6 (tmAllU 5 (tmAllU 2 tmAll0 (Tm.ptr rfl)) (Tm.clean (Clean.agg (e_A16vu_clean _)))) (Tm.v _))) hi1 ?_; clear hi1; rintro n d11 hl3; rcases n with _ | n2
  ·
   (rw [cipher_Words_L2] at hl3; cases hl3)
  ·
   rw [cipher_Words_L2] at hl3; unfold cipher_Words_S1; refine awp_nw [2,5,6] fun tz U u => ?_; (try simp only [go_sem]); refine qU u ?_; clear u U; refine awp_cond (b := (decide (d11.2 < 16))) rfl (fun h4 => ?_) (fun h4 => ?_)
   ·
    have hl3 := cT hl3 h4; refine awp_skip ?_; refine awp_blockW ?_; refine awp_nw [2,5,6] fun tz U u => ?_; obtain ⟨x12, bx12, hl3⟩ := bnd hl3; obtain ⟨fx12_0, fx12_1, fx12_2, fx12_3⟩ := idxA_some bx12; (have fx12_6 : (e_A16vu a0)[(d11.2).toNat]? = some (vu x12) := by show (List.map vu [a0.a0, a0.a1, a0.a2, a0.a3, a0.a4, a0.a5, a0.a6, a0.a7, a0.a8, a0.a9, a0.a10, a0.a11, a0.a12, a0.a13, a0.a14, a0.a15])[(d11.2).toNat]? = _; rw [List.getElem?_map, fx12_2]; rfl); (try simp only [go_sem, fx12_0, fx12_1, fx12_6]); refine qU u ?_; clear u U; refine awp_nr1 [2,3,4,5,6] (fun _ => rfl) fun tz => ?_; refine awp_regD1 fun U u all hall => ?_; refine xd_id ?_; (try simp only [List.toList_toArray, List.map_cons, List.map_nil, List.size_toArray, List.length_cons, List.length_nil, Nat.zero_add]); (try simp only [Nat.reduceAdd]); obtain ⟨x13, bx13, hl3⟩ := bnd hl3; obtain ⟨fx13_0, fx13_1, fx13_2, fx13_3⟩ := idxA_some bx13; (have fx13_6 : (e_A4vw d11.1)[(IntKind.wrap .i64 ((d11.2).tdiv 4)).toNat]? = some (vw x13) := by show (List.map vw [d11.1.a0, d11.1.a1, d11.1.a2, d11.1.a3])[(IntKind.wrap .i64 ((d11.2).tdiv 4)).toNat]? = _; rw [List.getElem?_map, fx13_2]; rfl); obtain ⟨x14, bx14, hl3⟩ := bnd hl3; have bx14 := chk_some bx14; simp only [Bool.and_eq_true, decide_eq_true_eq] at bx14; have gx14_0 := bx14; (have gs5b : (IntKind.wrap .i64 ((d11.2).tdiv 4)).toNat < 4 := by have h0 := of_eq_true fx13_0; have h1 := of_eq_true fx13_1; omega); have gs5 : (e_A4vw d11.1).set ((IntKind.wrap .i64 ((d11.2).tdiv 4)).toNat) (vw (bor .u32 x13 (IntKind.wrap .u32 ((IntKind.wrap .u32 x12) * 2 ^ (min ((IntKind.wrap .i64 (((d11.2).tmod 4) * 8))).toNat 32))))) = e_A4vw (d11.1.setA ((IntKind.wrap .i64 ((d11.2).tdiv 4)).toNat) (bor .u32 x13 (IntKind.wrap .u32 ((IntKind.wrap .u32 x12) * 2 ^ (min ((IntKind.wrap .i64 (((d11.2).tmod 4) * 8))).toNat 32))))) := e_A4vw_setA _ _ gs5b; have gs5l : ((IntKind.wrap .i64 ((d11.2).tdiv 4)).toNat + 1 ≤ 4) = True := eq_true (by omega); (iterate 3 ((try simp only [go_sem, -Nat.reduceAdd, fx12_0, fx12_1, fx12_6, Int.reduceEq, fx13_0, fx13_1, fx13_6, gx14_0, gs5, gs5l]); try simp only [Nat.reduceAdd])); refine And.intro ?_ (u _ ?_)
    ·
     subst hall; clear u U; exact qP
    ·
     clear u U hall all; refine bq_n ?_; refine seqW_i ?_; refine awp_nw1 [2,5,6] fun tz U u => ?_; (try simp only [go_sem, fx12_0, fx12_1, fx12_6, fx13_0, fx13_1, fx13_6]); refine u _ ?_; clear u U; refine lq_n ?_; exact ⟨n2, ((d11.1.setA ((IntKind.wrap .i64 ((d11.2).tdiv 4)).toNat) (bor .u32 x13 (IntKind.wrap .u32 ((IntKind.wrap .u32 x12) * 2 ^ (min ((IntKind.wrap .i64 (((d11.2).tmod 4) * 8))).toNat 32))))), IntKind.wrap .i64 (d11.2 + 1)), rfl, hl3, (Wk.canonD [] [] [some 0] rfl trivial rfl (tmOC 0 tmO0 (e_A4vw_clean _)) (tmAllU 6 (tmAllU 5 (tmAllU 2 tmAll0 (Tm.ptr rfl)) (Tm.clean (Clean.agg (e_A16vu_clean _)))) (Tm.v _)))⟩
   ·
    have hl3 := cF hl3 h4; refine awp_exit ?_; refine lq_e ?_; refine bq_e ?_; refine sq_n ?_; obtain rfl := someInj hl3; exact ⟨_, rfl, (Wk.canonD [] [] [some 0] rfl trivial rfl (tmOC 0 tmO0 (e_A4vw_clean _)) (tmAllU 2 tmAll0 (Tm.ptr rfl)))⟩
 ·
  rintro _ rfl; clear hi1; unfold cipher_Words_S0; refine awp_nw [2] fun tz U u => ?_; (try simp only [go_sem]); refine qU u ?_; clear u U; refine awp_ret1 ?_; obtain rfl := someInj h0; refine endW_i ?_; refine end_ret0 rs82 qR ?_; exact qF
theorem math_bits_RotateLeft32_p (a0 : Int) (a1 : Int) {r : Int} (h0 : math_bits_RotateLeft32 a0 a1 = some r) : SndP K 90 [(vw a0), (vi a1)] (vw r) := by
 refine SndP.of_walkW hC (Clean.v _) (clean_cons (Clean.v _) (clean_cons (Clean.v _) clean_nil)) (show K.P.funcs[90]? = some Try.f90 from Try.func90) rfl rfl (by decide +kernel) (Nat.le_of_ble_eq_true rfl) ?_; unfold math_bits_RotateLeft32 at h0; refine awp_nw [0,1] fun tz U u => ?_; (try simp only [go_sem]); refine qU u ?_; clear u U; refine awp_nw [0,1] fun tz U u => ?_; (try simp only [go_sem]); refine qU u ?_; clear u U; refine awp_nw [0,5] fun tz U u => ?_; obtain ⟨x19, bx19, h0⟩ := bnd h0; have bx19 := chk_some bx19; simp only [Bool.and_eq_true, decide_eq_true_eq] at bx19; have gx19_0 := bx19; obtain ⟨x20, bx20, h0⟩ := bnd h0; have bx20 := chk_some bx20; simp only [Bool.and_eq_true, decide_eq_true_eq] at bx20; have gx20_0 := bx20; (try simp only [go_sem, gx19_0, gx20_0]); refine qU u ?_; clear u U; refine awp_ret1 ?_; obtain rfl := someInj h0; refine endW_i ?_; refine end_ret0 rs90 (rfl) ?_; exact qF
def cipher_Schedule_S0 (x10 : A4vw) : AS :=
 { objs := (upd (upd (fun _ => .dead) 0 (.live (e_A36vw A36vw.z))) 1 (.live (e_A4vw x10))), next := 2, tmps := (upd (upd (fun _ => .unk) 2 (.ptr 0 0)) 3 (.ptr 1 0)) }

def cipher_Schedule_S1 (d11 : A36vw) : AS :=
 { objs := (upd (fun _ => .dead) 0 (.live (e_A36vw d11))), next := 1, tmps := (upd (fun _ => .unk) 2 (.ptr 0 0)) }

def cipher_Schedule_S2 (d12 : (A36vw × Int)) : AS :=
 { objs := (upd (fun _ => .dead) 0 (.live (e_A36vw d12.1))), next := 1, tmps := (upd (upd (fun _ => .unk) 2 (.ptr 0 0)) 4 (vi d12.2)) }

theorem cipher_Schedule_p (a0 : A16vu) {r : A36vw} (h0 : cipher_Schedule a0 = some r) : SndP K 80 [(.agg (e_A16vu a0))] (.agg (e_A36vw r)) := by
 refine SndP.of_walkW hC (Clean.agg (e_A36vw_clean _)) (clean_cons (Clean.agg (e_A16vu_clean _)) clean_nil) (show K.P.funcs[80]? = some Try.f80 from Try.func80) rfl rfl (by decide +kernel) (Nat.le_of_ble_eq_true rfl) ?_; unfold cipher_Schedule at h0; refine awp_nw [0] fun tz U u => ?_; (try simp only [go_sem]); refine qU u ?_; clear u U; refine awp_nw [1,2] fun tz U u => ?_; obtain ⟨x10, bx10, h0⟩ := bnd h0; (try simp only [go_sem]); (refine xcall_p (cipher_Words_p a0 bx10) ?_; try dsimp only); (try refine xw_id ?_); (try simp only [go_sem]); refine u _ (cipher_Schedule_S0 x10) (Wk.canonD [] [] [some 1, some 4] rfl trivial rfl (tmOC 1 (tmOC 0 tmO0 (e_A36vw_clean _)) (e_A4vw_clean _)) (tmAllU 3 (tmAllU 2 tmAll0 (Tm.ptr rfl)) (Tm.ptr rfl))) ?_; clear u U; unfold cipher_Schedule_S0; refine awp_nr [2,3] (fun _ => rfl) fun tz => ?_; refine awp_regDW fun U u all hall => ?_; refine xd_id ?_; (try simp only [List.toList_toArray, List.map_cons, List.map_nil, List.size_toArray, List.length_cons, List.length_nil, Nat.zero_add]); (try simp only [Nat.reduceAdd]); (have gs1 : putAt (e_A36vw A36vw.z) 0 (e_A4vw x10) = e_A36vw { A36vw.z with a0 := x10.a0, a1 := x10.a1, a2 := x10.a2, a3 := x10.a3 } := by rfl); (have gs1m : min 4 36 = 4 := by rfl); (iterate 3 ((try simp only [go_sem, -Nat.reduceAdd, Int.sub_zero, Int.sub_zero, gs1, gs1m]); try simp only [Nat.reduceAdd])); refine And.intro ?_ (u _ _ (Wk.refl _ _ _) ?_)
 ·
  subst hall; clear u U; exact qP
 ·
  clear u U hall all; refine awp_assoc ?_; refine awp_nw [2] fun tz U u => ?_; (try simp only [go_sem]); refine qU u ?_; clear u U; obtain ⟨d11, hi2, h0⟩ := bnd h0; refine awp_cut (fun z => d11 = z) (fun d11 : A36vw => cipher_Schedule_S1 d11) ?_ ?_
  ·
   refine awp_block1 ?_; refine awp_loopS (fun n (d12 : (A36vw × Int)) => cipher_Schedule_L3 a0 n d12 = some d11) (fun d12 : (A36vw × Int) => cipher_Schedule_S2 d12) big ({ A36vw.z with a0 := x10.a0, a1 := x10.a1, a2 := x10.a2, a3 := x10.a3 }, 4) (Wk.canonD [] [] [some 0] rfl trivial rfl (tmOC 0 tmO0 (e_A36vw_clean _)) (tmAllU 4 (tmAllU 2 tmAll0 (Tm.ptr rfl)) (Tm.v _))) hi2 ?_; clear hi2; rintro n d12 hl4; rcases n with _ | n3
   ·
    (rw [cipher_Schedule_L3] at hl4; cases hl4)
   ·
    rw [cipher_Schedule_L3] at hl4; unfold cipher_Schedule_S2; refine awp_assoc ?_; refine awp_nw [2,4] fun tz U u => ?_; (try simp only [go_sem]); refine qU u ?_; clear u U; refine awp_cond (b := (decide (d12.2 < 36))) rfl (fun h5 => ?_) (fun h5 => ?_)
    ·
     have hl4 := cT hl4 h5; refine awp_skip ?_; refine awp_blockW ?_; refine awp_nr1 [2,4] (fun _ => rfl) fun tz => ?_; refine awp_regD1 fun U u all hall => ?_; refine xd_id ?_; (try simp only [List.toList_toArray, List.map_cons, List.map_nil, List.size_toArray, List.length_cons, List.length_nil, Nat.zero_add]); (try simp only [Nat.reduceAdd]); obtain ⟨x13, bx13, hl4⟩ := bnd hl4; obtain ⟨fx13_0, fx13_1, fx13_2, fx13_3⟩ := idxA_some bx13; (have fx13_6 : (e_A36vw d12.1)[(IntKind.wrap .i64 (d12.2 - 4)).toNat]? = some (vw x13) := by show (List.map vw [d12.1.a0, d12.1.a1, d12.1.a2, d12.1.a3, d12.1.a4, d12.1.a5, d12.1.a6, d12.1.a7, d12.1.a8, d12.1.a9, d12.1.a10, d12.1.a11, d12.1.a12, d12.1.a13, d12.1.a14, d12.1.a15, d12.1.a16, d12.1.a17, d12.1.a18, d12.1.a19, d12.1.a20, d12.1.a21, d12.1.a22, d12.1.a23, d12.1.a24, d12.1.a25, d12.1.a26, d12.1.a27, d12.1.a28, d12.1.a29, d12.1.a30, d12.1.a31, d12.1.a32, d12.1.a33, d12.1.a34, d12.1.a35])[(IntKind.wrap .i64 (d12.2 - 4)).toNat]? = _; rw [List.getElem?_map, fx13_2]; rfl); obtain ⟨x14, bx14, hl4⟩ := bnd hl4; obtain ⟨fx14_0, fx14_1, fx14_2, fx14_3⟩ := idxA_some bx14; (have fx14_6 : (e_A36vw d12.1)[(IntKind.wrap .i64 (d12.2 - 1)).toNat]? = some (vw x14) := by show (List.map vw [d12.1.a0, d12.1.a1, d12.1.a2, d12.1.a3, d12.1.a4, d12.1.a5, d12.1.a6, d12.1.a7, d12.1.a8, d12.1.a9, d12.1.a10, d12.1.a11, d12.1.a12, d12.1.a13, d12.1.a14, d12.1.a15, d12.1.a16, d12.1.a17, d12.1.a18, d12.1.a19, d12.1.a20, d12.1.a21, d12.1.a22, d12.1.a23, d12.1.a24, d12.1.a25, d12.1.a26, d12.1.a27, d12.1.a28, d12.1.a29, d12.1.a30, d12.1.a31, d12.1.a32, d12.1.a33, d12.1.a34, d12.1.a35])[(IntKind.wrap .i64 (d12.2 - 1)).toNat]? = _; rw [List.getElem?_map, fx14_2]; rfl); obtain ⟨x15, bx15, hl4⟩ := bnd hl4; (iterate 3 ((try simp only [go_sem, -Nat.reduceAdd, fx13_0, fx13_1, fx13_6, fx14_0, fx14_1, fx14_6]); try simp only [Nat.reduceAdd])); (refine xcallD_p (math_bits_RotateLeft32_p x14 7 bx15) ?_; try dsimp only); (try refine xd_id ?_); obtain ⟨x16, bx16, hl4⟩ := bnd hl4; obtain ⟨fx16_0, fx16_1, fx16_2, fx16_3⟩ := idxA_some bx16; (have fx16_6 : (e_A36vw d12.1)[(d12.2).toNat]? = some (vw x16) := by show (List.map vw [d12.1.a0, d12.1.a1, d12.1.a2, d12.1.a3, d12.1.a4, d12.1.a5, d12.1.a6, d12.1.a7, d12.1.a8, d12.1.a9, d12.1.a10, d12.1.a11, d12.1.a12, d12.1.a13, d12.1.a14, d12.1.a15, d12.1.a16, d12.1.a17, d12.1.a18, d12.1.a19, d12.1.a20, d12.1.a21, d12.1.a22, d12.1.a23, d12.1.a24, d12.1.a25, d12.1.a26, d12.1.a27, d12.1.a28, d12.1.a29, d12.1.a30, d12.1.a31, d12.1.a32, d12.1.a33, d12.1.a34, d12.1.a35])[(d12.2).toNat]? = _; rw [List.getElem?_map, fx16_2]; rfl); (have gs6b : (d12.2).toNat < 36 := by have h0 := of_eq_true fx16_0; have h1 := of_eq_true fx16_1; omega); have gs6 : (e_A36vw d12.1).set ((d12.2).toNat) (vw (IntKind.wrap .u32 (x13 + (bxor .u32 x15 (IntKind.wrap .u32 ((IntKind.wrap .u32 ((IntKind.wrap .u32 d12.2) * 2050759141)) + 525043411)))))) = e_A36vw (d12.1.setA ((d12.2).toNat) (IntKind.wrap .u32 (x13 + (bxor .u32 x15 (IntKind.wrap .u32 ((IntKind.wrap .u32 ((IntKind.wrap .u32 d12.2) * 2050759141)) + 525043411)))))) := e_A36vw_setA _ _ gs6b; have gs6l : ((d12.2).toNat + 1 ≤ 36) = True := eq_true (by omega); (iterate 3 ((try simp only [go_sem, -Nat.reduceAdd, fx13_0, fx13_1, fx13_6, fx14_0, fx14_1, fx14_6, fx16_0, fx16_1, fx16_6, gs6, gs6l]); try simp only [Nat.reduceAdd])); refine And.intro ?_ (u _ ?_)
     ·
      subst hall; clear u U; exact qP
     ·
      clear u U hall all; refine bq_n ?_; refine seqW_i ?_; refine awp_nw1 [2,4] fun tz U u => ?_; (try simp only [go_sem, fx13_0, fx13_1, fx13_6, fx14_0, fx14_1, fx14_6, fx16_0, fx16_1, fx16_6]); refine u _ ?_; clear u U; refine lq_n ?_; exact ⟨n3, ((d12.1.setA ((d12.2).toNat) (IntKind.wrap .u32 (x13 + (bxor .u32 x15 (IntKind.wrap .u32 ((IntKind.wrap .u32 ((IntKind.wrap .u32 d12.2) * 2050759141)) + 525043411)))))), IntKind.wrap .i64 (d12.2 + 1)), rfl, hl4, (Wk.canonD [] [] [some 0] rfl trivial rfl (tmOC 0 tmO0 (e_A36vw_clean _)) (tmAllU 4 (tmAllU 2 tmAll0 (Tm.ptr rfl)) (Tm.v _)))⟩
    ·
     have hl4 := cF hl4 h5; refine awp_exit ?_; refine lq_e ?_; refine bq_e ?_; refine sq_n ?_; obtain rfl := someInj hl4; exact ⟨_, rfl, (Wk.canonD [] [] [some 0] rfl trivial rfl (tmOC 0 tmO0 (e_A36vw_clean _)) (tmAllU 2 tmAll0 (Tm.ptr rfl)))⟩
  ·
   rintro _ rfl; clear hi2; unfold cipher_Schedule_S1; refine awp_nw [2] fun tz U u => ?_; (try simp only [go_sem]); refine qU u ?_; clear u U; refine awp_ret1 ?_; obtain rfl := someInj h0; refine endW_i ?_; refine end_ret0 rs80 qR ?_; exact qF
def cipher_mask_S0 (d19 : A4vw) : AS :=
 { objs := (upd (upd (fun _ => .dead) 0 (.live (e_A4vw d19))) 1 (.live (e_A4vw A4vw.z))), next := 2, tmps := (upd (upd (fun _ => .unk) 2 (.ptr 0 0)) 4 (.ptr 1 0)) }

def cipher_mask_S1 (a1 : A36vw) (d20 : (A4vw × Int)) : AS :=
 { objs := (upd (upd (upd (fun _ => .dead) 0 (.live (e_A4vw d20.1))) 1 (.live (e_A36vw a1))) 2 (.live (e_A4vw A4vw.z))), next := 3, tmps := (upd (upd (upd (upd (fun _ => .unk) 2 (.ptr 0 0)) 3 (.ptr 1 0)) 4 (.ptr 2 0)) 6 (vi d20.2)) }

theorem cipher_mask_p (a0 : A4vw) (a1 : A36vw) {r : A4vw} (h0 : cipher_mask a0 a1 = some r) : SndP K 81 [(.agg (e_A4vw a0)), (.agg (e_A36vw a1))] (.agg (e_A4vw r)) := by
 refine SndP.of_walkW hC (Clean.agg (e_A4vw_clean _)) (clean_cons (Clean.agg (e_A4vw_clean _)) (clean_cons (Clean.agg (e_A36vw_clean _)) clean_nil)) (show K.P.funcs[81]? = some Try.f81 from Try.func81) rfl rfl (by decide +kernel) (Nat.le_of_ble_eq_true rfl) ?_; unfold cipher_mask at h0; refine awp_nw [0,1] fun tz U u => ?_; (try simp only [go_sem]); refine qU u ?_; clear u U; refine awp_assoc ?_; refine awp_nw [2,3,4] fun tz U u => ?_; (try simp only [go_sem]); refine qU u ?_; clear u U; obtain ⟨d19, hi1, h0⟩ := bnd h0; refine awp_cut (fun z => d19 = z) (fun d19 : A4vw => cipher_mask_S0 d19) ?_ ?_
 ·
  refine awp_block1 ?_; refine awp_loopS (fun n (d20 : (A4vw × Int)) => cipher_mask_L2 a0 a1 n d20 = some d19) (fun d20 : (A4vw × Int) => cipher_mask_S1 a1 d20) big (a0, 0) (Wk.canonD [] [] [some 0, some 1, some 2] rfl trivial rfl (tmOC 2 (tmOC 1 (tmOC 0 tmO0 (e_A4vw_clean _)) (e_A36vw_clean _)) (e_A4vw_clean _)) (tmAllU 6 (tmAllU 4 (tmAllU 3 (tmAllU 2 tmAll0 (Tm.ptr rfl)) (Tm.ptr rfl)) (Tm.ptr rfl)) (Tm.v _))) hi1 ?_; clear hi1; rintro n d20 hl3; rcases n with _ | n2
  ·
   (rw [cipher_mask_L2] at hl3; cases hl3)
  ·
   rw [cipher_mask_L2] at hl3; unfold cipher_mask_S1; refine awp_nw [2,3,4,6] fun tz U u => ?_; (try simp only [go_sem]); refine qU u ?_; clear u U; refine awp_cond (b := (decide (d20.2 < 4))) rfl (fun h4 => ?_) (fun h4 => ?_)
   ·
    have hl3 := cT hl3 h4; refine awp_skip ?_; refine awp_blockW ?_; refine awp_nw [2,3,4,6] fun tz U u => ?_; (try simp only [go_sem]); refine qU u ?_; clear u U; refine awp_nr1 [2,3,4,5,6] (fun _ => rfl) fun tz => ?_; refine awp_regD1 fun U u all hall => ?_; refine xd_id ?_; (try simp only [List.toList_toArray, List.map_cons, List.map_nil, List.size_toArray, List.length_cons, List.length_nil, Nat.zero_add]); (try simp only [Nat.reduceAdd]); obtain ⟨x21, bx21, hl3⟩ := bnd hl3; obtain ⟨fx21_0, fx21_1, fx21_2, fx21_3⟩ := idxA_some bx21; (have fx21_6 : (e_A4vw d20.1)[(d20.2).toNat]? = some (vw x21) := by show (List.map vw [d20.1.a0, d20.1.a1, d20.1.a2, d20.1.a3])[(d20.2).toNat]? = _; rw [List.getElem?_map, fx21_2]; rfl); obtain ⟨x22, bx22, hl3⟩ := bnd hl3; obtain ⟨fx22_0, fx22_1, fx22_2, fx22_3⟩ := idxA_some bx22; (have fx22_6 : (e_A36vw a1)[(d20.2).toNat]? = some (vw x22) := by show (List.map vw [a1.a0, a1.a1, a1.a2, a1.a3, a1.a4, a1.a5, a1.a6, a1.a7, a1.a8, a1.a9, a1.a10, a1.a11, a1.a12, a1.a13, a1.a14, a1.a15, a1.a16, a1.a17, a1.a18, a1.a19, a1.a20, a1.a21, a1.a22, a1.a23, a1.a24, a1.a25, a1.a26, a1.a27, a1.a28, a1.a29, a1.a30, a1.a31, a1.a32, a1.a33, a1.a34, a1.a35])[(d20.2).toNat]? = _; rw [List.getElem?_map, fx22_2]; rfl); (have gs5b : (d20.2).toNat < 4 := by have h0 := of_eq_true fx21_0; have h1 := of_eq_true fx21_1; omega); have gs5 : (e_A4vw d20.1).set ((d20.2).toNat) (vw (bxor .u32 x21 x22)) = e_A4vw (d20.1.setA ((d20.2).toNat) (bxor .u32 x21 x22)) := e_A4vw_setA _ _ gs5b; have gs5l : ((d20.2).toNat + 1 ≤ 4) = True := eq_true (by omega); (iterate 3 ((try simp only [go_sem, -Nat.reduceAdd, fx21_0, fx21_1, fx21_6, fx22_0, fx22_1, fx22_6, gs5, gs5l]); try simp only [Nat.reduceAdd])); refine And.intro ?_ (u _ ?_)
    ·
     subst hall; clear u U; exact qP
    ·
     clear u U hall all; refine bq_n ?_; refine seqW_i ?_; refine awp_nw1 [2,3,4,6] fun tz U u => ?_; (try simp only [go_sem, fx21_0, fx21_1, fx21_6, fx22_0, fx22_1, fx22_6]); refine u _ ?_; clear u U; refine lq_n ?_; exact ⟨n2, ((d20.1.setA ((d20.2).toNat) (bxor .u32 x21 x22)), IntKind.wrap .i64 (d20.2 + 1)), rfl, hl3, (Wk.canonD [] [] [some 0, some 1, some 2] rfl trivial rfl (tmOC 2 (tmOC 1 (tmOC 0 tmO0 (e_A4vw_clean _)) (e_A36vw_clean _)) (e_A4vw_clean _)) (tmAllU 6 (tmAllU 4 (tmAllU 3 (tmAllU 2 tmAll0 (Tm.ptr rfl)) (Tm.ptr rfl)) (Tm.ptr rfl)) (Tm.v _)))⟩
   ·
    have hl3 := cF hl3 h4; refine awp_exit ?_; refine lq_e ?_; refine bq_e ?_; refine sq_n ?_; obtain rfl := someInj hl3; exact ⟨_, rfl, (Wk.canonD [] [] [some 0, some 2] rfl trivial rfl (tmOC 1 (tmOC 0 tmO0 (e_A4vw_clean _)) (e_A4vw_clean _)) (tmAllU 4 (tmAllU 2 tmAll0 (Tm.ptr rfl)) (Tm.ptr rfl)))⟩
 ·
  rintro _ rfl; clear hi1; unfold cipher_mask_S0; refine awp_nw [2,4] fun tz U u => ?_; (try simp only [go_sem]); refine qU u ?_; clear u U; refine awp_ret1 ?_; obtain rfl := someInj h0; refine endW_i ?_; refine end_ret0 rs81 qR ?_; exact qF
def cipher_Round_S0 (a0 : A4vw) (x27 : Int) (a1 : Int) (a2 : Int) : AS :=
 { objs := (upd (upd (fun _ => .dead) 0 (.live (e_A4vw { a0 with a0 := IntKind.wrap .u32 (a0.a0 + (bxor .u32 x27 a1)) }))) 1 (.live (e_A4vw A4vw.z))), next := 2, tmps := (upd (upd (upd (upd (fun _ => .unk) 1 (vw a1)) 2 (vw a2)) 3 (.ptr 0 0)) 6 (.ptr 1 0)) }

def cipher_Round_S1 (a0 : A4vw) (x27 : Int) (a1 : Int) (x29 : Int) (a2 : Int) (x28 : Int) : AS :=
 { objs := (upd (upd (fun _ => .dead) 0 (.live (e_A4vw { a0 with a0 := IntKind.wrap .u32 (a0.a0 + (bxor .u32 x27 a1)), a1 := bxor .u32 a0.a1 x29, a2 := IntKind.wrap .u32 (a0.a2 + (bxor .u32 x28 a2)) }))) 1 (.live (e_A4vw A4vw.z))), next := 2, tmps := (upd (upd (upd (fun _ => .unk) 2 (vw a2)) 3 (.ptr 0 0)) 6 (.ptr 1 0)) }

theorem cipher_Round_p (a0 : A4vw) (a1 : Int) (a2 : Int) {r : A4vw} (h0 : cipher_Round a0 a1 a2 = some r) : SndP K 83 [(.agg (e_A4vw a0)), (vw a1), (vw a2)] (.agg (e_A4vw r)) := by
 refine SndP.of_walkW hC (Clean.agg (e_A4vw_clean _)) (clean_cons (Clean.agg (e_A4vw_clean _)) (clean_cons (Clean.v _) (clean_cons (Clean.v _) clean_nil))) (show K.P.funcs[83]? = some Try.f83 from Try.func83) rfl rfl (by decide +kernel) (Nat.le_of_ble_eq_true rfl) ?_; unfold cipher_Round at h0; refine awp_nw [0,1,2] fun tz U u => ?_; (try simp only [go_sem]); refine qU u ?_; clear u U; refine awp_nr [1,2,3,6] (fun _ => rfl) fun tz => ?_; refine awp_regDW fun U u all hall => ?_; refine xd_id ?_; (try simp only [List.toList_toArray, List.map_cons, List.map_nil, List.size_toArray, List.length_cons, List.length_nil, Nat.zero_add]); (try simp only [Nat.reduceAdd]); obtain ⟨x27, bx27, h0⟩ := bnd h0; (iterate 3 ((try simp only [go_sem]); try simp only [Nat.reduceAdd])); (refine xcallD_p (math_bits_RotateLeft32_p a0.a1 5 bx27) ?_; try dsimp only); (try refine xd_id ?_); (iterate 3 ((try simp only [go_sem]); try simp only [Nat.reduceAdd])); refine And.intro ?_ (u _ (cipher_Round_S0 a0 x27 a1 a2) (Wk.canonD [] [] [some 0, some 1] rfl trivial rfl (tmOC 1 (tmOC 0 tmO0 (e_A4vw_clean _)) (e_A4vw_clean _)) (tmAllU 6 (tmAllU 3 (tmAllU 2 (tmAllU 1 tmAll0 (Tm.v _)) (Tm.v _)) (Tm.ptr rfl)) (Tm.ptr rfl))) ?_)
 ·
  subst hall; clear u U; exact qP
 ·
  clear u U hall all; unfold cipher_Round_S0; refine awp_nr [1,2,3,6] (fun _ => rfl) fun tz => ?_; refine awp_regDW fun U u all hall => ?_; refine xd_id ?_; (try simp only [List.toList_toArray, List.map_cons, List.map_nil, List.size_toArray, List.length_cons, List.length_nil, Nat.zero_add]); (try simp only [Nat.reduceAdd]); obtain ⟨x28, bx28, h0⟩ := bnd h0; (iterate 3 ((try simp only [go_sem]); try simp only [Nat.reduceAdd])); (refine xcallD_p (math_bits_RotateLeft32_p a0.a3 9 bx28) ?_; try dsimp only); (try refine xd_id ?_); (iterate 3 ((try simp only [go_sem]); try simp only [Nat.reduceAdd])); refine And.intro ?_ (u _ _ (Wk.refl _ _ _) ?_)
  ·
   subst hall; clear u U; exact qP
  ·
   clear u U hall all; refine awp_nr [1,2,3,6] (fun _ => rfl) fun tz => ?_; refine awp_regDW fun U u all hall => ?_; refine xd_id ?_; (try simp only [List.toList_toArray, List.map_cons, List.map_nil, List.size_toArray, List.length_cons, List.length_nil, Nat.zero_add]); (try simp only [Nat.reduceAdd]); obtain ⟨x29, bx29, h0⟩ := bnd h0; (iterate 3 ((try simp only [go_sem]); try simp only [Nat.reduceAdd])); (refine xcallD_p (math_bits_RotateLeft32_p (IntKind.wrap .u32 ((IntKind.wrap .u32 (a0.a2 + (bxor .u32 x28 a2))) + a1)) 13 bx29) ?_; try dsimp only); (try refine xd_id ?_); (iterate 3 ((try simp only [go_sem]); try simp only [Nat.reduceAdd])); refine And.intro ?_ (u _ (cipher_Round_S1 a0 x27 a1 x29 a2 x28) (Wk.canonD [] [] [some 0, some 1] rfl trivial rfl (tmOC 1 (tmOC 0 tmO0 (e_A4vw_clean _)) (e_A4vw_clean _)) (tmAllU 6 (tmAllU 3 (tmAllU 2 tmAll0 (Tm.v _)) (Tm.ptr rfl)) (Tm.ptr rfl))) ?_)
   ·
    subst hall; clear u U; exact qP
   ·
    clear u U hall all; unfold cipher_Round_S1; refine awp_nr [2,3,6] (fun _ => rfl) fun tz => ?_; refine awp_regDW fun U u all hall => ?_; refine xd_id ?_; (try simp only [List.toList_toArray, List.map_cons, List.map_nil, List.size_toArray, List.length_cons, List.length_nil, Nat.zero_add]); (try simp only [Nat.reduceAdd]); obtain ⟨x30, bx30, h0⟩ := bnd h0; (iterate 3 ((try simp only [go_sem]); try simp only [Nat.reduceAdd])); (refine xcallD_p (math_bits_RotateLeft32_p (IntKind.wrap .u32 ((IntKind.wrap .u32 (a0.a0 + (bxor .u32 x27 a1))) + a2)) 19 bx30) ?_; try dsimp only); (try refine xd_id ?_); (iterate 3 ((try simp only [go_sem]); try simp only [Nat.reduceAdd])); refine And.intro ?_ (u _ _ (Wk.refl _ _ _) ?_)
    ·
     subst hall; clear u U; exact qP
    ·
     clear u U hall all; refine awp_nw [3,6] fun tz U u => ?_; (try simp only [go_sem]); refine qU u ?_; clear u U; refine awp_ret1 ?_; obtain rfl := someInj h0; refine endW_i ?_; refine end_ret0 rs83 qR ?_; exact qF
def cipher_Join_S0 (d29 : A16vu) : AS :=
 { objs := (upd (fun _ => .dead) 0 (.live (e_A16vu d29))), next := 1, tmps := (upd (fun _ => .unk) 2 (.ptr 0 0)) }

def cipher_Join_S1 (a0 : A4vw) (d30 : (A16vu × Int)) : AS :=
 { objs := (upd (upd (fun _ => .dead) 0 (.live (e_A4vw a0))) 1 (.live (e_A16vu d30.1))), next := 2, tmps := (upd (upd (upd (fun _ => .unk) 1 (.ptr 0 0)) 2 (.ptr 1 0)) 4 (vi d30.2)) }

theorem cipher_Join_p (a0 : A4vw) {r : A16vu} (h0 : cipher_Join a0 = some r) : SndP K 84 [(.agg (e_A4vw a0))] (.agg (e_A16vu r)) := by
 refine SndP.of_walkW hC (Clean.agg (e_A16vu_clean _)) (clean_cons (Clean.agg (e_A4vw_clean _)) clean_nil) (show K.P.funcs[84]? = some Try.f84 from Try.func84) rfl rfl (by decide +kernel) (Nat.le_of_ble_eq_true rfl) ?_; unfold cipher_Join at h0; refine awp_nw [0] fun tz U u => ?_; (try simp only [go_sem]); refine qU u ?_; clear u U; refine awp_assoc ?_; refine awp_nw [1,2] fun tz U u => ?_; (try simp only [go_sem]); refine qU u ?_; clear u U; obtain ⟨d29, hi1, h0⟩ := bnd h0; refine awp_cut (fun z => d29 = z) (fun d29 : A16vu => cipher_Join_S0 d29) ?_ ?_
 ·
  refine awp_block1 ?_; refine awp_loopS (fun n (d30 : (A16vu × Int)) => cipher_Join_L2 a0 n d30 = some d29) (fun d30 : (A16vu × Int) => cipher_Join_S1 a0 d30) big (A16vu.z, 0) (Wk.canonD [] [] [some 0, some 1] rfl trivial rfl (tmOC 1 (tmOC 0 tmO0 (e_A4vw_clean _)) (e_A16vu_clean _)) (tmAllU 4 (tmAllU 2 (tmAllU 1 tmAll0 (Tm.ptr rfl)) (Tm.ptr rfl)) (Tm.v _))) hi1 ?_; clear hi1; rintro n d30 hl3; rcases n with _ | n2
  ·
   (rw [cipher_Join_L2] at hl3; cases hl3)
  ·
   rw [cipher_Join_L2] at hl3; unfold cipher_Join_S1; refine awp_nw [1,2,4] fun tz U u => ?_; (try simp only [go_sem]); refine qU u ?_; clear u U; refine awp_cond (b := (decide (d30.2 < 16))) rfl (fun h4 => ?_) (fun h4 => ?_)
   ·
    have hl3 := cT hl3 h4; refine awp_skip ?_; refine awp_blockW ?_; refine awp_nw [1,2,4] fun tz U u => ?_; (try simp only [go_sem]); refine qU u ?_; clear u U; refine awp_nw1 [1,2,3,4] fun tz U u => ?_; obtain ⟨x31, bx31, hl3⟩ := bnd hl3; obtain ⟨fx31_0, fx31_1, fx31_2, fx31_3⟩ := idxA_some bx31; (have fx31_6 : (e_A4vw a0)[(IntKind.wrap .i64 ((d30.2).tdiv 4)).toNat]? = some (vw x31) := by show (List.map vw [a0.a0, a0.a1, a0.a2, a0.a3])[(IntKind.wrap .i64 ((d30.2).tdiv 4)).toNat]? = _; rw [List.getElem?_map, fx31_2]; rfl); obtain ⟨x32, bx32, hl3⟩ := bnd hl3; have bx32 := chk_some bx32; simp only [Bool.and_eq_true, decide_eq_true_eq] at bx32; have gx32_0 := bx32; obtain ⟨x33, bx33, hl3⟩ := bnd hl3; obtain ⟨fx33_0, fx33_1, fx33_2, fx33_3⟩ := idxA_some bx33; (have fx33_6 : (e_A16vu d30.1)[(d30.2).toNat]? = some (vu x33) := by show (List.map vu [d30.1.a0, d30.1.a1, d30.1.a2, d30.1.a3, d30.1.a4, d30.1.a5, d30.1.a6, d30.1.a7, d30.1.a8, d30.1.a9, d30.1.a10, d30.1.a11, d30.1.a12, d30.1.a13, d30.1.a14, d30.1.a15])[(d30.2).toNat]? = _; rw [List.getElem?_map, fx33_2]; rfl); (have gs5b : (d30.2).toNat < 16 := by have h0 := of_eq_true fx33_0; have h1 := of_eq_true fx33_1; omega); have gs5 : (e_A16vu d30.1).set ((d30.2).toNat) (vu (IntKind.wrap .u8 ((x31).fdiv (2 ^ (min ((IntKind.wrap .i64 (((d30.2).tmod 4) * 8))).toNat 32))))) = e_A16vu (d30.1.setA ((d30.2).toNat) (IntKind.wrap .u8 ((x31).fdiv (2 ^ (min ((IntKind.wrap .i64 (((d30.2).tmod 4) * 8))).toNat 32))))) := e_A16vu_setA _ _ gs5b; have gs5l : ((d30.2).toNat + 1 ≤ 16) = True := eq_true (by omega); (try simp only [go_sem, Int.reduceEq, fx31_0, fx31_1, fx31_6, gx32_0, fx33_0, fx33_1, fx33_6, gs5, gs5l]); refine u _ ?_; clear u U; refine bq_n ?_; refine seqW_i ?_; refine awp_nw1 [1,2,4] fun tz U u => ?_; (try simp only [go_sem, fx31_0, fx31_1, fx31_6, fx33_0, fx33_1, fx33_6]); refine u _ ?_; clear u U; refine lq_n ?_; exact ⟨n2, ((d30.1.setA ((d30.2).toNat) (IntKind.wrap .u8 ((x31).fdiv (2 ^ (min ((IntKind.wrap .i64 (((d30.2).tmod 4) * 8))).toNat 32))))), IntKind.wrap .i64 (d30.2 + 1)), rfl, hl3, (Wk.canonD [] [] [some 0, some 1] rfl trivial rfl (tmOC 1 (tmOC 0 tmO0 (e_A4vw_clean _)) (e_A16vu_clean _)) (tmAllU 4 (tmAllU 2 (tmAllU 1 tmAll0 (Tm.ptr rfl)) (Tm.ptr rfl)) (Tm.v _)))⟩
   ·
    have hl3 := cF hl3 h4; refine awp_exit ?_; refine lq_e ?_; refine bq_e ?_; refine sq_n ?_; obtain rfl := someInj hl3; exact ⟨_, rfl, (Wk.canonD [] [] [some 1] rfl trivial rfl (tmOC 0 tmO0 (e_A16vu_clean _)) (tmAllU 2 tmAll0 (Tm.ptr rfl)))⟩
 ·
  rintro _ rfl; clear hi1; unfold cipher_Join_S0; refine awp_nw [2] fun tz U u => ?_; (try simp only [go_sem]); refine qU u ?_; clear u U; refine awp_ret1 ?_; obtain rfl := someInj h0; refine endW_i ?_; refine end_ret0 rs84 qR ?_; exact qF
def cipher_Encrypt_S0 (a1 : A16vu) (x10 : A36vw) : AS :=
 { objs := (upd (upd (upd (fun _ => .dead) 0 (.live (e_A16vu a1))) 1 (.live (e_A16vu A16vu.z))) 2 (.live (e_A36vw x10))), next := 3, tmps := (upd (upd (upd (fun _ => .unk) 3 (.ptr 0 0)) 4 (.ptr 1 0)) 5 (.ptr 2 0)) }

def cipher_Encrypt_S1 (x10 : A36vw) (x12 : A4vw) : AS :=
 { objs := (upd (upd (upd (fun _ => .dead) 0 (.live (e_A16vu A16vu.z))) 1 (.live (e_A36vw x10))) 2 (.live (e_A4vw x12))), next := 3, tmps := (upd (upd (upd (fun _ => .unk) 4 (.ptr 0 0)) 5 (.ptr 1 0)) 6 (.ptr 2 0)) }

def cipher_Encrypt_S2 (d13 : A4vw) : AS :=
 { objs := (upd (upd (fun _ => .dead) 0 (.live (e_A16vu A16vu.z))) 1 (.live (e_A4vw d13))), next := 2, tmps := (upd (upd (fun _ => .unk) 4 (.ptr 0 0)) 6 (.ptr 1 0)) }

def cipher_Encrypt_S3 (x10 : A36vw) (d14 : (A4vw × Int)) : AS :=
 { objs := (upd (upd (upd (fun _ => .dead) 0 (.live (e_A16vu A16vu.z))) 1 (.live (e_A36vw x10))) 2 (.live (e_A4vw d14.1))), next := 3, tmps := (upd (upd (upd (upd (fun _ => .unk) 4 (.ptr 0 0)) 5 (.ptr 1 0)) 6 (.ptr 2 0)) 14 (vi d14.2)) }

theorem cipher_Encrypt_p (a0 : A16vu) (a1 : A16vu) {r : A16vu} (h0 : cipher_Encrypt a0 a1 = some r) : SndP K 73 [(.agg (e_A16vu a0)), (.agg (e_A16vu a1))] (.agg (e_A16vu r)) := by
 refine SndP.of_walkW hC (Clean.agg (e_A16vu_clean _)) (clean_cons (Clean.agg (e_A16vu_clean _)) (clean_cons (Clean.agg (e_A16vu_clean _)) clean_nil)) (show K.P.funcs[73]? = some Try.f73 from Try.func73) rfl rfl (by decide +kernel) (Nat.le_of_ble_eq_true rfl) ?_; unfold cipher_Encrypt at h0; refine awp_nw [0,1] fun tz U u => ?_; (try simp only [go_sem]); refine qU u ?_; clear u U; refine awp_nw [2,3,4] fun tz U u => ?_; obtain ⟨x10, bx10, h0⟩ := bnd h0; (try simp only [go_sem]); (refine xcall_p (cipher_Schedule_p a0 bx10) ?_; try dsimp only); (try refine xw_id ?_); (try simp only [go_sem]); refine u _ (cipher_Encrypt_S0 a1 x10) (Wk.canonD [] [] [some 1, some 2, some 5] rfl trivial rfl (tmOC 2 (tmOC 1 (tmOC 0 tmO0 (e_A16vu_clean _)) (e_A16vu_clean _)) (e_A36vw_clean _)) (tmAllU 5 (tmAllU 4 (tmAllU 3 tmAll0 (Tm.ptr rfl)) (Tm.ptr rfl)) (Tm.ptr rfl))) ?_; clear u U; unfold cipher_Encrypt_S0; refine awp_nr [3,4,5] (fun _ => rfl) fun tz => ?_; refine awp_regDW fun U u all hall => ?_; refine xd_id ?_; (try simp only [List.toList_toArray, List.map_cons, List.map_nil, List.size_toArray, List.length_cons, List.length_nil, Nat.zero_add]); (try simp only [Nat.reduceAdd]); obtain ⟨x11, bx11, h0⟩ := bnd h0; (iterate 3 ((try simp only [go_sem, -Nat.reduceAdd]); try simp only [Nat.reduceAdd])); (refine xcallD_p (cipher_Words_p a1 bx11) ?_; try dsimp only); (try refine xd_id ?_); obtain ⟨x12, bx12, h0⟩ := bnd h0; (iterate 3 ((try simp only [go_sem, -Nat.reduceAdd]); try simp only [Nat.reduceAdd])); (refine xcallD_p (cipher_mask_p x11 x10 bx12) ?_; try dsimp only); (try refine xd_id ?_); (iterate 3 ((try simp only [go_sem, -Nat.reduceAdd]); try simp only [Nat.reduceAdd])); refine And.intro ?_ (u _ (cipher_Encrypt_S1 x10 x12) (Wk.canonD [] [] [some 1, some 2, some 7] rfl trivial rfl (tmOC 2 (tmOC 1 (tmOC 0 tmO0 (e_A16vu_clean _)) (e_A36vw_clean _)) (e_A4vw_clean _)) (tmAllU 6 (tmAllU 5 (tmAllU 4 tmAll0 (Tm.ptr rfl)) (Tm.ptr rfl)) (Tm.ptr rfl))) ?_)
 ·
  subst hall; clear u U; exact qP
 ·
  clear u U hall all; unfold cipher_Encrypt_S1; refine awp_assoc ?_; refine awp_nw [4,5,6] fun tz U u => ?_; (try simp only [go_sem]); refine qU u ?_; clear u U; obtain ⟨d13, hi1, h0⟩ := bnd h0; refine awp_cut (fun z => d13 = z) (fun d13 : A4vw => cipher_Encrypt_S2 d13) ?_ ?_
  ·
   refine awp_block1 ?_; refine awp_loopS (fun n (d14 : (A4vw × Int)) => cipher_Encrypt_L4 x10 a0 a1 n d14 = some d13) (fun d14 : (A4vw × Int) => cipher_Encrypt_S3 x10 d14) big (x12, 0) (Wk.canonD [] [] [some 0, some 1, some 2] rfl trivial rfl (tmOC 2 (tmOC 1 (tmOC 0 tmO0 (e_A16vu_clean _)) (e_A36vw_clean _)) (e_A4vw_clean _)) (tmAllU 14 (tmAllU 6 (tmAllU 5 (tmAllU 4 tmAll0 (Tm.ptr rfl)) (Tm.ptr rfl)) (Tm.ptr rfl)) (Tm.v _))) hi1 ?_; clear hi1; rintro n d14 hl3; rcases n with _ | n2
   ·
    (rw [cipher_Encrypt_L4] at hl3; cases hl3)
   ·
    rw [cipher_Encrypt_L4] at hl3; unfold cipher_Encrypt_S3; refine awp_nw [4,5,6,14] fun tz U u => ?_; (try simp only [go_sem]); refine qU u ?_; clear u U; refine awp_cond (b := (decide (d14.2 < 16))) rfl (fun h4 => ?_) (fun h4 => ?_)
    ·
     have hl3 := cT hl3 h4; refine awp_skip ?_; refine awp_blockW ?_; refine awp_nw [4,5,6,14] fun tz U u => ?_; (try simp only [go_sem]); refine qU u ?_; clear u U; refine awp_nr1 [4,5,6,7,14] (fun _ => rfl) fun tz => ?_; refine awp_regD1 fun U u all hall => ?_; refine xd_id ?_; (try simp only [List.toList_toArray, List.map_cons, List.map_nil, List.size_toArray, List.length_cons, List.length_nil, Nat.zero_add]); (try simp only [Nat.reduceAdd]); obtain ⟨x15, bx15, hl3⟩ := bnd hl3; obtain ⟨fx15_0, fx15_1, fx15_2, fx15_3⟩ := idxA_some bx15; (have fx15_6 : (e_A36vw x10)[(IntKind.wrap .i64 (4 + (IntKind.wrap .i64 (2 * d14.2)))).toNat]? = some (vw x15) := by show (List.map vw [x10.a0, x10.a1, x10.a2, x10.a3, x10.a4, x10.a5, x10.a6, x10.a7, x10.a8, x10.a9, x10.a10, x10.a11, x10.a12, x10.a13, x10.a14, x10.a15, x10.a16, x10.a17, x10.a18, x10.a19, x10.a20, x10.a21, x10.a22, x10.a23, x10.a24, x10.a25, x10.a26, x10.a27, x10.a28, x10.a29, x10.a30, x10.a31, x10.a32, x10.a33, x10.a34, x10.a35])[(IntKind.wrap .i64 (4 + (IntKind.wrap .i64 (2 * d14.2)))).toNat]? = _; rw [List.getElem?_map, fx15_2]; rfl); obtain ⟨x16, bx16, hl3⟩ := bnd hl3; obtain ⟨fx16_0, fx16_1, fx16_2, fx16_3⟩ := idxA_some bx16; (have fx16_6 : (e_A36vw x10)[(IntKind.wrap .i64 (5 + (IntKind.wrap .i64 (2 * d14.2)))).toNat]? = some (vw x16) := by show (List.map vw [x10.a0, x10.a1, x10.a2, x10.a3, x10.a4, x10.a5, x10.a6, x10.a7, x10.a8, x10.a9, x10.a10, x10.a11, x10.a12, x10.a13, x10.a14, x10.a15, x10.a16, x10.a17, x10.a18, x10.a19, x10.a20, x10.a21, x10.a22, x10.a23, x10.a24, x10.a25, x10.a26, x10.a27, x10.a28, x10.a29, x10.a30, x10.a31, x10.a32, x10.a33, x10.a34, x10.a35])[(IntKind.wrap .i64 (5 + (IntKind.wrap .i64 (2 * d14.2)))).toNat]? = _; rw [List.getElem?_map, fx16_2]; rfl); obtain ⟨x17, bx17, hl3⟩ := bnd hl3; (iterate 3 ((try simp only [go_sem, -Nat.reduceAdd, fx15_0, fx15_1, fx15_6, fx16_0, fx16_1, fx16_6]); try simp only [Nat.reduceAdd])); (refine xcallD_p (cipher_Round_p d14.1 x15 x16 bx17) ?_; try dsimp only); (try refine xd_id ?_); (iterate 3 ((try simp only [go_sem, -Nat.reduceAdd, fx15_0, fx15_1, fx15_6, fx16_0, fx16_1, fx16_6]); try simp only [Nat.reduceAdd])); refine And.intro ?_ (u _ ?_)
     ·
      subst hall; clear u U; exact qP
     ·
      clear u U hall all; refine bq_n ?_; refine seqW_i ?_; refine awp_nw1 [4,5,6,14] fun tz U u => ?_; (try simp only [go_sem, fx15_0, fx15_1, fx15_6, fx16_0, fx16_1, fx16_6]); refine u _ ?_; clear u U; refine lq_n ?_; exact ⟨n2, (x17, IntKind.wrap .i64 (d14.2 + 1)), rfl, hl3, (Wk.canonD [] [] [some 0, some 1, some 2] rfl trivial rfl (tmOC 2 (tmOC 1 (tmOC 0 tmO0 (e_A16vu_clean _)) (e_A36vw_clean _)) (e_A4vw_clean _)) (tmAllU 14 (tmAllU 6 (tmAllU 5 (tmAllU 4 tmAll0 (Tm.ptr rfl)) (Tm.ptr rfl)) (Tm.ptr rfl)) (Tm.v _)))⟩
    ·
     have hl3 := cF hl3 h4; refine awp_exit ?_; refine lq_e ?_; refine bq_e ?_; refine sq_n ?_; obtain rfl := someInj hl3; exact ⟨_, rfl, (Wk.canonD [] [] [some 0, some 2] rfl trivial rfl (tmOC 1 (tmOC 0 tmO0 (e_A16vu_clean _)) (e_A4vw_clean _)) (tmAllU 6 (tmAllU 4 tmAll0 (Tm.ptr rfl)) (Tm.ptr rfl)))⟩
  ·
   rintro _ rfl; clear hi1; unfold cipher_Encrypt_S2; refine awp_nw [4,6] fun tz U u => ?_; obtain ⟨x18, bx18, h0⟩ := bnd h0; (try simp only [go_sem]); (refine xcall_p (cipher_Join_p d13 bx18) ?_; try dsimp only); (try refine xw_id ?_); (try simp only [go_sem]); refine qU u ?_; clear u U; refine awp_ret1 ?_; obtain rfl := someInj h0; refine endW_i ?_; refine end_ret0 rs73 qR ?_; exact qF
def derive_Mac_S0 (a0 : A16vu) (a1 : (List Int)) : AS :=
 { objs := (upd (upd (upd (fun _ => .dead) 0 (.live (e_A16vu a0))) 1 (.live (e_A16vu A16vu.z))) 2 (.live (e_A16vu { A16vu.z with a0 := 3 }))), next := 3, tmps := (upd (upd (upd (upd (fun _ => .unk) 1 (.imm (List.map vu a1) a1.length)) 2 (.ptr 0 0)) 4 (.ptr 1 0)) 5 (.ptr 2 0)) }

def derive_Mac_S1 (a0 : A16vu) (a1 : (List Int)) (d6 : A16vu) : AS :=
 { objs := (upd (upd (upd (fun _ => .dead) 0 (.live (e_A16vu a0))) 1 (.live (e_A16vu A16vu.z))) 2 (.live (e_A16vu d6))), next := 3, tmps := (upd (upd (upd (upd (fun _ => .unk) 1 (.imm (List.map vu a1) a1.length)) 2 (.ptr 0 0)) 4 (.ptr 1 0)) 5 (.ptr 2 0)) }

def derive_Mac_S2 (a0 : A16vu) (a1 : (List Int)) (d7 : (A16vu × Int)) : AS :=
 { objs := (upd (upd (upd (fun _ => .dead) 0 (.live (e_A16vu a0))) 1 (.live (e_A16vu A16vu.z))) 2 (.live (e_A16vu d7.1))), next := 3, tmps := (upd (upd (upd (upd (upd (fun _ => .unk) 1 (.imm (List.map vu a1) a1.length)) 2 (.ptr 0 0)) 4 (.ptr 1 0)) 5 (.ptr 2 0)) 10 (vi d7.2)) }

def derive_Mac_S4 (d11 : A16vu) : AS :=
 { objs := (upd (upd (fun _ => .dead) 0 (.live (e_A16vu A16vu.z))) 1 (.live (e_A16vu d11))), next := 2, tmps := (upd (upd (fun _ => .unk) 4 (.ptr 0 0)) 5 (.ptr 1 0)) }

def derive_Mac_S5 (a0 : A16vu) (a1 : (List Int)) (d12 : (A16vu × Int)) : AS :=
 { objs := (upd (upd (upd (fun _ => .dead) 0 (.live (e_A16vu a0))) 1 (.live (e_A16vu A16vu.z))) 2 (.live (e_A16vu d12.1))), next := 3, tmps := (upd (upd (upd (upd (upd (upd (upd (fun _ => .unk) 1 (.imm (List.map vu a1) a1.length)) 2 (.ptr 0 0)) 4 (.ptr 1 0)) 5 (.ptr 2 0)) 26 (.imm (List.map vu a1) a1.length)) 27 (vi (a1.length : Int))) 28 (vi d12.2)) }

theorem derive_Mac_p (a0 : A16vu) (a1 : (List Int)) {r : A16vu} (h0 : derive_Mac a0 a1 = some r) : SndP K 64 [(.agg (e_A16vu a0)), (S_vu a1)] (.agg (e_A16vu r)) := by
 refine SndP.of_walkW hC (Clean.agg (e_A16vu_clean _)) (clean_cons (Clean.agg (e_A16vu_clean _)) (clean_cons (S_vu_clean _) clean_nil)) (show K.P.funcs[64]? = some Try.f64 from Try.func64) rfl rfl (by decide +kernel) (Nat.le_of_ble_eq_true rfl) ?_; unfold derive_Mac at h0; refine awp_nw [0,1] fun tz U u => ?_; (try simp only [go_sem]); refine qU u ?_; clear u U; refine awp_nw [1,2,4] fun tz U u => ?_; (try simp only [go_sem]); refine u _ (derive_Mac_S0 a0 a1) (Wk.canonD [] [] [some 0, some 1, some 3] rfl trivial rfl (tmOC 2 (tmOC 1 (tmOC 0 tmO0 (e_A16vu_clean _)) (e_A16vu_clean _)) (e_A16vu_clean _)) (tmAllU 5 (tmAllU 4 (tmAllU 2 (tmAllU 1 tmAll0 (Tm.clean (Clean.imm (vu_clean _)))) (Tm.ptr rfl)) (Tm.ptr rfl)) (Tm.ptr rfl))) ?_; clear u U; unfold derive_Mac_S0; refine awp_assoc ?_; refine awp_nw [1,2,4,5] fun tz U u => ?_; (try simp only [go_sem]); refine qU u ?_; clear u U; obtain ⟨d6, hi1, h0⟩ := bnd h0; refine awp_cut (fun z => d6 = z) (fun d6 : A16vu => derive_Mac_S1 a0 a1 d6) ?_ ?_
 ·
  refine awp_block1 ?_; refine awp_loopS (fun n (d7 : (A16vu × Int)) => derive_Mac_L3 a0 a1 n d7 = some d6) (fun d7 : (A16vu × Int) => derive_Mac_S2 a0 a1 d7) big ({ A16vu.z with a0 := 3 }, 0) (Wk.canonD [] [] [some 0, some 1, some 2] rfl trivial rfl (tmOC 2 (tmOC 1 (tmOC 0 tmO0 (e_A16vu_clean _)) (e_A16vu_clean _)) (e_A16vu_clean _)) (tmAllU 10 (tmAllU 5 (tmAllU 4 (tmAllU 2 (tmAllU 1 tmAll0 (Tm.clean (Clean.imm (vu_clean _)))) (Tm.ptr rfl)) (Tm.ptr rfl)) (Tm.ptr rfl)) (Tm.v _))) hi1 ?_; clear hi1; rintro n d7 hl3; rcases n with _ | n2
  ·
   (rw [derive_Mac_L3] at hl3; cases hl3)
  ·
   rw [derive_Mac_L3] at hl3; unfold derive_Mac_S2; refine awp_nw [1,2,4,5,10] fun tz U u => ?_; (try simp only [go_sem]); refine qU u ?_; clear u U; refine awp_cond (b := (decide (d7.2 < 8))) rfl (fun h4 => ?_) (fun h4 => ?_)
   ·
    have hl3 := cT hl3 h4; refine awp_skip ?_; refine awp_blockW ?_; refine awp_nw [1,2,4,5,10] fun tz U u => ?_; (try simp only [go_sem]); refine qU u ?_; clear u U; refine awp_nw1 [1,2,4,5,6,10] fun tz U u => ?_; obtain ⟨x8, bx8, hl3⟩ := bnd hl3; have bx8 := chk_some bx8; simp only [Bool.and_eq_true, decide_eq_true_eq] at bx8; have gx8_0 := bx8; obtain ⟨x9, bx9, hl3⟩ := bnd hl3; obtain ⟨fx9_0, fx9_1, fx9_2, fx9_3⟩ := idxA_some bx9; (have fx9_6 : (e_A16vu d7.1)[(IntKind.wrap .i64 (1 + d7.2)).toNat]? = some (vu x9) := by show (List.map vu [d7.1.a0, d7.1.a1, d7.1.a2, d7.1.a3, d7.1.a4, d7.1.a5, d7.1.a6, d7.1.a7, d7.1.a8, d7.1.a9, d7.1.a10, d7.1.a11, d7.1.a12, d7.1.a13, d7.1.a14, d7.1.a15])[(IntKind.wrap .i64 (1 + d7.2)).toNat]? = _; rw [List.getElem?_map, fx9_2]; rfl); (have gs5b : (IntKind.wrap .i64 (1 + d7.2)).toNat < 16 := by have h0 := of_eq_true fx9_0; have h1 := of_eq_true fx9_1; omega); have gs5 : (e_A16vu d7.1).set ((IntKind.wrap .i64 (1 + d7.2)).toNat) (vu (IntKind.wrap .u8 (((a1.length : Int)).fdiv (2 ^ (min ((IntKind.wrap .i64 (8 * d7.2))).toNat 64))))) = e_A16vu (d7.1.setA ((IntKind.wrap .i64 (1 + d7.2)).toNat) (IntKind.wrap .u8 (((a1.length : Int)).fdiv (2 ^ (min ((IntKind.wrap .i64 (8 * d7.2))).toNat 64))))) := e_A16vu_setA _ _ gs5b; have gs5l : ((IntKind.wrap .i64 (1 + d7.2)).toNat + 1 ≤ 16) = True := eq_true (by omega); (try simp only [go_sem, gx8_0, fx9_0, fx9_1, fx9_6, gs5, gs5l]); refine u _ ?_; clear u U; refine bq_n ?_; refine seqW_i ?_; refine awp_nw1 [1,2,4,5,10] fun tz U u => ?_; (try simp only [go_sem, fx9_0, fx9_1, fx9_6]); refine u _ ?_; clear u U; refine lq_n ?_; exact ⟨n2, ((d7.1.setA ((IntKind.wrap .i64 (1 + d7.2)).toNat) (IntKind.wrap .u8 (((a1.length : Int)).fdiv (2 ^ (min ((IntKind.wrap .i64 (8 * d7.2))).toNat 64))))), IntKind.wrap .i64 (d7.2 + 1)), rfl, hl3, (Wk.canonD [] [] [some 0, some 1, some 2] rfl trivial rfl (tmOC 2 (tmOC 1 (tmOC 0 tmO0 (e_A16vu_clean _)) (e_A16vu_clean _)) (e_A16vu_clean _)) (tmAllU 10 (tmAllU 5 (tmAllU 4 (tmAllU 2 (tmAllU 1 tmAll0 (Tm.clean (Clean.imm (vu_clean _)))) (Tm.ptr rfl)) (Tm.ptr rfl)) (Tm.ptr rfl)) (Tm.v _)))⟩
   ·
    have hl3 := cF hl3 h4; refine awp_exit ?_; refine lq_e ?_; refine bq_e ?_; refine sq_n ?_; obtain rfl := someInj hl3; exact ⟨_, rfl, (Wk.canonD [] [] [some 0, some 1, some 2] rfl trivial rfl (tmOC 2 (tmOC 1 (tmOC 0 tmO0 (e_A16vu_clean _)) (e_A16vu_clean _)) (e_A16vu_clean _)) (tmAllU 5 (tmAllU 4 (tmAllU 2 (tmAllU 1 tmAll0 (Tm.clean (Clean.imm (vu_clean _)))) (Tm.ptr rfl)) (Tm.ptr rfl)) (Tm.ptr rfl)))⟩
 ·
  rintro _ rfl; clear hi1; unfold derive_Mac_S1; refine awp_nw [1,2,4,5] fun tz U u => ?_; obtain ⟨x10, bx10, h0⟩ := bnd h0; (try simp only [go_sem]); (refine xcall_p (cipher_Encrypt_p a0 d6 bx10) ?_; try dsimp only); (try refine xw_id ?_); (try simp only [go_sem]); refine qU u ?_; clear u U; refine awp_assoc ?_; refine awp_nw [1,2,4,5] fun tz U u => ?_; (try simp only [go_sem]); refine qU u ?_; clear u U; obtain ⟨d11, hi6, h0⟩ := bnd h0; refine awp_cut (fun z => d11 = z) (fun d11 : A16vu => derive_Mac_S4 d11) ?_ ?_
  ·
   refine awp_block1 ?_; refine awp_loopS (fun n (d12 : (A16vu × Int)) => derive_Mac_L6 a1 a0 n d12 = some d11) (fun d12 : (A16vu × Int) => derive_Mac_S5 a0 a1 d12) big (x10, 0) (Wk.canonD [] [] [some 0, some 1, some 2] rfl trivial rfl (tmOC 2 (tmOC 1 (tmOC 0 tmO0 (e_A16vu_clean _)) (e_A16vu_clean _)) (e_A16vu_clean _)) (tmAllU 28 (tmAllU 27 (tmAllU 26 (tmAllU 5 (tmAllU 4 (tmAllU 2 (tmAllU 1 tmAll0 (Tm.clean (Clean.imm (vu_clean _)))) (Tm.ptr rfl)) (Tm.ptr rfl)) (Tm.ptr rfl)) (Tm.clean (Clean.imm (vu_clean _)))) (Tm.v _)) (Tm.v _))) hi6 ?_; clear hi6; rintro n d12 hl8; rcases n with _ | n7
   ·
    (rw [derive_Mac_L6] at hl8; cases hl8)
   ·
    rw [derive_Mac_L6] at hl8; unfold derive_Mac_S5; refine awp_nw [1,2,4,5,26,27,28] fun tz U u => ?_; (try simp only [go_sem]); refine qU u ?_; clear u U; refine awp_cond (b := (decide (d12.2 < (a1.length : Int)))) rfl (fun h9 => ?_) (fun h9 => ?_)
    ·
     have hl8 := cT hl8 h9; refine awp_skip ?_; refine awp_blockW ?_; refine awp_nw [1,2,4,5,26,27,28] fun tz U u => ?_; obtain ⟨x13, bx13, hl8⟩ := bnd hl8; obtain ⟨fx13_0, fx13_1, fx13_2, fx13_3⟩ := idx_some bx13; (try simp only [go_sem, fx13_0, fx13_1, fx13_2]); refine qU u ?_; clear u U; refine awp_nw [1,2,4,5,7,8,26,27,28] fun tz U u => ?_; obtain ⟨x14, bx14, hl8⟩ := bnd hl8; obtain ⟨fx14_0, fx14_1, fx14_2, fx14_3⟩ := idxA_some bx14; (have fx14_6 : (e_A16vu d12.1)[((d12.2).tmod 16).toNat]? = some (vu x14) := by show (List.map vu [d12.1.a0, d12.1.a1, d12.1.a2, d12.1.a3, d12.1.a4, d12.1.a5, d12.1.a6, d12.1.a7, d12.1.a8, d12.1.a9, d12.1.a10, d12.1.a11, d12.1.a12, d12.1.a13, d12.1.a14, d12.1.a15])[((d12.2).tmod 16).toNat]? = _; rw [List.getElem?_map, fx14_2]; rfl); (have gs10b : ((d12.2).tmod 16).toNat < 16 := by have h0 := of_eq_true fx14_0; have h1 := of_eq_true fx14_1; omega); have gs10 : (e_A16vu d12.1).set (((d12.2).tmod 16).toNat) (vu (bxor .u8 x14 x13)) = e_A16vu (d12.1.setA (((d12.2).tmod 16).toNat) (bxor .u8 x14 x13)) := e_A16vu_setA _ _ gs10b; have gs10l : (((d12.2).tmod 16).toNat + 1 ≤ 16) = True := eq_true (by omega); (try simp only [go_sem, fx13_0, fx13_1, fx13_2, Int.reduceEq, fx14_0, fx14_1, fx14_6, gs10, gs10l]); refine qU u ?_; clear u U; refine awp_nw [1,2,4,5,7,26,27,28] fun tz U u => ?_; refine xw_stop 4 qS qS (by rfl) fun V v => ?_; refine xw_id ?_; (try simp only [go_sem, fx13_0, fx13_1, fx13_2, fx14_0, fx14_1, fx14_6, Int.reduceEq]); refine v _ ?_; clear v V; refine xw_cut 6 [(1, (.imm (List.map vu a1) a1.length)), (2, (.ptr 0 0)), (4, (.ptr 1 0)), (5, (.ptr 2 0)), (26, (.imm (List.map vu a1) a1.length)), (27, (vi (a1.length : Int))), (28, (vi d12.2)), (49, (vb ((((d12.2).tmod 16) == 15) || (d12.2 == (IntKind.wrap .i64 ((a1.length : Int) - 1))))))] qS qS (by rfl) (fun V v => ?_) fun tz => ?_
     ·
      refine xw_id ?_; rcases Bool.eq_false_or_eq_true (((d12.2).tmod 16) == 15) with h11 | h11
      ·
       (try simp only [go_sem, fx13_0, fx13_1, fx13_2, fx14_0, fx14_1, fx14_6, Int.reduceEq, h11]); exact v _ ⟨rfl, rfl, rfl, rfl, rfl, rfl, rfl, rfl, (qB h11), trivial⟩
      ·
       (try simp only [go_sem, fx13_0, fx13_1, fx13_2, fx14_0, fx14_1, fx14_6, Int.reduceEq, h11]); exact v _ ⟨rfl, rfl, rfl, rfl, rfl, rfl, rfl, rfl, (qB h11), trivial⟩
     ·
      refine xw_id ?_; (try simp only [go_sem, fx13_0, fx13_1, fx13_2, fx14_0, fx14_1, fx14_6, Int.reduceEq]); refine qU u ?_; clear u U; refine awp_cond1 (b := ((((d12.2).tmod 16) == 15) || (d12.2 == (IntKind.wrap .i64 ((a1.length : Int) - 1))))) rfl (fun h12 => ?_) (fun h12 => ?_)
      ·
       have hl8 := cT hl8 h12; refine awp_nw1 [1,2,4,5,26,27,28] fun tz U u => ?_; obtain ⟨x15, bx15, hl8⟩ := bnd hl8; (try simp only [go_sem, fx13_0, fx13_1, fx13_2, fx14_0, fx14_1, fx14_6]); (refine xcall_p (cipher_Encrypt_p a0 (d12.1.setA (((d12.2).tmod 16).toNat) (bxor .u8 x14 x13)) bx15) ?_; try dsimp only); (try refine xw_id ?_); (try simp only [go_sem, fx13_0, fx13_1, fx13_2, fx14_0, fx14_1, fx14_6]); refine u _ ?_; clear u U; refine bq_n ?_; refine seqW_i ?_; refine awp_nw1 [1,2,4,5,26,27,28] fun tz U u => ?_; (try simp only [go_sem, fx13_0, fx13_1, fx13_2, fx14_0, fx14_1, fx14_6]); refine u _ ?_; clear u U; refine lq_n ?_; exact ⟨n7, (x15, IntKind.wrap .i64 (d12.2 + 1)), rfl, hl8, (Wk.canonD [] [] [some 0, some 1, some 2] rfl trivial rfl (tmOC 2 (tmOC 1 (tmOC 0 tmO0 (e_A16vu_clean _)) (e_A16vu_clean _)) (e_A16vu_clean _)) (tmAllU 28 (tmAllU 27 (tmAllU 26 (tmAllU 5 (tmAllU 4 (tmAllU 2 (tmAllU 1 tmAll0 (Tm.clean (Clean.imm (vu_clean _)))) (Tm.ptr rfl)) (Tm.ptr rfl)) (Tm.ptr rfl)) (Tm.clean (Clean.imm (vu_clean _)))) (Tm.v _)) (Tm.v _)))⟩
      ·
       have hl8 := cF hl8 h12; refine awp_skip1 ?_; refine bq_n ?_; refine seqW_i ?_; refine awp_nw1 [1,2,4,5,26,27,28] fun tz U u => ?_; (try simp only [go_sem, fx13_0, fx13_1, fx13_2, fx14_0, fx14_1, fx14_6]); refine u _ ?_; clear u U; refine lq_n ?_; exact ⟨n7, ((d12.1.setA (((d12.2).tmod 16).toNat) (bxor .u8 x14 x13)), IntKind.wrap .i64 (d12.2 + 1)), rfl, hl8, (Wk.canonD [] [] [some 0, some 1, some 2] rfl trivial rfl (tmOC 2 (tmOC 1 (tmOC 0 tmO0 (e_A16vu_clean _)) (e_A16vu_clean _)) (e_A16vu_clean _)) (tmAllU 28 (tmAllU 27 (tmAllU 26 (tmAllU 5 (tmAllU 4 (tmAllU 2 (tmAllU 1 tmAll0 (Tm.clean (Clean.imm (vu_clean _)))) (Tm.ptr rfl)) (Tm.ptr rfl)) (Tm.ptr rfl)) (Tm.clean (Clean.imm (vu_clean _)))) (Tm.v _)) (Tm.v _)))⟩
    ·
     have hl8 := cF hl8 h9; refine awp_exit ?_; refine lq_e ?_; refine bq_e ?_; refine sq_n ?_; obtain rfl := someInj hl8; exact ⟨_, rfl, (Wk.canonD [] [] [some 1, some 2] rfl trivial rfl (tmOC 1 (tmOC 0 tmO0 (e_A16vu_clean _)) (e_A16vu_clean _)) (tmAllU 5 (tmAllU 4 tmAll0 (Tm.ptr rfl)) (Tm.ptr rfl)))⟩
  ·
   rintro _ rfl; clear hi6; unfold derive_Mac_S4; refine awp_nw [4,5] fun tz U u => ?_; (try simp only [go_sem]); refine qU u ?_; clear u U; refine awp_ret1 ?_; obtain rfl := someInj h0; refine endW_i ?_; refine end_ret0 rs64 qR ?_; exact qF
theorem derive_two_r (a0 : Int) {r : (List Int)} (h0 : derive_two a0 = some r) : SndR K 75 [(vi a0)] (fun q => (.ref (q 0) 0 r.length 1)) [(List.map vu r)] := by
 refine SndR.of_walkW hC (show K.P.funcs[75]? = some Try.f75 from Try.func75) rfl rfl (by decide +kernel) (Nat.le_of_ble_eq_true rfl) ?_; unfold derive_two at h0; refine awp_nw [0] fun tz U u => ?_; (try simp only [go_sem]); refine qU u ?_; clear u U; refine awp_nw [0] fun tz U u => ?_; (try simp only [go_sem]); refine qU u ?_; clear u U; refine awp_ret1 ?_; obtain rfl := someInj h0; refine endW_i ?_; refine end_ret0 rs75 (rfl) ?_; refine Res.mk [] [some 6] rfl (resOU List.not_mem_nil rfl (TmL.of_eq qL (vu_clean _)) resO0) (Tm.refL rfl ?_); (all_goals (first | rfl | (simp only [List.length_append, List.length_take, List.length_drop, List.length_cons, List.length_nil, List.length_modify, List.length_set, Nat.zero_add] <;> omega) | omega))

theorem derive_two_m (a0 : Int) {r : (List Int)} (h0 : derive_two a0 = some r) : SndM K 75 [(vi a0)] (fun q => (.ref (q 0) 0 r.length 1)) [(List.map vu r)] :=
 fun hs => Snd.of_newM (RenM.ref 0 0 _ _) (rows_all_cons (vu_clean _) rows_all_nil) (clean_cons (Clean.v _) clean_nil) (derive_two_r a0 h0) hs

theorem derive_two_e (a0 : Int) {r : (List Int)} (h0 : derive_two a0 = some r) (fr : Nat) (hs : HS) : SndE K 75 [(vi a0)] hs fr ⟨(fun q : Nat → Nat => (.ref (q 0) 0 r.length 1)) fun _ => fr, .new (List.map vu r)⟩ :=
 SndE.of_res (RenM.ref 0 0 _ _) (vu_clean _) (clean_cons (Clean.v _) clean_nil) (fun a b h => by simp only [h]) (derive_two_r a0 h0) hs fr

theorem derive_two_p (a0 : Int) {r : (List Int)} (h0 : derive_two a0 = some r) : SndP K 75 [(vi a0)] (S_vu r) :=
 SndM.pure (derive_two_m a0 h0) (S_vu_clean _) (clean_cons (Clean.v _) clean_nil) (by simp only [go_sem, newL_n, newL_c, upd_get, fz, nilS, cond_true, cond_false, List.drop_zero, List.take_length, List.length_map, ble_self] <;> rfl)
def derive_join_S0 (d4 : (List Int)) : AS :=
 { objs := (upd (fun _ => .dead) 0 (.live (List.map vu d4))), next := 1, tmps := (upd (fun _ => .unk) 2 (.ref 0 0 ((d4).length) 1)) }

def derive_join_S1 (a0 : (List (List Int))) (d5 : (List Int × Int)) : AS :=
 { objs := (upd (fun _ => .dead) 0 (.live (List.map vu d5.1))), next := 1, tmps := (upd (upd (upd (upd (fun _ => .unk) 2 (.ref 0 0 ((d5.1).length) 1)) 5 (.imm (List.map S_vu a0) a0.length)) 6 (vi (a0.length : Int))) 7 (vi d5.2)) }

theorem derive_join_r (a0 : (List (List Int))) {r : (List Int)} (h0 : derive_join a0 = some r) : SndR K 74 [(S_S_vu a0)] (fun q => (.ref (q 0) 0 r.length 1)) [(List.map vu r)] := by
 refine SndR.of_walkW hC (show K.P.funcs[74]? = some Try.f74 from Try.func74) rfl rfl (by decide +kernel) (Nat.le_of_ble_eq_true rfl) ?_; unfold derive_join at h0; refine awp_nw [0] fun tz U u => ?_; (try simp only [go_sem]); refine qU u ?_; clear u U; refine awp_assoc ?_; refine awp_nw [0,2] fun tz U u => ?_; (try simp only [go_sem]); refine qU u ?_; clear u U; obtain ⟨d4, hi1, h0⟩ := bnd h0; refine awp_cut (fun z => d4 = z) (fun d4 : (List Int) => derive_join_S0 d4) ?_ ?_
 ·
  refine awp_block1 ?_; refine awp_loopS (fun n (d5 : (List Int × Int)) => derive_join_L2 a0 n d5 = some d4) (fun d5 : (List Int × Int) => derive_join_S1 a0 d5) big ([], 0) (Wk.canonD [] [] [none] rfl trivial rfl (tmON 0 tmO0 rfl) (tmAllU 7 (tmAllU 6 (tmAllU 5 (tmAllU 2 tmAll0 (Tm.thaw _ _ _)) (Tm.clean (Clean.imm (cS_vu _)))) (Tm.v _)) (Tm.v _))) hi1 ?_; clear hi1; rintro n d5 hl3; rcases n with _ | n2
  ·
   (rw [derive_join_L2] at hl3; cases hl3)
  ·
   rw [derive_join_L2] at hl3; unfold derive_join_S1; refine awp_nw [2,5,6,7] fun tz U u => ?_; (try simp only [go_sem]); refine qU u ?_; clear u U; refine awp_cond (b := (decide (d5.2 < (a0.length : Int)))) rfl (fun h4 => ?_) (fun h4 => ?_)
   ·
    have hl3 := cT hl3 h4; refine awp_skip ?_; refine awp_blockW ?_; refine awp_nw [2,5,6,7] fun tz U u => ?_; obtain ⟨x6, bx6, hl3⟩ := bnd hl3; obtain ⟨fx6_0, fx6_1, fx6_2, fx6_3⟩ := idx_some bx6; (have fx6_9 : (List.map S_vu a0)[(d5.2).toNat]? = some (S_vu x6) := by rw [List.getElem?_map, fx6_2]; rfl); (try simp only [go_sem, fx6_0, fx6_1, fx6_2, fx6_9]); refine qU u ?_; clear u U; refine awp_nw1 [2,4,5,6,7] fun tz U u => ?_; obtain ⟨x7, bx7, hl3⟩ := bnd hl3; have bx7 := chk_some bx7; simp only [Bool.and_eq_true, decide_eq_true_eq] at bx7; have gx7_0 := bx7; (try simp only [go_sem, fx6_0, fx6_1, fx6_2, fx6_9, gx7_0]); refine u _ ?_; clear u U; refine bq_n ?_; refine seqW_i ?_; refine awp_nw1 [2,5,6,7] fun tz U u => ?_; (try simp only [go_sem, fx6_0, fx6_1, fx6_2, fx6_9]); refine u _ ?_; clear u U; refine lq_n ?_; exact ⟨n2, ((d5.1 ++ x6), IntKind.wrap .i64 (d5.2 + 1)), rfl, hl3, (by refine Wk.canonD [] [] [some 7] rfl trivial rfl (tmOE 0 tmO0 (vu_clean _)) (tmAllU 7 (tmAllU 6 (tmAllU 5 (tmAllU 2 tmAll0 (Tm.refL rfl ?_)) (Tm.clean (Clean.imm (cS_vu _)))) (Tm.v _)) (Tm.v _)); all_goals (first | rfl | (simp only [List.length_append, List.length_take, List.length_drop, List.length_cons, List.length_nil, List.length_modify, List.length_set, Nat.zero_add] <;> omega) | omega))⟩
   ·
    have hl3 := cF hl3 h4; refine awp_exit ?_; refine lq_e ?_; refine bq_e ?_; refine sq_n ?_; obtain rfl := someInj hl3; exact ⟨_, rfl, (by refine Wk.canonD [] [] [some 0] rfl trivial rfl (tmOE 0 tmO0 (vu_clean _)) (tmAllU 2 tmAll0 (Tm.refL rfl ?_)); all_goals (first | rfl | (simp only [List.length_append, List.length_take, List.length_drop, List.length_cons, List.length_nil, List.length_modify, List.length_set, Nat.zero_add] <;> omega) | omega))⟩
 ·
  rintro _ rfl; clear hi1; unfold derive_join_S0; refine awp_nw [2] fun tz U u => ?_; (try simp only [go_sem]); refine qU u ?_; clear u U; refine awp_ret1 ?_; obtain rfl := someInj h0; refine endW_i ?_; refine end_ret0 rs74 (rfl) ?_; refine Res.mk [] [some 0] rfl (resOU List.not_mem_nil rfl (TmL.of_eq qL (vu_clean _)) resO0) (Tm.refL rfl ?_); (all_goals (first | rfl | (simp only [List.length_append, List.length_take, List.length_drop, List.length_cons, List.length_nil, List.length_modify, List.length_set, Nat.zero_add] <;> omega) | omega))

theorem derive_join_m (a0 : (List (List Int))) {r : (List Int)} (h0 : derive_join a0 = some r) : SndM K 74 [(S_S_vu a0)] (fun q => (.ref (q 0) 0 r.length 1)) [(List.map vu r)] :=
 fun hs => Snd.of_newM (RenM.ref 0 0 _ _) (rows_all_cons (vu_clean _) rows_all_nil) (clean_cons (S_S_vu_clean _) clean_nil) (derive_join_r a0 h0) hs

theorem derive_join_e (a0 : (List (List Int))) {r : (List Int)} (h0 : derive_join a0 = some r) (fr : Nat) (hs : HS) : SndE K 74 [(S_S_vu a0)] hs fr ⟨(fun q : Nat → Nat => (.ref (q 0) 0 r.length 1)) fun _ => fr, .new (List.map vu r)⟩ :=
 SndE.of_res (RenM.ref 0 0 _ _) (vu_clean _) (clean_cons (S_S_vu_clean _) clean_nil) (fun a b h => by simp only [h]) (derive_join_r a0 h0) hs fr

theorem derive_join_p (a0 : (List (List Int))) {r : (List Int)} (h0 : derive_join a0 = some r) : SndP K 74 [(S_S_vu a0)] (S_vu r) :=
 SndM.pure (derive_join_m a0 h0) (S_vu_clean _) (clean_cons (S_S_vu_clean _) clean_nil) (by simp only [go_sem, newL_n, newL_c, upd_get, fz, nilS, cond_true, cond_false, List.drop_zero, List.take_length, List.length_map, ble_self] <;> rfl)
def derive_Input_3_S0 (x57 : (List Int)) : AS :=
 { objs := (upd (fun _ => .dead) 0 (.live (List.map vu x57))), next := 1, tmps := (upd (fun _ => .unk) 6 (.ref 0 0 x57.length 1)) }

theorem derive_Input_3_r (a0 : (List Int)) (a1 : Int) {r : (List Int)} (h0 : derive_Input_3 a0 a1 = some r) : SndR K 65 [(.v (.string ⟨#[97, 117, 116, 104]⟩)), (S_vu a0), (vi a1)] (fun q => (.ref (q 0) 0 r.length 1)) [(List.map vu r)] := by
 refine SndR.of_walkW hC (show K.P.funcs[65]? = some Try.f65 from Try.func65) rfl rfl (by decide +kernel) (Nat.le_of_ble_eq_true rfl) ?_; unfold derive_Input_3 at h0; refine awp_nw [0,1,2] fun tz U u => ?_; (try simp only [go_sem]); refine qU u ?_; clear u U; refine awp_nw [0,1,2] fun tz U u => ?_; (have gs1 : (⟨#[97, 117, 116, 104]⟩ : ByteArray).size = 4 := by rfl); (have gs2 : sbE K.P 9 29 (.v (.string ⟨#[97, 117, 116, 104]⟩)) = some (.imm (List.map vu [97, 117, 116, 104]) 4) := by kernel_rfl); obtain ⟨x55, bx55, h0⟩ := bnd h0; (try simp only [go_sem, gs1, gs2]); (refine xcall_M (derive_two_m (a0.length : Int) bx55) ?_; try dsimp only); (try refine xw_id ?_); obtain ⟨x56, bx56, h0⟩ := bnd h0; (try simp only [go_sem, gs1, gs2]); (refine xcall_M (derive_two_m a1 bx56) ?_; try dsimp only); (try refine xw_id ?_); obtain ⟨x57, bx57, h0⟩ := bnd h0; (try simp only [go_sem, gs1, gs2]); (refine xcall_ML (by first | (simp only [go_sem, fz, nilS, cond_true, cond_false, gs1, gs2] <;> rfl) | (simp only [go_sem, fz, List.length_set, ble_self, take_set, cond_true, cond_false, gs1, gs2] <;> rfl)) (derive_join_m [[IntKind.wrap .u8 4], [97, 117, 116, 104], x55, a0, x56] bx57) (fun _ => by repeat' (first | exact NoV.v _ | exact NoV.ref _ _ _ _ | exact NoV.onil | refine NoV.ocons ?_ ?_ | exact NoV.nil | refine NoV.tup ?_ | refine NoV.agg ?_ | refine NoV.rows (fun _ => ?_) _ | refine NoV.maps (fun _ => ?_) _ | refine NoV.cons ?_ ?_)) (by repeat' (first | exact NoV.v _ | exact NoV.ref _ _ _ _ | exact NoV.onil | refine NoV.ocons ?_ ?_ | exact NoV.nil | refine NoV.tup ?_ | refine NoV.agg ?_ | refine NoV.rows (fun _ => ?_) _ | refine NoV.maps (fun _ => ?_) _ | refine NoV.cons ?_ ?_)) ?_; try dsimp only); (try refine xw_id ?_); (try simp only [go_sem, gs1, gs2]); refine u _ (derive_Input_3_S0 x57) (by refine Wk.canonD [] [] [some 18] rfl trivial rfl (tmOE 0 tmO0 (vu_clean _)) (tmAllU 6 tmAll0 (Tm.refL rfl ?_)); all_goals (first | rfl | (simp only [List.length_append, List.length_take, List.length_drop, List.length_cons, List.length_nil, List.length_modify, List.length_set, Nat.zero_add] <;> omega) | omega)) ?_; clear u U; unfold derive_Input_3_S0; refine awp_ret1 ?_; obtain rfl := someInj h0; refine endW_i ?_; refine end_ret0 rs65 (rfl) ?_; refine Res.mk [] [some 0] rfl (resOU List.not_mem_nil rfl (TmL.of_eq qL (vu_clean _)) resO0) (Tm.refL rfl ?_); (all_goals (first | rfl | (simp only [List.length_append, List.length_take, List.length_drop, List.length_cons, List.length_nil, List.length_modify, List.length_set, Nat.zero_add] <;> omega) | omega))

theorem derive_Input_3_m (a0 : (List Int)) (a1 : Int) {r : (List Int)} (h0 : derive_Input_3 a0 a1 = some r) : SndM K 65 [(.v (.string ⟨#[97, 117, 116, 104]⟩)), (S_vu a0), (vi a1)] (fun q => (.ref (q 0) 0 r.length 1)) [(List.map vu r)] :=
 fun hs => Snd.of_newM (RenM.ref 0 0 _ _) (rows_all_cons (vu_clean _) rows_all_nil) (clean_cons (Clean.v _) (clean_cons (S_vu_clean _) (clean_cons (Clean.v _) clean_nil))) (derive_Input_3_r a0 a1 h0) hs

theorem derive_Input_3_e (a0 : (List Int)) (a1 : Int) {r : (List Int)} (h0 : derive_Input_3 a0 a1 = some r) (fr : Nat) (hs : HS) : SndE K 65 [(.v (.string ⟨#[97, 117, 116, 104]⟩)), (S_vu a0), (vi a1)] hs fr ⟨(fun q : Nat → Nat => (.ref (q 0) 0 r.length 1)) fun _ => fr, .new (List.map vu r)⟩ :=
 SndE.of_res (RenM.ref 0 0 _ _) (vu_clean _) (clean_cons (Clean.v _) (clean_cons (S_vu_clean _) (clean_cons (Clean.v _) clean_nil))) (fun a b h => by simp only [h]) (derive_Input_3_r a0 a1 h0) hs fr

theorem derive_Input_3_p (a0 : (List Int)) (a1 : Int) {r : (List Int)} (h0 : derive_Input_3 a0 a1 = some r) : SndP K 65 [(.v (.string ⟨#[97, 117, 116, 104]⟩)), (S_vu a0), (vi a1)] (S_vu r) :=
 SndM.pure (derive_Input_3_m a0 a1 h0) (S_vu_clean _) (clean_cons (Clean.v _) (clean_cons (S_vu_clean _) (clean_cons (Clean.v _) clean_nil))) (by simp only [go_sem, newL_n, newL_c, upd_get, fz, nilS, cond_true, cond_false, List.drop_zero, List.take_length, List.length_map, ble_self] <;> rfl)
def derive_Expand_3_S0 (a2 : Int) (d54 : (List Int)) : AS :=
 { objs := (upd (fun _ => .dead) 0 (.live (List.map vu d54))), next := 1, tmps := (upd (upd (fun _ => .unk) 3 (vi a2)) 10 (.ref 0 0 ((d54).length) 1)) }

def derive_Expand_3_S1 (a0 : A16vu) (a1 : (List Int)) (a2 : Int) (d55 : (List Int × Int)) : AS :=
 { objs := (upd (upd (fun _ => .dead) 0 (.live (e_A16vu a0))) 1 (.live (List.map vu d55.1))), next := 2, tmps := (upd (upd (upd (upd (upd (upd (fun _ => .unk) 1 (.v (.string ⟨#[97, 117, 116, 104]⟩))) 2 (.imm (List.map vu a1) a1.length)) 3 (vi a2)) 4 (.ptr 0 0)) 10 (.ref 1 0 ((d55.1).length) 1)) 11 (vi d55.2)) }

def derive_Expand_3_S3 (a0 : A16vu) (d55 : (List Int × Int)) (x57 : A16vu) (a1 : (List Int)) (a2 : Int) : AS :=
 { objs := (upd (upd (upd (fun _ => .dead) 0 (.live (e_A16vu a0))) 1 (.live (List.map vu d55.1))) 2 (.live (e_A16vu x57))), next := 3, tmps := (upd (upd (upd (upd (upd (upd (upd (fun _ => .unk) 1 (.v (.string ⟨#[97, 117, 116, 104]⟩))) 2 (.imm (List.map vu a1) a1.length)) 3 (vi a2)) 4 (.ptr 0 0)) 10 (.ref 1 0 d55.1.length 1)) 11 (vi d55.2)) 12 (.ptr 2 0)) }

theorem derive_Expand_3_r (a0 : A16vu) (a1 : (List Int)) (a2 : Int) {r : ((List Int) × Int)} (h0 : derive_Expand_3 a0 a1 a2 = some r) : SndR K 44 [(.agg (e_A16vu a0)), (.v (.string ⟨#[97, 117, 116, 104]⟩)), (S_vu a1), (vi a2)] (fun q => (.tup [(.ref (q 0) 0 r.1.length 1), (vi r.2)])) [(List.map vu r.1)] := by
 refine SndR.of_walkW hC (show K.P.funcs[44]? = some Try.f44 from Try.func44) rfl rfl (by decide +kernel) (Nat.le_of_ble_eq_true rfl) ?_; unfold derive_Expand_3 at h0; refine awp_nw [0,1,2,3] fun tz U u => ?_; (try simp only [go_sem]); refine qU u ?_; clear u U; refine awp_assoc ?_; refine awp_nw [1,2,3,4] fun tz U u => ?_; (try simp only [go_sem]); refine qU u ?_; clear u U; refine awp_cond (b := (decide (a2 < 0))) rfl (fun h1 => ?_) (fun h1 => ?_)
 ·
  have h0 := cT h0 h1; refine awp_assoc ?_; refine awp_nw [] fun tz U u => ?_; (try simp only [go_sem]); refine qU u ?_; clear u U; refine awp_ret ?_; obtain rfl := someInj h0; refine endW_i ?_; refine end_ret0 rs44 (rfl) ?_; refine Res.mk [] [none] rfl (resON resO0) (Tm.tup (TmL.cons (Tm.thaw _ _ _) (TmL.cons (Tm.v _) TmL.nil)))
 ·
  have h0 := cF h0 h1; refine awp_skip ?_; refine awp_assoc ?_; refine awp_nw [1,2,3,4] fun tz U u => ?_; (have gs2 : (⟨#[97, 117, 116, 104]⟩ : ByteArray).size = 4 := by rfl); refine xw_stop 9 qS qS (by rfl) fun V v => ?_; refine xw_id ?_; (try simp only [go_sem, gs2]); refine v _ ?_; clear v V; refine xw_cut 3 [(1, (.v (.string ⟨#[97, 117, 116, 104]⟩))), (2, (.imm (List.map vu a1) a1.length)), (3, (vi a2)), (4, (.ptr 0 0)), (26, (vb ((decide (256 < (a1.length : Int))) || (decide (1024 < a2)))))] qS qS (by rfl) (fun V v => ?_) fun tz => ?_
  ·
   refine xw_id ?_; rcases Bool.eq_false_or_eq_true (decide (256 < (a1.length : Int))) with h3 | h3
   ·
    (try simp only [go_sem, gs2, h3]); exact v _ ⟨rfl, rfl, rfl, rfl, rfl, (qB h3), trivial⟩
   ·
    (try simp only [go_sem, gs2, h3]); exact v _ ⟨rfl, rfl, rfl, rfl, rfl, (qB h3), trivial⟩
  ·
   refine xw_id ?_; (try simp only [go_sem, gs2]); refine qU u ?_; clear u U; refine awp_cond (b := ((decide (256 < (a1.length : Int))) || (decide (1024 < a2)))) rfl (fun h4 => ?_) (fun h4 => ?_)
   ·
    have h0 := cT h0 h4; refine awp_assoc ?_; refine awp_nw [] fun tz U u => ?_; (try simp only [go_sem]); refine qU u ?_; clear u U; refine awp_ret ?_; obtain rfl := someInj h0; refine endW_i ?_; refine end_ret0 rs44 (rfl) ?_; refine Res.mk [] [none] rfl (resON resO0) (Tm.tup (TmL.cons (Tm.thaw _ _ _) (TmL.cons (Tm.v _) TmL.nil)))
   ·
    have h0 := cF h0 h4; refine awp_skip ?_; refine awp_nw [1,2,3,4] fun tz U u => ?_; (try simp only [go_sem]); refine qU u ?_; clear u U; refine awp_assoc ?_; refine awp_nw [1,2,3,4,10] fun tz U u => ?_; (try simp only [go_sem]); refine qU u ?_; clear u U; obtain ⟨d54, hi5, h0⟩ := bnd h0; refine awp_cut (fun z => d54 = z) (fun d54 : (List Int) => derive_Expand_3_S0 a2 d54) ?_ ?_
    ·
     refine awp_block1 ?_; refine awp_loopS (fun n (d55 : (List Int × Int)) => derive_Expand_3_L2 a2 a1 a0 n d55 = some d54) (fun d55 : (List Int × Int) => derive_Expand_3_S1 a0 a1 a2 d55) big ([], 0) (Wk.canonD [] [] [some 0, none] rfl trivial rfl (tmON 1 (tmOC 0 tmO0 (e_A16vu_clean _)) rfl) (tmAllU 11 (tmAllU 10 (tmAllU 4 (tmAllU 3 (tmAllU 2 (tmAllU 1 tmAll0 (Tm.v _)) (Tm.clean (Clean.imm (vu_clean _)))) (Tm.v _)) (Tm.ptr rfl)) (Tm.thaw _ _ _)) (Tm.v _))) hi5 ?_; clear hi5; rintro n d55 hl7; rcases n with _ | n6
     ·
      (rw [derive_Expand_3_L2] at hl7; cases hl7)
     ·
      rw [derive_Expand_3_L2] at hl7; unfold derive_Expand_3_S1; refine awp_assoc ?_; refine awp_nw [1,2,3,4,10,11] fun tz U u => ?_; (try simp only [go_sem]); refine qU u ?_; clear u U; refine awp_cond (b := (decide ((((d55.1).length : Nat) : Int) < a2))) rfl (fun h8 => ?_) (fun h8 => ?_)
      ·
       have hl7 := cT hl7 h8; refine awp_skip ?_; refine awp_blockW ?_; refine awp_nr [1,2,3,4,10,11] (fun _ => rfl) fun tz => ?_; refine awp_regDW fun U u all hall => ?_; refine xd_id ?_; (try simp only [List.toList_toArray, List.map_cons, List.map_nil, List.size_toArray, List.length_cons, List.length_nil, Nat.zero_add]); (try simp only [Nat.reduceAdd]); obtain ⟨x56, bx56, hl7⟩ := bnd hl7; (iterate 3 ((try simp only [go_sem, -Nat.reduceAdd]); try simp only [Nat.reduceAdd])); (refine xcallD_E (derive_Input_3_e a1 d55.2 bx56 _) ?_; try dsimp only); (try refine xd_id ?_); obtain ⟨x57, bx57, hl7⟩ := bnd hl7; (iterate 3 ((try simp only [go_sem, -Nat.reduceAdd]); try simp only [Nat.reduceAdd])); (refine xcallD_L (by first | (simp only [go_sem, fz] <;> rfl) | (simp only [go_sem, fz, List.length_set, ble_self, take_set, cond_true, cond_false] <;> rfl)) (by first | (simp only [go_sem, reach] <;> rfl)) (derive_Mac_p a0 x56 bx57) (bare_ok (by rfl)) ?_; try dsimp only); (try refine xd_id ?_); (iterate 3 ((try simp only [go_sem, -Nat.reduceAdd]); try simp only [Nat.reduceAdd])); refine And.intro ?_ (u _ (derive_Expand_3_S3 a0 d55 x57 a1 a2) (by refine Wk.canonD [] [] [some 0, some 1, some 12] rfl trivial rfl (tmOC 2 (tmOE 1 (tmOC 0 tmO0 (e_A16vu_clean _)) (vu_clean _)) (e_A16vu_clean _)) (tmAllU 12 (tmAllU 11 (tmAllU 10 (tmAllU 4 (tmAllU 3 (tmAllU 2 (tmAllU 1 tmAll0 (Tm.v _)) (Tm.clean (Clean.imm (vu_clean _)))) (Tm.v _)) (Tm.ptr rfl)) (Tm.refL rfl ?_)) (Tm.v _)) (Tm.ptr rfl)); all_goals (first | rfl | (simp only [List.length_append, List.length_take, List.length_drop, List.length_cons, List.length_nil, List.length_modify, List.length_set, Nat.zero_add] <;> omega) | omega)) ?_)
       ·
        subst hall; clear u U; exact qP
       ·
        clear u U hall all; unfold derive_Expand_3_S3; refine awp_nw1 [1,2,3,4,10,11,12] fun tz U u => ?_; obtain ⟨x58, bx58, hl7⟩ := bnd hl7; have bx58 := chk_some bx58; simp only [Bool.and_eq_true, decide_eq_true_eq] at bx58; have gx58_0 := bx58; (try simp only [List.cons_append, List.nil_append, List.length_append, List.length_cons, List.length_nil, Nat.zero_add, Nat.reduceAdd, Nat.add_assoc, Nat.reduceLeDiff] at gx58_0); (try simp only [go_sem, Int.sub_zero, gx58_0, List.length_append, vu_len]); refine u _ ?_; clear u U; refine bq_n ?_; refine seqW_i ?_; refine awp_nw1 [1,2,3,4,10,11] fun tz U u => ?_; (try simp only [go_sem]); refine u _ ?_; clear u U; refine lq_n ?_; exact ⟨n6, ((d55.1 ++ [x57.a0, x57.a1, x57.a2, x57.a3, x57.a4, x57.a5, x57.a6, x57.a7, x57.a8, x57.a9, x57.a10, x57.a11, x57.a12, x57.a13, x57.a14, x57.a15]), IntKind.wrap .i64 (d55.2 + 1)), rfl, hl7, (by refine Wk.canonD [] [] [some 0, some 5] rfl trivial rfl (tmOE 1 (tmOC 0 tmO0 (e_A16vu_clean _)) (vu_clean _)) (tmAllU 11 (tmAllU 10 (tmAllU 4 (tmAllU 3 (tmAllU 2 (tmAllU 1 tmAll0 (Tm.v _)) (Tm.clean (Clean.imm (vu_clean _)))) (Tm.v _)) (Tm.ptr rfl)) (Tm.refL rfl ?_)) (Tm.v _)); all_goals (first | rfl | (simp only [List.length_append, List.length_take, List.length_drop, List.length_cons, List.length_nil, List.length_modify, List.length_set, Nat.zero_add] <;> omega) | omega))⟩
      ·
       have hl7 := cF hl7 h8; refine awp_exit ?_; refine lq_e ?_; refine bq_e ?_; refine sq_n ?_; obtain rfl := someInj hl7; exact ⟨_, rfl, (by refine Wk.canonD [] [] [some 1] rfl trivial rfl (tmOE 0 tmO0 (vu_clean _)) (tmAllU 10 (tmAllU 3 tmAll0 (Tm.v _)) (Tm.refL rfl ?_)); all_goals (first | rfl | (simp only [List.length_append, List.length_take, List.length_drop, List.length_cons, List.length_nil, List.length_modify, List.length_set, Nat.zero_add] <;> omega) | omega))⟩
    ·
     rintro _ rfl; clear hi5; unfold derive_Expand_3_S0; refine awp_nw [3,10] fun tz U u => ?_; obtain ⟨x59, bx59, h0⟩ := bnd h0; have bx59 := chk_some bx59; simp only [Bool.and_eq_true, decide_eq_true_eq] at bx59; obtain ⟨⟨gx59_0, gx59_1⟩, gx59_2⟩ := bx59; (try simp only [go_sem, gx59_0, gx59_1, gx59_2]); (have ht : List.map vu d54 = List.map vu (List.take ((a2).toNat) d54) ++ List.map vu (List.drop ((a2).toNat) d54) := by rw [← List.map_append, List.take_append_drop]); refine u _ _ (Wk.trim 0 ?_ ht) ?_
     ·
      simp only [upd_get, Nat.reduceEqDiff, reduceIte, if_true, if_false] <;> rfl
     clear u U ht; refine awp_ret1 ?_; obtain rfl := someInj h0; refine endW_i ?_; refine end_ret0 rs44 (rfl) ?_; refine Res.mk [] [some 0] rfl (resOU List.not_mem_nil rfl (TmL.of_eq qL (vu_clean _)) resO0) (Tm.tup (TmL.cons (Tm.refL rfl ?_) (TmL.cons (Tm.v _) TmL.nil))); (all_goals (first | rfl | (simp only [List.length_append, List.length_take, List.length_drop, List.length_cons, List.length_nil, List.length_modify, List.length_set, Nat.zero_add] <;> omega) | omega))

theorem derive_Expand_3_m (a0 : A16vu) (a1 : (List Int)) (a2 : Int) {r : ((List Int) × Int)} (h0 : derive_Expand_3 a0 a1 a2 = some r) : SndM K 44 [(.agg (e_A16vu a0)), (.v (.string ⟨#[97, 117, 116, 104]⟩)), (S_vu a1), (vi a2)] (fun q => (.tup [(.ref (q 0) 0 r.1.length 1), (vi r.2)])) [(List.map vu r.1)] :=
 fun hs => Snd.of_newM (RenM.tup (RenML.cons (RenM.ref 0 0 _ _) (RenML.cons (RenM.const (Clean.v _)) RenML.nil))) (rows_all_cons (vu_clean _) rows_all_nil) (clean_cons (Clean.agg (e_A16vu_clean _)) (clean_cons (Clean.v _) (clean_cons (S_vu_clean _) (clean_cons (Clean.v _) clean_nil)))) (derive_Expand_3_r a0 a1 a2 h0) hs

theorem derive_Expand_3_e (a0 : A16vu) (a1 : (List Int)) (a2 : Int) {r : ((List Int) × Int)} (h0 : derive_Expand_3 a0 a1 a2 = some r) (fr : Nat) (hs : HS) : SndE K 44 [(.agg (e_A16vu a0)), (.v (.string ⟨#[97, 117, 116, 104]⟩)), (S_vu a1), (vi a2)] hs fr ⟨(fun q : Nat → Nat => (.tup [(.ref (q 0) 0 r.1.length 1), (vi r.2)])) fun _ => fr, .new (List.map vu r.1)⟩ :=
 SndE.of_res (RenM.tup (RenML.cons (RenM.ref 0 0 _ _) (RenML.cons (RenM.const (Clean.v _)) RenML.nil))) (vu_clean _) (clean_cons (Clean.agg (e_A16vu_clean _)) (clean_cons (Clean.v _) (clean_cons (S_vu_clean _) (clean_cons (Clean.v _) clean_nil)))) (fun a b h => by simp only [h]) (derive_Expand_3_r a0 a1 a2 h0) hs fr

theorem derive_Expand_3_p (a0 : A16vu) (a1 : (List Int)) (a2 : Int) {r : ((List Int) × Int)} (h0 : derive_Expand_3 a0 a1 a2 = some r) : SndP K 44 [(.agg (e_A16vu a0)), (.v (.string ⟨#[97, 117, 116, 104]⟩)), (S_vu a1), (vi a2)] (.tup [(S_vu r.1), (vi r.2)]) :=
 SndM.pure (derive_Expand_3_m a0 a1 a2 h0) (Clean.tup (clean_cons (S_vu_clean _) (clean_cons (Clean.v _) clean_nil))) (clean_cons (Clean.agg (e_A16vu_clean _)) (clean_cons (Clean.v _) (clean_cons (S_vu_clean _) (clean_cons (Clean.v _) clean_nil)))) (by simp only [go_sem, newL_n, newL_c, upd_get, fz, nilS, cond_true, cond_false, List.drop_zero, List.take_length, List.length_map, ble_self] <;> rfl)
def auth_keyed_S0 (a0 : Auth) (a1 : Int) (a2 : Int) (x51 : Int) : AS :=
 { objs := (upd (upd (fun _ => .dead) 0 (.live (e_Auth a0))) 1 (.live (e_Auth Auth.z))), next := 2, tmps := (upd (upd (upd (upd (upd (fun _ => .unk) 1 (vq a1)) 2 (vq a2)) 3 (.ptr 0 0)) 6 (.ptr 1 0)) 8 (vq x51)) }

def auth_keyed_S1 (a0 : Auth) (a2 : Int) (a1 : Int) (x54 : ((List Int) × Int)) : AS :=
 { objs := (upd (upd (upd (fun _ => .dead) 0 (.live (e_Auth { a0 with OtherElement := a2, OtherScalar := a1 }))) 1 (.live (e_Auth Auth.z))) 2 (.live (List.map vu x54.1))), next := 3, tmps := (upd (upd (upd (fun _ => .unk) 3 (.ptr 0 0)) 6 (.ptr 1 0)) 9 (.ref 2 0 x54.1.length 1)) }

theorem auth_keyed_p (a0 : Auth) (a1 : Int) (a2 : Int) {r : (Auth × Bool)} (h0 : auth_keyed a0 a1 a2 = some r) : SndP K 50 [(.agg (e_Auth a0)), (vq a1), (vq a2)] (.tup [(.agg (e_Auth r.1)), (vb r.2)]) := by
 refine SndP.of_walkW hC (Clean.tup (clean_cons (Clean.agg (e_Auth_clean _)) (clean_cons (Clean.v _) clean_nil))) (clean_cons (Clean.agg (e_Auth_clean _)) (clean_cons (Clean.v _) (clean_cons (Clean.v _) clean_nil))) (show K.P.funcs[50]? = some Try.f50 from Try.func50) rfl rfl (by decide +kernel) (Nat.le_of_ble_eq_true rfl) ?_; unfold auth_keyed at h0; refine awp_nw [0,1,2] fun tz U u => ?_; (try simp only [go_sem]); refine qU u ?_; clear u U; refine awp_assoc ?_; refine awp_nw [1,2,3,6] fun tz U u => ?_; refine xw_stop 3 qS qS (by rfl) fun V v => ?_; refine xw_id ?_; (try simp only [go_sem]); refine v _ ?_; clear v V; refine xw_cut 3 [(1, (vq a1)), (2, (vq a2)), (3, (.ptr 0 0)), (6, (.ptr 1 0)), (16, (vb ((decide (a1 < 2)) || (decide (2305843009213693950 ≤ a1)))))] qS qS (by rfl) (fun V v => ?_) fun tz => ?_
 ·
  refine xw_id ?_; rcases Bool.eq_false_or_eq_true (decide (a1 < 2)) with h1 | h1
  ·
   (try simp only [go_sem, h1]); exact v _ ⟨rfl, rfl, rfl, rfl, rfl, (qB h1), trivial⟩
  ·
   (try simp only [go_sem, h1]); exact v _ ⟨rfl, rfl, rfl, rfl, rfl, (qB h1), trivial⟩
 ·
  refine xw_id ?_; refine xw_stop 1 qS qS (by rfl) fun V v => ?_; refine xw_id ?_; (try simp only [go_sem]); refine v _ ?_; clear v V; refine xw_cut 3 [(1, (vq a1)), (2, (vq a2)), (3, (.ptr 0 0)), (6, (.ptr 1 0)), (20, (vb (((decide (a1 < 2)) || (decide (2305843009213693950 ≤ a1))) || (decide (a2 < 2)))))] qS qS (by rfl) (fun V v => ?_) fun tz => ?_
  ·
   refine xw_id ?_; rcases Bool.eq_false_or_eq_true ((decide (a1 < 2)) || (decide (2305843009213693950 ≤ a1))) with h2 | h2
   ·
    (try simp only [go_sem, h2]); exact v _ ⟨rfl, rfl, rfl, rfl, rfl, (qB h2), trivial⟩
   ·
    (try simp only [go_sem, h2]); exact v _ ⟨rfl, rfl, rfl, rfl, rfl, (qB h2), trivial⟩
  ·
   refine xw_id ?_; refine xw_stop 1 qS qS (by rfl) fun V v => ?_; refine xw_id ?_; (try simp only [go_sem]); refine v _ ?_; clear v V; refine xw_cut 3 [(1, (vq a1)), (2, (vq a2)), (3, (.ptr 0 0)), (6, (.ptr 1 0)), (24, (vb ((((decide (a1 < 2)) || (decide (2305843009213693950 ≤ a1))) || (decide (a2 < 2))) || (decide (2305843009213693951 ≤ a2)))))] qS qS (by rfl) (fun V v => ?_) fun tz => ?_
   ·
    refine xw_id ?_; rcases Bool.eq_false_or_eq_true (((decide (a1 < 2)) || (decide (2305843009213693950 ≤ a1))) || (decide (a2 < 2))) with h3 | h3
    ·
     (try simp only [go_sem, h3]); exact v _ ⟨rfl, rfl, rfl, rfl, rfl, (qB h3), trivial⟩
    ·
     (try simp only [go_sem, h3]); exact v _ ⟨rfl, rfl, rfl, rfl, rfl, (qB h3), trivial⟩
   ·
    refine xw_id ?_; refine xw_stop 1 qS qS (by rfl) fun V v => ?_; refine xw_id ?_; (try simp only [go_sem]); refine v _ ?_; clear v V; refine xw_cut 11 [(1, (vq a1)), (2, (vq a2)), (3, (.ptr 0 0)), (6, (.ptr 1 0)), (36, (vb (((((decide (a1 < 2)) || (decide (2305843009213693950 ≤ a1))) || (decide (a2 < 2))) || (decide (2305843009213693951 ≤ a2))) || ((a1 == a0.Scalar) && (a2 == a0.Element)))))] qS qS (by rfl) (fun V v => ?_) fun tz => ?_
    ·
     refine xw_id ?_; rcases Bool.eq_false_or_eq_true ((((decide (a1 < 2)) || (decide (2305843009213693950 ≤ a1))) || (decide (a2 < 2))) || (decide (2305843009213693951 ≤ a2))) with h4 | h4
     ·
      (try simp only [go_sem, h4]); exact v _ ⟨rfl, rfl, rfl, rfl, rfl, (qB h4), trivial⟩
     ·
      refine xw_stop 5 qS qS (by rfl) fun V v => ?_; refine xw_id ?_; (try simp only [go_sem, h4]); refine v _ ?_; clear v V; refine xw_cut 5 [(1, (vq a1)), (2, (vq a2)), (3, (.ptr 0 0)), (6, (.ptr 1 0)), (25, (vb false)), (35, (vb ((a1 == a0.Scalar) && (a2 == a0.Element))))] qS qS (by rfl) (fun V v => ?_) fun tz => ?_
      ·
       refine xw_id ?_; rcases Bool.eq_false_or_eq_true (a1 == a0.Scalar) with h5 | h5
       ·
        (try simp only [go_sem, h4, h5]); exact v _ ⟨rfl, rfl, rfl, rfl, rfl, rfl, (qB h5), trivial⟩
       ·
        (try simp only [go_sem, h4, h5]); exact v _ ⟨rfl, rfl, rfl, rfl, rfl, rfl, (qB h5), trivial⟩
      ·
       refine xw_id ?_; (try simp only [go_sem, h4]); exact v _ ⟨rfl, rfl, rfl, rfl, rfl, (qB h4), trivial⟩
    ·
     refine xw_id ?_; (try simp only [go_sem]); refine qU u ?_; clear u U; refine awp_cond (b := (((((decide (a1 < 2)) || (decide (2305843009213693950 ≤ a1))) || (decide (a2 < 2))) || (decide (2305843009213693951 ≤ a2))) || ((a1 == a0.Scalar) && (a2 == a0.Element)))) rfl (fun h6 => ?_) (fun h6 => ?_)
     ·
      have h0 := cT h0 h6; refine awp_assoc ?_; refine awp_nw [3,6] fun tz U u => ?_; (try simp only [go_sem]); refine qU u ?_; clear u U; refine awp_ret ?_; obtain rfl := someInj h0; refine endW_i ?_; refine end_ret0 rs50 qR ?_; exact qF
     ·
      have h0 := cF h0 h6; refine awp_skip ?_; refine awp_nw [1,2,3,6] fun tz U u => ?_; obtain ⟨x49, bx49, h0⟩ := bnd h0; (try simp only [go_sem]); (refine xcall_p (auth_Pow_p a0.Base a1 bx49) ?_; try dsimp only); (try refine xw_id ?_); obtain ⟨x50, bx50, h0⟩ := bnd h0; (try simp only [go_sem]); (refine xcall_p (auth_Mul_p x49 a2 bx50) ?_; try dsimp only); (try refine xw_id ?_); obtain ⟨x51, bx51, h0⟩ := bnd h0; (try simp only [go_sem]); (refine xcall_p (auth_Pow_p x50 a0.Rand bx51) ?_; try dsimp only); (try refine xw_id ?_); (try simp only [go_sem]); refine u _ (auth_keyed_S0 a0 a1 a2 x51) (Wk.canonD [] [] [some 0, some 1] rfl trivial rfl (tmOC 1 (tmOC 0 tmO0 (e_Auth_clean _)) (e_Auth_clean _)) (tmAllU 8 (tmAllU 6 (tmAllU 3 (tmAllU 2 (tmAllU 1 tmAll0 (Tm.v _)) (Tm.v _)) (Tm.ptr rfl)) (Tm.ptr rfl)) (Tm.v _))) ?_; clear u U; unfold auth_keyed_S0; refine awp_assoc ?_; refine awp_nw [1,2,3,6,8] fun tz U u => ?_; (try simp only [go_sem]); refine qU u ?_; clear u U; refine awp_cond (b := (decide (x51 < 2))) rfl (fun h7 => ?_) (fun h7 => ?_)
      ·
       have h0 := cT h0 h7; refine awp_assoc ?_; refine awp_nw [3,6] fun tz U u => ?_; (try simp only [go_sem]); refine qU u ?_; clear u U; refine awp_ret ?_; obtain rfl := someInj h0; refine endW_i ?_; refine end_ret0 rs50 qR ?_; exact qF
      ·
       have h0 := cF h0 h7; refine awp_skip ?_; refine awp_nw [1,2,3,6,8] fun tz U u => ?_; (try simp only [go_sem]); refine qU u ?_; clear u U; refine awp_nw [1,3,6,8] fun tz U u => ?_; obtain ⟨x52, bx52, h0⟩ := bnd h0; (try simp only [go_sem]); (refine xcall_p (auth_sum_p a0.Scalar a1 bx52) ?_; try dsimp only); (try refine xw_id ?_); obtain ⟨x53, bx53, h0⟩ := bnd h0; (try simp only [go_sem]); (refine xcall_ML (by first | (simp only [go_sem, fz, nilS, cond_true, cond_false] <;> rfl) | (simp only [go_sem, fz, List.length_set, ble_self, take_set, cond_true, cond_false] <;> rfl)) (auth_numbers_m [x51, x52] bx53) (fun _ => by repeat' (first | exact NoV.v _ | exact NoV.ref _ _ _ _ | exact NoV.onil | refine NoV.ocons ?_ ?_ | exact NoV.nil | refine NoV.tup ?_ | refine NoV.agg ?_ | refine NoV.rows (fun _ => ?_) _ | refine NoV.maps (fun _ => ?_) _ | refine NoV.cons ?_ ?_)) (by repeat' (first | exact NoV.v _ | exact NoV.ref _ _ _ _ | exact NoV.onil | refine NoV.ocons ?_ ?_ | exact NoV.nil | refine NoV.tup ?_ | refine NoV.agg ?_ | refine NoV.rows (fun _ => ?_) _ | refine NoV.maps (fun _ => ?_) _ | refine NoV.cons ?_ ?_)) ?_; try dsimp only); (try refine xw_id ?_); obtain ⟨x54, bx54, h0⟩ := bnd h0; (try simp only [go_sem]); (refine xcall_ML (by first | (simp only [go_sem, fz, nilS, cond_true, cond_false] <;> rfl) | (simp only [go_sem, fz, List.length_set, ble_self, take_set, cond_true, cond_false] <;> rfl)) (derive_Expand_3_m A16vu.z x53 32 bx54) (fun _ => by repeat' (first | exact NoV.v _ | exact NoV.ref _ _ _ _ | exact NoV.onil | refine NoV.ocons ?_ ?_ | exact NoV.nil | refine NoV.tup ?_ | refine NoV.agg ?_ | refine NoV.rows (fun _ => ?_) _ | refine NoV.maps (fun _ => ?_) _ | refine NoV.cons ?_ ?_)) (by repeat' (first | exact NoV.v _ | exact NoV.ref _ _ _ _ | exact NoV.onil | refine NoV.ocons ?_ ?_ | exact NoV.nil | refine NoV.tup ?_ | refine NoV.agg ?_ | refine NoV.rows (fun _ => ?_) _ | refine NoV.maps (fun _ => ?_) _ | refine NoV.cons ?_ ?_)) ?_; try dsimp only); (try refine xw_id ?_); (try simp only [go_sem]); refine u _ (auth_keyed_S1 a0 a2 a1 x54) (by refine Wk.canonD [] [] [some 0, some 1, some 25] rfl trivial rfl (tmOE 2 (tmOC 1 (tmOC 0 tmO0 (e_Auth_clean _)) (e_Auth_clean _)) (vu_clean _)) (tmAllU 9 (tmAllU 6 (tmAllU 3 tmAll0 (Tm.ptr rfl)) (Tm.ptr rfl)) (Tm.refL rfl ?_)); all_goals (first | rfl | (simp only [List.length_append, List.length_take, List.length_drop, List.length_cons, List.length_nil, List.length_modify, List.length_set, Nat.zero_add] <;> omega) | omega)) ?_; clear u U; unfold auth_keyed_S1; refine awp_nw [3,6,9] fun tz U u => ?_; obtain ⟨x55, bx55, h0⟩ := bnd h0; have bx55 := chk_some bx55; simp only [Bool.and_eq_true, decide_eq_true_eq] at bx55; have gx55_0 := bx55; have gs8 : (List.map vu x54.1).take 16 = e_A16vu (A16vu.of x54.1) := e_A16vu_of _ (by (try simp only [List.length_drop]); omega); have gs8m : min x54.1.length 16 = 16 := Nat.min_eq_right (by omega); (try simp only [go_sem, Int.sub_zero, gx55_0, gs8, gs8m, Nat.mul_one]); refine qU u ?_; clear u U; refine awp_nr [3,6,9] (fun _ => rfl) fun tz => ?_; refine awp_regDW fun U u all hall => ?_; refine xd_id ?_; (try simp only [List.toList_toArray, List.map_cons, List.map_nil, List.size_toArray, List.length_cons, List.length_nil, Nat.zero_add]); (try simp only [Nat.reduceAdd]); obtain ⟨x56, bx56, h0⟩ := bnd h0; have bx56 := chk_some bx56; simp only [Bool.and_eq_true, decide_eq_true_eq] at bx56; have gx56_0 := bx56; (have g9 : (((x54.1.length : Nat) : Int) - 16).toNat = x54.1.length - 16 := by omega); have gp10 : sub? (List.map vu x54.1) 16 (x54.1.length - 16) = some (List.map vu (List.drop 16 x54.1)) := map_subD _ _ _ (by omega); obtain ⟨x57, bx57, h0⟩ := bnd h0; have bx57 := chk_some bx57; simp only [Bool.and_eq_true, decide_eq_true_eq] at bx57; have gx57_0 := bx57; have gs11 : (List.map vu (List.drop 16 x54.1)).take 16 = e_A16vu (A16vu.of (List.drop 16 x54.1)) := e_A16vu_of _ (by (try simp only [List.length_drop]); omega); have gs11m : min (x54.1.length - 16) 16 = 16 := Nat.min_eq_right (by omega); (iterate 3 ((try simp only [go_sem, -Nat.reduceAdd, Int.sub_zero, gx56_0, g9, gp10, gx57_0, gs11, gs11m, Nat.mul_one]); try simp only [Nat.reduceAdd])); refine And.intro ?_ (u _ _ (Wk.refl _ _ _) ?_)
       ·
        subst hall; clear u U; exact qP
       ·
        clear u U hall all; refine awp_nw [3,6] fun tz U u => ?_; (try simp only [go_sem]); refine qU u ?_; clear u U; refine awp_ret1 ?_; obtain rfl := someInj h0; refine endW_i ?_; refine end_ret0 rs50 qR ?_; exact qF
def auth_Check_S0 (a0 : Auth) (x48 : Bool) : AS :=
 { objs := (upd (fun _ => .dead) 0 (.live (e_Auth a0))), next := 1, tmps := (upd (upd (fun _ => .unk) 1 (.ptr 0 0)) 70 (vb ((x48 || (decide (a0.Scalar < 2))) || (decide (a0.Element < 2))))) }

def auth_Check_S1 (a0 : Auth) : AS :=
 { objs := (upd (upd (fun _ => .dead) 0 (.live (e_Auth a0))) 1 (.live (e_Auth { a0 with Confirm := A16vu.z, Master := A16vu.z, OtherElement := 0, OtherScalar := 0, Sync := 0 }))), next := 2, tmps := (upd (upd (fun _ => .unk) 1 (.ptr 0 0)) 6 (.ptr 1 0)) }

theorem auth_Check_p (a0 : Auth) {r : Int} (h0 : auth_Check a0 = some r) : SndP K 23 [(.agg (e_Auth a0))] (vi r) := by
 refine SndP.of_walkW hC (Clean.v _) (clean_cons (Clean.agg (e_Auth_clean _)) clean_nil) (show K.P.funcs[23]? = some Try.f23 from Try.func23) rfl rfl (by decide +kernel) (Nat.le_of_ble_eq_true rfl) ?_; unfold auth_Check at h0; refine awp_nw [0] fun tz U u => ?_; (try simp only [go_sem]); refine qU u ?_; clear u U; refine awp_assoc ?_; refine awp_nw [1] fun tz U u => ?_; (try simp only [List.append_eq, Array.toList_append, List.append_toArray, List.toList_toArray, List.cons_append, List.nil_append]); refine xw_stop 6 qS qS (by rfl) fun V v => ?_; refine xw_id ?_; (try simp only [go_sem]); refine v _ ?_; clear v V; refine xw_cut 4 [(1, (.ptr 0 0)), (16, (vb ((decide (a0.Own = a0.Peer)) || (decide (a0.Base < 2)))))] qS qS (by rfl) (fun V v => ?_) fun tz => ?_
 ·
  refine xw_id ?_; rcases Bool.eq_false_or_eq_true (decide (a0.Own = a0.Peer)) with h1 | h1
  ·
   (try simp only [go_sem, h1]); exact v _ ⟨rfl, rfl, (qB h1), trivial⟩
  ·
   (try simp only [go_sem, h1]); exact v _ ⟨rfl, rfl, (qB h1), trivial⟩
 ·
  refine xw_id ?_; refine xw_stop 1 qS qS (by rfl) fun V v => ?_; refine xw_id ?_; (try simp only [go_sem]); refine v _ ?_; clear v V; refine xw_cut 4 [(1, (.ptr 0 0)), (21, (vb (((decide (a0.Own = a0.Peer)) || (decide (a0.Base < 2))) || (decide (2305843009213693951 ≤ a0.Base)))))] qS qS (by rfl) (fun V v => ?_) fun tz => ?_
  ·
   refine xw_id ?_; rcases Bool.eq_false_or_eq_true ((decide (a0.Own = a0.Peer)) || (decide (a0.Base < 2))) with h2 | h2
   ·
    (try simp only [go_sem, h2]); exact v _ ⟨rfl, rfl, (qB h2), trivial⟩
   ·
    (try simp only [go_sem, h2]); exact v _ ⟨rfl, rfl, (qB h2), trivial⟩
  ·
   refine xw_id ?_; refine xw_stop 1 qS qS (by rfl) fun V v => ?_; refine xw_id ?_; (try simp only [go_sem]); refine v _ ?_; clear v V; obtain ⟨x45, hvh3, h0⟩ := bnd h0; refine xw_cut 4 [(1, (.ptr 0 0)), (26, (vb x45))] qS qS (by rfl) (fun V v => ?_) fun tz => ?_
   ·
    refine xw_id ?_; rcases Bool.eq_false_or_eq_true (((decide (a0.Own = a0.Peer)) || (decide (a0.Base < 2))) || (decide (2305843009213693951 ≤ a0.Base))) with h3 | h3
    ·
     have hvh3 := cT hvh3 h3; (try simp only [go_sem, h3]); obtain rfl := someInj hvh3; exact v _ ⟨rfl, rfl, (qB h3), trivial⟩
    ·
     have hvh3 := cF hvh3 h3; obtain ⟨x44, bx44, hvh3⟩ := bnd hvh3; (try simp only [go_sem, h3]); (refine xcall_p (auth_secret_p a0 bx44) ?_; try dsimp only); (try refine xw_id ?_); (try simp only [go_sem, h3]); obtain rfl := someInj hvh3; exact v _ ⟨rfl, rfl, (qB h3), trivial⟩
   ·
    refine xw_id ?_; refine xw_stop 1 qS qS (by rfl) fun V v => ?_; refine xw_id ?_; (try simp only [go_sem]); refine v _ ?_; clear v V; refine xw_cut 4 [(1, (.ptr 0 0)), (31, (vb (x45 || (decide (4 < a0.Stage)))))] qS qS (by rfl) (fun V v => ?_) fun tz => ?_
    ·
     refine xw_id ?_; rcases Bool.eq_false_or_eq_true x45 with h4 | h4
     ·
      (try simp only [go_sem, h4]); exact v _ ⟨rfl, rfl, (qB h4), trivial⟩
     ·
      (try simp only [go_sem, h4]); exact v _ ⟨rfl, rfl, (qB h4), trivial⟩
    ·
     refine xw_id ?_; refine xw_stop 1 qS qS (by rfl) fun V v => ?_; refine xw_id ?_; (try simp only [go_sem]); refine v _ ?_; clear v V; refine xw_cut 9 [(1, (.ptr 0 0)), (41, (vb ((x45 || (decide (4 < a0.Stage))) || ((!a0.HasToken) && (a0.Token != 0)))))] qS qS (by rfl) (fun V v => ?_) fun tz => ?_
     ·
      refine xw_id ?_; rcases Bool.eq_false_or_eq_true (x45 || (decide (4 < a0.Stage))) with h5 | h5
      ·
       (try simp only [go_sem, h5]); exact v _ ⟨rfl, rfl, (qB h5), trivial⟩
      ·
       refine xw_stop 4 qS qS (by rfl) fun V v => ?_; refine xw_id ?_; (try simp only [go_sem, h5]); refine v _ ?_; clear v V; refine xw_cut 4 [(1, (.ptr 0 0)), (32, (vb false)), (40, (vb ((!a0.HasToken) && (a0.Token != 0))))] qS qS (by rfl) (fun V v => ?_) fun tz => ?_
       ·
        refine xw_id ?_; rcases Bool.eq_false_or_eq_true (!a0.HasToken) with h6 | h6
        ·
         (try simp only [go_sem, h5, h6]); exact v _ ⟨rfl, rfl, rfl, (qB h6), trivial⟩
        ·
         (try simp only [go_sem, h5, h6]); exact v _ ⟨rfl, rfl, rfl, (qB h6), trivial⟩
       ·
        refine xw_id ?_; (try simp only [go_sem, h5]); exact v _ ⟨rfl, rfl, (qB h5), trivial⟩
     ·
      refine xw_id ?_; (try simp only [go_sem]); refine qU u ?_; clear u U; refine awp_cond (b := ((x45 || (decide (4 < a0.Stage))) || ((!a0.HasToken) && (a0.Token != 0)))) rfl (fun h7 => ?_) (fun h7 => ?_)
      ·
       have h0 := cT h0 h7; refine awp_assoc ?_; refine awp_nw [] fun tz U u => ?_; (try simp only [go_sem]); refine qU u ?_; clear u U; refine awp_ret ?_; obtain rfl := someInj h0; refine endW_i ?_; refine end_ret0 rs23 (rfl) ?_; exact qF
      ·
       have h0 := cF h0 h7; refine awp_skip ?_; refine awp_assoc ?_; refine awp_nw [1] fun tz U u => ?_; obtain ⟨x46, bx46, h0⟩ := bnd h0; (try simp only [go_sem]); (refine xcall_p (auth_sum_p a0.Rand a0.Mask bx46) ?_; try dsimp only); (try refine xw_id ?_); refine xw_stop 2 qS qS (by rfl) fun V v => ?_; refine xw_id ?_; (try simp only [go_sem]); refine v _ ?_; clear v V; obtain ⟨x48, hvh8, h0⟩ := bnd h0; refine xw_cut 10 [(1, (.ptr 0 0)), (60, (vb x48))] qS qS (by rfl) (fun V v => ?_) fun tz => ?_
       ·
        refine xw_id ?_; rcases Bool.eq_false_or_eq_true (a0.Scalar != x46) with h8 | h8
        ·
         have hvh8 := cT hvh8 h8; (try simp only [go_sem, h8]); obtain rfl := someInj hvh8; exact v _ ⟨rfl, rfl, (qB h8), trivial⟩
        ·
         have hvh8 := cF hvh8 h8; obtain ⟨x47, bx47, hvh8⟩ := bnd hvh8; (try simp only [go_sem, h8]); (refine xcall_p (auth_Pow_p a0.Base (IntKind.wrap .u64 (2305843009213693950 - a0.Mask)) bx47) ?_; try dsimp only); (try refine xw_id ?_); (try simp only [go_sem, h8]); obtain rfl := someInj hvh8; exact v _ ⟨rfl, rfl, (qB h8), trivial⟩
       ·
        refine xw_id ?_; refine xw_stop 1 qS qS (by rfl) fun V v => ?_; refine xw_id ?_; (try simp only [go_sem]); refine v _ ?_; clear v V; refine xw_cut 4 [(1, (.ptr 0 0)), (65, (vb (x48 || (decide (a0.Scalar < 2)))))] qS qS (by rfl) (fun V v => ?_) fun tz => ?_
        ·
         refine xw_id ?_; rcases Bool.eq_false_or_eq_true x48 with h9 | h9
         ·
          (try simp only [go_sem, h9]); exact v _ ⟨rfl, rfl, (qB h9), trivial⟩
         ·
          (try simp only [go_sem, h9]); exact v _ ⟨rfl, rfl, (qB h9), trivial⟩
        ·
         refine xw_id ?_; refine xw_stop 1 qS qS (by rfl) fun V v => ?_; refine xw_id ?_; (try simp only [go_sem]); refine v _ ?_; clear v V; refine xw_cut 4 [(1, (.ptr 0 0)), (70, (vb ((x48 || (decide (a0.Scalar < 2))) || (decide (a0.Element < 2)))))] qS qS (by rfl) (fun V v => ?_) fun tz => ?_
         ·
          refine xw_id ?_; rcases Bool.eq_false_or_eq_true (x48 || (decide (a0.Scalar < 2))) with h10 | h10
          ·
           (try simp only [go_sem, h10]); exact v _ ⟨rfl, rfl, (qB h10), trivial⟩
          ·
           (try simp only [go_sem, h10]); exact v _ ⟨rfl, rfl, (qB h10), trivial⟩
         ·
          refine xw_id ?_; (try simp only [go_sem]); refine u _ (auth_Check_S0 a0 x48) (Wk.canonD [] [] [some 0] rfl trivial rfl (tmOC 0 tmO0 (e_Auth_clean _)) (tmAllU 70 (tmAllU 1 tmAll0 (Tm.ptr rfl)) (Tm.v _))) ?_; clear u U; unfold auth_Check_S0; refine awp_cond (b := ((x48 || (decide (a0.Scalar < 2))) || (decide (a0.Element < 2)))) rfl (fun h11 => ?_) (fun h11 => ?_)
          ·
           have h0 := cT h0 h11; refine awp_assoc ?_; refine awp_nw [] fun tz U u => ?_; (try simp only [go_sem]); refine qU u ?_; clear u U; refine awp_ret ?_; obtain rfl := someInj h0; refine endW_i ?_; refine end_ret0 rs23 (rfl) ?_; exact qF
          ·
           have h0 := cF h0 h11; refine awp_skip ?_; refine awp_nw [1] fun tz U u => ?_; refine xw_stop 4 qS qS (by rfl) fun V v => ?_; refine xw_id ?_; (try simp only [go_sem]); refine v _ ?_; clear v V; refine xw_cut 4 [(1, (.ptr 0 0)), (78, (vb ((a0.Stage == 1) || (a0.Stage == 2))))] qS qS (by rfl) (fun V v => ?_) fun tz => ?_
           ·
            refine xw_id ?_; rcases Bool.eq_false_or_eq_true (a0.Stage == 1) with h12 | h12
            ·
             (try simp only [go_sem, h12]); exact v _ ⟨rfl, rfl, (qB h12), trivial⟩
            ·
             (try simp only [go_sem, h12]); exact v _ ⟨rfl, rfl, (qB h12), trivial⟩
           ·
            refine xw_id ?_; (try simp only [go_sem]); refine qU u ?_; clear u U; refine awp_assoc ?_; refine awp_nw [1,3] fun tz U u => ?_; (try simp only [List.append_eq, Array.toList_append, List.append_toArray, List.toList_toArray, List.cons_append, List.nil_append]); refine xw_stop 2 qS qS (by rfl) fun V v => ?_; refine xw_id ?_; (try simp only [go_sem]); refine v _ ?_; clear v V; refine xw_cut 19 [(1, (.ptr 0 0)), (3, (vb ((a0.Stage == 1) || (a0.Stage == 2)))), (99, (vb (((a0.Stage == 1) || (a0.Stage == 2)) && ((((decide (a0.Tries < 1)) || (decide (3 < a0.Tries))) || (decide (a0.Due < 1))) || (decide (1099511827776 < a0.Due))))))] qS qS (by rfl) (fun V v => ?_) fun tz => ?_
            ·
             refine xw_id ?_; rcases Bool.eq_false_or_eq_true ((a0.Stage == 1) || (a0.Stage == 2)) with h13 | h13
             ·
              refine xw_stop 4 qS qS (by rfl) fun V v => ?_; refine xw_id ?_; (try simp only [go_sem, h13]); refine v _ ?_; clear v V; refine xw_cut 4 [(1, (.ptr 0 0)), (3, (vb true)), (80, (vb true)), (88, (vb ((decide (a0.Tries < 1)) || (decide (3 < a0.Tries)))))] qS qS (by rfl) (fun V v => ?_) fun tz => ?_
              ·
               refine xw_id ?_; rcases Bool.eq_false_or_eq_true (decide (a0.Tries < 1)) with h14 | h14
               ·
                (try simp only [go_sem, h13, h14]); exact v _ ⟨rfl, rfl, rfl, rfl, (qB h14), trivial⟩
               ·
                (try simp only [go_sem, h13, h14]); exact v _ ⟨rfl, rfl, rfl, rfl, (qB h14), trivial⟩
              ·
               refine xw_id ?_; refine xw_stop 1 qS qS (by rfl) fun V v => ?_; refine xw_id ?_; (try simp only [go_sem, h13]); refine v _ ?_; clear v V; refine xw_cut 4 [(1, (.ptr 0 0)), (3, (vb true)), (80, (vb true)), (93, (vb (((decide (a0.Tries < 1)) || (decide (3 < a0.Tries))) || (decide (a0.Due < 1)))))] qS qS (by rfl) (fun V v => ?_) fun tz => ?_
               ·
                refine xw_id ?_; rcases Bool.eq_false_or_eq_true ((decide (a0.Tries < 1)) || (decide (3 < a0.Tries))) with h15 | h15
                ·
                 (try simp only [go_sem, h13, h15]); exact v _ ⟨rfl, rfl, rfl, rfl, (qB h15), trivial⟩
                ·
                 (try simp only [go_sem, h13, h15]); exact v _ ⟨rfl, rfl, rfl, rfl, (qB h15), trivial⟩
               ·
                refine xw_id ?_; refine xw_stop 1 qS qS (by rfl) fun V v => ?_; refine xw_id ?_; (try simp only [go_sem, h13]); refine v _ ?_; clear v V; refine xw_cut 4 [(1, (.ptr 0 0)), (3, (vb true)), (80, (vb true)), (98, (vb ((((decide (a0.Tries < 1)) || (decide (3 < a0.Tries))) || (decide (a0.Due < 1))) || (decide (1099511827776 < a0.Due)))))] qS qS (by rfl) (fun V v => ?_) fun tz => ?_
                ·
                 refine xw_id ?_; rcases Bool.eq_false_or_eq_true (((decide (a0.Tries < 1)) || (decide (3 < a0.Tries))) || (decide (a0.Due < 1))) with h16 | h16
                 ·
                  (try simp only [go_sem, h13, h16]); exact v _ ⟨rfl, rfl, rfl, rfl, (qB h16), trivial⟩
                 ·
                  (try simp only [go_sem, h13, h16]); exact v _ ⟨rfl, rfl, rfl, rfl, (qB h16), trivial⟩
                ·
                 refine xw_id ?_; (try simp only [go_sem, h13]); exact v _ ⟨rfl, rfl, (qB h13), (qB h13), trivial⟩
             ·
              (try simp only [go_sem, h13]); exact v _ ⟨rfl, rfl, (qB h13), (qB h13), trivial⟩
            ·
             refine xw_id ?_; refine xw_stop 1 qS qS (by rfl) fun V v => ?_; refine xw_id ?_; (try simp only [go_sem]); refine v _ ?_; clear v V; refine xw_cut 13 [(1, (.ptr 0 0)), (113, (vb ((((a0.Stage == 1) || (a0.Stage == 2)) && ((((decide (a0.Tries < 1)) || (decide (3 < a0.Tries))) || (decide (a0.Due < 1))) || (decide (1099511827776 < a0.Due)))) || ((!((a0.Stage == 1) || (a0.Stage == 2))) && ((a0.Tries != 0) || (a0.Due != 0))))))] qS qS (by rfl) (fun V v => ?_) fun tz => ?_
             ·
              refine xw_id ?_; rcases Bool.eq_false_or_eq_true (((a0.Stage == 1) || (a0.Stage == 2)) && ((((decide (a0.Tries < 1)) || (decide (3 < a0.Tries))) || (decide (a0.Due < 1))) || (decide (1099511827776 < a0.Due)))) with h17 | h17
              ·
               (have h17_0 : ((a0.Stage == 1) || (a0.Stage == 2)) = true := by simp only [Bool.and_eq_true] at h17; exact h17.1); (have h17_1 : ((((decide (a0.Tries < 1)) || (decide (3 < a0.Tries))) || (decide (a0.Due < 1))) || (decide (1099511827776 < a0.Due))) = true := by simp only [Bool.and_eq_true] at h17; exact h17.2); (try simp only [go_sem, h17, h17_0, h17_1]); exact v _ ⟨rfl, rfl, (qB h17), trivial⟩
              ·
               refine xw_stop 3 qS qS (by rfl) fun V v => ?_; refine xw_id ?_; (try simp only [go_sem, h17]); refine v _ ?_; clear v V; refine xw_cut 9 [(1, (.ptr 0 0)), (100, (vb false)), (112, (vb ((!((a0.Stage == 1) || (a0.Stage == 2))) && ((a0.Tries != 0) || (a0.Due != 0)))))] qS qS (by rfl) (fun V v => ?_) fun tz => ?_
               ·
                refine xw_id ?_; rcases Bool.eq_false_or_eq_true (!((a0.Stage == 1) || (a0.Stage == 2))) with h18 | h18
                ·
                 refine xw_stop 4 qS qS (by rfl) fun V v => ?_; refine xw_id ?_; (try simp only [go_sem, h17, h18]); refine v _ ?_; clear v V; refine xw_cut 4 [(1, (.ptr 0 0)), (100, (vb false)), (103, (vb true)), (111, (vb ((a0.Tries != 0) || (a0.Due != 0))))] qS qS (by rfl) (fun V v => ?_) fun tz => ?_
                 ·
                  refine xw_id ?_; rcases Bool.eq_false_or_eq_true (a0.Tries != 0) with h19 | h19
                  ·
                   (try simp only [go_sem, h17, h18, h19]); exact v _ ⟨rfl, rfl, rfl, rfl, (qB h19), trivial⟩
                  ·
                   (try simp only [go_sem, h17, h18, h19]); exact v _ ⟨rfl, rfl, rfl, rfl, (qB h19), trivial⟩
                 ·
                  refine xw_id ?_; (try simp only [go_sem, h17, h18]); exact v _ ⟨rfl, rfl, rfl, (qB h18), trivial⟩
                ·
                 (try simp only [go_sem, h17, h18]); exact v _ ⟨rfl, rfl, rfl, (qB h18), trivial⟩
               ·
                refine xw_id ?_; (try simp only [go_sem, h17]); exact v _ ⟨rfl, rfl, (qB h17), trivial⟩
             ·
              refine xw_id ?_; (try simp only [go_sem]); refine qU u ?_; clear u U; refine awp_cond (b := ((((a0.Stage == 1) || (a0.Stage == 2)) && ((((decide (a0.Tries < 1)) || (decide (3 < a0.Tries))) || (decide (a0.Due < 1))) || (decide (1099511827776 < a0.Due)))) || ((!((a0.Stage == 1) || (a0.Stage == 2))) && ((a0.Tries != 0) || (a0.Due != 0))))) rfl (fun h20 => ?_) (fun h20 => ?_)
              ·
               have h0 := cT h0 h20; refine awp_assoc ?_; refine awp_nw [] fun tz U u => ?_; (try simp only [go_sem]); refine qU u ?_; clear u U; refine awp_ret ?_; obtain rfl := someInj h0; refine endW_i ?_; refine end_ret0 rs23 (rfl) ?_; exact qF
              ·
               have h0 := cF h0 h20; refine awp_skip ?_; refine awp_assoc ?_; refine awp_nw [1] fun tz U u => ?_; refine xw_stop 4 qS qS (by rfl) fun V v => ?_; refine xw_id ?_; (try simp only [go_sem]); refine v _ ?_; clear v V; refine xw_cut 4 [(1, (.ptr 0 0)), (121, (vb ((a0.Stage == 2) || (a0.Stage == 3))))] qS qS (by rfl) (fun V v => ?_) fun tz => ?_
               ·
                refine xw_id ?_; rcases Bool.eq_false_or_eq_true (a0.Stage == 2) with h21 | h21
                ·
                 (try simp only [go_sem, h21]); exact v _ ⟨rfl, rfl, (qB h21), trivial⟩
                ·
                 (try simp only [go_sem, h21]); exact v _ ⟨rfl, rfl, (qB h21), trivial⟩
               ·
                refine xw_id ?_; (try simp only [go_sem]); refine qU u ?_; clear u U; refine awp_cond (b := ((a0.Stage == 2) || (a0.Stage == 3))) rfl (fun h22 => ?_) (fun h22 => ?_)
                ·
                 have h0 := cT h0 h22; refine awp_assoc ?_; refine awp_assoc ?_; refine awp_nw [1] fun tz U u => ?_; obtain ⟨x49, bx49, h0⟩ := bnd h0; (try simp only [go_sem]); (refine xcall_p (auth_keyed_p a0 a0.OtherScalar a0.OtherElement bx49) ?_; try dsimp only); (try refine xw_id ?_); (try simp only [go_sem]); refine qU u ?_; clear u U; refine awp_assoc ?_; refine awp_nw [1,4,5] fun tz U u => ?_; refine xw_stop 3 qS qS (by rfl) fun V v => ?_; refine xw_id ?_; (try simp only [go_sem]); refine v _ ?_; clear v V; refine xw_cut 4 [(1, (.ptr 0 0)), (137, (vb ((!x49.2) || (!decide (x49.1 = a0)))))] qS qS (by rfl) (fun V v => ?_) fun tz => ?_
                 ·
                  refine xw_id ?_; rcases Bool.eq_false_or_eq_true (!x49.2) with h23 | h23
                  ·
                   (try simp only [go_sem, h23]); exact v _ ⟨rfl, rfl, (qB h23), trivial⟩
                  ·
                   (try simp only [go_sem, h23]); exact v _ ⟨rfl, rfl, (qB h23), trivial⟩
                 ·
                  refine xw_id ?_; refine xw_stop 1 qS qS (by rfl) fun V v => ?_; refine xw_id ?_; (try simp only [go_sem]); refine v _ ?_; clear v V; refine xw_cut 4 [(1, (.ptr 0 0)), (142, (vb (((!x49.2) || (!decide (x49.1 = a0))) || (decide (a0.Sync < 1)))))] qS qS (by rfl) (fun V v => ?_) fun tz => ?_
                  ·
                   refine xw_id ?_; rcases Bool.eq_false_or_eq_true ((!x49.2) || (!decide (x49.1 = a0))) with h24 | h24
                   ·
                    (try simp only [go_sem, h24]); exact v _ ⟨rfl, rfl, (qB h24), trivial⟩
                   ·
                    (try simp only [go_sem, h24]); exact v _ ⟨rfl, rfl, (qB h24), trivial⟩
                  ·
                   refine xw_id ?_; refine xw_stop 1 qS qS (by rfl) fun V v => ?_; refine xw_id ?_; (try simp only [go_sem]); refine v _ ?_; clear v V; refine xw_cut 4 [(147, (vb ((((!x49.2) || (!decide (x49.1 = a0))) || (decide (a0.Sync < 1))) || (decide (65535 < a0.Sync)))))] qS qS (by rfl) (fun V v => ?_) fun tz => ?_
                   ·
                    refine xw_id ?_; rcases Bool.eq_false_or_eq_true (((!x49.2) || (!decide (x49.1 = a0))) || (decide (a0.Sync < 1))) with h25 | h25
                    ·
                     (try simp only [go_sem, h25]); exact v _ ⟨rfl, (qB h25), trivial⟩
                    ·
                     (try simp only [go_sem, h25]); exact v _ ⟨rfl, (qB h25), trivial⟩
                   ·
                    refine xw_id ?_; (try simp only [go_sem]); refine qU u ?_; clear u U; refine awp_cond (b := ((((!x49.2) || (!decide (x49.1 = a0))) || (decide (a0.Sync < 1))) || (decide (65535 < a0.Sync)))) rfl (fun h26 => ?_) (fun h26 => ?_)
                    ·
                     have h0 := cT h0 h26; refine awp_assoc ?_; refine awp_nw [] fun tz U u => ?_; (try simp only [go_sem]); refine qU u ?_; clear u U; refine awp_ret ?_; obtain rfl := someInj h0; refine endW_i ?_; refine end_ret0 rs23 (rfl) ?_; exact qF
                    ·
                     have h0 := cF h0 h26; refine awp_skip ?_; refine awp_assoc ?_; refine awp_nw [] fun tz U u => ?_; (try simp only [go_sem]); refine qU u ?_; clear u U; refine awp_ret ?_; obtain rfl := someInj h0; refine endW_i ?_; refine end_ret0 rs23 (rfl) ?_; exact qF
                ·
                 have h0 := cF h0 h22; refine awp_skip ?_; refine awp_nw [1] fun tz U u => ?_; (try simp only [go_sem]); refine qU u ?_; clear u U; refine awp_nw [1,6] fun tz U u => ?_; (try simp only [go_sem]); refine u _ (auth_Check_S1 a0) (Wk.canonD [] [] [some 0, some 54] rfl trivial rfl (tmOC 1 (tmOC 0 tmO0 (e_Auth_clean _)) (e_Auth_clean _)) (tmAllU 6 (tmAllU 1 tmAll0 (Tm.ptr rfl)) (Tm.ptr rfl))) ?_; clear u U; unfold auth_Check_S1; refine awp_assoc ?_; refine awp_nw [1,6] fun tz U u => ?_; refine xw_stop 4 qS qS (by rfl) fun V v => ?_; refine xw_id ?_; (try simp only [go_sem]); refine v _ ?_; clear v V; refine xw_cut 8 [(167, (vb ((!decide (({ a0 with Confirm := A16vu.z, Master := A16vu.z, OtherElement := 0, OtherScalar := 0, Sync := 0 } : Auth) = a0)) || (a0.HasToken && (a0.Stage != 1)))))] qS qS (by rfl) (fun V v => ?_) fun tz => ?_
                 ·
                  refine xw_id ?_; rcases Bool.eq_false_or_eq_true (!decide (({ a0 with Confirm := A16vu.z, Master := A16vu.z, OtherElement := 0, OtherScalar := 0, Sync := 0 } : Auth) = a0)) with h27 | h27
                  ·
                   (try simp only [go_sem, h27]); exact v _ ⟨rfl, (qB h27), trivial⟩
                  ·
                   refine xw_stop 3 qS qS (by rfl) fun V v => ?_; refine xw_id ?_; (try simp only [go_sem, h27]); refine v _ ?_; clear v V; refine xw_cut 4 [(159, (vb false)), (166, (vb (a0.HasToken && (a0.Stage != 1))))] qS qS (by rfl) (fun V v => ?_) fun tz => ?_
                   ·
                    refine xw_id ?_; rcases Bool.eq_false_or_eq_true a0.HasToken with h28 | h28
                    ·
                     (try simp only [go_sem, h27, h28]); exact v _ ⟨(by first | rfl | (simp only [h28]; done)), rfl, (qB h28), trivial⟩
                    ·
                     (try simp only [go_sem, h27, h28]); exact v _ ⟨(by first | rfl | (simp only [h28]; done)), rfl, (qB h28), trivial⟩
                   ·
                    refine xw_id ?_; (try simp only [go_sem, h27]); exact v _ ⟨rfl, (qB h27), trivial⟩
                 ·
                  refine xw_id ?_; (try simp only [go_sem]); refine qU u ?_; clear u U; refine awp_cond (b := ((!decide (({ a0 with Confirm := A16vu.z, Master := A16vu.z, OtherElement := 0, OtherScalar := 0, Sync := 0 } : Auth) = a0)) || (a0.HasToken && (a0.Stage != 1)))) rfl (fun h29 => ?_) (fun h29 => ?_)
                  ·
                   have h0 := cT h0 h29; refine awp_assoc ?_; refine awp_nw [] fun tz U u => ?_; (try simp only [go_sem]); refine qU u ?_; clear u U; refine awp_ret ?_; obtain rfl := someInj h0; refine endW_i ?_; refine end_ret0 rs23 (rfl) ?_; exact qF
                  ·
                   have h0 := cF h0 h29; refine awp_skip ?_; refine awp_nw [] fun tz U u => ?_; (try simp only [go_sem]); refine qU u ?_; clear u U; refine awp_ret1 ?_; obtain rfl := someInj h0; refine endW_i ?_; refine end_ret0 rs23 (rfl) ?_; exact qF
theorem hotspotlaw29_one_p {r : A6vu} (h0 : hotspotlaw29_one = some r) : SndP K 27 [] (.agg (e_A6vu r)) := by
 refine SndP.of_walkW hC (Clean.agg (e_A6vu_clean _)) clean_nil (show K.P.funcs[27]? = some Try.f27 from Try.func27) rfl rfl (by decide +kernel) (Nat.le_of_ble_eq_true rfl) ?_; unfold hotspotlaw29_one at h0; refine awp_nw [] fun tz U u => ?_; (try simp only [go_sem]); refine qU u ?_; clear u U; refine awp_nw [0] fun tz U u => ?_; (try simp only [go_sem]); refine qU u ?_; clear u U; refine awp_ret1 ?_; obtain rfl := someInj h0; refine endW_i ?_; refine end_ret0 rs27 qR ?_; exact qF
theorem hotspotlaw29_two_p {r : A6vu} (h0 : hotspotlaw29_two = some r) : SndP K 28 [] (.agg (e_A6vu r)) := by
 refine SndP.of_walkW hC (Clean.agg (e_A6vu_clean _)) clean_nil (show K.P.funcs[28]? = some Try.f28 from Try.func28) rfl rfl (by decide +kernel) (Nat.le_of_ble_eq_true rfl) ?_; unfold hotspotlaw29_two at h0; refine awp_nw [] fun tz U u => ?_; (try simp only [go_sem]); refine qU u ?_; clear u U; refine awp_nw [0] fun tz U u => ?_; (try simp only [go_sem]); refine qU u ?_; clear u U; refine awp_ret1 ?_; obtain rfl := someInj h0; refine endW_i ?_; refine end_ret0 rs28 qR ?_; exact qF
def auth_get_S0 (d8 : Int) : AS :=
 { objs := (fun _ => .dead), next := 0, tmps := (upd (fun _ => .unk) 2 (vq d8)) }

def auth_get_S1 (a0 : (List Int)) (d9 : (Int × Int)) : AS :=
 { objs := (fun _ => .dead), next := 0, tmps := (upd (upd (upd (fun _ => .unk) 0 (.imm (List.map vu a0) a0.length)) 2 (vq d9.1)) 4 (vi d9.2)) }

theorem auth_get_p (a0 : (List Int)) {r : Int} (h0 : auth_get a0 = some r) : SndP K 35 [(S_vu a0)] (vq r) := by
 refine SndP.of_walkW hC (Clean.v _) (clean_cons (S_vu_clean _) clean_nil) (show K.P.funcs[35]? = some Try.f35 from Try.func35) rfl rfl (by decide +kernel) (Nat.le_of_ble_eq_true rfl) ?_; unfold auth_get at h0; refine awp_nw [0] fun tz U u => ?_; (try simp only [go_sem]); refine qU u ?_; clear u U; refine awp_assoc ?_; refine awp_nw [0,2] fun tz U u => ?_; (try simp only [go_sem]); refine qU u ?_; clear u U; obtain ⟨d8, hi1, h0⟩ := bnd h0; refine awp_cut (fun z => d8 = z) (fun d8 : Int => auth_get_S0 d8) ?_ ?_
 ·
  refine awp_block1 ?_; refine awp_loopS (fun n (d9 : (Int × Int)) => auth_get_L2 a0 n d9 = some d8) (fun d9 : (Int × Int) => auth_get_S1 a0 d9) big (0, 0) (Wk.canonD [] [] [] rfl trivial rfl tmO0 (tmAllU 4 (tmAllU 2 (tmAllU 0 tmAll0 (Tm.clean (Clean.imm (vu_clean _)))) (Tm.v _)) (Tm.v _))) hi1 ?_; clear hi1; rintro n d9 hl3; rcases n with _ | n2
  ·
   (rw [auth_get_L2] at hl3; cases hl3)
  ·
   rw [auth_get_L2] at hl3; unfold auth_get_S1; refine awp_nw [0,2,4] fun tz U u => ?_; (try simp only [go_sem]); refine qU u ?_; clear u U; refine awp_cond (b := (decide (d9.2 < 8))) rfl (fun h4 => ?_) (fun h4 => ?_)
   ·
    have hl3 := cT hl3 h4; refine awp_skip ?_; refine awp_blockW ?_; refine awp_nw [0,2,4] fun tz U u => ?_; (try simp only [go_sem]); refine qU u ?_; clear u U; refine awp_nw1 [0,2,3,4] fun tz U u => ?_; obtain ⟨x10, bx10, hl3⟩ := bnd hl3; obtain ⟨fx10_0, fx10_1, fx10_2, fx10_3⟩ := idx_some bx10; obtain ⟨x11, bx11, hl3⟩ := bnd hl3; have bx11 := chk_some bx11; simp only [Bool.and_eq_true, decide_eq_true_eq] at bx11; have gx11_0 := bx11; (try simp only [go_sem, fx10_0, fx10_1, fx10_2, gx11_0]); refine u _ ?_; clear u U; refine bq_n ?_; refine seqW_i ?_; refine awp_nw1 [0,2,4] fun tz U u => ?_; (try simp only [go_sem, fx10_0, fx10_1, fx10_2]); refine u _ ?_; clear u U; refine lq_n ?_; exact ⟨n2, (bor .u64 d9.1 (IntKind.wrap .u64 ((IntKind.wrap .u64 x10) * 2 ^ (min ((IntKind.wrap .i64 (8 * d9.2))).toNat 64))), IntKind.wrap .i64 (d9.2 + 1)), rfl, hl3, (Wk.canonD [] [] [] rfl trivial rfl tmO0 (tmAllU 4 (tmAllU 2 (tmAllU 0 tmAll0 (Tm.clean (Clean.imm (vu_clean _)))) (Tm.v _)) (Tm.v _)))⟩
   ·
    have hl3 := cF hl3 h4; refine awp_exit ?_; refine lq_e ?_; refine bq_e ?_; refine sq_n ?_; obtain rfl := someInj hl3; exact ⟨_, rfl, (Wk.canonD [] [] [] rfl trivial rfl tmO0 (tmAllU 2 tmAll0 (Tm.v _)))⟩
 ·
  rintro _ rfl; clear hi1; unfold auth_get_S0; refine awp_nw [2] fun tz U u => ?_; (try simp only [go_sem]); refine qU u ?_; clear u U; refine awp_ret1 ?_; obtain rfl := someInj h0; refine endW_i ?_; refine end_ret0 rs35 (rfl) ?_; exact qF
theorem bytealg_Compare_p (a0 : List Int) (a1 : List Int) {r : Int} (h0 : bytealg_Compare a0 a1 = some r) : SndP K 79 [(S_vu a0), (S_vu a1)] (vi r) := by
 cases h0; exact cmp_p (show K.P.funcs[79]? = some Try.f79 from Try.func79) rfl rfl rfl rfl a0 a1
theorem bytes_Compare_p (a0 : (List Int)) (a1 : (List Int)) {r : Int} (h0 : bytes_Compare a0 a1 = some r) : SndP K 70 [(S_vu a0), (S_vu a1)] (vi r) := by
 refine SndP.of_walkW hC (Clean.v _) (clean_cons (S_vu_clean _) (clean_cons (S_vu_clean _) clean_nil)) (show K.P.funcs[70]? = some Try.f70 from Try.func70) rfl rfl (by decide +kernel) (Nat.le_of_ble_eq_true rfl) ?_; unfold bytes_Compare at h0; refine awp_nw [0,1] fun tz U u => ?_; (try simp only [go_sem]); refine qU u ?_; clear u U; refine awp_nw [0,1] fun tz U u => ?_; obtain ⟨x32, bx32, h0⟩ := bnd h0; (try simp only [go_sem]); (refine xcall_p (bytealg_Compare_p a0 a1 bx32) ?_; try dsimp only); (try refine xw_id ?_); (try simp only [go_sem]); refine qU u ?_; clear u U; refine awp_ret1 ?_; obtain rfl := someInj h0; refine endW_i ?_; refine end_ret0 rs70 (rfl) ?_; exact qF
theorem address_Compare_p (a0 : A6vu) (a1 : A6vu) {r : Int} (h0 : address_Compare a0 a1 = some r) : SndP K 54 [(.agg (e_A6vu a0)), (.agg (e_A6vu a1))] (vi r) := by
 refine SndP.of_walkW hC (Clean.v _) (clean_cons (Clean.agg (e_A6vu_clean _)) (clean_cons (Clean.agg (e_A6vu_clean _)) clean_nil)) (show K.P.funcs[54]? = some Try.f54 from Try.func54) rfl rfl (by decide +kernel) (Nat.le_of_ble_eq_true rfl) ?_; unfold address_Compare at h0; refine awp_nw [0,1] fun tz U u => ?_; (try simp only [go_sem]); refine qU u ?_; clear u U; refine awp_nw [2,3] fun tz U u => ?_; obtain ⟨x32, bx32, h0⟩ := bnd h0; (try simp only [go_sem, Int.sub_zero, Int.sub_zero]); (refine xcall_L (by first | (simp only [go_sem, fz, Int.sub_zero, Int.sub_zero] <;> rfl) | (simp only [go_sem, fz, List.length_set, ble_self, take_set, cond_true, cond_false, Int.sub_zero, Int.sub_zero] <;> rfl)) (bytes_Compare_p [a0.a0, a0.a1, a0.a2, a0.a3, a0.a4, a0.a5] [a1.a0, a1.a1, a1.a2, a1.a3, a1.a4, a1.a5] bx32) (Bare.v _) ?_; try dsimp only); (try refine xw_id ?_); (try simp only [go_sem, Int.sub_zero, Int.sub_zero]); refine qU u ?_; clear u U; refine awp_ret1 ?_; obtain rfl := someInj h0; refine endW_i ?_; refine end_ret0 rs54 (rfl) ?_; exact qF
def slices_Grow_byte_byte_S0 (a0 : Int) (d38 : Unit) : AS :=
 { objs := (fun _ => .dead), next := 0, tmps := (upd (upd (fun _ => .unk) 0 vnil) 1 (vi a0)) }

theorem slices_Grow_byte_byte_r (a0 : Int) {r : (List Int)} (h0 : slices_Grow_byte_byte a0 = some r) : SndR K 71 [vnil, (vi a0)] (fun q => (.ref (q 0) 0 r.length 1)) [(List.map vu r)] := by
 refine SndR.of_walkW hC (show K.P.funcs[71]? = some Try.f71 from Try.func71) rfl rfl (by decide +kernel) (Nat.le_of_ble_eq_true rfl) ?_; unfold slices_Grow_byte_byte at h0; refine awp_nw [0,1] fun tz U u => ?_; (try simp only [go_sem]); refine qU u ?_; clear u U; refine awp_assoc ?_; refine awp_nw [0,1] fun tz U u => ?_; (try simp only [go_sem]); refine qU u ?_; clear u U; obtain ⟨d38, hi1, h0⟩ := bnd h0; refine awp_cut (fun z => d38 = z) (fun d38 : Unit => slices_Grow_byte_byte_S0 a0 d38) ?_ ?_
 ·
  refine awp_cond1 (b := (decide (a0 < 0))) rfl (fun h2 => ?_) (fun h2 => ?_)
  ·
   have hi1 := cT hi1 h2; refine awp_nw1 [0,1] fun tz U u => ?_; cases hi1
  ·
   have hi1 := cF hi1 h2; refine awp_skip1 ?_; refine sq_n ?_; obtain rfl := someInj hi1; exact ⟨_, rfl, (Wk.canonD [] [] [] rfl trivial rfl tmO0 (tmAllU 1 (tmAllU 0 tmAll0 (Tm.v _)) (Tm.v _)))⟩
 ·
  rintro _ rfl; clear hi1; unfold slices_Grow_byte_byte_S0; refine awp_assoc ?_; refine awp_nw [0,1] fun tz U u => ?_; (try simp only [go_sem, capE]); refine qU u ?_; clear u U; refine awp_assoc ?_; refine awp_nw [0,1] fun tz U u => ?_; (try simp only [go_sem]); refine qU u ?_; clear u U; refine awp_cond (b := (decide (0 < (IntKind.wrap .i64 (a0 - (IntKind.wrap .i64 0)))))) rfl (fun h3 => ?_) (fun h3 => ?_)
  ·
   have h0 := cT h0 h3; refine awp_nw [0,1] fun tz U u => ?_; obtain ⟨x39, bx39, h0⟩ := bnd h0; have bx39 := chk_some bx39; simp only [Bool.and_eq_true, decide_eq_true_eq] at bx39; obtain ⟨gx39_0, gx39_1⟩ := bx39; have gs4 : rep (IntKind.wrap .i64 (a0 - (IntKind.wrap .i64 0))).toNat [vu 0] = List.map vu (List.replicate (IntKind.wrap .i64 (a0 - (IntKind.wrap .i64 0))).toNat 0) := rep_map vu 0 _; have gs4n : ((IntKind.wrap .i64 (a0 - (IntKind.wrap .i64 0))) < 9223372036854775808) = True := eq_true (by omega); have gs5 : ((0 : Int) ≤ (((IntKind.wrap .i64 (a0 - (IntKind.wrap .i64 0))).toNat : Nat) : Int)) = True := eq_true (by omega); (try simp only [go_sem, capE, and_self, gx39_0, gx39_1, gs4, gs4n, appzE, Int.cast_ofNat_Int, Int.mul_one, Int.natCast_one, gs5]); refine qU u ?_; clear u U; refine awp_nw [0] fun tz U u => ?_; (try simp only [go_sem]); (have ht : List.map vu (List.replicate (IntKind.wrap .i64 (a0 - (IntKind.wrap .i64 0))).toNat 0) = List.map vu (List.take 0 (List.replicate (IntKind.wrap .i64 (a0 - (IntKind.wrap .i64 0))).toNat 0)) ++ List.map vu (List.drop 0 (List.replicate (IntKind.wrap .i64 (a0 - (IntKind.wrap .i64 0))).toNat 0)) := by rw [← List.map_append, List.take_append_drop]); refine u _ _ (Wk.trim 15 ?_ ht) ?_
   ·
    simp only [upd_get, Nat.reduceEqDiff, reduceIte, if_true, if_false] <;> rfl
   clear u U ht; refine awp_ret1 ?_; obtain rfl := someInj h0; refine endW_i ?_; refine end_ret0 rs71 (rfl) ?_; refine Res.mk [] [some 15] rfl (resOU List.not_mem_nil rfl (TmL.of_eq qL (vu_clean _)) resO0) (Tm.refL rfl ?_); (all_goals (first | rfl | (simp only [List.length_append, List.length_take, List.length_drop, List.length_cons, List.length_nil, List.length_modify, List.length_set, Nat.zero_add] <;> omega) | omega))
  ·
   have h0 := cF h0 h3; refine awp_skip ?_; refine awp_nw [0] fun tz U u => ?_; (try simp only [go_sem]); refine qU u ?_; clear u U; refine awp_ret1 ?_; obtain rfl := someInj h0; refine endW_i ?_; refine end_ret0 rs71 (rfl) ?_; refine Res.mk [] [none] rfl (resON resO0) (Tm.thaw _ _ _)

theorem slices_Grow_byte_byte_m (a0 : Int) {r : (List Int)} (h0 : slices_Grow_byte_byte a0 = some r) : SndM K 71 [vnil, (vi a0)] (fun q => (.ref (q 0) 0 r.length 1)) [(List.map vu r)] :=
 fun hs => Snd.of_newM (RenM.ref 0 0 _ _) (rows_all_cons (vu_clean _) rows_all_nil) (clean_cons (Clean.v _) (clean_cons (Clean.v _) clean_nil)) (slices_Grow_byte_byte_r a0 h0) hs

theorem slices_Grow_byte_byte_e (a0 : Int) {r : (List Int)} (h0 : slices_Grow_byte_byte a0 = some r) (fr : Nat) (hs : HS) : SndE K 71 [vnil, (vi a0)] hs fr ⟨(fun q : Nat → Nat => (.ref (q 0) 0 r.length 1)) fun _ => fr, .new (List.map vu r)⟩ :=
 SndE.of_res (RenM.ref 0 0 _ _) (vu_clean _) (clean_cons (Clean.v _) (clean_cons (Clean.v _) clean_nil)) (fun a b h => by simp only [h]) (slices_Grow_byte_byte_r a0 h0) hs fr

theorem slices_Grow_byte_byte_p (a0 : Int) {r : (List Int)} (h0 : slices_Grow_byte_byte a0 = some r) : SndP K 71 [vnil, (vi a0)] (S_vu r) :=
 SndM.pure (slices_Grow_byte_byte_m a0 h0) (S_vu_clean _) (clean_cons (Clean.v _) (clean_cons (Clean.v _) clean_nil)) (by simp only [go_sem, newL_n, newL_c, upd_get, fz, nilS, cond_true, cond_false, List.drop_zero, List.take_length, List.length_map, ble_self] <;> rfl)
def slices_Concat_byte_byte_S0 (a0 : (List (List Int))) (d35 : Int) : AS :=
 { objs := (fun _ => .dead), next := 0, tmps := (upd (upd (fun _ => .unk) 0 (.imm (List.map S_vu a0) a0.length)) 3 (vi d35)) }

def slices_Concat_byte_byte_S1 (a0 : (List (List Int))) (d36 : (Int × Int)) : AS :=
 { objs := (fun _ => .dead), next := 0, tmps := (upd (upd (upd (upd (upd (fun _ => .unk) 0 (.imm (List.map S_vu a0) a0.length)) 3 (vi d36.1)) 9 (.imm (List.map S_vu a0) a0.length)) 10 (vi (a0.length : Int))) 11 (vi d36.2)) }

def slices_Concat_byte_byte_S3 (d39 : (List Int)) : AS :=
 { objs := (upd (fun _ => .dead) 0 (.live (List.map vu d39))), next := 1, tmps := (upd (fun _ => .unk) 6 (.ref 0 0 ((d39).length) 1)) }

def slices_Concat_byte_byte_S4 (a0 : (List (List Int))) (d40 : (List Int × Int)) : AS :=
 { objs := (upd (fun _ => .dead) 0 (.live (List.map vu d40.1))), next := 1, tmps := (upd (upd (upd (upd (fun _ => .unk) 6 (.ref 0 0 ((d40.1).length) 1)) 25 (.imm (List.map S_vu a0) a0.length)) 26 (vi (a0.length : Int))) 27 (vi d40.2)) }

theorem slices_Concat_byte_byte_r (a0 : (List (List Int))) {r : (List Int)} (h0 : slices_Concat_byte_byte a0 = some r) : SndR K 55 [(S_S_vu a0)] (fun q => (.ref (q 0) 0 r.length 1)) [(List.map vu r)] := by
 refine SndR.of_walkW hC (show K.P.funcs[55]? = some Try.f55 from Try.func55) rfl rfl (by decide +kernel) (Nat.le_of_ble_eq_true rfl) ?_; unfold slices_Concat_byte_byte at h0; refine awp_nw [0] fun tz U u => ?_; (try simp only [go_sem]); refine qU u ?_; clear u U; refine awp_nw [0] fun tz U u => ?_; (try simp only [go_sem]); refine qU u ?_; clear u U; refine awp_assoc ?_; refine awp_nw [0,3] fun tz U u => ?_; (try simp only [go_sem]); refine qU u ?_; clear u U; obtain ⟨d35, hi1, h0⟩ := bnd h0; refine awp_cut (fun z => d35 = z) (fun d35 : Int => slices_Concat_byte_byte_S0 a0 d35) ?_ ?_
 ·
  refine awp_block1 ?_; refine awp_loopS (fun n (d36 : (Int × Int)) => slices_Concat_byte_byte_L2 a0 n d36 = some d35) (fun d36 : (Int × Int) => slices_Concat_byte_byte_S1 a0 d36) big (0, 0) (Wk.canonD [] [] [] rfl trivial rfl tmO0 (tmAllU 11 (tmAllU 10 (tmAllU 9 (tmAllU 3 (tmAllU 0 tmAll0 (Tm.clean (Clean.imm (cS_vu _)))) (Tm.v _)) (Tm.clean (Clean.imm (cS_vu _)))) (Tm.v _)) (Tm.v _))) hi1 ?_; clear hi1; rintro n d36 hl3; rcases n with _ | n2
  ·
   (rw [slices_Concat_byte_byte_L2] at hl3; cases hl3)
  ·
   rw [slices_Concat_byte_byte_L2] at hl3; unfold slices_Concat_byte_byte_S1; refine awp_nw [0,3,9,10,11] fun tz U u => ?_; (try simp only [go_sem]); refine qU u ?_; clear u U; refine awp_cond (b := (decide (d36.2 < (a0.length : Int)))) rfl (fun h4 => ?_) (fun h4 => ?_)
   ·
    have hl3 := cT hl3 h4; refine awp_skip ?_; refine awp_blockW ?_; refine awp_nw [0,3,9,10,11] fun tz U u => ?_; obtain ⟨x37, bx37, hl3⟩ := bnd hl3; obtain ⟨fx37_0, fx37_1, fx37_2, fx37_3⟩ := idx_some bx37; (have fx37_9 : (List.map S_vu a0)[(d36.2).toNat]? = some (S_vu x37) := by rw [List.getElem?_map, fx37_2]; rfl); (try simp only [go_sem, fx37_0, fx37_1, fx37_2, fx37_9]); refine qU u ?_; clear u U; refine awp_nw [0,3,5,9,10,11] fun tz U u => ?_; (try simp only [go_sem, fx37_0, fx37_1, fx37_2, fx37_9]); refine qU u ?_; clear u U; refine awp_nw [0,3,9,10,11] fun tz U u => ?_; (try simp only [go_sem, fx37_0, fx37_1, fx37_2, fx37_9]); refine qU u ?_; clear u U; refine awp_cond1 (b := (decide ((IntKind.wrap .i64 (d36.1 + (x37.length : Int))) < 0))) rfl (fun h5 => ?_) (fun h5 => ?_)
    ·
     have hl3 := cT hl3 h5; refine awp_nw1 [0,3,9,10,11] fun tz U u => ?_; cases hl3
    ·
     have hl3 := cF hl3 h5; refine awp_skip1 ?_; refine bq_n ?_; refine seqW_i ?_; refine awp_nw1 [0,3,9,10,11] fun tz U u => ?_; (try simp only [go_sem, fx37_0, fx37_1, fx37_2, fx37_9]); refine u _ ?_; clear u U; refine lq_n ?_; exact ⟨n2, (IntKind.wrap .i64 (d36.1 + (x37.length : Int)), IntKind.wrap .i64 (d36.2 + 1)), rfl, hl3, (Wk.canonD [] [] [] rfl trivial rfl tmO0 (tmAllU 11 (tmAllU 10 (tmAllU 9 (tmAllU 3 (tmAllU 0 tmAll0 (Tm.clean (Clean.imm (cS_vu _)))) (Tm.v _)) (Tm.clean (Clean.imm (cS_vu _)))) (Tm.v _)) (Tm.v _)))⟩
   ·
    have hl3 := cF hl3 h4; refine awp_exit ?_; refine lq_e ?_; refine bq_e ?_; refine sq_n ?_; obtain rfl := someInj hl3; exact ⟨_, rfl, (Wk.canonD [] [] [] rfl trivial rfl tmO0 (tmAllU 3 (tmAllU 0 tmAll0 (Tm.clean (Clean.imm (cS_vu _)))) (Tm.v _)))⟩
 ·
  rintro _ rfl; clear hi1; unfold slices_Concat_byte_byte_S0; refine awp_nw [0,3] fun tz U u => ?_; obtain ⟨x38, bx38, h0⟩ := bnd h0; (try simp only [go_sem]); (refine xcall_M (slices_Grow_byte_byte_m d35 bx38) ?_; try dsimp only); (try refine xw_id ?_); (try simp only [go_sem]); refine qU u ?_; clear u U; refine awp_assoc ?_; refine awp_nw [0,6] fun tz U u => ?_; (try simp only [go_sem]); refine qU u ?_; clear u U; obtain ⟨d39, hi6, h0⟩ := bnd h0; refine awp_cut (fun z => d39 = z) (fun d39 : (List Int) => slices_Concat_byte_byte_S3 d39) ?_ ?_
  ·
   refine awp_block1 ?_; refine awp_loopS (fun n (d40 : (List Int × Int)) => slices_Concat_byte_byte_L5 a0 n d40 = some d39) (fun d40 : (List Int × Int) => slices_Concat_byte_byte_S4 a0 d40) big (x38, 0) (by refine Wk.canonD [] [] [some 3] rfl trivial rfl (tmOE 0 tmO0 (vu_clean _)) (tmAllU 27 (tmAllU 26 (tmAllU 25 (tmAllU 6 tmAll0 (Tm.refL rfl ?_)) (Tm.clean (Clean.imm (cS_vu _)))) (Tm.v _)) (Tm.v _)); all_goals (first | rfl | (simp only [List.length_append, List.length_take, List.length_drop, List.length_cons, List.length_nil, List.length_modify, List.length_set, Nat.zero_add] <;> omega) | omega)) hi6 ?_; clear hi6; rintro n d40 hl8; rcases n with _ | n7
   ·
    (rw [slices_Concat_byte_byte_L5] at hl8; cases hl8)
   ·
    rw [slices_Concat_byte_byte_L5] at hl8; unfold slices_Concat_byte_byte_S4; refine awp_nw [6,25,26,27] fun tz U u => ?_; (try simp only [go_sem]); refine qU u ?_; clear u U; refine awp_cond (b := (decide (d40.2 < (a0.length : Int)))) rfl (fun h9 => ?_) (fun h9 => ?_)
    ·
     have hl8 := cT hl8 h9; refine awp_skip ?_; refine awp_blockW ?_; refine awp_nw [6,25,26,27] fun tz U u => ?_; obtain ⟨x41, bx41, hl8⟩ := bnd hl8; obtain ⟨fx41_0, fx41_1, fx41_2, fx41_3⟩ := idx_some bx41; (have fx41_9 : (List.map S_vu a0)[(d40.2).toNat]? = some (S_vu x41) := by rw [List.getElem?_map, fx41_2]; rfl); (try simp only [go_sem, fx41_0, fx41_1, fx41_2, fx41_9]); refine qU u ?_; clear u U; refine awp_nw1 [6,8,25,26,27] fun tz U u => ?_; obtain ⟨x42, bx42, hl8⟩ := bnd hl8; have bx42 := chk_some bx42; simp only [Bool.and_eq_true, decide_eq_true_eq] at bx42; have gx42_0 := bx42; (try simp only [go_sem, fx41_0, fx41_1, fx41_2, fx41_9, gx42_0]); refine u _ ?_; clear u U; refine bq_n ?_; refine seqW_i ?_; refine awp_nw1 [6,25,26,27] fun tz U u => ?_; (try simp only [go_sem, fx41_0, fx41_1, fx41_2, fx41_9]); refine u _ ?_; clear u U; refine lq_n ?_; exact ⟨n7, ((d40.1 ++ x41), IntKind.wrap .i64 (d40.2 + 1)), rfl, hl8, (by refine Wk.canonD [] [] [some 7] rfl trivial rfl (tmOE 0 tmO0 (vu_clean _)) (tmAllU 27 (tmAllU 26 (tmAllU 25 (tmAllU 6 tmAll0 (Tm.refL rfl ?_)) (Tm.clean (Clean.imm (cS_vu _)))) (Tm.v _)) (Tm.v _)); all_goals (first | rfl | (simp only [List.length_append, List.length_take, List.length_drop, List.length_cons, List.length_nil, List.length_modify, List.length_set, Nat.zero_add] <;> omega) | omega))⟩
    ·
     have hl8 := cF hl8 h9; refine awp_exit ?_; refine lq_e ?_; refine bq_e ?_; refine sq_n ?_; obtain rfl := someInj hl8; exact ⟨_, rfl, (by refine Wk.canonD [] [] [some 0] rfl trivial rfl (tmOE 0 tmO0 (vu_clean _)) (tmAllU 6 tmAll0 (Tm.refL rfl ?_)); all_goals (first | rfl | (simp only [List.length_append, List.length_take, List.length_drop, List.length_cons, List.length_nil, List.length_modify, List.length_set, Nat.zero_add] <;> omega) | omega))⟩
  ·
   rintro _ rfl; clear hi6; unfold slices_Concat_byte_byte_S3; refine awp_nw [6] fun tz U u => ?_; (try simp only [go_sem]); refine qU u ?_; clear u U; refine awp_ret1 ?_; obtain rfl := someInj h0; refine endW_i ?_; refine end_ret0 rs55 (rfl) ?_; refine Res.mk [] [some 0] rfl (resOU List.not_mem_nil rfl (TmL.of_eq qL (vu_clean _)) resO0) (Tm.refL rfl ?_); (all_goals (first | rfl | (simp only [List.length_append, List.length_take, List.length_drop, List.length_cons, List.length_nil, List.length_modify, List.length_set, Nat.zero_add] <;> omega) | omega))

theorem slices_Concat_byte_byte_m (a0 : (List (List Int))) {r : (List Int)} (h0 : slices_Concat_byte_byte a0 = some r) : SndM K 55 [(S_S_vu a0)] (fun q => (.ref (q 0) 0 r.length 1)) [(List.map vu r)] :=
 fun hs => Snd.of_newM (RenM.ref 0 0 _ _) (rows_all_cons (vu_clean _) rows_all_nil) (clean_cons (S_S_vu_clean _) clean_nil) (slices_Concat_byte_byte_r a0 h0) hs

theorem slices_Concat_byte_byte_e (a0 : (List (List Int))) {r : (List Int)} (h0 : slices_Concat_byte_byte a0 = some r) (fr : Nat) (hs : HS) : SndE K 55 [(S_S_vu a0)] hs fr ⟨(fun q : Nat → Nat => (.ref (q 0) 0 r.length 1)) fun _ => fr, .new (List.map vu r)⟩ :=
 SndE.of_res (RenM.ref 0 0 _ _) (vu_clean _) (clean_cons (S_S_vu_clean _) clean_nil) (fun a b h => by simp only [h]) (slices_Concat_byte_byte_r a0 h0) hs fr

theorem slices_Concat_byte_byte_p (a0 : (List (List Int))) {r : (List Int)} (h0 : slices_Concat_byte_byte a0 = some r) : SndP K 55 [(S_S_vu a0)] (S_vu r) :=
 SndM.pure (slices_Concat_byte_byte_m a0 h0) (S_vu_clean _) (clean_cons (S_S_vu_clean _) clean_nil) (by simp only [go_sem, newL_n, newL_c, upd_get, fz, nilS, cond_true, cond_false, List.drop_zero, List.take_length, List.length_map, ble_self] <;> rfl)
def derive_Input_2_S0 (x47 : (List Int)) : AS :=
 { objs := (upd (fun _ => .dead) 0 (.live (List.map vu x47))), next := 1, tmps := (upd (fun _ => .unk) 6 (.ref 0 0 x47.length 1)) }

theorem derive_Input_2_r (a0 : (List Int)) (a1 : Int) {r : (List Int)} (h0 : derive_Input_2 a0 a1 = some r) : SndR K 65 [(.v (.string ⟨#[112, 97, 115, 115, 119, 111, 114, 100]⟩)), (S_vu a0), (vi a1)] (fun q => (.ref (q 0) 0 r.length 1)) [(List.map vu r)] := by
 refine SndR.of_walkW hC (show K.P.funcs[65]? = some Try.f65 from Try.func65) rfl rfl (by decide +kernel) (Nat.le_of_ble_eq_true rfl) ?_; unfold derive_Input_2 at h0; refine awp_nw [0,1,2] fun tz U u => ?_; (try simp only [go_sem]); refine qU u ?_; clear u U; refine awp_nw [0,1,2] fun tz U u => ?_; (have gs1 : (⟨#[112, 97, 115, 115, 119, 111, 114, 100]⟩ : ByteArray).size = 8 := by rfl); (have gs2 : sbE K.P 9 29 (.v (.string ⟨#[112, 97, 115, 115, 119, 111, 114, 100]⟩)) = some (.imm (List.map vu [112, 97, 115, 115, 119, 111, 114, 100]) 8) := by kernel_rfl); obtain ⟨x45, bx45, h0⟩ := bnd h0; (try simp only [go_sem, gs1, gs2]); (refine xcall_M (derive_two_m (a0.length : Int) bx45) ?_; try dsimp only); (try refine xw_id ?_); obtain ⟨x46, bx46, h0⟩ := bnd h0; (try simp only [go_sem, gs1, gs2]); (refine xcall_M (derive_two_m a1 bx46) ?_; try dsimp only); (try refine xw_id ?_); obtain ⟨x47, bx47, h0⟩ := bnd h0; (try simp only [go_sem, gs1, gs2]); (refine xcall_ML (by first | (simp only [go_sem, fz, nilS, cond_true, cond_false, gs1, gs2] <;> rfl) | (simp only [go_sem, fz, List.length_set, ble_self, take_set, cond_true, cond_false, gs1, gs2] <;> rfl)) (derive_join_m [[IntKind.wrap .u8 8], [112, 97, 115, 115, 119, 111, 114, 100], x45, a0, x46] bx47) (fun _ => by repeat' (first | exact NoV.v _ | exact NoV.ref _ _ _ _ | exact NoV.onil | refine NoV.ocons ?_ ?_ | exact NoV.nil | refine NoV.tup ?_ | refine NoV.agg ?_ | refine NoV.rows (fun _ => ?_) _ | refine NoV.maps (fun _ => ?_) _ | refine NoV.cons ?_ ?_)) (by repeat' (first | exact NoV.v _ | exact NoV.ref _ _ _ _ | exact NoV.onil | refine NoV.ocons ?_ ?_ | exact NoV.nil | refine NoV.tup ?_ | refine NoV.agg ?_ | refine NoV.rows (fun _ => ?_) _ | refine NoV.maps (fun _ => ?_) _ | refine NoV.cons ?_ ?_)) ?_; try dsimp only); (try refine xw_id ?_); (try simp only [go_sem, gs1, gs2]); refine u _ (derive_Input_2_S0 x47) (by refine Wk.canonD [] [] [some 18] rfl trivial rfl (tmOE 0 tmO0 (vu_clean _)) (tmAllU 6 tmAll0 (Tm.refL rfl ?_)); all_goals (first | rfl | (simp only [List.length_append, List.length_take, List.length_drop, List.length_cons, List.length_nil, List.length_modify, List.length_set, Nat.zero_add] <;> omega) | omega)) ?_; clear u U; unfold derive_Input_2_S0; refine awp_ret1 ?_; obtain rfl := someInj h0; refine endW_i ?_; refine end_ret0 rs65 (rfl) ?_; refine Res.mk [] [some 0] rfl (resOU List.not_mem_nil rfl (TmL.of_eq qL (vu_clean _)) resO0) (Tm.refL rfl ?_); (all_goals (first | rfl | (simp only [List.length_append, List.length_take, List.length_drop, List.length_cons, List.length_nil, List.length_modify, List.length_set, Nat.zero_add] <;> omega) | omega))

theorem derive_Input_2_m (a0 : (List Int)) (a1 : Int) {r : (List Int)} (h0 : derive_Input_2 a0 a1 = some r) : SndM K 65 [(.v (.string ⟨#[112, 97, 115, 115, 119, 111, 114, 100]⟩)), (S_vu a0), (vi a1)] (fun q => (.ref (q 0) 0 r.length 1)) [(List.map vu r)] :=
 fun hs => Snd.of_newM (RenM.ref 0 0 _ _) (rows_all_cons (vu_clean _) rows_all_nil) (clean_cons (Clean.v _) (clean_cons (S_vu_clean _) (clean_cons (Clean.v _) clean_nil))) (derive_Input_2_r a0 a1 h0) hs

theorem derive_Input_2_e (a0 : (List Int)) (a1 : Int) {r : (List Int)} (h0 : derive_Input_2 a0 a1 = some r) (fr : Nat) (hs : HS) : SndE K 65 [(.v (.string ⟨#[112, 97, 115, 115, 119, 111, 114, 100]⟩)), (S_vu a0), (vi a1)] hs fr ⟨(fun q : Nat → Nat => (.ref (q 0) 0 r.length 1)) fun _ => fr, .new (List.map vu r)⟩ :=
 SndE.of_res (RenM.ref 0 0 _ _) (vu_clean _) (clean_cons (Clean.v _) (clean_cons (S_vu_clean _) (clean_cons (Clean.v _) clean_nil))) (fun a b h => by simp only [h]) (derive_Input_2_r a0 a1 h0) hs fr

theorem derive_Input_2_p (a0 : (List Int)) (a1 : Int) {r : (List Int)} (h0 : derive_Input_2 a0 a1 = some r) : SndP K 65 [(.v (.string ⟨#[112, 97, 115, 115, 119, 111, 114, 100]⟩)), (S_vu a0), (vi a1)] (S_vu r) :=
 SndM.pure (derive_Input_2_m a0 a1 h0) (S_vu_clean _) (clean_cons (Clean.v _) (clean_cons (S_vu_clean _) (clean_cons (Clean.v _) clean_nil))) (by simp only [go_sem, newL_n, newL_c, upd_get, fz, nilS, cond_true, cond_false, List.drop_zero, List.take_length, List.length_map, ble_self] <;> rfl)
def derive_Expand_2_S0 (a2 : Int) (d44 : (List Int)) : AS :=
 { objs := (upd (fun _ => .dead) 0 (.live (List.map vu d44))), next := 1, tmps := (upd (upd (fun _ => .unk) 3 (vi a2)) 10 (.ref 0 0 ((d44).length) 1)) }

def derive_Expand_2_S1 (a0 : A16vu) (a1 : (List Int)) (a2 : Int) (d45 : (List Int × Int)) : AS :=
 { objs := (upd (upd (fun _ => .dead) 0 (.live (e_A16vu a0))) 1 (.live (List.map vu d45.1))), next := 2, tmps := (upd (upd (upd (upd (upd (upd (fun _ => .unk) 1 (.v (.string ⟨#[112, 97, 115, 115, 119, 111, 114, 100]⟩))) 2 (.imm (List.map vu a1) a1.length)) 3 (vi a2)) 4 (.ptr 0 0)) 10 (.ref 1 0 ((d45.1).length) 1)) 11 (vi d45.2)) }

def derive_Expand_2_S3 (a0 : A16vu) (d45 : (List Int × Int)) (x47 : A16vu) (a1 : (List Int)) (a2 : Int) : AS :=
 { objs := (upd (upd (upd (fun _ => .dead) 0 (.live (e_A16vu a0))) 1 (.live (List.map vu d45.1))) 2 (.live (e_A16vu x47))), next := 3, tmps := (upd (upd (upd (upd (upd (upd (upd (fun _ => .unk) 1 (.v (.string ⟨#[112, 97, 115, 115, 119, 111, 114, 100]⟩))) 2 (.imm (List.map vu a1) a1.length)) 3 (vi a2)) 4 (.ptr 0 0)) 10 (.ref 1 0 d45.1.length 1)) 11 (vi d45.2)) 12 (.ptr 2 0)) }

theorem derive_Expand_2_r (a0 : A16vu) (a1 : (List Int)) (a2 : Int) {r : ((List Int) × Int)} (h0 : derive_Expand_2 a0 a1 a2 = some r) : SndR K 44 [(.agg (e_A16vu a0)), (.v (.string ⟨#[112, 97, 115, 115, 119, 111, 114, 100]⟩)), (S_vu a1), (vi a2)] (fun q => (.tup [(.ref (q 0) 0 r.1.length 1), (vi r.2)])) [(List.map vu r.1)] := by
 refine SndR.of_walkW hC (show K.P.funcs[44]? = some Try.f44 from Try.func44) rfl rfl (by decide +kernel) (Nat.le_of_ble_eq_true rfl) ?_; unfold derive_Expand_2 at h0; refine awp_nw [0,1,2,3] fun tz U u => ?_; (try simp only [go_sem]); refine qU u ?_; clear u U; refine awp_assoc ?_; refine awp_nw [1,2,3,4] fun tz U u => ?_; (try simp only [go_sem]); refine qU u ?_; clear u U; refine awp_cond (b := (decide (a2 < 0))) rfl (fun h1 => ?_) (fun h1 => ?_)
 ·
  have h0 := cT h0 h1; refine awp_assoc ?_; refine awp_nw [] fun tz U u => ?_; (try simp only [go_sem]); refine qU u ?_; clear u U; refine awp_ret ?_; obtain rfl := someInj h0; refine endW_i ?_; refine end_ret0 rs44 (rfl) ?_; refine Res.mk [] [none] rfl (resON resO0) (Tm.tup (TmL.cons (Tm.thaw _ _ _) (TmL.cons (Tm.v _) TmL.nil)))
 ·
  have h0 := cF h0 h1; refine awp_skip ?_; refine awp_assoc ?_; refine awp_nw [1,2,3,4] fun tz U u => ?_; (have gs2 : (⟨#[112, 97, 115, 115, 119, 111, 114, 100]⟩ : ByteArray).size = 8 := by rfl); refine xw_stop 9 qS qS (by rfl) fun V v => ?_; refine xw_id ?_; (try simp only [go_sem, gs2]); refine v _ ?_; clear v V; refine xw_cut 3 [(1, (.v (.string ⟨#[112, 97, 115, 115, 119, 111, 114, 100]⟩))), (2, (.imm (List.map vu a1) a1.length)), (3, (vi a2)), (4, (.ptr 0 0)), (26, (vb ((decide (256 < (a1.length : Int))) || (decide (1024 < a2)))))] qS qS (by rfl) (fun V v => ?_) fun tz => ?_
  ·
   refine xw_id ?_; rcases Bool.eq_false_or_eq_true (decide (256 < (a1.length : Int))) with h3 | h3
   ·
    (try simp only [go_sem, gs2, h3]); exact v _ ⟨rfl, rfl, rfl, rfl, rfl, (qB h3), trivial⟩
   ·
    (try simp only [go_sem, gs2, h3]); exact v _ ⟨rfl, rfl, rfl, rfl, rfl, (qB h3), trivial⟩
  ·
   refine xw_id ?_; (try simp only [go_sem, gs2]); refine qU u ?_; clear u U; refine awp_cond (b := ((decide (256 < (a1.length : Int))) || (decide (1024 < a2)))) rfl (fun h4 => ?_) (fun h4 => ?_)
   ·
    have h0 := cT h0 h4; refine awp_assoc ?_; refine awp_nw [] fun tz U u => ?_; (try simp only [go_sem]); refine qU u ?_; clear u U; refine awp_ret ?_; obtain rfl := someInj h0; refine endW_i ?_; refine end_ret0 rs44 (rfl) ?_; refine Res.mk [] [none] rfl (resON resO0) (Tm.tup (TmL.cons (Tm.thaw _ _ _) (TmL.cons (Tm.v _) TmL.nil)))
   ·
    have h0 := cF h0 h4; refine awp_skip ?_; refine awp_nw [1,2,3,4] fun tz U u => ?_; (try simp only [go_sem]); refine qU u ?_; clear u U; refine awp_assoc ?_; refine awp_nw [1,2,3,4,10] fun tz U u => ?_; (try simp only [go_sem]); refine qU u ?_; clear u U; obtain ⟨d44, hi5, h0⟩ := bnd h0; refine awp_cut (fun z => d44 = z) (fun d44 : (List Int) => derive_Expand_2_S0 a2 d44) ?_ ?_
    ·
     refine awp_block1 ?_; refine awp_loopS (fun n (d45 : (List Int × Int)) => derive_Expand_2_L2 a2 a1 a0 n d45 = some d44) (fun d45 : (List Int × Int) => derive_Expand_2_S1 a0 a1 a2 d45) big ([], 0) (Wk.canonD [] [] [some 0, none] rfl trivial rfl (tmON 1 (tmOC 0 tmO0 (e_A16vu_clean _)) rfl) (tmAllU 11 (tmAllU 10 (tmAllU 4 (tmAllU 3 (tmAllU 2 (tmAllU 1 tmAll0 (Tm.v _)) (Tm.clean (Clean.imm (vu_clean _)))) (Tm.v _)) (Tm.ptr rfl)) (Tm.thaw _ _ _)) (Tm.v _))) hi5 ?_; clear hi5; rintro n d45 hl7; rcases n with _ | n6
     ·
      (rw [derive_Expand_2_L2] at hl7; cases hl7)
     ·
      rw [derive_Expand_2_L2] at hl7; unfold derive_Expand_2_S1; refine awp_assoc ?_; refine awp_nw [1,2,3,4,10,11] fun tz U u => ?_; (try simp only [go_sem]); refine qU u ?_; clear u U; refine awp_cond (b := (decide ((((d45.1).length : Nat) : Int) < a2))) rfl (fun h8 => ?_) (fun h8 => ?_)
      ·
       have hl7 := cT hl7 h8; refine awp_skip ?_; refine awp_blockW ?_; refine awp_nr [1,2,3,4,10,11] (fun _ => rfl) fun tz => ?_; refine awp_regDW fun U u all hall => ?_; refine xd_id ?_; (try simp only [List.toList_toArray, List.map_cons, List.map_nil, List.size_toArray, List.length_cons, List.length_nil, Nat.zero_add]); (try simp only [Nat.reduceAdd]); obtain ⟨x46, bx46, hl7⟩ := bnd hl7; (iterate 3 ((try simp only [go_sem, -Nat.reduceAdd]); try simp only [Nat.reduceAdd])); (refine xcallD_E (derive_Input_2_e a1 d45.2 bx46 _) ?_; try dsimp only); (try refine xd_id ?_); obtain ⟨x47, bx47, hl7⟩ := bnd hl7; (iterate 3 ((try simp only [go_sem, -Nat.reduceAdd]); try simp only [Nat.reduceAdd])); (refine xcallD_L (by first | (simp only [go_sem, fz] <;> rfl) | (simp only [go_sem, fz, List.length_set, ble_self, take_set, cond_true, cond_false] <;> rfl)) (by first | (simp only [go_sem, reach] <;> rfl)) (derive_Mac_p a0 x46 bx47) (bare_ok (by rfl)) ?_; try dsimp only); (try refine xd_id ?_); (iterate 3 ((try simp only [go_sem, -Nat.reduceAdd]); try simp only [Nat.reduceAdd])); refine And.intro ?_ (u _ (derive_Expand_2_S3 a0 d45 x47 a1 a2) (by refine Wk.canonD [] [] [some 0, some 1, some 12] rfl trivial rfl (tmOC 2 (tmOE 1 (tmOC 0 tmO0 (e_A16vu_clean _)) (vu_clean _)) (e_A16vu_clean _)) (tmAllU 12 (tmAllU 11 (tmAllU 10 (tmAllU 4 (tmAllU 3 (tmAllU 2 (tmAllU 1 tmAll0 (Tm.v _)) (Tm.clean (Clean.imm (vu_clean _)))) (Tm.v _)) (Tm.ptr rfl)) (Tm.refL rfl ?_)) (Tm.v _)) (Tm.ptr rfl)); all_goals (first | rfl | (simp only [List.length_append, List.length_take, List.length_drop, List.length_cons, List.length_nil, List.length_modify, List.length_set, Nat.zero_add] <;> omega) | omega)) ?_)
       ·
        subst hall; clear u U; exact qP
       ·
        clear u U hall all; unfold derive_Expand_2_S3; refine awp_nw1 [1,2,3,4,10,11,12] fun tz U u => ?_; obtain ⟨x48, bx48, hl7⟩ := bnd hl7; have bx48 := chk_some bx48; simp only [Bool.and_eq_true, decide_eq_true_eq] at bx48; have gx48_0 := bx48; (try simp only [List.cons_append, List.nil_append, List.length_append, List.length_cons, List.length_nil, Nat.zero_add, Nat.reduceAdd, Nat.add_assoc, Nat.reduceLeDiff] at gx48_0); (try simp only [go_sem, Int.sub_zero, gx48_0, List.length_append, vu_len]); refine u _ ?_; clear u U; refine bq_n ?_; refine seqW_i ?_; refine awp_nw1 [1,2,3,4,10,11] fun tz U u => ?_; (try simp only [go_sem]); refine u _ ?_; clear u U; refine lq_n ?_; exact ⟨n6, ((d45.1 ++ [x47.a0, x47.a1, x47.a2, x47.a3, x47.a4, x47.a5, x47.a6, x47.a7, x47.a8, x47.a9, x47.a10, x47.a11, x47.a12, x47.a13, x47.a14, x47.a15]), IntKind.wrap .i64 (d45.2 + 1)), rfl, hl7, (by refine Wk.canonD [] [] [some 0, some 5] rfl trivial rfl (tmOE 1 (tmOC 0 tmO0 (e_A16vu_clean _)) (vu_clean _)) (tmAllU 11 (tmAllU 10 (tmAllU 4 (tmAllU 3 (tmAllU 2 (tmAllU 1 tmAll0 (Tm.v _)) (Tm.clean (Clean.imm (vu_clean _)))) (Tm.v _)) (Tm.ptr rfl)) (Tm.refL rfl ?_)) (Tm.v _)); all_goals (first | rfl | (simp only [List.length_append, List.length_take, List.length_drop, List.length_cons, List.length_nil, List.length_modify, List.length_set, Nat.zero_add] <;> omega) | omega))⟩
      ·
       have hl7 := cF hl7 h8; refine awp_exit ?_; refine lq_e ?_; refine bq_e ?_; refine sq_n ?_; obtain rfl := someInj hl7; exact ⟨_, rfl, (by refine Wk.canonD [] [] [some 1] rfl trivial rfl (tmOE 0 tmO0 (vu_clean _)) (tmAllU 10 (tmAllU 3 tmAll0 (Tm.v _)) (Tm.refL rfl ?_)); all_goals (first | rfl | (simp only [List.length_append, List.length_take, List.length_drop, List.length_cons, List.length_nil, List.length_modify, List.length_set, Nat.zero_add] <;> omega) | omega))⟩
    ·
     rintro _ rfl; clear hi5; unfold derive_Expand_2_S0; refine awp_nw [3,10] fun tz U u => ?_; obtain ⟨x49, bx49, h0⟩ := bnd h0; have bx49 := chk_some bx49; simp only [Bool.and_eq_true, decide_eq_true_eq] at bx49; obtain ⟨⟨gx49_0, gx49_1⟩, gx49_2⟩ := bx49; (try simp only [go_sem, gx49_0, gx49_1, gx49_2]); (have ht : List.map vu d44 = List.map vu (List.take ((a2).toNat) d44) ++ List.map vu (List.drop ((a2).toNat) d44) := by rw [← List.map_append, List.take_append_drop]); refine u _ _ (Wk.trim 0 ?_ ht) ?_
     ·
      simp only [upd_get, Nat.reduceEqDiff, reduceIte, if_true, if_false] <;> rfl
     clear u U ht; refine awp_ret1 ?_; obtain rfl := someInj h0; refine endW_i ?_; refine end_ret0 rs44 (rfl) ?_; refine Res.mk [] [some 0] rfl (resOU List.not_mem_nil rfl (TmL.of_eq qL (vu_clean _)) resO0) (Tm.tup (TmL.cons (Tm.refL rfl ?_) (TmL.cons (Tm.v _) TmL.nil))); (all_goals (first | rfl | (simp only [List.length_append, List.length_take, List.length_drop, List.length_cons, List.length_nil, List.length_modify, List.length_set, Nat.zero_add] <;> omega) | omega))

theorem derive_Expand_2_m (a0 : A16vu) (a1 : (List Int)) (a2 : Int) {r : ((List Int) × Int)} (h0 : derive_Expand_2 a0 a1 a2 = some r) : SndM K 44 [(.agg (e_A16vu a0)), (.v (.string ⟨#[112, 97, 115, 115, 119, 111, 114, 100]⟩)), (S_vu a1), (vi a2)] (fun q => (.tup [(.ref (q 0) 0 r.1.length 1), (vi r.2)])) [(List.map vu r.1)] :=
 fun hs => Snd.of_newM (RenM.tup (RenML.cons (RenM.ref 0 0 _ _) (RenML.cons (RenM.const (Clean.v _)) RenML.nil))) (rows_all_cons (vu_clean _) rows_all_nil) (clean_cons (Clean.agg (e_A16vu_clean _)) (clean_cons (Clean.v _) (clean_cons (S_vu_clean _) (clean_cons (Clean.v _) clean_nil)))) (derive_Expand_2_r a0 a1 a2 h0) hs

theorem derive_Expand_2_e (a0 : A16vu) (a1 : (List Int)) (a2 : Int) {r : ((List Int) × Int)} (h0 : derive_Expand_2 a0 a1 a2 = some r) (fr : Nat) (hs : HS) : SndE K 44 [(.agg (e_A16vu a0)), (.v (.string ⟨#[112, 97, 115, 115, 119, 111, 114, 100]⟩)), (S_vu a1), (vi a2)] hs fr ⟨(fun q : Nat → Nat => (.tup [(.ref (q 0) 0 r.1.length 1), (vi r.2)])) fun _ => fr, .new (List.map vu r.1)⟩ :=
 SndE.of_res (RenM.tup (RenML.cons (RenM.ref 0 0 _ _) (RenML.cons (RenM.const (Clean.v _)) RenML.nil))) (vu_clean _) (clean_cons (Clean.agg (e_A16vu_clean _)) (clean_cons (Clean.v _) (clean_cons (S_vu_clean _) (clean_cons (Clean.v _) clean_nil)))) (fun a b h => by simp only [h]) (derive_Expand_2_r a0 a1 a2 h0) hs fr

theorem derive_Expand_2_p (a0 : A16vu) (a1 : (List Int)) (a2 : Int) {r : ((List Int) × Int)} (h0 : derive_Expand_2 a0 a1 a2 = some r) : SndP K 44 [(.agg (e_A16vu a0)), (.v (.string ⟨#[112, 97, 115, 115, 119, 111, 114, 100]⟩)), (S_vu a1), (vi a2)] (.tup [(S_vu r.1), (vi r.2)]) :=
 SndM.pure (derive_Expand_2_m a0 a1 a2 h0) (Clean.tup (clean_cons (S_vu_clean _) (clean_cons (Clean.v _) clean_nil))) (clean_cons (Clean.agg (e_A16vu_clean _)) (clean_cons (Clean.v _) (clean_cons (S_vu_clean _) (clean_cons (Clean.v _) clean_nil)))) (by simp only [go_sem, newL_n, newL_c, upd_get, fz, nilS, cond_true, cond_false, List.drop_zero, List.take_length, List.length_map, ble_self] <;> rfl)
def auth_Base_S0 (a0 : (List Int)) (d33 : (A6vu × A6vu)) : AS :=
 { objs := (upd (upd (fun _ => .dead) 0 (.live (e_A6vu d33.1))) 1 (.live (e_A6vu d33.2))), next := 2, tmps := (upd (upd (upd (fun _ => .unk) 0 (vs a0)) 4 (.ptr 0 0)) 5 (.ptr 1 0)) }

def auth_Base_S1 (x35 : ((List Int) × Int)) : AS :=
 { objs := (upd (fun _ => .dead) 0 (.live (List.map vu x35.1))), next := 1, tmps := (upd (fun _ => .unk) 8 (.ref 0 0 x35.1.length 1)) }

theorem auth_Base_p (a0 : (List Int)) (a1 : A6vu) (a2 : A6vu) {r : (Int × Int)} (h0 : auth_Base a0 a1 a2 = some r) : SndP K 26 [(vs a0), (.agg (e_A6vu a1)), (.agg (e_A6vu a2))] (.tup [(vq r.1), (vi r.2)]) := by
 refine SndP.of_walkW hC (Clean.tup (clean_cons (Clean.v _) (clean_cons (Clean.v _) clean_nil))) (clean_cons (Clean.v _) (clean_cons (Clean.agg (e_A6vu_clean _)) (clean_cons (Clean.agg (e_A6vu_clean _)) clean_nil))) (show K.P.funcs[26]? = some Try.f26 from Try.func26) rfl rfl (by decide +kernel) (Nat.le_of_ble_eq_true rfl) ?_; unfold auth_Base at h0; refine awp_nw [0,1,2] fun tz U u => ?_; (try simp only [go_sem]); refine qU u ?_; clear u U; refine awp_assoc ?_; refine awp_nw [0,4,5] fun tz U u => ?_; (try simp only [go_sem]); refine qU u ?_; clear u U; refine awp_cond (b := (decide (a1 = a2))) rfl (fun h1 => ?_) (fun h1 => ?_)
 ·
  have h0 := cT h0 h1; refine awp_assoc ?_; refine awp_nw [] fun tz U u => ?_; (try simp only [go_sem]); refine qU u ?_; clear u U; refine awp_ret ?_; obtain rfl := someInj h0; refine endW_i ?_; refine end_ret0 rs26 (rfl) ?_; exact qF
 ·
  have h0 := cF h0 h1; refine awp_skip ?_; refine awp_assoc ?_; refine awp_nw [0,4,5] fun tz U u => ?_; (try simp only [go_sem]); refine qU u ?_; clear u U; refine awp_cond (b := (decide (64 < (a0.length : Int)))) rfl (fun h2 => ?_) (fun h2 => ?_)
  ·
   have h0 := cT h0 h2; refine awp_assoc ?_; refine awp_nw [] fun tz U u => ?_; (try simp only [go_sem]); refine qU u ?_; clear u U; refine awp_ret ?_; obtain rfl := someInj h0; refine endW_i ?_; refine end_ret0 rs26 (rfl) ?_; exact qF
  ·
   have h0 := cF h0 h2; refine awp_skip ?_; refine awp_assoc ?_; refine awp_nw [0,4,5] fun tz U u => ?_; obtain ⟨x32, bx32, h0⟩ := bnd h0; (try simp only [go_sem]); (refine xcall_p (address_Compare_p a1 a2 bx32) ?_; try dsimp only); (try refine xw_id ?_); (try simp only [go_sem]); refine qU u ?_; clear u U; obtain ⟨d33, hi3, h0⟩ := bnd h0; refine awp_cut (fun z => d33 = z) (fun d33 : (A6vu × A6vu) => auth_Base_S0 a0 d33) ?_ ?_
   ·
    refine awp_cond1 (b := (decide (0 < x32))) rfl (fun h4 => ?_) (fun h4 => ?_)
    ·
     have hi3 := cT hi3 h4; refine awp_nw1 [0,4,5] fun tz U u => ?_; (try simp only [go_sem]); refine u _ ?_; clear u U; refine sq_n ?_; obtain rfl := someInj hi3; exact ⟨_, rfl, (Wk.canonD [] [] [some 0, some 1] rfl trivial rfl (tmOC 1 (tmOC 0 tmO0 (e_A6vu_clean _)) (e_A6vu_clean _)) (tmAllU 5 (tmAllU 4 (tmAllU 0 tmAll0 (Tm.v _)) (Tm.ptr rfl)) (Tm.ptr rfl)))⟩
    ·
     have hi3 := cF hi3 h4; refine awp_skip1 ?_; refine sq_n ?_; obtain rfl := someInj hi3; exact ⟨_, rfl, (Wk.canonD [] [] [some 0, some 1] rfl trivial rfl (tmOC 1 (tmOC 0 tmO0 (e_A6vu_clean _)) (e_A6vu_clean _)) (tmAllU 5 (tmAllU 4 (tmAllU 0 tmAll0 (Tm.v _)) (Tm.ptr rfl)) (Tm.ptr rfl)))⟩
   ·
    rintro _ rfl; clear hi3; unfold auth_Base_S0; refine awp_nr [0,4,5] (fun _ => rfl) fun tz => ?_; refine awp_regDW fun U u all hall => ?_; refine xd_id ?_; (try simp only [List.toList_toArray, List.map_cons, List.map_nil, List.size_toArray, List.length_cons, List.length_nil, Nat.zero_add]); (try simp only [Nat.reduceAdd]); have gs5 : sbE K.P 9 29 (vs a0) = some (.imm (List.map vu (sB a0)) (sB a0).length) := sbE_vs (d := .string) (e := 5) (by kernel_rfl) (by kernel_rfl) (by kernel_rfl) a0; obtain ⟨x34, bx34, h0⟩ := bnd h0; (iterate 3 ((try simp only [go_sem, -Nat.reduceAdd, gs5, Int.sub_zero, Int.sub_zero]); try simp only [Nat.reduceAdd])); (refine xcallD_EL (by first | (simp only [go_sem, fz, nilS, cond_true, cond_false, gs5, Int.sub_zero, Int.sub_zero] <;> rfl) | (simp only [go_sem, fz, List.length_set, ble_self, take_set, cond_true, cond_false, gs5, Int.sub_zero, Int.sub_zero] <;> rfl)) (by first | (simp only [go_sem, reach, gs5, Int.sub_zero, Int.sub_zero] <;> rfl)) (slices_Concat_byte_byte_e [(sB a0), [d33.1.a0, d33.1.a1, d33.1.a2, d33.1.a3, d33.1.a4, d33.1.a5], [d33.2.a0, d33.2.a1, d33.2.a2, d33.2.a3, d33.2.a4, d33.2.a5]] bx34 _) (by repeat' (first | exact NoV.v _ | exact NoV.ref _ _ _ _ | exact NoV.onil | refine NoV.ocons ?_ ?_ | exact NoV.nil | refine NoV.tup ?_ | refine NoV.agg ?_ | refine NoV.rows (fun _ => ?_) _ | refine NoV.maps (fun _ => ?_) _ | refine NoV.cons ?_ ?_)) (by repeat' (first | exact NoV.v _ | exact NoV.ref _ _ _ _ | exact NoV.onil | refine NoV.ocons ?_ ?_ | exact NoV.nil | refine NoV.tup ?_ | refine NoV.agg ?_ | refine NoV.rows (fun _ => ?_) _ | refine NoV.maps (fun _ => ?_) _ | refine NoV.cons ?_ ?_)) ?_; try dsimp only); (try refine xd_id ?_); obtain ⟨x35, bx35, h0⟩ := bnd h0; (iterate 3 ((try simp only [go_sem, -Nat.reduceAdd, gs5, Int.sub_zero, Int.sub_zero]); try simp only [Nat.reduceAdd])); (refine xcallD_EL (by first | (simp only [go_sem, fz, nilS, cond_true, cond_false, gs5, Int.sub_zero, Int.sub_zero] <;> rfl) | (simp only [go_sem, fz, List.length_set, ble_self, take_set, cond_true, cond_false, gs5, Int.sub_zero, Int.sub_zero] <;> rfl)) (by first | (simp only [go_sem, reach, gs5, Int.sub_zero, Int.sub_zero] <;> rfl)) (derive_Expand_2_e A16vu.z x34 8 bx35 _) (by repeat' (first | exact NoV.v _ | exact NoV.ref _ _ _ _ | exact NoV.onil | refine NoV.ocons ?_ ?_ | exact NoV.nil | refine NoV.tup ?_ | refine NoV.agg ?_ | refine NoV.rows (fun _ => ?_) _ | refine NoV.maps (fun _ => ?_) _ | refine NoV.cons ?_ ?_)) (by repeat' (first | exact NoV.v _ | exact NoV.ref _ _ _ _ | exact NoV.onil | refine NoV.ocons ?_ ?_ | exact NoV.nil | refine NoV.tup ?_ | refine NoV.agg ?_ | refine NoV.rows (fun _ => ?_) _ | refine NoV.maps (fun _ => ?_) _ | refine NoV.cons ?_ ?_)) ?_; try dsimp only); (try refine xd_id ?_); (iterate 3 ((try simp only [go_sem, -Nat.reduceAdd, gs5, Int.sub_zero, Int.sub_zero]); try simp only [Nat.reduceAdd])); refine And.intro ?_ (u _ (auth_Base_S1 x35) (by refine Wk.canonD [] [] [some 9] rfl trivial rfl (tmOE 0 tmO0 (vu_clean _)) (tmAllU 8 tmAll0 (Tm.refL rfl ?_)); all_goals (first | rfl | (simp only [List.length_append, List.length_take, List.length_drop, List.length_cons, List.length_nil, List.length_modify, List.length_set, Nat.zero_add] <;> omega) | omega)) ?_)
    ·
     subst hall; clear u U; exact qP
    ·
     clear u U hall all; unfold auth_Base_S1; refine awp_nw [8] fun tz U u => ?_; obtain ⟨x36, bx36, h0⟩ := bnd h0; (try simp only [go_sem]); (refine xcall_L (by first | (simp only [go_sem, fz] <;> rfl) | (simp only [go_sem, fz, List.length_set, ble_self, take_set, cond_true, cond_false] <;> rfl)) (auth_get_p x35.1 bx36) (Bare.v _) ?_; try dsimp only); (try refine xw_id ?_); (try simp only [go_sem, Int.reduceEq]); refine qU u ?_; clear u U; refine awp_nw [10] fun tz U u => ?_; obtain ⟨x37, bx37, h0⟩ := bnd h0; (try simp only [go_sem]); (refine xcall_p (auth_Mul_p (IntKind.wrap .u64 (2 + ((x36).tmod 2305843009213693948))) (IntKind.wrap .u64 (2 + ((x36).tmod 2305843009213693948))) bx37) ?_; try dsimp only); (try refine xw_id ?_); (try simp only [go_sem]); refine qU u ?_; clear u U; refine awp_ret1 ?_; obtain rfl := someInj h0; refine endW_i ?_; refine end_ret0 rs26 (rfl) ?_; exact qF
def auth_New_S0 (a0 : A6vu) (a1 : A6vu) (a3 : Int) (a4 : Int) (x32 : (Int × Int)) : AS :=
 { objs := (upd (upd (upd (fun _ => .dead) 0 (.live (e_A6vu a0))) 1 (.live (e_A6vu a1))) 2 (.live (e_Auth Auth.z))), next := 3, tmps := (upd (upd (upd (upd (upd (upd (upd (fun _ => .unk) 3 (vq a3)) 4 (vq a4)) 5 (.ptr 0 0)) 6 (.ptr 1 0)) 10 (.ptr 2 0)) 12 (vq x32.1)) 13 (vi x32.2)) }

def auth_New_S1 (x32 : (Int × Int)) (x35 : Int) (a4 : Int) (a0 : A6vu) (a1 : A6vu) (a3 : Int) (x34 : Int) : AS :=
 { objs := (upd (upd (fun _ => .dead) 0 (.live (e_Auth Auth.z))) 1 (.live (e_Auth { Auth.z with Base := x32.1, Element := x35, Mask := a4, Own := a0, Peer := a1, Rand := a3, Scalar := x34 }))), next := 2, tmps := (upd (upd (fun _ => .unk) 10 (.ptr 0 0)) 14 (.ptr 1 0)) }

theorem auth_New_p (a0 : A6vu) (a1 : A6vu) (a2 : (List Int)) (a3 : Int) (a4 : Int) {r : (Auth × Int)} (h0 : auth_New a0 a1 a2 a3 a4 = some r) : SndP K 29 [(.agg (e_A6vu a0)), (.agg (e_A6vu a1)), (vs a2), (vq a3), (vq a4)] (.tup [(.agg (e_Auth r.1)), (vi r.2)]) := by
 refine SndP.of_walkW hC (Clean.tup (clean_cons (Clean.agg (e_Auth_clean _)) (clean_cons (Clean.v _) clean_nil))) (clean_cons (Clean.agg (e_A6vu_clean _)) (clean_cons (Clean.agg (e_A6vu_clean _)) (clean_cons (Clean.v _) (clean_cons (Clean.v _) (clean_cons (Clean.v _) clean_nil))))) (show K.P.funcs[29]? = some Try.f29 from Try.func29) rfl rfl (by decide +kernel) (Nat.le_of_ble_eq_true rfl) ?_; unfold auth_New at h0; refine awp_nw [0,1,2,3,4] fun tz U u => ?_; (try simp only [go_sem]); refine qU u ?_; clear u U; refine awp_nw [2,3,4,5,6,10] fun tz U u => ?_; obtain ⟨x32, bx32, h0⟩ := bnd h0; (try simp only [go_sem]); (refine xcall_p (auth_Base_p a2 a0 a1 bx32) ?_; try dsimp only); (try refine xw_id ?_); (try simp only [go_sem]); refine u _ (auth_New_S0 a0 a1 a3 a4 x32) (Wk.canonD [] [] [some 0, some 1, some 2] rfl trivial rfl (tmOC 2 (tmOC 1 (tmOC 0 tmO0 (e_A6vu_clean _)) (e_A6vu_clean _)) (e_Auth_clean _)) (tmAllU 13 (tmAllU 12 (tmAllU 10 (tmAllU 6 (tmAllU 5 (tmAllU 4 (tmAllU 3 tmAll0 (Tm.v _)) (Tm.v _)) (Tm.ptr rfl)) (Tm.ptr rfl)) (Tm.ptr rfl)) (Tm.v _)) (Tm.v _))) ?_; clear u U; unfold auth_New_S0; refine awp_assoc ?_; refine awp_nw [3,4,5,6,10,12,13] fun tz U u => ?_; (try simp only [go_sem]); refine qU u ?_; clear u U; refine awp_cond (b := (x32.2 != 0)) rfl (fun h1 => ?_) (fun h1 => ?_)
 ·
  have h0 := cT h0 h1; refine awp_assoc ?_; refine awp_nw [10,13] fun tz U u => ?_; (try simp only [go_sem]); refine qU u ?_; clear u U; refine awp_ret ?_; obtain rfl := someInj h0; refine endW_i ?_; refine end_ret0 rs29 qR ?_; exact qF
 ·
  have h0 := cF h0 h1; refine awp_skip ?_; refine awp_nw [3,4,5,6,10,12] fun tz U u => ?_; (try simp only [go_sem]); refine qU u ?_; clear u U; refine awp_assoc ?_; refine awp_nw [3,4,10,12,14] fun tz U u => ?_; obtain ⟨x33, bx33, h0⟩ := bnd h0; (try simp only [go_sem]); (refine xcall_p (auth_secret_p { Auth.z with Base := x32.1, Mask := a4, Own := a0, Peer := a1, Rand := a3 } bx33) ?_; try dsimp only); (try refine xw_id ?_); (try simp only [go_sem]); refine qU u ?_; clear u U; refine awp_cond (b := (!x33)) rfl (fun h2 => ?_) (fun h2 => ?_)
  ·
   have h0 := cT h0 h2; refine awp_assoc ?_; refine awp_nw [10] fun tz U u => ?_; (try simp only [go_sem]); refine qU u ?_; clear u U; refine awp_ret ?_; obtain rfl := someInj h0; refine endW_i ?_; refine end_ret0 rs29 qR ?_; exact qF
  ·
   have h0 := cF h0 h2; refine awp_skip ?_; refine awp_nw [3,4,10,12,14] fun tz U u => ?_; obtain ⟨x34, bx34, h0⟩ := bnd h0; (try simp only [go_sem]); (refine xcall_p (auth_sum_p a3 a4 bx34) ?_; try dsimp only); (try refine xw_id ?_); obtain ⟨x35, bx35, h0⟩ := bnd h0; (try simp only [go_sem]); (refine xcall_p (auth_Pow_p x32.1 (IntKind.wrap .u64 (2305843009213693950 - a4)) bx35) ?_; try dsimp only); (try refine xw_id ?_); (try simp only [go_sem]); refine u _ (auth_New_S1 x32 x35 a4 a0 a1 a3 x34) (Wk.canonD [] [] [some 2, some 11] rfl trivial rfl (tmOC 1 (tmOC 0 tmO0 (e_Auth_clean _)) (e_Auth_clean _)) (tmAllU 14 (tmAllU 10 tmAll0 (Tm.ptr rfl)) (Tm.ptr rfl))) ?_; clear u U; unfold auth_New_S1; refine awp_assoc ?_; refine awp_nw [10,14] fun tz U u => ?_; refine xw_stop 4 qS qS (by rfl) fun V v => ?_; refine xw_id ?_; (try simp only [go_sem]); refine v _ ?_; clear v V; refine xw_cut 4 [(10, (.ptr 0 0)), (14, (.ptr 1 0)), (52, (vb ((decide (x34 < 2)) || (decide (x35 < 2)))))] qS qS (by rfl) (fun V v => ?_) fun tz => ?_
   ·
    refine xw_id ?_; rcases Bool.eq_false_or_eq_true (decide (x34 < 2)) with h3 | h3
    ·
     (try simp only [go_sem, h3]); exact v _ ⟨rfl, rfl, rfl, (qB h3), trivial⟩
    ·
     (try simp only [go_sem, h3]); exact v _ ⟨rfl, rfl, rfl, (qB h3), trivial⟩
   ·
    refine xw_id ?_; (try simp only [go_sem]); refine qU u ?_; clear u U; refine awp_cond (b := ((decide (x34 < 2)) || (decide (x35 < 2)))) rfl (fun h4 => ?_) (fun h4 => ?_)
    ·
     have h0 := cT h0 h4; refine awp_assoc ?_; refine awp_nw [10] fun tz U u => ?_; (try simp only [go_sem]); refine qU u ?_; clear u U; refine awp_ret ?_; obtain rfl := someInj h0; refine endW_i ?_; refine end_ret0 rs29 qR ?_; exact qF
    ·
     have h0 := cF h0 h4; refine awp_skip ?_; refine awp_nw [10,14] fun tz U u => ?_; (try simp only [go_sem]); refine qU u ?_; clear u U; refine awp_ret1 ?_; obtain rfl := someInj h0; refine endW_i ?_; refine end_ret0 rs29 qR ?_; exact qF
theorem auth_checked_p (a0 : Auth) (a1 : Int) {r : Int} (h0 : auth_checked a0 a1 = some r) : SndP K 56 [(.agg (e_Auth a0)), (vi a1)] (vi r) := by
 refine SndP.of_walkW hC (Clean.v _) (clean_cons (Clean.agg (e_Auth_clean _)) (clean_cons (Clean.v _) clean_nil)) (show K.P.funcs[56]? = some Try.f56 from Try.func56) rfl rfl (by decide +kernel) (Nat.le_of_ble_eq_true rfl) ?_; unfold auth_checked at h0; refine awp_nw [0,1] fun tz U u => ?_; (try simp only [go_sem]); refine qU u ?_; clear u U; refine awp_assoc ?_; refine awp_nw [1,2] fun tz U u => ?_; obtain ⟨x44, bx44, h0⟩ := bnd h0; (try simp only [go_sem]); (refine xcall_p (auth_Check_p a0 bx44) ?_; try dsimp only); (try refine xw_id ?_); (try simp only [go_sem]); refine qU u ?_; clear u U; refine awp_assoc ?_; refine awp_nw [1,5] fun tz U u => ?_; (try simp only [go_sem]); refine qU u ?_; clear u U; refine awp_cond (b := (x44 != 0)) rfl (fun h1 => ?_) (fun h1 => ?_)
 ·
  have h0 := cT h0 h1; refine awp_assoc ?_; refine awp_nw [5] fun tz U u => ?_; (try simp only [go_sem]); refine qU u ?_; clear u U; refine awp_ret ?_; obtain rfl := someInj h0; refine endW_i ?_; refine end_ret0 rs56 (rfl) ?_; exact qF
 ·
  have h0 := cF h0 h1; refine awp_skip ?_; refine awp_assoc ?_; refine awp_nw [1] fun tz U u => ?_; refine xw_stop 3 qS qS (by rfl) fun V v => ?_; refine xw_id ?_; (try simp only [go_sem]); refine v _ ?_; clear v V; refine xw_cut 3 [(16, (vb ((decide (a1 < 0)) || (decide (1099511627776 < a1)))))] qS qS (by rfl) (fun V v => ?_) fun tz => ?_
  ·
   refine xw_id ?_; rcases Bool.eq_false_or_eq_true (decide (a1 < 0)) with h2 | h2
   ·
    (try simp only [go_sem, h2]); exact v _ ⟨rfl, (qB h2), trivial⟩
   ·
    (try simp only [go_sem, h2]); exact v _ ⟨rfl, (qB h2), trivial⟩
  ·
   refine xw_id ?_; (try simp only [go_sem]); refine qU u ?_; clear u U; refine awp_cond (b := ((decide (a1 < 0)) || (decide (1099511627776 < a1)))) rfl (fun h3 => ?_) (fun h3 => ?_)
   ·
    have h0 := cT h0 h3; refine awp_assoc ?_; refine awp_nw [] fun tz U u => ?_; (try simp only [go_sem]); refine qU u ?_; clear u U; refine awp_ret ?_; obtain rfl := someInj h0; refine endW_i ?_; refine end_ret0 rs56 (rfl) ?_; exact qF
   ·
    have h0 := cF h0 h3; refine awp_skip ?_; refine awp_nw [] fun tz U u => ?_; (try simp only [go_sem]); refine qU u ?_; clear u U; refine awp_ret1 ?_; obtain rfl := someInj h0; refine endW_i ?_; refine end_ret0 rs56 (rfl) ?_; exact qF
def auth_commit_S0 (a0 : Auth) (x46 : (List Int)) : AS :=
 { objs := (upd (upd (fun _ => .dead) 0 (.live (e_Auth a0))) 1 (.live (List.map vu ([1] ++ x46)))), next := 2, tmps := (upd (upd (fun _ => .unk) 1 (.ptr 0 0)) 3 (.ref 1 0 (([1] ++ x46).length) 1)) }

theorem auth_commit_r (a0 : Auth) {r : (List Int)} (h0 : auth_commit a0 = some r) : SndR K 57 [(.agg (e_Auth a0))] (fun q => (.ref (q 0) 0 r.length 1)) [(List.map vu r)] := by
 refine SndR.of_walkW hC (show K.P.funcs[57]? = some Try.f57 from Try.func57) rfl rfl (by decide +kernel) (Nat.le_of_ble_eq_true rfl) ?_; unfold auth_commit at h0; refine awp_nw [0] fun tz U u => ?_; (try simp only [go_sem]); refine qU u ?_; clear u U; refine awp_nw [1] fun tz U u => ?_; obtain ⟨x46, bx46, h0⟩ := bnd h0; (try simp only [go_sem]); (refine xcall_ML (by first | (simp only [go_sem, fz, nilS, cond_true, cond_false] <;> rfl) | (simp only [go_sem, fz, List.length_set, ble_self, take_set, cond_true, cond_false] <;> rfl)) (auth_numbers_m [a0.Scalar, a0.Element] bx46) (fun _ => by repeat' (first | exact NoV.v _ | exact NoV.ref _ _ _ _ | exact NoV.onil | refine NoV.ocons ?_ ?_ | exact NoV.nil | refine NoV.tup ?_ | refine NoV.agg ?_ | refine NoV.rows (fun _ => ?_) _ | refine NoV.maps (fun _ => ?_) _ | refine NoV.cons ?_ ?_)) (by repeat' (first | exact NoV.v _ | exact NoV.ref _ _ _ _ | exact NoV.onil | refine NoV.ocons ?_ ?_ | exact NoV.nil | refine NoV.tup ?_ | refine NoV.agg ?_ | refine NoV.rows (fun _ => ?_) _ | refine NoV.maps (fun _ => ?_) _ | refine NoV.cons ?_ ?_)) ?_; try dsimp only); (try refine xw_id ?_); obtain ⟨x47, bx47, h0⟩ := bnd h0; have bx47 := chk_some bx47; simp only [Bool.and_eq_true, decide_eq_true_eq] at bx47; have gx47_0 := bx47; (try simp only [go_sem, gx47_0]); refine u _ (auth_commit_S0 a0 x46) (by refine Wk.canonD [] [] [some 0, some 9] rfl trivial rfl (tmOE 1 (tmOC 0 tmO0 (e_Auth_clean _)) (vu_clean _)) (tmAllU 3 (tmAllU 1 tmAll0 (Tm.ptr rfl)) (Tm.refL rfl ?_)); all_goals (first | rfl | (simp only [List.length_append, List.length_take, List.length_drop, List.length_cons, List.length_nil, List.length_modify, List.length_set, Nat.zero_add] <;> omega) | omega)) ?_; clear u U; unfold auth_commit_S0; refine awp_assoc ?_; refine awp_nw [1,3] fun tz U u => ?_; (try simp only [go_sem]); refine qU u ?_; clear u U; refine awp_cond (b := (!a0.HasToken)) rfl (fun h1 => ?_) (fun h1 => ?_)
 ·
  have h0 := cT h0 h1; refine awp_assoc ?_; refine awp_nw [3] fun tz U u => ?_; obtain ⟨x48, bx48, h0⟩ := bnd h0; have bx48 := chk_some bx48; simp only [Bool.and_eq_true, decide_eq_true_eq] at bx48; have gx48_0 := bx48; (try simp only [List.cons_append, List.nil_append, List.length_append, List.length_cons, List.length_nil, Nat.zero_add, Nat.reduceAdd, Nat.add_assoc, Nat.reduceLeDiff] at gx48_0); (try simp only [go_sem, gx48_0, List.length_append, vu_len]); refine qU u ?_; clear u U; refine awp_ret ?_; obtain rfl := someInj h0; refine endW_i ?_; refine end_ret0 rs57 (rfl) ?_; refine Res.mk [] [some 7] rfl (resOU List.not_mem_nil rfl (TmL.of_eq qL (vu_clean _)) resO0) (Tm.refL rfl ?_); (all_goals (first | rfl | (simp only [List.length_append, List.length_take, List.length_drop, List.length_cons, List.length_nil, List.length_modify, List.length_set, Nat.zero_add] <;> omega) | omega))
 ·
  have h0 := cF h0 h1; refine awp_skip ?_; refine awp_nr [1,3] (fun _ => rfl) fun tz => ?_; refine awp_regDW fun U u all hall => ?_; refine xd_id ?_; (try simp only [List.toList_toArray, List.map_cons, List.map_nil, List.size_toArray, List.length_cons, List.length_nil, Nat.zero_add]); (try simp only [Nat.reduceAdd]); obtain ⟨x49, bx49, h0⟩ := bnd h0; have bx49 := chk_some bx49; simp only [Bool.and_eq_true, decide_eq_true_eq] at bx49; have gx49_0 := bx49; (try simp only [List.cons_append, List.nil_append, List.length_append, List.length_cons, List.length_nil, Nat.zero_add, Nat.reduceAdd, Nat.add_assoc, Nat.reduceLeDiff] at gx49_0); obtain ⟨x50, bx50, h0⟩ := bnd h0; (iterate 3 ((try simp only [go_sem, -Nat.reduceAdd, gx49_0, List.length_append, vu_len]); try simp only [Nat.reduceAdd])); (refine xcallD_EL (by first | (simp only [go_sem, fz, nilS, cond_true, cond_false, gx49_0, List.length_append, vu_len] <;> rfl) | (simp only [go_sem, fz, List.length_set, ble_self, take_set, cond_true, cond_false, gx49_0, List.length_append, vu_len] <;> rfl)) (by first | (simp only [go_sem, reach, gx49_0, List.length_append, vu_len] <;> rfl)) (auth_numbers_e [a0.Token] bx50 _) (by repeat' (first | exact NoV.v _ | exact NoV.ref _ _ _ _ | exact NoV.onil | refine NoV.ocons ?_ ?_ | exact NoV.nil | refine NoV.tup ?_ | refine NoV.agg ?_ | refine NoV.rows (fun _ => ?_) _ | refine NoV.maps (fun _ => ?_) _ | refine NoV.cons ?_ ?_)) (by repeat' (first | exact NoV.v _ | exact NoV.ref _ _ _ _ | exact NoV.onil | refine NoV.ocons ?_ ?_ | exact NoV.nil | refine NoV.tup ?_ | refine NoV.agg ?_ | refine NoV.rows (fun _ => ?_) _ | refine NoV.maps (fun _ => ?_) _ | refine NoV.cons ?_ ?_)) ?_; try dsimp only); (try refine xd_id ?_); obtain ⟨x51, bx51, h0⟩ := bnd h0; have bx51 := chk_some bx51; simp only [Bool.and_eq_true, decide_eq_true_eq] at bx51; have gx51_0 := bx51; (try simp only [List.cons_append, List.nil_append, List.length_append, List.length_cons, List.length_nil, Nat.zero_add, Nat.reduceAdd, Nat.add_assoc, Nat.reduceLeDiff] at gx51_0); (iterate 3 ((try simp only [go_sem, -Nat.reduceAdd, gx49_0, List.length_append, vu_len, gx51_0, List.length_append, vu_len]); try simp only [Nat.reduceAdd])); refine And.intro ?_ (u _ _ (Wk.refl _ _ _) ?_)
  ·
   subst hall; clear u U; exact qP
  ·
   clear u U hall all; refine awp_ret1 ?_; obtain rfl := someInj h0; refine endW_i ?_; refine end_ret0 rs57 (rfl) ?_; refine Res.mk [] [some 12] rfl (resOU List.not_mem_nil rfl (TmL.of_eq qL (vu_clean _)) resO0) (Tm.refL rfl ?_); (all_goals (first | rfl | (simp only [List.length_append, List.length_take, List.length_drop, List.length_cons, List.length_nil, List.length_modify, List.length_set, Nat.zero_add] <;> omega) | omega))

theorem auth_commit_m (a0 : Auth) {r : (List Int)} (h0 : auth_commit a0 = some r) : SndM K 57 [(.agg (e_Auth a0))] (fun q => (.ref (q 0) 0 r.length 1)) [(List.map vu r)] :=
 fun hs => Snd.of_newM (RenM.ref 0 0 _ _) (rows_all_cons (vu_clean _) rows_all_nil) (clean_cons (Clean.agg (e_Auth_clean _)) clean_nil) (auth_commit_r a0 h0) hs

theorem auth_commit_e (a0 : Auth) {r : (List Int)} (h0 : auth_commit a0 = some r) (fr : Nat) (hs : HS) : SndE K 57 [(.agg (e_Auth a0))] hs fr ⟨(fun q : Nat → Nat => (.ref (q 0) 0 r.length 1)) fun _ => fr, .new (List.map vu r)⟩ :=
 SndE.of_res (RenM.ref 0 0 _ _) (vu_clean _) (clean_cons (Clean.agg (e_Auth_clean _)) clean_nil) (fun a b h => by simp only [h]) (auth_commit_r a0 h0) hs fr

theorem auth_commit_p (a0 : Auth) {r : (List Int)} (h0 : auth_commit a0 = some r) : SndP K 57 [(.agg (e_Auth a0))] (S_vu r) :=
 SndM.pure (auth_commit_m a0 h0) (S_vu_clean _) (clean_cons (Clean.agg (e_Auth_clean _)) clean_nil) (by simp only [go_sem, newL_n, newL_c, upd_get, fz, nilS, cond_true, cond_false, List.drop_zero, List.take_length, List.length_map, ble_self] <;> rfl)
def auth_Start_S0 (a0 : Auth) (a1 : Int) : AS :=
 { objs := (upd (upd (fun _ => .dead) 0 (.live (e_Auth { a0 with Due := IntKind.wrap .i64 (a1 + 200000), Stage := 1, Tries := 1 }))) 1 (.live (e_Auth Auth.z))), next := 2, tmps := (upd (upd (fun _ => .unk) 2 (.ptr 0 0)) 4 (.ptr 1 0)) }

theorem auth_Start_r (a0 : Auth) (a1 : Int) {r : (Auth × (List (List Int)) × Int)} (h0 : auth_Start a0 a1 = some r) : SndR K 30 [(.agg (e_Auth a0)), (vi a1)] (fun q => (.tup [(.agg (e_Auth r.1)), (.ref (q 0) 0 r.2.1.length 1), (vi r.2.2)])) [(List.map S_vu r.2.1)] := by
 refine SndR.of_walkW hC (show K.P.funcs[30]? = some Try.f30 from Try.func30) rfl rfl (by decide +kernel) (Nat.le_of_ble_eq_true rfl) ?_; unfold auth_Start at h0; refine awp_nw [0,1] fun tz U u => ?_; (try simp only [go_sem]); refine qU u ?_; clear u U; refine awp_assoc ?_; refine awp_nw [1,2,4] fun tz U u => ?_; obtain ⟨x44, bx44, h0⟩ := bnd h0; (try simp only [go_sem]); (refine xcall_p (auth_checked_p a0 a1 bx44) ?_; try dsimp only); (try refine xw_id ?_); (try simp only [go_sem]); refine qU u ?_; clear u U; refine awp_assoc ?_; refine awp_nw [1,2,4,7] fun tz U u => ?_; (try simp only [go_sem]); refine qU u ?_; clear u U; refine awp_cond (b := (x44 != 0)) rfl (fun h1 => ?_) (fun h1 => ?_)
 ·
  have h0 := cT h0 h1; refine awp_assoc ?_; refine awp_nw [4,7] fun tz U u => ?_; (try simp only [go_sem]); refine qU u ?_; clear u U; refine awp_ret ?_; obtain rfl := someInj h0; refine endW_i ?_; refine end_ret0 rs30 qR ?_; refine Res.mk [] [none] rfl (resON resO0) (Tm.tup (TmL.cons (Tm.clean (Clean.agg (e_Auth_clean _))) (TmL.cons (Tm.thaw _ _ _) (TmL.cons (Tm.v _) TmL.nil))))
 ·
  have h0 := cF h0 h1; refine awp_skip ?_; refine awp_assoc ?_; refine awp_nw [1,2,4] fun tz U u => ?_; (try simp only [go_sem]); refine qU u ?_; clear u U; refine awp_cond (b := (a0.Stage != 0)) rfl (fun h2 => ?_) (fun h2 => ?_)
  ·
   have h0 := cT h0 h2; refine awp_assoc ?_; refine awp_nw [4] fun tz U u => ?_; (try simp only [go_sem]); refine qU u ?_; clear u U; refine awp_ret ?_; obtain rfl := someInj h0; refine endW_i ?_; refine end_ret0 rs30 qR ?_; refine Res.mk [] [none] rfl (resON resO0) (Tm.tup (TmL.cons (Tm.clean (Clean.agg (e_Auth_clean _))) (TmL.cons (Tm.thaw _ _ _) (TmL.cons (Tm.v _) TmL.nil))))
  ·
   have h0 := cF h0 h2; refine awp_skip ?_; refine awp_nw [1,2,4] fun tz U u => ?_; (try simp only [go_sem]); refine u _ (auth_Start_S0 a0 a1) (Wk.canonD [] [] [some 0, some 1] rfl trivial rfl (tmOC 1 (tmOC 0 tmO0 (e_Auth_clean _)) (e_Auth_clean _)) (tmAllU 4 (tmAllU 2 tmAll0 (Tm.ptr rfl)) (Tm.ptr rfl))) ?_; clear u U; unfold auth_Start_S0; refine awp_nr [2,4] (fun _ => rfl) fun tz => ?_; refine awp_regDW fun U u all hall => ?_; refine xd_id ?_; (try simp only [List.toList_toArray, List.map_cons, List.map_nil, List.size_toArray, List.length_cons, List.length_nil, Nat.zero_add]); (try simp only [Nat.reduceAdd]); obtain ⟨x45, bx45, h0⟩ := bnd h0; (iterate 3 ((try simp only [go_sem, -Nat.reduceAdd]); try simp only [Nat.reduceAdd])); (refine xcallD_p (auth_commit_p { a0 with Due := IntKind.wrap .i64 (a1 + 200000), Stage := 1, Tries := 1 } bx45) ?_; try dsimp only); (try refine xd_id ?_); (iterate 3 ((try simp only [go_sem, -Nat.reduceAdd]); try simp only [Nat.reduceAdd])); refine And.intro ?_ (u _ _ (Wk.refl _ _ _) ?_)
   ·
    subst hall; clear u U; exact qP
   ·
    clear u U hall all; refine awp_ret1 ?_; obtain rfl := someInj h0; refine endW_i ?_; refine end_ret0 rs30 qR ?_; refine Res.mk [] [some 5] rfl (resOU List.not_mem_nil rfl (TmL.of_eq qL (cS_vu _)) resO0) (Tm.tup (TmL.cons (Tm.clean (Clean.agg (e_Auth_clean _))) (TmL.cons (Tm.refL rfl ?_) (TmL.cons (Tm.v _) TmL.nil)))); (all_goals (first | rfl | (simp only [List.length_append, List.length_take, List.length_drop, List.length_cons, List.length_nil, List.length_modify, List.length_set, Nat.zero_add] <;> omega) | omega))

theorem auth_Start_m (a0 : Auth) (a1 : Int) {r : (Auth × (List (List Int)) × Int)} (h0 : auth_Start a0 a1 = some r) : SndM K 30 [(.agg (e_Auth a0)), (vi a1)] (fun q => (.tup [(.agg (e_Auth r.1)), (.ref (q 0) 0 r.2.1.length 1), (vi r.2.2)])) [(List.map S_vu r.2.1)] :=
 fun hs => Snd.of_newM (RenM.tup (RenML.cons (RenM.const (Clean.agg (e_Auth_clean _))) (RenML.cons (RenM.ref 0 0 _ _) (RenML.cons (RenM.const (Clean.v _)) RenML.nil)))) (rows_all_cons (cS_vu _) rows_all_nil) (clean_cons (Clean.agg (e_Auth_clean _)) (clean_cons (Clean.v _) clean_nil)) (auth_Start_r a0 a1 h0) hs

theorem auth_Start_e (a0 : Auth) (a1 : Int) {r : (Auth × (List (List Int)) × Int)} (h0 : auth_Start a0 a1 = some r) (fr : Nat) (hs : HS) : SndE K 30 [(.agg (e_Auth a0)), (vi a1)] hs fr ⟨(fun q : Nat → Nat => (.tup [(.agg (e_Auth r.1)), (.ref (q 0) 0 r.2.1.length 1), (vi r.2.2)])) fun _ => fr, .new (List.map S_vu r.2.1)⟩ :=
 SndE.of_res (RenM.tup (RenML.cons (RenM.const (Clean.agg (e_Auth_clean _))) (RenML.cons (RenM.ref 0 0 _ _) (RenML.cons (RenM.const (Clean.v _)) RenML.nil)))) (cS_vu _) (clean_cons (Clean.agg (e_Auth_clean _)) (clean_cons (Clean.v _) clean_nil)) (fun a b h => by simp only [h]) (auth_Start_r a0 a1 h0) hs fr

theorem auth_Start_p (a0 : Auth) (a1 : Int) {r : (Auth × (List (List Int)) × Int)} (h0 : auth_Start a0 a1 = some r) : SndP K 30 [(.agg (e_Auth a0)), (vi a1)] (.tup [(.agg (e_Auth r.1)), (S_S_vu r.2.1), (vi r.2.2)]) :=
 SndM.pure (auth_Start_m a0 a1 h0) (Clean.tup (clean_cons (Clean.agg (e_Auth_clean _)) (clean_cons (S_S_vu_clean _) (clean_cons (Clean.v _) clean_nil)))) (clean_cons (Clean.agg (e_Auth_clean _)) (clean_cons (Clean.v _) clean_nil)) (by simp only [go_sem, newL_n, newL_c, upd_get, fz, nilS, cond_true, cond_false, List.drop_zero, List.take_length, List.length_map, ble_self] <;> rfl)
def auth_shaped_S0 (d13 : Bool) : AS :=
 { objs := (fun _ => .dead), next := 0, tmps := (upd (fun _ => .unk) 3 (vb d13)) }

theorem auth_shaped_p (a0 : (List Int)) {r : Int} (h0 : auth_shaped a0 = some r) : SndP K 33 [(S_vu a0)] (vi r) := by
 refine SndP.of_walkW hC (Clean.v _) (clean_cons (S_vu_clean _) clean_nil) (show K.P.funcs[33]? = some Try.f33 from Try.func33) rfl rfl (by decide +kernel) (Nat.le_of_ble_eq_true rfl) ?_; unfold auth_shaped at h0; refine awp_nw [0] fun tz U u => ?_; (try simp only [go_sem]); refine qU u ?_; clear u U; refine awp_assoc ?_; refine awp_nw [0] fun tz U u => ?_; (try simp only [go_sem]); refine qU u ?_; clear u U; refine awp_cond (b := ((a0.length : Int) == 0)) rfl (fun h1 => ?_) (fun h1 => ?_)
 ·
  have h0 := cT h0 h1; refine awp_assoc ?_; refine awp_nw [] fun tz U u => ?_; (try simp only [go_sem]); refine qU u ?_; clear u U; refine awp_ret ?_; obtain rfl := someInj h0; refine endW_i ?_; refine end_ret0 rs33 (rfl) ?_; exact qF
 ·
  have h0 := cF h0 h1; refine awp_skip ?_; refine awp_nw [0] fun tz U u => ?_; (try simp only [go_sem]); refine qU u ?_; clear u U; refine awp_assoc ?_; refine awp_nw [0,3] fun tz U u => ?_; obtain ⟨x12, bx12, h0⟩ := bnd h0; obtain ⟨fx12_0, fx12_1, fx12_2, fx12_3⟩ := idx_some bx12; simp only [Int.reduceToNat] at fx12_2 fx12_3; (try simp only [go_sem, fx12_0, fx12_1, fx12_2]); refine qU u ?_; clear u U; obtain ⟨d13, hi2, h0⟩ := bnd h0; refine awp_cut (fun z => d13 = z) (fun d13 : Bool => auth_shaped_S0 d13) ?_ ?_
  ·
   refine awp_block1 ?_; refine awp_nw [0,3,9] fun tz U u => ?_; (try simp only [go_sem, fx12_0, fx12_1, fx12_2]); refine qU u ?_; clear u U; refine awp_cond1 (b := (x12 == 1)) rfl (fun h3 => ?_) (fun h3 => ?_)
   ·
    have hi2 := cT hi2 h3; refine awp_nw1 [0] fun tz U u => ?_; refine xw_stop 4 qS qS (by rfl) fun V v => ?_; refine xw_id ?_; (try simp only [go_sem, fx12_0, fx12_1, fx12_2]); refine v _ ?_; clear v V; obtain ⟨x15, hvh4, hi2⟩ := bnd hi2; refine xw_cut 5 [(0, (.imm (List.map vu a0) a0.length)), (20, (vb x15))] qS qS (by rfl) (fun V v => ?_) fun tz => ?_
    ·
     refine xw_id ?_; rcases Bool.eq_false_or_eq_true ((a0.length : Int) == 18) with h4 | h4
     ·
      have hvh4 := cT hvh4 h4; obtain ⟨x14, bx14, hvh4⟩ := bnd hvh4; obtain ⟨fx14_0, fx14_1, fx14_2, fx14_3⟩ := idx_some bx14; simp only [Int.reduceToNat] at fx14_2 fx14_3; (try simp only [go_sem, fx12_0, fx12_1, fx12_2, h4, fx14_0, fx14_1, fx14_2]); obtain rfl := someInj hvh4; exact v _ ⟨rfl, rfl, (qB h4), trivial⟩
     ·
      have hvh4 := cF hvh4 h4; (try simp only [go_sem, fx12_0, fx12_1, fx12_2, h4]); obtain rfl := someInj hvh4; exact v _ ⟨rfl, rfl, (qB h4), trivial⟩
    ·
     refine xw_id ?_; refine xw_stop 1 qS qS (by rfl) fun V v => ?_; refine xw_id ?_; (try simp only [go_sem, fx12_0, fx12_1, fx12_2]); refine v _ ?_; clear v V; obtain ⟨x18, hvh5, hi2⟩ := bnd hi2; refine xw_cut 10 [(31, (vb x18))] qS qS (by rfl) (fun V v => ?_) fun tz => ?_
     ·
      refine xw_id ?_; rcases Bool.eq_false_or_eq_true x15 with h5 | h5
      ·
       have hvh5 := cT hvh5 h5; (try simp only [go_sem, fx12_0, fx12_1, fx12_2, h5]); obtain rfl := someInj hvh5; exact v _ ⟨rfl, (qB h5), trivial⟩
      ·
       have hvh5 := cF hvh5 h5; refine xw_stop 4 qS qS (by rfl) fun V v => ?_; refine xw_id ?_; (try simp only [go_sem, fx12_0, fx12_1, fx12_2, h5]); refine v _ ?_; clear v V; obtain ⟨x17, hvh6, hvh5⟩ := bnd hvh5; refine xw_cut 5 [(21, (vb false)), (30, (vb x17))] qS qS (by rfl) (fun V v => ?_) fun tz => ?_
       ·
        refine xw_id ?_; rcases Bool.eq_false_or_eq_true ((a0.length : Int) == 26) with h6 | h6
        ·
         have hvh6 := cT hvh6 h6; obtain ⟨x16, bx16, hvh6⟩ := bnd hvh6; obtain ⟨fx16_0, fx16_1, fx16_2, fx16_3⟩ := idx_some bx16; simp only [Int.reduceToNat] at fx16_2 fx16_3; (try simp only [go_sem, fx12_0, fx12_1, fx12_2, h5, h6, fx16_0, fx16_1, fx16_2]); obtain rfl := someInj hvh6; exact v _ ⟨rfl, rfl, (qB h6), trivial⟩
        ·
         have hvh6 := cF hvh6 h6; (try simp only [go_sem, fx12_0, fx12_1, fx12_2, h5, h6]); obtain rfl := someInj hvh6; exact v _ ⟨rfl, rfl, (qB h6), trivial⟩
       ·
        refine xw_id ?_; (try simp only [go_sem, fx12_0, fx12_1, fx12_2, h5]); obtain rfl := someInj hvh5; exact v _ ⟨rfl, (qB h5), trivial⟩
     ·
      refine xw_id ?_; (try simp only [go_sem, fx12_0, fx12_1, fx12_2]); refine u _ ?_; clear u U; refine bq_n ?_; refine sq_n ?_; obtain rfl := someInj hi2; exact ⟨_, rfl, (Wk.canonD [] [] [] rfl trivial rfl tmO0 (tmAllU 3 tmAll0 (Tm.v _)))⟩
   ·
    have hi2 := cF hi2 h3; refine awp_nw [0,3,9] fun tz U u => ?_; (try simp only [go_sem, fx12_0, fx12_1, fx12_2]); refine qU u ?_; clear u U; refine awp_cond1 (b := (x12 == 2)) rfl (fun h7 => ?_) (fun h7 => ?_)
    ·
     have hi2 := cT hi2 h7; refine awp_nw1 [0] fun tz U u => ?_; (try simp only [go_sem, fx12_0, fx12_1, fx12_2]); refine u _ ?_; clear u U; refine bq_n ?_; refine sq_n ?_; obtain rfl := someInj hi2; exact ⟨_, rfl, (Wk.canonD [] [] [] rfl trivial rfl tmO0 (tmAllU 3 tmAll0 (Tm.v _)))⟩
    ·
     have hi2 := cF hi2 h7; refine awp_nw [0,3,9] fun tz U u => ?_; (try simp only [go_sem, fx12_0, fx12_1, fx12_2]); refine qU u ?_; clear u U; refine awp_cond1 (b := (x12 == 3)) rfl (fun h8 => ?_) (fun h8 => ?_)
     ·
      have hi2 := cT hi2 h8; refine awp_nw1 [0] fun tz U u => ?_; (try simp only [go_sem, fx12_0, fx12_1, fx12_2]); refine u _ ?_; clear u U; refine bq_n ?_; refine sq_n ?_; obtain rfl := someInj hi2; exact ⟨_, rfl, (Wk.canonD [] [] [] rfl trivial rfl tmO0 (tmAllU 3 tmAll0 (Tm.v _)))⟩
     ·
      have hi2 := cF hi2 h8; refine awp_skip1 ?_; refine bq_n ?_; refine sq_n ?_; obtain rfl := someInj hi2; exact ⟨_, rfl, (Wk.canonD [] [] [] rfl trivial rfl tmO0 (tmAllU 3 tmAll0 (Tm.v _)))⟩
  ·
   rintro _ rfl; clear hi2; unfold auth_shaped_S0; refine awp_assoc ?_; refine awp_nw [3] fun tz U u => ?_; (try simp only [go_sem]); refine qU u ?_; clear u U; refine awp_cond (b := (!d13)) rfl (fun h9 => ?_) (fun h9 => ?_)
   ·
    have h0 := cT h0 h9; refine awp_assoc ?_; refine awp_nw [] fun tz U u => ?_; (try simp only [go_sem]); refine qU u ?_; clear u U; refine awp_ret ?_; obtain rfl := someInj h0; refine endW_i ?_; refine end_ret0 rs33 (rfl) ?_; exact qF
   ·
    have h0 := cF h0 h9; refine awp_skip ?_; refine awp_nw [] fun tz U u => ?_; (try simp only [go_sem]); refine qU u ?_; clear u U; refine awp_ret1 ?_; obtain rfl := someInj h0; refine endW_i ?_; refine end_ret0 rs33 (rfl) ?_; exact qF
theorem auth_Handle_1_p (a0 : Int) {r : (Auth × (List (List Int)) × Int)} (h0 : auth_Handle_1 a0 = some r) : SndP K 58 [(vi a0)] (.tup [(.agg (e_Auth r.1)), (S_S_vu r.2.1), (vi r.2.2)]) := by
 refine SndP.of_walkW hC (Clean.tup (clean_cons (Clean.agg (e_Auth_clean _)) (clean_cons (S_S_vu_clean _) (clean_cons (Clean.v _) clean_nil)))) (clean_cons (Clean.v _) clean_nil) (show K.P.funcs[58]? = some Try.f58 from Try.func58) rfl rfl (by decide +kernel) (Nat.le_of_ble_eq_true rfl) ?_; unfold auth_Handle_1 at h0; refine awp_nw [0] fun tz U u => ?_; (try simp only [go_sem]); refine qU u ?_; clear u U; refine awp_nw [0,2] fun tz U u => ?_; (try simp only [go_sem]); refine qU u ?_; clear u U; refine awp_ret1 ?_; obtain rfl := someInj h0; refine endW_i ?_; refine end_ret0 rs58 qR ?_; exact qF
theorem bytes_Clone_r (a0 : (List Int)) {r : (List Int)} (h0 : bytes_Clone a0 = some r) : SndR K 72 [(S_vu a0)] (fun q => (.ref (q 0) 0 r.length 1)) [(List.map vu r)] := by
 cases a0 with
 | nil =>
  refine SndR.split_nil (fun cap => ?_) (fun a cap => ?_)
  ·
   unfold bytes_Clone at h0; obtain ⟨x1, bx1, h0⟩ := bnd h0; obtain rfl := someInj h0; refine SndR.of_walkW hC (show K.P.funcs[72]? = some Try.f72 from Try.func72) rfl rfl (by decide +kernel) (Nat.le_of_ble_eq_true rfl) ?_; refine awp_nw [0] fun tz U u => ?_; (try simp only [go_sem, Option.isSome_some, if_true, eq_self]); refine qU u ?_; clear u U; refine awp_assoc ?_; refine awp_nw [0] fun tz U u => ?_; (try simp only [go_sem, Option.isSome_some, if_true, eq_self]); refine qU u ?_; clear u U; refine awp_condT rfl ?_; refine awp_assoc ?_; refine awp_nw [] fun tz U u => ?_; (try simp only [go_sem, Option.isSome_some, if_true, eq_self]); refine qU u ?_; clear u U; refine awp_ret ?_; refine endW_i ?_; refine end_ret0 rs72 (rfl) ?_; exact Res.mk [] [none] rfl (resON resO0) (Tm.thaw _ _ _)
  ·
   revert h0; intro h0; refine SndR.of_walkW hC (show K.P.funcs[72]? = some Try.f72 from Try.func72) rfl rfl (by decide +kernel) (Nat.le_of_ble_eq_true rfl) ?_; unfold bytes_Clone at h0; refine awp_nw [0] fun tz U u => ?_; (try simp only [go_sem, Option.isSome_some, if_true, eq_self]); refine qU u ?_; clear u U; refine awp_assoc ?_; refine awp_nw [0] fun tz U u => ?_; (try simp only [go_sem, Option.isSome_some, if_true, eq_self]); refine qU u ?_; clear u U; refine awp_condF rfl ?_; refine awp_skip ?_; refine awp_nw [0] fun tz U u => ?_; obtain ⟨x61, bx61, h0⟩ := bnd h0; have bx61 := chk_some bx61; simp only [Bool.and_eq_true, decide_eq_true_eq] at bx61; have gx61_0 := bx61; (try simp only [go_sem, Option.isSome_some, if_true, eq_self, gx61_0]); refine qU u ?_; clear u U; refine awp_ret1 ?_; obtain rfl := someInj h0; refine endW_i ?_; refine end_ret0 rs72 (rfl) ?_; refine Res.mk [] [some 5] rfl (resOU List.not_mem_nil rfl (TmL.of_eq qL (vu_clean _)) resO0) (Tm.refL rfl ?_); (all_goals (first | rfl | (simp only [List.length_append, List.length_take, List.length_drop, List.length_cons, List.length_nil, List.length_modify, List.length_set, Nat.zero_add] <;> omega) | omega))
 | cons x l =>
  generalize ha : x :: l = a0 at *; (have nb : nilB (.imm (List.map vu a0) a0.length) = some false := by subst ha; rfl); refine SndR.of_walkW hC (show K.P.funcs[72]? = some Try.f72 from Try.func72) rfl rfl (by decide +kernel) (Nat.le_of_ble_eq_true rfl) ?_; unfold bytes_Clone at h0; refine awp_nw [0] fun tz U u => ?_; (try simp only [go_sem, ↓nb, Option.isSome_some, if_true, eq_self]); refine qU u ?_; clear u U; refine awp_assoc ?_; refine awp_nw [0] fun tz U u => ?_; (try simp only [go_sem, ↓nb, Option.isSome_some, if_true, eq_self]); refine qU u ?_; clear u U; refine awp_condF rfl ?_; refine awp_skip ?_; refine awp_nw [0] fun tz U u => ?_; obtain ⟨x61, bx61, h0⟩ := bnd h0; have bx61 := chk_some bx61; simp only [Bool.and_eq_true, decide_eq_true_eq] at bx61; have gx61_0 := bx61; (try simp only [go_sem, ↓nb, Option.isSome_some, if_true, eq_self, gx61_0]); refine qU u ?_; clear u U; refine awp_ret1 ?_; obtain rfl := someInj h0; refine endW_i ?_; refine end_ret0 rs72 (rfl) ?_; refine Res.mk [] [some 5] rfl (resOU List.not_mem_nil rfl (TmL.of_eq qL (vu_clean _)) resO0) (Tm.refL rfl ?_); (all_goals (first | rfl | (simp only [List.length_append, List.length_take, List.length_drop, List.length_cons, List.length_nil, List.length_modify, List.length_set, Nat.zero_add] <;> omega) | omega))

theorem bytes_Clone_m (a0 : (List Int)) {r : (List Int)} (h0 : bytes_Clone a0 = some r) : SndM K 72 [(S_vu a0)] (fun q => (.ref (q 0) 0 r.length 1)) [(List.map vu r)] :=
 fun hs => Snd.of_newM (RenM.ref 0 0 _ _) (rows_all_cons (vu_clean _) rows_all_nil) (clean_cons (S_vu_clean _) clean_nil) (bytes_Clone_r a0 h0) hs

theorem bytes_Clone_e (a0 : (List Int)) {r : (List Int)} (h0 : bytes_Clone a0 = some r) (fr : Nat) (hs : HS) : SndE K 72 [(S_vu a0)] hs fr ⟨(fun q : Nat → Nat => (.ref (q 0) 0 r.length 1)) fun _ => fr, .new (List.map vu r)⟩ :=
 SndE.of_res (RenM.ref 0 0 _ _) (vu_clean _) (clean_cons (S_vu_clean _) clean_nil) (fun a b h => by simp only [h]) (bytes_Clone_r a0 h0) hs fr

theorem bytes_Clone_p (a0 : (List Int)) {r : (List Int)} (h0 : bytes_Clone a0 = some r) : SndP K 72 [(S_vu a0)] (S_vu r) :=
 SndM.pure (bytes_Clone_m a0 h0) (S_vu_clean _) (clean_cons (S_vu_clean _) clean_nil) (by simp only [go_sem, newL_n, newL_c, upd_get, fz, nilS, cond_true, cond_false, List.drop_zero, List.take_length, List.length_map, ble_self] <;> rfl)
def auth_coded_S0 (a1 : Int) (x64 : A16vu) : AS :=
 { objs := (upd (upd (fun _ => .dead) 0 (.live (List.map vu [2, IntKind.wrap .u8 a1, IntKind.wrap .u8 ((a1).fdiv (2 ^ (min 8 64)))]))) 1 (.live (e_A16vu x64))), next := 2, tmps := (upd (upd (fun _ => .unk) 13 (.ref 0 0 3 1)) 14 (.ptr 1 0)) }

theorem auth_coded_r (a0 : A16vu) (a1 : Int) (a2 : Int) (a3 : Int) (a4 : Int) (a5 : Int) {r : (List Int)} (h0 : auth_coded a0 a1 a2 a3 a4 a5 = some r) : SndR K 60 [(.agg (e_A16vu a0)), (vi a1), (vq a2), (vq a3), (vq a4), (vq a5)] (fun q => (.ref (q 0) 0 r.length 1)) [(List.map vu r)] := by
 refine SndR.of_walkW hC (show K.P.funcs[60]? = some Try.f60 from Try.func60) rfl rfl (by decide +kernel) (Nat.le_of_ble_eq_true rfl) ?_; unfold auth_coded at h0; refine awp_nw [0,1,2,3,4,5] fun tz U u => ?_; (try simp only [go_sem]); refine qU u ?_; clear u U; refine awp_nw [1,2,3,4,5,6] fun tz U u => ?_; (try simp only [go_sem]); refine qU u ?_; clear u U; refine awp_nr [2,3,4,5,6,13] (fun _ => rfl) fun tz => ?_; refine awp_regDW fun U u all hall => ?_; refine xd_id ?_; (try simp only [List.toList_toArray, List.map_cons, List.map_nil, List.size_toArray, List.length_cons, List.length_nil, Nat.zero_add]); (try simp only [Nat.reduceAdd]); obtain ⟨x61, bx61, h0⟩ := bnd h0; (iterate 3 ((try simp only [go_sem, -Nat.reduceAdd]); try simp only [Nat.reduceAdd])); (refine xcallD_EL (by first | (simp only [go_sem, fz, nilS, cond_true, cond_false] <;> rfl) | (simp only [go_sem, fz, List.length_set, ble_self, take_set, cond_true, cond_false] <;> rfl)) (by first | (simp only [go_sem, reach] <;> rfl)) (bytes_Clone_e [2, IntKind.wrap .u8 a1, IntKind.wrap .u8 ((a1).fdiv (2 ^ (min 8 64)))] bx61 _) (by repeat' (first | exact NoV.v _ | exact NoV.ref _ _ _ _ | exact NoV.onil | refine NoV.ocons ?_ ?_ | exact NoV.nil | refine NoV.tup ?_ | refine NoV.agg ?_ | refine NoV.rows (fun _ => ?_) _ | refine NoV.maps (fun _ => ?_) _ | refine NoV.cons ?_ ?_)) (by repeat' (first | exact NoV.v _ | exact NoV.ref _ _ _ _ | exact NoV.onil | refine NoV.ocons ?_ ?_ | exact NoV.nil | refine NoV.tup ?_ | refine NoV.agg ?_ | refine NoV.rows (fun _ => ?_) _ | refine NoV.maps (fun _ => ?_) _ | refine NoV.cons ?_ ?_)) ?_; try dsimp only); (try refine xd_id ?_); obtain ⟨x62, bx62, h0⟩ := bnd h0; (iterate 3 ((try simp only [go_sem, -Nat.reduceAdd]); try simp only [Nat.reduceAdd])); (refine xcallD_EL (by first | (simp only [go_sem, fz, nilS, cond_true, cond_false] <;> rfl) | (simp only [go_sem, fz, List.length_set, ble_self, take_set, cond_true, cond_false] <;> rfl)) (by first | (simp only [go_sem, reach] <;> rfl)) (auth_numbers_e [a2, a3, a4, a5] bx62 _) (by repeat' (first | exact NoV.v _ | exact NoV.ref _ _ _ _ | exact NoV.onil | refine NoV.ocons ?_ ?_ | exact NoV.nil | refine NoV.tup ?_ | refine NoV.agg ?_ | refine NoV.rows (fun _ => ?_) _ | refine NoV.maps (fun _ => ?_) _ | refine NoV.cons ?_ ?_)) (by repeat' (first | exact NoV.v _ | exact NoV.ref _ _ _ _ | exact NoV.onil | refine NoV.ocons ?_ ?_ | exact NoV.nil | refine NoV.tup ?_ | refine NoV.agg ?_ | refine NoV.rows (fun _ => ?_) _ | refine NoV.maps (fun _ => ?_) _ | refine NoV.cons ?_ ?_)) ?_; try dsimp only); (try refine xd_id ?_); obtain ⟨x63, bx63, h0⟩ := bnd h0; have bx63 := chk_some bx63; simp only [Bool.and_eq_true, decide_eq_true_eq] at bx63; have gx63_0 := bx63; obtain ⟨x64, bx64, h0⟩ := bnd h0; (iterate 3 ((try simp only [go_sem, -Nat.reduceAdd, gx63_0]); try simp only [Nat.reduceAdd])); (have gl1 : x61.length + x62.length = (x61 ++ x62).length := by first | rfl | (simp only [List.length_append, List.length_take, List.length_drop, List.length_cons, List.length_nil, List.length_modify, List.length_set, Nat.zero_add]; done) | (simp only [List.length_append, List.length_take, List.length_drop, List.length_cons, List.length_nil, List.length_modify, List.length_set, Nat.zero_add]; omega)); (refine xcallD_L (by first | (simp only [go_sem, fz, gx63_0, gl1] <;> rfl) | (simp only [go_sem, fz, List.length_set, ble_self, take_set, cond_true, cond_false, gx63_0, gl1] <;> rfl)) (by first | (simp only [go_sem, reach, gx63_0] <;> rfl)) (derive_Mac_p a0 (x61 ++ x62) bx64) (bare_ok (by rfl)) ?_; try dsimp only); (try refine xd_id ?_); (iterate 3 ((try simp only [go_sem, -Nat.reduceAdd, gx63_0]); try simp only [Nat.reduceAdd])); refine And.intro ?_ (u _ (auth_coded_S0 a1 x64) (by refine Wk.canonD [] [] [some 7, some 20] rfl trivial rfl (tmOC 1 (tmOE 0 tmO0 (vu_clean _)) (e_A16vu_clean _)) (tmAllU 14 (tmAllU 13 tmAll0 (Tm.refL rfl ?_)) (Tm.ptr rfl)); all_goals (first | rfl | (simp only [List.length_append, List.length_take, List.length_drop, List.length_cons, List.length_nil, List.length_modify, List.length_set, Nat.zero_add] <;> omega) | omega)) ?_)
 ·
  subst hall; clear u U; exact qP
 ·
  clear u U hall all; unfold auth_coded_S0; refine awp_nw [13,14] fun tz U u => ?_; (try simp only [go_sem, Int.sub_zero]); refine qU u ?_; clear u U; refine awp_ret1 ?_; obtain rfl := someInj h0; refine endW_i ?_; refine end_ret0 rs60 (rfl) ?_; refine Res.mk [] [some 4] rfl (resOU List.not_mem_nil rfl (TmL.of_eq qL (vu_clean _)) resO0) (Tm.refL rfl ?_); (all_goals (first | rfl | (simp only [List.length_append, List.length_take, List.length_drop, List.length_cons, List.length_nil, List.length_modify, List.length_set, Nat.zero_add] <;> omega) | omega))

theorem auth_coded_m (a0 : A16vu) (a1 : Int) (a2 : Int) (a3 : Int) (a4 : Int) (a5 : Int) {r : (List Int)} (h0 : auth_coded a0 a1 a2 a3 a4 a5 = some r) : SndM K 60 [(.agg (e_A16vu a0)), (vi a1), (vq a2), (vq a3), (vq a4), (vq a5)] (fun q => (.ref (q 0) 0 r.length 1)) [(List.map vu r)] :=
 fun hs => Snd.of_newM (RenM.ref 0 0 _ _) (rows_all_cons (vu_clean _) rows_all_nil) (clean_cons (Clean.agg (e_A16vu_clean _)) (clean_cons (Clean.v _) (clean_cons (Clean.v _) (clean_cons (Clean.v _) (clean_cons (Clean.v _) (clean_cons (Clean.v _) clean_nil)))))) (auth_coded_r a0 a1 a2 a3 a4 a5 h0) hs

theorem auth_coded_e (a0 : A16vu) (a1 : Int) (a2 : Int) (a3 : Int) (a4 : Int) (a5 : Int) {r : (List Int)} (h0 : auth_coded a0 a1 a2 a3 a4 a5 = some r) (fr : Nat) (hs : HS) : SndE K 60 [(.agg (e_A16vu a0)), (vi a1), (vq a2), (vq a3), (vq a4), (vq a5)] hs fr ⟨(fun q : Nat → Nat => (.ref (q 0) 0 r.length 1)) fun _ => fr, .new (List.map vu r)⟩ :=
 SndE.of_res (RenM.ref 0 0 _ _) (vu_clean _) (clean_cons (Clean.agg (e_A16vu_clean _)) (clean_cons (Clean.v _) (clean_cons (Clean.v _) (clean_cons (Clean.v _) (clean_cons (Clean.v _) (clean_cons (Clean.v _) clean_nil)))))) (fun a b h => by simp only [h]) (auth_coded_r a0 a1 a2 a3 a4 a5 h0) hs fr

theorem auth_coded_p (a0 : A16vu) (a1 : Int) (a2 : Int) (a3 : Int) (a4 : Int) (a5 : Int) {r : (List Int)} (h0 : auth_coded a0 a1 a2 a3 a4 a5 = some r) : SndP K 60 [(.agg (e_A16vu a0)), (vi a1), (vq a2), (vq a3), (vq a4), (vq a5)] (S_vu r) :=
 SndM.pure (auth_coded_m a0 a1 a2 a3 a4 a5 h0) (S_vu_clean _) (clean_cons (Clean.agg (e_A16vu_clean _)) (clean_cons (Clean.v _) (clean_cons (Clean.v _) (clean_cons (Clean.v _) (clean_cons (Clean.v _) (clean_cons (Clean.v _) clean_nil)))))) (by simp only [go_sem, newL_n, newL_c, upd_get, fz, nilS, cond_true, cond_false, List.drop_zero, List.take_length, List.length_map, ble_self] <;> rfl)
theorem bytes_Equal_p (a0 : (List Int)) (a1 : (List Int)) {r : Bool} (h0 : bytes_Equal a0 a1 = some r) : SndP K 59 [(S_vu a0), (S_vu a1)] (vb r) := by
 refine SndP.of_walkW hC (Clean.v _) (clean_cons (S_vu_clean _) (clean_cons (S_vu_clean _) clean_nil)) (show K.P.funcs[59]? = some Try.f59 from Try.func59) rfl rfl (by decide +kernel) (Nat.le_of_ble_eq_true rfl) ?_; unfold bytes_Equal at h0; refine awp_nw [0,1] fun tz U u => ?_; (try simp only [go_sem]); refine qU u ?_; clear u U; refine awp_nw [0,1] fun tz U u => ?_; (try simp only [go_sem, vu_len, Nat.mul_one, vu_len, Nat.mul_one]); refine qU u ?_; clear u U; refine awp_ret1 ?_; obtain rfl := someInj h0; refine endW_i ?_; refine end_ret0 rs59 (rfl) ?_; exact qF
theorem auth_prove_r (a0 : Auth) {r : (Auth × (List Int) × Bool)} (h0 : auth_prove a0 = some r) : SndR K 62 [(.agg (e_Auth a0))] (fun q => (.tup [(.agg (e_Auth r.1)), (.ref (q 0) 0 r.2.1.length 1), (vb r.2.2)])) [(List.map vu r.2.1)] := by
 refine SndR.of_walkW hC (show K.P.funcs[62]? = some Try.f62 from Try.func62) rfl rfl (by decide +kernel) (Nat.le_of_ble_eq_true rfl) ?_; unfold auth_prove at h0; refine awp_nw [0] fun tz U u => ?_; (try simp only [go_sem]); refine qU u ?_; clear u U; refine awp_nw [1,2] fun tz U u => ?_; (try simp only [go_sem]); refine qU u ?_; clear u U; refine awp_nr [1,2] (fun _ => rfl) fun tz => ?_; refine awp_regDW fun U u all hall => ?_; refine xd_id ?_; (try simp only [List.toList_toArray, List.map_cons, List.map_nil, List.size_toArray, List.length_cons, List.length_nil, Nat.zero_add]); (try simp only [Nat.reduceAdd]); obtain ⟨x81, bx81, h0⟩ := bnd h0; (iterate 3 ((try simp only [go_sem, -Nat.reduceAdd]); try simp only [Nat.reduceAdd])); (refine xcallD_E (auth_coded_e a0.Confirm (IntKind.wrap .i64 (a0.Sync + 1)) a0.Scalar a0.Element a0.OtherScalar a0.OtherElement bx81 _) ?_; try dsimp only); (try refine xd_id ?_); (iterate 3 ((try simp only [go_sem, -Nat.reduceAdd]); try simp only [Nat.reduceAdd])); refine And.intro ?_ (u _ _ (Wk.refl _ _ _) ?_)
 ·
  subst hall; clear u U; exact qP
 ·
  clear u U hall all; refine awp_ret1 ?_; obtain rfl := someInj h0; refine endW_i ?_; refine end_ret0 rs62 qR ?_; refine Res.mk [] [some 22] rfl (resOU List.not_mem_nil rfl (TmL.of_eq qL (vu_clean _)) resO0) (Tm.tup (TmL.cons (Tm.clean (Clean.agg (e_Auth_clean _))) (TmL.cons (Tm.refL rfl ?_) (TmL.cons (Tm.v _) TmL.nil)))); (all_goals (first | rfl | (simp only [List.length_append, List.length_take, List.length_drop, List.length_cons, List.length_nil, List.length_modify, List.length_set, Nat.zero_add] <;> omega) | omega))

theorem auth_prove_m (a0 : Auth) {r : (Auth × (List Int) × Bool)} (h0 : auth_prove a0 = some r) : SndM K 62 [(.agg (e_Auth a0))] (fun q => (.tup [(.agg (e_Auth r.1)), (.ref (q 0) 0 r.2.1.length 1), (vb r.2.2)])) [(List.map vu r.2.1)] :=
 fun hs => Snd.of_newM (RenM.tup (RenML.cons (RenM.const (Clean.agg (e_Auth_clean _))) (RenML.cons (RenM.ref 0 0 _ _) (RenML.cons (RenM.const (Clean.v _)) RenML.nil)))) (rows_all_cons (vu_clean _) rows_all_nil) (clean_cons (Clean.agg (e_Auth_clean _)) clean_nil) (auth_prove_r a0 h0) hs

theorem auth_prove_e (a0 : Auth) {r : (Auth × (List Int) × Bool)} (h0 : auth_prove a0 = some r) (fr : Nat) (hs : HS) : SndE K 62 [(.agg (e_Auth a0))] hs fr ⟨(fun q : Nat → Nat => (.tup [(.agg (e_Auth r.1)), (.ref (q 0) 0 r.2.1.length 1), (vb r.2.2)])) fun _ => fr, .new (List.map vu r.2.1)⟩ :=
 SndE.of_res (RenM.tup (RenML.cons (RenM.const (Clean.agg (e_Auth_clean _))) (RenML.cons (RenM.ref 0 0 _ _) (RenML.cons (RenM.const (Clean.v _)) RenML.nil)))) (vu_clean _) (clean_cons (Clean.agg (e_Auth_clean _)) clean_nil) (fun a b h => by simp only [h]) (auth_prove_r a0 h0) hs fr

theorem auth_prove_p (a0 : Auth) {r : (Auth × (List Int) × Bool)} (h0 : auth_prove a0 = some r) : SndP K 62 [(.agg (e_Auth a0))] (.tup [(.agg (e_Auth r.1)), (S_vu r.2.1), (vb r.2.2)]) :=
 SndM.pure (auth_prove_m a0 h0) (Clean.tup (clean_cons (Clean.agg (e_Auth_clean _)) (clean_cons (S_vu_clean _) (clean_cons (Clean.v _) clean_nil)))) (clean_cons (Clean.agg (e_Auth_clean _)) clean_nil) (by simp only [go_sem, newL_n, newL_c, upd_get, fz, nilS, cond_true, cond_false, List.drop_zero, List.take_length, List.length_map, ble_self] <;> rfl)
def auth_committed_S0 (a0 : Auth) (a2 : Int) (x70 : Int) (x72 : Int) : AS :=
 { objs := (upd (upd (fun _ => .dead) 0 (.live (e_Auth a0))) 1 (.live (e_Auth Auth.z))), next := 2, tmps := (upd (upd (upd (upd (upd (fun _ => .unk) 2 (vi a2)) 3 (.ptr 0 0)) 6 (.ptr 1 0)) 9 (vq x70)) 10 (vq x72)) }

def auth_committed_S1 (d73 : (Auth × List (List Int))) : AS :=
 { objs := (upd (upd (upd (fun _ => .dead) 0 (.live (e_Auth d73.1))) 1 (.live (e_Auth Auth.z))) 2 (.live (List.map S_vu d73.2))), next := 3, tmps := (upd (upd (upd (fun _ => .unk) 3 (.ptr 0 0)) 6 (.ptr 1 0)) 11 (.ref 2 0 ((d73.2).length) 1)) }

def auth_committed_S2 (a0 : Auth) (a2 : Int) (x70 : Int) (x72 : Int) (d75 : Bool) : AS :=
 { objs := (upd (upd (fun _ => .dead) 0 (.live (e_Auth a0))) 1 (.live (e_Auth Auth.z))), next := 2, tmps := (upd (upd (upd (upd (upd (upd (upd (upd (fun _ => .unk) 2 (vi a2)) 3 (.ptr 0 0)) 6 (.ptr 1 0)) 9 (vq x70)) 10 (vq x72)) 11 vnil) 23 (vu a0.Stage)) 25 (vb d75)) }

def auth_committed_S3 (a0 : Auth) (x76 : (Auth × Bool)) (a2 : Int) (d77 : (List (List Int))) : AS :=
 { objs := (upd (upd (upd (upd (fun _ => .dead) 0 (.live (e_Auth a0))) 1 (.live (e_Auth Auth.z))) 2 (.live (List.map S_vu d77))) 3 (.live (e_Auth x76.1))), next := 4, tmps := (upd (upd (upd (upd (upd (fun _ => .unk) 2 (vi a2)) 3 (.ptr 0 0)) 6 (.ptr 1 0)) 11 (.ref 2 0 ((d77).length) 1)) 12 (.ptr 3 0)) }

def auth_committed_S4 (a0 : Auth) (x70 : Int) (x72 : Int) (d79 : Bool) : AS :=
 { objs := (upd (upd (fun _ => .dead) 0 (.live (e_Auth a0))) 1 (.live (e_Auth Auth.z))), next := 2, tmps := (upd (upd (upd (upd (upd (upd (fun _ => .unk) 3 (.ptr 0 0)) 6 (.ptr 1 0)) 9 (vq x70)) 10 (vq x72)) 11 vnil) 52 (vb d79)) }

theorem auth_committed_r (a0 : Auth) (a1 : (List Int)) (a2 : Int) {r : (Auth × (List (List Int)) × Int)} (h0 : auth_committed a0 a1 a2 = some r) : SndR K 61 [(.agg (e_Auth a0)), (S_vu a1), (vi a2)] (fun q => (.tup [(.agg (e_Auth r.1)), (.ref (q 0) 0 r.2.1.length 1), (vi r.2.2)])) [(List.map S_vu r.2.1)] := by
 refine SndR.of_walkW hC (show K.P.funcs[61]? = some Try.f61 from Try.func61) rfl rfl (by decide +kernel) (Nat.le_of_ble_eq_true rfl) ?_; unfold auth_committed at h0; refine awp_nw [0,1,2] fun tz U u => ?_; (try simp only [go_sem]); refine qU u ?_; clear u U; refine awp_nw [1,2,3,6] fun tz U u => ?_; obtain ⟨x69, bx69, h0⟩ := bnd h0; have bx69 := chk_some bx69; simp only [Bool.and_eq_true, decide_eq_true_eq] at bx69; have gx69_0 := bx69; (have g1 : ((a1.length : Int) - 1).toNat = (List.drop 1 a1).length := by simp only [List.length_take, List.length_drop]; omega); (try simp only [Int.sub_zero] at g1); obtain ⟨x70, bx70, h0⟩ := bnd h0; (try simp only [go_sem, gx69_0, g1, Int.sub_zero]); (refine xcall_p (auth_get_p (List.drop 1 a1) bx70) ?_; try dsimp only); (try refine xw_id ?_); obtain ⟨x71, bx71, h0⟩ := bnd h0; have bx71 := chk_some bx71; simp only [Bool.and_eq_true, decide_eq_true_eq] at bx71; have gx71_0 := bx71; (have g2 : ((a1.length : Int) - 9).toNat = (List.drop 9 a1).length := by simp only [List.length_take, List.length_drop]; omega); (try simp only [Int.sub_zero] at g2); obtain ⟨x72, bx72, h0⟩ := bnd h0; (try simp only [go_sem, gx69_0, g1, Int.sub_zero, gx71_0, g2, Int.sub_zero]); (refine xcall_p (auth_get_p (List.drop 9 a1) bx72) ?_; try dsimp only); (try refine xw_id ?_); (try simp only [go_sem, gx69_0, g1, Int.sub_zero, gx71_0, g2, Int.sub_zero]); refine u _ (auth_committed_S0 a0 a2 x70 x72) (Wk.canonD [] [] [some 0, some 1] rfl trivial rfl (tmOC 1 (tmOC 0 tmO0 (e_Auth_clean _)) (e_Auth_clean _)) (tmAllU 10 (tmAllU 9 (tmAllU 6 (tmAllU 3 (tmAllU 2 tmAll0 (Tm.v _)) (Tm.ptr rfl)) (Tm.ptr rfl)) (Tm.v _)) (Tm.v _))) ?_; clear u U; unfold auth_committed_S0; refine awp_nw [2,3,6,9,10] fun tz U u => ?_; (try simp only [go_sem]); refine qU u ?_; clear u U; refine awp_assoc ?_; refine awp_nw [2,3,6,9,10,11] fun tz U u => ?_; (try simp only [go_sem]); refine qU u ?_; clear u U; obtain ⟨o74, hi3, h0⟩ := bnd h0; refine awp_cut (fun d73 : (Auth × List (List Int)) => o74 = Ex.go d73) (fun d73 : (Auth × List (List Int)) => auth_committed_S1 d73) ?_ ?_
 ·
  refine awp_block1 ?_; refine awp_assoc ?_; refine awp_nw [2,3,6,9,10,11,23] fun tz U u => ?_; (try simp only [go_sem]); refine qU u ?_; clear u U; obtain ⟨d75, hi4, hi3⟩ := bnd hi3; refine awp_cut (fun z => d75 = z) (fun d75 : Bool => auth_committed_S2 a0 a2 x70 x72 d75) ?_ ?_
  ·
   refine awp_cond1 (b := (a0.Stage == 0)) rfl (fun h5 => ?_) (fun h5 => ?_)
   ·
    have hi4 := cT hi4 h5; refine awp_skip1 ?_; refine sq_n ?_; obtain rfl := someInj hi4; exact ⟨_, rfl, (Wk.canonD [] [] [some 0, some 1] rfl trivial rfl (tmOC 1 (tmOC 0 tmO0 (e_Auth_clean _)) (e_Auth_clean _)) (tmAllU 25 (tmAllU 23 (tmAllU 11 (tmAllU 10 (tmAllU 9 (tmAllU 6 (tmAllU 3 (tmAllU 2 tmAll0 (Tm.v _)) (Tm.ptr rfl)) (Tm.ptr rfl)) (Tm.v _)) (Tm.v _)) (Tm.v _)) (Tm.v _)) (Tm.v _)))⟩
   ·
    have hi4 := cF hi4 h5; refine awp_nw1 [2,3,6,9,10,11,23] fun tz U u => ?_; (try simp only [go_sem]); refine u _ ?_; clear u U; refine sq_n ?_; obtain rfl := someInj hi4; exact ⟨_, rfl, (Wk.canonD [] [] [some 0, some 1] rfl trivial rfl (tmOC 1 (tmOC 0 tmO0 (e_Auth_clean _)) (e_Auth_clean _)) (tmAllU 25 (tmAllU 23 (tmAllU 11 (tmAllU 10 (tmAllU 9 (tmAllU 6 (tmAllU 3 (tmAllU 2 tmAll0 (Tm.v _)) (Tm.ptr rfl)) (Tm.ptr rfl)) (Tm.v _)) (Tm.v _)) (Tm.v _)) (Tm.v _)) (Tm.v _)))⟩
  ·
   rintro _ rfl; clear hi4; unfold auth_committed_S2; refine awp_cond1 (b := d75) rfl (fun h6 => ?_) (fun h6 => ?_)
   ·
    have hi3 := cT hi3 h6; refine awp_nw [2,3,6,9,10,11] fun tz U u => ?_; obtain ⟨x76, bx76, hi3⟩ := bnd hi3; (try simp only [go_sem]); (refine xcall_p (auth_keyed_p a0 x70 x72 bx76) ?_; try dsimp only); (try refine xw_id ?_); (try simp only [go_sem]); refine qU u ?_; clear u U; refine awp_assoc ?_; refine awp_nw [2,3,6,11,12,13] fun tz U u => ?_; (try simp only [go_sem]); refine qU u ?_; clear u U; refine awp_cond (b := (!x76.2)) rfl (fun h7 => ?_) (fun h7 => ?_)
    ·
     have hi3 := cT hi3 h7; refine awp_assoc ?_; refine awp_nw [3,6] fun tz U u => ?_; (try simp only [go_sem]); refine qU u ?_; clear u U; refine awp_ret ?_; refine bq_r ?_; refine sq_r ?_; obtain rfl := someInj hi3; obtain rfl := Ex.k_ret h0; refine endW_i ?_; refine end_ret0 rs61 qR ?_; refine Res.mk [] [none] rfl (resON resO0) (Tm.tup (TmL.cons (Tm.clean (Clean.agg (e_Auth_clean _))) (TmL.cons (Tm.thaw _ _ _) (TmL.cons (Tm.v _) TmL.nil))))
    ·
     have hi3 := cF hi3 h7; refine awp_skip ?_; refine awp_assoc ?_; refine awp_nw [2,3,6,11,12] fun tz U u => ?_; (try simp only [go_sem]); refine qU u ?_; clear u U; obtain ⟨d77, hi8, hi3⟩ := bnd hi3; refine awp_cut (fun z => d77 = z) (fun d77 : (List (List Int)) => auth_committed_S3 a0 x76 a2 d77) ?_ ?_
     ·
      refine awp_cond1 (b := (a0.Stage == 0)) rfl (fun h9 => ?_) (fun h9 => ?_)
      ·
       have hi8 := cT hi8 h9; refine awp_nw1 [2,3,6,11,12] fun tz U u => ?_; obtain ⟨x78, bx78, hi8⟩ := bnd hi8; (try simp only [go_sem]); (refine xcall_p (auth_commit_p a0 bx78) ?_; try dsimp only); (try refine xw_id ?_); (try simp only [go_sem, List.length_map]); refine u _ ?_; clear u U; refine sq_n ?_; obtain rfl := someInj hi8; exact ⟨_, rfl, (by refine Wk.canonD [] [] [some 0, some 1, some 21, some 9] rfl trivial rfl (tmOC 3 (tmOE 2 (tmOC 1 (tmOC 0 tmO0 (e_Auth_clean _)) (e_Auth_clean _)) (cS_vu _)) (e_Auth_clean _)) (tmAllU 12 (tmAllU 11 (tmAllU 6 (tmAllU 3 (tmAllU 2 tmAll0 (Tm.v _)) (Tm.ptr rfl)) (Tm.ptr rfl)) (Tm.refL rfl ?_)) (Tm.ptr rfl)); all_goals (first | rfl | (simp only [List.length_append, List.length_take, List.length_drop, List.length_cons, List.length_nil, List.length_modify, List.length_set, Nat.zero_add] <;> omega) | omega))⟩
      ·
       have hi8 := cF hi8 h9; refine awp_skip1 ?_; refine sq_n ?_; obtain rfl := someInj hi8; exact ⟨_, rfl, (Wk.canonD [] [] [some 0, some 1, none, some 9] rfl trivial rfl (tmOC 3 (tmON 2 (tmOC 1 (tmOC 0 tmO0 (e_Auth_clean _)) (e_Auth_clean _)) rfl) (e_Auth_clean _)) (tmAllU 12 (tmAllU 11 (tmAllU 6 (tmAllU 3 (tmAllU 2 tmAll0 (Tm.v _)) (Tm.ptr rfl)) (Tm.ptr rfl)) (Tm.thaw _ _ _)) (Tm.ptr rfl)))⟩
     ·
      rintro _ rfl; clear hi8; unfold auth_committed_S3; refine awp_nw [2,3,6,11,12] fun tz U u => ?_; (try simp only [go_sem]); refine qU u ?_; clear u U; refine awp_nw1 [2,3,6,11] fun tz U u => ?_; (try simp only [go_sem]); refine u _ ?_; clear u U; refine bq_n ?_; refine sq_n ?_; obtain rfl := someInj hi3; exact ⟨_, rfl, (by refine Wk.canonD [] [] [some 0, some 1, some 2] rfl trivial rfl (tmOE 2 (tmOC 1 (tmOC 0 tmO0 (e_Auth_clean _)) (e_Auth_clean _)) (cS_vu _)) (tmAllU 11 (tmAllU 6 (tmAllU 3 tmAll0 (Tm.ptr rfl)) (Tm.ptr rfl)) (Tm.refL rfl ?_)); all_goals (first | rfl | (simp only [List.length_append, List.length_take, List.length_drop, List.length_cons, List.length_nil, List.length_modify, List.length_set, Nat.zero_add] <;> omega) | omega))⟩
   ·
    have hi3 := cF hi3 h6; refine awp_assoc ?_; refine awp_nw [3,6,9,10,11,23] fun tz U u => ?_; (try simp only [go_sem]); refine qU u ?_; clear u U; obtain ⟨d79, hi10, hi3⟩ := bnd hi3; refine awp_cut (fun z => d79 = z) (fun d79 : Bool => auth_committed_S4 a0 x70 x72 d79) ?_ ?_
    ·
     refine awp_cond1 (b := (a0.Stage == 2)) rfl (fun h11 => ?_) (fun h11 => ?_)
     ·
      have hi10 := cT hi10 h11; refine awp_skip1 ?_; refine sq_n ?_; obtain rfl := someInj hi10; exact ⟨_, rfl, (Wk.canonD [] [] [some 0, some 1] rfl trivial rfl (tmOC 1 (tmOC 0 tmO0 (e_Auth_clean _)) (e_Auth_clean _)) (tmAllU 52 (tmAllU 11 (tmAllU 10 (tmAllU 9 (tmAllU 6 (tmAllU 3 tmAll0 (Tm.ptr rfl)) (Tm.ptr rfl)) (Tm.v _)) (Tm.v _)) (Tm.v _)) (Tm.v _)))⟩
     ·
      have hi10 := cF hi10 h11; refine awp_nw1 [3,6,9,10,11,23] fun tz U u => ?_; (try simp only [go_sem]); refine u _ ?_; clear u U; refine sq_n ?_; obtain rfl := someInj hi10; exact ⟨_, rfl, (Wk.canonD [] [] [some 0, some 1] rfl trivial rfl (tmOC 1 (tmOC 0 tmO0 (e_Auth_clean _)) (e_Auth_clean _)) (tmAllU 52 (tmAllU 11 (tmAllU 10 (tmAllU 9 (tmAllU 6 (tmAllU 3 tmAll0 (Tm.ptr rfl)) (Tm.ptr rfl)) (Tm.v _)) (Tm.v _)) (Tm.v _)) (Tm.v _)))⟩
    ·
     rintro _ rfl; clear hi10; unfold auth_committed_S4; refine awp_cond1 (b := d79) rfl (fun h12 => ?_) (fun h12 => ?_)
     ·
      have hi3 := cT hi3 h12; refine awp_assoc ?_; refine awp_nw [3,6,9,10,11] fun tz U u => ?_; refine xw_stop 5 qS qS (by rfl) fun V v => ?_; refine xw_id ?_; (try simp only [go_sem]); refine v _ ?_; clear v V; refine xw_cut 5 [(3, (.ptr 0 0)), (6, (.ptr 1 0)), (11, vnil), (64, (vb ((x70 != a0.OtherScalar) || (x72 != a0.OtherElement))))] qS qS (by rfl) (fun V v => ?_) fun tz => ?_
      ·
       refine xw_id ?_; rcases Bool.eq_false_or_eq_true (x70 != a0.OtherScalar) with h13 | h13
       ·
        (try simp only [go_sem, h13]); exact v _ ⟨rfl, rfl, rfl, rfl, (qB h13), trivial⟩
       ·
        (try simp only [go_sem, h13]); exact v _ ⟨rfl, rfl, rfl, rfl, (qB h13), trivial⟩
      ·
       refine xw_id ?_; (try simp only [go_sem]); refine qU u ?_; clear u U; refine awp_cond (b := ((x70 != a0.OtherScalar) || (x72 != a0.OtherElement))) rfl (fun h14 => ?_) (fun h14 => ?_)
       ·
        have hi3 := cT hi3 h14; refine awp_assoc ?_; refine awp_nw [3,6] fun tz U u => ?_; (try simp only [go_sem]); refine qU u ?_; clear u U; refine awp_ret ?_; refine bq_r ?_; refine sq_r ?_; obtain rfl := someInj hi3; obtain rfl := Ex.k_ret h0; refine endW_i ?_; refine end_ret0 rs61 qR ?_; refine Res.mk [] [none] rfl (resON resO0) (Tm.tup (TmL.cons (Tm.clean (Clean.agg (e_Auth_clean _))) (TmL.cons (Tm.thaw _ _ _) (TmL.cons (Tm.v _) TmL.nil))))
       ·
        have hi3 := cF hi3 h14; refine awp_skip ?_; refine awp_nw [3,6,11] fun tz U u => ?_; (try simp only [go_sem]); refine qU u ?_; clear u U; refine awp_cond1 (b := (a0.Stage == 2)) rfl (fun h15 => ?_) (fun h15 => ?_)
        ·
         have hi3 := cT hi3 h15; refine awp_nw1 [3,6,11] fun tz U u => ?_; obtain ⟨x80, bx80, hi3⟩ := bnd hi3; (try simp only [go_sem]); (refine xcall_p (auth_commit_p a0 bx80) ?_; try dsimp only); (try refine xw_id ?_); (try simp only [go_sem, List.length_map]); refine u _ ?_; clear u U; refine bq_n ?_; refine sq_n ?_; obtain rfl := someInj hi3; exact ⟨_, rfl, (by refine Wk.canonD [] [] [some 0, some 1, some 19] rfl trivial rfl (tmOE 2 (tmOC 1 (tmOC 0 tmO0 (e_Auth_clean _)) (e_Auth_clean _)) (cS_vu _)) (tmAllU 11 (tmAllU 6 (tmAllU 3 tmAll0 (Tm.ptr rfl)) (Tm.ptr rfl)) (Tm.refL rfl ?_)); all_goals (first | rfl | (simp only [List.length_append, List.length_take, List.length_drop, List.length_cons, List.length_nil, List.length_modify, List.length_set, Nat.zero_add] <;> omega) | omega))⟩
        ·
         have hi3 := cF hi3 h15; refine awp_skip1 ?_; refine bq_n ?_; refine sq_n ?_; obtain rfl := someInj hi3; exact ⟨_, rfl, (Wk.canonD [] [] [some 0, some 1, none] rfl trivial rfl (tmON 2 (tmOC 1 (tmOC 0 tmO0 (e_Auth_clean _)) (e_Auth_clean _)) rfl) (tmAllU 11 (tmAllU 6 (tmAllU 3 tmAll0 (Tm.ptr rfl)) (Tm.ptr rfl)) (Tm.thaw _ _ _)))⟩
     ·
      have hi3 := cF hi3 h12; refine awp_nw [3,6] fun tz U u => ?_; (try simp only [go_sem]); refine qU u ?_; clear u U; refine awp_ret1 ?_; refine bq_r ?_; refine sq_r ?_; obtain rfl := someInj hi3; obtain rfl := Ex.k_ret h0; refine endW_i ?_; refine end_ret0 rs61 qR ?_; refine Res.mk [] [none] rfl (resON resO0) (Tm.tup (TmL.cons (Tm.clean (Clean.agg (e_Auth_clean _))) (TmL.cons (Tm.thaw _ _ _) (TmL.cons (Tm.v _) TmL.nil))))
 ·
  rintro d73 rfl; have h0 := Ex.k_go h0; clear hi3; unfold auth_committed_S1; refine awp_nw [3,6,11] fun tz U u => ?_; obtain ⟨x81, bx81, h0⟩ := bnd h0; (try simp only [go_sem]); (refine xcall_p (auth_prove_p d73.1 bx81) ?_; try dsimp only); (try refine xw_id ?_); (try simp only [go_sem]); refine qU u ?_; clear u U; refine awp_assoc ?_; refine awp_nw [3,6,11,14,15] fun tz U u => ?_; (try simp only [go_sem]); refine qU u ?_; clear u U; refine awp_cond (b := (!x81.2.2)) rfl (fun h16 => ?_) (fun h16 => ?_)
  ·
   have h0 := cT h0 h16; refine awp_assoc ?_; refine awp_nw [3,6] fun tz U u => ?_; (try simp only [go_sem]); refine qU u ?_; clear u U; refine awp_ret ?_; obtain rfl := someInj h0; refine endW_i ?_; refine end_ret0 rs61 qR ?_; refine Res.mk [] [none] rfl (resON resO0) (Tm.tup (TmL.cons (Tm.clean (Clean.agg (e_Auth_clean _))) (TmL.cons (Tm.thaw _ _ _) (TmL.cons (Tm.v _) TmL.nil))))
  ·
   have h0 := cF h0 h16; refine awp_skip ?_; refine awp_nr [3,6,11,14] (fun _ => rfl) fun tz => ?_; refine awp_regDW fun U u all hall => ?_; refine xd_id ?_; (try simp only [List.toList_toArray, List.map_cons, List.map_nil, List.size_toArray, List.length_cons, List.length_nil, Nat.zero_add]); (try simp only [Nat.reduceAdd]); obtain ⟨x82, bx82, h0⟩ := bnd h0; have bx82 := chk_some bx82; simp only [Bool.and_eq_true, decide_eq_true_eq] at bx82; have gx82_0 := bx82; (iterate 3 ((try simp only [go_sem, -Nat.reduceAdd, List.length_map, gx82_0]); try simp only [Nat.reduceAdd])); refine And.intro ?_ (u _ _ (Wk.refl _ _ _) ?_)
   ·
    subst hall; clear u U; exact qP
   ·
    clear u U hall all; refine awp_ret1 ?_; obtain rfl := someInj h0; refine endW_i ?_; refine end_ret0 rs61 qR ?_; refine Res.mk [] [some 18] rfl (resOU List.not_mem_nil rfl (TmL.of_eq qL (cS_vu _)) resO0) (Tm.tup (TmL.cons (Tm.clean (Clean.agg (e_Auth_clean _))) (TmL.cons (Tm.refL rfl ?_) (TmL.cons (Tm.v _) TmL.nil)))); (all_goals (first | rfl | (simp only [List.length_append, List.length_take, List.length_drop, List.length_cons, List.length_nil, List.length_modify, List.length_set, Nat.zero_add] <;> omega) | omega))

theorem auth_committed_m (a0 : Auth) (a1 : (List Int)) (a2 : Int) {r : (Auth × (List (List Int)) × Int)} (h0 : auth_committed a0 a1 a2 = some r) : SndM K 61 [(.agg (e_Auth a0)), (S_vu a1), (vi a2)] (fun q => (.tup [(.agg (e_Auth r.1)), (.ref (q 0) 0 r.2.1.length 1), (vi r.2.2)])) [(List.map S_vu r.2.1)] :=
 fun hs => Snd.of_newM (RenM.tup (RenML.cons (RenM.const (Clean.agg (e_Auth_clean _))) (RenML.cons (RenM.ref 0 0 _ _) (RenML.cons (RenM.const (Clean.v _)) RenML.nil)))) (rows_all_cons (cS_vu _) rows_all_nil) (clean_cons (Clean.agg (e_Auth_clean _)) (clean_cons (S_vu_clean _) (clean_cons (Clean.v _) clean_nil))) (auth_committed_r a0 a1 a2 h0) hs

theorem auth_committed_e (a0 : Auth) (a1 : (List Int)) (a2 : Int) {r : (Auth × (List (List Int)) × Int)} (h0 : auth_committed a0 a1 a2 = some r) (fr : Nat) (hs : HS) : SndE K 61 [(.agg (e_Auth a0)), (S_vu a1), (vi a2)] hs fr ⟨(fun q : Nat → Nat => (.tup [(.agg (e_Auth r.1)), (.ref (q 0) 0 r.2.1.length 1), (vi r.2.2)])) fun _ => fr, .new (List.map S_vu r.2.1)⟩ :=
 SndE.of_res (RenM.tup (RenML.cons (RenM.const (Clean.agg (e_Auth_clean _))) (RenML.cons (RenM.ref 0 0 _ _) (RenML.cons (RenM.const (Clean.v _)) RenML.nil)))) (cS_vu _) (clean_cons (Clean.agg (e_Auth_clean _)) (clean_cons (S_vu_clean _) (clean_cons (Clean.v _) clean_nil))) (fun a b h => by simp only [h]) (auth_committed_r a0 a1 a2 h0) hs fr

theorem auth_committed_p (a0 : Auth) (a1 : (List Int)) (a2 : Int) {r : (Auth × (List (List Int)) × Int)} (h0 : auth_committed a0 a1 a2 = some r) : SndP K 61 [(.agg (e_Auth a0)), (S_vu a1), (vi a2)] (.tup [(.agg (e_Auth r.1)), (S_S_vu r.2.1), (vi r.2.2)]) :=
 SndM.pure (auth_committed_m a0 a1 a2 h0) (Clean.tup (clean_cons (Clean.agg (e_Auth_clean _)) (clean_cons (S_S_vu_clean _) (clean_cons (Clean.v _) clean_nil)))) (clean_cons (Clean.agg (e_Auth_clean _)) (clean_cons (S_vu_clean _) (clean_cons (Clean.v _) clean_nil))) (by simp only [go_sem, newL_n, newL_c, upd_get, fz, nilS, cond_true, cond_false, List.drop_zero, List.take_length, List.length_map, ble_self] <;> rfl)
end Go.AX.Z.TV
