/- A part of the proof: walks through the functions that the statement reaches. -/
import Derived.Test.YtkheccnpikfalaaWalkb
set_option linter.unusedVariables false
set_option linter.unusedSimpArgs false

/-! (TDW hotspotlaw33 BitmapNames) -/

set_option linter.unusedSimpArgs false
set_option linter.unusedVariables false
set_option maxHeartbeats 4000000
set_option maxRecDepth 20000
namespace Go.AX.Z.TD
open Go.AX Go.Proofs
attribute [local irreducible] awp xw xop xcall gsp ob xd xdop xcallD seqQ loopQ blkQ endQ

def hotspotlaw33_BitmapNames_S1 : AS :=
 { objs := (fun _ => .dead), next := 0, tmps := (upd (fun _ => .unk) 1 (.imm (List.map S_vu hotspotlaw33_BitmapNames_C0) hotspotlaw33_BitmapNames_C0.length)) }

def hotspotlaw33_BitmapNames_S3 : AS :=
 { objs := (fun _ => .dead), next := 0, tmps := (upd (upd (fun _ => .unk) 1 (.imm (List.map S_vu hotspotlaw33_BitmapNames_C0) hotspotlaw33_BitmapNames_C0.length)) 2 (.imm (List.map S_vu hotspotlaw33_BitmapNames_C2) hotspotlaw33_BitmapNames_C2.length)) }

def hotspotlaw33_BitmapNames_S5 : AS :=
 { objs := (fun _ => .dead), next := 0, tmps := (upd (upd (upd (fun _ => .unk) 1 (.imm (List.map S_vu hotspotlaw33_BitmapNames_C0) hotspotlaw33_BitmapNames_C0.length)) 2 (.imm (List.map S_vu hotspotlaw33_BitmapNames_C2) hotspotlaw33_BitmapNames_C2.length)) 3 (.imm (List.map S_vu hotspotlaw33_BitmapNames_C4) hotspotlaw33_BitmapNames_C4.length)) }

def hotspotlaw33_BitmapNames_S6 (d21 : Unit) : AS :=
 { objs := (fun _ => .dead), next := 0, tmps := (upd (upd (fun _ => .unk) 2 (.imm (List.map S_vu hotspotlaw33_BitmapNames_C2) hotspotlaw33_BitmapNames_C2.length)) 3 (.imm (List.map S_vu hotspotlaw33_BitmapNames_C4) hotspotlaw33_BitmapNames_C4.length)) }

def hotspotlaw33_BitmapNames_S7 (d23 : Int) : AS :=
 { objs := (fun _ => .dead), next := 0, tmps := (upd (upd (upd (upd (fun _ => .unk) 1 (.imm (List.map S_vu hotspotlaw33_BitmapNames_C0) hotspotlaw33_BitmapNames_C0.length)) 2 (.imm (List.map S_vu hotspotlaw33_BitmapNames_C2) hotspotlaw33_BitmapNames_C2.length)) 3 (.imm (List.map S_vu hotspotlaw33_BitmapNames_C4) hotspotlaw33_BitmapNames_C4.length)) 4 (vi d23)) }

def hotspotlaw33_BitmapNames_S9 (d26 : Unit) : AS :=
 { objs := (fun _ => .dead), next := 0, tmps := (upd (fun _ => .unk) 3 (.imm (List.map S_vu hotspotlaw33_BitmapNames_C4) hotspotlaw33_BitmapNames_C4.length)) }

def hotspotlaw33_BitmapNames_S10 (d28 : Int) : AS :=
 { objs := (fun _ => .dead), next := 0, tmps := (upd (upd (upd (fun _ => .unk) 2 (.imm (List.map S_vu hotspotlaw33_BitmapNames_C2) hotspotlaw33_BitmapNames_C2.length)) 3 (.imm (List.map S_vu hotspotlaw33_BitmapNames_C4) hotspotlaw33_BitmapNames_C4.length)) 7 (vi d28)) }

def hotspotlaw33_BitmapNames_S12 (d31 : Unit) : AS :=
 { objs := (fun _ => .dead), next := 0, tmps := (fun _ => .unk) }

def hotspotlaw33_BitmapNames_S13 (d33 : Int) : AS :=
 { objs := (fun _ => .dead), next := 0, tmps := (upd (upd (fun _ => .unk) 3 (.imm (List.map S_vu hotspotlaw33_BitmapNames_C4) hotspotlaw33_BitmapNames_C4.length)) 10 (vi d33)) }

def hotspotlaw33_BitmapNames_S15 (x36 : (Traffic × Int)) (x37 : (Traffic × Int)) : AS :=
 { objs := (fun _ => .dead), next := 0, tmps := (upd (upd (fun _ => .unk) 14 (vi x36.2)) 16 (vi x37.2)) }

def hotspotlaw33_BitmapNames_S16 (x36 : (Traffic × Int)) (x37 : (Traffic × Int)) (x38 : ((List Int) × Int)) (x39 : (Traffic × Int)) : AS :=
 { objs := (fun _ => .dead), next := 0, tmps := (upd (upd (upd (upd (fun _ => .unk) 14 (vi x36.2)) 16 (vi x37.2)) 18 (vi x38.2)) 20 (vi x39.2)) }

def hotspotlaw33_BitmapNames_S17 (x40 : (Traffic × Int)) (x41 : (Traffic × Int)) (x36 : (Traffic × Int)) (x37 : (Traffic × Int)) (x38 : ((List Int) × Int)) (x39 : (Traffic × Int)) : AS :=
 { objs := (upd (upd (upd (upd (fun _ => .dead) 0 (.live (e_Traffic x40.1 (.ref 1 0 x40.1.Aids.length 1)))) 1 (.live (List.map vi x40.1.Aids))) 2 (.live (e_Traffic x41.1 (.ref 3 0 x41.1.Aids.length 1)))) 3 (.live (List.map vi x41.1.Aids))), next := 4, tmps := (upd (upd (upd (upd (upd (upd (upd (upd (fun _ => .unk) 14 (vi x36.2)) 16 (vi x37.2)) 18 (vi x38.2)) 20 (vi x39.2)) 21 (.ptr 0 0)) 22 (vi x40.2)) 23 (.ptr 2 0)) 24 (vi x41.2)) }

def hotspotlaw33_BitmapNames_S18 (x40 : (Traffic × Int)) (x41 : (Traffic × Int)) (x36 : (Traffic × Int)) (x37 : (Traffic × Int)) (x38 : ((List Int) × Int)) (x39 : (Traffic × Int)) (d42 : (List Int)) : AS :=
 { objs := (upd (upd (upd (upd (upd (fun _ => .dead) 0 (.live (e_Traffic x40.1 (.ref 1 0 x40.1.Aids.length 1)))) 1 (.live (List.map vi x40.1.Aids))) 2 (.live (e_Traffic x41.1 (.ref 3 0 x41.1.Aids.length 1)))) 3 (.live (List.map vi x41.1.Aids))) 4 (.live (List.map vi d42))), next := 5, tmps := (upd (upd (upd (upd (upd (upd (upd (upd (upd (fun _ => .unk) 14 (vi x36.2)) 16 (vi x37.2)) 18 (vi x38.2)) 20 (vi x39.2)) 21 (.ptr 0 0)) 22 (vi x40.2)) 23 (.ptr 2 0)) 24 (vi x41.2)) 25 (.ref 4 0 ((d42).length) 1)) }

def hotspotlaw33_BitmapNames_S19 (x40 : (Traffic × Int)) (x41 : (Traffic × Int)) (x36 : (Traffic × Int)) (x37 : (Traffic × Int)) (x38 : ((List Int) × Int)) (x39 : (Traffic × Int)) (d43 : (List Int × Int)) : AS :=
 { objs := (upd (upd (upd (upd (upd (fun _ => .dead) 0 (.live (e_Traffic x40.1 (.ref 1 0 x40.1.Aids.length 1)))) 1 (.live (List.map vi x40.1.Aids))) 2 (.live (e_Traffic x41.1 (.ref 3 0 x41.1.Aids.length 1)))) 3 (.live (List.map vi x41.1.Aids))) 4 (.live (List.map vi d43.1))), next := 5, tmps := (upd (upd (upd (upd (upd (upd (upd (upd (upd (upd (fun _ => .unk) 14 (vi x36.2)) 16 (vi x37.2)) 18 (vi x38.2)) 20 (vi x39.2)) 21 (.ptr 0 0)) 22 (vi x40.2)) 23 (.ptr 2 0)) 24 (vi x41.2)) 25 (.ref 4 0 ((d43.1).length) 1)) 26 (vi d43.2)) }

def hotspotlaw33_BitmapNames_S21 (x40 : (Traffic × Int)) (x41 : (Traffic × Int)) (x45 : ((List Int) × Int)) (x36 : (Traffic × Int)) (x37 : (Traffic × Int)) (x38 : ((List Int) × Int)) (x39 : (Traffic × Int)) (x48 : Bool) : AS :=
 { objs := (upd (upd (upd (upd (upd (fun _ => .dead) 0 (.live (e_Traffic x40.1 (.ref 1 0 x40.1.Aids.length 1)))) 1 (.live (List.map vi x40.1.Aids))) 2 (.live (e_Traffic x41.1 (.ref 3 0 x41.1.Aids.length 1)))) 3 (.live (List.map vi x41.1.Aids))) 4 (.live (List.map vu x45.1))), next := 5, tmps := (upd (upd (upd (upd (upd (upd (upd (upd (upd (upd (upd (fun _ => .unk) 14 (vi x36.2)) 16 (vi x37.2)) 18 (vi x38.2)) 20 (vi x39.2)) 21 (.ptr 0 0)) 22 (vi x40.2)) 23 (.ptr 2 0)) 24 (vi x41.2)) 27 (.ref 4 0 x45.1.length 1)) 28 (vi x45.2)) 29 (vb (!x48))) }

def hotspotlaw33_BitmapNames_S22 (x40 : (Traffic × Int)) (x41 : (Traffic × Int)) (x45 : ((List Int) × Int)) (x36 : (Traffic × Int)) (x37 : (Traffic × Int)) (x38 : ((List Int) × Int)) (x39 : (Traffic × Int)) : AS :=
 { objs := (upd (upd (upd (upd (upd (fun _ => .dead) 0 (.live (e_Traffic x40.1 (.ref 1 0 x40.1.Aids.length 1)))) 1 (.live (List.map vi x40.1.Aids))) 2 (.live (e_Traffic x41.1 (.ref 3 0 x41.1.Aids.length 1)))) 3 (.live (List.map vi x41.1.Aids))) 4 (.live (List.map vu x45.1))), next := 5, tmps := (upd (upd (upd (upd (upd (upd (upd (upd (upd (upd (upd (fun _ => .unk) 14 (vi x36.2)) 16 (vi x37.2)) 18 (vi x38.2)) 20 (vi x39.2)) 21 (.ptr 0 0)) 22 (vi x40.2)) 23 (.ptr 2 0)) 24 (vi x41.2)) 27 (.ref 4 0 x45.1.length 1)) 28 (vi x45.2)) 29 (vb false)) }

def hotspotlaw33_BitmapNames_S23 (x40 : (Traffic × Int)) (x41 : (Traffic × Int)) (x45 : ((List Int) × Int)) (x36 : (Traffic × Int)) (x37 : (Traffic × Int)) (x38 : ((List Int) × Int)) (x39 : (Traffic × Int)) : AS :=
 { objs := (upd (upd (upd (upd (upd (fun _ => .dead) 0 (.live (e_Traffic x40.1 (.ref 1 0 x40.1.Aids.length 1)))) 1 (.live (List.map vi x40.1.Aids))) 2 (.live (e_Traffic x41.1 (.ref 3 0 x41.1.Aids.length 1)))) 3 (.live (List.map vi x41.1.Aids))) 4 (.live (List.map vu x45.1))), next := 5, tmps := (upd (upd (upd (upd (upd (upd (upd (upd (upd (upd (upd (fun _ => .unk) 14 (vi x36.2)) 16 (vi x37.2)) 18 (vi x38.2)) 20 (vi x39.2)) 21 (.ptr 0 0)) 22 (vi x40.2)) 23 (.ptr 2 0)) 24 (vi x41.2)) 27 (.ref 4 0 x45.1.length 1)) 28 (vi x45.2)) 29 (vb false)) }

theorem hotspotlaw33_BitmapNames_p {r : Bool} (h0 : hotspotlaw33_BitmapNames = some r) : SndP K 10 [] (vb r) := by
 refine SndP.of_walkW hC (Clean.v _) clean_nil (show K.P.funcs[10]? = some Try.f10 from Try.func10) rfl rfl (by decide +kernel) (Nat.le_of_ble_eq_true rfl) ?_
 unfold hotspotlaw33_BitmapNames at h0
 refine awp_nr [] (fun _ => rfl) fun tz => ?_
 refine awp_regW fun KK hKK => ?_
 refine xw_id ?_
 try simp only [go_sem, ↓iop_and, ↓iop_or, ↓iop_xor, ↓iop_andn, Nat.reduceEqDiff, reduceIte, Nat.reduceAdd, Nat.reduceMul, Nat.reduceSub, Nat.reduceLT, Nat.reduceLeDiff]
 refine hKK _ _ (Wk.refl _ _ _) ?_; clear hKK KK
 refine awp_nr [] (fun _ => rfl) fun tz => ?_
 refine awp_regW fun KK hKK => ?_
 refine xw_id ?_
 have gs1 : rep 32 [(vu 0)] = (List.map vu [0, 0, 0, 0, 0, 0, 0, 0, 0, 0, 0, 0, 0, 0, 0, 0, 0, 0, 0, 0, 0, 0, 0, 0, 0, 0, 0, 0, 0, 0, 0, 0]) := by rfl
 try simp only [go_sem, ↓iop_and, ↓iop_or, ↓iop_xor, ↓iop_andn, Nat.reduceEqDiff, reduceIte, Nat.reduceAdd, Nat.reduceMul, Nat.reduceSub, Nat.reduceLT, Nat.reduceLeDiff, Int.reduceToNat, Int.reduceBEq, Int.reduceBNe, Int.reduceLT, Int.reduceLE, Int.reduceAdd, Int.reduceSub, Int.reduceMul, Int.reduceNeg, Int.reduceEq, Int.reduceNe, gs1]
 refine hKK _ hotspotlaw33_BitmapNames_S1 (by refine Wk.canonD [1, 2, 3, 4, 5, 6, 7, 8, 9, 10, 11] [] [] rfl trivial rfl tmO0 (tmAllU 1 tmAll0 (Tm.frzK (by rfl) (by simp) (by simp only [upd_get, ↓iop_and, ↓iop_or, ↓iop_xor, ↓iop_andn, Nat.reduceEqDiff, reduceIte, Nat.reduceAdd, Nat.reduceMul, Nat.reduceSub, Nat.reduceLT, Nat.reduceLeDiff, if_true, if_false] <;> rfl) (by rfl) (tmL_tgt (TmL.cons (show Tm _ _ _ _ (.imm (List.map vu ([] : List Int)) ([] : List Int).length) from (Tm.frzK ?_ (by simp) (by simp only [upd_get, ↓iop_and, ↓iop_or, ↓iop_xor, ↓iop_andn, Nat.reduceEqDiff, reduceIte, Nat.reduceAdd, Nat.reduceMul, Nat.reduceSub, Nat.reduceLT, Nat.reduceLeDiff, if_true, if_false] <;> rfl) (by first | (simp only [vu_len, List.length_append, List.length_cons, List.length_nil, List.length_modify, List.length_set, Nat.zero_add, Nat.mul_one]; done) | (simp only [vu_len, List.length_append, List.length_cons, List.length_nil, List.length_modify, List.length_set, Nat.zero_add, Nat.mul_one]; omega)) (TmL.of_eq (by first | rfl | (simp only [List.flatMap_append, List.flatMap_cons, List.flatMap_nil, List.map_append, List.map_cons, List.map_nil, List.append_nil, List.nil_append]; done) | (simp only [List.flatMap_append, List.flatMap_cons, List.flatMap_nil, List.map_append, List.map_cons, List.map_nil, List.append_nil, List.nil_append]; rfl)) (vu_clean _)))) (TmL.cons (show Tm _ _ _ _ (.imm (List.map vu [0]) [0].length) from (Tm.frz0 (by simp) (by simp only [upd_get, ↓iop_and, ↓iop_or, ↓iop_xor, ↓iop_andn, Nat.reduceEqDiff, reduceIte, Nat.reduceAdd, Nat.reduceMul, Nat.reduceSub, Nat.reduceLT, Nat.reduceLeDiff, if_true, if_false] <;> rfl) (by first | (simp only [vu_len, List.length_append, List.length_cons, List.length_nil, List.length_modify, List.length_set, Nat.zero_add, Nat.mul_one]; done) | (simp only [vu_len, List.length_append, List.length_cons, List.length_nil, List.length_modify, List.length_set, Nat.zero_add, Nat.mul_one]; omega)) (TmL.of_eq (by first | rfl | (simp only [List.flatMap_append, List.flatMap_cons, List.flatMap_nil, List.map_append, List.map_cons, List.map_nil, List.append_nil, List.nil_append]; done) | (simp only [List.flatMap_append, List.flatMap_cons, List.flatMap_nil, List.map_append, List.map_cons, List.map_nil, List.append_nil, List.nil_append]; rfl)) (vu_clean _)))) (TmL.cons (show Tm _ _ _ _ (.imm (List.map vu [0, 0, 0, 0, 0, 0, 0, 0, 0, 0, 0, 0, 0, 0, 0, 0, 0, 0, 0, 0, 0, 0, 0, 0, 0, 0, 0, 0, 0, 0, 0, 0]) [0, 0, 0, 0, 0, 0, 0, 0, 0, 0, 0, 0, 0, 0, 0, 0, 0, 0, 0, 0, 0, 0, 0, 0, 0, 0, 0, 0, 0, 0, 0, 0].length) from (Tm.frz0 (by simp) (by simp only [upd_get, ↓iop_and, ↓iop_or, ↓iop_xor, ↓iop_andn, Nat.reduceEqDiff, reduceIte, Nat.reduceAdd, Nat.reduceMul, Nat.reduceSub, Nat.reduceLT, Nat.reduceLeDiff, if_true, if_false] <;> rfl) (by first | (simp only [vu_len, List.length_append, List.length_cons, List.length_nil, List.length_modify, List.length_set, Nat.zero_add, Nat.mul_one]; done) | (simp only [vu_len, List.length_append, List.length_cons, List.length_nil, List.length_modify, List.length_set, Nat.zero_add, Nat.mul_one]; omega)) (TmL.of_eq (by first | rfl | (simp only [List.flatMap_append, List.flatMap_cons, List.flatMap_nil, List.map_append, List.map_cons, List.map_nil, List.append_nil, List.nil_append]; done) | (simp only [List.flatMap_append, List.flatMap_cons, List.flatMap_nil, List.map_append, List.map_cons, List.map_nil, List.append_nil, List.nil_append]; rfl)) (vu_clean _)))) (TmL.cons (show Tm _ _ _ _ (.imm (List.map vu [1]) [1].length) from (Tm.frz0 (by simp) (by simp only [upd_get, ↓iop_and, ↓iop_or, ↓iop_xor, ↓iop_andn, Nat.reduceEqDiff, reduceIte, Nat.reduceAdd, Nat.reduceMul, Nat.reduceSub, Nat.reduceLT, Nat.reduceLeDiff, if_true, if_false] <;> rfl) (by first | (simp only [vu_len, List.length_append, List.length_cons, List.length_nil, List.length_modify, List.length_set, Nat.zero_add, Nat.mul_one]; done) | (simp only [vu_len, List.length_append, List.length_cons, List.length_nil, List.length_modify, List.length_set, Nat.zero_add, Nat.mul_one]; omega)) (TmL.of_eq (by first | rfl | (simp only [List.flatMap_append, List.flatMap_cons, List.flatMap_nil, List.map_append, List.map_cons, List.map_nil, List.append_nil, List.nil_append]; done) | (simp only [List.flatMap_append, List.flatMap_cons, List.flatMap_nil, List.map_append, List.map_cons, List.map_nil, List.append_nil, List.nil_append]; rfl)) (vu_clean _)))) (TmL.cons (show Tm _ _ _ _ (.imm (List.map vu [1, 0]) [1, 0].length) from (Tm.frz0 (by simp) (by simp only [upd_get, ↓iop_and, ↓iop_or, ↓iop_xor, ↓iop_andn, Nat.reduceEqDiff, reduceIte, Nat.reduceAdd, Nat.reduceMul, Nat.reduceSub, Nat.reduceLT, Nat.reduceLeDiff, if_true, if_false] <;> rfl) (by first | (simp only [vu_len, List.length_append, List.length_cons, List.length_nil, List.length_modify, List.length_set, Nat.zero_add, Nat.mul_one]; done) | (simp only [vu_len, List.length_append, List.length_cons, List.length_nil, List.length_modify, List.length_set, Nat.zero_add, Nat.mul_one]; omega)) (TmL.of_eq (by first | rfl | (simp only [List.flatMap_append, List.flatMap_cons, List.flatMap_nil, List.map_append, List.map_cons, List.map_nil, List.append_nil, List.nil_append]; done) | (simp only [List.flatMap_append, List.flatMap_cons, List.flatMap_nil, List.map_append, List.map_cons, List.map_nil, List.append_nil, List.nil_append]; rfl)) (vu_clean _)))) (TmL.cons (show Tm _ _ _ _ (.imm (List.map vu [1, 0, 1]) [1, 0, 1].length) from (Tm.frz0 (by simp) (by simp only [upd_get, ↓iop_and, ↓iop_or, ↓iop_xor, ↓iop_andn, Nat.reduceEqDiff, reduceIte, Nat.reduceAdd, Nat.reduceMul, Nat.reduceSub, Nat.reduceLT, Nat.reduceLeDiff, if_true, if_false] <;> rfl) (by first | (simp only [vu_len, List.length_append, List.length_cons, List.length_nil, List.length_modify, List.length_set, Nat.zero_add, Nat.mul_one]; done) | (simp only [vu_len, List.length_append, List.length_cons, List.length_nil, List.length_modify, List.length_set, Nat.zero_add, Nat.mul_one]; omega)) (TmL.of_eq (by first | rfl | (simp only [List.flatMap_append, List.flatMap_cons, List.flatMap_nil, List.map_append, List.map_cons, List.map_nil, List.append_nil, List.nil_append]; done) | (simp only [List.flatMap_append, List.flatMap_cons, List.flatMap_nil, List.map_append, List.map_cons, List.map_nil, List.append_nil, List.nil_append]; rfl)) (vu_clean _)))) (TmL.cons (show Tm _ _ _ _ (.imm (List.map vu [2]) [2].length) from (Tm.frz0 (by simp) (by simp only [upd_get, ↓iop_and, ↓iop_or, ↓iop_xor, ↓iop_andn, Nat.reduceEqDiff, reduceIte, Nat.reduceAdd, Nat.reduceMul, Nat.reduceSub, Nat.reduceLT, Nat.reduceLeDiff, if_true, if_false] <;> rfl) (by first | (simp only [vu_len, List.length_append, List.length_cons, List.length_nil, List.length_modify, List.length_set, Nat.zero_add, Nat.mul_one]; done) | (simp only [vu_len, List.length_append, List.length_cons, List.length_nil, List.length_modify, List.length_set, Nat.zero_add, Nat.mul_one]; omega)) (TmL.of_eq (by first | rfl | (simp only [List.flatMap_append, List.flatMap_cons, List.flatMap_nil, List.map_append, List.map_cons, List.map_nil, List.append_nil, List.nil_append]; done) | (simp only [List.flatMap_append, List.flatMap_cons, List.flatMap_nil, List.map_append, List.map_cons, List.map_nil, List.append_nil, List.nil_append]; rfl)) (vu_clean _)))) (TmL.cons (show Tm _ _ _ _ (.imm (List.map vu [2, 3, 1, 2]) [2, 3, 1, 2].length) from (Tm.frz0 (by simp) (by simp only [upd_get, ↓iop_and, ↓iop_or, ↓iop_xor, ↓iop_andn, Nat.reduceEqDiff, reduceIte, Nat.reduceAdd, Nat.reduceMul, Nat.reduceSub, Nat.reduceLT, Nat.reduceLeDiff, if_true, if_false] <;> rfl) (by first | (simp only [vu_len, List.length_append, List.length_cons, List.length_nil, List.length_modify, List.length_set, Nat.zero_add, Nat.mul_one]; done) | (simp only [vu_len, List.length_append, List.length_cons, List.length_nil, List.length_modify, List.length_set, Nat.zero_add, Nat.mul_one]; omega)) (TmL.of_eq (by first | rfl | (simp only [List.flatMap_append, List.flatMap_cons, List.flatMap_nil, List.map_append, List.map_cons, List.map_nil, List.append_nil, List.nil_append]; done) | (simp only [List.flatMap_append, List.flatMap_cons, List.flatMap_nil, List.map_append, List.map_cons, List.map_nil, List.append_nil, List.nil_append]; rfl)) (vu_clean _)))) (TmL.cons (show Tm _ _ _ _ (.imm (List.map vu [3, 5]) [3, 5].length) from (Tm.frz0 (by simp) (by simp only [upd_get, ↓iop_and, ↓iop_or, ↓iop_xor, ↓iop_andn, Nat.reduceEqDiff, reduceIte, Nat.reduceAdd, Nat.reduceMul, Nat.reduceSub, Nat.reduceLT, Nat.reduceLeDiff, if_true, if_false] <;> rfl) (by first | (simp only [vu_len, List.length_append, List.length_cons, List.length_nil, List.length_modify, List.length_set, Nat.zero_add, Nat.mul_one]; done) | (simp only [vu_len, List.length_append, List.length_cons, List.length_nil, List.length_modify, List.length_set, Nat.zero_add, Nat.mul_one]; omega)) (TmL.of_eq (by first | rfl | (simp only [List.flatMap_append, List.flatMap_cons, List.flatMap_nil, List.map_append, List.map_cons, List.map_nil, List.append_nil, List.nil_append]; done) | (simp only [List.flatMap_append, List.flatMap_cons, List.flatMap_nil, List.map_append, List.map_cons, List.map_nil, List.append_nil, List.nil_append]; rfl)) (vu_clean _)))) (TmL.cons (show Tm _ _ _ _ (.imm (List.map vu [3, 5, 2, 1]) [3, 5, 2, 1].length) from (Tm.frz0 (by simp) (by simp only [upd_get, ↓iop_and, ↓iop_or, ↓iop_xor, ↓iop_andn, Nat.reduceEqDiff, reduceIte, Nat.reduceAdd, Nat.reduceMul, Nat.reduceSub, Nat.reduceLT, Nat.reduceLeDiff, if_true, if_false] <;> rfl) (by first | (simp only [vu_len, List.length_append, List.length_cons, List.length_nil, List.length_modify, List.length_set, Nat.zero_add, Nat.mul_one]; done) | (simp only [vu_len, List.length_append, List.length_cons, List.length_nil, List.length_modify, List.length_set, Nat.zero_add, Nat.mul_one]; omega)) (TmL.of_eq (by first | rfl | (simp only [List.flatMap_append, List.flatMap_cons, List.flatMap_nil, List.map_append, List.map_cons, List.map_nil, List.append_nil, List.nil_append]; done) | (simp only [List.flatMap_append, List.flatMap_cons, List.flatMap_nil, List.map_append, List.map_cons, List.map_nil, List.append_nil, List.nil_append]; rfl)) (vu_clean _)))) TmL.nil)))))))))) (by rfl)))); all_goals (first | rfl | (simp only [List.length_take]; omega) | (simp only [List.length_append, List.length_cons, List.length_nil, List.length_modify, List.length_set, Nat.zero_add]; done) | (simp only [List.length_append, List.length_take, List.length_drop, List.length_cons, List.length_nil, List.length_modify, List.length_set, Nat.zero_add]; omega) | (simp only [List.length_append, List.length_take, List.length_drop, List.length_cons, List.length_nil, List.length_modify, List.length_set, Nat.zero_add]; done) | omega)) ?_; clear hKK KK
 unfold hotspotlaw33_BitmapNames_S1
 refine awp_nr [1] (fun _ => rfl) fun tz => ?_
 refine awp_regW fun KK hKK => ?_
 refine xw_id ?_
 have gs2 : rep 34 [(vu 0)] = (List.map vu [0, 0, 0, 0, 0, 0, 0, 0, 0, 0, 0, 0, 0, 0, 0, 0, 0, 0, 0, 0, 0, 0, 0, 0, 0, 0, 0, 0, 0, 0, 0, 0, 0, 0]) := by rfl
 try simp only [go_sem, ↓iop_and, ↓iop_or, ↓iop_xor, ↓iop_andn, Nat.reduceEqDiff, reduceIte, Nat.reduceAdd, Nat.reduceMul, Nat.reduceSub, Nat.reduceLT, Nat.reduceLeDiff, Int.reduceToNat, Int.reduceBEq, Int.reduceBNe, Int.reduceLT, Int.reduceLE, Int.reduceAdd, Int.reduceSub, Int.reduceMul, Int.reduceNeg, Int.reduceEq, Int.reduceNe, gs2]
 refine hKK _ hotspotlaw33_BitmapNames_S3 (Wk.canonD [0, 1, 2, 3, 4] [] [] rfl trivial rfl tmO0 (tmAllU 2 (tmAllU 1 tmAll0 (Tm.clean (Clean.imm (cS_vu _)))) (Tm.frzK (by rfl) (by simp) (by simp only [upd_get, ↓iop_and, ↓iop_or, ↓iop_xor, ↓iop_andn, Nat.reduceEqDiff, reduceIte, Nat.reduceAdd, Nat.reduceMul, Nat.reduceSub, Nat.reduceLT, Nat.reduceLeDiff, if_true, if_false] <;> rfl) (by rfl) (tmL_tgt (TmL.cons (show Tm _ _ _ _ (.imm (List.map vu [0, 0, 0, 0, 0, 0, 0, 0, 0, 0, 0, 0, 0, 0, 0, 0, 0, 0, 0, 0, 0, 0, 0, 0, 0, 0, 0, 0, 0, 0, 0, 0, 0, 0]) [0, 0, 0, 0, 0, 0, 0, 0, 0, 0, 0, 0, 0, 0, 0, 0, 0, 0, 0, 0, 0, 0, 0, 0, 0, 0, 0, 0, 0, 0, 0, 0, 0, 0].length) from (Tm.frz0 (by simp) (by simp only [upd_get, ↓iop_and, ↓iop_or, ↓iop_xor, ↓iop_andn, Nat.reduceEqDiff, reduceIte, Nat.reduceAdd, Nat.reduceMul, Nat.reduceSub, Nat.reduceLT, Nat.reduceLeDiff, if_true, if_false] <;> rfl) (by first | (simp only [vu_len, List.length_append, List.length_cons, List.length_nil, List.length_modify, List.length_set, Nat.zero_add, Nat.mul_one]; done) | (simp only [vu_len, List.length_append, List.length_cons, List.length_nil, List.length_modify, List.length_set, Nat.zero_add, Nat.mul_one]; omega)) (TmL.of_eq (by first | rfl | (simp only [List.flatMap_append, List.flatMap_cons, List.flatMap_nil, List.map_append, List.map_cons, List.map_nil, List.append_nil, List.nil_append]; done) | (simp only [List.flatMap_append, List.flatMap_cons, List.flatMap_nil, List.map_append, List.map_cons, List.map_nil, List.append_nil, List.nil_append]; rfl)) (vu_clean _)))) (TmL.cons (show Tm _ _ _ _ (.imm (List.map vu [1, 0, 0, 0]) [1, 0, 0, 0].length) from (Tm.frz0 (by simp) (by simp only [upd_get, ↓iop_and, ↓iop_or, ↓iop_xor, ↓iop_andn, Nat.reduceEqDiff, reduceIte, Nat.reduceAdd, Nat.reduceMul, Nat.reduceSub, Nat.reduceLT, Nat.reduceLeDiff, if_true, if_false] <;> rfl) (by first | (simp only [vu_len, List.length_append, List.length_cons, List.length_nil, List.length_modify, List.length_set, Nat.zero_add, Nat.mul_one]; done) | (simp only [vu_len, List.length_append, List.length_cons, List.length_nil, List.length_modify, List.length_set, Nat.zero_add, Nat.mul_one]; omega)) (TmL.of_eq (by first | rfl | (simp only [List.flatMap_append, List.flatMap_cons, List.flatMap_nil, List.map_append, List.map_cons, List.map_nil, List.append_nil, List.nil_append]; done) | (simp only [List.flatMap_append, List.flatMap_cons, List.flatMap_nil, List.map_append, List.map_cons, List.map_nil, List.append_nil, List.nil_append]; rfl)) (vu_clean _)))) (TmL.cons (show Tm _ _ _ _ (.imm (List.map vu [2, 1, 7, 8]) [2, 1, 7, 8].length) from (Tm.frz0 (by simp) (by simp only [upd_get, ↓iop_and, ↓iop_or, ↓iop_xor, ↓iop_andn, Nat.reduceEqDiff, reduceIte, Nat.reduceAdd, Nat.reduceMul, Nat.reduceSub, Nat.reduceLT, Nat.reduceLeDiff, if_true, if_false] <;> rfl) (by first | (simp only [vu_len, List.length_append, List.length_cons, List.length_nil, List.length_modify, List.length_set, Nat.zero_add, Nat.mul_one]; done) | (simp only [vu_len, List.length_append, List.length_cons, List.length_nil, List.length_modify, List.length_set, Nat.zero_add, Nat.mul_one]; omega)) (TmL.of_eq (by first | rfl | (simp only [List.flatMap_append, List.flatMap_cons, List.flatMap_nil, List.map_append, List.map_cons, List.map_nil, List.append_nil, List.nil_append]; done) | (simp only [List.flatMap_append, List.flatMap_cons, List.flatMap_nil, List.map_append, List.map_cons, List.map_nil, List.append_nil, List.nil_append]; rfl)) (vu_clean _)))) (TmL.cons (show Tm _ _ _ _ (.imm (List.map vu [3, 2, 1, 1, 1]) [3, 2, 1, 1, 1].length) from (Tm.frz0 (by simp) (by simp only [upd_get, ↓iop_and, ↓iop_or, ↓iop_xor, ↓iop_andn, Nat.reduceEqDiff, reduceIte, Nat.reduceAdd, Nat.reduceMul, Nat.reduceSub, Nat.reduceLT, Nat.reduceLeDiff, if_true, if_false] <;> rfl) (by first | (simp only [vu_len, List.length_append, List.length_cons, List.length_nil, List.length_modify, List.length_set, Nat.zero_add, Nat.mul_one]; done) | (simp only [vu_len, List.length_append, List.length_cons, List.length_nil, List.length_modify, List.length_set, Nat.zero_add, Nat.mul_one]; omega)) (TmL.of_eq (by first | rfl | (simp only [List.flatMap_append, List.flatMap_cons, List.flatMap_nil, List.map_append, List.map_cons, List.map_nil, List.append_nil, List.nil_append]; done) | (simp only [List.flatMap_append, List.flatMap_cons, List.flatMap_nil, List.map_append, List.map_cons, List.map_nil, List.append_nil, List.nil_append]; rfl)) (vu_clean _)))) TmL.nil)))) (by rfl))))) ?_; clear hKK KK
 unfold hotspotlaw33_BitmapNames_S3
 refine awp_nr [1,2] (fun _ => rfl) fun tz => ?_
 refine awp_regW fun KK hKK => ?_
 refine xw_id ?_
 have gs3 : rep 31 [(vu 0)] = (List.map vu [0, 0, 0, 0, 0, 0, 0, 0, 0, 0, 0, 0, 0, 0, 0, 0, 0, 0, 0, 0, 0, 0, 0, 0, 0, 0, 0, 0, 0, 0, 0]) := by rfl
 try simp only [go_sem, ↓iop_and, ↓iop_or, ↓iop_xor, ↓iop_andn, Nat.reduceEqDiff, reduceIte, Nat.reduceAdd, Nat.reduceMul, Nat.reduceSub, Nat.reduceLT, Nat.reduceLeDiff, Int.reduceToNat, Int.reduceBEq, Int.reduceBNe, Int.reduceLT, Int.reduceLE, Int.reduceAdd, Int.reduceSub, Int.reduceMul, Int.reduceNeg, Int.reduceEq, Int.reduceNe, gs3, appzE, Int.cast_ofNat_Int]
 refine hKK _ hotspotlaw33_BitmapNames_S5 (by refine Wk.canonD [0, 1, 2, 3, 4, 5, 6, 7, 8, 9, 10, 11, 12, 13, 15, 16] [] [] rfl trivial rfl tmO0 (tmAllU 3 (tmAllU 2 (tmAllU 1 tmAll0 (Tm.clean (Clean.imm (cS_vu _)))) (Tm.clean (Clean.imm (cS_vu _)))) (Tm.frzK (by rfl) (by simp) (by simp only [upd_get, ↓iop_and, ↓iop_or, ↓iop_xor, ↓iop_andn, Nat.reduceEqDiff, reduceIte, Nat.reduceAdd, Nat.reduceMul, Nat.reduceSub, Nat.reduceLT, Nat.reduceLeDiff, if_true, if_false] <;> rfl) (by rfl) (tmL_tgt (TmL.cons (show Tm _ _ _ _ (.imm (List.map vu [4]) [4].length) from (Tm.frz0 (by simp) (by simp only [upd_get, ↓iop_and, ↓iop_or, ↓iop_xor, ↓iop_andn, Nat.reduceEqDiff, reduceIte, Nat.reduceAdd, Nat.reduceMul, Nat.reduceSub, Nat.reduceLT, Nat.reduceLeDiff, if_true, if_false] <;> rfl) (by first | (simp only [vu_len, List.length_append, List.length_cons, List.length_nil, List.length_modify, List.length_set, Nat.zero_add, Nat.mul_one]; done) | (simp only [vu_len, List.length_append, List.length_cons, List.length_nil, List.length_modify, List.length_set, Nat.zero_add, Nat.mul_one]; omega)) (TmL.of_eq (by first | rfl | (simp only [List.flatMap_append, List.flatMap_cons, List.flatMap_nil, List.map_append, List.map_cons, List.map_nil, List.append_nil, List.nil_append]; done) | (simp only [List.flatMap_append, List.flatMap_cons, List.flatMap_nil, List.map_append, List.map_cons, List.map_nil, List.append_nil, List.nil_append]; rfl)) (vu_clean _)))) (TmL.cons (show Tm _ _ _ _ (.imm (List.map vu [132]) [132].length) from (Tm.frz0 (by simp) (by simp only [upd_get, ↓iop_and, ↓iop_or, ↓iop_xor, ↓iop_andn, Nat.reduceEqDiff, reduceIte, Nat.reduceAdd, Nat.reduceMul, Nat.reduceSub, Nat.reduceLT, Nat.reduceLeDiff, if_true, if_false] <;> rfl) (by first | (simp only [vu_len, List.length_append, List.length_cons, List.length_nil, List.length_modify, List.length_set, Nat.zero_add, Nat.mul_one]; done) | (simp only [vu_len, List.length_append, List.length_cons, List.length_nil, List.length_modify, List.length_set, Nat.zero_add, Nat.mul_one]; omega)) (TmL.of_eq (by first | rfl | (simp only [List.flatMap_append, List.flatMap_cons, List.flatMap_nil, List.map_append, List.map_cons, List.map_nil, List.append_nil, List.nil_append]; done) | (simp only [List.flatMap_append, List.flatMap_cons, List.flatMap_nil, List.map_append, List.map_cons, List.map_nil, List.append_nil, List.nil_append]; rfl)) (vu_clean _)))) (TmL.cons (show Tm _ _ _ _ (.imm (List.map vu [127]) [127].length) from (Tm.frz0 (by simp) (by simp only [upd_get, ↓iop_and, ↓iop_or, ↓iop_xor, ↓iop_andn, Nat.reduceEqDiff, reduceIte, Nat.reduceAdd, Nat.reduceMul, Nat.reduceSub, Nat.reduceLT, Nat.reduceLeDiff, if_true, if_false] <;> rfl) (by first | (simp only [vu_len, List.length_append, List.length_cons, List.length_nil, List.length_modify, List.length_set, Nat.zero_add, Nat.mul_one]; done) | (simp only [vu_len, List.length_append, List.length_cons, List.length_nil, List.length_modify, List.length_set, Nat.zero_add, Nat.mul_one]; omega)) (TmL.of_eq (by first | rfl | (simp only [List.flatMap_append, List.flatMap_cons, List.flatMap_nil, List.map_append, List.map_cons, List.map_nil, List.append_nil, List.nil_append]; done) | (simp only [List.flatMap_append, List.flatMap_cons, List.flatMap_nil, List.map_append, List.map_cons, List.map_nil, List.append_nil, List.nil_append]; rfl)) (vu_clean _)))) (TmL.cons (show Tm _ _ _ _ (.imm (List.map vu [1, 1, 0]) [1, 1, 0].length) from (Tm.frz0 (by simp) (by simp only [upd_get, ↓iop_and, ↓iop_or, ↓iop_xor, ↓iop_andn, Nat.reduceEqDiff, reduceIte, Nat.reduceAdd, Nat.reduceMul, Nat.reduceSub, Nat.reduceLT, Nat.reduceLeDiff, if_true, if_false] <;> rfl) (by first | (simp only [vu_len, List.length_append, List.length_cons, List.length_nil, List.length_modify, List.length_set, Nat.zero_add, Nat.mul_one]; done) | (simp only [vu_len, List.length_append, List.length_cons, List.length_nil, List.length_modify, List.length_set, Nat.zero_add, Nat.mul_one]; omega)) (TmL.of_eq (by first | rfl | (simp only [List.flatMap_append, List.flatMap_cons, List.flatMap_nil, List.map_append, List.map_cons, List.map_nil, List.append_nil, List.nil_append]; done) | (simp only [List.flatMap_append, List.flatMap_cons, List.flatMap_nil, List.map_append, List.map_cons, List.map_nil, List.append_nil, List.nil_append]; rfl)) (vu_clean _)))) (TmL.cons (show Tm _ _ _ _ (.imm (List.map vu [1, 0, 1, 0]) [1, 0, 1, 0].length) from (Tm.frz0 (by simp) (by simp only [upd_get, ↓iop_and, ↓iop_or, ↓iop_xor, ↓iop_andn, Nat.reduceEqDiff, reduceIte, Nat.reduceAdd, Nat.reduceMul, Nat.reduceSub, Nat.reduceLT, Nat.reduceLeDiff, if_true, if_false] <;> rfl) (by first | (simp only [vu_len, List.length_append, List.length_cons, List.length_nil, List.length_modify, List.length_set, Nat.zero_add, Nat.mul_one]; done) | (simp only [vu_len, List.length_append, List.length_cons, List.length_nil, List.length_modify, List.length_set, Nat.zero_add, Nat.mul_one]; omega)) (TmL.of_eq (by first | rfl | (simp only [List.flatMap_append, List.flatMap_cons, List.flatMap_nil, List.map_append, List.map_cons, List.map_nil, List.append_nil, List.nil_append]; done) | (simp only [List.flatMap_append, List.flatMap_cons, List.flatMap_nil, List.map_append, List.map_cons, List.map_nil, List.append_nil, List.nil_append]; rfl)) (vu_clean _)))) (TmL.cons (show Tm _ _ _ _ (.imm (List.map vu [1, 0, 2, 2, 0]) [1, 0, 2, 2, 0].length) from (Tm.frz0 (by simp) (by simp only [upd_get, ↓iop_and, ↓iop_or, ↓iop_xor, ↓iop_andn, Nat.reduceEqDiff, reduceIte, Nat.reduceAdd, Nat.reduceMul, Nat.reduceSub, Nat.reduceLT, Nat.reduceLeDiff, if_true, if_false] <;> rfl) (by first | (simp only [vu_len, List.length_append, List.length_cons, List.length_nil, List.length_modify, List.length_set, Nat.zero_add, Nat.mul_one]; done) | (simp only [vu_len, List.length_append, List.length_cons, List.length_nil, List.length_modify, List.length_set, Nat.zero_add, Nat.mul_one]; omega)) (TmL.of_eq (by first | rfl | (simp only [List.flatMap_append, List.flatMap_cons, List.flatMap_nil, List.map_append, List.map_cons, List.map_nil, List.append_nil, List.nil_append]; done) | (simp only [List.flatMap_append, List.flatMap_cons, List.flatMap_nil, List.map_append, List.map_cons, List.map_nil, List.append_nil, List.nil_append]; rfl)) (vu_clean _)))) (TmL.cons (show Tm _ _ _ _ (.imm (List.map vu [1, 31, 2, 1, 1]) [1, 31, 2, 1, 1].length) from (Tm.frz0 (by simp) (by simp only [upd_get, ↓iop_and, ↓iop_or, ↓iop_xor, ↓iop_andn, Nat.reduceEqDiff, reduceIte, Nat.reduceAdd, Nat.reduceMul, Nat.reduceSub, Nat.reduceLT, Nat.reduceLeDiff, if_true, if_false] <;> rfl) (by first | (simp only [vu_len, List.length_append, List.length_cons, List.length_nil, List.length_modify, List.length_set, Nat.zero_add, Nat.mul_one]; done) | (simp only [vu_len, List.length_append, List.length_cons, List.length_nil, List.length_modify, List.length_set, Nat.zero_add, Nat.mul_one]; omega)) (TmL.of_eq (by first | rfl | (simp only [List.flatMap_append, List.flatMap_cons, List.flatMap_nil, List.map_append, List.map_cons, List.map_nil, List.append_nil, List.nil_append]; done) | (simp only [List.flatMap_append, List.flatMap_cons, List.flatMap_nil, List.map_append, List.map_cons, List.map_nil, List.append_nil, List.nil_append]; rfl)) (vu_clean _)))) (TmL.cons (show Tm _ _ _ _ (.imm (List.map vu [1, 0, 1, 1]) [1, 0, 1, 1].length) from (Tm.frz0 (by simp) (by simp only [upd_get, ↓iop_and, ↓iop_or, ↓iop_xor, ↓iop_andn, Nat.reduceEqDiff, reduceIte, Nat.reduceAdd, Nat.reduceMul, Nat.reduceSub, Nat.reduceLT, Nat.reduceLeDiff, if_true, if_false] <;> rfl) (by first | (simp only [vu_len, List.length_append, List.length_cons, List.length_nil, List.length_modify, List.length_set, Nat.zero_add, Nat.mul_one]; done) | (simp only [vu_len, List.length_append, List.length_cons, List.length_nil, List.length_modify, List.length_set, Nat.zero_add, Nat.mul_one]; omega)) (TmL.of_eq (by first | rfl | (simp only [List.flatMap_append, List.flatMap_cons, List.flatMap_nil, List.map_append, List.map_cons, List.map_nil, List.append_nil, List.nil_append]; done) | (simp only [List.flatMap_append, List.flatMap_cons, List.flatMap_nil, List.map_append, List.map_cons, List.map_nil, List.append_nil, List.nil_append]; rfl)) (vu_clean _)))) (TmL.cons (show Tm _ _ _ _ (.imm (List.map vu [2, 1, 0]) [2, 1, 0].length) from (Tm.frz0 (by simp) (by simp only [upd_get, ↓iop_and, ↓iop_or, ↓iop_xor, ↓iop_andn, Nat.reduceEqDiff, reduceIte, Nat.reduceAdd, Nat.reduceMul, Nat.reduceSub, Nat.reduceLT, Nat.reduceLeDiff, if_true, if_false] <;> rfl) (by first | (simp only [vu_len, List.length_append, List.length_cons, List.length_nil, List.length_modify, List.length_set, Nat.zero_add, Nat.mul_one]; done) | (simp only [vu_len, List.length_append, List.length_cons, List.length_nil, List.length_modify, List.length_set, Nat.zero_add, Nat.mul_one]; omega)) (TmL.of_eq (by first | rfl | (simp only [List.flatMap_append, List.flatMap_cons, List.flatMap_nil, List.map_append, List.map_cons, List.map_nil, List.append_nil, List.nil_append]; done) | (simp only [List.flatMap_append, List.flatMap_cons, List.flatMap_nil, List.map_append, List.map_cons, List.map_nil, List.append_nil, List.nil_append]; rfl)) (vu_clean _)))) (TmL.cons (show Tm _ _ _ _ (.imm (List.map vu [2, 2, 5, 5]) [2, 2, 5, 5].length) from (Tm.frz0 (by simp) (by simp only [upd_get, ↓iop_and, ↓iop_or, ↓iop_xor, ↓iop_andn, Nat.reduceEqDiff, reduceIte, Nat.reduceAdd, Nat.reduceMul, Nat.reduceSub, Nat.reduceLT, Nat.reduceLeDiff, if_true, if_false] <;> rfl) (by first | (simp only [vu_len, List.length_append, List.length_cons, List.length_nil, List.length_modify, List.length_set, Nat.zero_add, Nat.mul_one]; done) | (simp only [vu_len, List.length_append, List.length_cons, List.length_nil, List.length_modify, List.length_set, Nat.zero_add, Nat.mul_one]; omega)) (TmL.of_eq (by first | rfl | (simp only [List.flatMap_append, List.flatMap_cons, List.flatMap_nil, List.map_append, List.map_cons, List.map_nil, List.append_nil, List.nil_append]; done) | (simp only [List.flatMap_append, List.flatMap_cons, List.flatMap_nil, List.map_append, List.map_cons, List.map_nil, List.append_nil, List.nil_append]; rfl)) (vu_clean _)))) (TmL.cons (show Tm _ _ _ _ (.imm (List.map vu [2, 2, 6, 5]) [2, 2, 6, 5].length) from (Tm.frz0 (by simp) (by simp only [upd_get, ↓iop_and, ↓iop_or, ↓iop_xor, ↓iop_andn, Nat.reduceEqDiff, reduceIte, Nat.reduceAdd, Nat.reduceMul, Nat.reduceSub, Nat.reduceLT, Nat.reduceLeDiff, if_true, if_false] <;> rfl) (by first | (simp only [vu_len, List.length_append, List.length_cons, List.length_nil, List.length_modify, List.length_set, Nat.zero_add, Nat.mul_one]; done) | (simp only [vu_len, List.length_append, List.length_cons, List.length_nil, List.length_modify, List.length_set, Nat.zero_add, Nat.mul_one]; omega)) (TmL.of_eq (by first | rfl | (simp only [List.flatMap_append, List.flatMap_cons, List.flatMap_nil, List.map_append, List.map_cons, List.map_nil, List.append_nil, List.nil_append]; done) | (simp only [List.flatMap_append, List.flatMap_cons, List.flatMap_nil, List.map_append, List.map_cons, List.map_nil, List.append_nil, List.nil_append]; rfl)) (vu_clean _)))) (TmL.cons (show Tm _ _ _ _ (.imm (List.map vu [3, 0, 1, 1]) [3, 0, 1, 1].length) from (Tm.frz0 (by simp) (by simp only [upd_get, ↓iop_and, ↓iop_or, ↓iop_xor, ↓iop_andn, Nat.reduceEqDiff, reduceIte, Nat.reduceAdd, Nat.reduceMul, Nat.reduceSub, Nat.reduceLT, Nat.reduceLeDiff, if_true, if_false] <;> rfl) (by first | (simp only [vu_len, List.length_append, List.length_cons, List.length_nil, List.length_modify, List.length_set, Nat.zero_add, Nat.mul_one]; done) | (simp only [vu_len, List.length_append, List.length_cons, List.length_nil, List.length_modify, List.length_set, Nat.zero_add, Nat.mul_one]; omega)) (TmL.of_eq (by first | rfl | (simp only [List.flatMap_append, List.flatMap_cons, List.flatMap_nil, List.map_append, List.map_cons, List.map_nil, List.append_nil, List.nil_append]; done) | (simp only [List.flatMap_append, List.flatMap_cons, List.flatMap_nil, List.map_append, List.map_cons, List.map_nil, List.append_nil, List.nil_append]; rfl)) (vu_clean _)))) (TmL.cons (show Tm _ _ _ _ (.imm (List.map vu [3, 5, 1, 5]) [3, 5, 1, 5].length) from (Tm.frz0 (by simp) (by simp only [upd_get, ↓iop_and, ↓iop_or, ↓iop_xor, ↓iop_andn, Nat.reduceEqDiff, reduceIte, Nat.reduceAdd, Nat.reduceMul, Nat.reduceSub, Nat.reduceLT, Nat.reduceLeDiff, if_true, if_false] <;> rfl) (by first | (simp only [vu_len, List.length_append, List.length_cons, List.length_nil, List.length_modify, List.length_set, Nat.zero_add, Nat.mul_one]; done) | (simp only [vu_len, List.length_append, List.length_cons, List.length_nil, List.length_modify, List.length_set, Nat.zero_add, Nat.mul_one]; omega)) (TmL.of_eq (by first | rfl | (simp only [List.flatMap_append, List.flatMap_cons, List.flatMap_nil, List.map_append, List.map_cons, List.map_nil, List.append_nil, List.nil_append]; done) | (simp only [List.flatMap_append, List.flatMap_cons, List.flatMap_nil, List.map_append, List.map_cons, List.map_nil, List.append_nil, List.nil_append]; rfl)) (vu_clean _)))) (TmL.cons (show Tm _ _ _ _ (.imm (List.map vu [3, 5, 2, 2, 1]) [3, 5, 2, 2, 1].length) from (Tm.frz0 (by simp) (by simp only [upd_get, ↓iop_and, ↓iop_or, ↓iop_xor, ↓iop_andn, Nat.reduceEqDiff, reduceIte, Nat.reduceAdd, Nat.reduceMul, Nat.reduceSub, Nat.reduceLT, Nat.reduceLeDiff, if_true, if_false] <;> rfl) (by first | (simp only [vu_len, List.length_append, List.length_cons, List.length_nil, List.length_modify, List.length_set, Nat.zero_add, Nat.mul_one]; done) | (simp only [vu_len, List.length_append, List.length_cons, List.length_nil, List.length_modify, List.length_set, Nat.zero_add, Nat.mul_one]; omega)) (TmL.of_eq (by first | rfl | (simp only [List.flatMap_append, List.flatMap_cons, List.flatMap_nil, List.map_append, List.map_cons, List.map_nil, List.append_nil, List.nil_append]; done) | (simp only [List.flatMap_append, List.flatMap_cons, List.flatMap_nil, List.map_append, List.map_cons, List.map_nil, List.append_nil, List.nil_append]; rfl)) (vu_clean _)))) (TmL.cons (show Tm _ _ _ _ (.imm (List.map vu ([0, 1] ++ [0, 0, 0, 0, 0, 0, 0, 0, 0, 0, 0, 0, 0, 0, 0, 0, 0, 0, 0, 0, 0, 0, 0, 0, 0, 0, 0, 0, 0, 0, 0])) ([0, 1] ++ [0, 0, 0, 0, 0, 0, 0, 0, 0, 0, 0, 0, 0, 0, 0, 0, 0, 0, 0, 0, 0, 0, 0, 0, 0, 0, 0, 0, 0, 0, 0]).length) from (Tm.frzK ?_ (by simp) (by simp only [upd_get, ↓iop_and, ↓iop_or, ↓iop_xor, ↓iop_andn, Nat.reduceEqDiff, reduceIte, Nat.reduceAdd, Nat.reduceMul, Nat.reduceSub, Nat.reduceLT, Nat.reduceLeDiff, if_true, if_false] <;> rfl) (by first | (simp only [vu_len, List.length_append, List.length_cons, List.length_nil, List.length_modify, List.length_set, Nat.zero_add, Nat.mul_one]; done) | (simp only [vu_len, List.length_append, List.length_cons, List.length_nil, List.length_modify, List.length_set, Nat.zero_add, Nat.mul_one]; omega)) (TmL.of_eq (by first | rfl | (simp only [List.flatMap_append, List.flatMap_cons, List.flatMap_nil, List.map_append, List.map_cons, List.map_nil, List.append_nil, List.nil_append]; done) | (simp only [List.flatMap_append, List.flatMap_cons, List.flatMap_nil, List.map_append, List.map_cons, List.map_nil, List.append_nil, List.nil_append]; rfl)) (vu_clean _)))) TmL.nil))))))))))))))) (by rfl)))); all_goals (first | rfl | (simp only [List.length_take]; omega) | (simp only [List.length_append, List.length_cons, List.length_nil, List.length_modify, List.length_set, Nat.zero_add]; done) | (simp only [List.length_append, List.length_take, List.length_drop, List.length_cons, List.length_nil, List.length_modify, List.length_set, Nat.zero_add]; omega) | (simp only [List.length_append, List.length_take, List.length_drop, List.length_cons, List.length_nil, List.length_modify, List.length_set, Nat.zero_add]; done) | omega)) ?_; clear hKK KK
 unfold hotspotlaw33_BitmapNames_S5
 refine awp_assoc ?_
 refine awp_nr [1,2,3] (fun _ => rfl) fun tz => ?_
 refine awp_regW fun KK hKK => ?_
 refine xw_id ?_
 try simp only [go_sem, ↓iop_and, ↓iop_or, ↓iop_xor, ↓iop_andn, Nat.reduceEqDiff, reduceIte, Nat.reduceAdd, Nat.reduceMul, Nat.reduceSub, Nat.reduceLT, Nat.reduceLeDiff]
 refine hKK _ _ (Wk.refl _ _ _) ?_; clear hKK KK
 obtain ⟨o22, hi4, h0⟩ := bnd h0
 refine awp_cut (fun d21 : Unit => o22 = Ex.go d21) (fun d21 : Unit => hotspotlaw33_BitmapNames_S6 d21) ?_ ?_
 ·
  refine awp_block1 ?_
  refine awp_loopS (fun n (d23 : Int) => hotspotlaw33_BitmapNames_L8 n d23 = some o22) (fun d23 : Int => hotspotlaw33_BitmapNames_S7 d23) big 0 (Wk.canonD [] [] [] rfl trivial rfl tmO0 (tmAllU 4 (tmAllU 3 (tmAllU 2 (tmAllU 1 tmAll0 (Tm.clean (Clean.imm (cS_vu _)))) (Tm.clean (Clean.imm (cS_vu _)))) (Tm.clean (Clean.imm (cS_vu _)))) (Tm.v _))) hi4 ?_
  clear hi4
  rintro n d23 hl6
  rcases n with _ | n5
  ·
   (rw [hotspotlaw33_BitmapNames_L8] at hl6; cases hl6)
  ·
   rw [hotspotlaw33_BitmapNames_L8] at hl6
   unfold hotspotlaw33_BitmapNames_S7
   refine awp_assoc ?_
   refine awp_nr [1,2,3,4] (fun _ => rfl) fun tz => ?_
   refine awp_regW fun KK hKK => ?_
   refine xw_id ?_
   try simp only [go_sem, ↓iop_and, ↓iop_or, ↓iop_xor, ↓iop_andn, Nat.reduceEqDiff, reduceIte, Nat.reduceAdd, Nat.reduceMul, Nat.reduceSub, Nat.reduceLT, Nat.reduceLeDiff, Int.reduceToNat, Int.reduceBEq, Int.reduceBNe, Int.reduceLT, Int.reduceLE, Int.reduceAdd, Int.reduceSub, Int.reduceMul, Int.reduceNeg, Int.reduceEq, Int.reduceNe]
   refine hKK _ _ (Wk.refl _ _ _) ?_; clear hKK KK
   refine awp_cond (b := (decide (d23 < (hotspotlaw33_BitmapNames_C0.length : Int)))) rfl (fun h7 => ?_) (fun h7 => ?_)
   ·
    have hl6 := cT hl6 h7
    refine awp_skip ?_
    refine awp_blockW ?_
    refine awp_nr [1,2,3,4] (fun _ => rfl) fun tz => ?_
    refine awp_regW fun KK hKK => ?_
    refine xw_id ?_
    obtain ⟨x24, bx24, hl6⟩ := bnd hl6
    obtain ⟨fx24_0, fx24_1, fx24_2, fx24_3⟩ := idx_some bx24
    have fx24_9 : (List.map S_vu hotspotlaw33_BitmapNames_C0)[(d23).toNat]? = some (S_vu x24) := by rw [List.getElem?_map, fx24_2]; rfl
    obtain ⟨x25, bx25, hl6⟩ := bnd hl6
    try simp only [go_sem, ↓iop_and, ↓iop_or, ↓iop_xor, ↓iop_andn, Nat.reduceEqDiff, reduceIte, Nat.reduceAdd, Nat.reduceMul, Nat.reduceSub, Nat.reduceLT, Nat.reduceLeDiff, fx24_0, fx24_1, fx24_2, fx24_9]
    refine xcall_p (bitmap_Decode_p x24 bx25) ?_; try dsimp only
    try refine xw_id ?_
    try simp only [go_sem, ↓iop_and, ↓iop_or, ↓iop_xor, ↓iop_andn, Nat.reduceEqDiff, reduceIte, Nat.reduceAdd, Nat.reduceMul, Nat.reduceSub, Nat.reduceLT, Nat.reduceLeDiff, fx24_0, fx24_1, fx24_2, fx24_9]
    refine hKK _ _ (Wk.refl _ _ _) ?_; clear hKK KK
    refine awp_nr [1,2,3,4,6] (fun _ => rfl) fun tz => ?_
    refine awp_regW fun KK hKK => ?_
    refine xw_id ?_
    try simp only [go_sem, ↓iop_and, ↓iop_or, ↓iop_xor, ↓iop_andn, Nat.reduceEqDiff, reduceIte, Nat.reduceAdd, Nat.reduceMul, Nat.reduceSub, Nat.reduceLT, Nat.reduceLeDiff, fx24_0, fx24_1, fx24_2, fx24_9]
    refine hKK _ _ (Wk.refl _ _ _) ?_; clear hKK KK
    refine awp_cond1 (b := (x25.2 != 10)) rfl (fun h8 => ?_) (fun h8 => ?_)
    ·
     have hl6 := cT hl6 h8
     refine awp_nr [] (fun _ => rfl) fun tz => ?_
     refine awp_regW fun KK hKK => ?_
     refine xw_id ?_
     try simp only [go_sem, ↓iop_and, ↓iop_or, ↓iop_xor, ↓iop_andn, Nat.reduceEqDiff, reduceIte, Nat.reduceAdd, Nat.reduceMul, Nat.reduceSub, Nat.reduceLT, Nat.reduceLeDiff, fx24_0, fx24_1, fx24_2, fx24_9]
     refine hKK _ _ (Wk.refl _ _ _) ?_; clear hKK KK
     refine awp_ret1 ?_
     refine bq_r ?_
     refine sq_r ?_
     refine lq_r ?_
     refine bq_r ?_
     refine sq_r ?_
     obtain rfl := someInj hl6
     obtain rfl := Ex.k_ret h0
     refine endW_i ?_
     refine end_ret0 rs10 (rfl) ?_
     try simp only [go_sem, ↓iop_and, ↓iop_or, ↓iop_xor, ↓iop_andn, Nat.reduceEqDiff, reduceIte, Nat.reduceAdd, Nat.reduceMul, Nat.reduceSub, Nat.reduceLT, Nat.reduceLeDiff, fz, nilS, packR, List.take_nil, List.take_length, List.length_map, List.length_append, cond_true, cond_false, Nat.ble_eq, ble_self]
     all_goals first | rfl | (simp only [go_sem, ↓iop_and, ↓iop_or, ↓iop_xor, ↓iop_andn, Nat.reduceEqDiff, reduceIte, Nat.reduceAdd, Nat.reduceMul, Nat.reduceSub, Nat.reduceLT, Nat.reduceLeDiff, fz, nilS, packR, List.take_nil, List.take_length, List.length_map, List.length_append, cond_true, cond_false, Nat.ble_eq, ble_self, List.map_append] <;> rfl)
    ·
     have hl6 := cF hl6 h8
     refine awp_skip1 ?_
     refine bq_n ?_
     refine seqW_i ?_
     refine awp_nr1 [1,2,3,4] (fun _ => rfl) fun tz => ?_
     refine awp_reg1 fun KK hKK => ?_
     refine xw_id ?_
     try simp only [go_sem, ↓iop_and, ↓iop_or, ↓iop_xor, ↓iop_andn, Nat.reduceEqDiff, reduceIte, Nat.reduceAdd, Nat.reduceMul, Nat.reduceSub, Nat.reduceLT, Nat.reduceLeDiff, fx24_0, fx24_1, fx24_2, fx24_9]
     refine hKK _ ?_; clear hKK KK
     refine lq_n ?_
     exact ⟨n5, IntKind.wrap .i64 (d23 + 1), rfl, hl6, (Wk.canonD [] [] [] rfl trivial rfl tmO0 (tmAllU 4 (tmAllU 3 (tmAllU 2 (tmAllU 1 tmAll0 (Tm.clean (Clean.imm (cS_vu _)))) (Tm.clean (Clean.imm (cS_vu _)))) (Tm.clean (Clean.imm (cS_vu _)))) (Tm.v _)))⟩
   ·
    have hl6 := cF hl6 h7
    refine awp_exit ?_
    refine lq_e ?_
    refine bq_e ?_
    refine sq_n ?_
    obtain rfl := someInj hl6
    exact ⟨_, rfl, (Wk.canonD [] [] [] rfl trivial rfl tmO0 (tmAllU 3 (tmAllU 2 tmAll0 (Tm.clean (Clean.imm (cS_vu _)))) (Tm.clean (Clean.imm (cS_vu _)))))⟩
 ·
  rintro d21 rfl
  have h0 := Ex.k_go h0
  clear hi4
  unfold hotspotlaw33_BitmapNames_S6
  refine awp_assoc ?_
  refine awp_nr [2,3] (fun _ => rfl) fun tz => ?_
  refine awp_regW fun KK hKK => ?_
  refine xw_id ?_
  try simp only [go_sem, ↓iop_and, ↓iop_or, ↓iop_xor, ↓iop_andn, Nat.reduceEqDiff, reduceIte, Nat.reduceAdd, Nat.reduceMul, Nat.reduceSub, Nat.reduceLT, Nat.reduceLeDiff]
  refine hKK _ _ (Wk.refl _ _ _) ?_; clear hKK KK
  obtain ⟨o27, hi9, h0⟩ := bnd h0
  refine awp_cut (fun d26 : Unit => o27 = Ex.go d26) (fun d26 : Unit => hotspotlaw33_BitmapNames_S9 d26) ?_ ?_
  ·
   refine awp_block1 ?_
   refine awp_loopS (fun n (d28 : Int) => hotspotlaw33_BitmapNames_L11 n d28 = some o27) (fun d28 : Int => hotspotlaw33_BitmapNames_S10 d28) big 0 (Wk.canonD [] [] [] rfl trivial rfl tmO0 (tmAllU 7 (tmAllU 3 (tmAllU 2 tmAll0 (Tm.clean (Clean.imm (cS_vu _)))) (Tm.clean (Clean.imm (cS_vu _)))) (Tm.v _))) hi9 ?_
   clear hi9
   rintro n d28 hl11
   rcases n with _ | n10
   ·
    (rw [hotspotlaw33_BitmapNames_L11] at hl11; cases hl11)
   ·
    rw [hotspotlaw33_BitmapNames_L11] at hl11
    unfold hotspotlaw33_BitmapNames_S10
    refine awp_assoc ?_
    refine awp_nr [2,3,7] (fun _ => rfl) fun tz => ?_
    refine awp_regW fun KK hKK => ?_
    refine xw_id ?_
    try simp only [go_sem, ↓iop_and, ↓iop_or, ↓iop_xor, ↓iop_andn, Nat.reduceEqDiff, reduceIte, Nat.reduceAdd, Nat.reduceMul, Nat.reduceSub, Nat.reduceLT, Nat.reduceLeDiff, Int.reduceToNat, Int.reduceBEq, Int.reduceBNe, Int.reduceLT, Int.reduceLE, Int.reduceAdd, Int.reduceSub, Int.reduceMul, Int.reduceNeg, Int.reduceEq, Int.reduceNe]
    refine hKK _ _ (Wk.refl _ _ _) ?_; clear hKK KK
    refine awp_cond (b := (decide (d28 < (hotspotlaw33_BitmapNames_C2.length : Int)))) rfl (fun h12 => ?_) (fun h12 => ?_)
    ·
     have hl11 := cT hl11 h12
     refine awp_skip ?_
     refine awp_blockW ?_
     refine awp_nr [2,3,7] (fun _ => rfl) fun tz => ?_
     refine awp_regW fun KK hKK => ?_
     refine xw_id ?_
     obtain ⟨x29, bx29, hl11⟩ := bnd hl11
     obtain ⟨fx29_0, fx29_1, fx29_2, fx29_3⟩ := idx_some bx29
     have fx29_9 : (List.map S_vu hotspotlaw33_BitmapNames_C2)[(d28).toNat]? = some (S_vu x29) := by rw [List.getElem?_map, fx29_2]; rfl
     obtain ⟨x30, bx30, hl11⟩ := bnd hl11
     try simp only [go_sem, ↓iop_and, ↓iop_or, ↓iop_xor, ↓iop_andn, Nat.reduceEqDiff, reduceIte, Nat.reduceAdd, Nat.reduceMul, Nat.reduceSub, Nat.reduceLT, Nat.reduceLeDiff, fx29_0, fx29_1, fx29_2, fx29_9]
     refine xcall_p (bitmap_Decode_p x29 bx30) ?_; try dsimp only
     try refine xw_id ?_
     try simp only [go_sem, ↓iop_and, ↓iop_or, ↓iop_xor, ↓iop_andn, Nat.reduceEqDiff, reduceIte, Nat.reduceAdd, Nat.reduceMul, Nat.reduceSub, Nat.reduceLT, Nat.reduceLeDiff, fx29_0, fx29_1, fx29_2, fx29_9]
     refine hKK _ _ (Wk.refl _ _ _) ?_; clear hKK KK
     refine awp_nr [2,3,7,9] (fun _ => rfl) fun tz => ?_
     refine awp_regW fun KK hKK => ?_
     refine xw_id ?_
     try simp only [go_sem, ↓iop_and, ↓iop_or, ↓iop_xor, ↓iop_andn, Nat.reduceEqDiff, reduceIte, Nat.reduceAdd, Nat.reduceMul, Nat.reduceSub, Nat.reduceLT, Nat.reduceLeDiff, fx29_0, fx29_1, fx29_2, fx29_9]
     refine hKK _ _ (Wk.refl _ _ _) ?_; clear hKK KK
     refine awp_cond1 (b := (x30.2 != 11)) rfl (fun h13 => ?_) (fun h13 => ?_)
     ·
      have hl11 := cT hl11 h13
      refine awp_nr [] (fun _ => rfl) fun tz => ?_
      refine awp_regW fun KK hKK => ?_
      refine xw_id ?_
      try simp only [go_sem, ↓iop_and, ↓iop_or, ↓iop_xor, ↓iop_andn, Nat.reduceEqDiff, reduceIte, Nat.reduceAdd, Nat.reduceMul, Nat.reduceSub, Nat.reduceLT, Nat.reduceLeDiff, fx29_0, fx29_1, fx29_2, fx29_9]
      refine hKK _ _ (Wk.refl _ _ _) ?_; clear hKK KK
      refine awp_ret1 ?_
      refine bq_r ?_
      refine sq_r ?_
      refine lq_r ?_
      refine bq_r ?_
      refine sq_r ?_
      obtain rfl := someInj hl11
      obtain rfl := Ex.k_ret h0
      refine endW_i ?_
      refine end_ret0 rs10 (rfl) ?_
      try simp only [go_sem, ↓iop_and, ↓iop_or, ↓iop_xor, ↓iop_andn, Nat.reduceEqDiff, reduceIte, Nat.reduceAdd, Nat.reduceMul, Nat.reduceSub, Nat.reduceLT, Nat.reduceLeDiff, fz, nilS, packR, List.take_nil, List.take_length, List.length_map, List.length_append, cond_true, cond_false, Nat.ble_eq, ble_self]
      all_goals first | rfl | (simp only [go_sem, ↓iop_and, ↓iop_or, ↓iop_xor, ↓iop_andn, Nat.reduceEqDiff, reduceIte, Nat.reduceAdd, Nat.reduceMul, Nat.reduceSub, Nat.reduceLT, Nat.reduceLeDiff, fz, nilS, packR, List.take_nil, List.take_length, List.length_map, List.length_append, cond_true, cond_false, Nat.ble_eq, ble_self, List.map_append] <;> rfl)
     ·
      have hl11 := cF hl11 h13
      refine awp_skip1 ?_
      refine bq_n ?_
      refine seqW_i ?_
      refine awp_nr1 [2,3,7] (fun _ => rfl) fun tz => ?_
      refine awp_reg1 fun KK hKK => ?_
      refine xw_id ?_
      try simp only [go_sem, ↓iop_and, ↓iop_or, ↓iop_xor, ↓iop_andn, Nat.reduceEqDiff, reduceIte, Nat.reduceAdd, Nat.reduceMul, Nat.reduceSub, Nat.reduceLT, Nat.reduceLeDiff, fx29_0, fx29_1, fx29_2, fx29_9]
      refine hKK _ ?_; clear hKK KK
      refine lq_n ?_
      exact ⟨n10, IntKind.wrap .i64 (d28 + 1), rfl, hl11, (Wk.canonD [] [] [] rfl trivial rfl tmO0 (tmAllU 7 (tmAllU 3 (tmAllU 2 tmAll0 (Tm.clean (Clean.imm (cS_vu _)))) (Tm.clean (Clean.imm (cS_vu _)))) (Tm.v _)))⟩
    ·
     have hl11 := cF hl11 h12
     refine awp_exit ?_
     refine lq_e ?_
     refine bq_e ?_
     refine sq_n ?_
     obtain rfl := someInj hl11
     exact ⟨_, rfl, (Wk.canonD [] [] [] rfl trivial rfl tmO0 (tmAllU 3 tmAll0 (Tm.clean (Clean.imm (cS_vu _)))))⟩
  ·
   rintro d26 rfl
   have h0 := Ex.k_go h0
   clear hi9
   unfold hotspotlaw33_BitmapNames_S9
   refine awp_assoc ?_
   refine awp_nr [3] (fun _ => rfl) fun tz => ?_
   refine awp_regW fun KK hKK => ?_
   refine xw_id ?_
   try simp only [go_sem, ↓iop_and, ↓iop_or, ↓iop_xor, ↓iop_andn, Nat.reduceEqDiff, reduceIte, Nat.reduceAdd, Nat.reduceMul, Nat.reduceSub, Nat.reduceLT, Nat.reduceLeDiff]
   refine hKK _ _ (Wk.refl _ _ _) ?_; clear hKK KK
   obtain ⟨o32, hi14, h0⟩ := bnd h0
   refine awp_cut (fun d31 : Unit => o32 = Ex.go d31) (fun d31 : Unit => hotspotlaw33_BitmapNames_S12 d31) ?_ ?_
   ·
    refine awp_block1 ?_
    refine awp_loopS (fun n (d33 : Int) => hotspotlaw33_BitmapNames_L14 n d33 = some o32) (fun d33 : Int => hotspotlaw33_BitmapNames_S13 d33) big 0 (Wk.canonD [] [] [] rfl trivial rfl tmO0 (tmAllU 10 (tmAllU 3 tmAll0 (Tm.clean (Clean.imm (cS_vu _)))) (Tm.v _))) hi14 ?_
    clear hi14
    rintro n d33 hl16
    rcases n with _ | n15
    ·
     (rw [hotspotlaw33_BitmapNames_L14] at hl16; cases hl16)
    ·
     rw [hotspotlaw33_BitmapNames_L14] at hl16
     unfold hotspotlaw33_BitmapNames_S13
     refine awp_assoc ?_
     refine awp_nr [3,10] (fun _ => rfl) fun tz => ?_
     refine awp_regW fun KK hKK => ?_
     refine xw_id ?_
     try simp only [go_sem, ↓iop_and, ↓iop_or, ↓iop_xor, ↓iop_andn, Nat.reduceEqDiff, reduceIte, Nat.reduceAdd, Nat.reduceMul, Nat.reduceSub, Nat.reduceLT, Nat.reduceLeDiff, Int.reduceToNat, Int.reduceBEq, Int.reduceBNe, Int.reduceLT, Int.reduceLE, Int.reduceAdd, Int.reduceSub, Int.reduceMul, Int.reduceNeg, Int.reduceEq, Int.reduceNe]
     refine hKK _ _ (Wk.refl _ _ _) ?_; clear hKK KK
     refine awp_cond (b := (decide (d33 < (hotspotlaw33_BitmapNames_C4.length : Int)))) rfl (fun h17 => ?_) (fun h17 => ?_)
     ·
      have hl16 := cT hl16 h17
      refine awp_skip ?_
      refine awp_blockW ?_
      refine awp_nr [3,10] (fun _ => rfl) fun tz => ?_
      refine awp_regW fun KK hKK => ?_
      refine xw_id ?_
      obtain ⟨x34, bx34, hl16⟩ := bnd hl16
      obtain ⟨fx34_0, fx34_1, fx34_2, fx34_3⟩ := idx_some bx34
      have fx34_9 : (List.map S_vu hotspotlaw33_BitmapNames_C4)[(d33).toNat]? = some (S_vu x34) := by rw [List.getElem?_map, fx34_2]; rfl
      obtain ⟨x35, bx35, hl16⟩ := bnd hl16
      try simp only [go_sem, ↓iop_and, ↓iop_or, ↓iop_xor, ↓iop_andn, Nat.reduceEqDiff, reduceIte, Nat.reduceAdd, Nat.reduceMul, Nat.reduceSub, Nat.reduceLT, Nat.reduceLeDiff, fx34_0, fx34_1, fx34_2, fx34_9]
      refine xcall_p (bitmap_Decode_p x34 bx35) ?_; try dsimp only
      try refine xw_id ?_
      try simp only [go_sem, ↓iop_and, ↓iop_or, ↓iop_xor, ↓iop_andn, Nat.reduceEqDiff, reduceIte, Nat.reduceAdd, Nat.reduceMul, Nat.reduceSub, Nat.reduceLT, Nat.reduceLeDiff, fx34_0, fx34_1, fx34_2, fx34_9]
      refine hKK _ _ (Wk.refl _ _ _) ?_; clear hKK KK
      refine awp_nr [3,10,12] (fun _ => rfl) fun tz => ?_
      refine awp_regW fun KK hKK => ?_
      refine xw_id ?_
      try simp only [go_sem, ↓iop_and, ↓iop_or, ↓iop_xor, ↓iop_andn, Nat.reduceEqDiff, reduceIte, Nat.reduceAdd, Nat.reduceMul, Nat.reduceSub, Nat.reduceLT, Nat.reduceLeDiff, fx34_0, fx34_1, fx34_2, fx34_9]
      refine hKK _ _ (Wk.refl _ _ _) ?_; clear hKK KK
      refine awp_cond1 (b := (x35.2 != 12)) rfl (fun h18 => ?_) (fun h18 => ?_)
      ·
       have hl16 := cT hl16 h18
       refine awp_nr [] (fun _ => rfl) fun tz => ?_
       refine awp_regW fun KK hKK => ?_
       refine xw_id ?_
       try simp only [go_sem, ↓iop_and, ↓iop_or, ↓iop_xor, ↓iop_andn, Nat.reduceEqDiff, reduceIte, Nat.reduceAdd, Nat.reduceMul, Nat.reduceSub, Nat.reduceLT, Nat.reduceLeDiff, fx34_0, fx34_1, fx34_2, fx34_9]
       refine hKK _ _ (Wk.refl _ _ _) ?_; clear hKK KK
       refine awp_ret1 ?_
       refine bq_r ?_
       refine sq_r ?_
       refine lq_r ?_
       refine bq_r ?_
       refine sq_r ?_
       obtain rfl := someInj hl16
       obtain rfl := Ex.k_ret h0
       refine endW_i ?_
       refine end_ret0 rs10 (rfl) ?_
       try simp only [go_sem, ↓iop_and, ↓iop_or, ↓iop_xor, ↓iop_andn, Nat.reduceEqDiff, reduceIte, Nat.reduceAdd, Nat.reduceMul, Nat.reduceSub, Nat.reduceLT, Nat.reduceLeDiff, fz, nilS, packR, List.take_nil, List.take_length, List.length_map, List.length_append, cond_true, cond_false, Nat.ble_eq, ble_self]
       all_goals first | rfl | (simp only [go_sem, ↓iop_and, ↓iop_or, ↓iop_xor, ↓iop_andn, Nat.reduceEqDiff, reduceIte, Nat.reduceAdd, Nat.reduceMul, Nat.reduceSub, Nat.reduceLT, Nat.reduceLeDiff, fz, nilS, packR, List.take_nil, List.take_length, List.length_map, List.length_append, cond_true, cond_false, Nat.ble_eq, ble_self, List.map_append] <;> rfl)
      ·
       have hl16 := cF hl16 h18
       refine awp_skip1 ?_
       refine bq_n ?_
       refine seqW_i ?_
       refine awp_nr1 [3,10] (fun _ => rfl) fun tz => ?_
       refine awp_reg1 fun KK hKK => ?_
       refine xw_id ?_
       try simp only [go_sem, ↓iop_and, ↓iop_or, ↓iop_xor, ↓iop_andn, Nat.reduceEqDiff, reduceIte, Nat.reduceAdd, Nat.reduceMul, Nat.reduceSub, Nat.reduceLT, Nat.reduceLeDiff, fx34_0, fx34_1, fx34_2, fx34_9]
       refine hKK _ ?_; clear hKK KK
       refine lq_n ?_
       exact ⟨n15, IntKind.wrap .i64 (d33 + 1), rfl, hl16, (Wk.canonD [] [] [] rfl trivial rfl tmO0 (tmAllU 10 (tmAllU 3 tmAll0 (Tm.clean (Clean.imm (cS_vu _)))) (Tm.v _)))⟩
     ·
      have hl16 := cF hl16 h17
      refine awp_exit ?_
      refine lq_e ?_
      refine bq_e ?_
      refine sq_n ?_
      obtain rfl := someInj hl16
      exact ⟨_, rfl, (Wk.canonD [] [] [] rfl trivial rfl tmO0 tmAll0)⟩
   ·
    rintro d31 rfl
    have h0 := Ex.k_go h0
    clear hi14
    unfold hotspotlaw33_BitmapNames_S12
    refine awp_nr [] (fun _ => rfl) fun tz => ?_
    refine awp_regW fun KK hKK => ?_
    refine xw_id ?_
    obtain ⟨x36, bx36, h0⟩ := bnd h0
    try simp only [go_sem, ↓iop_and, ↓iop_or, ↓iop_xor, ↓iop_andn, Nat.reduceEqDiff, reduceIte, Nat.reduceAdd, Nat.reduceMul, Nat.reduceSub, Nat.reduceLT, Nat.reduceLeDiff]
    refine xcall_MN (by first | (simp only [go_sem, fz, nilS, cond_true, cond_false, ↓iop_and, ↓iop_or, ↓iop_xor, ↓iop_andn, Nat.reduceEqDiff, reduceIte, Nat.reduceAdd, Nat.reduceMul, Nat.reduceSub, Nat.reduceLT, Nat.reduceLeDiff]; done) | (simp only [go_sem, fz, nilS, cond_true, cond_false, ↓iop_and, ↓iop_or, ↓iop_xor, ↓iop_andn, Nat.reduceEqDiff, reduceIte, Nat.reduceAdd, Nat.reduceMul, Nat.reduceSub, Nat.reduceLT, Nat.reduceLeDiff]; rfl)) (bitmap_Set_m Traffic.z 256 bx36) ?_; try dsimp only
    try refine xw_id ?_
    try simp only [go_sem, ↓iop_and, ↓iop_or, ↓iop_xor, ↓iop_andn, Nat.reduceEqDiff, reduceIte, Nat.reduceAdd, Nat.reduceMul, Nat.reduceSub, Nat.reduceLT, Nat.reduceLeDiff]
    refine hKK _ _ (Wk.refl _ _ _) ?_; clear hKK KK
    refine awp_nr [14] (fun _ => rfl) fun tz => ?_
    refine awp_regW fun KK hKK => ?_
    refine xw_id ?_
    obtain ⟨x37, bx37, h0⟩ := bnd h0
    try simp only [go_sem, ↓iop_and, ↓iop_or, ↓iop_xor, ↓iop_andn, Nat.reduceEqDiff, reduceIte, Nat.reduceAdd, Nat.reduceMul, Nat.reduceSub, Nat.reduceLT, Nat.reduceLeDiff]
    refine xcall_ML (by first | (simp only [go_sem, fz, nilS, cond_true, cond_false, ↓iop_and, ↓iop_or, ↓iop_xor, ↓iop_andn, Nat.reduceEqDiff, reduceIte, Nat.reduceAdd, Nat.reduceMul, Nat.reduceSub, Nat.reduceLT, Nat.reduceLeDiff]; done) | (simp only [go_sem, fz, nilS, cond_true, cond_false, ↓iop_and, ↓iop_or, ↓iop_xor, ↓iop_andn, Nat.reduceEqDiff, reduceIte, Nat.reduceAdd, Nat.reduceMul, Nat.reduceSub, Nat.reduceLT, Nat.reduceLeDiff]; rfl) | (simp only [go_sem, fz, List.length_set, ble_self, take_set, cond_true, cond_false, ↓iop_and, ↓iop_or, ↓iop_xor, ↓iop_andn, Nat.reduceEqDiff, reduceIte, Nat.reduceAdd, Nat.reduceMul, Nat.reduceSub, Nat.reduceLT, Nat.reduceLeDiff]; done) | (simp only [go_sem, fz, List.length_set, ble_self, take_set, cond_true, cond_false, ↓iop_and, ↓iop_or, ↓iop_xor, ↓iop_andn, Nat.reduceEqDiff, reduceIte, Nat.reduceAdd, Nat.reduceMul, Nat.reduceSub, Nat.reduceLT, Nat.reduceLeDiff]; rfl)) (bitmap_Set_m { Traffic.z with Aids := [0] } 300 bx37) (fun _ => by repeat' (first | exact NoV.v _ | exact NoV.ref _ _ _ _ | exact NoV.onil | refine NoV.ocons ?_ ?_ | exact NoV.nil | refine NoV.tup ?_ | refine NoV.agg ?_ | refine NoV.rows (fun _ => ?_) _ | refine NoV.maps (fun _ => ?_) _ | refine NoV.cons ?_ ?_)) (by repeat' (first | exact NoV.v _ | exact NoV.ref _ _ _ _ | exact NoV.onil | refine NoV.ocons ?_ ?_ | exact NoV.nil | refine NoV.tup ?_ | refine NoV.agg ?_ | refine NoV.rows (fun _ => ?_) _ | refine NoV.maps (fun _ => ?_) _ | refine NoV.cons ?_ ?_)) ?_; try dsimp only
    try refine xw_id ?_
    try simp only [go_sem, ↓iop_and, ↓iop_or, ↓iop_xor, ↓iop_andn, Nat.reduceEqDiff, reduceIte, Nat.reduceAdd, Nat.reduceMul, Nat.reduceSub, Nat.reduceLT, Nat.reduceLeDiff]
    refine hKK _ (hotspotlaw33_BitmapNames_S15 x36 x37) (Wk.canonD [] [] [] rfl trivial rfl tmO0 (tmAllU 16 (tmAllU 14 tmAll0 (Tm.v _)) (Tm.v _))) ?_; clear hKK KK
    unfold hotspotlaw33_BitmapNames_S15
    refine awp_nr [14,16] (fun _ => rfl) fun tz => ?_
    refine awp_regW fun KK hKK => ?_
    refine xw_id ?_
    obtain ⟨x38, bx38, h0⟩ := bnd h0
    try simp only [go_sem, ↓iop_and, ↓iop_or, ↓iop_xor, ↓iop_andn, Nat.reduceEqDiff, reduceIte, Nat.reduceAdd, Nat.reduceMul, Nat.reduceSub, Nat.reduceLT, Nat.reduceLeDiff]
    refine xcall_MN (by first | (simp only [go_sem, fz, nilS, cond_true, cond_false, ↓iop_and, ↓iop_or, ↓iop_xor, ↓iop_andn, Nat.reduceEqDiff, reduceIte, Nat.reduceAdd, Nat.reduceMul, Nat.reduceSub, Nat.reduceLT, Nat.reduceLeDiff]; done) | (simp only [go_sem, fz, nilS, cond_true, cond_false, ↓iop_and, ↓iop_or, ↓iop_xor, ↓iop_andn, Nat.reduceEqDiff, reduceIte, Nat.reduceAdd, Nat.reduceMul, Nat.reduceSub, Nat.reduceLT, Nat.reduceLeDiff]; rfl)) (bitmap_EncodeAs_m Traffic.z 4 bx38) ?_; try dsimp only
    try refine xw_id ?_
    try simp only [go_sem, ↓iop_and, ↓iop_or, ↓iop_xor, ↓iop_andn, Nat.reduceEqDiff, reduceIte, Nat.reduceAdd, Nat.reduceMul, Nat.reduceSub, Nat.reduceLT, Nat.reduceLeDiff]
    refine hKK _ _ (Wk.refl _ _ _) ?_; clear hKK KK
    refine awp_nr [14,16,18] (fun _ => rfl) fun tz => ?_
    refine awp_regW fun KK hKK => ?_
    refine xw_id ?_
    obtain ⟨x39, bx39, h0⟩ := bnd h0
    try simp only [go_sem, ↓iop_and, ↓iop_or, ↓iop_xor, ↓iop_andn, Nat.reduceEqDiff, reduceIte, Nat.reduceAdd, Nat.reduceMul, Nat.reduceSub, Nat.reduceLT, Nat.reduceLeDiff]
    refine xcall_MN (by first | (simp only [go_sem, fz, nilS, cond_true, cond_false, ↓iop_and, ↓iop_or, ↓iop_xor, ↓iop_andn, Nat.reduceEqDiff, reduceIte, Nat.reduceAdd, Nat.reduceMul, Nat.reduceSub, Nat.reduceLT, Nat.reduceLeDiff]; done) | (simp only [go_sem, fz, nilS, cond_true, cond_false, ↓iop_and, ↓iop_or, ↓iop_xor, ↓iop_andn, Nat.reduceEqDiff, reduceIte, Nat.reduceAdd, Nat.reduceMul, Nat.reduceSub, Nat.reduceLT, Nat.reduceLeDiff]; rfl)) (bitmap_Clear_m Traffic.z (-1) bx39) ?_; try dsimp only
    try refine xw_id ?_
    try simp only [go_sem, ↓iop_and, ↓iop_or, ↓iop_xor, ↓iop_andn, Nat.reduceEqDiff, reduceIte, Nat.reduceAdd, Nat.reduceMul, Nat.reduceSub, Nat.reduceLT, Nat.reduceLeDiff]
    refine hKK _ (hotspotlaw33_BitmapNames_S16 x36 x37 x38 x39) (Wk.canonD [] [] [] rfl trivial rfl tmO0 (tmAllU 20 (tmAllU 18 (tmAllU 16 (tmAllU 14 tmAll0 (Tm.v _)) (Tm.v _)) (Tm.v _)) (Tm.v _))) ?_; clear hKK KK
    unfold hotspotlaw33_BitmapNames_S16
    refine awp_nr [14,16,18,20] (fun _ => rfl) fun tz => ?_
    refine awp_regW fun KK hKK => ?_
    refine xw_id ?_
    obtain ⟨x40, bx40, h0⟩ := bnd h0
    try simp only [go_sem, ↓iop_and, ↓iop_or, ↓iop_xor, ↓iop_andn, Nat.reduceEqDiff, reduceIte, Nat.reduceAdd, Nat.reduceMul, Nat.reduceSub, Nat.reduceLT, Nat.reduceLeDiff]
    refine xcall_MN (by first | (simp only [go_sem, fz, nilS, cond_true, cond_false, ↓iop_and, ↓iop_or, ↓iop_xor, ↓iop_andn, Nat.reduceEqDiff, reduceIte, Nat.reduceAdd, Nat.reduceMul, Nat.reduceSub, Nat.reduceLT, Nat.reduceLeDiff]; done) | (simp only [go_sem, fz, nilS, cond_true, cond_false, ↓iop_and, ↓iop_or, ↓iop_xor, ↓iop_andn, Nat.reduceEqDiff, reduceIte, Nat.reduceAdd, Nat.reduceMul, Nat.reduceSub, Nat.reduceLT, Nat.reduceLeDiff]; rfl)) (bitmap_Set_m Traffic.z 0 bx40) ?_; try dsimp only
    try refine xw_id ?_
    try simp only [go_sem, ↓iop_and, ↓iop_or, ↓iop_xor, ↓iop_andn, Nat.reduceEqDiff, reduceIte, Nat.reduceAdd, Nat.reduceMul, Nat.reduceSub, Nat.reduceLT, Nat.reduceLeDiff]
    refine hKK _ _ (Wk.refl _ _ _) ?_; clear hKK KK
    refine awp_nr [14,16,18,20,21,22] (fun _ => rfl) fun tz => ?_
    refine awp_regW fun KK hKK => ?_
    refine xw_id ?_
    obtain ⟨x41, bx41, h0⟩ := bnd h0
    try simp only [go_sem, ↓iop_and, ↓iop_or, ↓iop_xor, ↓iop_andn, Nat.reduceEqDiff, reduceIte, Nat.reduceAdd, Nat.reduceMul, Nat.reduceSub, Nat.reduceLT, Nat.reduceLeDiff]
    refine xcall_ML (by first | (simp only [go_sem, fz, nilS, cond_true, cond_false, ↓iop_and, ↓iop_or, ↓iop_xor, ↓iop_andn, Nat.reduceEqDiff, reduceIte, Nat.reduceAdd, Nat.reduceMul, Nat.reduceSub, Nat.reduceLT, Nat.reduceLeDiff]; done) | (simp only [go_sem, fz, nilS, cond_true, cond_false, ↓iop_and, ↓iop_or, ↓iop_xor, ↓iop_andn, Nat.reduceEqDiff, reduceIte, Nat.reduceAdd, Nat.reduceMul, Nat.reduceSub, Nat.reduceLT, Nat.reduceLeDiff]; rfl) | (simp only [go_sem, fz, List.length_set, ble_self, take_set, cond_true, cond_false, ↓iop_and, ↓iop_or, ↓iop_xor, ↓iop_andn, Nat.reduceEqDiff, reduceIte, Nat.reduceAdd, Nat.reduceMul, Nat.reduceSub, Nat.reduceLT, Nat.reduceLeDiff]; done) | (simp only [go_sem, fz, List.length_set, ble_self, take_set, cond_true, cond_false, ↓iop_and, ↓iop_or, ↓iop_xor, ↓iop_andn, Nat.reduceEqDiff, reduceIte, Nat.reduceAdd, Nat.reduceMul, Nat.reduceSub, Nat.reduceLT, Nat.reduceLeDiff]; rfl)) (bitmap_Clear_m { Traffic.z with Aids := [4] } 5 bx41) (fun _ => by repeat' (first | exact NoV.v _ | exact NoV.ref _ _ _ _ | exact NoV.onil | refine NoV.ocons ?_ ?_ | exact NoV.nil | refine NoV.tup ?_ | refine NoV.agg ?_ | refine NoV.rows (fun _ => ?_) _ | refine NoV.maps (fun _ => ?_) _ | refine NoV.cons ?_ ?_)) (by repeat' (first | exact NoV.v _ | exact NoV.ref _ _ _ _ | exact NoV.onil | refine NoV.ocons ?_ ?_ | exact NoV.nil | refine NoV.tup ?_ | refine NoV.agg ?_ | refine NoV.rows (fun _ => ?_) _ | refine NoV.maps (fun _ => ?_) _ | refine NoV.cons ?_ ?_)) ?_; try dsimp only
    try refine xw_id ?_
    try simp only [go_sem, ↓iop_and, ↓iop_or, ↓iop_xor, ↓iop_andn, Nat.reduceEqDiff, reduceIte, Nat.reduceAdd, Nat.reduceMul, Nat.reduceSub, Nat.reduceLT, Nat.reduceLeDiff]
    refine hKK _ (hotspotlaw33_BitmapNames_S17 x40 x41 x36 x37 x38 x39) (by refine Wk.canonD [] [] [some 5, some 8, some 15, some 18] rfl trivial rfl (tmOU 3 (tmOU 2 (tmOU 1 (tmOU 0 tmO0 rfl List.not_mem_nil (by simp only [upd_get, ↓iop_and, ↓iop_or, ↓iop_xor, ↓iop_andn, Nat.reduceEqDiff, reduceIte, Nat.reduceAdd, Nat.reduceMul, Nat.reduceSub, Nat.reduceLT, Nat.reduceLeDiff, if_true, if_false] <;> rfl) (e_Traffic_tmx (by rfl) (Tm.refL rfl ?_))) rfl List.not_mem_nil (by simp only [upd_get, ↓iop_and, ↓iop_or, ↓iop_xor, ↓iop_andn, Nat.reduceEqDiff, reduceIte, Nat.reduceAdd, Nat.reduceMul, Nat.reduceSub, Nat.reduceLT, Nat.reduceLeDiff, if_true, if_false] <;> rfl) (TmL.of_eq (by first | rfl | (simp only [List.flatMap_append, List.flatMap_cons, List.flatMap_nil, List.map_append, List.map_cons, List.map_nil, List.append_nil, List.nil_append]; done) | (simp only [List.flatMap_append, List.flatMap_cons, List.flatMap_nil, List.map_append, List.map_cons, List.map_nil, List.append_nil, List.nil_append]; rfl)) (vi_clean _))) rfl List.not_mem_nil (by simp only [upd_get, ↓iop_and, ↓iop_or, ↓iop_xor, ↓iop_andn, Nat.reduceEqDiff, reduceIte, Nat.reduceAdd, Nat.reduceMul, Nat.reduceSub, Nat.reduceLT, Nat.reduceLeDiff, if_true, if_false] <;> rfl) (e_Traffic_tmx (by rfl) (Tm.refL rfl ?_))) rfl List.not_mem_nil (by simp only [upd_get, ↓iop_and, ↓iop_or, ↓iop_xor, ↓iop_andn, Nat.reduceEqDiff, reduceIte, Nat.reduceAdd, Nat.reduceMul, Nat.reduceSub, Nat.reduceLT, Nat.reduceLeDiff, if_true, if_false] <;> rfl) (TmL.of_eq (by first | rfl | (simp only [List.flatMap_append, List.flatMap_cons, List.flatMap_nil, List.map_append, List.map_cons, List.map_nil, List.append_nil, List.nil_append]; done) | (simp only [List.flatMap_append, List.flatMap_cons, List.flatMap_nil, List.map_append, List.map_cons, List.map_nil, List.append_nil, List.nil_append]; rfl)) (vi_clean _))) (tmAllU 24 (tmAllU 23 (tmAllU 22 (tmAllU 21 (tmAllU 20 (tmAllU 18 (tmAllU 16 (tmAllU 14 tmAll0 (Tm.v _)) (Tm.v _)) (Tm.v _)) (Tm.v _)) (Tm.ptr rfl)) (Tm.v _)) (Tm.ptr rfl)) (Tm.v _)); all_goals (first | rfl | (simp only [List.length_take]; omega) | (simp only [List.length_append, List.length_cons, List.length_nil, List.length_modify, List.length_set, Nat.zero_add]; done) | (simp only [List.length_append, List.length_take, List.length_drop, List.length_cons, List.length_nil, List.length_modify, List.length_set, Nat.zero_add]; omega) | (simp only [List.length_append, List.length_take, List.length_drop, List.length_cons, List.length_nil, List.length_modify, List.length_set, Nat.zero_add]; done) | omega)) ?_; clear hKK KK
    unfold hotspotlaw33_BitmapNames_S17
    refine awp_nr [14,16,18,20,21,22,23,24] (fun _ => rfl) fun tz => ?_
    refine awp_regW fun KK hKK => ?_
    refine xw_id ?_
    try simp only [go_sem, ↓iop_and, ↓iop_or, ↓iop_xor, ↓iop_andn, Nat.reduceEqDiff, reduceIte, Nat.reduceAdd, Nat.reduceMul, Nat.reduceSub, Nat.reduceLT, Nat.reduceLeDiff]
    refine hKK _ _ (Wk.refl _ _ _) ?_; clear hKK KK
    refine awp_assoc ?_
    refine awp_nr [14,16,18,20,21,22,23,24,25] (fun _ => rfl) fun tz => ?_
    refine awp_regW fun KK hKK => ?_
    refine xw_id ?_
    try simp only [go_sem, ↓iop_and, ↓iop_or, ↓iop_xor, ↓iop_andn, Nat.reduceEqDiff, reduceIte, Nat.reduceAdd, Nat.reduceMul, Nat.reduceSub, Nat.reduceLT, Nat.reduceLeDiff]
    refine hKK _ _ (Wk.refl _ _ _) ?_; clear hKK KK
    obtain ⟨d42, hi19, h0⟩ := bnd h0
    refine awp_cut (fun z => d42 = z) (fun d42 : (List Int) => hotspotlaw33_BitmapNames_S18 x40 x41 x36 x37 x38 x39 d42) ?_ ?_
    ·
     refine awp_block1 ?_
     refine awp_loopS (fun n (d43 : (List Int × Int)) => hotspotlaw33_BitmapNames_L20 n d43 = some d42) (fun d43 : (List Int × Int) => hotspotlaw33_BitmapNames_S19 x40 x41 x36 x37 x38 x39 d43) big ([], 1) (by refine Wk.canonD [] [] [some 0, some 1, some 2, some 3, none] rfl trivial rfl (tmON 4 (tmOU 3 (tmOU 2 (tmOU 1 (tmOU 0 tmO0 rfl List.not_mem_nil (by simp only [upd_get, ↓iop_and, ↓iop_or, ↓iop_xor, ↓iop_andn, Nat.reduceEqDiff, reduceIte, Nat.reduceAdd, Nat.reduceMul, Nat.reduceSub, Nat.reduceLT, Nat.reduceLeDiff, if_true, if_false] <;> rfl) (e_Traffic_tmx (by rfl) (Tm.refL rfl ?_))) rfl List.not_mem_nil (by simp only [upd_get, ↓iop_and, ↓iop_or, ↓iop_xor, ↓iop_andn, Nat.reduceEqDiff, reduceIte, Nat.reduceAdd, Nat.reduceMul, Nat.reduceSub, Nat.reduceLT, Nat.reduceLeDiff, if_true, if_false] <;> rfl) (TmL.of_eq (by first | rfl | (simp only [List.flatMap_append, List.flatMap_cons, List.flatMap_nil, List.map_append, List.map_cons, List.map_nil, List.append_nil, List.nil_append]; done) | (simp only [List.flatMap_append, List.flatMap_cons, List.flatMap_nil, List.map_append, List.map_cons, List.map_nil, List.append_nil, List.nil_append]; rfl)) (vi_clean _))) rfl List.not_mem_nil (by simp only [upd_get, ↓iop_and, ↓iop_or, ↓iop_xor, ↓iop_andn, Nat.reduceEqDiff, reduceIte, Nat.reduceAdd, Nat.reduceMul, Nat.reduceSub, Nat.reduceLT, Nat.reduceLeDiff, if_true, if_false] <;> rfl) (e_Traffic_tmx (by rfl) (Tm.refL rfl ?_))) rfl List.not_mem_nil (by simp only [upd_get, ↓iop_and, ↓iop_or, ↓iop_xor, ↓iop_andn, Nat.reduceEqDiff, reduceIte, Nat.reduceAdd, Nat.reduceMul, Nat.reduceSub, Nat.reduceLT, Nat.reduceLeDiff, if_true, if_false] <;> rfl) (TmL.of_eq (by first | rfl | (simp only [List.flatMap_append, List.flatMap_cons, List.flatMap_nil, List.map_append, List.map_cons, List.map_nil, List.append_nil, List.nil_append]; done) | (simp only [List.flatMap_append, List.flatMap_cons, List.flatMap_nil, List.map_append, List.map_cons, List.map_nil, List.append_nil, List.nil_append]; rfl)) (vi_clean _))) rfl) (tmAllU 26 (tmAllU 25 (tmAllU 24 (tmAllU 23 (tmAllU 22 (tmAllU 21 (tmAllU 20 (tmAllU 18 (tmAllU 16 (tmAllU 14 tmAll0 (Tm.v _)) (Tm.v _)) (Tm.v _)) (Tm.v _)) (Tm.ptr rfl)) (Tm.v _)) (Tm.ptr rfl)) (Tm.v _)) (Tm.thaw _ _ _)) (Tm.v _)); all_goals (first | rfl | (simp only [List.length_take]; omega) | (simp only [List.length_append, List.length_cons, List.length_nil, List.length_modify, List.length_set, Nat.zero_add]; done) | (simp only [List.length_append, List.length_take, List.length_drop, List.length_cons, List.length_nil, List.length_modify, List.length_set, Nat.zero_add]; omega) | (simp only [List.length_append, List.length_take, List.length_drop, List.length_cons, List.length_nil, List.length_modify, List.length_set, Nat.zero_add]; done) | omega)) hi19 ?_
     clear hi19
     rintro n d43 hl21
     rcases n with _ | n20
     ·
      (rw [hotspotlaw33_BitmapNames_L20] at hl21; cases hl21)
     ·
      rw [hotspotlaw33_BitmapNames_L20] at hl21
      unfold hotspotlaw33_BitmapNames_S19
      refine awp_assoc ?_
      refine awp_nr [14,16,18,20,21,22,23,24,25,26] (fun _ => rfl) fun tz => ?_
      refine awp_regW fun KK hKK => ?_
      refine xw_id ?_
      try simp only [go_sem, ↓iop_and, ↓iop_or, ↓iop_xor, ↓iop_andn, Nat.reduceEqDiff, reduceIte, Nat.reduceAdd, Nat.reduceMul, Nat.reduceSub, Nat.reduceLT, Nat.reduceLeDiff]
      refine hKK _ _ (Wk.refl _ _ _) ?_; clear hKK KK
      refine awp_cond (b := (decide (d43.2 ≤ 255))) rfl (fun h22 => ?_) (fun h22 => ?_)
      ·
       have hl21 := cT hl21 h22
       refine awp_skip ?_
       refine awp_blockW ?_
       refine awp_nr1 [14,16,18,20,21,22,23,24,25,26] (fun _ => rfl) fun tz => ?_
       refine awp_reg1 fun KK hKK => ?_
       refine xw_id ?_
       obtain ⟨x44, bx44, hl21⟩ := bnd hl21
       have bx44 := chk_some bx44
       simp only [Bool.and_eq_true, decide_eq_true_eq] at bx44
       have gx44_0 := bx44
       try simp only [go_sem, ↓iop_and, ↓iop_or, ↓iop_xor, ↓iop_andn, Nat.reduceEqDiff, reduceIte, Nat.reduceAdd, Nat.reduceMul, Nat.reduceSub, Nat.reduceLT, Nat.reduceLeDiff, Int.reduceToNat, Int.reduceBEq, Int.reduceBNe, Int.reduceLT, Int.reduceLE, Int.reduceAdd, Int.reduceSub, Int.reduceMul, Int.reduceNeg, Int.reduceEq, Int.reduceNe, gx44_0]
       refine hKK _ ?_; clear hKK KK
       refine bq_n ?_
       refine seqW_i ?_
       refine awp_nr1 [14,16,18,20,21,22,23,24,25,26] (fun _ => rfl) fun tz => ?_
       refine awp_reg1 fun KK hKK => ?_
       refine xw_id ?_
       try simp only [go_sem, ↓iop_and, ↓iop_or, ↓iop_xor, ↓iop_andn, Nat.reduceEqDiff, reduceIte, Nat.reduceAdd, Nat.reduceMul, Nat.reduceSub, Nat.reduceLT, Nat.reduceLeDiff]
       refine hKK _ ?_; clear hKK KK
       refine lq_n ?_
       exact ⟨n20, ((d43.1 ++ [d43.2]), IntKind.wrap .i64 (d43.2 + 1)), rfl, hl21, (by refine Wk.canonD [] [] [some 0, some 1, some 2, some 3, some 10] rfl trivial rfl (tmOU 4 (tmOU 3 (tmOU 2 (tmOU 1 (tmOU 0 tmO0 rfl List.not_mem_nil (by simp only [upd_get, ↓iop_and, ↓iop_or, ↓iop_xor, ↓iop_andn, Nat.reduceEqDiff, reduceIte, Nat.reduceAdd, Nat.reduceMul, Nat.reduceSub, Nat.reduceLT, Nat.reduceLeDiff, if_true, if_false] <;> rfl) (e_Traffic_tmx (by rfl) (Tm.refL rfl ?_))) rfl List.not_mem_nil (by simp only [upd_get, ↓iop_and, ↓iop_or, ↓iop_xor, ↓iop_andn, Nat.reduceEqDiff, reduceIte, Nat.reduceAdd, Nat.reduceMul, Nat.reduceSub, Nat.reduceLT, Nat.reduceLeDiff, if_true, if_false] <;> rfl) (TmL.of_eq (by first | rfl | (simp only [List.flatMap_append, List.flatMap_cons, List.flatMap_nil, List.map_append, List.map_cons, List.map_nil, List.append_nil, List.nil_append]; done) | (simp only [List.flatMap_append, List.flatMap_cons, List.flatMap_nil, List.map_append, List.map_cons, List.map_nil, List.append_nil, List.nil_append]; rfl)) (vi_clean _))) rfl List.not_mem_nil (by simp only [upd_get, ↓iop_and, ↓iop_or, ↓iop_xor, ↓iop_andn, Nat.reduceEqDiff, reduceIte, Nat.reduceAdd, Nat.reduceMul, Nat.reduceSub, Nat.reduceLT, Nat.reduceLeDiff, if_true, if_false] <;> rfl) (e_Traffic_tmx (by rfl) (Tm.refL rfl ?_))) rfl List.not_mem_nil (by simp only [upd_get, ↓iop_and, ↓iop_or, ↓iop_xor, ↓iop_andn, Nat.reduceEqDiff, reduceIte, Nat.reduceAdd, Nat.reduceMul, Nat.reduceSub, Nat.reduceLT, Nat.reduceLeDiff, if_true, if_false] <;> rfl) (TmL.of_eq (by first | rfl | (simp only [List.flatMap_append, List.flatMap_cons, List.flatMap_nil, List.map_append, List.map_cons, List.map_nil, List.append_nil, List.nil_append]; done) | (simp only [List.flatMap_append, List.flatMap_cons, List.flatMap_nil, List.map_append, List.map_cons, List.map_nil, List.append_nil, List.nil_append]; rfl)) (vi_clean _))) rfl List.not_mem_nil (by simp only [upd_get, ↓iop_and, ↓iop_or, ↓iop_xor, ↓iop_andn, Nat.reduceEqDiff, reduceIte, Nat.reduceAdd, Nat.reduceMul, Nat.reduceSub, Nat.reduceLT, Nat.reduceLeDiff, if_true, if_false] <;> rfl) (TmL.of_eq (by first | rfl | (simp only [List.flatMap_append, List.flatMap_cons, List.flatMap_nil, List.map_append, List.map_cons, List.map_nil, List.append_nil, List.nil_append]; done) | (simp only [List.flatMap_append, List.flatMap_cons, List.flatMap_nil, List.map_append, List.map_cons, List.map_nil, List.append_nil, List.nil_append]; rfl)) (vi_clean _))) (tmAllU 26 (tmAllU 25 (tmAllU 24 (tmAllU 23 (tmAllU 22 (tmAllU 21 (tmAllU 20 (tmAllU 18 (tmAllU 16 (tmAllU 14 tmAll0 (Tm.v _)) (Tm.v _)) (Tm.v _)) (Tm.v _)) (Tm.ptr rfl)) (Tm.v _)) (Tm.ptr rfl)) (Tm.v _)) (Tm.refL rfl ?_)) (Tm.v _)); all_goals (first | rfl | (simp only [List.length_take]; omega) | (simp only [List.length_append, List.length_cons, List.length_nil, List.length_modify, List.length_set, Nat.zero_add]; done) | (simp only [List.length_append, List.length_take, List.length_drop, List.length_cons, List.length_nil, List.length_modify, List.length_set, Nat.zero_add]; omega) | (simp only [List.length_append, List.length_take, List.length_drop, List.length_cons, List.length_nil, List.length_modify, List.length_set, Nat.zero_add]; done) | omega))⟩
      ·
       have hl21 := cF hl21 h22
       refine awp_exit ?_
       refine lq_e ?_
       refine bq_e ?_
       refine sq_n ?_
       obtain rfl := someInj hl21
       exact ⟨_, rfl, (by refine Wk.canonD [] [] [some 0, some 1, some 2, some 3, some 4] rfl trivial rfl (tmOU 4 (tmOU 3 (tmOU 2 (tmOU 1 (tmOU 0 tmO0 rfl List.not_mem_nil (by simp only [upd_get, ↓iop_and, ↓iop_or, ↓iop_xor, ↓iop_andn, Nat.reduceEqDiff, reduceIte, Nat.reduceAdd, Nat.reduceMul, Nat.reduceSub, Nat.reduceLT, Nat.reduceLeDiff, if_true, if_false] <;> rfl) (e_Traffic_tmx (by rfl) (Tm.refL rfl ?_))) rfl List.not_mem_nil (by simp only [upd_get, ↓iop_and, ↓iop_or, ↓iop_xor, ↓iop_andn, Nat.reduceEqDiff, reduceIte, Nat.reduceAdd, Nat.reduceMul, Nat.reduceSub, Nat.reduceLT, Nat.reduceLeDiff, if_true, if_false] <;> rfl) (TmL.of_eq (by first | rfl | (simp only [List.flatMap_append, List.flatMap_cons, List.flatMap_nil, List.map_append, List.map_cons, List.map_nil, List.append_nil, List.nil_append]; done) | (simp only [List.flatMap_append, List.flatMap_cons, List.flatMap_nil, List.map_append, List.map_cons, List.map_nil, List.append_nil, List.nil_append]; rfl)) (vi_clean _))) rfl List.not_mem_nil (by simp only [upd_get, ↓iop_and, ↓iop_or, ↓iop_xor, ↓iop_andn, Nat.reduceEqDiff, reduceIte, Nat.reduceAdd, Nat.reduceMul, Nat.reduceSub, Nat.reduceLT, Nat.reduceLeDiff, if_true, if_false] <;> rfl) (e_Traffic_tmx (by rfl) (Tm.refL rfl ?_))) rfl List.not_mem_nil (by simp only [upd_get, ↓iop_and, ↓iop_or, ↓iop_xor, ↓iop_andn, Nat.reduceEqDiff, reduceIte, Nat.reduceAdd, Nat.reduceMul, Nat.reduceSub, Nat.reduceLT, Nat.reduceLeDiff, if_true, if_false] <;> rfl) (TmL.of_eq (by first | rfl | (simp only [List.flatMap_append, List.flatMap_cons, List.flatMap_nil, List.map_append, List.map_cons, List.map_nil, List.append_nil, List.nil_append]; done) | (simp only [List.flatMap_append, List.flatMap_cons, List.flatMap_nil, List.map_append, List.map_cons, List.map_nil, List.append_nil, List.nil_append]; rfl)) (vi_clean _))) rfl List.not_mem_nil (by simp only [upd_get, ↓iop_and, ↓iop_or, ↓iop_xor, ↓iop_andn, Nat.reduceEqDiff, reduceIte, Nat.reduceAdd, Nat.reduceMul, Nat.reduceSub, Nat.reduceLT, Nat.reduceLeDiff, if_true, if_false] <;> rfl) (TmL.of_eq (by first | rfl | (simp only [List.flatMap_append, List.flatMap_cons, List.flatMap_nil, List.map_append, List.map_cons, List.map_nil, List.append_nil, List.nil_append]; done) | (simp only [List.flatMap_append, List.flatMap_cons, List.flatMap_nil, List.map_append, List.map_cons, List.map_nil, List.append_nil, List.nil_append]; rfl)) (vi_clean _))) (tmAllU 25 (tmAllU 24 (tmAllU 23 (tmAllU 22 (tmAllU 21 (tmAllU 20 (tmAllU 18 (tmAllU 16 (tmAllU 14 tmAll0 (Tm.v _)) (Tm.v _)) (Tm.v _)) (Tm.v _)) (Tm.ptr rfl)) (Tm.v _)) (Tm.ptr rfl)) (Tm.v _)) (Tm.refL rfl ?_)); all_goals (first | rfl | (simp only [List.length_take]; omega) | (simp only [List.length_append, List.length_cons, List.length_nil, List.length_modify, List.length_set, Nat.zero_add]; done) | (simp only [List.length_append, List.length_take, List.length_drop, List.length_cons, List.length_nil, List.length_modify, List.length_set, Nat.zero_add]; omega) | (simp only [List.length_append, List.length_take, List.length_drop, List.length_cons, List.length_nil, List.length_modify, List.length_set, Nat.zero_add]; done) | omega))⟩
    ·
     rintro _ rfl
     clear hi19
     unfold hotspotlaw33_BitmapNames_S18
     refine awp_nr [14,16,18,20,21,22,23,24,25] (fun _ => rfl) fun tz => ?_
     refine awp_regW fun KK hKK => ?_
     refine xw_id ?_
     obtain ⟨x45, bx45, h0⟩ := bnd h0
     try simp only [go_sem, ↓iop_and, ↓iop_or, ↓iop_xor, ↓iop_andn, Nat.reduceEqDiff, reduceIte, Nat.reduceAdd, Nat.reduceMul, Nat.reduceSub, Nat.reduceLT, Nat.reduceLeDiff]
     have gl23 : (d42).length = d42.length := by first | rfl | (simp only [List.length_append, List.length_take, List.length_drop, List.length_cons, List.length_nil, List.length_modify, List.length_set, Nat.zero_add]; done) | (simp only [List.length_append, List.length_take, List.length_drop, List.length_cons, List.length_nil, List.length_modify, List.length_set, Nat.zero_add]; omega)
     refine xcall_ML (by first | (simp only [go_sem, fz, nilS, cond_true, cond_false, ↓iop_and, ↓iop_or, ↓iop_xor, ↓iop_andn, Nat.reduceEqDiff, reduceIte, Nat.reduceAdd, Nat.reduceMul, Nat.reduceSub, Nat.reduceLT, Nat.reduceLeDiff, gl23]; done) | (simp only [go_sem, fz, nilS, cond_true, cond_false, ↓iop_and, ↓iop_or, ↓iop_xor, ↓iop_andn, Nat.reduceEqDiff, reduceIte, Nat.reduceAdd, Nat.reduceMul, Nat.reduceSub, Nat.reduceLT, Nat.reduceLeDiff, gl23]; rfl) | (simp only [go_sem, fz, List.length_set, ble_self, take_set, cond_true, cond_false, ↓iop_and, ↓iop_or, ↓iop_xor, ↓iop_andn, Nat.reduceEqDiff, reduceIte, Nat.reduceAdd, Nat.reduceMul, Nat.reduceSub, Nat.reduceLT, Nat.reduceLeDiff, gl23]; done) | (simp only [go_sem, fz, List.length_set, ble_self, take_set, cond_true, cond_false, ↓iop_and, ↓iop_or, ↓iop_xor, ↓iop_andn, Nat.reduceEqDiff, reduceIte, Nat.reduceAdd, Nat.reduceMul, Nat.reduceSub, Nat.reduceLT, Nat.reduceLeDiff, gl23]; rfl)) (bitmap_Encode_m { Traffic.z with Aids := d42 } bx45) (fun _ => by repeat' (first | exact NoV.v _ | exact NoV.ref _ _ _ _ | exact NoV.onil | refine NoV.ocons ?_ ?_ | exact NoV.nil | refine NoV.tup ?_ | refine NoV.agg ?_ | refine NoV.rows (fun _ => ?_) _ | refine NoV.maps (fun _ => ?_) _ | refine NoV.cons ?_ ?_)) (by repeat' (first | exact NoV.v _ | exact NoV.ref _ _ _ _ | exact NoV.onil | refine NoV.ocons ?_ ?_ | exact NoV.nil | refine NoV.tup ?_ | refine NoV.agg ?_ | refine NoV.rows (fun _ => ?_) _ | refine NoV.maps (fun _ => ?_) _ | refine NoV.cons ?_ ?_)) ?_; try dsimp only
     try refine xw_id ?_
     try simp only [go_sem, ↓iop_and, ↓iop_or, ↓iop_xor, ↓iop_andn, Nat.reduceEqDiff, reduceIte, Nat.reduceAdd, Nat.reduceMul, Nat.reduceSub, Nat.reduceLT, Nat.reduceLeDiff]
     refine hKK _ _ (Wk.refl _ _ _) ?_; clear hKK KK
     refine awp_nr [14,16,18,20,21,22,23,24,27,28] (fun _ => rfl) fun tz => ?_
     refine awp_regW fun KK hKK => ?_
     refine xw_id ?_
     obtain ⟨x46, bx46, h0⟩ := bnd h0
     try simp only [go_sem, ↓iop_and, ↓iop_or, ↓iop_xor, ↓iop_andn, Nat.reduceEqDiff, reduceIte, Nat.reduceAdd, Nat.reduceMul, Nat.reduceSub, Nat.reduceLT, Nat.reduceLeDiff]
     refine xcall_L (by first | (simp only [go_sem, fz, ↓iop_and, ↓iop_or, ↓iop_xor, ↓iop_andn, Nat.reduceEqDiff, reduceIte, Nat.reduceAdd, Nat.reduceMul, Nat.reduceSub, Nat.reduceLT, Nat.reduceLeDiff]; done) | (simp only [go_sem, fz, ↓iop_and, ↓iop_or, ↓iop_xor, ↓iop_andn, Nat.reduceEqDiff, reduceIte, Nat.reduceAdd, Nat.reduceMul, Nat.reduceSub, Nat.reduceLT, Nat.reduceLeDiff]; rfl) | (simp only [go_sem, fz, List.length_set, ble_self, take_set, cond_true, cond_false, ↓iop_and, ↓iop_or, ↓iop_xor, ↓iop_andn, Nat.reduceEqDiff, reduceIte, Nat.reduceAdd, Nat.reduceMul, Nat.reduceSub, Nat.reduceLT, Nat.reduceLeDiff]; done) | (simp only [go_sem, fz, List.length_set, ble_self, take_set, cond_true, cond_false, ↓iop_and, ↓iop_or, ↓iop_xor, ↓iop_andn, Nat.reduceEqDiff, reduceIte, Nat.reduceAdd, Nat.reduceMul, Nat.reduceSub, Nat.reduceLT, Nat.reduceLeDiff]; rfl)) (bitmap_Check_p { Traffic.z with Aids := [2, 2] } bx46) (Bare.v _) ?_; try dsimp only
     try refine xw_id ?_
     rcases Bool.eq_false_or_eq_true (x46 == 8) with h24 | h24
     ·
      have h0 := cT h0 h24
      obtain ⟨x47, bx47, h0⟩ := bnd h0
      try simp only [go_sem, ↓iop_and, ↓iop_or, ↓iop_xor, ↓iop_andn, Nat.reduceEqDiff, reduceIte, Nat.reduceAdd, Nat.reduceMul, Nat.reduceSub, Nat.reduceLT, Nat.reduceLeDiff, h24]
      refine xcall_L (by first | (simp only [go_sem, fz, ↓iop_and, ↓iop_or, ↓iop_xor, ↓iop_andn, Nat.reduceEqDiff, reduceIte, Nat.reduceAdd, Nat.reduceMul, Nat.reduceSub, Nat.reduceLT, Nat.reduceLeDiff, h24]; done) | (simp only [go_sem, fz, ↓iop_and, ↓iop_or, ↓iop_xor, ↓iop_andn, Nat.reduceEqDiff, reduceIte, Nat.reduceAdd, Nat.reduceMul, Nat.reduceSub, Nat.reduceLT, Nat.reduceLeDiff, h24]; rfl) | (simp only [go_sem, fz, List.length_set, ble_self, take_set, cond_true, cond_false, ↓iop_and, ↓iop_or, ↓iop_xor, ↓iop_andn, Nat.reduceEqDiff, reduceIte, Nat.reduceAdd, Nat.reduceMul, Nat.reduceSub, Nat.reduceLT, Nat.reduceLeDiff, h24]; done) | (simp only [go_sem, fz, List.length_set, ble_self, take_set, cond_true, cond_false, ↓iop_and, ↓iop_or, ↓iop_xor, ↓iop_andn, Nat.reduceEqDiff, reduceIte, Nat.reduceAdd, Nat.reduceMul, Nat.reduceSub, Nat.reduceLT, Nat.reduceLeDiff, h24]; rfl)) (bitmap_Check_p { Traffic.z with Aids := [256] } bx47) (Bare.v _) ?_; try dsimp only
      try refine xw_id ?_
      rcases Bool.eq_false_or_eq_true (x47 == 8) with h25 | h25
      ·
       have h0 := cT h0 h25
       obtain ⟨x48, bx48, h0⟩ := bnd h0
       try simp only [go_sem, ↓iop_and, ↓iop_or, ↓iop_xor, ↓iop_andn, Nat.reduceEqDiff, reduceIte, Nat.reduceAdd, Nat.reduceMul, Nat.reduceSub, Nat.reduceLT, Nat.reduceLeDiff, h24, h25]
       refine xcall_L (by first | (simp only [go_sem, fz, ↓iop_and, ↓iop_or, ↓iop_xor, ↓iop_andn, Nat.reduceEqDiff, reduceIte, Nat.reduceAdd, Nat.reduceMul, Nat.reduceSub, Nat.reduceLT, Nat.reduceLeDiff, h24, h25]; done) | (simp only [go_sem, fz, ↓iop_and, ↓iop_or, ↓iop_xor, ↓iop_andn, Nat.reduceEqDiff, reduceIte, Nat.reduceAdd, Nat.reduceMul, Nat.reduceSub, Nat.reduceLT, Nat.reduceLeDiff, h24, h25]; rfl) | (simp only [go_sem, fz, List.length_set, ble_self, take_set, cond_true, cond_false, ↓iop_and, ↓iop_or, ↓iop_xor, ↓iop_andn, Nat.reduceEqDiff, reduceIte, Nat.reduceAdd, Nat.reduceMul, Nat.reduceSub, Nat.reduceLT, Nat.reduceLeDiff, h24, h25]; done) | (simp only [go_sem, fz, List.length_set, ble_self, take_set, cond_true, cond_false, ↓iop_and, ↓iop_or, ↓iop_xor, ↓iop_andn, Nat.reduceEqDiff, reduceIte, Nat.reduceAdd, Nat.reduceMul, Nat.reduceSub, Nat.reduceLT, Nat.reduceLeDiff, h24, h25]; rfl)) (bitmap_Has_p { Traffic.z with Aids := [2, 1] } 1 bx48) (Bare.v _) ?_; try dsimp only
       try refine xw_id ?_
       try simp only [go_sem, ↓iop_and, ↓iop_or, ↓iop_xor, ↓iop_andn, Nat.reduceEqDiff, reduceIte, Nat.reduceAdd, Nat.reduceMul, Nat.reduceSub, Nat.reduceLT, Nat.reduceLeDiff, h24, h25]
       refine hKK _ (hotspotlaw33_BitmapNames_S21 x40 x41 x45 x36 x37 x38 x39 x48) (by refine Wk.canonD [] [] [some 0, some 1, some 2, some 3, some 13] rfl trivial rfl (tmOU 4 (tmOU 3 (tmOU 2 (tmOU 1 (tmOU 0 tmO0 rfl List.not_mem_nil (by simp only [upd_get, ↓iop_and, ↓iop_or, ↓iop_xor, ↓iop_andn, Nat.reduceEqDiff, reduceIte, Nat.reduceAdd, Nat.reduceMul, Nat.reduceSub, Nat.reduceLT, Nat.reduceLeDiff, if_true, if_false] <;> rfl) (e_Traffic_tmx (by rfl) (Tm.refL rfl ?_))) rfl List.not_mem_nil (by simp only [upd_get, ↓iop_and, ↓iop_or, ↓iop_xor, ↓iop_andn, Nat.reduceEqDiff, reduceIte, Nat.reduceAdd, Nat.reduceMul, Nat.reduceSub, Nat.reduceLT, Nat.reduceLeDiff, if_true, if_false] <;> rfl) (TmL.of_eq (by first | rfl | (simp only [List.flatMap_append, List.flatMap_cons, List.flatMap_nil, List.map_append, List.map_cons, List.map_nil, List.append_nil, List.nil_append]; done) | (simp only [List.flatMap_append, List.flatMap_cons, List.flatMap_nil, List.map_append, List.map_cons, List.map_nil, List.append_nil, List.nil_append]; rfl)) (vi_clean _))) rfl List.not_mem_nil (by simp only [upd_get, ↓iop_and, ↓iop_or, ↓iop_xor, ↓iop_andn, Nat.reduceEqDiff, reduceIte, Nat.reduceAdd, Nat.reduceMul, Nat.reduceSub, Nat.reduceLT, Nat.reduceLeDiff, if_true, if_false] <;> rfl) (e_Traffic_tmx (by rfl) (Tm.refL rfl ?_))) rfl List.not_mem_nil (by simp only [upd_get, ↓iop_and, ↓iop_or, ↓iop_xor, ↓iop_andn, Nat.reduceEqDiff, reduceIte, Nat.reduceAdd, Nat.reduceMul, Nat.reduceSub, Nat.reduceLT, Nat.reduceLeDiff, if_true, if_false] <;> rfl) (TmL.of_eq (by first | rfl | (simp only [List.flatMap_append, List.flatMap_cons, List.flatMap_nil, List.map_append, List.map_cons, List.map_nil, List.append_nil, List.nil_append]; done) | (simp only [List.flatMap_append, List.flatMap_cons, List.flatMap_nil, List.map_append, List.map_cons, List.map_nil, List.append_nil, List.nil_append]; rfl)) (vi_clean _))) rfl List.not_mem_nil (by simp only [upd_get, ↓iop_and, ↓iop_or, ↓iop_xor, ↓iop_andn, Nat.reduceEqDiff, reduceIte, Nat.reduceAdd, Nat.reduceMul, Nat.reduceSub, Nat.reduceLT, Nat.reduceLeDiff, if_true, if_false] <;> rfl) (TmL.of_eq (by first | rfl | (simp only [List.flatMap_append, List.flatMap_cons, List.flatMap_nil, List.map_append, List.map_cons, List.map_nil, List.append_nil, List.nil_append]; done) | (simp only [List.flatMap_append, List.flatMap_cons, List.flatMap_nil, List.map_append, List.map_cons, List.map_nil, List.append_nil, List.nil_append]; rfl)) (vu_clean _))) (tmAllU 29 (tmAllU 28 (tmAllU 27 (tmAllU 24 (tmAllU 23 (tmAllU 22 (tmAllU 21 (tmAllU 20 (tmAllU 18 (tmAllU 16 (tmAllU 14 tmAll0 (Tm.v _)) (Tm.v _)) (Tm.v _)) (Tm.v _)) (Tm.ptr rfl)) (Tm.v _)) (Tm.ptr rfl)) (Tm.v _)) (Tm.refL rfl ?_)) (Tm.v _)) (Tm.v _)); all_goals (first | rfl | (simp only [List.length_take]; omega) | (simp only [List.length_append, List.length_cons, List.length_nil, List.length_modify, List.length_set, Nat.zero_add]; done) | (simp only [List.length_append, List.length_take, List.length_drop, List.length_cons, List.length_nil, List.length_modify, List.length_set, Nat.zero_add]; omega) | (simp only [List.length_append, List.length_take, List.length_drop, List.length_cons, List.length_nil, List.length_modify, List.length_set, Nat.zero_add]; done) | omega)) ?_; clear hKK KK
       unfold hotspotlaw33_BitmapNames_S21
       refine awp_nr [14,16,18,20,21,22,23,24,27,28,29] (fun _ => rfl) fun tz => ?_
       refine awp_regW fun KK hKK => ?_
       refine xw_id ?_
       try simp only [List.append_eq, Array.toList_append, List.append_toArray, List.toList_toArray, List.cons_append, List.nil_append]
       obtain ⟨x49, bx49, h0⟩ := bnd h0
       try simp only [go_sem, ↓iop_and, ↓iop_or, ↓iop_xor, ↓iop_andn, Nat.reduceEqDiff, reduceIte, Nat.reduceAdd, Nat.reduceMul, Nat.reduceSub, Nat.reduceLT, Nat.reduceLeDiff]
       refine xcall_p (hotspotlaw33_alive_p  bx49) ?_; try dsimp only
       try refine xw_id ?_
       refine xw_stop 2 (by (try simp only [go_sem]); rfl) (by (try simp only [go_sem]); rfl) (by rfl) fun K1 hK1 => ?_
       refine xw_id ?_
       try simp only [go_sem, ↓iop_and, ↓iop_or, ↓iop_xor, ↓iop_andn, Nat.reduceEqDiff, reduceIte, Nat.reduceAdd, Nat.reduceMul, Nat.reduceSub, Nat.reduceLT, Nat.reduceLeDiff]
       refine hK1 _ ?_; clear hK1 K1
       refine xw_cut 3 [(16, (vi x37.2)), (18, (vi x38.2)), (20, (vi x39.2)), (21, (.ptr 0 0)), (22, (vi x40.2)), (23, (.ptr 2 0)), (24, (vi x41.2)), (27, (.ref 4 0 x45.1.length 1)), (28, (vi x45.2)), (29, (vb (!x48))), (179, (vb (x49 && (x36.2 == 2))))] (by (try simp only [go_sem]); rfl) (by (try simp only [go_sem]); rfl) (by rfl) (fun K1 hK1 => ?_) fun tz => ?_
       ·
        refine xw_id ?_
        rcases Bool.eq_false_or_eq_true x49 with h26 | h26
        ·
         try simp only [go_sem, ↓iop_and, ↓iop_or, ↓iop_xor, ↓iop_andn, Nat.reduceEqDiff, reduceIte, Nat.reduceAdd, Nat.reduceMul, Nat.reduceSub, Nat.reduceLT, Nat.reduceLeDiff, h26]
         exact hK1 _ ⟨rfl, rfl, rfl, rfl, rfl, rfl, rfl, rfl, rfl, rfl, rfl, (by first | rfl | (rw [h26]; rfl) | (simp only [h26, Bool.true_and, Bool.false_and, Bool.true_or, Bool.false_or, cond_true, cond_false]; done)), trivial⟩
        ·
         try simp only [go_sem, ↓iop_and, ↓iop_or, ↓iop_xor, ↓iop_andn, Nat.reduceEqDiff, reduceIte, Nat.reduceAdd, Nat.reduceMul, Nat.reduceSub, Nat.reduceLT, Nat.reduceLeDiff, h26]
         exact hK1 _ ⟨rfl, rfl, rfl, rfl, rfl, rfl, rfl, rfl, rfl, rfl, rfl, (by first | rfl | (rw [h26]; rfl) | (simp only [h26, Bool.true_and, Bool.false_and, Bool.true_or, Bool.false_or, cond_true, cond_false]; done)), trivial⟩
       ·
        refine xw_id ?_
        refine xw_stop 1 (by (try simp only [go_sem]); rfl) (by (try simp only [go_sem]); rfl) (by rfl) fun K1 hK1 => ?_
        refine xw_id ?_
        try simp only [go_sem, ↓iop_and, ↓iop_or, ↓iop_xor, ↓iop_andn, Nat.reduceEqDiff, reduceIte, Nat.reduceAdd, Nat.reduceMul, Nat.reduceSub, Nat.reduceLT, Nat.reduceLeDiff]
        refine hK1 _ ?_; clear hK1 K1
        refine xw_cut 3 [(18, (vi x38.2)), (20, (vi x39.2)), (21, (.ptr 0 0)), (22, (vi x40.2)), (23, (.ptr 2 0)), (24, (vi x41.2)), (27, (.ref 4 0 x45.1.length 1)), (28, (vi x45.2)), (29, (vb (!x48))), (183, (vb ((x49 && (x36.2 == 2)) && (x37.2 == 8))))] (by (try simp only [go_sem]); rfl) (by (try simp only [go_sem]); rfl) (by rfl) (fun K1 hK1 => ?_) fun tz => ?_
        ·
         refine xw_id ?_
         rcases Bool.eq_false_or_eq_true (x49 && (x36.2 == 2)) with h27 | h27
         ·
          have h27_0 : (x49) = true := by simp only [Bool.and_eq_true] at h27; exact h27.1
          have h27_1 : (x36.2 == 2) = true := by simp only [Bool.and_eq_true] at h27; exact h27.2
          try simp only [go_sem, ↓iop_and, ↓iop_or, ↓iop_xor, ↓iop_andn, Nat.reduceEqDiff, reduceIte, Nat.reduceAdd, Nat.reduceMul, Nat.reduceSub, Nat.reduceLT, Nat.reduceLeDiff, h27, h27_0, h27_1]
          exact hK1 _ ⟨rfl, (by first | rfl | (rw [h27_0]; rfl) | (rw [h27_1]; rfl)), (by first | rfl | (rw [h27_0]; rfl) | (rw [h27_1]; rfl)), (by first | rfl | (rw [h27_0]; rfl) | (rw [h27_1]; rfl)), (by first | rfl | (rw [h27_0]; rfl) | (rw [h27_1]; rfl)), (by first | rfl | (rw [h27_0]; rfl) | (rw [h27_1]; rfl)), (by first | rfl | (rw [h27_0]; rfl) | (rw [h27_1]; rfl)), (by first | rfl | (rw [h27_0]; rfl) | (rw [h27_1]; rfl)), (by first | rfl | (rw [h27_0]; rfl) | (rw [h27_1]; rfl)), (by first | rfl | (rw [h27_0]; rfl) | (rw [h27_1]; rfl)), (by first | rfl | (rw [h27]; rfl) | (simp only [h27, Bool.true_and, Bool.false_and, Bool.true_or, Bool.false_or, cond_true, cond_false]; done)), trivial⟩
         ·
          try simp only [go_sem, ↓iop_and, ↓iop_or, ↓iop_xor, ↓iop_andn, Nat.reduceEqDiff, reduceIte, Nat.reduceAdd, Nat.reduceMul, Nat.reduceSub, Nat.reduceLT, Nat.reduceLeDiff, h27]
          exact hK1 _ ⟨rfl, rfl, rfl, rfl, rfl, rfl, rfl, rfl, rfl, rfl, (by first | rfl | (rw [h27]; rfl) | (simp only [h27, Bool.true_and, Bool.false_and, Bool.true_or, Bool.false_or, cond_true, cond_false]; done)), trivial⟩
        ·
         refine xw_id ?_
         refine xw_stop 1 (by (try simp only [go_sem]); rfl) (by (try simp only [go_sem]); rfl) (by rfl) fun K1 hK1 => ?_
         refine xw_id ?_
         try simp only [go_sem, ↓iop_and, ↓iop_or, ↓iop_xor, ↓iop_andn, Nat.reduceEqDiff, reduceIte, Nat.reduceAdd, Nat.reduceMul, Nat.reduceSub, Nat.reduceLT, Nat.reduceLeDiff]
         refine hK1 _ ?_; clear hK1 K1
         refine xw_cut 3 [(20, (vi x39.2)), (21, (.ptr 0 0)), (22, (vi x40.2)), (23, (.ptr 2 0)), (24, (vi x41.2)), (27, (.ref 4 0 x45.1.length 1)), (28, (vi x45.2)), (29, (vb (!x48))), (187, (vb (((x49 && (x36.2 == 2)) && (x37.2 == 8)) && (x38.2 == 2))))] (by (try simp only [go_sem]); rfl) (by (try simp only [go_sem]); rfl) (by rfl) (fun K1 hK1 => ?_) fun tz => ?_
         ·
          refine xw_id ?_
          rcases Bool.eq_false_or_eq_true ((x49 && (x36.2 == 2)) && (x37.2 == 8)) with h28 | h28
          ·
           have h28_0 : (x49) = true := by simp only [Bool.and_eq_true] at h28; exact h28.1.1
           have h28_1 : (x36.2 == 2) = true := by simp only [Bool.and_eq_true] at h28; exact h28.1.2
           have h28_2 : (x37.2 == 8) = true := by simp only [Bool.and_eq_true] at h28; exact h28.2
           try simp only [go_sem, ↓iop_and, ↓iop_or, ↓iop_xor, ↓iop_andn, Nat.reduceEqDiff, reduceIte, Nat.reduceAdd, Nat.reduceMul, Nat.reduceSub, Nat.reduceLT, Nat.reduceLeDiff, h28, h28_0, h28_1, h28_2]
           exact hK1 _ ⟨rfl, (by first | rfl | (rw [h28_0]; rfl) | (rw [h28_1]; rfl) | (rw [h28_2]; rfl)), (by first | rfl | (rw [h28_0]; rfl) | (rw [h28_1]; rfl) | (rw [h28_2]; rfl)), (by first | rfl | (rw [h28_0]; rfl) | (rw [h28_1]; rfl) | (rw [h28_2]; rfl)), (by first | rfl | (rw [h28_0]; rfl) | (rw [h28_1]; rfl) | (rw [h28_2]; rfl)), (by first | rfl | (rw [h28_0]; rfl) | (rw [h28_1]; rfl) | (rw [h28_2]; rfl)), (by first | rfl | (rw [h28_0]; rfl) | (rw [h28_1]; rfl) | (rw [h28_2]; rfl)), (by first | rfl | (rw [h28_0]; rfl) | (rw [h28_1]; rfl) | (rw [h28_2]; rfl)), (by first | rfl | (rw [h28_0]; rfl) | (rw [h28_1]; rfl) | (rw [h28_2]; rfl)), (by first | rfl | (rw [h28]; rfl) | (simp only [h28, Bool.true_and, Bool.false_and, Bool.true_or, Bool.false_or, cond_true, cond_false]; done)), trivial⟩
          ·
           try simp only [go_sem, ↓iop_and, ↓iop_or, ↓iop_xor, ↓iop_andn, Nat.reduceEqDiff, reduceIte, Nat.reduceAdd, Nat.reduceMul, Nat.reduceSub, Nat.reduceLT, Nat.reduceLeDiff, h28]
           exact hK1 _ ⟨rfl, rfl, rfl, rfl, rfl, rfl, rfl, rfl, rfl, (by first | rfl | (rw [h28]; rfl) | (simp only [h28, Bool.true_and, Bool.false_and, Bool.true_or, Bool.false_or, cond_true, cond_false]; done)), trivial⟩
         ·
          refine xw_id ?_
          refine xw_stop 1 (by (try simp only [go_sem]); rfl) (by (try simp only [go_sem]); rfl) (by rfl) fun K1 hK1 => ?_
          refine xw_id ?_
          try simp only [go_sem, ↓iop_and, ↓iop_or, ↓iop_xor, ↓iop_andn, Nat.reduceEqDiff, reduceIte, Nat.reduceAdd, Nat.reduceMul, Nat.reduceSub, Nat.reduceLT, Nat.reduceLeDiff]
          refine hK1 _ ?_; clear hK1 K1
          refine xw_cut 3 [(21, (.ptr 0 0)), (22, (vi x40.2)), (23, (.ptr 2 0)), (24, (vi x41.2)), (27, (.ref 4 0 x45.1.length 1)), (28, (vi x45.2)), (29, (vb (!x48))), (191, (vb ((((x49 && (x36.2 == 2)) && (x37.2 == 8)) && (x38.2 == 2)) && (x39.2 == 2))))] (by (try simp only [go_sem]); rfl) (by (try simp only [go_sem]); rfl) (by rfl) (fun K1 hK1 => ?_) fun tz => ?_
          ·
           refine xw_id ?_
           rcases Bool.eq_false_or_eq_true (((x49 && (x36.2 == 2)) && (x37.2 == 8)) && (x38.2 == 2)) with h29 | h29
           ·
            have h29_0 : (x49) = true := by simp only [Bool.and_eq_true] at h29; exact h29.1.1.1
            have h29_1 : (x36.2 == 2) = true := by simp only [Bool.and_eq_true] at h29; exact h29.1.1.2
            have h29_2 : (x37.2 == 8) = true := by simp only [Bool.and_eq_true] at h29; exact h29.1.2
            have h29_3 : (x38.2 == 2) = true := by simp only [Bool.and_eq_true] at h29; exact h29.2
            try simp only [go_sem, ↓iop_and, ↓iop_or, ↓iop_xor, ↓iop_andn, Nat.reduceEqDiff, reduceIte, Nat.reduceAdd, Nat.reduceMul, Nat.reduceSub, Nat.reduceLT, Nat.reduceLeDiff, h29, h29_0, h29_1, h29_2, h29_3]
            exact hK1 _ ⟨rfl, (by first | rfl | (rw [h29_0]; rfl) | (rw [h29_1]; rfl) | (rw [h29_2]; rfl) | (rw [h29_3]; rfl)), (by first | rfl | (rw [h29_0]; rfl) | (rw [h29_1]; rfl) | (rw [h29_2]; rfl) | (rw [h29_3]; rfl)), (by first | rfl | (rw [h29_0]; rfl) | (rw [h29_1]; rfl) | (rw [h29_2]; rfl) | (rw [h29_3]; rfl)), (by first | rfl | (rw [h29_0]; rfl) | (rw [h29_1]; rfl) | (rw [h29_2]; rfl) | (rw [h29_3]; rfl)), (by first | rfl | (rw [h29_0]; rfl) | (rw [h29_1]; rfl) | (rw [h29_2]; rfl) | (rw [h29_3]; rfl)), (by first | rfl | (rw [h29_0]; rfl) | (rw [h29_1]; rfl) | (rw [h29_2]; rfl) | (rw [h29_3]; rfl)), (by first | rfl | (rw [h29_0]; rfl) | (rw [h29_1]; rfl) | (rw [h29_2]; rfl) | (rw [h29_3]; rfl)), (by first | rfl | (rw [h29]; rfl) | (simp only [h29, Bool.true_and, Bool.false_and, Bool.true_or, Bool.false_or, cond_true, cond_false]; done)), trivial⟩
           ·
            try simp only [go_sem, ↓iop_and, ↓iop_or, ↓iop_xor, ↓iop_andn, Nat.reduceEqDiff, reduceIte, Nat.reduceAdd, Nat.reduceMul, Nat.reduceSub, Nat.reduceLT, Nat.reduceLeDiff, h29]
            exact hK1 _ ⟨rfl, rfl, rfl, rfl, rfl, rfl, rfl, rfl, (by first | rfl | (rw [h29]; rfl) | (simp only [h29, Bool.true_and, Bool.false_and, Bool.true_or, Bool.false_or, cond_true, cond_false]; done)), trivial⟩
          ·
           refine xw_id ?_
           refine xw_stop 1 (by (try simp only [go_sem]); rfl) (by (try simp only [go_sem]); rfl) (by rfl) fun K1 hK1 => ?_
           refine xw_id ?_
           try simp only [go_sem, ↓iop_and, ↓iop_or, ↓iop_xor, ↓iop_andn, Nat.reduceEqDiff, reduceIte, Nat.reduceAdd, Nat.reduceMul, Nat.reduceSub, Nat.reduceLT, Nat.reduceLeDiff]
           refine hK1 _ ?_; clear hK1 K1
           refine xw_cut 3 [(21, (.ptr 0 0)), (23, (.ptr 2 0)), (24, (vi x41.2)), (27, (.ref 4 0 x45.1.length 1)), (28, (vi x45.2)), (29, (vb (!x48))), (195, (vb (((((x49 && (x36.2 == 2)) && (x37.2 == 8)) && (x38.2 == 2)) && (x39.2 == 2)) && (x40.2 == 0))))] (by (try simp only [go_sem]); rfl) (by (try simp only [go_sem]); rfl) (by rfl) (fun K1 hK1 => ?_) fun tz => ?_
           ·
            refine xw_id ?_
            rcases Bool.eq_false_or_eq_true ((((x49 && (x36.2 == 2)) && (x37.2 == 8)) && (x38.2 == 2)) && (x39.2 == 2)) with h30 | h30
            ·
             have h30_0 : (x49) = true := by simp only [Bool.and_eq_true] at h30; exact h30.1.1.1.1
             have h30_1 : (x36.2 == 2) = true := by simp only [Bool.and_eq_true] at h30; exact h30.1.1.1.2
             have h30_2 : (x37.2 == 8) = true := by simp only [Bool.and_eq_true] at h30; exact h30.1.1.2
             have h30_3 : (x38.2 == 2) = true := by simp only [Bool.and_eq_true] at h30; exact h30.1.2
             have h30_4 : (x39.2 == 2) = true := by simp only [Bool.and_eq_true] at h30; exact h30.2
             try simp only [go_sem, ↓iop_and, ↓iop_or, ↓iop_xor, ↓iop_andn, Nat.reduceEqDiff, reduceIte, Nat.reduceAdd, Nat.reduceMul, Nat.reduceSub, Nat.reduceLT, Nat.reduceLeDiff, h30, h30_0, h30_1, h30_2, h30_3, h30_4]
             exact hK1 _ ⟨rfl, (by first | rfl | (rw [h30_0]; rfl) | (rw [h30_1]; rfl) | (rw [h30_2]; rfl) | (rw [h30_3]; rfl) | (rw [h30_4]; rfl)), (by first | rfl | (rw [h30_0]; rfl) | (rw [h30_1]; rfl) | (rw [h30_2]; rfl) | (rw [h30_3]; rfl) | (rw [h30_4]; rfl)), (by first | rfl | (rw [h30_0]; rfl) | (rw [h30_1]; rfl) | (rw [h30_2]; rfl) | (rw [h30_3]; rfl) | (rw [h30_4]; rfl)), (by first | rfl | (rw [h30_0]; rfl) | (rw [h30_1]; rfl) | (rw [h30_2]; rfl) | (rw [h30_3]; rfl) | (rw [h30_4]; rfl)), (by first | rfl | (rw [h30_0]; rfl) | (rw [h30_1]; rfl) | (rw [h30_2]; rfl) | (rw [h30_3]; rfl) | (rw [h30_4]; rfl)), (by first | rfl | (rw [h30_0]; rfl) | (rw [h30_1]; rfl) | (rw [h30_2]; rfl) | (rw [h30_3]; rfl) | (rw [h30_4]; rfl)), (by first | rfl | (rw [h30]; rfl) | (simp only [h30, Bool.true_and, Bool.false_and, Bool.true_or, Bool.false_or, cond_true, cond_false]; done)), trivial⟩
            ·
             try simp only [go_sem, ↓iop_and, ↓iop_or, ↓iop_xor, ↓iop_andn, Nat.reduceEqDiff, reduceIte, Nat.reduceAdd, Nat.reduceMul, Nat.reduceSub, Nat.reduceLT, Nat.reduceLeDiff, h30]
             exact hK1 _ ⟨rfl, rfl, rfl, rfl, rfl, rfl, rfl, (by first | rfl | (rw [h30]; rfl) | (simp only [h30, Bool.true_and, Bool.false_and, Bool.true_or, Bool.false_or, cond_true, cond_false]; done)), trivial⟩
           ·
            refine xw_id ?_
            refine xw_stop 1 (by (try simp only [go_sem]); rfl) (by (try simp only [go_sem]); rfl) (by rfl) fun K1 hK1 => ?_
            refine xw_id ?_
            try simp only [go_sem, ↓iop_and, ↓iop_or, ↓iop_xor, ↓iop_andn, Nat.reduceEqDiff, reduceIte, Nat.reduceAdd, Nat.reduceMul, Nat.reduceSub, Nat.reduceLT, Nat.reduceLeDiff]
            refine hK1 _ ?_; clear hK1 K1
            refine xw_cut 3 [(21, (.ptr 0 0)), (23, (.ptr 2 0)), (24, (vi x41.2)), (27, (.ref 4 0 x45.1.length 1)), (28, (vi x45.2)), (29, (vb (!x48))), (199, (vb ((((((x49 && (x36.2 == 2)) && (x37.2 == 8)) && (x38.2 == 2)) && (x39.2 == 2)) && (x40.2 == 0)) && x40.1.Group)))] (by (try simp only [go_sem]); rfl) (by (try simp only [go_sem]); rfl) (by rfl) (fun K1 hK1 => ?_) fun tz => ?_
            ·
             refine xw_id ?_
             rcases Bool.eq_false_or_eq_true (((((x49 && (x36.2 == 2)) && (x37.2 == 8)) && (x38.2 == 2)) && (x39.2 == 2)) && (x40.2 == 0)) with h31 | h31
             ·
              have h31_0 : (x49) = true := by simp only [Bool.and_eq_true] at h31; exact h31.1.1.1.1.1
              have h31_1 : (x36.2 == 2) = true := by simp only [Bool.and_eq_true] at h31; exact h31.1.1.1.1.2
              have h31_2 : (x37.2 == 8) = true := by simp only [Bool.and_eq_true] at h31; exact h31.1.1.1.2
              have h31_3 : (x38.2 == 2) = true := by simp only [Bool.and_eq_true] at h31; exact h31.1.1.2
              have h31_4 : (x39.2 == 2) = true := by simp only [Bool.and_eq_true] at h31; exact h31.1.2
              have h31_5 : (x40.2 == 0) = true := by simp only [Bool.and_eq_true] at h31; exact h31.2
              try simp only [go_sem, ↓iop_and, ↓iop_or, ↓iop_xor, ↓iop_andn, Nat.reduceEqDiff, reduceIte, Nat.reduceAdd, Nat.reduceMul, Nat.reduceSub, Nat.reduceLT, Nat.reduceLeDiff, h31, h31_0, h31_1, h31_2, h31_3, h31_4, h31_5]
              exact hK1 _ ⟨rfl, (by first | rfl | (rw [h31_0]; rfl) | (rw [h31_1]; rfl) | (rw [h31_2]; rfl) | (rw [h31_3]; rfl) | (rw [h31_4]; rfl) | (rw [h31_5]; rfl)), (by first | rfl | (rw [h31_0]; rfl) | (rw [h31_1]; rfl) | (rw [h31_2]; rfl) | (rw [h31_3]; rfl) | (rw [h31_4]; rfl) | (rw [h31_5]; rfl)), (by first | rfl | (rw [h31_0]; rfl) | (rw [h31_1]; rfl) | (rw [h31_2]; rfl) | (rw [h31_3]; rfl) | (rw [h31_4]; rfl) | (rw [h31_5]; rfl)), (by first | rfl | (rw [h31_0]; rfl) | (rw [h31_1]; rfl) | (rw [h31_2]; rfl) | (rw [h31_3]; rfl) | (rw [h31_4]; rfl) | (rw [h31_5]; rfl)), (by first | rfl | (rw [h31_0]; rfl) | (rw [h31_1]; rfl) | (rw [h31_2]; rfl) | (rw [h31_3]; rfl) | (rw [h31_4]; rfl) | (rw [h31_5]; rfl)), (by first | rfl | (rw [h31_0]; rfl) | (rw [h31_1]; rfl) | (rw [h31_2]; rfl) | (rw [h31_3]; rfl) | (rw [h31_4]; rfl) | (rw [h31_5]; rfl)), (by first | rfl | (rw [h31]; rfl) | (simp only [h31, Bool.true_and, Bool.false_and, Bool.true_or, Bool.false_or, cond_true, cond_false]; done)), trivial⟩
             ·
              try simp only [go_sem, ↓iop_and, ↓iop_or, ↓iop_xor, ↓iop_andn, Nat.reduceEqDiff, reduceIte, Nat.reduceAdd, Nat.reduceMul, Nat.reduceSub, Nat.reduceLT, Nat.reduceLeDiff, h31]
              exact hK1 _ ⟨rfl, rfl, rfl, rfl, rfl, rfl, rfl, (by first | rfl | (rw [h31]; rfl) | (simp only [h31, Bool.true_and, Bool.false_and, Bool.true_or, Bool.false_or, cond_true, cond_false]; done)), trivial⟩
            ·
             refine xw_id ?_
             refine xw_stop 1 (by (try simp only [go_sem]); rfl) (by (try simp only [go_sem]); rfl) (by rfl) fun K1 hK1 => ?_
             refine xw_id ?_
             try simp only [go_sem, ↓iop_and, ↓iop_or, ↓iop_xor, ↓iop_andn, Nat.reduceEqDiff, reduceIte, Nat.reduceAdd, Nat.reduceMul, Nat.reduceSub, Nat.reduceLT, Nat.reduceLeDiff]
             refine hK1 _ ?_; clear hK1 K1
             refine xw_cut 5 [(23, (.ptr 2 0)), (24, (vi x41.2)), (27, (.ref 4 0 x45.1.length 1)), (28, (vi x45.2)), (29, (vb (!x48))), (205, (vb (((((((x49 && (x36.2 == 2)) && (x37.2 == 8)) && (x38.2 == 2)) && (x39.2 == 2)) && (x40.2 == 0)) && x40.1.Group) && (((x40.1.Aids.length : Nat) : Int) == 0))))] (by (try simp only [go_sem]); rfl) (by (try simp only [go_sem]); rfl) (by rfl) (fun K1 hK1 => ?_) fun tz => ?_
             ·
              refine xw_id ?_
              rcases Bool.eq_false_or_eq_true ((((((x49 && (x36.2 == 2)) && (x37.2 == 8)) && (x38.2 == 2)) && (x39.2 == 2)) && (x40.2 == 0)) && x40.1.Group) with h32 | h32
              ·
               have h32_0 : (x49) = true := by simp only [Bool.and_eq_true] at h32; exact h32.1.1.1.1.1.1
               have h32_1 : (x36.2 == 2) = true := by simp only [Bool.and_eq_true] at h32; exact h32.1.1.1.1.1.2
               have h32_2 : (x37.2 == 8) = true := by simp only [Bool.and_eq_true] at h32; exact h32.1.1.1.1.2
               have h32_3 : (x38.2 == 2) = true := by simp only [Bool.and_eq_true] at h32; exact h32.1.1.1.2
               have h32_4 : (x39.2 == 2) = true := by simp only [Bool.and_eq_true] at h32; exact h32.1.1.2
               have h32_5 : (x40.2 == 0) = true := by simp only [Bool.and_eq_true] at h32; exact h32.1.2
               have h32_6 : (x40.1.Group) = true := by simp only [Bool.and_eq_true] at h32; exact h32.2
               try simp only [go_sem, ↓iop_and, ↓iop_or, ↓iop_xor, ↓iop_andn, Nat.reduceEqDiff, reduceIte, Nat.reduceAdd, Nat.reduceMul, Nat.reduceSub, Nat.reduceLT, Nat.reduceLeDiff, Int.reduceToNat, Int.reduceBEq, Int.reduceBNe, Int.reduceLT, Int.reduceLE, Int.reduceAdd, Int.reduceSub, Int.reduceMul, Int.reduceNeg, Int.reduceEq, Int.reduceNe, h32, h32_0, h32_1, h32_2, h32_3, h32_4, h32_5, h32_6]
               exact hK1 _ ⟨rfl, (by first | rfl | (rw [h32_0]; rfl) | (rw [h32_1]; rfl) | (rw [h32_2]; rfl) | (rw [h32_3]; rfl) | (rw [h32_4]; rfl) | (rw [h32_5]; rfl) | (rw [h32_6]; rfl)), (by first | rfl | (rw [h32_0]; rfl) | (rw [h32_1]; rfl) | (rw [h32_2]; rfl) | (rw [h32_3]; rfl) | (rw [h32_4]; rfl) | (rw [h32_5]; rfl) | (rw [h32_6]; rfl)), (by first | rfl | (rw [h32_0]; rfl) | (rw [h32_1]; rfl) | (rw [h32_2]; rfl) | (rw [h32_3]; rfl) | (rw [h32_4]; rfl) | (rw [h32_5]; rfl) | (rw [h32_6]; rfl)), (by first | rfl | (rw [h32_0]; rfl) | (rw [h32_1]; rfl) | (rw [h32_2]; rfl) | (rw [h32_3]; rfl) | (rw [h32_4]; rfl) | (rw [h32_5]; rfl) | (rw [h32_6]; rfl)), (by first | rfl | (rw [h32_0]; rfl) | (rw [h32_1]; rfl) | (rw [h32_2]; rfl) | (rw [h32_3]; rfl) | (rw [h32_4]; rfl) | (rw [h32_5]; rfl) | (rw [h32_6]; rfl)), (by first | rfl | (rw [h32]; rfl) | (simp only [h32, Bool.true_and, Bool.false_and, Bool.true_or, Bool.false_or, cond_true, cond_false]; done)), trivial⟩
              ·
               try simp only [go_sem, ↓iop_and, ↓iop_or, ↓iop_xor, ↓iop_andn, Nat.reduceEqDiff, reduceIte, Nat.reduceAdd, Nat.reduceMul, Nat.reduceSub, Nat.reduceLT, Nat.reduceLeDiff, h32]
               exact hK1 _ ⟨rfl, rfl, rfl, rfl, rfl, rfl, (by first | rfl | (rw [h32]; rfl) | (simp only [h32, Bool.true_and, Bool.false_and, Bool.true_or, Bool.false_or, cond_true, cond_false]; done)), trivial⟩
             ·
              refine xw_id ?_
              refine xw_stop 1 (by (try simp only [go_sem]); rfl) (by (try simp only [go_sem]); rfl) (by rfl) fun K1 hK1 => ?_
              refine xw_id ?_
              try simp only [go_sem, ↓iop_and, ↓iop_or, ↓iop_xor, ↓iop_andn, Nat.reduceEqDiff, reduceIte, Nat.reduceAdd, Nat.reduceMul, Nat.reduceSub, Nat.reduceLT, Nat.reduceLeDiff]
              refine hK1 _ ?_; clear hK1 K1
              refine xw_cut 3 [(23, (.ptr 2 0)), (27, (.ref 4 0 x45.1.length 1)), (28, (vi x45.2)), (29, (vb (!x48))), (209, (vb ((((((((x49 && (x36.2 == 2)) && (x37.2 == 8)) && (x38.2 == 2)) && (x39.2 == 2)) && (x40.2 == 0)) && x40.1.Group) && (((x40.1.Aids.length : Nat) : Int) == 0)) && (x41.2 == 0))))] (by (try simp only [go_sem]); rfl) (by (try simp only [go_sem]); rfl) (by rfl) (fun K1 hK1 => ?_) fun tz => ?_
              ·
               refine xw_id ?_
               rcases Bool.eq_false_or_eq_true (((((((x49 && (x36.2 == 2)) && (x37.2 == 8)) && (x38.2 == 2)) && (x39.2 == 2)) && (x40.2 == 0)) && x40.1.Group) && (((x40.1.Aids.length : Nat) : Int) == 0)) with h33 | h33
               ·
                have h33_0 : (x49) = true := by simp only [Bool.and_eq_true] at h33; exact h33.1.1.1.1.1.1.1
                have h33_1 : (x36.2 == 2) = true := by simp only [Bool.and_eq_true] at h33; exact h33.1.1.1.1.1.1.2
                have h33_2 : (x37.2 == 8) = true := by simp only [Bool.and_eq_true] at h33; exact h33.1.1.1.1.1.2
                have h33_3 : (x38.2 == 2) = true := by simp only [Bool.and_eq_true] at h33; exact h33.1.1.1.1.2
                have h33_4 : (x39.2 == 2) = true := by simp only [Bool.and_eq_true] at h33; exact h33.1.1.1.2
                have h33_5 : (x40.2 == 0) = true := by simp only [Bool.and_eq_true] at h33; exact h33.1.1.2
                have h33_6 : (x40.1.Group) = true := by simp only [Bool.and_eq_true] at h33; exact h33.1.2
                have h33_7 : (((x40.1.Aids.length : Nat) : Int) == 0) = true := by simp only [Bool.and_eq_true] at h33; exact h33.2
                try simp only [go_sem, ↓iop_and, ↓iop_or, ↓iop_xor, ↓iop_andn, Nat.reduceEqDiff, reduceIte, Nat.reduceAdd, Nat.reduceMul, Nat.reduceSub, Nat.reduceLT, Nat.reduceLeDiff, h33, h33_0, h33_1, h33_2, h33_3, h33_4, h33_5, h33_6, h33_7]
                exact hK1 _ ⟨rfl, (by first | rfl | (rw [h33_0]; rfl) | (rw [h33_1]; rfl) | (rw [h33_2]; rfl) | (rw [h33_3]; rfl) | (rw [h33_4]; rfl) | (rw [h33_5]; rfl) | (rw [h33_6]; rfl) | (rw [h33_7]; rfl)), (by first | rfl | (rw [h33_0]; rfl) | (rw [h33_1]; rfl) | (rw [h33_2]; rfl) | (rw [h33_3]; rfl) | (rw [h33_4]; rfl) | (rw [h33_5]; rfl) | (rw [h33_6]; rfl) | (rw [h33_7]; rfl)), (by first | rfl | (rw [h33_0]; rfl) | (rw [h33_1]; rfl) | (rw [h33_2]; rfl) | (rw [h33_3]; rfl) | (rw [h33_4]; rfl) | (rw [h33_5]; rfl) | (rw [h33_6]; rfl) | (rw [h33_7]; rfl)), (by first | rfl | (rw [h33_0]; rfl) | (rw [h33_1]; rfl) | (rw [h33_2]; rfl) | (rw [h33_3]; rfl) | (rw [h33_4]; rfl) | (rw [h33_5]; rfl) | (rw [h33_6]; rfl) | (rw [h33_7]; rfl)), (by first | rfl | (rw [h33]; rfl) | (simp only [h33, Bool.true_and, Bool.false_and, Bool.true_or, Bool.false_or, cond_true, cond_false]; done)), trivial⟩
               ·
                try simp only [go_sem, ↓iop_and, ↓iop_or, ↓iop_xor, ↓iop_andn, Nat.reduceEqDiff, reduceIte, Nat.reduceAdd, Nat.reduceMul, Nat.reduceSub, Nat.reduceLT, Nat.reduceLeDiff, h33]
                exact hK1 _ ⟨rfl, rfl, rfl, rfl, rfl, (by first | rfl | (rw [h33]; rfl) | (simp only [h33, Bool.true_and, Bool.false_and, Bool.true_or, Bool.false_or, cond_true, cond_false]; done)), trivial⟩
              ·
               refine xw_id ?_
               refine xw_stop 1 (by (try simp only [go_sem]); rfl) (by (try simp only [go_sem]); rfl) (by rfl) fun K1 hK1 => ?_
               refine xw_id ?_
               try simp only [go_sem, ↓iop_and, ↓iop_or, ↓iop_xor, ↓iop_andn, Nat.reduceEqDiff, reduceIte, Nat.reduceAdd, Nat.reduceMul, Nat.reduceSub, Nat.reduceLT, Nat.reduceLeDiff]
               refine hK1 _ ?_; clear hK1 K1
               refine xw_cut 5 [(27, (.ref 4 0 x45.1.length 1)), (28, (vi x45.2)), (29, (vb (!x48))), (215, (vb (((((((((x49 && (x36.2 == 2)) && (x37.2 == 8)) && (x38.2 == 2)) && (x39.2 == 2)) && (x40.2 == 0)) && x40.1.Group) && (((x40.1.Aids.length : Nat) : Int) == 0)) && (x41.2 == 0)) && (((x41.1.Aids.length : Nat) : Int) == 1))))] (by (try simp only [go_sem]); rfl) (by (try simp only [go_sem]); rfl) (by rfl) (fun K1 hK1 => ?_) fun tz => ?_
               ·
                refine xw_id ?_
                rcases Bool.eq_false_or_eq_true ((((((((x49 && (x36.2 == 2)) && (x37.2 == 8)) && (x38.2 == 2)) && (x39.2 == 2)) && (x40.2 == 0)) && x40.1.Group) && (((x40.1.Aids.length : Nat) : Int) == 0)) && (x41.2 == 0)) with h34 | h34
                ·
                 have h34_0 : (x49) = true := by simp only [Bool.and_eq_true] at h34; exact h34.1.1.1.1.1.1.1.1
                 have h34_1 : (x36.2 == 2) = true := by simp only [Bool.and_eq_true] at h34; exact h34.1.1.1.1.1.1.1.2
                 have h34_2 : (x37.2 == 8) = true := by simp only [Bool.and_eq_true] at h34; exact h34.1.1.1.1.1.1.2
                 have h34_3 : (x38.2 == 2) = true := by simp only [Bool.and_eq_true] at h34; exact h34.1.1.1.1.1.2
                 have h34_4 : (x39.2 == 2) = true := by simp only [Bool.and_eq_true] at h34; exact h34.1.1.1.1.2
                 have h34_5 : (x40.2 == 0) = true := by simp only [Bool.and_eq_true] at h34; exact h34.1.1.1.2
                 have h34_6 : (x40.1.Group) = true := by simp only [Bool.and_eq_true] at h34; exact h34.1.1.2
                 have h34_7 : (((x40.1.Aids.length : Nat) : Int) == 0) = true := by simp only [Bool.and_eq_true] at h34; exact h34.1.2
                 have h34_8 : (x41.2 == 0) = true := by simp only [Bool.and_eq_true] at h34; exact h34.2
                 try simp only [go_sem, ↓iop_and, ↓iop_or, ↓iop_xor, ↓iop_andn, Nat.reduceEqDiff, reduceIte, Nat.reduceAdd, Nat.reduceMul, Nat.reduceSub, Nat.reduceLT, Nat.reduceLeDiff, Int.reduceToNat, Int.reduceBEq, Int.reduceBNe, Int.reduceLT, Int.reduceLE, Int.reduceAdd, Int.reduceSub, Int.reduceMul, Int.reduceNeg, Int.reduceEq, Int.reduceNe, h34, h34_0, h34_1, h34_2, h34_3, h34_4, h34_5, h34_6, h34_7, h34_8]
                 exact hK1 _ ⟨rfl, (by first | rfl | (rw [h34_0]; rfl) | (rw [h34_1]; rfl) | (rw [h34_2]; rfl) | (rw [h34_3]; rfl) | (rw [h34_4]; rfl) | (rw [h34_5]; rfl) | (rw [h34_6]; rfl) | (rw [h34_7]; rfl) | (rw [h34_8]; rfl)), (by first | rfl | (rw [h34_0]; rfl) | (rw [h34_1]; rfl) | (rw [h34_2]; rfl) | (rw [h34_3]; rfl) | (rw [h34_4]; rfl) | (rw [h34_5]; rfl) | (rw [h34_6]; rfl) | (rw [h34_7]; rfl) | (rw [h34_8]; rfl)), (by first | rfl | (rw [h34_0]; rfl) | (rw [h34_1]; rfl) | (rw [h34_2]; rfl) | (rw [h34_3]; rfl) | (rw [h34_4]; rfl) | (rw [h34_5]; rfl) | (rw [h34_6]; rfl) | (rw [h34_7]; rfl) | (rw [h34_8]; rfl)), (by first | rfl | (rw [h34]; rfl) | (simp only [h34, Bool.true_and, Bool.false_and, Bool.true_or, Bool.false_or, cond_true, cond_false]; done)), trivial⟩
                ·
                 try simp only [go_sem, ↓iop_and, ↓iop_or, ↓iop_xor, ↓iop_andn, Nat.reduceEqDiff, reduceIte, Nat.reduceAdd, Nat.reduceMul, Nat.reduceSub, Nat.reduceLT, Nat.reduceLeDiff, h34]
                 exact hK1 _ ⟨rfl, rfl, rfl, rfl, (by first | rfl | (rw [h34]; rfl) | (simp only [h34, Bool.true_and, Bool.false_and, Bool.true_or, Bool.false_or, cond_true, cond_false]; done)), trivial⟩
               ·
                refine xw_id ?_
                refine xw_stop 1 (by (try simp only [go_sem]); rfl) (by (try simp only [go_sem]); rfl) (by rfl) fun K1 hK1 => ?_
                refine xw_id ?_
                try simp only [go_sem, ↓iop_and, ↓iop_or, ↓iop_xor, ↓iop_andn, Nat.reduceEqDiff, reduceIte, Nat.reduceAdd, Nat.reduceMul, Nat.reduceSub, Nat.reduceLT, Nat.reduceLeDiff]
                refine hK1 _ ?_; clear hK1 K1
                refine xw_cut 3 [(27, (.ref 4 0 x45.1.length 1)), (29, (vb (!x48))), (219, (vb ((((((((((x49 && (x36.2 == 2)) && (x37.2 == 8)) && (x38.2 == 2)) && (x39.2 == 2)) && (x40.2 == 0)) && x40.1.Group) && (((x40.1.Aids.length : Nat) : Int) == 0)) && (x41.2 == 0)) && (((x41.1.Aids.length : Nat) : Int) == 1)) && (x45.2 == 0))))] (by (try simp only [go_sem]); rfl) (by (try simp only [go_sem]); rfl) (by rfl) (fun K1 hK1 => ?_) fun tz => ?_
                ·
                 refine xw_id ?_
                 rcases Bool.eq_false_or_eq_true (((((((((x49 && (x36.2 == 2)) && (x37.2 == 8)) && (x38.2 == 2)) && (x39.2 == 2)) && (x40.2 == 0)) && x40.1.Group) && (((x40.1.Aids.length : Nat) : Int) == 0)) && (x41.2 == 0)) && (((x41.1.Aids.length : Nat) : Int) == 1)) with h35 | h35
                 ·
                  have h35_0 : (x49) = true := by simp only [Bool.and_eq_true] at h35; exact h35.1.1.1.1.1.1.1.1.1
                  have h35_1 : (x36.2 == 2) = true := by simp only [Bool.and_eq_true] at h35; exact h35.1.1.1.1.1.1.1.1.2
                  have h35_2 : (x37.2 == 8) = true := by simp only [Bool.and_eq_true] at h35; exact h35.1.1.1.1.1.1.1.2
                  have h35_3 : (x38.2 == 2) = true := by simp only [Bool.and_eq_true] at h35; exact h35.1.1.1.1.1.1.2
                  have h35_4 : (x39.2 == 2) = true := by simp only [Bool.and_eq_true] at h35; exact h35.1.1.1.1.1.2
                  have h35_5 : (x40.2 == 0) = true := by simp only [Bool.and_eq_true] at h35; exact h35.1.1.1.1.2
                  have h35_6 : (x40.1.Group) = true := by simp only [Bool.and_eq_true] at h35; exact h35.1.1.1.2
                  have h35_7 : (((x40.1.Aids.length : Nat) : Int) == 0) = true := by simp only [Bool.and_eq_true] at h35; exact h35.1.1.2
                  have h35_8 : (x41.2 == 0) = true := by simp only [Bool.and_eq_true] at h35; exact h35.1.2
                  have h35_9 : (((x41.1.Aids.length : Nat) : Int) == 1) = true := by simp only [Bool.and_eq_true] at h35; exact h35.2
                  try simp only [go_sem, ↓iop_and, ↓iop_or, ↓iop_xor, ↓iop_andn, Nat.reduceEqDiff, reduceIte, Nat.reduceAdd, Nat.reduceMul, Nat.reduceSub, Nat.reduceLT, Nat.reduceLeDiff, h35, h35_0, h35_1, h35_2, h35_3, h35_4, h35_5, h35_6, h35_7, h35_8, h35_9]
                  exact hK1 _ ⟨rfl, (by first | rfl | (rw [h35_0]; rfl) | (rw [h35_1]; rfl) | (rw [h35_2]; rfl) | (rw [h35_3]; rfl) | (rw [h35_4]; rfl) | (rw [h35_5]; rfl) | (rw [h35_6]; rfl) | (rw [h35_7]; rfl) | (rw [h35_8]; rfl) | (rw [h35_9]; rfl)), (by first | rfl | (rw [h35_0]; rfl) | (rw [h35_1]; rfl) | (rw [h35_2]; rfl) | (rw [h35_3]; rfl) | (rw [h35_4]; rfl) | (rw [h35_5]; rfl) | (rw [h35_6]; rfl) | (rw [h35_7]; rfl) | (rw [h35_8]; rfl) | (rw [h35_9]; rfl)), (by first | rfl | (rw [h35]; rfl) | (simp only [h35, Bool.true_and, Bool.false_and, Bool.true_or, Bool.false_or, cond_true, cond_false]; done)), trivial⟩
                 ·
                  try simp only [go_sem, ↓iop_and, ↓iop_or, ↓iop_xor, ↓iop_andn, Nat.reduceEqDiff, reduceIte, Nat.reduceAdd, Nat.reduceMul, Nat.reduceSub, Nat.reduceLT, Nat.reduceLeDiff, h35]
                  exact hK1 _ ⟨rfl, rfl, rfl, (by first | rfl | (rw [h35]; rfl) | (simp only [h35, Bool.true_and, Bool.false_and, Bool.true_or, Bool.false_or, cond_true, cond_false]; done)), trivial⟩
                ·
                 refine xw_id ?_
                 rcases Bool.eq_false_or_eq_true ((((((((((x49 && (x36.2 == 2)) && (x37.2 == 8)) && (x38.2 == 2)) && (x39.2 == 2)) && (x40.2 == 0)) && x40.1.Group) && (((x40.1.Aids.length : Nat) : Int) == 0)) && (x41.2 == 0)) && (((x41.1.Aids.length : Nat) : Int) == 1)) && (x45.2 == 0)) with h36 | h36
                 ·
                  have h0 := cT h0 h36
                  obtain ⟨x50, bx50, h0⟩ := bnd h0
                  try simp only [go_sem, ↓iop_and, ↓iop_or, ↓iop_xor, ↓iop_andn, Nat.reduceEqDiff, reduceIte, Nat.reduceAdd, Nat.reduceMul, Nat.reduceSub, Nat.reduceLT, Nat.reduceLeDiff, h36]
                  refine xcall_L (by first | (simp only [go_sem, fz, ↓iop_and, ↓iop_or, ↓iop_xor, ↓iop_andn, Nat.reduceEqDiff, reduceIte, Nat.reduceAdd, Nat.reduceMul, Nat.reduceSub, Nat.reduceLT, Nat.reduceLeDiff, h36]; done) | (simp only [go_sem, fz, ↓iop_and, ↓iop_or, ↓iop_xor, ↓iop_andn, Nat.reduceEqDiff, reduceIte, Nat.reduceAdd, Nat.reduceMul, Nat.reduceSub, Nat.reduceLT, Nat.reduceLeDiff, h36]; rfl) | (simp only [go_sem, fz, List.length_set, ble_self, take_set, cond_true, cond_false, ↓iop_and, ↓iop_or, ↓iop_xor, ↓iop_andn, Nat.reduceEqDiff, reduceIte, Nat.reduceAdd, Nat.reduceMul, Nat.reduceSub, Nat.reduceLT, Nat.reduceLeDiff, h36]; done) | (simp only [go_sem, fz, List.length_set, ble_self, take_set, cond_true, cond_false, ↓iop_and, ↓iop_or, ↓iop_xor, ↓iop_andn, Nat.reduceEqDiff, reduceIte, Nat.reduceAdd, Nat.reduceMul, Nat.reduceSub, Nat.reduceLT, Nat.reduceLeDiff, h36]; rfl)) (hotspotref33_Same_p x45.1 [3, 255, 0] bx50) (Bare.v _) ?_; try dsimp only
                  try refine xw_id ?_
                  refine xw_stop 2 (by (try simp only [go_sem]); rfl) (by (try simp only [go_sem]); rfl) (by rfl) fun K1 hK1 => ?_
                  refine xw_id ?_
                  try simp only [go_sem, ↓iop_and, ↓iop_or, ↓iop_xor, ↓iop_andn, Nat.reduceEqDiff, reduceIte, Nat.reduceAdd, Nat.reduceMul, Nat.reduceSub, Nat.reduceLT, Nat.reduceLeDiff, h36]
                  refine hK1 _ ?_; clear hK1 K1
                  refine xw_cut 2 [(227, (vb (x50 && (!x48))))] (by (try simp only [go_sem]); rfl) (by (try simp only [go_sem]); rfl) (by rfl) (fun K1 hK1 => ?_) fun tz => ?_
                  ·
                   refine xw_id ?_
                   rcases Bool.eq_false_or_eq_true x50 with h37 | h37
                   ·
                    try simp only [go_sem, ↓iop_and, ↓iop_or, ↓iop_xor, ↓iop_andn, Nat.reduceEqDiff, reduceIte, Nat.reduceAdd, Nat.reduceMul, Nat.reduceSub, Nat.reduceLT, Nat.reduceLeDiff, h36, h37]
                    exact hK1 _ ⟨rfl, (by first | rfl | (rw [h37]; rfl) | (simp only [h37, Bool.true_and, Bool.false_and, Bool.true_or, Bool.false_or, cond_true, cond_false]; done)), trivial⟩
                   ·
                    try simp only [go_sem, ↓iop_and, ↓iop_or, ↓iop_xor, ↓iop_andn, Nat.reduceEqDiff, reduceIte, Nat.reduceAdd, Nat.reduceMul, Nat.reduceSub, Nat.reduceLT, Nat.reduceLeDiff, h36, h37]
                    exact hK1 _ ⟨rfl, (by first | rfl | (rw [h37]; rfl) | (simp only [h37, Bool.true_and, Bool.false_and, Bool.true_or, Bool.false_or, cond_true, cond_false]; done)), trivial⟩
                  ·
                   refine xw_id ?_
                   try simp only [go_sem, ↓iop_and, ↓iop_or, ↓iop_xor, ↓iop_andn, Nat.reduceEqDiff, reduceIte, Nat.reduceAdd, Nat.reduceMul, Nat.reduceSub, Nat.reduceLT, Nat.reduceLeDiff, h36]
                   refine hKK _ _ (Wk.refl _ _ _) ?_; clear hKK KK
                   refine awp_ret1 ?_
                   obtain rfl := someInj h0
                   refine endW_i ?_
                   refine end_ret0 rs10 (rfl) ?_
                   try simp only [go_sem, ↓iop_and, ↓iop_or, ↓iop_xor, ↓iop_andn, Nat.reduceEqDiff, reduceIte, Nat.reduceAdd, Nat.reduceMul, Nat.reduceSub, Nat.reduceLT, Nat.reduceLeDiff, fz, nilS, packR, List.take_nil, List.take_length, List.length_map, List.length_append, cond_true, cond_false, Nat.ble_eq, ble_self]
                   all_goals first | rfl | (simp only [go_sem, ↓iop_and, ↓iop_or, ↓iop_xor, ↓iop_andn, Nat.reduceEqDiff, reduceIte, Nat.reduceAdd, Nat.reduceMul, Nat.reduceSub, Nat.reduceLT, Nat.reduceLeDiff, fz, nilS, packR, List.take_nil, List.take_length, List.length_map, List.length_append, cond_true, cond_false, Nat.ble_eq, ble_self, List.map_append] <;> rfl)
                 ·
                  have h0 := cF h0 h36
                  try simp only [go_sem, ↓iop_and, ↓iop_or, ↓iop_xor, ↓iop_andn, Nat.reduceEqDiff, reduceIte, Nat.reduceAdd, Nat.reduceMul, Nat.reduceSub, Nat.reduceLT, Nat.reduceLeDiff, h36]
                  refine hKK _ _ (Wk.refl _ _ _) ?_; clear hKK KK
                  refine awp_ret1 ?_
                  obtain rfl := someInj h0
                  refine endW_i ?_
                  refine end_ret0 rs10 (rfl) ?_
                  try simp only [go_sem, ↓iop_and, ↓iop_or, ↓iop_xor, ↓iop_andn, Nat.reduceEqDiff, reduceIte, Nat.reduceAdd, Nat.reduceMul, Nat.reduceSub, Nat.reduceLT, Nat.reduceLeDiff, fz, nilS, packR, List.take_nil, List.take_length, List.length_map, List.length_append, cond_true, cond_false, Nat.ble_eq, ble_self]
                  all_goals first | rfl | (simp only [go_sem, ↓iop_and, ↓iop_or, ↓iop_xor, ↓iop_andn, Nat.reduceEqDiff, reduceIte, Nat.reduceAdd, Nat.reduceMul, Nat.reduceSub, Nat.reduceLT, Nat.reduceLeDiff, fz, nilS, packR, List.take_nil, List.take_length, List.length_map, List.length_append, cond_true, cond_false, Nat.ble_eq, ble_self, List.map_append] <;> rfl)
      ·
       have h0 := cF h0 h25
       try simp only [go_sem, ↓iop_and, ↓iop_or, ↓iop_xor, ↓iop_andn, Nat.reduceEqDiff, reduceIte, Nat.reduceAdd, Nat.reduceMul, Nat.reduceSub, Nat.reduceLT, Nat.reduceLeDiff, h24, h25]
       refine hKK _ (hotspotlaw33_BitmapNames_S22 x40 x41 x45 x36 x37 x38 x39) (by refine Wk.canonD [] [] [some 0, some 1, some 2, some 3, some 13] rfl trivial rfl (tmOU 4 (tmOU 3 (tmOU 2 (tmOU 1 (tmOU 0 tmO0 rfl List.not_mem_nil (by simp only [upd_get, ↓iop_and, ↓iop_or, ↓iop_xor, ↓iop_andn, Nat.reduceEqDiff, reduceIte, Nat.reduceAdd, Nat.reduceMul, Nat.reduceSub, Nat.reduceLT, Nat.reduceLeDiff, if_true, if_false] <;> rfl) (e_Traffic_tmx (by rfl) (Tm.refL rfl ?_))) rfl List.not_mem_nil (by simp only [upd_get, ↓iop_and, ↓iop_or, ↓iop_xor, ↓iop_andn, Nat.reduceEqDiff, reduceIte, Nat.reduceAdd, Nat.reduceMul, Nat.reduceSub, Nat.reduceLT, Nat.reduceLeDiff, if_true, if_false] <;> rfl) (TmL.of_eq (by first | rfl | (simp only [List.flatMap_append, List.flatMap_cons, List.flatMap_nil, List.map_append, List.map_cons, List.map_nil, List.append_nil, List.nil_append]; done) | (simp only [List.flatMap_append, List.flatMap_cons, List.flatMap_nil, List.map_append, List.map_cons, List.map_nil, List.append_nil, List.nil_append]; rfl)) (vi_clean _))) rfl List.not_mem_nil (by simp only [upd_get, ↓iop_and, ↓iop_or, ↓iop_xor, ↓iop_andn, Nat.reduceEqDiff, reduceIte, Nat.reduceAdd, Nat.reduceMul, Nat.reduceSub, Nat.reduceLT, Nat.reduceLeDiff, if_true, if_false] <;> rfl) (e_Traffic_tmx (by rfl) (Tm.refL rfl ?_))) rfl List.not_mem_nil (by simp only [upd_get, ↓iop_and, ↓iop_or, ↓iop_xor, ↓iop_andn, Nat.reduceEqDiff, reduceIte, Nat.reduceAdd, Nat.reduceMul, Nat.reduceSub, Nat.reduceLT, Nat.reduceLeDiff, if_true, if_false] <;> rfl) (TmL.of_eq (by first | rfl | (simp only [List.flatMap_append, List.flatMap_cons, List.flatMap_nil, List.map_append, List.map_cons, List.map_nil, List.append_nil, List.nil_append]; done) | (simp only [List.flatMap_append, List.flatMap_cons, List.flatMap_nil, List.map_append, List.map_cons, List.map_nil, List.append_nil, List.nil_append]; rfl)) (vi_clean _))) rfl List.not_mem_nil (by simp only [upd_get, ↓iop_and, ↓iop_or, ↓iop_xor, ↓iop_andn, Nat.reduceEqDiff, reduceIte, Nat.reduceAdd, Nat.reduceMul, Nat.reduceSub, Nat.reduceLT, Nat.reduceLeDiff, if_true, if_false] <;> rfl) (TmL.of_eq (by first | rfl | (simp only [List.flatMap_append, List.flatMap_cons, List.flatMap_nil, List.map_append, List.map_cons, List.map_nil, List.append_nil, List.nil_append]; done) | (simp only [List.flatMap_append, List.flatMap_cons, List.flatMap_nil, List.map_append, List.map_cons, List.map_nil, List.append_nil, List.nil_append]; rfl)) (vu_clean _))) (tmAllU 29 (tmAllU 28 (tmAllU 27 (tmAllU 24 (tmAllU 23 (tmAllU 22 (tmAllU 21 (tmAllU 20 (tmAllU 18 (tmAllU 16 (tmAllU 14 tmAll0 (Tm.v _)) (Tm.v _)) (Tm.v _)) (Tm.v _)) (Tm.ptr rfl)) (Tm.v _)) (Tm.ptr rfl)) (Tm.v _)) (Tm.refL rfl ?_)) (Tm.v _)) (Tm.v _)); all_goals (first | rfl | (simp only [List.length_take]; omega) | (simp only [List.length_append, List.length_cons, List.length_nil, List.length_modify, List.length_set, Nat.zero_add]; done) | (simp only [List.length_append, List.length_take, List.length_drop, List.length_cons, List.length_nil, List.length_modify, List.length_set, Nat.zero_add]; omega) | (simp only [List.length_append, List.length_take, List.length_drop, List.length_cons, List.length_nil, List.length_modify, List.length_set, Nat.zero_add]; done) | omega)) ?_; clear hKK KK
       unfold hotspotlaw33_BitmapNames_S22
       refine awp_nr [14,16,18,20,21,22,23,24,27,28,29] (fun _ => rfl) fun tz => ?_
       refine awp_regW fun KK hKK => ?_
       refine xw_id ?_
       try simp only [List.append_eq, Array.toList_append, List.append_toArray, List.toList_toArray, List.cons_append, List.nil_append]
       obtain ⟨x51, bx51, h0⟩ := bnd h0
       try simp only [go_sem, ↓iop_and, ↓iop_or, ↓iop_xor, ↓iop_andn, Nat.reduceEqDiff, reduceIte, Nat.reduceAdd, Nat.reduceMul, Nat.reduceSub, Nat.reduceLT, Nat.reduceLeDiff]
       refine xcall_p (hotspotlaw33_alive_p  bx51) ?_; try dsimp only
       try refine xw_id ?_
       refine xw_stop 2 (by (try simp only [go_sem]); rfl) (by (try simp only [go_sem]); rfl) (by rfl) fun K1 hK1 => ?_
       refine xw_id ?_
       try simp only [go_sem, ↓iop_and, ↓iop_or, ↓iop_xor, ↓iop_andn, Nat.reduceEqDiff, reduceIte, Nat.reduceAdd, Nat.reduceMul, Nat.reduceSub, Nat.reduceLT, Nat.reduceLeDiff]
       refine hK1 _ ?_; clear hK1 K1
       refine xw_cut 3 [(16, (vi x37.2)), (18, (vi x38.2)), (20, (vi x39.2)), (21, (.ptr 0 0)), (22, (vi x40.2)), (23, (.ptr 2 0)), (24, (vi x41.2)), (27, (.ref 4 0 x45.1.length 1)), (28, (vi x45.2)), (29, (vb false)), (179, (vb (x51 && (x36.2 == 2))))] (by (try simp only [go_sem]); rfl) (by (try simp only [go_sem]); rfl) (by rfl) (fun K1 hK1 => ?_) fun tz => ?_
       ·
        refine xw_id ?_
        rcases Bool.eq_false_or_eq_true x51 with h38 | h38
        ·
         try simp only [go_sem, ↓iop_and, ↓iop_or, ↓iop_xor, ↓iop_andn, Nat.reduceEqDiff, reduceIte, Nat.reduceAdd, Nat.reduceMul, Nat.reduceSub, Nat.reduceLT, Nat.reduceLeDiff, h38]
         exact hK1 _ ⟨rfl, rfl, rfl, rfl, rfl, rfl, rfl, rfl, rfl, rfl, rfl, (by first | rfl | (rw [h38]; rfl) | (simp only [h38, Bool.true_and, Bool.false_and, Bool.true_or, Bool.false_or, cond_true, cond_false]; done)), trivial⟩
        ·
         try simp only [go_sem, ↓iop_and, ↓iop_or, ↓iop_xor, ↓iop_andn, Nat.reduceEqDiff, reduceIte, Nat.reduceAdd, Nat.reduceMul, Nat.reduceSub, Nat.reduceLT, Nat.reduceLeDiff, h38]
         exact hK1 _ ⟨rfl, rfl, rfl, rfl, rfl, rfl, rfl, rfl, rfl, rfl, rfl, (by first | rfl | (rw [h38]; rfl) | (simp only [h38, Bool.true_and, Bool.false_and, Bool.true_or, Bool.false_or, cond_true, cond_false]; done)), trivial⟩
       ·
        refine xw_id ?_
        refine xw_stop 1 (by (try simp only [go_sem]); rfl) (by (try simp only [go_sem]); rfl) (by rfl) fun K1 hK1 => ?_
        refine xw_id ?_
        try simp only [go_sem, ↓iop_and, ↓iop_or, ↓iop_xor, ↓iop_andn, Nat.reduceEqDiff, reduceIte, Nat.reduceAdd, Nat.reduceMul, Nat.reduceSub, Nat.reduceLT, Nat.reduceLeDiff]
        refine hK1 _ ?_; clear hK1 K1
        refine xw_cut 3 [(18, (vi x38.2)), (20, (vi x39.2)), (21, (.ptr 0 0)), (22, (vi x40.2)), (23, (.ptr 2 0)), (24, (vi x41.2)), (27, (.ref 4 0 x45.1.length 1)), (28, (vi x45.2)), (29, (vb false)), (183, (vb ((x51 && (x36.2 == 2)) && (x37.2 == 8))))] (by (try simp only [go_sem]); rfl) (by (try simp only [go_sem]); rfl) (by rfl) (fun K1 hK1 => ?_) fun tz => ?_
        ·
         refine xw_id ?_
         rcases Bool.eq_false_or_eq_true (x51 && (x36.2 == 2)) with h39 | h39
         ·
          have h39_0 : (x51) = true := by simp only [Bool.and_eq_true] at h39; exact h39.1
          have h39_1 : (x36.2 == 2) = true := by simp only [Bool.and_eq_true] at h39; exact h39.2
          try simp only [go_sem, ↓iop_and, ↓iop_or, ↓iop_xor, ↓iop_andn, Nat.reduceEqDiff, reduceIte, Nat.reduceAdd, Nat.reduceMul, Nat.reduceSub, Nat.reduceLT, Nat.reduceLeDiff, h39, h39_0, h39_1]
          exact hK1 _ ⟨rfl, (by first | rfl | (rw [h39_0]; rfl) | (rw [h39_1]; rfl)), (by first | rfl | (rw [h39_0]; rfl) | (rw [h39_1]; rfl)), (by first | rfl | (rw [h39_0]; rfl) | (rw [h39_1]; rfl)), (by first | rfl | (rw [h39_0]; rfl) | (rw [h39_1]; rfl)), (by first | rfl | (rw [h39_0]; rfl) | (rw [h39_1]; rfl)), (by first | rfl | (rw [h39_0]; rfl) | (rw [h39_1]; rfl)), (by first | rfl | (rw [h39_0]; rfl) | (rw [h39_1]; rfl)), (by first | rfl | (rw [h39_0]; rfl) | (rw [h39_1]; rfl)), (by first | rfl | (rw [h39_0]; rfl) | (rw [h39_1]; rfl)), (by first | rfl | (rw [h39]; rfl) | (simp only [h39, Bool.true_and, Bool.false_and, Bool.true_or, Bool.false_or, cond_true, cond_false]; done)), trivial⟩
         ·
          try simp only [go_sem, ↓iop_and, ↓iop_or, ↓iop_xor, ↓iop_andn, Nat.reduceEqDiff, reduceIte, Nat.reduceAdd, Nat.reduceMul, Nat.reduceSub, Nat.reduceLT, Nat.reduceLeDiff, h39]
          exact hK1 _ ⟨rfl, rfl, rfl, rfl, rfl, rfl, rfl, rfl, rfl, rfl, (by first | rfl | (rw [h39]; rfl) | (simp only [h39, Bool.true_and, Bool.false_and, Bool.true_or, Bool.false_or, cond_true, cond_false]; done)), trivial⟩
        ·
         refine xw_id ?_
         refine xw_stop 1 (by (try simp only [go_sem]); rfl) (by (try simp only [go_sem]); rfl) (by rfl) fun K1 hK1 => ?_
         refine xw_id ?_
         try simp only [go_sem, ↓iop_and, ↓iop_or, ↓iop_xor, ↓iop_andn, Nat.reduceEqDiff, reduceIte, Nat.reduceAdd, Nat.reduceMul, Nat.reduceSub, Nat.reduceLT, Nat.reduceLeDiff]
         refine hK1 _ ?_; clear hK1 K1
         refine xw_cut 3 [(20, (vi x39.2)), (21, (.ptr 0 0)), (22, (vi x40.2)), (23, (.ptr 2 0)), (24, (vi x41.2)), (27, (.ref 4 0 x45.1.length 1)), (28, (vi x45.2)), (29, (vb false)), (187, (vb (((x51 && (x36.2 == 2)) && (x37.2 == 8)) && (x38.2 == 2))))] (by (try simp only [go_sem]); rfl) (by (try simp only [go_sem]); rfl) (by rfl) (fun K1 hK1 => ?_) fun tz => ?_
         ·
          refine xw_id ?_
          rcases Bool.eq_false_or_eq_true ((x51 && (x36.2 == 2)) && (x37.2 == 8)) with h40 | h40
          ·
           have h40_0 : (x51) = true := by simp only [Bool.and_eq_true] at h40; exact h40.1.1
           have h40_1 : (x36.2 == 2) = true := by simp only [Bool.and_eq_true] at h40; exact h40.1.2
           have h40_2 : (x37.2 == 8) = true := by simp only [Bool.and_eq_true] at h40; exact h40.2
           try simp only [go_sem, ↓iop_and, ↓iop_or, ↓iop_xor, ↓iop_andn, Nat.reduceEqDiff, reduceIte, Nat.reduceAdd, Nat.reduceMul, Nat.reduceSub, Nat.reduceLT, Nat.reduceLeDiff, h40, h40_0, h40_1, h40_2]
           exact hK1 _ ⟨rfl, (by first | rfl | (rw [h40_0]; rfl) | (rw [h40_1]; rfl) | (rw [h40_2]; rfl)), (by first | rfl | (rw [h40_0]; rfl) | (rw [h40_1]; rfl) | (rw [h40_2]; rfl)), (by first | rfl | (rw [h40_0]; rfl) | (rw [h40_1]; rfl) | (rw [h40_2]; rfl)), (by first | rfl | (rw [h40_0]; rfl) | (rw [h40_1]; rfl) | (rw [h40_2]; rfl)), (by first | rfl | (rw [h40_0]; rfl) | (rw [h40_1]; rfl) | (rw [h40_2]; rfl)), (by first | rfl | (rw [h40_0]; rfl) | (rw [h40_1]; rfl) | (rw [h40_2]; rfl)), (by first | rfl | (rw [h40_0]; rfl) | (rw [h40_1]; rfl) | (rw [h40_2]; rfl)), (by first | rfl | (rw [h40_0]; rfl) | (rw [h40_1]; rfl) | (rw [h40_2]; rfl)), (by first | rfl | (rw [h40]; rfl) | (simp only [h40, Bool.true_and, Bool.false_and, Bool.true_or, Bool.false_or, cond_true, cond_false]; done)), trivial⟩
          ·
           try simp only [go_sem, ↓iop_and, ↓iop_or, ↓iop_xor, ↓iop_andn, Nat.reduceEqDiff, reduceIte, Nat.reduceAdd, Nat.reduceMul, Nat.reduceSub, Nat.reduceLT, Nat.reduceLeDiff, h40]
           exact hK1 _ ⟨rfl, rfl, rfl, rfl, rfl, rfl, rfl, rfl, rfl, (by first | rfl | (rw [h40]; rfl) | (simp only [h40, Bool.true_and, Bool.false_and, Bool.true_or, Bool.false_or, cond_true, cond_false]; done)), trivial⟩
         ·
          refine xw_id ?_
          refine xw_stop 1 (by (try simp only [go_sem]); rfl) (by (try simp only [go_sem]); rfl) (by rfl) fun K1 hK1 => ?_
          refine xw_id ?_
          try simp only [go_sem, ↓iop_and, ↓iop_or, ↓iop_xor, ↓iop_andn, Nat.reduceEqDiff, reduceIte, Nat.reduceAdd, Nat.reduceMul, Nat.reduceSub, Nat.reduceLT, Nat.reduceLeDiff]
          refine hK1 _ ?_; clear hK1 K1
          refine xw_cut 3 [(21, (.ptr 0 0)), (22, (vi x40.2)), (23, (.ptr 2 0)), (24, (vi x41.2)), (27, (.ref 4 0 x45.1.length 1)), (28, (vi x45.2)), (29, (vb false)), (191, (vb ((((x51 && (x36.2 == 2)) && (x37.2 == 8)) && (x38.2 == 2)) && (x39.2 == 2))))] (by (try simp only [go_sem]); rfl) (by (try simp only [go_sem]); rfl) (by rfl) (fun K1 hK1 => ?_) fun tz => ?_
          ·
           refine xw_id ?_
           rcases Bool.eq_false_or_eq_true (((x51 && (x36.2 == 2)) && (x37.2 == 8)) && (x38.2 == 2)) with h41 | h41
           ·
            have h41_0 : (x51) = true := by simp only [Bool.and_eq_true] at h41; exact h41.1.1.1
            have h41_1 : (x36.2 == 2) = true := by simp only [Bool.and_eq_true] at h41; exact h41.1.1.2
            have h41_2 : (x37.2 == 8) = true := by simp only [Bool.and_eq_true] at h41; exact h41.1.2
            have h41_3 : (x38.2 == 2) = true := by simp only [Bool.and_eq_true] at h41; exact h41.2
            try simp only [go_sem, ↓iop_and, ↓iop_or, ↓iop_xor, ↓iop_andn, Nat.reduceEqDiff, reduceIte, Nat.reduceAdd, Nat.reduceMul, Nat.reduceSub, Nat.reduceLT, Nat.reduceLeDiff, h41, h41_0, h41_1, h41_2, h41_3]
            exact hK1 _ ⟨rfl, (by first | rfl | (rw [h41_0]; rfl) | (rw [h41_1]; rfl) | (rw [h41_2]; rfl) | (rw [h41_3]; rfl)), (by first | rfl | (rw [h41_0]; rfl) | (rw [h41_1]; rfl) | (rw [h41_2]; rfl) | (rw [h41_3]; rfl)), (by first | rfl | (rw [h41_0]; rfl) | (rw [h41_1]; rfl) | (rw [h41_2]; rfl) | (rw [h41_3]; rfl)), (by first | rfl | (rw [h41_0]; rfl) | (rw [h41_1]; rfl) | (rw [h41_2]; rfl) | (rw [h41_3]; rfl)), (by first | rfl | (rw [h41_0]; rfl) | (rw [h41_1]; rfl) | (rw [h41_2]; rfl) | (rw [h41_3]; rfl)), (by first | rfl | (rw [h41_0]; rfl) | (rw [h41_1]; rfl) | (rw [h41_2]; rfl) | (rw [h41_3]; rfl)), (by first | rfl | (rw [h41_0]; rfl) | (rw [h41_1]; rfl) | (rw [h41_2]; rfl) | (rw [h41_3]; rfl)), (by first | rfl | (rw [h41]; rfl) | (simp only [h41, Bool.true_and, Bool.false_and, Bool.true_or, Bool.false_or, cond_true, cond_false]; done)), trivial⟩
           ·
            try simp only [go_sem, ↓iop_and, ↓iop_or, ↓iop_xor, ↓iop_andn, Nat.reduceEqDiff, reduceIte, Nat.reduceAdd, Nat.reduceMul, Nat.reduceSub, Nat.reduceLT, Nat.reduceLeDiff, h41]
            exact hK1 _ ⟨rfl, rfl, rfl, rfl, rfl, rfl, rfl, rfl, (by first | rfl | (rw [h41]; rfl) | (simp only [h41, Bool.true_and, Bool.false_and, Bool.true_or, Bool.false_or, cond_true, cond_false]; done)), trivial⟩
          ·
           refine xw_id ?_
           refine xw_stop 1 (by (try simp only [go_sem]); rfl) (by (try simp only [go_sem]); rfl) (by rfl) fun K1 hK1 => ?_
           refine xw_id ?_
           try simp only [go_sem, ↓iop_and, ↓iop_or, ↓iop_xor, ↓iop_andn, Nat.reduceEqDiff, reduceIte, Nat.reduceAdd, Nat.reduceMul, Nat.reduceSub, Nat.reduceLT, Nat.reduceLeDiff]
           refine hK1 _ ?_; clear hK1 K1
           refine xw_cut 3 [(21, (.ptr 0 0)), (23, (.ptr 2 0)), (24, (vi x41.2)), (27, (.ref 4 0 x45.1.length 1)), (28, (vi x45.2)), (29, (vb false)), (195, (vb (((((x51 && (x36.2 == 2)) && (x37.2 == 8)) && (x38.2 == 2)) && (x39.2 == 2)) && (x40.2 == 0))))] (by (try simp only [go_sem]); rfl) (by (try simp only [go_sem]); rfl) (by rfl) (fun K1 hK1 => ?_) fun tz => ?_
           ·
            refine xw_id ?_
            rcases Bool.eq_false_or_eq_true ((((x51 && (x36.2 == 2)) && (x37.2 == 8)) && (x38.2 == 2)) && (x39.2 == 2)) with h42 | h42
            ·
             have h42_0 : (x51) = true := by simp only [Bool.and_eq_true] at h42; exact h42.1.1.1.1
             have h42_1 : (x36.2 == 2) = true := by simp only [Bool.and_eq_true] at h42; exact h42.1.1.1.2
             have h42_2 : (x37.2 == 8) = true := by simp only [Bool.and_eq_true] at h42; exact h42.1.1.2
             have h42_3 : (x38.2 == 2) = true := by simp only [Bool.and_eq_true] at h42; exact h42.1.2
             have h42_4 : (x39.2 == 2) = true := by simp only [Bool.and_eq_true] at h42; exact h42.2
             try simp only [go_sem, ↓iop_and, ↓iop_or, ↓iop_xor, ↓iop_andn, Nat.reduceEqDiff, reduceIte, Nat.reduceAdd, Nat.reduceMul, Nat.reduceSub, Nat.reduceLT, Nat.reduceLeDiff, h42, h42_0, h42_1, h42_2, h42_3, h42_4]
             exact hK1 _ ⟨rfl, (by first | rfl | (rw [h42_0]; rfl) | (rw [h42_1]; rfl) | (rw [h42_2]; rfl) | (rw [h42_3]; rfl) | (rw [h42_4]; rfl)), (by first | rfl | (rw [h42_0]; rfl) | (rw [h42_1]; rfl) | (rw [h42_2]; rfl) | (rw [h42_3]; rfl) | (rw [h42_4]; rfl)), (by first | rfl | (rw [h42_0]; rfl) | (rw [h42_1]; rfl) | (rw [h42_2]; rfl) | (rw [h42_3]; rfl) | (rw [h42_4]; rfl)), (by first | rfl | (rw [h42_0]; rfl) | (rw [h42_1]; rfl) | (rw [h42_2]; rfl) | (rw [h42_3]; rfl) | (rw [h42_4]; rfl)), (by first | rfl | (rw [h42_0]; rfl) | (rw [h42_1]; rfl) | (rw [h42_2]; rfl) | (rw [h42_3]; rfl) | (rw [h42_4]; rfl)), (by first | rfl | (rw [h42_0]; rfl) | (rw [h42_1]; rfl) | (rw [h42_2]; rfl) | (rw [h42_3]; rfl) | (rw [h42_4]; rfl)), (by first | rfl | (rw [h42]; rfl) | (simp only [h42, Bool.true_and, Bool.false_and, Bool.true_or, Bool.false_or, cond_true, cond_false]; done)), trivial⟩
            ·
             try simp only [go_sem, ↓iop_and, ↓iop_or, ↓iop_xor, ↓iop_andn, Nat.reduceEqDiff, reduceIte, Nat.reduceAdd, Nat.reduceMul, Nat.reduceSub, Nat.reduceLT, Nat.reduceLeDiff, h42]
             exact hK1 _ ⟨rfl, rfl, rfl, rfl, rfl, rfl, rfl, (by first | rfl | (rw [h42]; rfl) | (simp only [h42, Bool.true_and, Bool.false_and, Bool.true_or, Bool.false_or, cond_true, cond_false]; done)), trivial⟩
           ·
            refine xw_id ?_
            refine xw_stop 1 (by (try simp only [go_sem]); rfl) (by (try simp only [go_sem]); rfl) (by rfl) fun K1 hK1 => ?_
            refine xw_id ?_
            try simp only [go_sem, ↓iop_and, ↓iop_or, ↓iop_xor, ↓iop_andn, Nat.reduceEqDiff, reduceIte, Nat.reduceAdd, Nat.reduceMul, Nat.reduceSub, Nat.reduceLT, Nat.reduceLeDiff]
            refine hK1 _ ?_; clear hK1 K1
            refine xw_cut 3 [(21, (.ptr 0 0)), (23, (.ptr 2 0)), (24, (vi x41.2)), (27, (.ref 4 0 x45.1.length 1)), (28, (vi x45.2)), (29, (vb false)), (199, (vb ((((((x51 && (x36.2 == 2)) && (x37.2 == 8)) && (x38.2 == 2)) && (x39.2 == 2)) && (x40.2 == 0)) && x40.1.Group)))] (by (try simp only [go_sem]); rfl) (by (try simp only [go_sem]); rfl) (by rfl) (fun K1 hK1 => ?_) fun tz => ?_
            ·
             refine xw_id ?_
             rcases Bool.eq_false_or_eq_true (((((x51 && (x36.2 == 2)) && (x37.2 == 8)) && (x38.2 == 2)) && (x39.2 == 2)) && (x40.2 == 0)) with h43 | h43
             ·
              have h43_0 : (x51) = true := by simp only [Bool.and_eq_true] at h43; exact h43.1.1.1.1.1
              have h43_1 : (x36.2 == 2) = true := by simp only [Bool.and_eq_true] at h43; exact h43.1.1.1.1.2
              have h43_2 : (x37.2 == 8) = true := by simp only [Bool.and_eq_true] at h43; exact h43.1.1.1.2
              have h43_3 : (x38.2 == 2) = true := by simp only [Bool.and_eq_true] at h43; exact h43.1.1.2
              have h43_4 : (x39.2 == 2) = true := by simp only [Bool.and_eq_true] at h43; exact h43.1.2
              have h43_5 : (x40.2 == 0) = true := by simp only [Bool.and_eq_true] at h43; exact h43.2
              try simp only [go_sem, ↓iop_and, ↓iop_or, ↓iop_xor, ↓iop_andn, Nat.reduceEqDiff, reduceIte, Nat.reduceAdd, Nat.reduceMul, Nat.reduceSub, Nat.reduceLT, Nat.reduceLeDiff, h43, h43_0, h43_1, h43_2, h43_3, h43_4, h43_5]
              exact hK1 _ ⟨rfl, (by first | rfl | (rw [h43_0]; rfl) | (rw [h43_1]; rfl) | (rw [h43_2]; rfl) | (rw [h43_3]; rfl) | (rw [h43_4]; rfl) | (rw [h43_5]; rfl)), (by first | rfl | (rw [h43_0]; rfl) | (rw [h43_1]; rfl) | (rw [h43_2]; rfl) | (rw [h43_3]; rfl) | (rw [h43_4]; rfl) | (rw [h43_5]; rfl)), (by first | rfl | (rw [h43_0]; rfl) | (rw [h43_1]; rfl) | (rw [h43_2]; rfl) | (rw [h43_3]; rfl) | (rw [h43_4]; rfl) | (rw [h43_5]; rfl)), (by first | rfl | (rw [h43_0]; rfl) | (rw [h43_1]; rfl) | (rw [h43_2]; rfl) | (rw [h43_3]; rfl) | (rw [h43_4]; rfl) | (rw [h43_5]; rfl)), (by first | rfl | (rw [h43_0]; rfl) | (rw [h43_1]; rfl) | (rw [h43_2]; rfl) | (rw [h43_3]; rfl) | (rw [h43_4]; rfl) | (rw [h43_5]; rfl)), (by first | rfl | (rw [h43_0]; rfl) | (rw [h43_1]; rfl) | (rw [h43_2]; rfl) | (rw [h43_3]; rfl) | (rw [h43_4]; rfl) | (rw [h43_5]; rfl)), (by first | rfl | (rw [h43]; rfl) | (simp only [h43, Bool.true_and, Bool.false_and, Bool.true_or, Bool.false_or, cond_true, cond_false]; done)), trivial⟩
             ·
              try simp only [go_sem, ↓iop_and, ↓iop_or, ↓iop_xor, ↓iop_andn, Nat.reduceEqDiff, reduceIte, Nat.reduceAdd, Nat.reduceMul, Nat.reduceSub, Nat.reduceLT, Nat.reduceLeDiff, h43]
              exact hK1 _ ⟨rfl, rfl, rfl, rfl, rfl, rfl, rfl, (by first | rfl | (rw [h43]; rfl) | (simp only [h43, Bool.true_and, Bool.false_and, Bool.true_or, Bool.false_or, cond_true, cond_false]; done)), trivial⟩
            ·
             refine xw_id ?_
             refine xw_stop 1 (by (try simp only [go_sem]); rfl) (by (try simp only [go_sem]); rfl) (by rfl) fun K1 hK1 => ?_
             refine xw_id ?_
             try simp only [go_sem, ↓iop_and, ↓iop_or, ↓iop_xor, ↓iop_andn, Nat.reduceEqDiff, reduceIte, Nat.reduceAdd, Nat.reduceMul, Nat.reduceSub, Nat.reduceLT, Nat.reduceLeDiff]
             refine hK1 _ ?_; clear hK1 K1
             refine xw_cut 5 [(23, (.ptr 2 0)), (24, (vi x41.2)), (27, (.ref 4 0 x45.1.length 1)), (28, (vi x45.2)), (29, (vb false)), (205, (vb (((((((x51 && (x36.2 == 2)) && (x37.2 == 8)) && (x38.2 == 2)) && (x39.2 == 2)) && (x40.2 == 0)) && x40.1.Group) && (((x40.1.Aids.length : Nat) : Int) == 0))))] (by (try simp only [go_sem]); rfl) (by (try simp only [go_sem]); rfl) (by rfl) (fun K1 hK1 => ?_) fun tz => ?_
             ·
              refine xw_id ?_
              rcases Bool.eq_false_or_eq_true ((((((x51 && (x36.2 == 2)) && (x37.2 == 8)) && (x38.2 == 2)) && (x39.2 == 2)) && (x40.2 == 0)) && x40.1.Group) with h44 | h44
              ·
               have h44_0 : (x51) = true := by simp only [Bool.and_eq_true] at h44; exact h44.1.1.1.1.1.1
               have h44_1 : (x36.2 == 2) = true := by simp only [Bool.and_eq_true] at h44; exact h44.1.1.1.1.1.2
               have h44_2 : (x37.2 == 8) = true := by simp only [Bool.and_eq_true] at h44; exact h44.1.1.1.1.2
               have h44_3 : (x38.2 == 2) = true := by simp only [Bool.and_eq_true] at h44; exact h44.1.1.1.2
               have h44_4 : (x39.2 == 2) = true := by simp only [Bool.and_eq_true] at h44; exact h44.1.1.2
               have h44_5 : (x40.2 == 0) = true := by simp only [Bool.and_eq_true] at h44; exact h44.1.2
               have h44_6 : (x40.1.Group) = true := by simp only [Bool.and_eq_true] at h44; exact h44.2
               try simp only [go_sem, ↓iop_and, ↓iop_or, ↓iop_xor, ↓iop_andn, Nat.reduceEqDiff, reduceIte, Nat.reduceAdd, Nat.reduceMul, Nat.reduceSub, Nat.reduceLT, Nat.reduceLeDiff, Int.reduceToNat, Int.reduceBEq, Int.reduceBNe, Int.reduceLT, Int.reduceLE, Int.reduceAdd, Int.reduceSub, Int.reduceMul, Int.reduceNeg, Int.reduceEq, Int.reduceNe, h44, h44_0, h44_1, h44_2, h44_3, h44_4, h44_5, h44_6]
               exact hK1 _ ⟨rfl, (by first | rfl | (rw [h44_0]; rfl) | (rw [h44_1]; rfl) | (rw [h44_2]; rfl) | (rw [h44_3]; rfl) | (rw [h44_4]; rfl) | (rw [h44_5]; rfl) | (rw [h44_6]; rfl)), (by first | rfl | (rw [h44_0]; rfl) | (rw [h44_1]; rfl) | (rw [h44_2]; rfl) | (rw [h44_3]; rfl) | (rw [h44_4]; rfl) | (rw [h44_5]; rfl) | (rw [h44_6]; rfl)), (by first | rfl | (rw [h44_0]; rfl) | (rw [h44_1]; rfl) | (rw [h44_2]; rfl) | (rw [h44_3]; rfl) | (rw [h44_4]; rfl) | (rw [h44_5]; rfl) | (rw [h44_6]; rfl)), (by first | rfl | (rw [h44_0]; rfl) | (rw [h44_1]; rfl) | (rw [h44_2]; rfl) | (rw [h44_3]; rfl) | (rw [h44_4]; rfl) | (rw [h44_5]; rfl) | (rw [h44_6]; rfl)), (by first | rfl | (rw [h44_0]; rfl) | (rw [h44_1]; rfl) | (rw [h44_2]; rfl) | (rw [h44_3]; rfl) | (rw [h44_4]; rfl) | (rw [h44_5]; rfl) | (rw [h44_6]; rfl)), (by first | rfl | (rw [h44]; rfl) | (simp only [h44, Bool.true_and, Bool.false_and, Bool.true_or, Bool.false_or, cond_true, cond_false]; done)), trivial⟩
              ·
               try simp only [go_sem, ↓iop_and, ↓iop_or, ↓iop_xor, ↓iop_andn, Nat.reduceEqDiff, reduceIte, Nat.reduceAdd, Nat.reduceMul, Nat.reduceSub, Nat.reduceLT, Nat.reduceLeDiff, h44]
               exact hK1 _ ⟨rfl, rfl, rfl, rfl, rfl, rfl, (by first | rfl | (rw [h44]; rfl) | (simp only [h44, Bool.true_and, Bool.false_and, Bool.true_or, Bool.false_or, cond_true, cond_false]; done)), trivial⟩
             ·
              refine xw_id ?_
              refine xw_stop 1 (by (try simp only [go_sem]); rfl) (by (try simp only [go_sem]); rfl) (by rfl) fun K1 hK1 => ?_
              refine xw_id ?_
              try simp only [go_sem, ↓iop_and, ↓iop_or, ↓iop_xor, ↓iop_andn, Nat.reduceEqDiff, reduceIte, Nat.reduceAdd, Nat.reduceMul, Nat.reduceSub, Nat.reduceLT, Nat.reduceLeDiff]
              refine hK1 _ ?_; clear hK1 K1
              refine xw_cut 3 [(23, (.ptr 2 0)), (27, (.ref 4 0 x45.1.length 1)), (28, (vi x45.2)), (29, (vb false)), (209, (vb ((((((((x51 && (x36.2 == 2)) && (x37.2 == 8)) && (x38.2 == 2)) && (x39.2 == 2)) && (x40.2 == 0)) && x40.1.Group) && (((x40.1.Aids.length : Nat) : Int) == 0)) && (x41.2 == 0))))] (by (try simp only [go_sem]); rfl) (by (try simp only [go_sem]); rfl) (by rfl) (fun K1 hK1 => ?_) fun tz => ?_
              ·
               refine xw_id ?_
               rcases Bool.eq_false_or_eq_true (((((((x51 && (x36.2 == 2)) && (x37.2 == 8)) && (x38.2 == 2)) && (x39.2 == 2)) && (x40.2 == 0)) && x40.1.Group) && (((x40.1.Aids.length : Nat) : Int) == 0)) with h45 | h45
               ·
                have h45_0 : (x51) = true := by simp only [Bool.and_eq_true] at h45; exact h45.1.1.1.1.1.1.1
                have h45_1 : (x36.2 == 2) = true := by simp only [Bool.and_eq_true] at h45; exact h45.1.1.1.1.1.1.2
                have h45_2 : (x37.2 == 8) = true := by simp only [Bool.and_eq_true] at h45; exact h45.1.1.1.1.1.2
                have h45_3 : (x38.2 == 2) = true := by simp only [Bool.and_eq_true] at h45; exact h45.1.1.1.1.2
                have h45_4 : (x39.2 == 2) = true := by simp only [Bool.and_eq_true] at h45; exact h45.1.1.1.2
                have h45_5 : (x40.2 == 0) = true := by simp only [Bool.and_eq_true] at h45; exact h45.1.1.2
                have h45_6 : (x40.1.Group) = true := by simp only [Bool.and_eq_true] at h45; exact h45.1.2
                have h45_7 : (((x40.1.Aids.length : Nat) : Int) == 0) = true := by simp only [Bool.and_eq_true] at h45; exact h45.2
                try simp only [go_sem, ↓iop_and, ↓iop_or, ↓iop_xor, ↓iop_andn, Nat.reduceEqDiff, reduceIte, Nat.reduceAdd, Nat.reduceMul, Nat.reduceSub, Nat.reduceLT, Nat.reduceLeDiff, h45, h45_0, h45_1, h45_2, h45_3, h45_4, h45_5, h45_6, h45_7]
                exact hK1 _ ⟨rfl, (by first | rfl | (rw [h45_0]; rfl) | (rw [h45_1]; rfl) | (rw [h45_2]; rfl) | (rw [h45_3]; rfl) | (rw [h45_4]; rfl) | (rw [h45_5]; rfl) | (rw [h45_6]; rfl) | (rw [h45_7]; rfl)), (by first | rfl | (rw [h45_0]; rfl) | (rw [h45_1]; rfl) | (rw [h45_2]; rfl) | (rw [h45_3]; rfl) | (rw [h45_4]; rfl) | (rw [h45_5]; rfl) | (rw [h45_6]; rfl) | (rw [h45_7]; rfl)), (by first | rfl | (rw [h45_0]; rfl) | (rw [h45_1]; rfl) | (rw [h45_2]; rfl) | (rw [h45_3]; rfl) | (rw [h45_4]; rfl) | (rw [h45_5]; rfl) | (rw [h45_6]; rfl) | (rw [h45_7]; rfl)), (by first | rfl | (rw [h45_0]; rfl) | (rw [h45_1]; rfl) | (rw [h45_2]; rfl) | (rw [h45_3]; rfl) | (rw [h45_4]; rfl) | (rw [h45_5]; rfl) | (rw [h45_6]; rfl) | (rw [h45_7]; rfl)), (by first | rfl | (rw [h45]; rfl) | (simp only [h45, Bool.true_and, Bool.false_and, Bool.true_or, Bool.false_or, cond_true, cond_false]; done)), trivial⟩
               ·
                try simp only [go_sem, ↓iop_and, ↓iop_or, ↓iop_xor, ↓iop_andn, Nat.reduceEqDiff, reduceIte, Nat.reduceAdd, Nat.reduceMul, Nat.reduceSub, Nat.reduceLT, Nat.reduceLeDiff, h45]
                exact hK1 _ ⟨rfl, rfl, rfl, rfl, rfl, (by first | rfl | (rw [h45]; rfl) | (simp only [h45, Bool.true_and, Bool.false_and, Bool.true_or, Bool.false_or, cond_true, cond_false]; done)), trivial⟩
              ·
               refine xw_id ?_
               refine xw_stop 1 (by (try simp only [go_sem]); rfl) (by (try simp only [go_sem]); rfl) (by rfl) fun K1 hK1 => ?_
               refine xw_id ?_
               try simp only [go_sem, ↓iop_and, ↓iop_or, ↓iop_xor, ↓iop_andn, Nat.reduceEqDiff, reduceIte, Nat.reduceAdd, Nat.reduceMul, Nat.reduceSub, Nat.reduceLT, Nat.reduceLeDiff]
               refine hK1 _ ?_; clear hK1 K1
               refine xw_cut 5 [(27, (.ref 4 0 x45.1.length 1)), (28, (vi x45.2)), (29, (vb false)), (215, (vb (((((((((x51 && (x36.2 == 2)) && (x37.2 == 8)) && (x38.2 == 2)) && (x39.2 == 2)) && (x40.2 == 0)) && x40.1.Group) && (((x40.1.Aids.length : Nat) : Int) == 0)) && (x41.2 == 0)) && (((x41.1.Aids.length : Nat) : Int) == 1))))] (by (try simp only [go_sem]); rfl) (by (try simp only [go_sem]); rfl) (by rfl) (fun K1 hK1 => ?_) fun tz => ?_
               ·
                refine xw_id ?_
                rcases Bool.eq_false_or_eq_true ((((((((x51 && (x36.2 == 2)) && (x37.2 == 8)) && (x38.2 == 2)) && (x39.2 == 2)) && (x40.2 == 0)) && x40.1.Group) && (((x40.1.Aids.length : Nat) : Int) == 0)) && (x41.2 == 0)) with h46 | h46
                ·
                 have h46_0 : (x51) = true := by simp only [Bool.and_eq_true] at h46; exact h46.1.1.1.1.1.1.1.1
                 have h46_1 : (x36.2 == 2) = true := by simp only [Bool.and_eq_true] at h46; exact h46.1.1.1.1.1.1.1.2
                 have h46_2 : (x37.2 == 8) = true := by simp only [Bool.and_eq_true] at h46; exact h46.1.1.1.1.1.1.2
                 have h46_3 : (x38.2 == 2) = true := by simp only [Bool.and_eq_true] at h46; exact h46.1.1.1.1.1.2
                 have h46_4 : (x39.2 == 2) = true := by simp only [Bool.and_eq_true] at h46; exact h46.1.1.1.1.2
                 have h46_5 : (x40.2 == 0) = true := by simp only [Bool.and_eq_true] at h46; exact h46.1.1.1.2
                 have h46_6 : (x40.1.Group) = true := by simp only [Bool.and_eq_true] at h46; exact h46.1.1.2
                 have h46_7 : (((x40.1.Aids.length : Nat) : Int) == 0) = true := by simp only [Bool.and_eq_true] at h46; exact h46.1.2
                 have h46_8 : (x41.2 == 0) = true := by simp only [Bool.and_eq_true] at h46; exact h46.2
                 try simp only [go_sem, ↓iop_and, ↓iop_or, ↓iop_xor, ↓iop_andn, Nat.reduceEqDiff, reduceIte, Nat.reduceAdd, Nat.reduceMul, Nat.reduceSub, Nat.reduceLT, Nat.reduceLeDiff, Int.reduceToNat, Int.reduceBEq, Int.reduceBNe, Int.reduceLT, Int.reduceLE, Int.reduceAdd, Int.reduceSub, Int.reduceMul, Int.reduceNeg, Int.reduceEq, Int.reduceNe, h46, h46_0, h46_1, h46_2, h46_3, h46_4, h46_5, h46_6, h46_7, h46_8]
                 exact hK1 _ ⟨rfl, (by first | rfl | (rw [h46_0]; rfl) | (rw [h46_1]; rfl) | (rw [h46_2]; rfl) | (rw [h46_3]; rfl) | (rw [h46_4]; rfl) | (rw [h46_5]; rfl) | (rw [h46_6]; rfl) | (rw [h46_7]; rfl) | (rw [h46_8]; rfl)), (by first | rfl | (rw [h46_0]; rfl) | (rw [h46_1]; rfl) | (rw [h46_2]; rfl) | (rw [h46_3]; rfl) | (rw [h46_4]; rfl) | (rw [h46_5]; rfl) | (rw [h46_6]; rfl) | (rw [h46_7]; rfl) | (rw [h46_8]; rfl)), (by first | rfl | (rw [h46_0]; rfl) | (rw [h46_1]; rfl) | (rw [h46_2]; rfl) | (rw [h46_3]; rfl) | (rw [h46_4]; rfl) | (rw [h46_5]; rfl) | (rw [h46_6]; rfl) | (rw [h46_7]; rfl) | (rw [h46_8]; rfl)), (by first | rfl | (rw [h46]; rfl) | (simp only [h46, Bool.true_and, Bool.false_and, Bool.true_or, Bool.false_or, cond_true, cond_false]; done)), trivial⟩
                ·
                 try simp only [go_sem, ↓iop_and, ↓iop_or, ↓iop_xor, ↓iop_andn, Nat.reduceEqDiff, reduceIte, Nat.reduceAdd, Nat.reduceMul, Nat.reduceSub, Nat.reduceLT, Nat.reduceLeDiff, h46]
                 exact hK1 _ ⟨rfl, rfl, rfl, rfl, (by first | rfl | (rw [h46]; rfl) | (simp only [h46, Bool.true_and, Bool.false_and, Bool.true_or, Bool.false_or, cond_true, cond_false]; done)), trivial⟩
               ·
                refine xw_id ?_
                refine xw_stop 1 (by (try simp only [go_sem]); rfl) (by (try simp only [go_sem]); rfl) (by rfl) fun K1 hK1 => ?_
                refine xw_id ?_
                try simp only [go_sem, ↓iop_and, ↓iop_or, ↓iop_xor, ↓iop_andn, Nat.reduceEqDiff, reduceIte, Nat.reduceAdd, Nat.reduceMul, Nat.reduceSub, Nat.reduceLT, Nat.reduceLeDiff]
                refine hK1 _ ?_; clear hK1 K1
                refine xw_cut 3 [(27, (.ref 4 0 x45.1.length 1)), (29, (vb false)), (219, (vb ((((((((((x51 && (x36.2 == 2)) && (x37.2 == 8)) && (x38.2 == 2)) && (x39.2 == 2)) && (x40.2 == 0)) && x40.1.Group) && (((x40.1.Aids.length : Nat) : Int) == 0)) && (x41.2 == 0)) && (((x41.1.Aids.length : Nat) : Int) == 1)) && (x45.2 == 0))))] (by (try simp only [go_sem]); rfl) (by (try simp only [go_sem]); rfl) (by rfl) (fun K1 hK1 => ?_) fun tz => ?_
                ·
                 refine xw_id ?_
                 rcases Bool.eq_false_or_eq_true (((((((((x51 && (x36.2 == 2)) && (x37.2 == 8)) && (x38.2 == 2)) && (x39.2 == 2)) && (x40.2 == 0)) && x40.1.Group) && (((x40.1.Aids.length : Nat) : Int) == 0)) && (x41.2 == 0)) && (((x41.1.Aids.length : Nat) : Int) == 1)) with h47 | h47
                 ·
                  have h47_0 : (x51) = true := by simp only [Bool.and_eq_true] at h47; exact h47.1.1.1.1.1.1.1.1.1
                  have h47_1 : (x36.2 == 2) = true := by simp only [Bool.and_eq_true] at h47; exact h47.1.1.1.1.1.1.1.1.2
                  have h47_2 : (x37.2 == 8) = true := by simp only [Bool.and_eq_true] at h47; exact h47.1.1.1.1.1.1.1.2
                  have h47_3 : (x38.2 == 2) = true := by simp only [Bool.and_eq_true] at h47; exact h47.1.1.1.1.1.1.2
                  have h47_4 : (x39.2 == 2) = true := by simp only [Bool.and_eq_true] at h47; exact h47.1.1.1.1.1.2
                  have h47_5 : (x40.2 == 0) = true := by simp only [Bool.and_eq_true] at h47; exact h47.1.1.1.1.2
                  have h47_6 : (x40.1.Group) = true := by simp only [Bool.and_eq_true] at h47; exact h47.1.1.1.2
                  have h47_7 : (((x40.1.Aids.length : Nat) : Int) == 0) = true := by simp only [Bool.and_eq_true] at h47; exact h47.1.1.2
                  have h47_8 : (x41.2 == 0) = true := by simp only [Bool.and_eq_true] at h47; exact h47.1.2
                  have h47_9 : (((x41.1.Aids.length : Nat) : Int) == 1) = true := by simp only [Bool.and_eq_true] at h47; exact h47.2
                  try simp only [go_sem, ↓iop_and, ↓iop_or, ↓iop_xor, ↓iop_andn, Nat.reduceEqDiff, reduceIte, Nat.reduceAdd, Nat.reduceMul, Nat.reduceSub, Nat.reduceLT, Nat.reduceLeDiff, h47, h47_0, h47_1, h47_2, h47_3, h47_4, h47_5, h47_6, h47_7, h47_8, h47_9]
                  exact hK1 _ ⟨rfl, (by first | rfl | (rw [h47_0]; rfl) | (rw [h47_1]; rfl) | (rw [h47_2]; rfl) | (rw [h47_3]; rfl) | (rw [h47_4]; rfl) | (rw [h47_5]; rfl) | (rw [h47_6]; rfl) | (rw [h47_7]; rfl) | (rw [h47_8]; rfl) | (rw [h47_9]; rfl)), (by first | rfl | (rw [h47_0]; rfl) | (rw [h47_1]; rfl) | (rw [h47_2]; rfl) | (rw [h47_3]; rfl) | (rw [h47_4]; rfl) | (rw [h47_5]; rfl) | (rw [h47_6]; rfl) | (rw [h47_7]; rfl) | (rw [h47_8]; rfl) | (rw [h47_9]; rfl)), (by first | rfl | (rw [h47]; rfl) | (simp only [h47, Bool.true_and, Bool.false_and, Bool.true_or, Bool.false_or, cond_true, cond_false]; done)), trivial⟩
                 ·
                  try simp only [go_sem, ↓iop_and, ↓iop_or, ↓iop_xor, ↓iop_andn, Nat.reduceEqDiff, reduceIte, Nat.reduceAdd, Nat.reduceMul, Nat.reduceSub, Nat.reduceLT, Nat.reduceLeDiff, h47]
                  exact hK1 _ ⟨rfl, rfl, rfl, (by first | rfl | (rw [h47]; rfl) | (simp only [h47, Bool.true_and, Bool.false_and, Bool.true_or, Bool.false_or, cond_true, cond_false]; done)), trivial⟩
                ·
                 refine xw_id ?_
                 rcases Bool.eq_false_or_eq_true ((((((((((x51 && (x36.2 == 2)) && (x37.2 == 8)) && (x38.2 == 2)) && (x39.2 == 2)) && (x40.2 == 0)) && x40.1.Group) && (((x40.1.Aids.length : Nat) : Int) == 0)) && (x41.2 == 0)) && (((x41.1.Aids.length : Nat) : Int) == 1)) && (x45.2 == 0)) with h48 | h48
                 ·
                  have h0 := cT h0 h48
                  obtain ⟨x52, bx52, h0⟩ := bnd h0
                  try simp only [go_sem, ↓iop_and, ↓iop_or, ↓iop_xor, ↓iop_andn, Nat.reduceEqDiff, reduceIte, Nat.reduceAdd, Nat.reduceMul, Nat.reduceSub, Nat.reduceLT, Nat.reduceLeDiff, h48]
                  refine xcall_L (by first | (simp only [go_sem, fz, ↓iop_and, ↓iop_or, ↓iop_xor, ↓iop_andn, Nat.reduceEqDiff, reduceIte, Nat.reduceAdd, Nat.reduceMul, Nat.reduceSub, Nat.reduceLT, Nat.reduceLeDiff, h48]; done) | (simp only [go_sem, fz, ↓iop_and, ↓iop_or, ↓iop_xor, ↓iop_andn, Nat.reduceEqDiff, reduceIte, Nat.reduceAdd, Nat.reduceMul, Nat.reduceSub, Nat.reduceLT, Nat.reduceLeDiff, h48]; rfl) | (simp only [go_sem, fz, List.length_set, ble_self, take_set, cond_true, cond_false, ↓iop_and, ↓iop_or, ↓iop_xor, ↓iop_andn, Nat.reduceEqDiff, reduceIte, Nat.reduceAdd, Nat.reduceMul, Nat.reduceSub, Nat.reduceLT, Nat.reduceLeDiff, h48]; done) | (simp only [go_sem, fz, List.length_set, ble_self, take_set, cond_true, cond_false, ↓iop_and, ↓iop_or, ↓iop_xor, ↓iop_andn, Nat.reduceEqDiff, reduceIte, Nat.reduceAdd, Nat.reduceMul, Nat.reduceSub, Nat.reduceLT, Nat.reduceLeDiff, h48]; rfl)) (hotspotref33_Same_p x45.1 [3, 255, 0] bx52) (Bare.v _) ?_; try dsimp only
                  try refine xw_id ?_
                  refine xw_stop 2 (by (try simp only [go_sem]); rfl) (by (try simp only [go_sem]); rfl) (by rfl) fun K1 hK1 => ?_
                  refine xw_id ?_
                  try simp only [go_sem, ↓iop_and, ↓iop_or, ↓iop_xor, ↓iop_andn, Nat.reduceEqDiff, reduceIte, Nat.reduceAdd, Nat.reduceMul, Nat.reduceSub, Nat.reduceLT, Nat.reduceLeDiff, h48]
                  refine hK1 _ ?_; clear hK1 K1
                  refine xw_cut 2 [(227, (vb (x52 && false)))] (by (try simp only [go_sem]); rfl) (by (try simp only [go_sem]); rfl) (by rfl) (fun K1 hK1 => ?_) fun tz => ?_
                  ·
                   refine xw_id ?_
                   rcases Bool.eq_false_or_eq_true x52 with h49 | h49
                   ·
                    try simp only [go_sem, ↓iop_and, ↓iop_or, ↓iop_xor, ↓iop_andn, Nat.reduceEqDiff, reduceIte, Nat.reduceAdd, Nat.reduceMul, Nat.reduceSub, Nat.reduceLT, Nat.reduceLeDiff, h48, h49]
                    exact hK1 _ ⟨rfl, (by first | rfl | (rw [h49]; rfl) | (simp only [h49, Bool.true_and, Bool.false_and, Bool.true_or, Bool.false_or, cond_true, cond_false]; done)), trivial⟩
                   ·
                    try simp only [go_sem, ↓iop_and, ↓iop_or, ↓iop_xor, ↓iop_andn, Nat.reduceEqDiff, reduceIte, Nat.reduceAdd, Nat.reduceMul, Nat.reduceSub, Nat.reduceLT, Nat.reduceLeDiff, h48, h49]
                    exact hK1 _ ⟨rfl, (by first | rfl | (rw [h49]; rfl) | (simp only [h49, Bool.true_and, Bool.false_and, Bool.true_or, Bool.false_or, cond_true, cond_false]; done)), trivial⟩
                  ·
                   refine xw_id ?_
                   try simp only [go_sem, ↓iop_and, ↓iop_or, ↓iop_xor, ↓iop_andn, Nat.reduceEqDiff, reduceIte, Nat.reduceAdd, Nat.reduceMul, Nat.reduceSub, Nat.reduceLT, Nat.reduceLeDiff, h48]
                   refine hKK _ _ (Wk.refl _ _ _) ?_; clear hKK KK
                   refine awp_ret1 ?_
                   obtain rfl := someInj h0
                   refine endW_i ?_
                   refine end_ret0 rs10 (rfl) ?_
                   try simp only [go_sem, ↓iop_and, ↓iop_or, ↓iop_xor, ↓iop_andn, Nat.reduceEqDiff, reduceIte, Nat.reduceAdd, Nat.reduceMul, Nat.reduceSub, Nat.reduceLT, Nat.reduceLeDiff, fz, nilS, packR, List.take_nil, List.take_length, List.length_map, List.length_append, cond_true, cond_false, Nat.ble_eq, ble_self]
                   all_goals first | rfl | (simp only [go_sem, ↓iop_and, ↓iop_or, ↓iop_xor, ↓iop_andn, Nat.reduceEqDiff, reduceIte, Nat.reduceAdd, Nat.reduceMul, Nat.reduceSub, Nat.reduceLT, Nat.reduceLeDiff, fz, nilS, packR, List.take_nil, List.take_length, List.length_map, List.length_append, cond_true, cond_false, Nat.ble_eq, ble_self, List.map_append] <;> rfl)
                 ·
                  have h0 := cF h0 h48
                  try simp only [go_sem, ↓iop_and, ↓iop_or, ↓iop_xor, ↓iop_andn, Nat.reduceEqDiff, reduceIte, Nat.reduceAdd, Nat.reduceMul, Nat.reduceSub, Nat.reduceLT, Nat.reduceLeDiff, h48]
                  refine hKK _ _ (Wk.refl _ _ _) ?_; clear hKK KK
                  refine awp_ret1 ?_
                  obtain rfl := someInj h0
                  refine endW_i ?_
                  refine end_ret0 rs10 (rfl) ?_
                  try simp only [go_sem, ↓iop_and, ↓iop_or, ↓iop_xor, ↓iop_andn, Nat.reduceEqDiff, reduceIte, Nat.reduceAdd, Nat.reduceMul, Nat.reduceSub, Nat.reduceLT, Nat.reduceLeDiff, fz, nilS, packR, List.take_nil, List.take_length, List.length_map, List.length_append, cond_true, cond_false, Nat.ble_eq, ble_self]
                  all_goals first | rfl | (simp only [go_sem, ↓iop_and, ↓iop_or, ↓iop_xor, ↓iop_andn, Nat.reduceEqDiff, reduceIte, Nat.reduceAdd, Nat.reduceMul, Nat.reduceSub, Nat.reduceLT, Nat.reduceLeDiff, fz, nilS, packR, List.take_nil, List.take_length, List.length_map, List.length_append, cond_true, cond_false, Nat.ble_eq, ble_self, List.map_append] <;> rfl)
     ·
      have h0 := cF h0 h24
      try simp only [go_sem, ↓iop_and, ↓iop_or, ↓iop_xor, ↓iop_andn, Nat.reduceEqDiff, reduceIte, Nat.reduceAdd, Nat.reduceMul, Nat.reduceSub, Nat.reduceLT, Nat.reduceLeDiff, h24]
      refine hKK _ (hotspotlaw33_BitmapNames_S23 x40 x41 x45 x36 x37 x38 x39) (by refine Wk.canonD [] [] [some 0, some 1, some 2, some 3, some 13] rfl trivial rfl (tmOU 4 (tmOU 3 (tmOU 2 (tmOU 1 (tmOU 0 tmO0 rfl List.not_mem_nil (by simp only [upd_get, ↓iop_and, ↓iop_or, ↓iop_xor, ↓iop_andn, Nat.reduceEqDiff, reduceIte, Nat.reduceAdd, Nat.reduceMul, Nat.reduceSub, Nat.reduceLT, Nat.reduceLeDiff, if_true, if_false] <;> rfl) (e_Traffic_tmx (by rfl) (Tm.refL rfl ?_))) rfl List.not_mem_nil (by simp only [upd_get, ↓iop_and, ↓iop_or, ↓iop_xor, ↓iop_andn, Nat.reduceEqDiff, reduceIte, Nat.reduceAdd, Nat.reduceMul, Nat.reduceSub, Nat.reduceLT, Nat.reduceLeDiff, if_true, if_false] <;> rfl) (TmL.of_eq (by first | rfl | (simp only [List.flatMap_append, List.flatMap_cons, List.flatMap_nil, List.map_append, List.map_cons, List.map_nil, List.append_nil, List.nil_append]; done) | (simp only [List.flatMap_append, List.flatMap_cons, List.flatMap_nil, List.map_append, List.map_cons, List.map_nil, List.append_nil, List.nil_append]; rfl)) (vi_clean _))) rfl List.not_mem_nil (by simp only [upd_get, ↓iop_and, ↓iop_or, ↓iop_xor, ↓iop_andn, Nat.reduceEqDiff, reduceIte, Nat.reduceAdd, Nat.reduceMul, Nat.reduceSub, Nat.reduceLT, Nat.reduceLeDiff, if_true, if_false] <;> rfl) (e_Traffic_tmx (by rfl) (Tm.refL rfl ?_))) rfl List.not_mem_nil (by simp only [upd_get, ↓iop_and, ↓iop_or, ↓iop_xor, ↓iop_andn, Nat.reduceEqDiff, reduceIte, Nat.reduceAdd, Nat.reduceMul, Nat.reduceSub, Nat.reduceLT, Nat.reduceLeDiff, if_true, if_false] <;> rfl) (TmL.of_eq (by first | rfl | (simp only [List.flatMap_append, List.flatMap_cons, List.flatMap_nil, List.map_append, List.map_cons, List.map_nil, List.append_nil, List.nil_append]; done) | (simp only [List.flatMap_append, List.flatMap_cons, List.flatMap_nil, List.map_append, List.map_cons, List.map_nil, List.append_nil, List.nil_append]; rfl)) (vi_clean _))) rfl List.not_mem_nil (by simp only [upd_get, ↓iop_and, ↓iop_or, ↓iop_xor, ↓iop_andn, Nat.reduceEqDiff, reduceIte, Nat.reduceAdd, Nat.reduceMul, Nat.reduceSub, Nat.reduceLT, Nat.reduceLeDiff, if_true, if_false] <;> rfl) (TmL.of_eq (by first | rfl | (simp only [List.flatMap_append, List.flatMap_cons, List.flatMap_nil, List.map_append, List.map_cons, List.map_nil, List.append_nil, List.nil_append]; done) | (simp only [List.flatMap_append, List.flatMap_cons, List.flatMap_nil, List.map_append, List.map_cons, List.map_nil, List.append_nil, List.nil_append]; rfl)) (vu_clean _))) (tmAllU 29 (tmAllU 28 (tmAllU 27 (tmAllU 24 (tmAllU 23 (tmAllU 22 (tmAllU 21 (tmAllU 20 (tmAllU 18 (tmAllU 16 (tmAllU 14 tmAll0 (Tm.v _)) (Tm.v _)) (Tm.v _)) (Tm.v _)) (Tm.ptr rfl)) (Tm.v _)) (Tm.ptr rfl)) (Tm.v _)) (Tm.refL rfl ?_)) (Tm.v _)) (Tm.v _)); all_goals (first | rfl | (simp only [List.length_take]; omega) | (simp only [List.length_append, List.length_cons, List.length_nil, List.length_modify, List.length_set, Nat.zero_add]; done) | (simp only [List.length_append, List.length_take, List.length_drop, List.length_cons, List.length_nil, List.length_modify, List.length_set, Nat.zero_add]; omega) | (simp only [List.length_append, List.length_take, List.length_drop, List.length_cons, List.length_nil, List.length_modify, List.length_set, Nat.zero_add]; done) | omega)) ?_; clear hKK KK
      unfold hotspotlaw33_BitmapNames_S23
      refine awp_nr [14,16,18,20,21,22,23,24,27,28,29] (fun _ => rfl) fun tz => ?_
      refine awp_regW fun KK hKK => ?_
      refine xw_id ?_
      try simp only [List.append_eq, Array.toList_append, List.append_toArray, List.toList_toArray, List.cons_append, List.nil_append]
      obtain ⟨x53, bx53, h0⟩ := bnd h0
      try simp only [go_sem, ↓iop_and, ↓iop_or, ↓iop_xor, ↓iop_andn, Nat.reduceEqDiff, reduceIte, Nat.reduceAdd, Nat.reduceMul, Nat.reduceSub, Nat.reduceLT, Nat.reduceLeDiff]
      refine xcall_p (hotspotlaw33_alive_p  bx53) ?_; try dsimp only
      try refine xw_id ?_
      refine xw_stop 2 (by (try simp only [go_sem]); rfl) (by (try simp only [go_sem]); rfl) (by rfl) fun K1 hK1 => ?_
      refine xw_id ?_
      try simp only [go_sem, ↓iop_and, ↓iop_or, ↓iop_xor, ↓iop_andn, Nat.reduceEqDiff, reduceIte, Nat.reduceAdd, Nat.reduceMul, Nat.reduceSub, Nat.reduceLT, Nat.reduceLeDiff]
      refine hK1 _ ?_; clear hK1 K1
      refine xw_cut 3 [(16, (vi x37.2)), (18, (vi x38.2)), (20, (vi x39.2)), (21, (.ptr 0 0)), (22, (vi x40.2)), (23, (.ptr 2 0)), (24, (vi x41.2)), (27, (.ref 4 0 x45.1.length 1)), (28, (vi x45.2)), (29, (vb false)), (179, (vb (x53 && (x36.2 == 2))))] (by (try simp only [go_sem]); rfl) (by (try simp only [go_sem]); rfl) (by rfl) (fun K1 hK1 => ?_) fun tz => ?_
      ·
       refine xw_id ?_
       rcases Bool.eq_false_or_eq_true x53 with h50 | h50
       ·
        try simp only [go_sem, ↓iop_and, ↓iop_or, ↓iop_xor, ↓iop_andn, Nat.reduceEqDiff, reduceIte, Nat.reduceAdd, Nat.reduceMul, Nat.reduceSub, Nat.reduceLT, Nat.reduceLeDiff, h50]
        exact hK1 _ ⟨rfl, rfl, rfl, rfl, rfl, rfl, rfl, rfl, rfl, rfl, rfl, (by first | rfl | (rw [h50]; rfl) | (simp only [h50, Bool.true_and, Bool.false_and, Bool.true_or, Bool.false_or, cond_true, cond_false]; done)), trivial⟩
       ·
        try simp only [go_sem, ↓iop_and, ↓iop_or, ↓iop_xor, ↓iop_andn, Nat.reduceEqDiff, reduceIte, Nat.reduceAdd, Nat.reduceMul, Nat.reduceSub, Nat.reduceLT, Nat.reduceLeDiff, h50]
        exact hK1 _ ⟨rfl, rfl, rfl, rfl, rfl, rfl, rfl, rfl, rfl, rfl, rfl, (by first | rfl | (rw [h50]; rfl) | (simp only [h50, Bool.true_and, Bool.false_and, Bool.true_or, Bool.false_or, cond_true, cond_false]; done)), trivial⟩
      ·
       refine xw_id ?_
       refine xw_stop 1 (by (try simp only [go_sem]); rfl) (by (try simp only [go_sem]); rfl) (by rfl) fun K1 hK1 => ?_
       refine xw_id ?_
       try simp only [go_sem, ↓iop_and, ↓iop_or, ↓iop_xor, ↓iop_andn, Nat.reduceEqDiff, reduceIte, Nat.reduceAdd, Nat.reduceMul, Nat.reduceSub, Nat.reduceLT, Nat.reduceLeDiff]
       refine hK1 _ ?_; clear hK1 K1
       refine xw_cut 3 [(18, (vi x38.2)), (20, (vi x39.2)), (21, (.ptr 0 0)), (22, (vi x40.2)), (23, (.ptr 2 0)), (24, (vi x41.2)), (27, (.ref 4 0 x45.1.length 1)), (28, (vi x45.2)), (29, (vb false)), (183, (vb ((x53 && (x36.2 == 2)) && (x37.2 == 8))))] (by (try simp only [go_sem]); rfl) (by (try simp only [go_sem]); rfl) (by rfl) (fun K1 hK1 => ?_) fun tz => ?_
       ·
        refine xw_id ?_
        rcases Bool.eq_false_or_eq_true (x53 && (x36.2 == 2)) with h51 | h51
        ·
         have h51_0 : (x53) = true := by simp only [Bool.and_eq_true] at h51; exact h51.1
         have h51_1 : (x36.2 == 2) = true := by simp only [Bool.and_eq_true] at h51; exact h51.2
         try simp only [go_sem, ↓iop_and, ↓iop_or, ↓iop_xor, ↓iop_andn, Nat.reduceEqDiff, reduceIte, Nat.reduceAdd, Nat.reduceMul, Nat.reduceSub, Nat.reduceLT, Nat.reduceLeDiff, h51, h51_0, h51_1]
         exact hK1 _ ⟨rfl, (by first | rfl | (rw [h51_0]; rfl) | (rw [h51_1]; rfl)), (by first | rfl | (rw [h51_0]; rfl) | (rw [h51_1]; rfl)), (by first | rfl | (rw [h51_0]; rfl) | (rw [h51_1]; rfl)), (by first | rfl | (rw [h51_0]; rfl) | (rw [h51_1]; rfl)), (by first | rfl | (rw [h51_0]; rfl) | (rw [h51_1]; rfl)), (by first | rfl | (rw [h51_0]; rfl) | (rw [h51_1]; rfl)), (by first | rfl | (rw [h51_0]; rfl) | (rw [h51_1]; rfl)), (by first | rfl | (rw [h51_0]; rfl) | (rw [h51_1]; rfl)), (by first | rfl | (rw [h51_0]; rfl) | (rw [h51_1]; rfl)), (by first | rfl | (rw [h51]; rfl) | (simp only [h51, Bool.true_and, Bool.false_and, Bool.true_or, Bool.false_or, cond_true, cond_false]; done)), trivial⟩
        ·
         try simp only [go_sem, ↓iop_and, ↓iop_or, ↓iop_xor, ↓iop_andn, Nat.reduceEqDiff, reduceIte, Nat.reduceAdd, Nat.reduceMul, Nat.reduceSub, Nat.reduceLT, Nat.reduceLeDiff, h51]
         exact hK1 _ ⟨rfl, rfl, rfl, rfl, rfl, rfl, rfl, rfl, rfl, rfl, (by first | rfl | (rw [h51]; rfl) | (simp only [h51, Bool.true_and, Bool.false_and, Bool.true_or, Bool.false_or, cond_true, cond_false]; done)), trivial⟩
       ·
        refine xw_id ?_
        refine xw_stop 1 (by (try simp only [go_sem]); rfl) (by (try simp only [go_sem]); rfl) (by rfl) fun K1 hK1 => ?_
        refine xw_id ?_
        try simp only [go_sem, ↓iop_and, ↓iop_or, ↓iop_xor, ↓iop_andn, Nat.reduceEqDiff, reduceIte, Nat.reduceAdd, Nat.reduceMul, Nat.reduceSub, Nat.reduceLT, Nat.reduceLeDiff]
        refine hK1 _ ?_; clear hK1 K1
        refine xw_cut 3 [(20, (vi x39.2)), (21, (.ptr 0 0)), (22, (vi x40.2)), (23, (.ptr 2 0)), (24, (vi x41.2)), (27, (.ref 4 0 x45.1.length 1)), (28, (vi x45.2)), (29, (vb false)), (187, (vb (((x53 && (x36.2 == 2)) && (x37.2 == 8)) && (x38.2 == 2))))] (by (try simp only [go_sem]); rfl) (by (try simp only [go_sem]); rfl) (by rfl) (fun K1 hK1 => ?_) fun tz => ?_
        ·
         refine xw_id ?_
         rcases Bool.eq_false_or_eq_true ((x53 && (x36.2 == 2)) && (x37.2 == 8)) with h52 | h52
         ·
          have h52_0 : (x53) = true := by simp only [Bool.and_eq_true] at h52; exact h52.1.1
          have h52_1 : (x36.2 == 2) = true := by simp only [Bool.and_eq_true] at h52; exact h52.1.2
          have h52_2 : (x37.2 == 8) = true := by simp only [Bool.and_eq_true] at h52; exact h52.2
          try simp only [go_sem, ↓iop_and, ↓iop_or, ↓iop_xor, ↓iop_andn, Nat.reduceEqDiff, reduceIte, Nat.reduceAdd, Nat.reduceMul, Nat.reduceSub, Nat.reduceLT, Nat.reduceLeDiff, h52, h52_0, h52_1, h52_2]
          exact hK1 _ ⟨rfl, (by first | rfl | (rw [h52_0]; rfl) | (rw [h52_1]; rfl) | (rw [h52_2]; rfl)), (by first | rfl | (rw [h52_0]; rfl) | (rw [h52_1]; rfl) | (rw [h52_2]; rfl)), (by first | rfl | (rw [h52_0]; rfl) | (rw [h52_1]; rfl) | (rw [h52_2]; rfl)), (by first | rfl | (rw [h52_0]; rfl) | (rw [h52_1]; rfl) | (rw [h52_2]; rfl)), (by first | rfl | (rw [h52_0]; rfl) | (rw [h52_1]; rfl) | (rw [h52_2]; rfl)), (by first | rfl | (rw [h52_0]; rfl) | (rw [h52_1]; rfl) | (rw [h52_2]; rfl)), (by first | rfl | (rw [h52_0]; rfl) | (rw [h52_1]; rfl) | (rw [h52_2]; rfl)), (by first | rfl | (rw [h52_0]; rfl) | (rw [h52_1]; rfl) | (rw [h52_2]; rfl)), (by first | rfl | (rw [h52]; rfl) | (simp only [h52, Bool.true_and, Bool.false_and, Bool.true_or, Bool.false_or, cond_true, cond_false]; done)), trivial⟩
         ·
          try simp only [go_sem, ↓iop_and, ↓iop_or, ↓iop_xor, ↓iop_andn, Nat.reduceEqDiff, reduceIte, Nat.reduceAdd, Nat.reduceMul, Nat.reduceSub, Nat.reduceLT, Nat.reduceLeDiff, h52]
          exact hK1 _ ⟨rfl, rfl, rfl, rfl, rfl, rfl, rfl, rfl, rfl, (by first | rfl | (rw [h52]; rfl) | (simp only [h52, Bool.true_and, Bool.false_and, Bool.true_or, Bool.false_or, cond_true, cond_false]; done)), trivial⟩
        ·
         refine xw_id ?_
         refine xw_stop 1 (by (try simp only [go_sem]); rfl) (by (try simp only [go_sem]); rfl) (by rfl) fun K1 hK1 => ?_
         refine xw_id ?_
         try simp only [go_sem, ↓iop_and, ↓iop_or, ↓iop_xor, ↓iop_andn, Nat.reduceEqDiff, reduceIte, Nat.reduceAdd, Nat.reduceMul, Nat.reduceSub, Nat.reduceLT, Nat.reduceLeDiff]
         refine hK1 _ ?_; clear hK1 K1
         refine xw_cut 3 [(21, (.ptr 0 0)), (22, (vi x40.2)), (23, (.ptr 2 0)), (24, (vi x41.2)), (27, (.ref 4 0 x45.1.length 1)), (28, (vi x45.2)), (29, (vb false)), (191, (vb ((((x53 && (x36.2 == 2)) && (x37.2 == 8)) && (x38.2 == 2)) && (x39.2 == 2))))] (by (try simp only [go_sem]); rfl) (by (try simp only [go_sem]); rfl) (by rfl) (fun K1 hK1 => ?_) fun tz => ?_
         ·
          refine xw_id ?_
          rcases Bool.eq_false_or_eq_true (((x53 && (x36.2 == 2)) && (x37.2 == 8)) && (x38.2 == 2)) with h53 | h53
          ·
           have h53_0 : (x53) = true := by simp only [Bool.and_eq_true] at h53; exact h53.1.1.1
           have h53_1 : (x36.2 == 2) = true := by simp only [Bool.and_eq_true] at h53; exact h53.1.1.2
           have h53_2 : (x37.2 == 8) = true := by simp only [Bool.and_eq_true] at h53; exact h53.1.2
           have h53_3 : (x38.2 == 2) = true := by simp only [Bool.and_eq_true] at h53; exact h53.2
           try simp only [go_sem, ↓iop_and, ↓iop_or, ↓iop_xor, ↓iop_andn, Nat.reduceEqDiff, reduceIte, Nat.reduceAdd, Nat.reduceMul, Nat.reduceSub, Nat.reduceLT, Nat.reduceLeDiff, h53, h53_0, h53_1, h53_2, h53_3]
           exact hK1 _ ⟨rfl, (by first | rfl | (rw [h53_0]; rfl) | (rw [h53_1]; rfl) | (rw [h53_2]; rfl) | (rw [h53_3]; rfl)), (by first | rfl | (rw [h53_0]; rfl) | (rw [h53_1]; rfl) | (rw [h53_2]; rfl) | (rw [h53_3]; rfl)), (by first | rfl | (rw [h53_0]; rfl) | (rw [h53_1]; rfl) | (rw [h53_2]; rfl) | (rw [h53_3]; rfl)), (by first | rfl | (rw [h53_0]; rfl) | (rw [h53_1]; rfl) | (rw [h53_2]; rfl) | (rw [h53_3]; rfl)), (by first | rfl | (rw [h53_0]; rfl) | (rw [h53_1]; rfl) | (rw [h53_2]; rfl) | (rw [h53_3]; rfl)), (by first | rfl | (rw [h53_0]; rfl) | (rw [h53_1]; rfl) | (rw [h53_2]; rfl) | (rw [h53_3]; rfl)), (by first | rfl | (rw [h53_0]; rfl) | (rw [h53_1]; rfl) | (rw [h53_2]; rfl) | (rw [h53_3]; rfl)), (by first | rfl | (rw [h53]; rfl) | (simp only [h53, Bool.true_and, Bool.false_and, Bool.true_or, Bool.false_or, cond_true, cond_false]; done)), trivial⟩
          ·
           try simp only [go_sem, ↓iop_and, ↓iop_or, ↓iop_xor, ↓iop_andn, Nat.reduceEqDiff, reduceIte, Nat.reduceAdd, Nat.reduceMul, Nat.reduceSub, Nat.reduceLT, Nat.reduceLeDiff, h53]
           exact hK1 _ ⟨rfl, rfl, rfl, rfl, rfl, rfl, rfl, rfl, (by first | rfl | (rw [h53]; rfl) | (simp only [h53, Bool.true_and, Bool.false_and, Bool.true_or, Bool.false_or, cond_true, cond_false]; done)), trivial⟩
         ·
          refine xw_id ?_
          refine xw_stop 1 (by (try simp only [go_sem]); rfl) (by (try simp only [go_sem]); rfl) (by rfl) fun K1 hK1 => ?_
          refine xw_id ?_
          try simp only [go_sem, ↓iop_and, ↓iop_or, ↓iop_xor, ↓iop_andn, Nat.reduceEqDiff, reduceIte, Nat.reduceAdd, Nat.reduceMul, Nat.reduceSub, Nat.reduceLT, Nat.reduceLeDiff]
          refine hK1 _ ?_; clear hK1 K1
          refine xw_cut 3 [(21, (.ptr 0 0)), (23, (.ptr 2 0)), (24, (vi x41.2)), (27, (.ref 4 0 x45.1.length 1)), (28, (vi x45.2)), (29, (vb false)), (195, (vb (((((x53 && (x36.2 == 2)) && (x37.2 == 8)) && (x38.2 == 2)) && (x39.2 == 2)) && (x40.2 == 0))))] (by (try simp only [go_sem]); rfl) (by (try simp only [go_sem]); rfl) (by rfl) (fun K1 hK1 => ?_) fun tz => ?_
          ·
           refine xw_id ?_
           rcases Bool.eq_false_or_eq_true ((((x53 && (x36.2 == 2)) && (x37.2 == 8)) && (x38.2 == 2)) && (x39.2 == 2)) with h54 | h54
           ·
            have h54_0 : (x53) = true := by simp only [Bool.and_eq_true] at h54; exact h54.1.1.1.1
            have h54_1 : (x36.2 == 2) = true := by simp only [Bool.and_eq_true] at h54; exact h54.1.1.1.2
            have h54_2 : (x37.2 == 8) = true := by simp only [Bool.and_eq_true] at h54; exact h54.1.1.2
            have h54_3 : (x38.2 == 2) = true := by simp only [Bool.and_eq_true] at h54; exact h54.1.2
            have h54_4 : (x39.2 == 2) = true := by simp only [Bool.and_eq_true] at h54; exact h54.2
            try simp only [go_sem, ↓iop_and, ↓iop_or, ↓iop_xor, ↓iop_andn, Nat.reduceEqDiff, reduceIte, Nat.reduceAdd, Nat.reduceMul, Nat.reduceSub, Nat.reduceLT, Nat.reduceLeDiff, h54, h54_0, h54_1, h54_2, h54_3, h54_4]
            exact hK1 _ ⟨rfl, (by first | rfl | (rw [h54_0]; rfl) | (rw [h54_1]; rfl) | (rw [h54_2]; rfl) | (rw [h54_3]; rfl) | (rw [h54_4]; rfl)), (by first | rfl | (rw [h54_0]; rfl) | (rw [h54_1]; rfl) | (rw [h54_2]; rfl) | (rw [h54_3]; rfl) | (rw [h54_4]; rfl)), (by first | rfl | (rw [h54_0]; rfl) | (rw [h54_1]; rfl) | (rw [h54_2]; rfl) | (rw [h54_3]; rfl) | (rw [h54_4]; rfl)), (by first | rfl | (rw [h54_0]; rfl) | (rw [h54_1]; rfl) | (rw [h54_2]; rfl) | (rw [h54_3]; rfl) | (rw [h54_4]; rfl)), (by first | rfl | (rw [h54_0]; rfl) | (rw [h54_1]; rfl) | (rw [h54_2]; rfl) | (rw [h54_3]; rfl) | (rw [h54_4]; rfl)), (by first | rfl | (rw [h54_0]; rfl) | (rw [h54_1]; rfl) | (rw [h54_2]; rfl) | (rw [h54_3]; rfl) | (rw [h54_4]; rfl)), (by first | rfl | (rw [h54]; rfl) | (simp only [h54, Bool.true_and, Bool.false_and, Bool.true_or, Bool.false_or, cond_true, cond_false]; done)), trivial⟩
           ·
            try simp only [go_sem, ↓iop_and, ↓iop_or, ↓iop_xor, ↓iop_andn, Nat.reduceEqDiff, reduceIte, Nat.reduceAdd, Nat.reduceMul, Nat.reduceSub, Nat.reduceLT, Nat.reduceLeDiff, h54]
            exact hK1 _ ⟨rfl, rfl, rfl, rfl, rfl, rfl, rfl, (by first | rfl | (rw [h54]; rfl) | (simp only [h54, Bool.true_and, Bool.false_and, Bool.true_or, Bool.false_or, cond_true, cond_false]; done)), trivial⟩
          ·
           refine xw_id ?_
           refine xw_stop 1 (by (try simp only [go_sem]); rfl) (by (try simp only [go_sem]); rfl) (by rfl) fun K1 hK1 => ?_
           refine xw_id ?_
           try simp only [go_sem, ↓iop_and, ↓iop_or, ↓iop_xor, ↓iop_andn, Nat.reduceEqDiff, reduceIte, Nat.reduceAdd, Nat.reduceMul, Nat.reduceSub, Nat.reduceLT, Nat.reduceLeDiff]
           refine hK1 _ ?_; clear hK1 K1
           refine xw_cut 3 [(21, (.ptr 0 0)), (23, (.ptr 2 0)), (24, (vi x41.2)), (27, (.ref 4 0 x45.1.length 1)), (28, (vi x45.2)), (29, (vb false)), (199, (vb ((((((x53 && (x36.2 == 2)) && (x37.2 == 8)) && (x38.2 == 2)) && (x39.2 == 2)) && (x40.2 == 0)) && x40.1.Group)))] (by (try simp only [go_sem]); rfl) (by (try simp only [go_sem]); rfl) (by rfl) (fun K1 hK1 => ?_) fun tz => ?_
           ·
            refine xw_id ?_
            rcases Bool.eq_false_or_eq_true (((((x53 && (x36.2 == 2)) && (x37.2 == 8)) && (x38.2 == 2)) && (x39.2 == 2)) && (x40.2 == 0)) with h55 | h55
            ·
             have h55_0 : (x53) = true := by simp only [Bool.and_eq_true] at h55; exact h55.1.1.1.1.1
             have h55_1 : (x36.2 == 2) = true := by simp only [Bool.and_eq_true] at h55; exact h55.1.1.1.1.2
             have h55_2 : (x37.2 == 8) = true := by simp only [Bool.and_eq_true] at h55; exact h55.1.1.1.2
             have h55_3 : (x38.2 == 2) = true := by simp only [Bool.and_eq_true] at h55; exact h55.1.1.2
             have h55_4 : (x39.2 == 2) = true := by simp only [Bool.and_eq_true] at h55; exact h55.1.2
             have h55_5 : (x40.2 == 0) = true := by simp only [Bool.and_eq_true] at h55; exact h55.2
             try simp only [go_sem, ↓iop_and, ↓iop_or, ↓iop_xor, ↓iop_andn, Nat.reduceEqDiff, reduceIte, Nat.reduceAdd, Nat.reduceMul, Nat.reduceSub, Nat.reduceLT, Nat.reduceLeDiff, h55, h55_0, h55_1, h55_2, h55_3, h55_4, h55_5]
             exact hK1 _ ⟨rfl, (by first | rfl | (rw [h55_0]; rfl) | (rw [h55_1]; rfl) | (rw [h55_2]; rfl) | (rw [h55_3]; rfl) | (rw [h55_4]; rfl) | (rw [h55_5]; rfl)), (by first | rfl | (rw [h55_0]; rfl) | (rw [h55_1]; rfl) | (rw [h55_2]; rfl) | (rw [h55_3]; rfl) | (rw [h55_4]; rfl) | (rw [h55_5]; rfl)), (by first | rfl | (rw [h55_0]; rfl) | (rw [h55_1]; rfl) | (rw [h55_2]; rfl) | (rw [h55_3]; rfl) | (rw [h55_4]; rfl) | (rw [h55_5]; rfl)), (by first | rfl | (rw [h55_0]; rfl) | (rw [h55_1]; rfl) | (rw [h55_2]; rfl) | (rw [h55_3]; rfl) | (rw [h55_4]; rfl) | (rw [h55_5]; rfl)), (by first | rfl | (rw [h55_0]; rfl) | (rw [h55_1]; rfl) | (rw [h55_2]; rfl) | (rw [h55_3]; rfl) | (rw [h55_4]; rfl) | (rw [h55_5]; rfl)), (by first | rfl | (rw [h55_0]; rfl) | (rw [h55_1]; rfl) | (rw [h55_2]; rfl) | (rw [h55_3]; rfl) | (rw [h55_4]; rfl) | (rw [h55_5]; rfl)), (by first | rfl | (rw [h55]; rfl) | (simp only [h55, Bool.true_and, Bool.false_and, Bool.true_or, Bool.false_or, cond_true, cond_false]; done)), trivial⟩
            ·
             try simp only [go_sem, ↓iop_and, ↓iop_or, ↓iop_xor, ↓iop_andn, Nat.reduceEqDiff, reduceIte, Nat.reduceAdd, Nat.reduceMul, Nat.reduceSub, Nat.reduceLT, Nat.reduceLeDiff, h55]
             exact hK1 _ ⟨rfl, rfl, rfl, rfl, rfl, rfl, rfl, (by first | rfl | (rw [h55]; rfl) | (simp only [h55, Bool.true_and, Bool.false_and, Bool.true_or, Bool.false_or, cond_true, cond_false]; done)), trivial⟩
           ·
            refine xw_id ?_
            refine xw_stop 1 (by (try simp only [go_sem]); rfl) (by (try simp only [go_sem]); rfl) (by rfl) fun K1 hK1 => ?_
            refine xw_id ?_
            try simp only [go_sem, ↓iop_and, ↓iop_or, ↓iop_xor, ↓iop_andn, Nat.reduceEqDiff, reduceIte, Nat.reduceAdd, Nat.reduceMul, Nat.reduceSub, Nat.reduceLT, Nat.reduceLeDiff]
            refine hK1 _ ?_; clear hK1 K1
            refine xw_cut 5 [(23, (.ptr 2 0)), (24, (vi x41.2)), (27, (.ref 4 0 x45.1.length 1)), (28, (vi x45.2)), (29, (vb false)), (205, (vb (((((((x53 && (x36.2 == 2)) && (x37.2 == 8)) && (x38.2 == 2)) && (x39.2 == 2)) && (x40.2 == 0)) && x40.1.Group) && (((x40.1.Aids.length : Nat) : Int) == 0))))] (by (try simp only [go_sem]); rfl) (by (try simp only [go_sem]); rfl) (by rfl) (fun K1 hK1 => ?_) fun tz => ?_
            ·
             refine xw_id ?_
             rcases Bool.eq_false_or_eq_true ((((((x53 && (x36.2 == 2)) && (x37.2 == 8)) && (x38.2 == 2)) && (x39.2 == 2)) && (x40.2 == 0)) && x40.1.Group) with h56 | h56
             ·
              have h56_0 : (x53) = true := by simp only [Bool.and_eq_true] at h56; exact h56.1.1.1.1.1.1
              have h56_1 : (x36.2 == 2) = true := by simp only [Bool.and_eq_true] at h56; exact h56.1.1.1.1.1.2
              have h56_2 : (x37.2 == 8) = true := by simp only [Bool.and_eq_true] at h56; exact h56.1.1.1.1.2
              have h56_3 : (x38.2 == 2) = true := by simp only [Bool.and_eq_true] at h56; exact h56.1.1.1.2
              have h56_4 : (x39.2 == 2) = true := by simp only [Bool.and_eq_true] at h56; exact h56.1.1.2
              have h56_5 : (x40.2 == 0) = true := by simp only [Bool.and_eq_true] at h56; exact h56.1.2
              have h56_6 : (x40.1.Group) = true := by simp only [Bool.and_eq_true] at h56; exact h56.2
              try simp only [go_sem, ↓iop_and, ↓iop_or, ↓iop_xor, ↓iop_andn, Nat.reduceEqDiff, reduceIte, Nat.reduceAdd, Nat.reduceMul, Nat.reduceSub, Nat.reduceLT, Nat.reduceLeDiff, Int.reduceToNat, Int.reduceBEq, Int.reduceBNe, Int.reduceLT, Int.reduceLE, Int.reduceAdd, Int.reduceSub, Int.reduceMul, Int.reduceNeg, Int.reduceEq, Int.reduceNe, h56, h56_0, h56_1, h56_2, h56_3, h56_4, h56_5, h56_6]
              exact hK1 _ ⟨rfl, (by first | rfl | (rw [h56_0]; rfl) | (rw [h56_1]; rfl) | (rw [h56_2]; rfl) | (rw [h56_3]; rfl) | (rw [h56_4]; rfl) | (rw [h56_5]; rfl) | (rw [h56_6]; rfl)), (by first | rfl | (rw [h56_0]; rfl) | (rw [h56_1]; rfl) | (rw [h56_2]; rfl) | (rw [h56_3]; rfl) | (rw [h56_4]; rfl) | (rw [h56_5]; rfl) | (rw [h56_6]; rfl)), (by first | rfl | (rw [h56_0]; rfl) | (rw [h56_1]; rfl) | (rw [h56_2]; rfl) | (rw [h56_3]; rfl) | (rw [h56_4]; rfl) | (rw [h56_5]; rfl) | (rw [h56_6]; rfl)), (by first | rfl | (rw [h56_0]; rfl) | (rw [h56_1]; rfl) | (rw [h56_2]; rfl) | (rw [h56_3]; rfl) | (rw [h56_4]; rfl) | (rw [h56_5]; rfl) | (rw [h56_6]; rfl)), (by first | rfl | (rw [h56_0]; rfl) | (rw [h56_1]; rfl) | (rw [h56_2]; rfl) | (rw [h56_3]; rfl) | (rw [h56_4]; rfl) | (rw [h56_5]; rfl) | (rw [h56_6]; rfl)), (by first | rfl | (rw [h56]; rfl) | (simp only [h56, Bool.true_and, Bool.false_and, Bool.true_or, Bool.false_or, cond_true, cond_false]; done)), trivial⟩
             ·
              try simp only [go_sem, ↓iop_and, ↓iop_or, ↓iop_xor, ↓iop_andn, Nat.reduceEqDiff, reduceIte, Nat.reduceAdd, Nat.reduceMul, Nat.reduceSub, Nat.reduceLT, Nat.reduceLeDiff, h56]
              exact hK1 _ ⟨rfl, rfl, rfl, rfl, rfl, rfl, (by first | rfl | (rw [h56]; rfl) | (simp only [h56, Bool.true_and, Bool.false_and, Bool.true_or, Bool.false_or, cond_true, cond_false]; done)), trivial⟩
            ·
             refine xw_id ?_
             refine xw_stop 1 (by (try simp only [go_sem]); rfl) (by (try simp only [go_sem]); rfl) (by rfl) fun K1 hK1 => ?_
             refine xw_id ?_
             try simp only [go_sem, ↓iop_and, ↓iop_or, ↓iop_xor, ↓iop_andn, Nat.reduceEqDiff, reduceIte, Nat.reduceAdd, Nat.reduceMul, Nat.reduceSub, Nat.reduceLT, Nat.reduceLeDiff]
             refine hK1 _ ?_; clear hK1 K1
             refine xw_cut 3 [(23, (.ptr 2 0)), (27, (.ref 4 0 x45.1.length 1)), (28, (vi x45.2)), (29, (vb false)), (209, (vb ((((((((x53 && (x36.2 == 2)) && (x37.2 == 8)) && (x38.2 == 2)) && (x39.2 == 2)) && (x40.2 == 0)) && x40.1.Group) && (((x40.1.Aids.length : Nat) : Int) == 0)) && (x41.2 == 0))))] (by (try simp only [go_sem]); rfl) (by (try simp only [go_sem]); rfl) (by rfl) (fun K1 hK1 => ?_) fun tz => ?_
             ·
              refine xw_id ?_
              rcases Bool.eq_false_or_eq_true (((((((x53 && (x36.2 == 2)) && (x37.2 == 8)) && (x38.2 == 2)) && (x39.2 == 2)) && (x40.2 == 0)) && x40.1.Group) && (((x40.1.Aids.length : Nat) : Int) == 0)) with h57 | h57
              ·
               have h57_0 : (x53) = true := by simp only [Bool.and_eq_true] at h57; exact h57.1.1.1.1.1.1.1
               have h57_1 : (x36.2 == 2) = true := by simp only [Bool.and_eq_true] at h57; exact h57.1.1.1.1.1.1.2
               have h57_2 : (x37.2 == 8) = true := by simp only [Bool.and_eq_true] at h57; exact h57.1.1.1.1.1.2
               have h57_3 : (x38.2 == 2) = true := by simp only [Bool.and_eq_true] at h57; exact h57.1.1.1.1.2
               have h57_4 : (x39.2 == 2) = true := by simp only [Bool.and_eq_true] at h57; exact h57.1.1.1.2
               have h57_5 : (x40.2 == 0) = true := by simp only [Bool.and_eq_true] at h57; exact h57.1.1.2
               have h57_6 : (x40.1.Group) = true := by simp only [Bool.and_eq_true] at h57; exact h57.1.2
               have h57_7 : (((x40.1.Aids.length : Nat) : Int) == 0) = true := by simp only [Bool.and_eq_true] at h57; exact h57.2
               try simp only [go_sem, ↓iop_and, ↓iop_or, ↓iop_xor, ↓iop_andn, Nat.reduceEqDiff, reduceIte, Nat.reduceAdd, Nat.reduceMul, Nat.reduceSub, Nat.reduceLT, Nat.reduceLeDiff, h57, h57_0, h57_1, h57_2, h57_3, h57_4, h57_5, h57_6, h57_7]
               exact hK1 _ ⟨rfl, (by first | rfl | (rw [h57_0]; rfl) | (rw [h57_1]; rfl) | (rw [h57_2]; rfl) | (rw [h57_3]; rfl) | (rw [h57_4]; rfl) | (rw [h57_5]; rfl) | (rw [h57_6]; rfl) | (rw [h57_7]; rfl)), (by first | rfl | (rw [h57_0]; rfl) | (rw [h57_1]; rfl) | (rw [h57_2]; rfl) | (rw [h57_3]; rfl) | (rw [h57_4]; rfl) | (rw [h57_5]; rfl) | (rw [h57_6]; rfl) | (rw [h57_7]; rfl)), (by first | rfl | (rw [h57_0]; rfl) | (rw [h57_1]; rfl) | (rw [h57_2]; rfl) | (rw [h57_3]; rfl) | (rw [h57_4]; rfl) | (rw [h57_5]; rfl) | (rw [h57_6]; rfl) | (rw [h57_7]; rfl)), (by first | rfl | (rw [h57_0]; rfl) | (rw [h57_1]; rfl) | (rw [h57_2]; rfl) | (rw [h57_3]; rfl) | (rw [h57_4]; rfl) | (rw [h57_5]; rfl) | (rw [h57_6]; rfl) | (rw [h57_7]; rfl)), (by first | rfl | (rw [h57]; rfl) | (simp only [h57, Bool.true_and, Bool.false_and, Bool.true_or, Bool.false_or, cond_true, cond_false]; done)), trivial⟩
              ·
               try simp only [go_sem, ↓iop_and, ↓iop_or, ↓iop_xor, ↓iop_andn, Nat.reduceEqDiff, reduceIte, Nat.reduceAdd, Nat.reduceMul, Nat.reduceSub, Nat.reduceLT, Nat.reduceLeDiff, h57]
               exact hK1 _ ⟨rfl, rfl, rfl, rfl, rfl, (by first | rfl | (rw [h57]; rfl) | (simp only [h57, Bool.true_and, Bool.false_and, Bool.true_or, Bool.false_or, cond_true, cond_false]; done)), trivial⟩
             ·
              refine xw_id ?_
              refine xw_stop 1 (by (try simp only [go_sem]); rfl) (by (try simp only [go_sem]); rfl) (by rfl) fun K1 hK1 => ?_
              refine xw_id ?_
              try simp only [go_sem, ↓iop_and, ↓iop_or, ↓iop_xor, ↓iop_andn, Nat.reduceEqDiff, reduceIte, Nat.reduceAdd, Nat.reduceMul, Nat.reduceSub, Nat.reduceLT, Nat.reduceLeDiff]
              refine hK1 _ ?_; clear hK1 K1
              refine xw_cut 5 [(27, (.ref 4 0 x45.1.length 1)), (28, (vi x45.2)), (29, (vb false)), (215, (vb (((((((((x53 && (x36.2 == 2)) && (x37.2 == 8)) && (x38.2 == 2)) && (x39.2 == 2)) && (x40.2 == 0)) && x40.1.Group) && (((x40.1.Aids.length : Nat) : Int) == 0)) && (x41.2 == 0)) && (((x41.1.Aids.length : Nat) : Int) == 1))))] (by (try simp only [go_sem]); rfl) (by (try simp only [go_sem]); rfl) (by rfl) (fun K1 hK1 => ?_) fun tz => ?_
              ·
               refine xw_id ?_
               rcases Bool.eq_false_or_eq_true ((((((((x53 && (x36.2 == 2)) && (x37.2 == 8)) && (x38.2 == 2)) && (x39.2 == 2)) && (x40.2 == 0)) && x40.1.Group) && (((x40.1.Aids.length : Nat) : Int) == 0)) && (x41.2 == 0)) with h58 | h58
               ·
                have h58_0 : (x53) = true := by simp only [Bool.and_eq_true] at h58; exact h58.1.1.1.1.1.1.1.1
                have h58_1 : (x36.2 == 2) = true := by simp only [Bool.and_eq_true] at h58; exact h58.1.1.1.1.1.1.1.2
                have h58_2 : (x37.2 == 8) = true := by simp only [Bool.and_eq_true] at h58; exact h58.1.1.1.1.1.1.2
                have h58_3 : (x38.2 == 2) = true := by simp only [Bool.and_eq_true] at h58; exact h58.1.1.1.1.1.2
                have h58_4 : (x39.2 == 2) = true := by simp only [Bool.and_eq_true] at h58; exact h58.1.1.1.1.2
                have h58_5 : (x40.2 == 0) = true := by simp only [Bool.and_eq_true] at h58; exact h58.1.1.1.2
                have h58_6 : (x40.1.Group) = true := by simp only [Bool.and_eq_true] at h58; exact h58.1.1.2
                have h58_7 : (((x40.1.Aids.length : Nat) : Int) == 0) = true := by simp only [Bool.and_eq_true] at h58; exact h58.1.2
                have h58_8 : (x41.2 == 0) = true := by simp only [Bool.and_eq_true] at h58; exact h58.2
                try simp only [go_sem, ↓iop_and, ↓iop_or, ↓iop_xor, ↓iop_andn, Nat.reduceEqDiff, reduceIte, Nat.reduceAdd, Nat.reduceMul, Nat.reduceSub, Nat.reduceLT, Nat.reduceLeDiff, Int.reduceToNat, Int.reduceBEq, Int.reduceBNe, Int.reduceLT, Int.reduceLE, Int.reduceAdd, Int.reduceSub, Int.reduceMul, Int.reduceNeg, Int.reduceEq, Int.reduceNe, h58, h58_0, h58_1, h58_2, h58_3, h58_4, h58_5, h58_6, h58_7, h58_8]
                exact hK1 _ ⟨rfl, (by first | rfl | (rw [h58_0]; rfl) | (rw [h58_1]; rfl) | (rw [h58_2]; rfl) | (rw [h58_3]; rfl) | (rw [h58_4]; rfl) | (rw [h58_5]; rfl) | (rw [h58_6]; rfl) | (rw [h58_7]; rfl) | (rw [h58_8]; rfl)), (by first | rfl | (rw [h58_0]; rfl) | (rw [h58_1]; rfl) | (rw [h58_2]; rfl) | (rw [h58_3]; rfl) | (rw [h58_4]; rfl) | (rw [h58_5]; rfl) | (rw [h58_6]; rfl) | (rw [h58_7]; rfl) | (rw [h58_8]; rfl)), (by first | rfl | (rw [h58_0]; rfl) | (rw [h58_1]; rfl) | (rw [h58_2]; rfl) | (rw [h58_3]; rfl) | (rw [h58_4]; rfl) | (rw [h58_5]; rfl) | (rw [h58_6]; rfl) | (rw [h58_7]; rfl) | (rw [h58_8]; rfl)), (by first | rfl | (rw [h58]; rfl) | (simp only [h58, Bool.true_and, Bool.false_and, Bool.true_or, Bool.false_or, cond_true, cond_false]; done)), trivial⟩
               ·
                try simp only [go_sem, ↓iop_and, ↓iop_or, ↓iop_xor, ↓iop_andn, Nat.reduceEqDiff, reduceIte, Nat.reduceAdd, Nat.reduceMul, Nat.reduceSub, Nat.reduceLT, Nat.reduceLeDiff, h58]
                exact hK1 _ ⟨rfl, rfl, rfl, rfl, (by first | rfl | (rw [h58]; rfl) | (simp only [h58, Bool.true_and, Bool.false_and, Bool.true_or, Bool.false_or, cond_true, cond_false]; done)), trivial⟩
              ·
               refine xw_id ?_
               refine xw_stop 1 (by (try simp only [go_sem]); rfl) (by (try simp only [go_sem]); rfl) (by rfl) fun K1 hK1 => ?_
               refine xw_id ?_
               try simp only [go_sem, ↓iop_and, ↓iop_or, ↓iop_xor, ↓iop_andn, Nat.reduceEqDiff, reduceIte, Nat.reduceAdd, Nat.reduceMul, Nat.reduceSub, Nat.reduceLT, Nat.reduceLeDiff]
               refine hK1 _ ?_; clear hK1 K1
               refine xw_cut 3 [(27, (.ref 4 0 x45.1.length 1)), (29, (vb false)), (219, (vb ((((((((((x53 && (x36.2 == 2)) && (x37.2 == 8)) && (x38.2 == 2)) && (x39.2 == 2)) && (x40.2 == 0)) && x40.1.Group) && (((x40.1.Aids.length : Nat) : Int) == 0)) && (x41.2 == 0)) && (((x41.1.Aids.length : Nat) : Int) == 1)) && (x45.2 == 0))))] (by (try simp only [go_sem]); rfl) (by (try simp only [go_sem]); rfl) (by rfl) (fun K1 hK1 => ?_) fun tz => ?_
               ·
                refine xw_id ?_
                rcases Bool.eq_false_or_eq_true (((((((((x53 && (x36.2 == 2)) && (x37.2 == 8)) && (x38.2 == 2)) && (x39.2 == 2)) && (x40.2 == 0)) && x40.1.Group) && (((x40.1.Aids.length : Nat) : Int) == 0)) && (x41.2 == 0)) && (((x41.1.Aids.length : Nat) : Int) == 1)) with h59 | h59
                ·
                 have h59_0 : (x53) = true := by simp only [Bool.and_eq_true] at h59; exact h59.1.1.1.1.1.1.1.1.1
                 have h59_1 : (x36.2 == 2) = true := by simp only [Bool.and_eq_true] at h59; exact h59.1.1.1.1.1.1.1.1.2
                 have h59_2 : (x37.2 == 8) = true := by simp only [Bool.and_eq_true] at h59; exact h59.1.1.1.1.1.1.1.2
                 have h59_3 : (x38.2 == 2) = true := by simp only [Bool.and_eq_true] at h59; exact h59.1.1.1.1.1.1.2
                 have h59_4 : (x39.2 == 2) = true := by simp only [Bool.and_eq_true] at h59; exact h59.1.1.1.1.1.2
                 have h59_5 : (x40.2 == 0) = true := by simp only [Bool.and_eq_true] at h59; exact h59.1.1.1.1.2
                 have h59_6 : (x40.1.Group) = true := by simp only [Bool.and_eq_true] at h59; exact h59.1.1.1.2
                 have h59_7 : (((x40.1.Aids.length : Nat) : Int) == 0) = true := by simp only [Bool.and_eq_true] at h59; exact h59.1.1.2
                 have h59_8 : (x41.2 == 0) = true := by simp only [Bool.and_eq_true] at h59; exact h59.1.2
                 have h59_9 : (((x41.1.Aids.length : Nat) : Int) == 1) = true := by simp only [Bool.and_eq_true] at h59; exact h59.2
                 try simp only [go_sem, ↓iop_and, ↓iop_or, ↓iop_xor, ↓iop_andn, Nat.reduceEqDiff, reduceIte, Nat.reduceAdd, Nat.reduceMul, Nat.reduceSub, Nat.reduceLT, Nat.reduceLeDiff, h59, h59_0, h59_1, h59_2, h59_3, h59_4, h59_5, h59_6, h59_7, h59_8, h59_9]
                 exact hK1 _ ⟨rfl, (by first | rfl | (rw [h59_0]; rfl) | (rw [h59_1]; rfl) | (rw [h59_2]; rfl) | (rw [h59_3]; rfl) | (rw [h59_4]; rfl) | (rw [h59_5]; rfl) | (rw [h59_6]; rfl) | (rw [h59_7]; rfl) | (rw [h59_8]; rfl) | (rw [h59_9]; rfl)), (by first | rfl | (rw [h59_0]; rfl) | (rw [h59_1]; rfl) | (rw [h59_2]; rfl) | (rw [h59_3]; rfl) | (rw [h59_4]; rfl) | (rw [h59_5]; rfl) | (rw [h59_6]; rfl) | (rw [h59_7]; rfl) | (rw [h59_8]; rfl) | (rw [h59_9]; rfl)), (by first | rfl | (rw [h59]; rfl) | (simp only [h59, Bool.true_and, Bool.false_and, Bool.true_or, Bool.false_or, cond_true, cond_false]; done)), trivial⟩
                ·
                 try simp only [go_sem, ↓iop_and, ↓iop_or, ↓iop_xor, ↓iop_andn, Nat.reduceEqDiff, reduceIte, Nat.reduceAdd, Nat.reduceMul, Nat.reduceSub, Nat.reduceLT, Nat.reduceLeDiff, h59]
                 exact hK1 _ ⟨rfl, rfl, rfl, (by first | rfl | (rw [h59]; rfl) | (simp only [h59, Bool.true_and, Bool.false_and, Bool.true_or, Bool.false_or, cond_true, cond_false]; done)), trivial⟩
               ·
                refine xw_id ?_
                rcases Bool.eq_false_or_eq_true ((((((((((x53 && (x36.2 == 2)) && (x37.2 == 8)) && (x38.2 == 2)) && (x39.2 == 2)) && (x40.2 == 0)) && x40.1.Group) && (((x40.1.Aids.length : Nat) : Int) == 0)) && (x41.2 == 0)) && (((x41.1.Aids.length : Nat) : Int) == 1)) && (x45.2 == 0)) with h60 | h60
                ·
                 have h0 := cT h0 h60
                 obtain ⟨x54, bx54, h0⟩ := bnd h0
                 try simp only [go_sem, ↓iop_and, ↓iop_or, ↓iop_xor, ↓iop_andn, Nat.reduceEqDiff, reduceIte, Nat.reduceAdd, Nat.reduceMul, Nat.reduceSub, Nat.reduceLT, Nat.reduceLeDiff, h60]
                 refine xcall_L (by first | (simp only [go_sem, fz, ↓iop_and, ↓iop_or, ↓iop_xor, ↓iop_andn, Nat.reduceEqDiff, reduceIte, Nat.reduceAdd, Nat.reduceMul, Nat.reduceSub, Nat.reduceLT, Nat.reduceLeDiff, h60]; done) | (simp only [go_sem, fz, ↓iop_and, ↓iop_or, ↓iop_xor, ↓iop_andn, Nat.reduceEqDiff, reduceIte, Nat.reduceAdd, Nat.reduceMul, Nat.reduceSub, Nat.reduceLT, Nat.reduceLeDiff, h60]; rfl) | (simp only [go_sem, fz, List.length_set, ble_self, take_set, cond_true, cond_false, ↓iop_and, ↓iop_or, ↓iop_xor, ↓iop_andn, Nat.reduceEqDiff, reduceIte, Nat.reduceAdd, Nat.reduceMul, Nat.reduceSub, Nat.reduceLT, Nat.reduceLeDiff, h60]; done) | (simp only [go_sem, fz, List.length_set, ble_self, take_set, cond_true, cond_false, ↓iop_and, ↓iop_or, ↓iop_xor, ↓iop_andn, Nat.reduceEqDiff, reduceIte, Nat.reduceAdd, Nat.reduceMul, Nat.reduceSub, Nat.reduceLT, Nat.reduceLeDiff, h60]; rfl)) (hotspotref33_Same_p x45.1 [3, 255, 0] bx54) (Bare.v _) ?_; try dsimp only
                 try refine xw_id ?_
                 refine xw_stop 2 (by (try simp only [go_sem]); rfl) (by (try simp only [go_sem]); rfl) (by rfl) fun K1 hK1 => ?_
                 refine xw_id ?_
                 try simp only [go_sem, ↓iop_and, ↓iop_or, ↓iop_xor, ↓iop_andn, Nat.reduceEqDiff, reduceIte, Nat.reduceAdd, Nat.reduceMul, Nat.reduceSub, Nat.reduceLT, Nat.reduceLeDiff, h60]
                 refine hK1 _ ?_; clear hK1 K1
                 refine xw_cut 2 [(227, (vb (x54 && false)))] (by (try simp only [go_sem]); rfl) (by (try simp only [go_sem]); rfl) (by rfl) (fun K1 hK1 => ?_) fun tz => ?_
                 ·
                  refine xw_id ?_
                  rcases Bool.eq_false_or_eq_true x54 with h61 | h61
                  ·
                   try simp only [go_sem, ↓iop_and, ↓iop_or, ↓iop_xor, ↓iop_andn, Nat.reduceEqDiff, reduceIte, Nat.reduceAdd, Nat.reduceMul, Nat.reduceSub, Nat.reduceLT, Nat.reduceLeDiff, h60, h61]
                   exact hK1 _ ⟨rfl, (by first | rfl | (rw [h61]; rfl) | (simp only [h61, Bool.true_and, Bool.false_and, Bool.true_or, Bool.false_or, cond_true, cond_false]; done)), trivial⟩
                  ·
                   try simp only [go_sem, ↓iop_and, ↓iop_or, ↓iop_xor, ↓iop_andn, Nat.reduceEqDiff, reduceIte, Nat.reduceAdd, Nat.reduceMul, Nat.reduceSub, Nat.reduceLT, Nat.reduceLeDiff, h60, h61]
                   exact hK1 _ ⟨rfl, (by first | rfl | (rw [h61]; rfl) | (simp only [h61, Bool.true_and, Bool.false_and, Bool.true_or, Bool.false_or, cond_true, cond_false]; done)), trivial⟩
                 ·
                  refine xw_id ?_
                  try simp only [go_sem, ↓iop_and, ↓iop_or, ↓iop_xor, ↓iop_andn, Nat.reduceEqDiff, reduceIte, Nat.reduceAdd, Nat.reduceMul, Nat.reduceSub, Nat.reduceLT, Nat.reduceLeDiff, h60]
                  refine hKK _ _ (Wk.refl _ _ _) ?_; clear hKK KK
                  refine awp_ret1 ?_
                  obtain rfl := someInj h0
                  refine endW_i ?_
                  refine end_ret0 rs10 (rfl) ?_
                  try simp only [go_sem, ↓iop_and, ↓iop_or, ↓iop_xor, ↓iop_andn, Nat.reduceEqDiff, reduceIte, Nat.reduceAdd, Nat.reduceMul, Nat.reduceSub, Nat.reduceLT, Nat.reduceLeDiff, fz, nilS, packR, List.take_nil, List.take_length, List.length_map, List.length_append, cond_true, cond_false, Nat.ble_eq, ble_self]
                  all_goals first | rfl | (simp only [go_sem, ↓iop_and, ↓iop_or, ↓iop_xor, ↓iop_andn, Nat.reduceEqDiff, reduceIte, Nat.reduceAdd, Nat.reduceMul, Nat.reduceSub, Nat.reduceLT, Nat.reduceLeDiff, fz, nilS, packR, List.take_nil, List.take_length, List.length_map, List.length_append, cond_true, cond_false, Nat.ble_eq, ble_self, List.map_append] <;> rfl)
                ·
                 have h0 := cF h0 h60
                 try simp only [go_sem, ↓iop_and, ↓iop_or, ↓iop_xor, ↓iop_andn, Nat.reduceEqDiff, reduceIte, Nat.reduceAdd, Nat.reduceMul, Nat.reduceSub, Nat.reduceLT, Nat.reduceLeDiff, h60]
                 refine hKK _ _ (Wk.refl _ _ _) ?_; clear hKK KK
                 refine awp_ret1 ?_
                 obtain rfl := someInj h0
                 refine endW_i ?_
                 refine end_ret0 rs10 (rfl) ?_
                 try simp only [go_sem, ↓iop_and, ↓iop_or, ↓iop_xor, ↓iop_andn, Nat.reduceEqDiff, reduceIte, Nat.reduceAdd, Nat.reduceMul, Nat.reduceSub, Nat.reduceLT, Nat.reduceLeDiff, fz, nilS, packR, List.take_nil, List.take_length, List.length_map, List.length_append, cond_true, cond_false, Nat.ble_eq, ble_self]
                 all_goals first | rfl | (simp only [go_sem, ↓iop_and, ↓iop_or, ↓iop_xor, ↓iop_andn, Nat.reduceEqDiff, reduceIte, Nat.reduceAdd, Nat.reduceMul, Nat.reduceSub, Nat.reduceLT, Nat.reduceLeDiff, fz, nilS, packR, List.take_nil, List.take_length, List.length_map, List.length_append, cond_true, cond_false, Nat.ble_eq, ble_self, List.map_append] <;> rfl)

end Go.AX.Z.TD
