/- A part of the proof: the types, the facts of the program and the functions, read plainly. -/
import Derived.Test.YtpgmoamobacmbaaCorec
import Derived.Test.YtpgmoamobacmbaaProg
import Derived.KernelRfl
set_option linter.unusedVariables false
set_option linter.unusedSimpArgs false

/-! (TXS) -/

set_option linter.unusedSimpArgs false
set_option linter.unusedVariables false
namespace Go.AX.Z.TX
open Go.AX
structure A16vu where
  a0 : Int
  a1 : Int
  a2 : Int
  a3 : Int
  a4 : Int
  a5 : Int
  a6 : Int
  a7 : Int
  a8 : Int
  a9 : Int
  a10 : Int
  a11 : Int
  a12 : Int
  a13 : Int
  a14 : Int
  a15 : Int
  deriving DecidableEq

def A16vu.z : A16vu := ⟨0, 0, 0, 0, 0, 0, 0, 0, 0, 0, 0, 0, 0, 0, 0, 0⟩

def e_A16vu (x : A16vu) : List AV := [vu x.a0, vu x.a1, vu x.a2, vu x.a3, vu x.a4, vu x.a5, vu x.a6, vu x.a7, vu x.a8, vu x.a9, vu x.a10, vu x.a11, vu x.a12, vu x.a13, vu x.a14, vu x.a15]

theorem e_A16vu_len (x : A16vu) : (e_A16vu x).length = 16 := by rfl
theorem e_A16vu_sub (x : A16vu) : sub? (e_A16vu x) 0 16 = some (e_A16vu x) := by rfl
theorem e_A16vu_take (x : A16vu) : (e_A16vu x).take 16 = (e_A16vu x) := by rfl
theorem e_A16vu_all (x : A16vu) (y : A16vu) : putAt (e_A16vu x) 0 (e_A16vu y) = e_A16vu y := by rfl
theorem e_A16vu_g_a0 (x : A16vu) : (e_A16vu x)[0]? = some (vu x.a0) := by rfl
theorem e_A16vu_s_a0 (x : A16vu) (v : Int) : (e_A16vu x).set 0 (vu v) = e_A16vu { x with a0 := v } := by rfl
theorem e_A16vu_g_a1 (x : A16vu) : (e_A16vu x)[1]? = some (vu x.a1) := by rfl
theorem e_A16vu_s_a1 (x : A16vu) (v : Int) : (e_A16vu x).set 1 (vu v) = e_A16vu { x with a1 := v } := by rfl
theorem e_A16vu_g_a2 (x : A16vu) : (e_A16vu x)[2]? = some (vu x.a2) := by rfl
theorem e_A16vu_s_a2 (x : A16vu) (v : Int) : (e_A16vu x).set 2 (vu v) = e_A16vu { x with a2 := v } := by rfl
theorem e_A16vu_g_a3 (x : A16vu) : (e_A16vu x)[3]? = some (vu x.a3) := by rfl
theorem e_A16vu_s_a3 (x : A16vu) (v : Int) : (e_A16vu x).set 3 (vu v) = e_A16vu { x with a3 := v } := by rfl
theorem e_A16vu_g_a4 (x : A16vu) : (e_A16vu x)[4]? = some (vu x.a4) := by rfl
theorem e_A16vu_s_a4 (x : A16vu) (v : Int) : (e_A16vu x).set 4 (vu v) = e_A16vu { x with a4 := v } := by rfl
theorem e_A16vu_g_a5 (x : A16vu) : (e_A16vu x)[5]? = some (vu x.a5) := by rfl
theorem e_A16vu_s_a5 (x : A16vu) (v : Int) : (e_A16vu x).set 5 (vu v) = e_A16vu { x with a5 := v } := by rfl
theorem e_A16vu_g_a6 (x : A16vu) : (e_A16vu x)[6]? = some (vu x.a6) := by rfl
theorem e_A16vu_s_a6 (x : A16vu) (v : Int) : (e_A16vu x).set 6 (vu v) = e_A16vu { x with a6 := v } := by rfl
theorem e_A16vu_g_a7 (x : A16vu) : (e_A16vu x)[7]? = some (vu x.a7) := by rfl
theorem e_A16vu_s_a7 (x : A16vu) (v : Int) : (e_A16vu x).set 7 (vu v) = e_A16vu { x with a7 := v } := by rfl
theorem e_A16vu_g_a8 (x : A16vu) : (e_A16vu x)[8]? = some (vu x.a8) := by rfl
theorem e_A16vu_s_a8 (x : A16vu) (v : Int) : (e_A16vu x).set 8 (vu v) = e_A16vu { x with a8 := v } := by rfl
theorem e_A16vu_g_a9 (x : A16vu) : (e_A16vu x)[9]? = some (vu x.a9) := by rfl
theorem e_A16vu_s_a9 (x : A16vu) (v : Int) : (e_A16vu x).set 9 (vu v) = e_A16vu { x with a9 := v } := by rfl
theorem e_A16vu_g_a10 (x : A16vu) : (e_A16vu x)[10]? = some (vu x.a10) := by rfl
theorem e_A16vu_s_a10 (x : A16vu) (v : Int) : (e_A16vu x).set 10 (vu v) = e_A16vu { x with a10 := v } := by rfl
theorem e_A16vu_g_a11 (x : A16vu) : (e_A16vu x)[11]? = some (vu x.a11) := by rfl
theorem e_A16vu_s_a11 (x : A16vu) (v : Int) : (e_A16vu x).set 11 (vu v) = e_A16vu { x with a11 := v } := by rfl
theorem e_A16vu_g_a12 (x : A16vu) : (e_A16vu x)[12]? = some (vu x.a12) := by rfl
theorem e_A16vu_s_a12 (x : A16vu) (v : Int) : (e_A16vu x).set 12 (vu v) = e_A16vu { x with a12 := v } := by rfl
theorem e_A16vu_g_a13 (x : A16vu) : (e_A16vu x)[13]? = some (vu x.a13) := by rfl
theorem e_A16vu_s_a13 (x : A16vu) (v : Int) : (e_A16vu x).set 13 (vu v) = e_A16vu { x with a13 := v } := by rfl
theorem e_A16vu_g_a14 (x : A16vu) : (e_A16vu x)[14]? = some (vu x.a14) := by rfl
theorem e_A16vu_s_a14 (x : A16vu) (v : Int) : (e_A16vu x).set 14 (vu v) = e_A16vu { x with a14 := v } := by rfl
theorem e_A16vu_g_a15 (x : A16vu) : (e_A16vu x)[15]? = some (vu x.a15) := by rfl
theorem e_A16vu_s_a15 (x : A16vu) (v : Int) : (e_A16vu x).set 15 (vu v) = e_A16vu { x with a15 := v } := by rfl
theorem e_A16vu_fz (x : A16vu) (o : Nat → Ob) (n : Nat) : (e_A16vu x).map (fz o (n + 1)) = e_A16vu x := by rfl
theorem e_A16vu_reach (x : A16vu) (o : Nat → Ob) (n : Nat) : (e_A16vu x).flatMap (reach o (n + 1)) = [] := by
  simp only [e_A16vu, List.cons_append, List.nil_append, List.append_nil, List.flatMap_cons, List.flatMap_nil, reach_v]
theorem e_A16vu_clean (x : A16vu) : ∀ c ∈ (e_A16vu x), Clean c := by
  simp only [e_A16vu, List.cons_append, List.nil_append]
  repeat' (first | exact Clean.v _ | assumption | exact List.forall_mem_nil _ | refine List.forall_mem_cons.2 ⟨?_, ?_⟩)
def A16vu.setA (x : A16vu) (i : Nat) (v : Int) : A16vu := ⟨bif i == 0 then v else x.a0, bif i == 1 then v else x.a1, bif i == 2 then v else x.a2, bif i == 3 then v else x.a3, bif i == 4 then v else x.a4, bif i == 5 then v else x.a5, bif i == 6 then v else x.a6, bif i == 7 then v else x.a7, bif i == 8 then v else x.a8, bif i == 9 then v else x.a9, bif i == 10 then v else x.a10, bif i == 11 then v else x.a11, bif i == 12 then v else x.a12, bif i == 13 then v else x.a13, bif i == 14 then v else x.a14, bif i == 15 then v else x.a15⟩
theorem e_A16vu_setA (x : A16vu) (v : Int) : ∀ {i : Nat}, i < 16 → (e_A16vu x).set i (vu v) = e_A16vu (x.setA i v)
  | 0, _ => rfl
  | 1, _ => rfl
  | 2, _ => rfl
  | 3, _ => rfl
  | 4, _ => rfl
  | 5, _ => rfl
  | 6, _ => rfl
  | 7, _ => rfl
  | 8, _ => rfl
  | 9, _ => rfl
  | 10, _ => rfl
  | 11, _ => rfl
  | 12, _ => rfl
  | 13, _ => rfl
  | 14, _ => rfl
  | 15, _ => rfl
  | k + 16, h => absurd h (by omega)
def A16vu.of (l : List Int) : A16vu := ⟨l.getD 0 0, l.getD 1 0, l.getD 2 0, l.getD 3 0, l.getD 4 0, l.getD 5 0, l.getD 6 0, l.getD 7 0, l.getD 8 0, l.getD 9 0, l.getD 10 0, l.getD 11 0, l.getD 12 0, l.getD 13 0, l.getD 14 0, l.getD 15 0⟩
theorem e_A16vu_of : ∀ (l : List Int), 16 ≤ l.length → (List.map vu l).take 16 = e_A16vu (A16vu.of l)
  | a0 :: a1 :: a2 :: a3 :: a4 :: a5 :: a6 :: a7 :: a8 :: a9 :: a10 :: a11 :: a12 :: a13 :: a14 :: a15 :: _, _ => rfl
  | [], h => absurd h (by simp only [List.length_cons, List.length_nil]; omega)
  | [_], h => absurd h (by simp only [List.length_cons, List.length_nil]; omega)
  | [_, _], h => absurd h (by simp only [List.length_cons, List.length_nil]; omega)
  | [_, _, _], h => absurd h (by simp only [List.length_cons, List.length_nil]; omega)
  | [_, _, _, _], h => absurd h (by simp only [List.length_cons, List.length_nil]; omega)
  | [_, _, _, _, _], h => absurd h (by simp only [List.length_cons, List.length_nil]; omega)
  | [_, _, _, _, _, _], h => absurd h (by simp only [List.length_cons, List.length_nil]; omega)
  | [_, _, _, _, _, _, _], h => absurd h (by simp only [List.length_cons, List.length_nil]; omega)
  | [_, _, _, _, _, _, _, _], h => absurd h (by simp only [List.length_cons, List.length_nil]; omega)
  | [_, _, _, _, _, _, _, _, _], h => absurd h (by simp only [List.length_cons, List.length_nil]; omega)
  | [_, _, _, _, _, _, _, _, _, _], h => absurd h (by simp only [List.length_cons, List.length_nil]; omega)
  | [_, _, _, _, _, _, _, _, _, _, _], h => absurd h (by simp only [List.length_cons, List.length_nil]; omega)
  | [_, _, _, _, _, _, _, _, _, _, _, _], h => absurd h (by simp only [List.length_cons, List.length_nil]; omega)
  | [_, _, _, _, _, _, _, _, _, _, _, _, _], h => absurd h (by simp only [List.length_cons, List.length_nil]; omega)
  | [_, _, _, _, _, _, _, _, _, _, _, _, _, _], h => absurd h (by simp only [List.length_cons, List.length_nil]; omega)
  | [_, _, _, _, _, _, _, _, _, _, _, _, _, _, _], h => absurd h (by simp only [List.length_cons, List.length_nil]; omega)
theorem f_A16vu (x : A16vu) (o : Nat → Ob) (n : Nat) : (e_A16vu x).map (fz o (n + 1)) = e_A16vu x := by simp only [e_A16vu_fz]
theorem q_A16vu (x : A16vu) (o : Nat → Ob) (n : Nat) : (e_A16vu x).flatMap (reach o (n + 1)) = [] := by simp only [e_A16vu_reach, List.append_nil]
theorem e_A16vu_kinds (x : A16vu) : kindsOk [some .u8, some .u8, some .u8, some .u8, some .u8, some .u8, some .u8, some .u8, some .u8, some .u8, some .u8, some .u8, some .u8, some .u8, some .u8, some .u8] (e_A16vu x) = true := by rfl
theorem e_A16vu_eq (x y : A16vu) : eqCells (e_A16vu x) (e_A16vu y) = decide (x = y) := by
  rw [Bool.eq_iff_iff]
  simp only [e_A16vu, List.cons_append, List.nil_append, List.append_nil, eqCells, eqv, Bool.and_eq_true, beq_iff_eq, decide_eq_true_eq, and_true]
  constructor
  · intro h
    obtain ⟨v1, v2, v3, v4, v5, v6, v7, v8, v9, v10, v11, v12, v13, v14, v15, v16⟩ := x
    obtain ⟨v17', v18', v19', v20', v21', v22', v23', v24', v25', v26', v27', v28', v29', v30', v31', v32'⟩ := y
    simp_all
  · rintro rfl
    simp
attribute [go_sem] e_A16vu_len e_A16vu_sub e_A16vu_take e_A16vu_all e_A16vu_g_a0 e_A16vu_s_a0 e_A16vu_g_a1 e_A16vu_s_a1 e_A16vu_g_a2 e_A16vu_s_a2 e_A16vu_g_a3 e_A16vu_s_a3 e_A16vu_g_a4 e_A16vu_s_a4 e_A16vu_g_a5 e_A16vu_s_a5 e_A16vu_g_a6 e_A16vu_s_a6 e_A16vu_g_a7 e_A16vu_s_a7 e_A16vu_g_a8 e_A16vu_s_a8 e_A16vu_g_a9 e_A16vu_s_a9 e_A16vu_g_a10 e_A16vu_s_a10 e_A16vu_g_a11 e_A16vu_s_a11 e_A16vu_g_a12 e_A16vu_s_a12 e_A16vu_g_a13 e_A16vu_s_a13 e_A16vu_g_a14 e_A16vu_s_a14 e_A16vu_g_a15 e_A16vu_s_a15 e_A16vu_fz e_A16vu_reach e_A16vu_kinds e_A16vu_eq f_A16vu q_A16vu

structure A6vu where
  a0 : Int
  a1 : Int
  a2 : Int
  a3 : Int
  a4 : Int
  a5 : Int
  deriving DecidableEq

def A6vu.z : A6vu := ⟨0, 0, 0, 0, 0, 0⟩

def e_A6vu (x : A6vu) : List AV := [vu x.a0, vu x.a1, vu x.a2, vu x.a3, vu x.a4, vu x.a5]

theorem e_A6vu_len (x : A6vu) : (e_A6vu x).length = 6 := by rfl
theorem e_A6vu_sub (x : A6vu) : sub? (e_A6vu x) 0 6 = some (e_A6vu x) := by rfl
theorem e_A6vu_take (x : A6vu) : (e_A6vu x).take 6 = (e_A6vu x) := by rfl
theorem e_A6vu_all (x : A6vu) (y : A6vu) : putAt (e_A6vu x) 0 (e_A6vu y) = e_A6vu y := by rfl
theorem e_A6vu_g_a0 (x : A6vu) : (e_A6vu x)[0]? = some (vu x.a0) := by rfl
theorem e_A6vu_s_a0 (x : A6vu) (v : Int) : (e_A6vu x).set 0 (vu v) = e_A6vu { x with a0 := v } := by rfl
theorem e_A6vu_g_a1 (x : A6vu) : (e_A6vu x)[1]? = some (vu x.a1) := by rfl
theorem e_A6vu_s_a1 (x : A6vu) (v : Int) : (e_A6vu x).set 1 (vu v) = e_A6vu { x with a1 := v } := by rfl
theorem e_A6vu_g_a2 (x : A6vu) : (e_A6vu x)[2]? = some (vu x.a2) := by rfl
theorem e_A6vu_s_a2 (x : A6vu) (v : Int) : (e_A6vu x).set 2 (vu v) = e_A6vu { x with a2 := v } := by rfl
theorem e_A6vu_g_a3 (x : A6vu) : (e_A6vu x)[3]? = some (vu x.a3) := by rfl
theorem e_A6vu_s_a3 (x : A6vu) (v : Int) : (e_A6vu x).set 3 (vu v) = e_A6vu { x with a3 := v } := by rfl
theorem e_A6vu_g_a4 (x : A6vu) : (e_A6vu x)[4]? = some (vu x.a4) := by rfl
theorem e_A6vu_s_a4 (x : A6vu) (v : Int) : (e_A6vu x).set 4 (vu v) = e_A6vu { x with a4 := v } := by rfl
theorem e_A6vu_g_a5 (x : A6vu) : (e_A6vu x)[5]? = some (vu x.a5) := by rfl
theorem e_A6vu_s_a5 (x : A6vu) (v : Int) : (e_A6vu x).set 5 (vu v) = e_A6vu { x with a5 := v } := by rfl
theorem e_A6vu_fz (x : A6vu) (o : Nat → Ob) (n : Nat) : (e_A6vu x).map (fz o (n + 1)) = e_A6vu x := by rfl
theorem e_A6vu_reach (x : A6vu) (o : Nat → Ob) (n : Nat) : (e_A6vu x).flatMap (reach o (n + 1)) = [] := by
  simp only [e_A6vu, List.cons_append, List.nil_append, List.append_nil, List.flatMap_cons, List.flatMap_nil, reach_v]
theorem e_A6vu_clean (x : A6vu) : ∀ c ∈ (e_A6vu x), Clean c := by
  simp only [e_A6vu, List.cons_append, List.nil_append]
  repeat' (first | exact Clean.v _ | assumption | exact List.forall_mem_nil _ | refine List.forall_mem_cons.2 ⟨?_, ?_⟩)
def A6vu.setA (x : A6vu) (i : Nat) (v : Int) : A6vu := ⟨bif i == 0 then v else x.a0, bif i == 1 then v else x.a1, bif i == 2 then v else x.a2, bif i == 3 then v else x.a3, bif i == 4 then v else x.a4, bif i == 5 then v else x.a5⟩
theorem f_A6vu (x : A6vu) (o : Nat → Ob) (n : Nat) : (e_A6vu x).map (fz o (n + 1)) = e_A6vu x := by simp only [e_A6vu_fz]
theorem q_A6vu (x : A6vu) (o : Nat → Ob) (n : Nat) : (e_A6vu x).flatMap (reach o (n + 1)) = [] := by simp only [e_A6vu_reach, List.append_nil]
theorem e_A6vu_kinds (x : A6vu) : kindsOk [some .u8, some .u8, some .u8, some .u8, some .u8, some .u8] (e_A6vu x) = true := by rfl
theorem e_A6vu_eq (x y : A6vu) : eqCells (e_A6vu x) (e_A6vu y) = decide (x = y) := by
  rw [Bool.eq_iff_iff]
  simp only [e_A6vu, List.cons_append, List.nil_append, List.append_nil, eqCells, eqv, Bool.and_eq_true, beq_iff_eq, decide_eq_true_eq, and_true]
  constructor
  · intro h
    obtain ⟨v1, v2, v3, v4, v5, v6⟩ := x
    obtain ⟨v7', v8', v9', v10', v11', v12'⟩ := y
    simp_all
  · rintro rfl
    simp
attribute [go_sem] e_A6vu_len e_A6vu_sub e_A6vu_take e_A6vu_all e_A6vu_g_a0 e_A6vu_s_a0 e_A6vu_g_a1 e_A6vu_s_a1 e_A6vu_g_a2 e_A6vu_s_a2 e_A6vu_g_a3 e_A6vu_s_a3 e_A6vu_g_a4 e_A6vu_s_a4 e_A6vu_g_a5 e_A6vu_s_a5 e_A6vu_fz e_A6vu_reach e_A6vu_kinds e_A6vu_eq f_A6vu q_A6vu

structure Auth where
  Own : A6vu
  Peer : A6vu
  Stage : Int
  Base : Int
  Rand : Int
  Mask : Int
  Scalar : Int
  Element : Int
  OtherScalar : Int
  OtherElement : Int
  Confirm : A16vu
  Master : A16vu
  HasToken : Bool
  Token : Int
  Sync : Int
  Tries : Int
  Due : Int
  deriving DecidableEq

def Auth.z : Auth := ⟨A6vu.z, A6vu.z, 0, 0, 0, 0, 0, 0, 0, 0, A16vu.z, A16vu.z, false, 0, 0, 0, 0⟩

def e_Auth (x : Auth) : List AV := (e_A6vu x.Own) ++ (e_A6vu x.Peer) ++ [vu x.Stage, vq x.Base, vq x.Rand, vq x.Mask, vq x.Scalar, vq x.Element, vq x.OtherScalar, vq x.OtherElement] ++ (e_A16vu x.Confirm) ++ (e_A16vu x.Master) ++ [vb x.HasToken, vq x.Token, vi x.Sync, vi x.Tries, vi x.Due]

theorem e_Auth_len (x : Auth) : (e_Auth x).length = 57 := by rfl
theorem e_Auth_sub (x : Auth) : sub? (e_Auth x) 0 57 = some (e_Auth x) := by rfl
theorem e_Auth_take (x : Auth) : (e_Auth x).take 57 = (e_Auth x) := by rfl
theorem e_Auth_all (x : Auth) (y : Auth) : putAt (e_Auth x) 0 (e_Auth y) = e_Auth y := by rfl
theorem e_Auth_g_Own_a0 (x : Auth) : (e_Auth x)[0]? = some (vu x.Own.a0) := by rfl
theorem e_Auth_s_Own_a0 (x : Auth) (v : Int) : (e_Auth x).set 0 (vu v) = e_Auth { x with Own.a0 := v } := by rfl
theorem e_Auth_g_Own_a1 (x : Auth) : (e_Auth x)[1]? = some (vu x.Own.a1) := by rfl
theorem e_Auth_s_Own_a1 (x : Auth) (v : Int) : (e_Auth x).set 1 (vu v) = e_Auth { x with Own.a1 := v } := by rfl
theorem e_Auth_g_Own_a2 (x : Auth) : (e_Auth x)[2]? = some (vu x.Own.a2) := by rfl
theorem e_Auth_s_Own_a2 (x : Auth) (v : Int) : (e_Auth x).set 2 (vu v) = e_Auth { x with Own.a2 := v } := by rfl
theorem e_Auth_g_Own_a3 (x : Auth) : (e_Auth x)[3]? = some (vu x.Own.a3) := by rfl
theorem e_Auth_s_Own_a3 (x : Auth) (v : Int) : (e_Auth x).set 3 (vu v) = e_Auth { x with Own.a3 := v } := by rfl
theorem e_Auth_g_Own_a4 (x : Auth) : (e_Auth x)[4]? = some (vu x.Own.a4) := by rfl
theorem e_Auth_s_Own_a4 (x : Auth) (v : Int) : (e_Auth x).set 4 (vu v) = e_Auth { x with Own.a4 := v } := by rfl
theorem e_Auth_g_Own_a5 (x : Auth) : (e_Auth x)[5]? = some (vu x.Own.a5) := by rfl
theorem e_Auth_s_Own_a5 (x : Auth) (v : Int) : (e_Auth x).set 5 (vu v) = e_Auth { x with Own.a5 := v } := by rfl
theorem e_Auth_g_Peer_a0 (x : Auth) : (e_Auth x)[6]? = some (vu x.Peer.a0) := by rfl
theorem e_Auth_s_Peer_a0 (x : Auth) (v : Int) : (e_Auth x).set 6 (vu v) = e_Auth { x with Peer.a0 := v } := by rfl
theorem e_Auth_g_Peer_a1 (x : Auth) : (e_Auth x)[7]? = some (vu x.Peer.a1) := by rfl
theorem e_Auth_s_Peer_a1 (x : Auth) (v : Int) : (e_Auth x).set 7 (vu v) = e_Auth { x with Peer.a1 := v } := by rfl
theorem e_Auth_g_Peer_a2 (x : Auth) : (e_Auth x)[8]? = some (vu x.Peer.a2) := by rfl
theorem e_Auth_s_Peer_a2 (x : Auth) (v : Int) : (e_Auth x).set 8 (vu v) = e_Auth { x with Peer.a2 := v } := by rfl
theorem e_Auth_g_Peer_a3 (x : Auth) : (e_Auth x)[9]? = some (vu x.Peer.a3) := by rfl
theorem e_Auth_s_Peer_a3 (x : Auth) (v : Int) : (e_Auth x).set 9 (vu v) = e_Auth { x with Peer.a3 := v } := by rfl
theorem e_Auth_g_Peer_a4 (x : Auth) : (e_Auth x)[10]? = some (vu x.Peer.a4) := by rfl
theorem e_Auth_s_Peer_a4 (x : Auth) (v : Int) : (e_Auth x).set 10 (vu v) = e_Auth { x with Peer.a4 := v } := by rfl
theorem e_Auth_g_Peer_a5 (x : Auth) : (e_Auth x)[11]? = some (vu x.Peer.a5) := by rfl
theorem e_Auth_s_Peer_a5 (x : Auth) (v : Int) : (e_Auth x).set 11 (vu v) = e_Auth { x with Peer.a5 := v } := by rfl
theorem e_Auth_g_Stage (x : Auth) : (e_Auth x)[12]? = some (vu x.Stage) := by rfl
theorem e_Auth_s_Stage (x : Auth) (v : Int) : (e_Auth x).set 12 (vu v) = e_Auth { x with Stage := v } := by rfl
theorem e_Auth_g_Base (x : Auth) : (e_Auth x)[13]? = some (vq x.Base) := by rfl
theorem e_Auth_s_Base (x : Auth) (v : Int) : (e_Auth x).set 13 (vq v) = e_Auth { x with Base := v } := by rfl
theorem e_Auth_g_Rand (x : Auth) : (e_Auth x)[14]? = some (vq x.Rand) := by rfl
theorem e_Auth_s_Rand (x : Auth) (v : Int) : (e_Auth x).set 14 (vq v) = e_Auth { x with Rand := v } := by rfl
theorem e_Auth_g_Mask (x : Auth) : (e_Auth x)[15]? = some (vq x.Mask) := by rfl
theorem e_Auth_s_Mask (x : Auth) (v : Int) : (e_Auth x).set 15 (vq v) = e_Auth { x with Mask := v } := by rfl
theorem e_Auth_g_Scalar (x : Auth) : (e_Auth x)[16]? = some (vq x.Scalar) := by rfl
theorem e_Auth_s_Scalar (x : Auth) (v : Int) : (e_Auth x).set 16 (vq v) = e_Auth { x with Scalar := v } := by rfl
theorem e_Auth_g_Element (x : Auth) : (e_Auth x)[17]? = some (vq x.Element) := by rfl
theorem e_Auth_s_Element (x : Auth) (v : Int) : (e_Auth x).set 17 (vq v) = e_Auth { x with Element := v } := by rfl
theorem e_Auth_g_OtherScalar (x : Auth) : (e_Auth x)[18]? = some (vq x.OtherScalar) := by rfl
theorem e_Auth_s_OtherScalar (x : Auth) (v : Int) : (e_Auth x).set 18 (vq v) = e_Auth { x with OtherScalar := v } := by rfl
theorem e_Auth_g_OtherElement (x : Auth) : (e_Auth x)[19]? = some (vq x.OtherElement) := by rfl
theorem e_Auth_s_OtherElement (x : Auth) (v : Int) : (e_Auth x).set 19 (vq v) = e_Auth { x with OtherElement := v } := by rfl
theorem e_Auth_g_Confirm_a0 (x : Auth) : (e_Auth x)[20]? = some (vu x.Confirm.a0) := by rfl
theorem e_Auth_s_Confirm_a0 (x : Auth) (v : Int) : (e_Auth x).set 20 (vu v) = e_Auth { x with Confirm.a0 := v } := by rfl
theorem e_Auth_g_Confirm_a1 (x : Auth) : (e_Auth x)[21]? = some (vu x.Confirm.a1) := by rfl
theorem e_Auth_s_Confirm_a1 (x : Auth) (v : Int) : (e_Auth x).set 21 (vu v) = e_Auth { x with Confirm.a1 := v } := by rfl
theorem e_Auth_g_Confirm_a2 (x : Auth) : (e_Auth x)[22]? = some (vu x.Confirm.a2) := by rfl
theorem e_Auth_s_Confirm_a2 (x : Auth) (v : Int) : (e_Auth x).set 22 (vu v) = e_Auth { x with Confirm.a2 := v } := by rfl
theorem e_Auth_g_Confirm_a3 (x : Auth) : (e_Auth x)[23]? = some (vu x.Confirm.a3) := by rfl
theorem e_Auth_s_Confirm_a3 (x : Auth) (v : Int) : (e_Auth x).set 23 (vu v) = e_Auth { x with Confirm.a3 := v } := by rfl
theorem e_Auth_g_Confirm_a4 (x : Auth) : (e_Auth x)[24]? = some (vu x.Confirm.a4) := by rfl
theorem e_Auth_s_Confirm_a4 (x : Auth) (v : Int) : (e_Auth x).set 24 (vu v) = e_Auth { x with Confirm.a4 := v } := by rfl
theorem e_Auth_g_Confirm_a5 (x : Auth) : (e_Auth x)[25]? = some (vu x.Confirm.a5) := by rfl
theorem e_Auth_s_Confirm_a5 (x : Auth) (v : Int) : (e_Auth x).set 25 (vu v) = e_Auth { x with Confirm.a5 := v } := by rfl
theorem e_Auth_g_Confirm_a6 (x : Auth) : (e_Auth x)[26]? = some (vu x.Confirm.a6) := by rfl
theorem e_Auth_s_Confirm_a6 (x : Auth) (v : Int) : (e_Auth x).set 26 (vu v) = e_Auth { x with Confirm.a6 := v } := by rfl
theorem e_Auth_g_Confirm_a7 (x : Auth) : (e_Auth x)[27]? = some (vu x.Confirm.a7) := by rfl
theorem e_Auth_s_Confirm_a7 (x : Auth) (v : Int) : (e_Auth x).set 27 (vu v) = e_Auth { x with Confirm.a7 := v } := by rfl
theorem e_Auth_g_Confirm_a8 (x : Auth) : (e_Auth x)[28]? = some (vu x.Confirm.a8) := by rfl
theorem e_Auth_s_Confirm_a8 (x : Auth) (v : Int) : (e_Auth x).set 28 (vu v) = e_Auth { x with Confirm.a8 := v } := by rfl
theorem e_Auth_g_Confirm_a9 (x : Auth) : (e_Auth x)[29]? = some (vu x.Confirm.a9) := by rfl
theorem e_Auth_s_Confirm_a9 (x : Auth) (v : Int) : (e_Auth x).set 29 (vu v) = e_Auth { x with Confirm.a9 := v } := by rfl
theorem e_Auth_g_Confirm_a10 (x : Auth) : (e_Auth x)[30]? = some (vu x.Confirm.a10) := by rfl
theorem e_Auth_s_Confirm_a10 (x : Auth) (v : Int) : (e_Auth x).set 30 (vu v) = e_Auth { x with Confirm.a10 := v } := by rfl
theorem e_Auth_g_Confirm_a11 (x : Auth) : (e_Auth x)[31]? = some (vu x.Confirm.a11) := by rfl
theorem e_Auth_s_Confirm_a11 (x : Auth) (v : Int) : (e_Auth x).set 31 (vu v) = e_Auth { x with Confirm.a11 := v } := by rfl
theorem e_Auth_g_Confirm_a12 (x : Auth) : (e_Auth x)[32]? = some (vu x.Confirm.a12) := by rfl
theorem e_Auth_s_Confirm_a12 (x : Auth) (v : Int) : (e_Auth x).set 32 (vu v) = e_Auth { x with Confirm.a12 := v } := by rfl
theorem e_Auth_g_Confirm_a13 (x : Auth) : (e_Auth x)[33]? = some (vu x.Confirm.a13) := by rfl
theorem e_Auth_s_Confirm_a13 (x : Auth) (v : Int) : (e_Auth x).set 33 (vu v) = e_Auth { x with Confirm.a13 := v } := by rfl
theorem e_Auth_g_Confirm_a14 (x : Auth) : (e_Auth x)[34]? = some (vu x.Confirm.a14) := by rfl
theorem e_Auth_s_Confirm_a14 (x : Auth) (v : Int) : (e_Auth x).set 34 (vu v) = e_Auth { x with Confirm.a14 := v } := by rfl
theorem e_Auth_g_Confirm_a15 (x : Auth) : (e_Auth x)[35]? = some (vu x.Confirm.a15) := by rfl
theorem e_Auth_s_Confirm_a15 (x : Auth) (v : Int) : (e_Auth x).set 35 (vu v) = e_Auth { x with Confirm.a15 := v } := by rfl
theorem e_Auth_g_Master_a0 (x : Auth) : (e_Auth x)[36]? = some (vu x.Master.a0) := by rfl
theorem e_Auth_s_Master_a0 (x : Auth) (v : Int) : (e_Auth x).set 36 (vu v) = e_Auth { x with Master.a0 := v } := by rfl
theorem e_Auth_g_Master_a1 (x : Auth) : (e_Auth x)[37]? = some (vu x.Master.a1) := by rfl
theorem e_Auth_s_Master_a1 (x : Auth) (v : Int) : (e_Auth x).set 37 (vu v) = e_Auth { x with Master.a1 := v } := by rfl
theorem e_Auth_g_Master_a2 (x : Auth) : (e_Auth x)[38]? = some (vu x.Master.a2) := by rfl
theorem e_Auth_s_Master_a2 (x : Auth) (v : Int) : (e_Auth x).set 38 (vu v) = e_Auth { x with Master.a2 := v } := by rfl
theorem e_Auth_g_Master_a3 (x : Auth) : (e_Auth x)[39]? = some (vu x.Master.a3) := by rfl
theorem e_Auth_s_Master_a3 (x : Auth) (v : Int) : (e_Auth x).set 39 (vu v) = e_Auth { x with Master.a3 := v } := by rfl
theorem e_Auth_g_Master_a4 (x : Auth) : (e_Auth x)[40]? = some (vu x.Master.a4) := by rfl
theorem e_Auth_s_Master_a4 (x : Auth) (v : Int) : (e_Auth x).set 40 (vu v) = e_Auth { x with Master.a4 := v } := by rfl
theorem e_Auth_g_Master_a5 (x : Auth) : (e_Auth x)[41]? = some (vu x.Master.a5) := by rfl
theorem e_Auth_s_Master_a5 (x : Auth) (v : Int) : (e_Auth x).set 41 (vu v) = e_Auth { x with Master.a5 := v } := by rfl
theorem e_Auth_g_Master_a6 (x : Auth) : (e_Auth x)[42]? = some (vu x.Master.a6) := by rfl
theorem e_Auth_s_Master_a6 (x : Auth) (v : Int) : (e_Auth x).set 42 (vu v) = e_Auth { x with Master.a6 := v } := by rfl
theorem e_Auth_g_Master_a7 (x : Auth) : (e_Auth x)[43]? = some (vu x.Master.a7) := by rfl
theorem e_Auth_s_Master_a7 (x : Auth) (v : Int) : (e_Auth x).set 43 (vu v) = e_Auth { x with Master.a7 := v } := by rfl
theorem e_Auth_g_Master_a8 (x : Auth) : (e_Auth x)[44]? = some (vu x.Master.a8) := by rfl
theorem e_Auth_s_Master_a8 (x : Auth) (v : Int) : (e_Auth x).set 44 (vu v) = e_Auth { x with Master.a8 := v } := by rfl
theorem e_Auth_g_Master_a9 (x : Auth) : (e_Auth x)[45]? = some (vu x.Master.a9) := by rfl
theorem e_Auth_s_Master_a9 (x : Auth) (v : Int) : (e_Auth x).set 45 (vu v) = e_Auth { x with Master.a9 := v } := by rfl
theorem e_Auth_g_Master_a10 (x : Auth) : (e_Auth x)[46]? = some (vu x.Master.a10) := by rfl
theorem e_Auth_s_Master_a10 (x : Auth) (v : Int) : (e_Auth x).set 46 (vu v) = e_Auth { x with Master.a10 := v } := by rfl
theorem e_Auth_g_Master_a11 (x : Auth) : (e_Auth x)[47]? = some (vu x.Master.a11) := by rfl
theorem e_Auth_s_Master_a11 (x : Auth) (v : Int) : (e_Auth x).set 47 (vu v) = e_Auth { x with Master.a11 := v } := by rfl
theorem e_Auth_g_Master_a12 (x : Auth) : (e_Auth x)[48]? = some (vu x.Master.a12) := by rfl
theorem e_Auth_s_Master_a12 (x : Auth) (v : Int) : (e_Auth x).set 48 (vu v) = e_Auth { x with Master.a12 := v } := by rfl
theorem e_Auth_g_Master_a13 (x : Auth) : (e_Auth x)[49]? = some (vu x.Master.a13) := by rfl
theorem e_Auth_s_Master_a13 (x : Auth) (v : Int) : (e_Auth x).set 49 (vu v) = e_Auth { x with Master.a13 := v } := by rfl
theorem e_Auth_g_Master_a14 (x : Auth) : (e_Auth x)[50]? = some (vu x.Master.a14) := by rfl
theorem e_Auth_s_Master_a14 (x : Auth) (v : Int) : (e_Auth x).set 50 (vu v) = e_Auth { x with Master.a14 := v } := by rfl
theorem e_Auth_g_Master_a15 (x : Auth) : (e_Auth x)[51]? = some (vu x.Master.a15) := by rfl
theorem e_Auth_s_Master_a15 (x : Auth) (v : Int) : (e_Auth x).set 51 (vu v) = e_Auth { x with Master.a15 := v } := by rfl
theorem e_Auth_g_HasToken (x : Auth) : (e_Auth x)[52]? = some (vb x.HasToken) := by rfl
theorem e_Auth_s_HasToken (x : Auth) (v : Bool) : (e_Auth x).set 52 (vb v) = e_Auth { x with HasToken := v } := by rfl
theorem e_Auth_g_Token (x : Auth) : (e_Auth x)[53]? = some (vq x.Token) := by rfl
theorem e_Auth_s_Token (x : Auth) (v : Int) : (e_Auth x).set 53 (vq v) = e_Auth { x with Token := v } := by rfl
theorem e_Auth_g_Sync (x : Auth) : (e_Auth x)[54]? = some (vi x.Sync) := by rfl
theorem e_Auth_s_Sync (x : Auth) (v : Int) : (e_Auth x).set 54 (vi v) = e_Auth { x with Sync := v } := by rfl
theorem e_Auth_g_Tries (x : Auth) : (e_Auth x)[55]? = some (vi x.Tries) := by rfl
theorem e_Auth_s_Tries (x : Auth) (v : Int) : (e_Auth x).set 55 (vi v) = e_Auth { x with Tries := v } := by rfl
theorem e_Auth_g_Due (x : Auth) : (e_Auth x)[56]? = some (vi x.Due) := by rfl
theorem e_Auth_s_Due (x : Auth) (v : Int) : (e_Auth x).set 56 (vi v) = e_Auth { x with Due := v } := by rfl
theorem e_Auth_d_Own (x : Auth) : sub? (e_Auth x) 0 6 = some (e_A6vu x.Own) := by rfl
theorem e_Auth_p_Own (x : Auth) (v : A6vu) : putAt (e_Auth x) 0 (e_A6vu v) = e_Auth { x with Own := v } := by rfl
theorem e_Auth_d_Peer (x : Auth) : sub? (e_Auth x) 6 6 = some (e_A6vu x.Peer) := by rfl
theorem e_Auth_p_Peer (x : Auth) (v : A6vu) : putAt (e_Auth x) 6 (e_A6vu v) = e_Auth { x with Peer := v } := by rfl
theorem e_Auth_d_Confirm (x : Auth) : sub? (e_Auth x) 20 16 = some (e_A16vu x.Confirm) := by rfl
theorem e_Auth_p_Confirm (x : Auth) (v : A16vu) : putAt (e_Auth x) 20 (e_A16vu v) = e_Auth { x with Confirm := v } := by rfl
theorem e_Auth_d_Master (x : Auth) : sub? (e_Auth x) 36 16 = some (e_A16vu x.Master) := by rfl
theorem e_Auth_p_Master (x : Auth) (v : A16vu) : putAt (e_Auth x) 36 (e_A16vu v) = e_Auth { x with Master := v } := by rfl
theorem e_Auth_fz (x : Auth) (o : Nat → Ob) (n : Nat) : (e_Auth x).map (fz o (n + 1)) = e_Auth x := by rfl
theorem e_Auth_reach (x : Auth) (o : Nat → Ob) (n : Nat) : (e_Auth x).flatMap (reach o (n + 1)) = [] := by
  simp only [e_Auth, e_A6vu, e_A16vu, List.cons_append, List.nil_append, List.append_nil, List.flatMap_cons, List.flatMap_nil, reach_v]
theorem e_Auth_clean (x : Auth) : ∀ c ∈ (e_Auth x), Clean c := by
  simp only [e_Auth, e_A6vu, e_A16vu, List.cons_append, List.nil_append]
  repeat' (first | exact Clean.v _ | assumption | exact List.forall_mem_nil _ | refine List.forall_mem_cons.2 ⟨?_, ?_⟩)
theorem f_Auth (x : Auth) (o : Nat → Ob) (n : Nat) : (e_Auth x).map (fz o (n + 1)) = e_Auth x := by simp only [e_Auth_fz]
theorem q_Auth (x : Auth) (o : Nat → Ob) (n : Nat) : (e_Auth x).flatMap (reach o (n + 1)) = [] := by simp only [e_Auth_reach, List.append_nil]
theorem e_Auth_kinds (x : Auth) : kindsOk [some .u8, some .u8, some .u8, some .u8, some .u8, some .u8, some .u8, some .u8, some .u8, some .u8, some .u8, some .u8, some .u8, some .u64, some .u64, some .u64, some .u64, some .u64, some .u64, some .u64, some .u8, some .u8, some .u8, some .u8, some .u8, some .u8, some .u8, some .u8, some .u8, some .u8, some .u8, some .u8, some .u8, some .u8, some .u8, some .u8, some .u8, some .u8, some .u8, some .u8, some .u8, some .u8, some .u8, some .u8, some .u8, some .u8, some .u8, some .u8, some .u8, some .u8, some .u8, some .u8, none, some .u64, some .i64, some .i64, some .i64] (e_Auth x) = true := by rfl
theorem e_Auth_eq (x y : Auth) : eqCells (e_Auth x) (e_Auth y) = decide (x = y) := by
  rw [Bool.eq_iff_iff]
  simp only [e_Auth, e_A6vu, e_A16vu, List.cons_append, List.nil_append, List.append_nil, eqCells, eqv, Bool.and_eq_true, beq_iff_eq, decide_eq_true_eq, and_true]
  constructor
  · intro h
    obtain ⟨⟨v1, v2, v3, v4, v5, v6⟩, ⟨v7, v8, v9, v10, v11, v12⟩, v13, v14, v15, v16, v17, v18, v19, v20, ⟨v21, v22, v23, v24, v25, v26, v27, v28, v29, v30, v31, v32, v33, v34, v35, v36⟩, ⟨v37, v38, v39, v40, v41, v42, v43, v44, v45, v46, v47, v48, v49, v50, v51, v52⟩, v53, v54, v55, v56, v57⟩ := x
    obtain ⟨⟨v58', v59', v60', v61', v62', v63'⟩, ⟨v64', v65', v66', v67', v68', v69'⟩, v70', v71', v72', v73', v74', v75', v76', v77', ⟨v78', v79', v80', v81', v82', v83', v84', v85', v86', v87', v88', v89', v90', v91', v92', v93'⟩, ⟨v94', v95', v96', v97', v98', v99', v100', v101', v102', v103', v104', v105', v106', v107', v108', v109'⟩, v110', v111', v112', v113', v114'⟩ := y
    simp_all
  · rintro rfl
    simp
attribute [go_sem] e_Auth_len e_Auth_sub e_Auth_take e_Auth_all e_Auth_g_Own_a0 e_Auth_s_Own_a0 e_Auth_g_Own_a1 e_Auth_s_Own_a1 e_Auth_g_Own_a2 e_Auth_s_Own_a2 e_Auth_g_Own_a3 e_Auth_s_Own_a3 e_Auth_g_Own_a4 e_Auth_s_Own_a4 e_Auth_g_Own_a5 e_Auth_s_Own_a5 e_Auth_g_Peer_a0 e_Auth_s_Peer_a0 e_Auth_g_Peer_a1 e_Auth_s_Peer_a1 e_Auth_g_Peer_a2 e_Auth_s_Peer_a2 e_Auth_g_Peer_a3 e_Auth_s_Peer_a3 e_Auth_g_Peer_a4 e_Auth_s_Peer_a4 e_Auth_g_Peer_a5 e_Auth_s_Peer_a5 e_Auth_g_Stage e_Auth_s_Stage e_Auth_g_Base e_Auth_s_Base e_Auth_g_Rand e_Auth_s_Rand e_Auth_g_Mask e_Auth_s_Mask e_Auth_g_Scalar e_Auth_s_Scalar e_Auth_g_Element e_Auth_s_Element e_Auth_g_OtherScalar e_Auth_s_OtherScalar e_Auth_g_OtherElement e_Auth_s_OtherElement e_Auth_g_Confirm_a0 e_Auth_s_Confirm_a0 e_Auth_g_Confirm_a1 e_Auth_s_Confirm_a1 e_Auth_g_Confirm_a2 e_Auth_s_Confirm_a2 e_Auth_g_Confirm_a3 e_Auth_s_Confirm_a3 e_Auth_g_Confirm_a4 e_Auth_s_Confirm_a4 e_Auth_g_Confirm_a5 e_Auth_s_Confirm_a5 e_Auth_g_Confirm_a6 e_Auth_s_Confirm_a6 e_Auth_g_Confirm_a7 e_Auth_s_Confirm_a7 e_Auth_g_Confirm_a8 e_Auth_s_Confirm_a8 e_Auth_g_Confirm_a9 e_Auth_s_Confirm_a9 e_Auth_g_Confirm_a10 e_Auth_s_Confirm_a10 e_Auth_g_Confirm_a11 e_Auth_s_Confirm_a11 e_Auth_g_Confirm_a12 e_Auth_s_Confirm_a12 e_Auth_g_Confirm_a13 e_Auth_s_Confirm_a13 e_Auth_g_Confirm_a14 e_Auth_s_Confirm_a14 e_Auth_g_Confirm_a15 e_Auth_s_Confirm_a15 e_Auth_g_Master_a0 e_Auth_s_Master_a0 e_Auth_g_Master_a1 e_Auth_s_Master_a1 e_Auth_g_Master_a2 e_Auth_s_Master_a2 e_Auth_g_Master_a3 e_Auth_s_Master_a3 e_Auth_g_Master_a4 e_Auth_s_Master_a4 e_Auth_g_Master_a5 e_Auth_s_Master_a5 e_Auth_g_Master_a6 e_Auth_s_Master_a6 e_Auth_g_Master_a7 e_Auth_s_Master_a7 e_Auth_g_Master_a8 e_Auth_s_Master_a8 e_Auth_g_Master_a9 e_Auth_s_Master_a9 e_Auth_g_Master_a10 e_Auth_s_Master_a10 e_Auth_g_Master_a11 e_Auth_s_Master_a11 e_Auth_g_Master_a12 e_Auth_s_Master_a12 e_Auth_g_Master_a13 e_Auth_s_Master_a13 e_Auth_g_Master_a14 e_Auth_s_Master_a14 e_Auth_g_Master_a15 e_Auth_s_Master_a15 e_Auth_g_HasToken e_Auth_s_HasToken e_Auth_g_Token e_Auth_s_Token e_Auth_g_Sync e_Auth_s_Sync e_Auth_g_Tries e_Auth_s_Tries e_Auth_g_Due e_Auth_s_Due e_Auth_d_Own e_Auth_p_Own e_Auth_d_Peer e_Auth_p_Peer e_Auth_d_Confirm e_Auth_p_Confirm e_Auth_d_Master e_Auth_p_Master e_Auth_fz e_Auth_reach e_Auth_kinds e_Auth_eq f_Auth q_Auth

def S_S_vu (l : List (List Int)) : AV := .imm (List.map S_vu l) l.length
theorem S_S_vu_eq (l : List (List Int)) : S_S_vu l = .imm (List.map S_vu l) l.length := rfl
theorem S_S_vu_clean (l : List (List Int)) : Clean (S_S_vu l) := Clean.imm fun c hc => by
  obtain ⟨a, _, rfl⟩ := List.mem_map.1 hc
  exact S_vu_clean a
theorem f_S_S_vu (l : List (List Int)) (o : Nat → Ob) (n : Nat) : fz o (n + 3) (S_S_vu l) = S_S_vu l := by
  simp only [S_S_vu_eq, fz, List.map_map]
  congr 1
  exact List.map_congr_left fun a _ => f_S_vu a o n
theorem cS_vu (l : List (List Int)) : ∀ c ∈ l.map S_vu, Clean c := fun c hc => by
  obtain ⟨a, _, rfl⟩ := List.mem_map.1 hc
  exact S_vu_clean a
theorem rS_S_vu_take (l : List (List Int)) (n : Nat) : (l.map S_vu).take n = (l.take n).map S_vu := List.map_take.symm
theorem rS_S_vu_drop (l : List (List Int)) (n : Nat) : (l.map S_vu).drop n = (l.drop n).map S_vu := List.map_drop.symm
theorem rS_S_vu_subw (l : List (List Int)) : sub? (l.map S_vu) 0 l.length = some (l.map S_vu) := by rw [sub?, if_pos (by simp), List.drop_zero, List.take_of_length_le (by simp)]
theorem rS_S_vu_fz (l : List (List Int)) (o : Nat → Ob) (n : Nat) : (l.map S_vu).map (fz o (n + 2)) = (l.map S_vu) := by
  rw [List.map_map]; exact List.map_congr_left fun a _ => f_S_vu a o n
theorem rS_S_vu_app (l : List (List Int)) (x : (List Int)) : (l.map S_vu) ++ [.imm (List.map vu x) x.length] = (l ++ [x]).map S_vu := by rw [List.map_append]; rfl
theorem rS_S_vu_cat (l : List (List Int)) (m : List (List Int)) : (l.map S_vu) ++ m.map S_vu = (l ++ m).map S_vu := List.map_append.symm
theorem rS_S_vu_rch (l : List (List Int)) (o : Nat → Ob) (n : Nat) : (l.map S_vu).flatMap (reach o (n + 2)) = [] := by
  rw [List.flatMap_eq_nil_iff]
  intro c hc
  obtain ⟨a, _, rfl⟩ := List.mem_map.1 hc
  exact q_S_vu a o n
attribute [go_sem] S_S_vu_eq rS_S_vu_take rS_S_vu_drop rS_S_vu_subw rS_S_vu_fz rS_S_vu_app rS_S_vu_cat rS_S_vu_rch f_S_S_vu

structure A2vu where
  a0 : Int
  a1 : Int
  deriving DecidableEq

def A2vu.z : A2vu := ⟨0, 0⟩

def e_A2vu (x : A2vu) : List AV := [vu x.a0, vu x.a1]

theorem e_A2vu_len (x : A2vu) : (e_A2vu x).length = 2 := by rfl
theorem e_A2vu_sub (x : A2vu) : sub? (e_A2vu x) 0 2 = some (e_A2vu x) := by rfl
theorem e_A2vu_take (x : A2vu) : (e_A2vu x).take 2 = (e_A2vu x) := by rfl
theorem e_A2vu_all (x : A2vu) (y : A2vu) : putAt (e_A2vu x) 0 (e_A2vu y) = e_A2vu y := by rfl
theorem e_A2vu_g_a0 (x : A2vu) : (e_A2vu x)[0]? = some (vu x.a0) := by rfl
theorem e_A2vu_s_a0 (x : A2vu) (v : Int) : (e_A2vu x).set 0 (vu v) = e_A2vu { x with a0 := v } := by rfl
theorem e_A2vu_g_a1 (x : A2vu) : (e_A2vu x)[1]? = some (vu x.a1) := by rfl
theorem e_A2vu_s_a1 (x : A2vu) (v : Int) : (e_A2vu x).set 1 (vu v) = e_A2vu { x with a1 := v } := by rfl
theorem e_A2vu_fz (x : A2vu) (o : Nat → Ob) (n : Nat) : (e_A2vu x).map (fz o (n + 1)) = e_A2vu x := by rfl
theorem e_A2vu_reach (x : A2vu) (o : Nat → Ob) (n : Nat) : (e_A2vu x).flatMap (reach o (n + 1)) = [] := by
  simp only [e_A2vu, List.cons_append, List.nil_append, List.append_nil, List.flatMap_cons, List.flatMap_nil, reach_v]
def A2vu.setA (x : A2vu) (i : Nat) (v : Int) : A2vu := ⟨bif i == 0 then v else x.a0, bif i == 1 then v else x.a1⟩
theorem f_A2vu (x : A2vu) (o : Nat → Ob) (n : Nat) : (e_A2vu x).map (fz o (n + 1)) = e_A2vu x := by simp only [e_A2vu_fz]
theorem q_A2vu (x : A2vu) (o : Nat → Ob) (n : Nat) : (e_A2vu x).flatMap (reach o (n + 1)) = [] := by simp only [e_A2vu_reach, List.append_nil]
theorem e_A2vu_kinds (x : A2vu) : kindsOk [some .u8, some .u8] (e_A2vu x) = true := by rfl
theorem e_A2vu_eq (x y : A2vu) : eqCells (e_A2vu x) (e_A2vu y) = decide (x = y) := by
  rw [Bool.eq_iff_iff]
  simp only [e_A2vu, List.cons_append, List.nil_append, List.append_nil, eqCells, eqv, Bool.and_eq_true, beq_iff_eq, decide_eq_true_eq, and_true]
  constructor
  · intro h
    obtain ⟨v1, v2⟩ := x
    obtain ⟨v3', v4'⟩ := y
    simp_all
  · rintro rfl
    simp
attribute [go_sem] e_A2vu_len e_A2vu_sub e_A2vu_take e_A2vu_all e_A2vu_g_a0 e_A2vu_s_a0 e_A2vu_g_a1 e_A2vu_s_a1 e_A2vu_fz e_A2vu_reach e_A2vu_kinds e_A2vu_eq f_A2vu q_A2vu

structure A36vw where
  a0 : Int
  a1 : Int
  a2 : Int
  a3 : Int
  a4 : Int
  a5 : Int
  a6 : Int
  a7 : Int
  a8 : Int
  a9 : Int
  a10 : Int
  a11 : Int
  a12 : Int
  a13 : Int
  a14 : Int
  a15 : Int
  a16 : Int
  a17 : Int
  a18 : Int
  a19 : Int
  a20 : Int
  a21 : Int
  a22 : Int
  a23 : Int
  a24 : Int
  a25 : Int
  a26 : Int
  a27 : Int
  a28 : Int
  a29 : Int
  a30 : Int
  a31 : Int
  a32 : Int
  a33 : Int
  a34 : Int
  a35 : Int
  deriving DecidableEq

def A36vw.z : A36vw := ⟨0, 0, 0, 0, 0, 0, 0, 0, 0, 0, 0, 0, 0, 0, 0, 0, 0, 0, 0, 0, 0, 0, 0, 0, 0, 0, 0, 0, 0, 0, 0, 0, 0, 0, 0, 0⟩

def e_A36vw (x : A36vw) : List AV := [vw x.a0, vw x.a1, vw x.a2, vw x.a3, vw x.a4, vw x.a5, vw x.a6, vw x.a7, vw x.a8, vw x.a9, vw x.a10, vw x.a11, vw x.a12, vw x.a13, vw x.a14, vw x.a15, vw x.a16, vw x.a17, vw x.a18, vw x.a19, vw x.a20, vw x.a21, vw x.a22, vw x.a23, vw x.a24, vw x.a25, vw x.a26, vw x.a27, vw x.a28, vw x.a29, vw x.a30, vw x.a31, vw x.a32, vw x.a33, vw x.a34, vw x.a35]

theorem e_A36vw_len (x : A36vw) : (e_A36vw x).length = 36 := by rfl
theorem e_A36vw_sub (x : A36vw) : sub? (e_A36vw x) 0 36 = some (e_A36vw x) := by rfl
theorem e_A36vw_take (x : A36vw) : (e_A36vw x).take 36 = (e_A36vw x) := by rfl
theorem e_A36vw_all (x : A36vw) (y : A36vw) : putAt (e_A36vw x) 0 (e_A36vw y) = e_A36vw y := by rfl
theorem e_A36vw_g_a0 (x : A36vw) : (e_A36vw x)[0]? = some (vw x.a0) := by rfl
theorem e_A36vw_s_a0 (x : A36vw) (v : Int) : (e_A36vw x).set 0 (vw v) = e_A36vw { x with a0 := v } := by rfl
theorem e_A36vw_g_a1 (x : A36vw) : (e_A36vw x)[1]? = some (vw x.a1) := by rfl
theorem e_A36vw_s_a1 (x : A36vw) (v : Int) : (e_A36vw x).set 1 (vw v) = e_A36vw { x with a1 := v } := by rfl
theorem e_A36vw_g_a2 (x : A36vw) : (e_A36vw x)[2]? = some (vw x.a2) := by rfl
theorem e_A36vw_s_a2 (x : A36vw) (v : Int) : (e_A36vw x).set 2 (vw v) = e_A36vw { x with a2 := v } := by rfl
theorem e_A36vw_g_a3 (x : A36vw) : (e_A36vw x)[3]? = some (vw x.a3) := by rfl
theorem e_A36vw_s_a3 (x : A36vw) (v : Int) : (e_A36vw x).set 3 (vw v) = e_A36vw { x with a3 := v } := by rfl
theorem e_A36vw_g_a4 (x : A36vw) : (e_A36vw x)[4]? = some (vw x.a4) := by rfl
theorem e_A36vw_s_a4 (x : A36vw) (v : Int) : (e_A36vw x).set 4 (vw v) = e_A36vw { x with a4 := v } := by rfl
theorem e_A36vw_g_a5 (x : A36vw) : (e_A36vw x)[5]? = some (vw x.a5) := by rfl
theorem e_A36vw_s_a5 (x : A36vw) (v : Int) : (e_A36vw x).set 5 (vw v) = e_A36vw { x with a5 := v } := by rfl
theorem e_A36vw_g_a6 (x : A36vw) : (e_A36vw x)[6]? = some (vw x.a6) := by rfl
theorem e_A36vw_s_a6 (x : A36vw) (v : Int) : (e_A36vw x).set 6 (vw v) = e_A36vw { x with a6 := v } := by rfl
theorem e_A36vw_g_a7 (x : A36vw) : (e_A36vw x)[7]? = some (vw x.a7) := by rfl
theorem e_A36vw_s_a7 (x : A36vw) (v : Int) : (e_A36vw x).set 7 (vw v) = e_A36vw { x with a7 := v } := by rfl
theorem e_A36vw_g_a8 (x : A36vw) : (e_A36vw x)[8]? = some (vw x.a8) := by rfl
theorem e_A36vw_s_a8 (x : A36vw) (v : Int) : (e_A36vw x).set 8 (vw v) = e_A36vw { x with a8 := v } := by rfl
theorem e_A36vw_g_a9 (x : A36vw) : (e_A36vw x)[9]? = some (vw x.a9) := by rfl
theorem e_A36vw_s_a9 (x : A36vw) (v : Int) : (e_A36vw x).set 9 (vw v) = e_A36vw { x with a9 := v } := by rfl
theorem e_A36vw_g_a10 (x : A36vw) : (e_A36vw x)[10]? = some (vw x.a10) := by rfl
theorem e_A36vw_s_a10 (x : A36vw) (v : Int) : (e_A36vw x).set 10 (vw v) = e_A36vw { x with a10 := v } := by rfl
theorem e_A36vw_g_a11 (x : A36vw) : (e_A36vw x)[11]? = some (vw x.a11) := by rfl
theorem e_A36vw_s_a11 (x : A36vw) (v : Int) : (e_A36vw x).set 11 (vw v) = e_A36vw { x with a11 := v } := by rfl
theorem e_A36vw_g_a12 (x : A36vw) : (e_A36vw x)[12]? = some (vw x.a12) := by rfl
theorem e_A36vw_s_a12 (x : A36vw) (v : Int) : (e_A36vw x).set 12 (vw v) = e_A36vw { x with a12 := v } := by rfl
theorem e_A36vw_g_a13 (x : A36vw) : (e_A36vw x)[13]? = some (vw x.a13) := by rfl
theorem e_A36vw_s_a13 (x : A36vw) (v : Int) : (e_A36vw x).set 13 (vw v) = e_A36vw { x with a13 := v } := by rfl
theorem e_A36vw_g_a14 (x : A36vw) : (e_A36vw x)[14]? = some (vw x.a14) := by rfl
theorem e_A36vw_s_a14 (x : A36vw) (v : Int) : (e_A36vw x).set 14 (vw v) = e_A36vw { x with a14 := v } := by rfl
theorem e_A36vw_g_a15 (x : A36vw) : (e_A36vw x)[15]? = some (vw x.a15) := by rfl
theorem e_A36vw_s_a15 (x : A36vw) (v : Int) : (e_A36vw x).set 15 (vw v) = e_A36vw { x with a15 := v } := by rfl
theorem e_A36vw_g_a16 (x : A36vw) : (e_A36vw x)[16]? = some (vw x.a16) := by rfl
theorem e_A36vw_s_a16 (x : A36vw) (v : Int) : (e_A36vw x).set 16 (vw v) = e_A36vw { x with a16 := v } := by rfl
theorem e_A36vw_g_a17 (x : A36vw) : (e_A36vw x)[17]? = some (vw x.a17) := by rfl
theorem e_A36vw_s_a17 (x : A36vw) (v : Int) : (e_A36vw x).set 17 (vw v) = e_A36vw { x with a17 := v } := by rfl
theorem e_A36vw_g_a18 (x : A36vw) : (e_A36vw x)[18]? = some (vw x.a18) := by rfl
theorem e_A36vw_s_a18 (x : A36vw) (v : Int) : (e_A36vw x).set 18 (vw v) = e_A36vw { x with a18 := v } := by rfl
theorem e_A36vw_g_a19 (x : A36vw) : (e_A36vw x)[19]? = some (vw x.a19) := by rfl
theorem e_A36vw_s_a19 (x : A36vw) (v : Int) : (e_A36vw x).set 19 (vw v) = e_A36vw { x with a19 := v } := by rfl
theorem e_A36vw_g_a20 (x : A36vw) : (e_A36vw x)[20]? = some (vw x.a20) := by rfl
theorem e_A36vw_s_a20 (x : A36vw) (v : Int) : (e_A36vw x).set 20 (vw v) = e_A36vw { x with a20 := v } := by rfl
theorem e_A36vw_g_a21 (x : A36vw) : (e_A36vw x)[21]? = some (vw x.a21) := by rfl
theorem e_A36vw_s_a21 (x : A36vw) (v : Int) : (e_A36vw x).set 21 (vw v) = e_A36vw { x with a21 := v } := by rfl
theorem e_A36vw_g_a22 (x : A36vw) : (e_A36vw x)[22]? = some (vw x.a22) := by rfl
theorem e_A36vw_s_a22 (x : A36vw) (v : Int) : (e_A36vw x).set 22 (vw v) = e_A36vw { x with a22 := v } := by rfl
theorem e_A36vw_g_a23 (x : A36vw) : (e_A36vw x)[23]? = some (vw x.a23) := by rfl
theorem e_A36vw_s_a23 (x : A36vw) (v : Int) : (e_A36vw x).set 23 (vw v) = e_A36vw { x with a23 := v } := by rfl
theorem e_A36vw_g_a24 (x : A36vw) : (e_A36vw x)[24]? = some (vw x.a24) := by rfl
theorem e_A36vw_s_a24 (x : A36vw) (v : Int) : (e_A36vw x).set 24 (vw v) = e_A36vw { x with a24 := v } := by rfl
theorem e_A36vw_g_a25 (x : A36vw) : (e_A36vw x)[25]? = some (vw x.a25) := by rfl
theorem e_A36vw_s_a25 (x : A36vw) (v : Int) : (e_A36vw x).set 25 (vw v) = e_A36vw { x with a25 := v } := by rfl
theorem e_A36vw_g_a26 (x : A36vw) : (e_A36vw x)[26]? = some (vw x.a26) := by rfl
theorem e_A36vw_s_a26 (x : A36vw) (v : Int) : (e_A36vw x).set 26 (vw v) = e_A36vw { x with a26 := v } := by rfl
theorem e_A36vw_g_a27 (x : A36vw) : (e_A36vw x)[27]? = some (vw x.a27) := by rfl
theorem e_A36vw_s_a27 (x : A36vw) (v : Int) : (e_A36vw x).set 27 (vw v) = e_A36vw { x with a27 := v } := by rfl
theorem e_A36vw_g_a28 (x : A36vw) : (e_A36vw x)[28]? = some (vw x.a28) := by rfl
theorem e_A36vw_s_a28 (x : A36vw) (v : Int) : (e_A36vw x).set 28 (vw v) = e_A36vw { x with a28 := v } := by rfl
theorem e_A36vw_g_a29 (x : A36vw) : (e_A36vw x)[29]? = some (vw x.a29) := by rfl
theorem e_A36vw_s_a29 (x : A36vw) (v : Int) : (e_A36vw x).set 29 (vw v) = e_A36vw { x with a29 := v } := by rfl
theorem e_A36vw_g_a30 (x : A36vw) : (e_A36vw x)[30]? = some (vw x.a30) := by rfl
theorem e_A36vw_s_a30 (x : A36vw) (v : Int) : (e_A36vw x).set 30 (vw v) = e_A36vw { x with a30 := v } := by rfl
theorem e_A36vw_g_a31 (x : A36vw) : (e_A36vw x)[31]? = some (vw x.a31) := by rfl
theorem e_A36vw_s_a31 (x : A36vw) (v : Int) : (e_A36vw x).set 31 (vw v) = e_A36vw { x with a31 := v } := by rfl
theorem e_A36vw_g_a32 (x : A36vw) : (e_A36vw x)[32]? = some (vw x.a32) := by rfl
theorem e_A36vw_s_a32 (x : A36vw) (v : Int) : (e_A36vw x).set 32 (vw v) = e_A36vw { x with a32 := v } := by rfl
theorem e_A36vw_g_a33 (x : A36vw) : (e_A36vw x)[33]? = some (vw x.a33) := by rfl
theorem e_A36vw_s_a33 (x : A36vw) (v : Int) : (e_A36vw x).set 33 (vw v) = e_A36vw { x with a33 := v } := by rfl
theorem e_A36vw_g_a34 (x : A36vw) : (e_A36vw x)[34]? = some (vw x.a34) := by rfl
theorem e_A36vw_s_a34 (x : A36vw) (v : Int) : (e_A36vw x).set 34 (vw v) = e_A36vw { x with a34 := v } := by rfl
theorem e_A36vw_g_a35 (x : A36vw) : (e_A36vw x)[35]? = some (vw x.a35) := by rfl
theorem e_A36vw_s_a35 (x : A36vw) (v : Int) : (e_A36vw x).set 35 (vw v) = e_A36vw { x with a35 := v } := by rfl
theorem e_A36vw_fz (x : A36vw) (o : Nat → Ob) (n : Nat) : (e_A36vw x).map (fz o (n + 1)) = e_A36vw x := by rfl
theorem e_A36vw_reach (x : A36vw) (o : Nat → Ob) (n : Nat) : (e_A36vw x).flatMap (reach o (n + 1)) = [] := by
  simp only [e_A36vw, List.cons_append, List.nil_append, List.append_nil, List.flatMap_cons, List.flatMap_nil, reach_v]
theorem e_A36vw_clean (x : A36vw) : ∀ c ∈ (e_A36vw x), Clean c := by
  simp only [e_A36vw, List.cons_append, List.nil_append]
  repeat' (first | exact Clean.v _ | assumption | exact List.forall_mem_nil _ | refine List.forall_mem_cons.2 ⟨?_, ?_⟩)
def A36vw.setA (x : A36vw) (i : Nat) (v : Int) : A36vw := ⟨bif i == 0 then v else x.a0, bif i == 1 then v else x.a1, bif i == 2 then v else x.a2, bif i == 3 then v else x.a3, bif i == 4 then v else x.a4, bif i == 5 then v else x.a5, bif i == 6 then v else x.a6, bif i == 7 then v else x.a7, bif i == 8 then v else x.a8, bif i == 9 then v else x.a9, bif i == 10 then v else x.a10, bif i == 11 then v else x.a11, bif i == 12 then v else x.a12, bif i == 13 then v else x.a13, bif i == 14 then v else x.a14, bif i == 15 then v else x.a15, bif i == 16 then v else x.a16, bif i == 17 then v else x.a17, bif i == 18 then v else x.a18, bif i == 19 then v else x.a19, bif i == 20 then v else x.a20, bif i == 21 then v else x.a21, bif i == 22 then v else x.a22, bif i == 23 then v else x.a23, bif i == 24 then v else x.a24, bif i == 25 then v else x.a25, bif i == 26 then v else x.a26, bif i == 27 then v else x.a27, bif i == 28 then v else x.a28, bif i == 29 then v else x.a29, bif i == 30 then v else x.a30, bif i == 31 then v else x.a31, bif i == 32 then v else x.a32, bif i == 33 then v else x.a33, bif i == 34 then v else x.a34, bif i == 35 then v else x.a35⟩
theorem e_A36vw_setA (x : A36vw) (v : Int) : ∀ {i : Nat}, i < 36 → (e_A36vw x).set i (vw v) = e_A36vw (x.setA i v)
  | 0, _ => rfl
  | 1, _ => rfl
  | 2, _ => rfl
  | 3, _ => rfl
  | 4, _ => rfl
  | 5, _ => rfl
  | 6, _ => rfl
  | 7, _ => rfl
  | 8, _ => rfl
  | 9, _ => rfl
  | 10, _ => rfl
  | 11, _ => rfl
  | 12, _ => rfl
  | 13, _ => rfl
  | 14, _ => rfl
  | 15, _ => rfl
  | 16, _ => rfl
  | 17, _ => rfl
  | 18, _ => rfl
  | 19, _ => rfl
  | 20, _ => rfl
  | 21, _ => rfl
  | 22, _ => rfl
  | 23, _ => rfl
  | 24, _ => rfl
  | 25, _ => rfl
  | 26, _ => rfl
  | 27, _ => rfl
  | 28, _ => rfl
  | 29, _ => rfl
  | 30, _ => rfl
  | 31, _ => rfl
  | 32, _ => rfl
  | 33, _ => rfl
  | 34, _ => rfl
  | 35, _ => rfl
  | k + 36, h => absurd h (by omega)
theorem f_A36vw (x : A36vw) (o : Nat → Ob) (n : Nat) : (e_A36vw x).map (fz o (n + 1)) = e_A36vw x := by simp only [e_A36vw_fz]
theorem q_A36vw (x : A36vw) (o : Nat → Ob) (n : Nat) : (e_A36vw x).flatMap (reach o (n + 1)) = [] := by simp only [e_A36vw_reach, List.append_nil]
attribute [go_sem] e_A36vw_len e_A36vw_sub e_A36vw_take e_A36vw_all e_A36vw_g_a0 e_A36vw_s_a0 e_A36vw_g_a1 e_A36vw_s_a1 e_A36vw_g_a2 e_A36vw_s_a2 e_A36vw_g_a3 e_A36vw_s_a3 e_A36vw_g_a4 e_A36vw_s_a4 e_A36vw_g_a5 e_A36vw_s_a5 e_A36vw_g_a6 e_A36vw_s_a6 e_A36vw_g_a7 e_A36vw_s_a7 e_A36vw_g_a8 e_A36vw_s_a8 e_A36vw_g_a9 e_A36vw_s_a9 e_A36vw_g_a10 e_A36vw_s_a10 e_A36vw_g_a11 e_A36vw_s_a11 e_A36vw_g_a12 e_A36vw_s_a12 e_A36vw_g_a13 e_A36vw_s_a13 e_A36vw_g_a14 e_A36vw_s_a14 e_A36vw_g_a15 e_A36vw_s_a15 e_A36vw_g_a16 e_A36vw_s_a16 e_A36vw_g_a17 e_A36vw_s_a17 e_A36vw_g_a18 e_A36vw_s_a18 e_A36vw_g_a19 e_A36vw_s_a19 e_A36vw_g_a20 e_A36vw_s_a20 e_A36vw_g_a21 e_A36vw_s_a21 e_A36vw_g_a22 e_A36vw_s_a22 e_A36vw_g_a23 e_A36vw_s_a23 e_A36vw_g_a24 e_A36vw_s_a24 e_A36vw_g_a25 e_A36vw_s_a25 e_A36vw_g_a26 e_A36vw_s_a26 e_A36vw_g_a27 e_A36vw_s_a27 e_A36vw_g_a28 e_A36vw_s_a28 e_A36vw_g_a29 e_A36vw_s_a29 e_A36vw_g_a30 e_A36vw_s_a30 e_A36vw_g_a31 e_A36vw_s_a31 e_A36vw_g_a32 e_A36vw_s_a32 e_A36vw_g_a33 e_A36vw_s_a33 e_A36vw_g_a34 e_A36vw_s_a34 e_A36vw_g_a35 e_A36vw_s_a35 e_A36vw_fz e_A36vw_reach f_A36vw q_A36vw

structure A4vw where
  a0 : Int
  a1 : Int
  a2 : Int
  a3 : Int
  deriving DecidableEq

def A4vw.z : A4vw := ⟨0, 0, 0, 0⟩

def e_A4vw (x : A4vw) : List AV := [vw x.a0, vw x.a1, vw x.a2, vw x.a3]

theorem e_A4vw_len (x : A4vw) : (e_A4vw x).length = 4 := by rfl
theorem e_A4vw_sub (x : A4vw) : sub? (e_A4vw x) 0 4 = some (e_A4vw x) := by rfl
theorem e_A4vw_take (x : A4vw) : (e_A4vw x).take 4 = (e_A4vw x) := by rfl
theorem e_A4vw_all (x : A4vw) (y : A4vw) : putAt (e_A4vw x) 0 (e_A4vw y) = e_A4vw y := by rfl
theorem e_A4vw_g_a0 (x : A4vw) : (e_A4vw x)[0]? = some (vw x.a0) := by rfl
theorem e_A4vw_s_a0 (x : A4vw) (v : Int) : (e_A4vw x).set 0 (vw v) = e_A4vw { x with a0 := v } := by rfl
theorem e_A4vw_g_a1 (x : A4vw) : (e_A4vw x)[1]? = some (vw x.a1) := by rfl
theorem e_A4vw_s_a1 (x : A4vw) (v : Int) : (e_A4vw x).set 1 (vw v) = e_A4vw { x with a1 := v } := by rfl
theorem e_A4vw_g_a2 (x : A4vw) : (e_A4vw x)[2]? = some (vw x.a2) := by rfl
theorem e_A4vw_s_a2 (x : A4vw) (v : Int) : (e_A4vw x).set 2 (vw v) = e_A4vw { x with a2 := v } := by rfl
theorem e_A4vw_g_a3 (x : A4vw) : (e_A4vw x)[3]? = some (vw x.a3) := by rfl
theorem e_A4vw_s_a3 (x : A4vw) (v : Int) : (e_A4vw x).set 3 (vw v) = e_A4vw { x with a3 := v } := by rfl
theorem e_A4vw_fz (x : A4vw) (o : Nat → Ob) (n : Nat) : (e_A4vw x).map (fz o (n + 1)) = e_A4vw x := by rfl
theorem e_A4vw_reach (x : A4vw) (o : Nat → Ob) (n : Nat) : (e_A4vw x).flatMap (reach o (n + 1)) = [] := by
  simp only [e_A4vw, List.cons_append, List.nil_append, List.append_nil, List.flatMap_cons, List.flatMap_nil, reach_v]
theorem e_A4vw_clean (x : A4vw) : ∀ c ∈ (e_A4vw x), Clean c := by
  simp only [e_A4vw, List.cons_append, List.nil_append]
  repeat' (first | exact Clean.v _ | assumption | exact List.forall_mem_nil _ | refine List.forall_mem_cons.2 ⟨?_, ?_⟩)
def A4vw.setA (x : A4vw) (i : Nat) (v : Int) : A4vw := ⟨bif i == 0 then v else x.a0, bif i == 1 then v else x.a1, bif i == 2 then v else x.a2, bif i == 3 then v else x.a3⟩
theorem e_A4vw_setA (x : A4vw) (v : Int) : ∀ {i : Nat}, i < 4 → (e_A4vw x).set i (vw v) = e_A4vw (x.setA i v)
  | 0, _ => rfl
  | 1, _ => rfl
  | 2, _ => rfl
  | 3, _ => rfl
  | k + 4, h => absurd h (by omega)
theorem f_A4vw (x : A4vw) (o : Nat → Ob) (n : Nat) : (e_A4vw x).map (fz o (n + 1)) = e_A4vw x := by simp only [e_A4vw_fz]
theorem q_A4vw (x : A4vw) (o : Nat → Ob) (n : Nat) : (e_A4vw x).flatMap (reach o (n + 1)) = [] := by simp only [e_A4vw_reach, List.append_nil]
attribute [go_sem] e_A4vw_len e_A4vw_sub e_A4vw_take e_A4vw_all e_A4vw_g_a0 e_A4vw_s_a0 e_A4vw_g_a1 e_A4vw_s_a1 e_A4vw_g_a2 e_A4vw_s_a2 e_A4vw_g_a3 e_A4vw_s_a3 e_A4vw_fz e_A4vw_reach f_A4vw q_A4vw

end Go.AX.Z.TX

/-! (TXD) -/

set_option linter.unusedSimpArgs false
set_option linter.unusedVariables false
set_option maxHeartbeats 4000000
set_option maxRecDepth 20000
namespace Go.AX.Z.TX
open Go.AX

def hotspotlaw29_one : Option A6vu :=
  some { A6vu.z with a0 := 2, a1 := 0, a2 := 0, a3 := 0, a4 := 0, a5 := 7 }

def hotspotlaw29_two : Option A6vu :=
  some { A6vu.z with a0 := 2, a1 := 0, a2 := 0, a3 := 0, a4 := 0, a5 := 5 }

def bytealg_Compare (a0 : List Int) (a1 : List Int) : Option Int := some (cmpL a0 a1)

def bytes_Compare (a0 : (List Int)) (a1 : (List Int)) : Option Int :=
  ((bytealg_Compare a0 a1).bind fun x3 =>
  some x3)

def address_Compare (a0 : A6vu) (a1 : A6vu) : Option Int :=
  ((bytes_Compare [a0.a0, a0.a1, a0.a2, a0.a3, a0.a4, a0.a5] [a1.a0, a1.a1, a1.a2, a1.a3, a1.a4, a1.a5]).bind fun x3 =>
  some x3)

def slices_Grow_byte_byte (a0 : Int) : Option (List Int) :=
  ((
    bif decide (a0 < 0) then
      none
    else
      some ()).bind fun d9 =>
  bif decide (0 < (IntKind.wrap .i64 (a0 - (IntKind.wrap .i64 0)))) then
    ((chk (decide (0 < (IntKind.wrap .i64 (a0 - (IntKind.wrap .i64 0)))) && decide ((IntKind.wrap .i64 (a0 - (IntKind.wrap .i64 0))) ≤ 140737488355328))).bind fun x10 =>
    some (List.take 0 (List.replicate (IntKind.wrap .i64 (a0 - (IntKind.wrap .i64 0))).toNat 0)))
  else
    some [])

def slices_Concat_byte_byte_L2 (a0 : (List (List Int))) : Nat → (Int × Int) → Option (Int)
  | 0, _ => none
  | n2 + 1, d7 =>
    bif decide (d7.2 < (a0.length : Int)) then
      ((idx a0 d7.2).bind fun x8 =>
      bif decide ((IntKind.wrap .i64 (d7.1 + (x8.length : Int))) < 0) then
        none
      else
        slices_Concat_byte_byte_L2 a0 n2 (IntKind.wrap .i64 (d7.1 + (x8.length : Int)), IntKind.wrap .i64 (d7.2 + 1)))
    else
      some d7.1

def slices_Concat_byte_byte_L5 (a0 : (List (List Int))) : Nat → (List Int × Int) → Option ((List Int))
  | 0, _ => none
  | n7 + 1, d11 =>
    bif decide (d11.2 < (a0.length : Int)) then
      ((idx a0 d11.2).bind fun x12 =>
      ((chk (decide ((d11.1).length + x12.length ≤ 140737488355328))).bind fun x13 =>
      slices_Concat_byte_byte_L5 a0 n7 ((d11.1 ++ x12), IntKind.wrap .i64 (d11.2 + 1))))
    else
      some d11.1

def slices_Concat_byte_byte (a0 : (List (List Int))) : Option (List Int) :=
  ((
    slices_Concat_byte_byte_L2 a0 big (0, 0)).bind fun d6 =>
  ((slices_Grow_byte_byte d6).bind fun x9 =>
  ((
    slices_Concat_byte_byte_L5 a0 big (x9, 0)).bind fun d10 =>
  some d10)))

def derive_two (a0 : Int) : Option (List Int) :=
  some [IntKind.wrap .u8 a0, IntKind.wrap .u8 ((a0).fdiv (2 ^ (min 8 64)))]

def derive_join_L2 (a0 : (List (List Int))) : Nat → (List Int × Int) → Option ((List Int))
  | 0, _ => none
  | n2 + 1, d19 =>
    bif decide (d19.2 < (a0.length : Int)) then
      ((idx a0 d19.2).bind fun x20 =>
      ((chk (decide ((d19.1).length + x20.length ≤ 140737488355328))).bind fun x21 =>
      derive_join_L2 a0 n2 ((d19.1 ++ x20), IntKind.wrap .i64 (d19.2 + 1))))
    else
      some d19.1

def derive_join (a0 : (List (List Int))) : Option (List Int) :=
  ((
    derive_join_L2 a0 big ([], 0)).bind fun d18 =>
  some d18)

def derive_Input (a0 : (List Int)) (a1 : Int) : Option (List Int) :=
  ((derive_two (a0.length : Int)).bind fun x16 =>
  ((derive_two a1).bind fun x17 =>
  ((derive_join [[IntKind.wrap .u8 8], [112, 97, 115, 115, 119, 111, 114, 100], x16, a0, x17]).bind fun x18 =>
  some x18)))

def cipher_Words_L2 (a0 : A16vu) : Nat → (A4vw × Int) → Option (A4vw)
  | 0, _ => none
  | n2 + 1, d25 =>
    bif decide (d25.2 < 16) then
      ((idxA 16 [a0.a0, a0.a1, a0.a2, a0.a3, a0.a4, a0.a5, a0.a6, a0.a7, a0.a8, a0.a9, a0.a10, a0.a11, a0.a12, a0.a13, a0.a14, a0.a15] d25.2).bind fun x26 =>
      ((idxA 4 [d25.1.a0, d25.1.a1, d25.1.a2, d25.1.a3] (IntKind.wrap .i64 ((d25.2).tdiv 4))).bind fun x27 =>
      ((chk (decide (¬ (IntKind.wrap .i64 (((d25.2).tmod 4) * 8)) < 0))).bind fun x28 =>
      cipher_Words_L2 a0 n2 ((d25.1.setA ((IntKind.wrap .i64 ((d25.2).tdiv 4)).toNat) (bor .u32 x27 (IntKind.wrap .u32 ((IntKind.wrap .u32 x26) * 2 ^ (min ((IntKind.wrap .i64 (((d25.2).tmod 4) * 8))).toNat 32))))), IntKind.wrap .i64 (d25.2 + 1)))))
    else
      some d25.1

def cipher_Words (a0 : A16vu) : Option A4vw :=
  ((
    cipher_Words_L2 a0 big (A4vw.z, 0)).bind fun d24 =>
  some d24)

def math_bits_RotateLeft32 (a0 : Int) (a1 : Int) : Option Int :=
  ((chk (decide (¬ (band .u64 (IntKind.wrap .u64 a1) 31) < 0))).bind fun x33 =>
  ((chk (decide (¬ (IntKind.wrap .u64 (32 - (band .u64 (IntKind.wrap .u64 a1) 31))) < 0))).bind fun x34 =>
  some (bor .u32 (IntKind.wrap .u32 (a0 * 2 ^ (min ((band .u64 (IntKind.wrap .u64 a1) 31)).toNat 32))) ((a0).fdiv (2 ^ (min ((IntKind.wrap .u64 (32 - (band .u64 (IntKind.wrap .u64 a1) 31)))).toNat 32))))))

def cipher_Schedule_L3 (a0 : A16vu) : Nat → (A36vw × Int) → Option (A36vw)
  | 0, _ => none
  | n3 + 1, d26 =>
    bif decide (d26.2 < 36) then
      ((idxA 36 [d26.1.a0, d26.1.a1, d26.1.a2, d26.1.a3, d26.1.a4, d26.1.a5, d26.1.a6, d26.1.a7, d26.1.a8, d26.1.a9, d26.1.a10, d26.1.a11, d26.1.a12, d26.1.a13, d26.1.a14, d26.1.a15, d26.1.a16, d26.1.a17, d26.1.a18, d26.1.a19, d26.1.a20, d26.1.a21, d26.1.a22, d26.1.a23, d26.1.a24, d26.1.a25, d26.1.a26, d26.1.a27, d26.1.a28, d26.1.a29, d26.1.a30, d26.1.a31, d26.1.a32, d26.1.a33, d26.1.a34, d26.1.a35] (IntKind.wrap .i64 (d26.2 - 4))).bind fun x27 =>
      ((idxA 36 [d26.1.a0, d26.1.a1, d26.1.a2, d26.1.a3, d26.1.a4, d26.1.a5, d26.1.a6, d26.1.a7, d26.1.a8, d26.1.a9, d26.1.a10, d26.1.a11, d26.1.a12, d26.1.a13, d26.1.a14, d26.1.a15, d26.1.a16, d26.1.a17, d26.1.a18, d26.1.a19, d26.1.a20, d26.1.a21, d26.1.a22, d26.1.a23, d26.1.a24, d26.1.a25, d26.1.a26, d26.1.a27, d26.1.a28, d26.1.a29, d26.1.a30, d26.1.a31, d26.1.a32, d26.1.a33, d26.1.a34, d26.1.a35] (IntKind.wrap .i64 (d26.2 - 1))).bind fun x28 =>
      ((math_bits_RotateLeft32 x28 7).bind fun x29 =>
      ((idxA 36 [d26.1.a0, d26.1.a1, d26.1.a2, d26.1.a3, d26.1.a4, d26.1.a5, d26.1.a6, d26.1.a7, d26.1.a8, d26.1.a9, d26.1.a10, d26.1.a11, d26.1.a12, d26.1.a13, d26.1.a14, d26.1.a15, d26.1.a16, d26.1.a17, d26.1.a18, d26.1.a19, d26.1.a20, d26.1.a21, d26.1.a22, d26.1.a23, d26.1.a24, d26.1.a25, d26.1.a26, d26.1.a27, d26.1.a28, d26.1.a29, d26.1.a30, d26.1.a31, d26.1.a32, d26.1.a33, d26.1.a34, d26.1.a35] d26.2).bind fun x30 =>
      cipher_Schedule_L3 a0 n3 ((d26.1.setA ((d26.2).toNat) (IntKind.wrap .u32 (x27 + (bxor .u32 x29 (IntKind.wrap .u32 ((IntKind.wrap .u32 ((IntKind.wrap .u32 d26.2) * 2050759141)) + 525043411)))))), IntKind.wrap .i64 (d26.2 + 1))))))
    else
      some d26.1

def cipher_Schedule (a0 : A16vu) : Option A36vw :=
  ((cipher_Words a0).bind fun x24 =>
  ((
    cipher_Schedule_L3 a0 big ({ A36vw.z with a0 := x24.a0, a1 := x24.a1, a2 := x24.a2, a3 := x24.a3 }, 4)).bind fun d25 =>
  some d25))

def cipher_mask_L2 (a0 : A4vw) (a1 : A36vw) : Nat → (A4vw × Int) → Option (A4vw)
  | 0, _ => none
  | n2 + 1, d34 =>
    bif decide (d34.2 < 4) then
      ((idxA 4 [d34.1.a0, d34.1.a1, d34.1.a2, d34.1.a3] d34.2).bind fun x35 =>
      ((idxA 36 [a1.a0, a1.a1, a1.a2, a1.a3, a1.a4, a1.a5, a1.a6, a1.a7, a1.a8, a1.a9, a1.a10, a1.a11, a1.a12, a1.a13, a1.a14, a1.a15, a1.a16, a1.a17, a1.a18, a1.a19, a1.a20, a1.a21, a1.a22, a1.a23, a1.a24, a1.a25, a1.a26, a1.a27, a1.a28, a1.a29, a1.a30, a1.a31, a1.a32, a1.a33, a1.a34, a1.a35] d34.2).bind fun x36 =>
      cipher_mask_L2 a0 a1 n2 ((d34.1.setA ((d34.2).toNat) (bxor .u32 x35 x36)), IntKind.wrap .i64 (d34.2 + 1))))
    else
      some d34.1

def cipher_mask (a0 : A4vw) (a1 : A36vw) : Option A4vw :=
  ((
    cipher_mask_L2 a0 a1 big (a0, 0)).bind fun d33 =>
  some d33)

def cipher_Round (a0 : A4vw) (a1 : Int) (a2 : Int) : Option A4vw :=
  ((math_bits_RotateLeft32 a0.a1 5).bind fun x41 =>
  ((math_bits_RotateLeft32 a0.a3 9).bind fun x42 =>
  ((math_bits_RotateLeft32 (IntKind.wrap .u32 ((IntKind.wrap .u32 (a0.a2 + (bxor .u32 x42 a2))) + a1)) 13).bind fun x43 =>
  ((math_bits_RotateLeft32 (IntKind.wrap .u32 ((IntKind.wrap .u32 (a0.a0 + (bxor .u32 x41 a1))) + a2)) 19).bind fun x44 =>
  some { A4vw.z with a0 := bxor .u32 a0.a1 x43, a1 := IntKind.wrap .u32 (a0.a2 + (bxor .u32 x42 a2)), a2 := bxor .u32 a0.a3 x44, a3 := IntKind.wrap .u32 (a0.a0 + (bxor .u32 x41 a1)) }))))

def cipher_Join_L2 (a0 : A4vw) : Nat → (A16vu × Int) → Option (A16vu)
  | 0, _ => none
  | n2 + 1, d44 =>
    bif decide (d44.2 < 16) then
      ((idxA 4 [a0.a0, a0.a1, a0.a2, a0.a3] (IntKind.wrap .i64 ((d44.2).tdiv 4))).bind fun x45 =>
      ((chk (decide (¬ (IntKind.wrap .i64 (((d44.2).tmod 4) * 8)) < 0))).bind fun x46 =>
      ((idxA 16 [d44.1.a0, d44.1.a1, d44.1.a2, d44.1.a3, d44.1.a4, d44.1.a5, d44.1.a6, d44.1.a7, d44.1.a8, d44.1.a9, d44.1.a10, d44.1.a11, d44.1.a12, d44.1.a13, d44.1.a14, d44.1.a15] d44.2).bind fun x47 =>
      cipher_Join_L2 a0 n2 ((d44.1.setA ((d44.2).toNat) (IntKind.wrap .u8 ((x45).fdiv (2 ^ (min ((IntKind.wrap .i64 (((d44.2).tmod 4) * 8))).toNat 32))))), IntKind.wrap .i64 (d44.2 + 1)))))
    else
      some d44.1

def cipher_Join (a0 : A4vw) : Option A16vu :=
  ((
    cipher_Join_L2 a0 big (A16vu.z, 0)).bind fun d43 =>
  some d43)

def cipher_Encrypt_L4 (x24 : A36vw) (a0 : A16vu) (a1 : A16vu) : Nat → (A4vw × Int) → Option (A4vw)
  | 0, _ => none
  | n2 + 1, d28 =>
    bif decide (d28.2 < 16) then
      ((idxA 36 [x24.a0, x24.a1, x24.a2, x24.a3, x24.a4, x24.a5, x24.a6, x24.a7, x24.a8, x24.a9, x24.a10, x24.a11, x24.a12, x24.a13, x24.a14, x24.a15, x24.a16, x24.a17, x24.a18, x24.a19, x24.a20, x24.a21, x24.a22, x24.a23, x24.a24, x24.a25, x24.a26, x24.a27, x24.a28, x24.a29, x24.a30, x24.a31, x24.a32, x24.a33, x24.a34, x24.a35] (IntKind.wrap .i64 (4 + (IntKind.wrap .i64 (2 * d28.2))))).bind fun x29 =>
      ((idxA 36 [x24.a0, x24.a1, x24.a2, x24.a3, x24.a4, x24.a5, x24.a6, x24.a7, x24.a8, x24.a9, x24.a10, x24.a11, x24.a12, x24.a13, x24.a14, x24.a15, x24.a16, x24.a17, x24.a18, x24.a19, x24.a20, x24.a21, x24.a22, x24.a23, x24.a24, x24.a25, x24.a26, x24.a27, x24.a28, x24.a29, x24.a30, x24.a31, x24.a32, x24.a33, x24.a34, x24.a35] (IntKind.wrap .i64 (5 + (IntKind.wrap .i64 (2 * d28.2))))).bind fun x30 =>
      ((cipher_Round d28.1 x29 x30).bind fun x31 =>
      cipher_Encrypt_L4 x24 a0 a1 n2 (x31, IntKind.wrap .i64 (d28.2 + 1)))))
    else
      some d28.1

def cipher_Encrypt (a0 : A16vu) (a1 : A16vu) : Option A16vu :=
  ((cipher_Schedule a0).bind fun x24 =>
  ((cipher_Words a1).bind fun x25 =>
  ((cipher_mask x25 x24).bind fun x26 =>
  ((
    cipher_Encrypt_L4 x24 a0 a1 big (x26, 0)).bind fun d27 =>
  ((cipher_Join d27).bind fun x32 =>
  some x32)))))

def derive_Mac_L3 (a0 : A16vu) (a1 : (List Int)) : Nat → (A16vu × Int) → Option (A16vu)
  | 0, _ => none
  | n2 + 1, d21 =>
    bif decide (d21.2 < 8) then
      ((chk (decide (¬ (IntKind.wrap .i64 (8 * d21.2)) < 0))).bind fun x22 =>
      ((idxA 16 [d21.1.a0, d21.1.a1, d21.1.a2, d21.1.a3, d21.1.a4, d21.1.a5, d21.1.a6, d21.1.a7, d21.1.a8, d21.1.a9, d21.1.a10, d21.1.a11, d21.1.a12, d21.1.a13, d21.1.a14, d21.1.a15] (IntKind.wrap .i64 (1 + d21.2))).bind fun x23 =>
      derive_Mac_L3 a0 a1 n2 ((d21.1.setA ((IntKind.wrap .i64 (1 + d21.2)).toNat) (IntKind.wrap .u8 (((a1.length : Int)).fdiv (2 ^ (min ((IntKind.wrap .i64 (8 * d21.2))).toNat 64))))), IntKind.wrap .i64 (d21.2 + 1))))
    else
      some d21.1

def derive_Mac_L6 (a1 : (List Int)) (a0 : A16vu) : Nat → (A16vu × Int) → Option (A16vu)
  | 0, _ => none
  | n7 + 1, d26 =>
    bif decide (d26.2 < (a1.length : Int)) then
      ((idx a1 d26.2).bind fun x27 =>
      ((idxA 16 [d26.1.a0, d26.1.a1, d26.1.a2, d26.1.a3, d26.1.a4, d26.1.a5, d26.1.a6, d26.1.a7, d26.1.a8, d26.1.a9, d26.1.a10, d26.1.a11, d26.1.a12, d26.1.a13, d26.1.a14, d26.1.a15] ((d26.2).tmod 16)).bind fun x28 =>
      bif ((((d26.2).tmod 16) == 15) || (d26.2 == (IntKind.wrap .i64 ((a1.length : Int) - 1)))) then
        ((cipher_Encrypt a0 (d26.1.setA (((d26.2).tmod 16).toNat) (bxor .u8 x28 x27))).bind fun x29 =>
        derive_Mac_L6 a1 a0 n7 (x29, IntKind.wrap .i64 (d26.2 + 1)))
      else
        derive_Mac_L6 a1 a0 n7 ((d26.1.setA (((d26.2).tmod 16).toNat) (bxor .u8 x28 x27)), IntKind.wrap .i64 (d26.2 + 1))))
    else
      some d26.1

def derive_Mac (a0 : A16vu) (a1 : (List Int)) : Option A16vu :=
  ((
    derive_Mac_L3 a0 a1 big ({ A16vu.z with a0 := 3 }, 0)).bind fun d20 =>
  ((cipher_Encrypt a0 d20).bind fun x24 =>
  ((
    derive_Mac_L6 a1 a0 big (x24, 0)).bind fun d25 =>
  some d25)))

def derive_Expand_L2 (a2 : Int) (a1 : (List Int)) (a0 : A16vu) : Nat → (List Int × Int) → Option ((List Int))
  | 0, _ => none
  | n6 + 1, d16 =>
    bif decide ((((d16.1).length : Nat) : Int) < a2) then
      ((derive_Input a1 d16.2).bind fun x17 =>
      ((derive_Mac a0 x17).bind fun x18 =>
      ((chk (decide (d16.1.length + 16 ≤ 140737488355328))).bind fun x19 =>
      derive_Expand_L2 a2 a1 a0 n6 ((d16.1 ++ [x18.a0, x18.a1, x18.a2, x18.a3, x18.a4, x18.a5, x18.a6, x18.a7, x18.a8, x18.a9, x18.a10, x18.a11, x18.a12, x18.a13, x18.a14, x18.a15]), IntKind.wrap .i64 (d16.2 + 1)))))
    else
      some d16.1

def derive_Expand (a0 : A16vu) (a1 : (List Int)) (a2 : Int) : Option ((List Int) × Int) :=
  bif decide (a2 < 0) then
    some ([], 2)
  else
    bif ((decide (256 < (a1.length : Int))) || (decide (1024 < a2))) then
      some ([], 4)
    else
      ((
        derive_Expand_L2 a2 a1 a0 big ([], 0)).bind fun d15 =>
      ((chk (decide (0 ≤ a2) && decide (a2 ≤ a2) && decide (a2 ≤ ((d15).length : Int)))).bind fun x20 =>
      some ((List.take ((a2).toNat) d15), 0)))

def auth_get_L2 (a0 : (List Int)) : Nat → (Int × Int) → Option (Int)
  | 0, _ => none
  | n2 + 1, d23 =>
    bif decide (d23.2 < 8) then
      ((idx a0 d23.2).bind fun x24 =>
      ((chk (decide (¬ (IntKind.wrap .i64 (8 * d23.2)) < 0))).bind fun x25 =>
      auth_get_L2 a0 n2 (bor .u64 d23.1 (IntKind.wrap .u64 ((IntKind.wrap .u64 x24) * 2 ^ (min ((IntKind.wrap .i64 (8 * d23.2))).toNat 64))), IntKind.wrap .i64 (d23.2 + 1))))
    else
      some d23.1

def auth_get (a0 : (List Int)) : Option Int :=
  ((
    auth_get_L2 a0 big (0, 0)).bind fun d22 =>
  some d22)

def math_bits_Mul64 (a0 : Int) (a1 : Int) : Option (Int × Int) :=
  some (IntKind.wrap .u64 ((IntKind.wrap .u64 ((IntKind.wrap .u64 (((a0).fdiv (2 ^ (min 32 64))) * ((a1).fdiv (2 ^ (min 32 64))))) + (((IntKind.wrap .u64 ((IntKind.wrap .u64 (((a0).fdiv (2 ^ (min 32 64))) * (band .u64 a1 4294967295))) + (((IntKind.wrap .u64 ((band .u64 a0 4294967295) * (band .u64 a1 4294967295)))).fdiv (2 ^ (min 32 64)))))).fdiv (2 ^ (min 32 64))))) + (((IntKind.wrap .u64 ((band .u64 (IntKind.wrap .u64 ((IntKind.wrap .u64 (((a0).fdiv (2 ^ (min 32 64))) * (band .u64 a1 4294967295))) + (((IntKind.wrap .u64 ((band .u64 a0 4294967295) * (band .u64 a1 4294967295)))).fdiv (2 ^ (min 32 64))))) 4294967295) + (IntKind.wrap .u64 ((band .u64 a0 4294967295) * ((a1).fdiv (2 ^ (min 32 64)))))))).fdiv (2 ^ (min 32 64)))), IntKind.wrap .u64 (a0 * a1))

def math_bits_LeadingZeros64 (a0 : Int) : Option Int :=
  bif (a0 == 2305843009213693951) then some 3 else (none)

def math_bits_Div64_L4 (a1 : Int) (x33 : Int) (a2 : Int) : Nat → (Int × Int) → Option (Int)
  | 0, _ => none
  | n7 + 1, d40 =>
    bif ((decide (4294967296 ≤ d40.1)) || (decide ((IntKind.wrap .u64 ((IntKind.wrap .u64 (4294967296 * d40.2)) + (((IntKind.wrap .u64 (a1 * 2 ^ (min ((IntKind.wrap .u64 x33)).toNat 64)))).fdiv (2 ^ (min 32 64))))) < (IntKind.wrap .u64 (d40.1 * (band .u64 (IntKind.wrap .u64 (a2 * 2 ^ (min ((IntKind.wrap .u64 x33)).toNat 64))) 4294967295)))))) then
      bif decide (4294967296 ≤ (IntKind.wrap .u64 (d40.2 + (((IntKind.wrap .u64 (a2 * 2 ^ (min ((IntKind.wrap .u64 x33)).toNat 64)))).fdiv (2 ^ (min 32 64)))))) then
        some (IntKind.wrap .u64 (d40.1 - 1))
      else
        math_bits_Div64_L4 a1 x33 a2 n7 (IntKind.wrap .u64 (d40.1 - 1), IntKind.wrap .u64 (d40.2 + (((IntKind.wrap .u64 (a2 * 2 ^ (min ((IntKind.wrap .u64 x33)).toNat 64)))).fdiv (2 ^ (min 32 64)))))
    else
      some d40.1

def math_bits_Div64_L7 (a1 : Int) (x33 : Int) (a2 : Int) : Nat → (Int × Int) → Option (Int)
  | 0, _ => none
  | n13 + 1, d43 =>
    bif ((decide (4294967296 ≤ d43.2)) || (decide ((IntKind.wrap .u64 ((IntKind.wrap .u64 (4294967296 * d43.1)) + (band .u64 (IntKind.wrap .u64 (a1 * 2 ^ (min ((IntKind.wrap .u64 x33)).toNat 64))) 4294967295))) < (IntKind.wrap .u64 (d43.2 * (band .u64 (IntKind.wrap .u64 (a2 * 2 ^ (min ((IntKind.wrap .u64 x33)).toNat 64))) 4294967295)))))) then
      bif decide (4294967296 ≤ (IntKind.wrap .u64 (d43.1 + (((IntKind.wrap .u64 (a2 * 2 ^ (min ((IntKind.wrap .u64 x33)).toNat 64)))).fdiv (2 ^ (min 32 64)))))) then
        some (IntKind.wrap .u64 (d43.2 - 1))
      else
        math_bits_Div64_L7 a1 x33 a2 n13 (IntKind.wrap .u64 (d43.1 + (((IntKind.wrap .u64 (a2 * 2 ^ (min ((IntKind.wrap .u64 x33)).toNat 64)))).fdiv (2 ^ (min 32 64)))), IntKind.wrap .u64 (d43.2 - 1))
    else
      some d43.2

def math_bits_Div64 (a0 : Int) (a1 : Int) (a2 : Int) : Option (Int × Int) :=
  ((
    bif (a2 == 0) then
      none
    else
      some ()).bind fun d29 =>
  ((
    bif decide (a2 ≤ a0) then
      none
    else
      some ()).bind fun d30 =>
  bif (a0 == 0) then
    ((chk (decide (a2 ≠ 0))).bind fun x31 =>
    ((chk (decide (a2 ≠ 0))).bind fun x32 =>
    some (IntKind.wrap .u64 ((a1).tdiv a2), (a1).tmod a2)))
  else
    ((math_bits_LeadingZeros64 a2).bind fun x33 =>
    ((chk (decide (¬ (IntKind.wrap .u64 x33) < 0))).bind fun x34 =>
    ((chk (decide (¬ (IntKind.wrap .u64 x33) < 0))).bind fun x35 =>
    ((chk (decide (¬ (IntKind.wrap .u64 (64 - (IntKind.wrap .u64 x33))) < 0))).bind fun x36 =>
    ((chk (decide (¬ (IntKind.wrap .u64 x33) < 0))).bind fun x37 =>
    ((chk (decide (((IntKind.wrap .u64 (a2 * 2 ^ (min ((IntKind.wrap .u64 x33)).toNat 64)))).fdiv (2 ^ (min 32 64)) ≠ 0))).bind fun x38 =>
    ((
      math_bits_Div64_L4 a1 x33 a2 big (IntKind.wrap .u64 (((bor .u64 (IntKind.wrap .u64 (a0 * 2 ^ (min ((IntKind.wrap .u64 x33)).toNat 64))) ((a1).fdiv (2 ^ (min ((IntKind.wrap .u64 (64 - (IntKind.wrap .u64 x33)))).toNat 64))))).tdiv (((IntKind.wrap .u64 (a2 * 2 ^ (min ((IntKind.wrap .u64 x33)).toNat 64)))).fdiv (2 ^ (min 32 64)))), IntKind.wrap .u64 ((bor .u64 (IntKind.wrap .u64 (a0 * 2 ^ (min ((IntKind.wrap .u64 x33)).toNat 64))) ((a1).fdiv (2 ^ (min ((IntKind.wrap .u64 (64 - (IntKind.wrap .u64 x33)))).toNat 64)))) - (IntKind.wrap .u64 ((IntKind.wrap .u64 (((bor .u64 (IntKind.wrap .u64 (a0 * 2 ^ (min ((IntKind.wrap .u64 x33)).toNat 64))) ((a1).fdiv (2 ^ (min ((IntKind.wrap .u64 (64 - (IntKind.wrap .u64 x33)))).toNat 64))))).tdiv (((IntKind.wrap .u64 (a2 * 2 ^ (min ((IntKind.wrap .u64 x33)).toNat 64)))).fdiv (2 ^ (min 32 64))))) * (((IntKind.wrap .u64 (a2 * 2 ^ (min ((IntKind.wrap .u64 x33)).toNat 64)))).fdiv (2 ^ (min 32 64)))))))).bind fun d39 =>
    ((chk (decide (((IntKind.wrap .u64 (a2 * 2 ^ (min ((IntKind.wrap .u64 x33)).toNat 64)))).fdiv (2 ^ (min 32 64)) ≠ 0))).bind fun x41 =>
    ((
      math_bits_Div64_L7 a1 x33 a2 big (IntKind.wrap .u64 ((IntKind.wrap .u64 ((IntKind.wrap .u64 ((IntKind.wrap .u64 ((bor .u64 (IntKind.wrap .u64 (a0 * 2 ^ (min ((IntKind.wrap .u64 x33)).toNat 64))) ((a1).fdiv (2 ^ (min ((IntKind.wrap .u64 (64 - (IntKind.wrap .u64 x33)))).toNat 64)))) * 4294967296)) + (((IntKind.wrap .u64 (a1 * 2 ^ (min ((IntKind.wrap .u64 x33)).toNat 64)))).fdiv (2 ^ (min 32 64))))) - (IntKind.wrap .u64 (d39 * (IntKind.wrap .u64 (a2 * 2 ^ (min ((IntKind.wrap .u64 x33)).toNat 64))))))) - (IntKind.wrap .u64 ((IntKind.wrap .u64 (((IntKind.wrap .u64 ((IntKind.wrap .u64 ((IntKind.wrap .u64 ((bor .u64 (IntKind.wrap .u64 (a0 * 2 ^ (min ((IntKind.wrap .u64 x33)).toNat 64))) ((a1).fdiv (2 ^ (min ((IntKind.wrap .u64 (64 - (IntKind.wrap .u64 x33)))).toNat 64)))) * 4294967296)) + (((IntKind.wrap .u64 (a1 * 2 ^ (min ((IntKind.wrap .u64 x33)).toNat 64)))).fdiv (2 ^ (min 32 64))))) - (IntKind.wrap .u64 (d39 * (IntKind.wrap .u64 (a2 * 2 ^ (min ((IntKind.wrap .u64 x33)).toNat 64)))))))).tdiv (((IntKind.wrap .u64 (a2 * 2 ^ (min ((IntKind.wrap .u64 x33)).toNat 64)))).fdiv (2 ^ (min 32 64))))) * (((IntKind.wrap .u64 (a2 * 2 ^ (min ((IntKind.wrap .u64 x33)).toNat 64)))).fdiv (2 ^ (min 32 64)))))), IntKind.wrap .u64 (((IntKind.wrap .u64 ((IntKind.wrap .u64 ((IntKind.wrap .u64 ((bor .u64 (IntKind.wrap .u64 (a0 * 2 ^ (min ((IntKind.wrap .u64 x33)).toNat 64))) ((a1).fdiv (2 ^ (min ((IntKind.wrap .u64 (64 - (IntKind.wrap .u64 x33)))).toNat 64)))) * 4294967296)) + (((IntKind.wrap .u64 (a1 * 2 ^ (min ((IntKind.wrap .u64 x33)).toNat 64)))).fdiv (2 ^ (min 32 64))))) - (IntKind.wrap .u64 (d39 * (IntKind.wrap .u64 (a2 * 2 ^ (min ((IntKind.wrap .u64 x33)).toNat 64)))))))).tdiv (((IntKind.wrap .u64 (a2 * 2 ^ (min ((IntKind.wrap .u64 x33)).toNat 64)))).fdiv (2 ^ (min 32 64)))))).bind fun d42 =>
    ((chk (decide (¬ (IntKind.wrap .u64 x33) < 0))).bind fun x44 =>
    some (IntKind.wrap .u64 ((IntKind.wrap .u64 (d39 * 4294967296)) + d42), ((IntKind.wrap .u64 ((IntKind.wrap .u64 ((IntKind.wrap .u64 ((IntKind.wrap .u64 ((IntKind.wrap .u64 ((IntKind.wrap .u64 ((bor .u64 (IntKind.wrap .u64 (a0 * 2 ^ (min ((IntKind.wrap .u64 x33)).toNat 64))) ((a1).fdiv (2 ^ (min ((IntKind.wrap .u64 (64 - (IntKind.wrap .u64 x33)))).toNat 64)))) * 4294967296)) + (((IntKind.wrap .u64 (a1 * 2 ^ (min ((IntKind.wrap .u64 x33)).toNat 64)))).fdiv (2 ^ (min 32 64))))) - (IntKind.wrap .u64 (d39 * (IntKind.wrap .u64 (a2 * 2 ^ (min ((IntKind.wrap .u64 x33)).toNat 64))))))) * 4294967296)) + (band .u64 (IntKind.wrap .u64 (a1 * 2 ^ (min ((IntKind.wrap .u64 x33)).toNat 64))) 4294967295))) - (IntKind.wrap .u64 (d42 * (IntKind.wrap .u64 (a2 * 2 ^ (min ((IntKind.wrap .u64 x33)).toNat 64)))))))).fdiv (2 ^ (min ((IntKind.wrap .u64 x33)).toNat 64)))))))))))))))

def math_bits_Rem64 (a0 : Int) (a1 : Int) (a2 : Int) : Option Int :=
  ((chk (decide (a2 ≠ 0))).bind fun x28 =>
  ((math_bits_Div64 ((a0).tmod a2) a1 a2).bind fun x29 =>
  some x29.2))

def auth_Mul (a0 : Int) (a1 : Int) : Option Int :=
  ((math_bits_Mul64 ((a0).tmod 2305843009213693951) ((a1).tmod 2305843009213693951)).bind fun x27 =>
  ((math_bits_Rem64 x27.1 x27.2 2305843009213693951).bind fun x28 =>
  some x28))

def auth_Base (a0 : (List Int)) (a1 : A6vu) (a2 : A6vu) : Option (Int × Int) :=
  bif decide (a1 = a2) then
    some (0, 2)
  else
    bif decide (64 < (a0.length : Int)) then
      some (0, 4)
    else
      ((address_Compare a1 a2).bind fun x3 =>
      ((
        bif decide (0 < x3) then
          some (a2, a1)
        else
          some (a1, a2)).bind fun d4 =>
      ((slices_Concat_byte_byte [(sB a0), [d4.1.a0, d4.1.a1, d4.1.a2, d4.1.a3, d4.1.a4, d4.1.a5], [d4.2.a0, d4.2.a1, d4.2.a2, d4.2.a3, d4.2.a4, d4.2.a5]]).bind fun x5 =>
      ((derive_Expand A16vu.z x5 8).bind fun x6 =>
      ((auth_get x6.1).bind fun x7 =>
      ((auth_Mul (IntKind.wrap .u64 (2 + ((x7).tmod 2305843009213693948))) (IntKind.wrap .u64 (2 + ((x7).tmod 2305843009213693948)))).bind fun x8 =>
      some (x8, 0)))))))

def auth_secret (a0 : Auth) : Option Bool :=
  some ((((decide (2 ≤ a0.Rand)) && (decide (a0.Rand < 2305843009213693950))) && (decide (2 ≤ a0.Mask))) && (decide (a0.Mask < 2305843009213693950)))

def auth_sum (a0 : Int) (a1 : Int) : Option Int :=
  some (((IntKind.wrap .u64 (a0 + a1))).tmod 2305843009213693950)

def auth_Pow_L2 : Nat → (Int × Int × Int) → Option (Int)
  | 0, _ => none
  | n2 + 1, d19 =>
    bif decide (0 < d19.2.1) then
      ((
        bif ((band .u64 d19.2.1 1) == 1) then
          ((auth_Mul d19.2.2 d19.1).bind fun x21 =>
          some x21)
        else
          some d19.2.2).bind fun d20 =>
      ((auth_Mul d19.1 d19.1).bind fun x22 =>
      auth_Pow_L2 n2 (x22, (d19.2.1).fdiv (2 ^ (min 1 64)), d20)))
    else
      some d19.2.2

def auth_Pow (a0 : Int) (a1 : Int) : Option Int :=
  ((
    auth_Pow_L2 big (a0, a1, 1)).bind fun d18 =>
  some d18)

def auth_New (a0 : A6vu) (a1 : A6vu) (a2 : (List Int)) (a3 : Int) (a4 : Int) : Option (Auth × Int) :=
  ((auth_Base a2 a0 a1).bind fun x15 =>
  bif (x15.2 != 0) then
    some (Auth.z, x15.2)
  else
    ((auth_secret { Auth.z with Base := x15.1, Mask := a4, Own := a0, Peer := a1, Rand := a3 }).bind fun x16 =>
    bif (!x16) then
      some (Auth.z, 2)
    else
      ((auth_sum a3 a4).bind fun x17 =>
      ((auth_Pow x15.1 (IntKind.wrap .u64 (2305843009213693950 - a4))).bind fun x18 =>
      bif ((decide (x17 < 2)) || (decide (x18 < 2))) then
        some (Auth.z, 2)
      else
        some ({ Auth.z with Base := x15.1, Element := x18, Mask := a4, Own := a0, Peer := a1, Rand := a3, Scalar := x17 }, 0)))))

def auth_put_2_L2 (a0 : Int) : Nat → (List Int × Int) → Option ((List Int))
  | 0, _ => none
  | n2 + 1, d38 =>
    bif decide (d38.2 < 8) then
      ((chk (decide (¬ (IntKind.wrap .i64 (8 * d38.2)) < 0))).bind fun x39 =>
      ((chk (decide ((d38.1).length + 1 ≤ 140737488355328))).bind fun x40 =>
      auth_put_2_L2 a0 n2 ((d38.1 ++ [IntKind.wrap .u8 ((a0).fdiv (2 ^ (min ((IntKind.wrap .i64 (8 * d38.2))).toNat 64)))]), IntKind.wrap .i64 (d38.2 + 1))))
    else
      some d38.1

def auth_put_2 (a0 : Int) (a1 : List Int) : Option (List Int) :=
  ((
    auth_put_2_L2 a0 big (a1, 0)).bind fun d37 =>
  some d37)

def auth_numbers_L2 (a0 : (List Int)) : Nat → (List Int × Int) → Option ((List Int))
  | 0, _ => none
  | n2 + 1, d36 =>
    bif decide (d36.2 < (a0.length : Int)) then
      ((idx a0 d36.2).bind fun x37 =>
      ((auth_put_2 x37 d36.1).bind fun x38 =>
      auth_numbers_L2 a0 n2 (x38, IntKind.wrap .i64 (d36.2 + 1))))
    else
      some d36.1

def auth_numbers (a0 : (List Int)) : Option (List Int) :=
  ((
    auth_numbers_L2 a0 big ([], 0)).bind fun d35 =>
  some d35)

def derive_Input_2 (a0 : (List Int)) (a1 : Int) : Option (List Int) :=
  ((derive_two (a0.length : Int)).bind fun x41 =>
  ((derive_two a1).bind fun x42 =>
  ((derive_join [[IntKind.wrap .u8 4], [97, 117, 116, 104], x41, a0, x42]).bind fun x43 =>
  some x43)))

def derive_Expand_2_L2 (a2 : Int) (a1 : (List Int)) (a0 : A16vu) : Nat → (List Int × Int) → Option ((List Int))
  | 0, _ => none
  | n6 + 1, d41 =>
    bif decide ((((d41.1).length : Nat) : Int) < a2) then
      ((derive_Input_2 a1 d41.2).bind fun x42 =>
      ((derive_Mac a0 x42).bind fun x43 =>
      ((chk (decide (d41.1.length + 16 ≤ 140737488355328))).bind fun x44 =>
      derive_Expand_2_L2 a2 a1 a0 n6 ((d41.1 ++ [x43.a0, x43.a1, x43.a2, x43.a3, x43.a4, x43.a5, x43.a6, x43.a7, x43.a8, x43.a9, x43.a10, x43.a11, x43.a12, x43.a13, x43.a14, x43.a15]), IntKind.wrap .i64 (d41.2 + 1)))))
    else
      some d41.1

def derive_Expand_2 (a0 : A16vu) (a1 : (List Int)) (a2 : Int) : Option ((List Int) × Int) :=
  bif decide (a2 < 0) then
    some ([], 2)
  else
    bif ((decide (256 < (a1.length : Int))) || (decide (1024 < a2))) then
      some ([], 4)
    else
      ((
        derive_Expand_2_L2 a2 a1 a0 big ([], 0)).bind fun d40 =>
      ((chk (decide (0 ≤ a2) && decide (a2 ≤ a2) && decide (a2 ≤ ((d40).length : Int)))).bind fun x45 =>
      some ((List.take ((a2).toNat) d40), 0)))

def auth_keyed (a0 : Auth) (a1 : Int) (a2 : Int) : Option (Auth × Bool) :=
  bif (((((decide (a1 < 2)) || (decide (2305843009213693950 ≤ a1))) || (decide (a2 < 2))) || (decide (2305843009213693951 ≤ a2))) || ((a1 == a0.Scalar) && (a2 == a0.Element))) then
    some (a0, false)
  else
    ((auth_Pow a0.Base a1).bind fun x31 =>
    ((auth_Mul x31 a2).bind fun x32 =>
    ((auth_Pow x32 a0.Rand).bind fun x33 =>
    bif decide (x33 < 2) then
      some (a0, false)
    else
      ((auth_sum a0.Scalar a1).bind fun x34 =>
      ((auth_numbers [x33, x34]).bind fun x35 =>
      ((derive_Expand_2 A16vu.z x35 32).bind fun x36 =>
      ((chk (decide (16 ≤ x36.1.length))).bind fun x37 =>
      ((chk (decide (16 ≤ (x36.1.length : Int)))).bind fun x38 =>
      ((chk (decide (16 ≤ (x36.1.length - 16)))).bind fun x39 =>
      some ({ a0 with Confirm := (A16vu.of x36.1), Master := (A16vu.of (List.drop 16 x36.1)), OtherElement := a2, OtherScalar := a1 }, true))))))))))

def auth_Check (a0 : Auth) : Option Int :=
  ((
    bif (((decide (a0.Own = a0.Peer)) || (decide (a0.Base < 2))) || (decide (2305843009213693951 ≤ a0.Base))) then
      some true
    else
      ((auth_secret a0).bind fun x26 =>
      some (!x26))).bind fun x27 =>
  bif ((x27 || (decide (4 < a0.Stage))) || ((!a0.HasToken) && (a0.Token != 0))) then
    some 8
  else
    ((auth_sum a0.Rand a0.Mask).bind fun x28 =>
    ((
      bif (a0.Scalar != x28) then
        some true
      else
        ((auth_Pow a0.Base (IntKind.wrap .u64 (2305843009213693950 - a0.Mask))).bind fun x29 =>
        some (a0.Element != x29))).bind fun x30 =>
    bif ((x30 || (decide (a0.Scalar < 2))) || (decide (a0.Element < 2))) then
      some 8
    else
      bif ((((a0.Stage == 1) || (a0.Stage == 2)) && ((((decide (a0.Tries < 1)) || (decide (3 < a0.Tries))) || (decide (a0.Due < 1))) || (decide (1099511827776 < a0.Due)))) || ((!((a0.Stage == 1) || (a0.Stage == 2))) && ((a0.Tries != 0) || (a0.Due != 0)))) then
        some 8
      else
        bif ((a0.Stage == 2) || (a0.Stage == 3)) then
          ((auth_keyed a0 a0.OtherScalar a0.OtherElement).bind fun x31 =>
          bif ((((!x31.2) || (!decide (x31.1 = a0))) || (decide (a0.Sync < 1))) || (decide (65535 < a0.Sync))) then
            some 8
          else
            some 0)
        else
          bif ((!decide (({ a0 with Confirm := A16vu.z, Master := A16vu.z, OtherElement := 0, OtherScalar := 0, Sync := 0 } : Auth) = a0)) || (a0.HasToken && (a0.Stage != 1))) then
            some 8
          else
            some 0)))

def auth_checked (a0 : Auth) (a1 : Int) : Option Int :=
  ((auth_Check a0).bind fun x26 =>
  bif (x26 != 0) then
    some x26
  else
    bif ((decide (a1 < 0)) || (decide (1099511627776 < a1))) then
      some 2
    else
      some 0)

def auth_commit (a0 : Auth) : Option (List Int) :=
  ((auth_numbers [a0.Scalar, a0.Element]).bind fun x28 =>
  ((chk (decide (1 + x28.length ≤ 140737488355328))).bind fun x29 =>
  bif (!a0.HasToken) then
    ((chk (decide (([1] ++ x28).length + 1 ≤ 140737488355328))).bind fun x30 =>
    some (([1] ++ x28) ++ [0]))
  else
    ((chk (decide (([1] ++ x28).length + 1 ≤ 140737488355328))).bind fun x31 =>
    ((auth_numbers [a0.Token]).bind fun x32 =>
    ((chk (decide (([1] ++ x28).length + 1 + x32.length ≤ 140737488355328))).bind fun x33 =>
    some ((([1] ++ x28) ++ [8]) ++ x32))))))

def auth_Start (a0 : Auth) (a1 : Int) : Option (Auth × (List (List Int)) × Int) :=
  ((auth_checked a0 a1).bind fun x26 =>
  bif (x26 != 0) then
    some (Auth.z, [], x26)
  else
    bif (a0.Stage != 0) then
      some (Auth.z, [], 20)
    else
      ((auth_commit { a0 with Due := IntKind.wrap .i64 (a1 + 200000), Stage := 1, Tries := 1 }).bind fun x27 =>
      some ({ a0 with Due := IntKind.wrap .i64 (a1 + 200000), Stage := 1, Tries := 1 }, [x27], 0)))

def auth_Handle_1 (a0 : Int) : Option (Auth × (List (List Int)) × Int) :=
  some (Auth.z, [], a0)

def auth_shaped (a0 : (List Int)) : Option Int :=
  bif ((a0.length : Int) == 0) then
    some 10
  else
    ((idx a0 0).bind fun x35 =>
    ((
      bif (x35 == 1) then
        ((
          bif ((a0.length : Int) == 18) then
            ((idx a0 17).bind fun x37 =>
            some (x37 == 0))
          else
            some false).bind fun x38 =>
        ((
          bif x38 then
            some true
          else
            ((
              bif ((a0.length : Int) == 26) then
                ((idx a0 17).bind fun x39 =>
                some (x39 == 8))
              else
                some false).bind fun x40 =>
            some x40)).bind fun x41 =>
        some x41))
      else
        bif (x35 == 2) then
          some ((a0.length : Int) == 19)
        else
          bif (x35 == 3) then
            some ((a0.length : Int) == 9)
          else
            some false).bind fun d36 =>
    bif (!d36) then
      some 12
    else
      some 0))

def bytes_Clone (a0 : (List Int)) : Option (List Int) :=
  ((chk (decide (a0.length ≤ 140737488355328))).bind fun x51 =>
  some a0)

def auth_coded (a0 : A16vu) (a1 : Int) (a2 : Int) (a3 : Int) (a4 : Int) (a5 : Int) : Option (List Int) :=
  ((bytes_Clone [2, IntKind.wrap .u8 a1, IntKind.wrap .u8 ((a1).fdiv (2 ^ (min 8 64)))]).bind fun x51 =>
  ((auth_numbers [a2, a3, a4, a5]).bind fun x52 =>
  ((chk (decide (x51.length + x52.length ≤ 140737488355328))).bind fun x53 =>
  ((derive_Mac a0 (x51 ++ x52)).bind fun x54 =>
  some ([2, IntKind.wrap .u8 a1, IntKind.wrap .u8 ((a1).fdiv (2 ^ (min 8 64)))] ++ [x54.a0, x54.a1, x54.a2, x54.a3, x54.a4, x54.a5, x54.a6, x54.a7, x54.a8, x54.a9, x54.a10, x54.a11, x54.a12, x54.a13, x54.a14, x54.a15])))))

def bytes_Equal (a0 : (List Int)) (a1 : (List Int)) : Option Bool :=
  some (sEq a0 a1)

def auth_prove (a0 : Auth) : Option (Auth × (List Int) × Bool) :=
  ((auth_coded a0.Confirm (IntKind.wrap .i64 (a0.Sync + 1)) a0.Scalar a0.Element a0.OtherScalar a0.OtherElement).bind fun x71 =>
  some ({ a0 with Sync := IntKind.wrap .i64 (a0.Sync + 1) }, x71, decide ((IntKind.wrap .i64 (a0.Sync + 1)) ≤ 65535)))

def auth_committed (a0 : Auth) (a1 : (List Int)) (a2 : Int) : Option (Auth × (List (List Int)) × Int) :=
  ((chk (decide (1 ≤ (a1.length : Int)))).bind fun x59 =>
  ((auth_get (List.drop 1 a1)).bind fun x60 =>
  ((chk (decide (9 ≤ (a1.length : Int)))).bind fun x61 =>
  ((auth_get (List.drop 9 a1)).bind fun x62 =>
  ((
    ((
      bif (a0.Stage == 0) then
        some (a0.Stage == 0)
      else
        some (a0.Stage == 1)).bind fun d65 =>
    bif d65 then
      ((auth_keyed a0 x60 x62).bind fun x66 =>
      bif (!x66.2) then
        some (Ex.ret (a0, [], 33))
      else
        ((
          bif (a0.Stage == 0) then
            ((auth_commit a0).bind fun x68 =>
            some [x68])
          else
            some []).bind fun d67 =>
        some (Ex.go ({ x66.1 with Due := IntKind.wrap .i64 (a2 + 200000), Stage := 2, Tries := 1 }, d67))))
    else
      ((
        bif (a0.Stage == 2) then
          some (a0.Stage == 2)
        else
          some (a0.Stage == 3)).bind fun d69 =>
      bif d69 then
        bif ((x60 != a0.OtherScalar) || (x62 != a0.OtherElement)) then
          some (Ex.ret (a0, [], 20))
        else
          bif (a0.Stage == 2) then
            ((auth_commit a0).bind fun x70 =>
            some (Ex.go (a0, [x70])))
          else
            some (Ex.go (a0, []))
      else
        some (Ex.ret (a0, [], 20))))).bind fun o64 =>
  (o64.k fun d63 =>
  ((auth_prove d63.1).bind fun x71 =>
  bif (!x71.2.2) then
    some (x71.1, [], 22)
  else
    ((chk (decide (((d63.2).length + 1) * 24 ≤ 140737488355328))).bind fun x72 =>
    some (x71.1, (d63.2 ++ [x71.2.1]), 0)))))))))

def auth_Handle (a0 : Auth) (a1 : (List Int)) (a2 : Int) : Option (Auth × (List (List Int)) × Int) :=
  ((auth_checked a0 a2).bind fun x33 =>
  bif (x33 != 0) then
    ((auth_Handle_1 x33).bind fun x34 =>
    some (x34.1, x34.2.1, x34.2.2))
  else
    ((auth_shaped a1).bind fun x35 =>
    bif (x35 != 0) then
      ((auth_Handle_1 x35).bind fun x36 =>
      some (x36.1, x36.2.1, x36.2.2))
    else
      ((idx a1 0).bind fun x37 =>
      bif decide (({ A2vu.z with a0 := x37, a1 := a0.Stage } : A2vu) = { A2vu.z with a0 := 3, a1 := 1 }) then
        bif (a0.Tries == 3) then
          ((auth_Handle_1 20).bind fun x38 =>
          some (x38.1, x38.2.1, x38.2.2))
        else
          ((chk (decide (1 ≤ (a1.length : Int)))).bind fun x39 =>
          ((auth_get (List.drop 1 a1)).bind fun x40 =>
          ((auth_commit { a0 with Due := IntKind.wrap .i64 (a2 + 200000), HasToken := true, Token := x40, Tries := IntKind.wrap .i64 (a0.Tries + 1) }).bind fun x41 =>
          some ({ a0 with Due := IntKind.wrap .i64 (a2 + 200000), HasToken := true, Token := x40, Tries := IntKind.wrap .i64 (a0.Tries + 1) }, [x41], 0))))
      else
        bif decide (({ A2vu.z with a0 := x37, a1 := a0.Stage } : A2vu) = { A2vu.z with a0 := 2, a1 := 2 }) then
          ((idx a1 1).bind fun x42 =>
          ((idx a1 2).bind fun x43 =>
          ((auth_coded a0.Confirm (bor .i64 (IntKind.wrap .i64 x42) (IntKind.wrap .i64 ((IntKind.wrap .i64 x43) * 2 ^ (min 8 64)))) a0.OtherScalar a0.OtherElement a0.Scalar a0.Element).bind fun x44 =>
          ((bytes_Equal a1 x44).bind fun x45 =>
          bif (!x45) then
            ((auth_Handle_1 33).bind fun x46 =>
            some (x46.1, x46.2.1, x46.2.2))
          else
            some ({ a0 with Due := 0, Stage := 3, Tries := 0 }, [], 0)))))
        else
          bif (x37 != 1) then
            ((auth_Handle_1 20).bind fun x47 =>
            some (x47.1, x47.2.1, x47.2.2))
          else
            ((auth_committed a0 a1 a2).bind fun x48 =>
            bif (x48.2.2 != 0) then
              ((auth_Handle_1 x48.2.2).bind fun x49 =>
              some (x49.1, x49.2.1, x49.2.2))
            else
              some (x48.1, x48.2.1, 0)))))

def auth_Tick (a0 : Auth) (a1 : Int) : Option (Auth × (List (List Int)) × Int) :=
  ((auth_checked a0 a1).bind fun x57 =>
  bif (x57 != 0) then
    some (Auth.z, [], x57)
  else
    bif ((a0.Due == 0) || (decide (a1 < a0.Due))) then
      some (a0, [], 0)
    else
      bif (a0.Tries == 3) then
        some ({ Auth.z with Base := a0.Base, Element := a0.Element, Mask := a0.Mask, Own := a0.Own, Peer := a0.Peer, Rand := a0.Rand, Scalar := a0.Scalar, Stage := 4 }, [], 0)
      else
        ((auth_commit { a0 with Due := IntKind.wrap .i64 (a1 + 200000), Tries := IntKind.wrap .i64 (a0.Tries + 1) }).bind fun x58 =>
        bif (a0.Stage == 2) then
          ((auth_prove { a0 with Due := IntKind.wrap .i64 (a1 + 200000), Tries := IntKind.wrap .i64 (a0.Tries + 1) }).bind fun x59 =>
          bif (!x59.2.2) then
            some (Auth.z, [], 22)
          else
            some (x59.1, ([x58] ++ [x59.2.1]), 0))
        else
          some ({ a0 with Due := IntKind.wrap .i64 (a1 + 200000), Tries := IntKind.wrap .i64 (a0.Tries + 1) }, [x58], 0)))

def auth_Answer (a0 : (List Int)) : Option ((List Int) × Int) :=
  bif ((a0.length : Int) == 0) then
    some ([], 10)
  else
    ((
      bif decide (1 < (a0.length : Int)) then
        some true
      else
        ((idx a0 0).bind fun x61 =>
        some (x61 != 4))).bind fun x62 =>
    bif x62 then
      some ([], 12)
    else
      some ([5], 0))

def hotspotlaw29_alive : Option Bool :=
  (hotspotlaw29_one.bind fun x69 =>
  (hotspotlaw29_two.bind fun x70 =>
  ((auth_New x69 x70 [115, 101, 99, 114, 101, 116] 1000 77).bind fun x71 =>
  (hotspotlaw29_two.bind fun x72 =>
  (hotspotlaw29_one.bind fun x73 =>
  ((auth_New x72 x73 [115, 101, 99, 114, 101, 116] 2000 99).bind fun x74 =>
  ((
    bif ((x71.2 != 0) || (x74.2 != 0)) then
      some true
    else
      ((auth_Mul 1152921504606846976 2).bind fun x75 =>
      some (x75 != 1))).bind fun x76 =>
  ((
    bif x76 then
      some true
    else
      ((auth_Pow 2 61).bind fun x77 =>
      some (x77 != 1))).bind fun x78 =>
  bif x78 then
    some false
  else
    ((auth_Start x71.1 0).bind fun x79 =>
    ((
      bif ((x79.2.2 != 0) || ((x79.2.1.length : Int) != 1)) then
        some true
      else
        ((idx x79.2.1 0).bind fun x80 =>
        some ((x80.length : Int) != 18))).bind fun x81 =>
    bif x81 then
      some false
    else
      ((idx x79.2.1 0).bind fun x82 =>
      ((auth_Handle x74.1 x82 0).bind fun x83 =>
      ((
        bif ((x83.2.2 != 0) || ((x83.2.1.length : Int) != 2)) then
          some true
        else
          ((idx x83.2.1 1).bind fun x84 =>
          some ((x84.length : Int) != 19))).bind fun x85 =>
      bif x85 then
        some false
      else
        ((idx x83.2.1 0).bind fun x86 =>
        ((auth_Handle x79.1 x86 0).bind fun x87 =>
        bif ((x87.2.2 != 0) || ((x87.2.1.length : Int) != 1)) then
          some false
        else
          ((idx x83.2.1 1).bind fun x88 =>
          ((auth_Handle x87.1 x88 0).bind fun x89 =>
          ((idx x87.2.1 0).bind fun x90 =>
          ((auth_Handle x83.1 x90 0).bind fun x91 =>
          some ((((((x89.2.2 == 0) && (x91.2.2 == 0)) && (x89.1.Stage == 3)) && (x91.1.Stage == 3)) && (decide (x89.1.Master = x91.1.Master))) && (decide (x89.1.Confirm = x91.1.Confirm))))))))))))))))))))))

def hotspotref22_Same_L2 (a0 : (List Int)) (a1 : (List Int)) : Nat → Int → Option (Ex Bool Unit)
  | 0, _ => none
  | n3 + 1, d95 =>
    bif decide (d95 < (a0.length : Int)) then
      ((idx a0 d95).bind fun x96 =>
      ((idx a1 d95).bind fun x97 =>
      bif (x96 != x97) then
        some (Ex.ret false)
      else
        hotspotref22_Same_L2 a0 a1 n3 (IntKind.wrap .i64 (d95 + 1))))
    else
      some (Ex.go ())

def hotspotref22_Same (a0 : (List Int)) (a1 : (List Int)) : Option Bool :=
  bif ((a0.length : Int) != (a1.length : Int)) then
    some false
  else
    ((
      hotspotref22_Same_L2 a0 a1 big 0).bind fun o94 =>
    (o94.k fun d93 =>
    some true))

def hotspotlaw29_AuthNames : Option Bool :=
  (hotspotlaw29_one.bind fun x1 =>
  (hotspotlaw29_two.bind fun x2 =>
  ((auth_Base (List.replicate 65 0) x1 x2).bind fun x3 =>
  (hotspotlaw29_one.bind fun x4 =>
  (hotspotlaw29_one.bind fun x5 =>
  ((auth_Base ([] : List Int) x4 x5).bind fun x6 =>
  (hotspotlaw29_one.bind fun x7 =>
  (hotspotlaw29_two.bind fun x8 =>
  ((auth_New x7 x8 [120] 1 5).bind fun x9 =>
  (hotspotlaw29_one.bind fun x10 =>
  (hotspotlaw29_two.bind fun x11 =>
  ((auth_New x10 x11 [120] 5 2305843009213693950).bind fun x12 =>
  (hotspotlaw29_one.bind fun x13 =>
  (hotspotlaw29_two.bind fun x14 =>
  ((auth_New x13 x14 [120] 5 6).bind fun x15 =>
  ((auth_Start x15.1 0).bind fun x16 =>
  ((
    bif (((x15.2 != 0) || (x16.2.2 != 0)) || ((x16.2.1.length : Int) != 1)) then
      some true
    else
      ((idx x16.2.1 0).bind fun x17 =>
      some ((x17.length : Int) != 18))).bind fun x18 =>
  bif x18 then
    some false
  else
    ((auth_Start x16.1 0).bind fun x19 =>
    ((idx x16.2.1 0).bind fun x20 =>
    ((auth_Handle x16.1 x20 0).bind fun x21 =>
    ((auth_Handle x16.1 [] 0).bind fun x22 =>
    ((chk (decide ((17 : Int) ≤ (x20.length : Int)))).bind fun x23 =>
    ((auth_Handle x16.1 (List.take 17 x20) 0).bind fun x24 =>
    ((auth_Handle x16.1 ([2] ++ [0, 0, 0, 0, 0, 0, 0, 0, 0, 0, 0, 0, 0, 0, 0, 0, 0, 0]) 0).bind fun x25 =>
    ((auth_Handle x16.1 ([3] ++ [0, 0, 0, 0, 0, 0, 0, 0]) 0).bind fun x26 =>
    ((auth_Handle x15.1 ([3] ++ [0, 0, 0, 0, 0, 0, 0, 0]) 0).bind fun x27 =>
    ((auth_Tick x16.1 (-1)).bind fun x28 =>
    ((auth_Answer [4]).bind fun x29 =>
    ((auth_Answer [5]).bind fun x30 =>
    ((idx [0, 0, 0, 0, 0, 0, 0, 0, 0, 0, 0, 0, 0, 0, 0, 0, 0, 0] 0).bind fun x31 =>
    ((auth_Handle x15.1 ([0, 0, 0, 0, 0, 0, 0, 0, 0, 0, 0, 0, 0, 0, 0, 0, 0, 0].set 0 1) 0).bind fun x32 =>
    bif ((x26.2.2 != 0) || ((x26.2.1.length : Int) != 1)) then
      some false
    else
      ((
        bif (((((((((((x3.2 == 4) && (x6.2 == 2)) && (x9.2 == 2)) && (x12.2 == 2)) && (x19.2.2 == 20)) && (x21.2.2 == 33)) && (x22.2.2 == 10)) && (x24.2.2 == 12)) && (x25.2.2 == 20)) && x26.1.HasToken) && (x26.1.Tries == 2)) then
          ((idx x26.2.1 0).bind fun x33 =>
          some ((x33.length : Int) == 26))
        else
          some false).bind fun x34 =>
      (hotspotlaw29_alive.bind fun x35 =>
      bif ((x35 && ((x34 && (x27.2.2 == 20)) && (x28.2.2 == 2))) && (x29.2 == 0)) then
        ((hotspotref22_Same x29.1 [5]).bind fun x36 =>
        ((
          bif ((x36 && (x30.2 == 12)) && (x32.2.2 == 33)) then
            ((auth_Check Auth.z).bind fun x37 =>
            some (x37 == 8))
          else
            some false).bind fun x38 =>
        some x38))
      else
        some false)))))))))))))))))))))))))))))))))

end Go.AX.Z.TX

/-! (TXF) -/

namespace Go.AX.Z.TX
open Go.AX Go.Proofs

def tab : List (TypeId × List (Option IntKind)) :=
  [(23, [some .u8, some .u8, some .u8, some .u8, some .u8, some .u8, some .u8, some .u8, some .u8, some .u8, some .u8, some .u8, some .u8, some .u8, some .u8, some .u8]),
   (28, [some .u8, some .u8, some .u8, some .u8, some .u8, some .u8]),
   (55, [some .u8, some .u8, some .u8, some .u8, some .u8, some .u8, some .u8, some .u8, some .u8, some .u8, some .u8, some .u8, some .u8, some .u64, some .u64, some .u64, some .u64, some .u64, some .u64, some .u64, some .u8, some .u8, some .u8, some .u8, some .u8, some .u8, some .u8, some .u8, some .u8, some .u8, some .u8, some .u8, some .u8, some .u8, some .u8, some .u8, some .u8, some .u8, some .u8, some .u8, some .u8, some .u8, some .u8, some .u8, some .u8, some .u8, some .u8, some .u8, some .u8, some .u8, some .u8, some .u8, none, some .u64, some .i64, some .i64, some .i64]),
   (98, [some .u8, some .u8])]

noncomputable def K : Ctx := ⟨Try.prog, fun _ => none, tabK tab⟩

theorem ag105 : agB K.P 105 = some true := by kernel_rfl
theorem ag118 : agB K.P 118 = some false := by kernel_rfl
theorem ag119 : agB K.P 119 = some true := by kernel_rfl
theorem ag121 : agB K.P 121 = some true := by kernel_rfl
theorem ag127 : agB K.P 127 = some false := by kernel_rfl
theorem ag23 : agB K.P 23 = some true := by kernel_rfl
theorem ag28 : agB K.P 28 = some true := by kernel_rfl
theorem ag29 : agB K.P 29 = some false := by kernel_rfl
theorem ag3 : agB K.P 3 = some false := by kernel_rfl
theorem ag4 : agB K.P 4 = some false := by kernel_rfl
theorem ag47 : agB K.P 47 = some false := by kernel_rfl
theorem ag5 : agB K.P 5 = some false := by kernel_rfl
theorem ag55 : agB K.P 55 = some true := by kernel_rfl
theorem ar105 : arE K.P 105 = some (16, 5) := by kernel_rfl
theorem ar121 : arE K.P 121 = some (4, 118) := by kernel_rfl
theorem ar23 : arE K.P 23 = some (16, 5) := by kernel_rfl
theorem ar28 : arE K.P 28 = some (6, 5) := by kernel_rfl
theorem ar98 : arE K.P 98 = some (2, 5) := by kernel_rfl
theorem bl105 : bldS K.P 105 = none := by kernel_rfl
theorem bl121 : bldS K.P 121 = none := by kernel_rfl
theorem bl23 : bldS K.P 23 = none := by kernel_rfl
theorem bl28 : bldS K.P 28 = none := by kernel_rfl
theorem bl55 : bldS K.P 55 = some [(0, 6), (6, 6), (12, 1), (13, 1), (14, 1), (15, 1), (16, 1), (17, 1), (18, 1), (19, 1), (20, 16), (36, 16), (52, 1), (53, 1), (54, 1), (55, 1), (56, 1)] := by kernel_rfl
theorem bl98 : bldS K.P 98 = none := by kernel_rfl
theorem bs29_9 : isBS K.P 29 9 = true := by kernel_rfl
theorem by118 : byOf K.P 118 = some 4 := by kernel_rfl
theorem by29 : byOf K.P 29 = some 24 := by kernel_rfl
theorem by47 : byOf K.P 47 = some 8 := by kernel_rfl
theorem by5 : byOf K.P 5 = some 1 := by kernel_rfl
theorem ek23 : K.eqk 23 = some [some .u8, some .u8, some .u8, some .u8, some .u8, some .u8, some .u8, some .u8, some .u8, some .u8, some .u8, some .u8, some .u8, some .u8, some .u8, some .u8] := by kernel_rfl
theorem ek28 : K.eqk 28 = some [some .u8, some .u8, some .u8, some .u8, some .u8, some .u8] := by kernel_rfl
theorem ek55 : K.eqk 55 = some [some .u8, some .u8, some .u8, some .u8, some .u8, some .u8, some .u8, some .u8, some .u8, some .u8, some .u8, some .u8, some .u8, some .u64, some .u64, some .u64, some .u64, some .u64, some .u64, some .u64, some .u8, some .u8, some .u8, some .u8, some .u8, some .u8, some .u8, some .u8, some .u8, some .u8, some .u8, some .u8, some .u8, some .u8, some .u8, some .u8, some .u8, some .u8, some .u8, some .u8, some .u8, some .u8, some .u8, some .u8, some .u8, some .u8, some .u8, some .u8, some .u8, some .u8, some .u8, some .u8, none, some .u64, some .i64, some .i64, some .i64] := by kernel_rfl
theorem ek98 : K.eqk 98 = some [some .u8, some .u8] := by kernel_rfl
theorem el103 : elS K.P 103 = some 47 := by kernel_rfl
theorem el129 : elS K.P 129 = some 118 := by kernel_rfl
theorem el29 : elS K.P 29 = some 5 := by kernel_rfl
theorem el70 : elS K.P 70 = some 29 := by kernel_rfl
theorem eln3 : elS K.P 3 = none := by kernel_rfl
theorem fl55_0 : flE K.P 55 0 = some (0, 28) := by kernel_rfl
theorem fl55_1 : flE K.P 55 1 = some (6, 28) := by kernel_rfl
theorem fl55_10 : flE K.P 55 10 = some (20, 23) := by kernel_rfl
theorem fl55_11 : flE K.P 55 11 = some (36, 23) := by kernel_rfl
theorem fl55_12 : flE K.P 55 12 = some (52, 4) := by kernel_rfl
theorem fl55_13 : flE K.P 55 13 = some (53, 47) := by kernel_rfl
theorem fl55_14 : flE K.P 55 14 = some (54, 3) := by kernel_rfl
theorem fl55_15 : flE K.P 55 15 = some (55, 3) := by kernel_rfl
theorem fl55_16 : flE K.P 55 16 = some (56, 3) := by kernel_rfl
theorem fl55_2 : flE K.P 55 2 = some (12, 5) := by kernel_rfl
theorem fl55_3 : flE K.P 55 3 = some (13, 47) := by kernel_rfl
theorem fl55_4 : flE K.P 55 4 = some (14, 47) := by kernel_rfl
theorem fl55_5 : flE K.P 55 5 = some (15, 47) := by kernel_rfl
theorem fl55_6 : flE K.P 55 6 = some (16, 47) := by kernel_rfl
theorem fl55_7 : flE K.P 55 7 = some (17, 47) := by kernel_rfl
theorem fl55_8 : flE K.P 55 8 = some (18, 47) := by kernel_rfl
theorem fl55_9 : flE K.P 55 9 = some (19, 47) := by kernel_rfl
theorem in118 : inK K.P 118 = some .u32 := by kernel_rfl
theorem in3 : inK K.P 3 = some .i64 := by kernel_rfl
theorem in47 : inK K.P 47 = some .u64 := by kernel_rfl
theorem in5 : inK K.P 5 = some .u8 := by kernel_rfl
theorem in99 : inK K.P 99 = some .u64 := by kernel_rfl
theorem ni29 : inK K.P 29 = none := by kernel_rfl
theorem ni9 : inK K.P 9 = none := by kernel_rfl
theorem sz105 : szOf K.P 105 = some 16 := by kernel_rfl
theorem sz118 : szOf K.P 118 = some 1 := by kernel_rfl
theorem sz119 : szOf K.P 119 = some 36 := by kernel_rfl
theorem sz121 : szOf K.P 121 = some 4 := by kernel_rfl
theorem sz127 : szOf K.P 127 = some 1 := by kernel_rfl
theorem sz23 : szOf K.P 23 = some 16 := by kernel_rfl
theorem sz28 : szOf K.P 28 = some 6 := by kernel_rfl
theorem sz29 : szOf K.P 29 = some 1 := by kernel_rfl
theorem sz3 : szOf K.P 3 = some 1 := by kernel_rfl
theorem sz4 : szOf K.P 4 = some 1 := by kernel_rfl
theorem sz47 : szOf K.P 47 = some 1 := by kernel_rfl
theorem sz5 : szOf K.P 5 = some 1 := by kernel_rfl
theorem sz55 : szOf K.P 55 = some 57 := by kernel_rfl
theorem un103 : K.P.underlying 103 = some (.slice 47) := by kernel_rfl
theorem un105 : K.P.underlying 105 = some (.array 16 5) := by kernel_rfl
theorem un118 : K.P.underlying 118 = some (.int .u32) := by kernel_rfl
theorem un119 : K.P.underlying 119 = some (.array 36 118) := by kernel_rfl
theorem un121 : K.P.underlying 121 = some (.array 4 118) := by kernel_rfl
theorem un129 : K.P.underlying 129 = some (.slice 118) := by kernel_rfl
theorem un23 : K.P.underlying 23 = some (.array 16 5) := by kernel_rfl
theorem un28 : K.P.underlying 28 = some (.array 6 5) := by kernel_rfl
theorem un29 : K.P.underlying 29 = some (.slice 5) := by kernel_rfl
theorem un3 : K.P.underlying 3 = some (.int .i64) := by kernel_rfl
theorem un47 : K.P.underlying 47 = some (.int .u64) := by kernel_rfl
theorem un5 : K.P.underlying 5 = some (.int .u8) := by kernel_rfl
theorem un70 : K.P.underlying 70 = some (.slice 29) := by kernel_rfl
theorem un9 : K.P.underlying 9 = some .string := by kernel_rfl
theorem ze105 : zer K.P 105 = some (e_A16vu A16vu.z) := by kernel_rfl
theorem ze118 : zer K.P 118 = some [.v (.int .u32 0)] := by kernel_rfl
theorem ze119 : zer K.P 119 = some (e_A36vw A36vw.z) := by kernel_rfl
theorem ze121 : zer K.P 121 = some (e_A4vw A4vw.z) := by kernel_rfl
theorem ze23 : zer K.P 23 = some (e_A16vu A16vu.z) := by kernel_rfl
theorem ze28 : zer K.P 28 = some (e_A6vu A6vu.z) := by kernel_rfl
theorem ze29 : zer K.P 29 = some [.v (.slice none 0 0)] := by kernel_rfl
theorem ze47 : zer K.P 47 = some [.v (.int .u64 0)] := by kernel_rfl
theorem ze5 : zer K.P 5 = some [.v (.int .u8 0)] := by kernel_rfl
theorem ze55 : zer K.P 55 = some (e_Auth Auth.z) := by kernel_rfl
theorem ze98 : zer K.P 98 = some (e_A2vu A2vu.z) := by kernel_rfl
attribute [go_sem] ag105 ag118 ag119 ag121 ag127 ag23 ag28 ag29 ag3 ag4 ag47 ag5 ag55 ar105 ar121 ar23 ar28 ar98 bl105 bl121 bl23 bl28 bl55 bl98 bs29_9 by118 by29 by47 by5 ek23 ek28 ek55 ek98 el103 el129 el29 el70 eln3 fl55_0 fl55_1 fl55_10 fl55_11 fl55_12 fl55_13 fl55_14 fl55_15 fl55_16 fl55_2 fl55_3 fl55_4 fl55_5 fl55_6 fl55_7 fl55_8 fl55_9 in118 in3 in47 in5 in99 ni29 ni9 sz105 sz118 sz119 sz121 sz127 sz23 sz28 sz29 sz3 sz4 sz47 sz5 sz55 un103 un105 un118 un119 un121 un129 un23 un28 un29 un3 un47 un5 un70 un9 ze105 ze118 ze119 ze121 ze23 ze28 ze29 ze47 ze5 ze55 ze98
theorem mixed : K.P.follows .mixedOrders = true := by kernel_rfl
theorem hC : COk K := ⟨EqOk.of_tab (tab := tab) rfl (by kernel_rfl), mixed⟩
theorem rs27 : Try.f27.results = #[.cell 0 28] := rfl
theorem rs28 : Try.f28.results = #[.cell 0 28] := rfl
theorem rs70 : Try.f70.results = #[.tmp 4] := rfl
theorem rs54 : Try.f54.results = #[.tmp 4] := rfl
theorem rs71 : Try.f71.results = #[.tmp 4] := rfl
theorem rs55 : Try.f55.results = #[.tmp 2] := rfl
theorem rs75 : Try.f75.results = #[.tmp 2] := rfl
theorem rs74 : Try.f74.results = #[.tmp 2] := rfl
theorem rs65 : Try.f65.results = #[.tmp 6] := rfl
theorem rs82 : Try.f82.results = #[.cell 2 121] := rfl
theorem rs90 : Try.f90.results = #[.tmp 4] := rfl
theorem rs80 : Try.f80.results = #[.cell 2 119] := rfl
theorem rs81 : Try.f81.results = #[.cell 4 121] := rfl
theorem rs83 : Try.f83.results = #[.cell 6 121] := rfl
theorem rs84 : Try.f84.results = #[.cell 2 105] := rfl
theorem rs73 : Try.f73.results = #[.cell 4 105] := rfl
theorem rs64 : Try.f64.results = #[.cell 4 105] := rfl
theorem rs44 : Try.f44.results = #[.tmp 8, .tmp 9] := rfl
theorem rs35 : Try.f35.results = #[.tmp 2] := rfl
theorem rs68 : Try.f68.results = #[.tmp 4, .tmp 5] := rfl
theorem rs78 : Try.f78.results = #[.tmp 6, .tmp 7] := rfl
theorem rs69 : Try.f69.results = #[.tmp 6] := rfl
theorem rs46 : Try.f46.results = #[.tmp 4] := rfl
theorem rs26 : Try.f26.results = #[.tmp 6, .tmp 7] := rfl
theorem rs48 : Try.f48.results = #[.tmp 2] := rfl
theorem rs49 : Try.f49.results = #[.tmp 4] := rfl
theorem rs47 : Try.f47.results = #[.tmp 4] := rfl
theorem rs29 : Try.f29.results = #[.cell 10 55, .tmp 11] := rfl
theorem rs63 : Try.f63.results = #[.tmp 4] := rfl
theorem rs37 : Try.f37.results = #[.tmp 2] := rfl
theorem rs50 : Try.f50.results = #[.cell 6 55, .tmp 7] := rfl
theorem rs23 : Try.f23.results = #[.tmp 2] := rfl
theorem rs56 : Try.f56.results = #[.tmp 4] := rfl
theorem rs57 : Try.f57.results = #[.tmp 2] := rfl
theorem rs30 : Try.f30.results = #[.cell 4 55, .tmp 5, .tmp 6] := rfl
theorem rs58 : Try.f58.results = #[.cell 2 55, .tmp 3, .tmp 4] := rfl
theorem rs33 : Try.f33.results = #[.tmp 2] := rfl
theorem rs72 : Try.f72.results = #[.tmp 2] := rfl
theorem rs60 : Try.f60.results = #[.tmp 12] := rfl
theorem rs59 : Try.f59.results = #[.tmp 4] := rfl
theorem rs62 : Try.f62.results = #[.cell 2 55, .tmp 3, .tmp 4] := rfl
theorem rs61 : Try.f61.results = #[.cell 6 55, .tmp 7, .tmp 8] := rfl
theorem rs31 : Try.f31.results = #[.cell 6 55, .tmp 7, .tmp 8] := rfl
theorem rs32 : Try.f32.results = #[.cell 4 55, .tmp 5, .tmp 6] := rfl
theorem rs14 : Try.f14.results = #[.tmp 2, .tmp 3] := rfl
theorem rs20 : Try.f20.results = #[.tmp 0] := rfl
theorem rs11 : Try.f11.results = #[.tmp 4] := rfl
theorem rs6 : Try.f6.results = #[.tmp 0] := rfl

end Go.AX.Z.TX
