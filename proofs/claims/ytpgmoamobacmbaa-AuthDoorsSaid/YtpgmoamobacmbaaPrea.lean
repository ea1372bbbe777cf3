/- A part of the proof: the types, the facts of the program and the functions, read plainly. -/
import Derived.Test.YtpgmoamobacmbaaCorec
import Derived.Test.YtpgmoamobacmbaaProg
import Derived.KernelRfl
set_option linter.unusedVariables false
set_option linter.unusedSimpArgs false

/-! (TWS) -/

set_option linter.unusedSimpArgs false
set_option linter.unusedVariables false
namespace Go.AX.Z.TW
open Go.AX
structure A16vu where
  a0 : Int
  a1 : Int
  a2 : Int
  a3 : Int
  a4 : Int
  a5 : Int
  a6 : Int
  a7 : Int
  a8 : Int
  a9 : Int
  a10 : Int
  a11 : Int
  a12 : Int
  a13 : Int
  a14 : Int
  a15 : Int
  deriving DecidableEq

def A16vu.z : A16vu := ⟨0, 0, 0, 0, 0, 0, 0, 0, 0, 0, 0, 0, 0, 0, 0, 0⟩

def e_A16vu (x : A16vu) : List AV := [vu x.a0, vu x.a1, vu x.a2, vu x.a3, vu x.a4, vu x.a5, vu x.a6, vu x.a7, vu x.a8, vu x.a9, vu x.a10, vu x.a11, vu x.a12, vu x.a13, vu x.a14, vu x.a15]

theorem e_A16vu_len (x : A16vu) : (e_A16vu x).length = 16 := by rfl
theorem e_A16vu_sub (x : A16vu) : sub? (e_A16vu x) 0 16 = some (e_A16vu x) := by rfl
theorem e_A16vu_take (x : A16vu) : (e_A16vu x).take 16 = (e_A16vu x) := by rfl
theorem e_A16vu_all (x : A16vu) (y : A16vu) : putAt (e_A16vu x) 0 (e_A16vu y) = e_A16vu y := by rfl
theorem e_A16vu_g_a0 (x : A16vu) : (e_A16vu x)[0]? = some (vu x.a0) := by rfl
theorem e_A16vu_s_a0 (x : A16vu) (v : Int) : (e_A16vu x).set 0 (vu v) = e_A16vu { x with a0 := v } := by rfl
theorem e_A16vu_g_a1 (x : A16vu) : (e_A16vu x)[1]? = some (vu x.a1) := by rfl
theorem e_A16vu_s_a1 (x : A16vu) (v : Int) : (e_A16vu x).set 1 (vu v) = e_A16vu { x with a1 := v } := by rfl
theorem e_A16vu_g_a2 (x : A16vu) : (e_A16vu x)[2]? = some (vu x.a2) := by rfl
theorem e_A16vu_s_a2 (x : A16vu) (v : Int) : (e_A16vu x).set 2 (vu v) = e_A16vu { x with a2 := v } := by rfl
theorem e_A16vu_g_a3 (x : A16vu) : (e_A16vu x)[3]? = some (vu x.a3) := by rfl
theorem e_A16vu_s_a3 (x : A16vu) (v : Int) : (e_A16vu x).set 3 (vu v) = e_A16vu { x with a3 := v } := by rfl
theorem e_A16vu_g_a4 (x : A16vu) : (e_A16vu x)[4]? = some (vu x.a4) := by rfl
theorem e_A16vu_s_a4 (x : A16vu) (v : Int) : (e_A16vu x).set 4 (vu v) = e_A16vu { x with a4 := v } := by rfl
theorem e_A16vu_g_a5 (x : A16vu) : (e_A16vu x)[5]? = some (vu x.a5) := by rfl
theorem e_A16vu_s_a5 (x : A16vu) (v : Int) : (e_A16vu x).set 5 (vu v) = e_A16vu { x with a5 := v } := by rfl
theorem e_A16vu_g_a6 (x : A16vu) : (e_A16vu x)[6]? = some (vu x.a6) := by rfl
theorem e_A16vu_s_a6 (x : A16vu) (v : Int) : (e_A16vu x).set 6 (vu v) = e_A16vu { x with a6 := v } := by rfl
theorem e_A16vu_g_a7 (x : A16vu) : (e_A16vu x)[7]? = some (vu x.a7) := by rfl
theorem e_A16vu_s_a7 (x : A16vu) (v : Int) : (e_A16vu x).set 7 (vu v) = e_A16vu { x with a7 := v } := by rfl
theorem e_A16vu_g_a8 (x : A16vu) : (e_A16vu x)[8]? = some (vu x.a8) := by rfl
theorem e_A16vu_s_a8 (x : A16vu) (v : Int) : (e_A16vu x).set 8 (vu v) = e_A16vu { x with a8 := v } := by rfl
theorem e_A16vu_g_a9 (x : A16vu) : (e_A16vu x)[9]? = some (vu x.a9) := by rfl
theorem e_A16vu_s_a9 (x : A16vu) (v : Int) : (e_A16vu x).set 9 (vu v) = e_A16vu { x with a9 := v } := by rfl
theorem e_A16vu_g_a10 (x : A16vu) : (e_A16vu x)[10]? = some (vu x.a10) := by rfl
theorem e_A16vu_s_a10 (x : A16vu) (v : Int) : (e_A16vu x).set 10 (vu v) = e_A16vu { x with a10 := v } := by rfl
theorem e_A16vu_g_a11 (x : A16vu) : (e_A16vu x)[11]? = some (vu x.a11) := by rfl
theorem e_A16vu_s_a11 (x : A16vu) (v : Int) : (e_A16vu x).set 11 (vu v) = e_A16vu { x with a11 := v } := by rfl
theorem e_A16vu_g_a12 (x : A16vu) : (e_A16vu x)[12]? = some (vu x.a12) := by rfl
theorem e_A16vu_s_a12 (x : A16vu) (v : Int) : (e_A16vu x).set 12 (vu v) = e_A16vu { x with a12 := v } := by rfl
theorem e_A16vu_g_a13 (x : A16vu) : (e_A16vu x)[13]? = some (vu x.a13) := by rfl
theorem e_A16vu_s_a13 (x : A16vu) (v : Int) : (e_A16vu x).set 13 (vu v) = e_A16vu { x with a13 := v } := by rfl
theorem e_A16vu_g_a14 (x : A16vu) : (e_A16vu x)[14]? = some (vu x.a14) := by rfl
theorem e_A16vu_s_a14 (x : A16vu) (v : Int) : (e_A16vu x).set 14 (vu v) = e_A16vu { x with a14 := v } := by rfl
theorem e_A16vu_g_a15 (x : A16vu) : (e_A16vu x)[15]? = some (vu x.a15) := by rfl
theorem e_A16vu_s_a15 (x : A16vu) (v : Int) : (e_A16vu x).set 15 (vu v) = e_A16vu { x with a15 := v } := by rfl
theorem e_A16vu_fz (x : A16vu) (o : Nat → Ob) (n : Nat) : (e_A16vu x).map (fz o (n + 1)) = e_A16vu x := by rfl
theorem e_A16vu_reach (x : A16vu) (o : Nat → Ob) (n : Nat) : (e_A16vu x).flatMap (reach o (n + 1)) = [] := by
  simp only [e_A16vu, List.cons_append, List.nil_append, List.append_nil, List.flatMap_cons, List.flatMap_nil, reach_v]
theorem e_A16vu_clean (x : A16vu) : ∀ c ∈ (e_A16vu x), Clean c := by
  simp only [e_A16vu, List.cons_append, List.nil_append]
  repeat' (first | exact Clean.v _ | assumption | exact List.forall_mem_nil _ | refine List.forall_mem_cons.2 ⟨?_, ?_⟩)
def A16vu.setA (x : A16vu) (i : Nat) (v : Int) : A16vu := ⟨bif i == 0 then v else x.a0, bif i == 1 then v else x.a1, bif i == 2 then v else x.a2, bif i == 3 then v else x.a3, bif i == 4 then v else x.a4, bif i == 5 then v else x.a5, bif i == 6 then v else x.a6, bif i == 7 then v else x.a7, bif i == 8 then v else x.a8, bif i == 9 then v else x.a9, bif i == 10 then v else x.a10, bif i == 11 then v else x.a11, bif i == 12 then v else x.a12, bif i == 13 then v else x.a13, bif i == 14 then v else x.a14, bif i == 15 then v else x.a15⟩
theorem e_A16vu_setA (x : A16vu) (v : Int) : ∀ {i : Nat}, i < 16 → (e_A16vu x).set i (vu v) = e_A16vu (x.setA i v)
  | 0, _ => rfl
  | 1, _ => rfl
  | 2, _ => rfl
  | 3, _ => rfl
  | 4, _ => rfl
  | 5, _ => rfl
  | 6, _ => rfl
  | 7, _ => rfl
  | 8, _ => rfl
  | 9, _ => rfl
  | 10, _ => rfl
  | 11, _ => rfl
  | 12, _ => rfl
  | 13, _ => rfl
  | 14, _ => rfl
  | 15, _ => rfl
  | k + 16, h => absurd h (by omega)
theorem f_A16vu (x : A16vu) (o : Nat → Ob) (n : Nat) : (e_A16vu x).map (fz o (n + 1)) = e_A16vu x := by simp only [e_A16vu_fz]
theorem q_A16vu (x : A16vu) (o : Nat → Ob) (n : Nat) : (e_A16vu x).flatMap (reach o (n + 1)) = [] := by simp only [e_A16vu_reach, List.append_nil]
theorem e_A16vu_kinds (x : A16vu) : kindsOk [some .u8, some .u8, some .u8, some .u8, some .u8, some .u8, some .u8, some .u8, some .u8, some .u8, some .u8, some .u8, some .u8, some .u8, some .u8, some .u8] (e_A16vu x) = true := by rfl
theorem e_A16vu_eq (x y : A16vu) : eqCells (e_A16vu x) (e_A16vu y) = decide (x = y) := by
  rw [Bool.eq_iff_iff]
  simp only [e_A16vu, List.cons_append, List.nil_append, List.append_nil, eqCells, eqv, Bool.and_eq_true, beq_iff_eq, decide_eq_true_eq, and_true]
  constructor
  · intro h
    obtain ⟨v1, v2, v3, v4, v5, v6, v7, v8, v9, v10, v11, v12, v13, v14, v15, v16⟩ := x
    obtain ⟨v17', v18', v19', v20', v21', v22', v23', v24', v25', v26', v27', v28', v29', v30', v31', v32'⟩ := y
    simp_all
  · rintro rfl
    simp
attribute [go_sem] e_A16vu_len e_A16vu_sub e_A16vu_take e_A16vu_all e_A16vu_g_a0 e_A16vu_s_a0 e_A16vu_g_a1 e_A16vu_s_a1 e_A16vu_g_a2 e_A16vu_s_a2 e_A16vu_g_a3 e_A16vu_s_a3 e_A16vu_g_a4 e_A16vu_s_a4 e_A16vu_g_a5 e_A16vu_s_a5 e_A16vu_g_a6 e_A16vu_s_a6 e_A16vu_g_a7 e_A16vu_s_a7 e_A16vu_g_a8 e_A16vu_s_a8 e_A16vu_g_a9 e_A16vu_s_a9 e_A16vu_g_a10 e_A16vu_s_a10 e_A16vu_g_a11 e_A16vu_s_a11 e_A16vu_g_a12 e_A16vu_s_a12 e_A16vu_g_a13 e_A16vu_s_a13 e_A16vu_g_a14 e_A16vu_s_a14 e_A16vu_g_a15 e_A16vu_s_a15 e_A16vu_fz e_A16vu_reach e_A16vu_kinds e_A16vu_eq f_A16vu q_A16vu

structure A6vu where
  a0 : Int
  a1 : Int
  a2 : Int
  a3 : Int
  a4 : Int
  a5 : Int
  deriving DecidableEq

def A6vu.z : A6vu := ⟨0, 0, 0, 0, 0, 0⟩

def e_A6vu (x : A6vu) : List AV := [vu x.a0, vu x.a1, vu x.a2, vu x.a3, vu x.a4, vu x.a5]

theorem e_A6vu_len (x : A6vu) : (e_A6vu x).length = 6 := by rfl
theorem e_A6vu_sub (x : A6vu) : sub? (e_A6vu x) 0 6 = some (e_A6vu x) := by rfl
theorem e_A6vu_take (x : A6vu) : (e_A6vu x).take 6 = (e_A6vu x) := by rfl
theorem e_A6vu_all (x : A6vu) (y : A6vu) : putAt (e_A6vu x) 0 (e_A6vu y) = e_A6vu y := by rfl
theorem e_A6vu_g_a0 (x : A6vu) : (e_A6vu x)[0]? = some (vu x.a0) := by rfl
theorem e_A6vu_s_a0 (x : A6vu) (v : Int) : (e_A6vu x).set 0 (vu v) = e_A6vu { x with a0 := v } := by rfl
theorem e_A6vu_g_a1 (x : A6vu) : (e_A6vu x)[1]? = some (vu x.a1) := by rfl
theorem e_A6vu_s_a1 (x : A6vu) (v : Int) : (e_A6vu x).set 1 (vu v) = e_A6vu { x with a1 := v } := by rfl
theorem e_A6vu_g_a2 (x : A6vu) : (e_A6vu x)[2]? = some (vu x.a2) := by rfl
theorem e_A6vu_s_a2 (x : A6vu) (v : Int) : (e_A6vu x).set 2 (vu v) = e_A6vu { x with a2 := v } := by rfl
theorem e_A6vu_g_a3 (x : A6vu) : (e_A6vu x)[3]? = some (vu x.a3) := by rfl
theorem e_A6vu_s_a3 (x : A6vu) (v : Int) : (e_A6vu x).set 3 (vu v) = e_A6vu { x with a3 := v } := by rfl
theorem e_A6vu_g_a4 (x : A6vu) : (e_A6vu x)[4]? = some (vu x.a4) := by rfl
theorem e_A6vu_s_a4 (x : A6vu) (v : Int) : (e_A6vu x).set 4 (vu v) = e_A6vu { x with a4 := v } := by rfl
theorem e_A6vu_g_a5 (x : A6vu) : (e_A6vu x)[5]? = some (vu x.a5) := by rfl
theorem e_A6vu_s_a5 (x : A6vu) (v : Int) : (e_A6vu x).set 5 (vu v) = e_A6vu { x with a5 := v } := by rfl
theorem e_A6vu_fz (x : A6vu) (o : Nat → Ob) (n : Nat) : (e_A6vu x).map (fz o (n + 1)) = e_A6vu x := by rfl
theorem e_A6vu_reach (x : A6vu) (o : Nat → Ob) (n : Nat) : (e_A6vu x).flatMap (reach o (n + 1)) = [] := by
  simp only [e_A6vu, List.cons_append, List.nil_append, List.append_nil, List.flatMap_cons, List.flatMap_nil, reach_v]
theorem e_A6vu_clean (x : A6vu) : ∀ c ∈ (e_A6vu x), Clean c := by
  simp only [e_A6vu, List.cons_append, List.nil_append]
  repeat' (first | exact Clean.v _ | assumption | exact List.forall_mem_nil _ | refine List.forall_mem_cons.2 ⟨?_, ?_⟩)
def A6vu.setA (x : A6vu) (i : Nat) (v : Int) : A6vu := ⟨bif i == 0 then v else x.a0, bif i == 1 then v else x.a1, bif i == 2 then v else x.a2, bif i == 3 then v else x.a3, bif i == 4 then v else x.a4, bif i == 5 then v else x.a5⟩
theorem f_A6vu (x : A6vu) (o : Nat → Ob) (n : Nat) : (e_A6vu x).map (fz o (n + 1)) = e_A6vu x := by simp only [e_A6vu_fz]
theorem q_A6vu (x : A6vu) (o : Nat → Ob) (n : Nat) : (e_A6vu x).flatMap (reach o (n + 1)) = [] := by simp only [e_A6vu_reach, List.append_nil]
theorem e_A6vu_kinds (x : A6vu) : kindsOk [some .u8, some .u8, some .u8, some .u8, some .u8, some .u8] (e_A6vu x) = true := by rfl
theorem e_A6vu_eq (x y : A6vu) : eqCells (e_A6vu x) (e_A6vu y) = decide (x = y) := by
  rw [Bool.eq_iff_iff]
  simp only [e_A6vu, List.cons_append, List.nil_append, List.append_nil, eqCells, eqv, Bool.and_eq_true, beq_iff_eq, decide_eq_true_eq, and_true]
  constructor
  · intro h
    obtain ⟨v1, v2, v3, v4, v5, v6⟩ := x
    obtain ⟨v7', v8', v9', v10', v11', v12'⟩ := y
    simp_all
  · rintro rfl
    simp
attribute [go_sem] e_A6vu_len e_A6vu_sub e_A6vu_take e_A6vu_all e_A6vu_g_a0 e_A6vu_s_a0 e_A6vu_g_a1 e_A6vu_s_a1 e_A6vu_g_a2 e_A6vu_s_a2 e_A6vu_g_a3 e_A6vu_s_a3 e_A6vu_g_a4 e_A6vu_s_a4 e_A6vu_g_a5 e_A6vu_s_a5 e_A6vu_fz e_A6vu_reach e_A6vu_kinds e_A6vu_eq f_A6vu q_A6vu

def S_A6vu (l : List A6vu) : AV := .imm (List.flatMap e_A6vu l) l.length
theorem S_A6vu_eq (l : List A6vu) : S_A6vu l = .imm (List.flatMap e_A6vu l) l.length := rfl
theorem l_A6vu (x : A6vu) : (e_A6vu x).length = 6 := by rfl
theorem S_A6vu_clean (l : List A6vu) : Clean (S_A6vu l) := Clean.imm (rows_clean e_A6vu_clean l)
theorem c_A6vu (l : List A6vu) : ∀ c ∈ l.flatMap e_A6vu, Clean c := rows_clean e_A6vu_clean l
theorem r_A6vu_len (l : List A6vu) : (l.flatMap e_A6vu).length = l.length * 6 := flat_len l_A6vu l
theorem r_A6vu_get (l : List A6vu) (i o : Nat) (ho : o < 6) : (l.flatMap e_A6vu)[i * 6 + o]? = l[i]?.bind fun a => (e_A6vu a)[o]? := rows_get l_A6vu l i o ho
theorem r_A6vu_get0 (l : List A6vu) (i : Nat) : (l.flatMap e_A6vu)[i * 6]? = l[i]?.bind fun a => (e_A6vu a)[0]? := rows_get l_A6vu l i 0 (by decide)
theorem r_A6vu_sub (l : List A6vu) (i o n : Nat) (ho : o + n ≤ 6) (hn : 0 < n) : sub? (l.flatMap e_A6vu) (i * 6 + o) n = l[i]?.bind fun a => sub? (e_A6vu a) o n := rows_sub l_A6vu l i o n ho hn
theorem r_A6vu_sub0 (l : List A6vu) (i n : Nat) (ho : n ≤ 6) (hn : 0 < n) : sub? (l.flatMap e_A6vu) (i * 6) n = l[i]?.bind fun a => sub? (e_A6vu a) 0 n := rows_sub l_A6vu l i 0 n (by omega) hn
theorem r_A6vu_subw (l : List A6vu) : sub? (l.flatMap e_A6vu) 0 (l.length * 6) = some (l.flatMap e_A6vu) := rows_subw l_A6vu l
theorem r_A6vu_take (l : List A6vu) (n : Nat) : (l.flatMap e_A6vu).take (n * 6) = (l.take n).flatMap e_A6vu := rows_take l_A6vu l n
theorem r_A6vu_drop (l : List A6vu) (n : Nat) : (l.flatMap e_A6vu).drop (n * 6) = (l.drop n).flatMap e_A6vu := rows_drop l_A6vu l n
theorem r_A6vu_fz (l : List A6vu) (o : Nat → Ob) (n : Nat) : (l.flatMap e_A6vu).map (fz o (n + 1)) = (l.flatMap e_A6vu) := rows_fz (fun a => f_A6vu a o n) l
theorem r_A6vu_rch (l : List A6vu) (o : Nat → Ob) (n : Nat) : (l.flatMap e_A6vu).flatMap (reach o (n + 1)) = [] := rows_reach (fun a => q_A6vu a o n) l
theorem r_A6vu_s_a0 (l : List A6vu) (i : Nat) (v : Int) : (l.flatMap e_A6vu).set (i * 6) (vu v) = (l.modify i (fun y => { y with a0 := v })).flatMap e_A6vu := rows_set l_A6vu l i 0 _ (fun y => { y with a0 := v }) (by decide) (fun _ => by rfl)
theorem r_A6vu_s_a1 (l : List A6vu) (i : Nat) (v : Int) : (l.flatMap e_A6vu).set (i * 6 + 1) (vu v) = (l.modify i (fun y => { y with a1 := v })).flatMap e_A6vu := rows_set l_A6vu l i 1 _ (fun y => { y with a1 := v }) (by decide) (fun _ => by rfl)
theorem r_A6vu_s_a2 (l : List A6vu) (i : Nat) (v : Int) : (l.flatMap e_A6vu).set (i * 6 + 2) (vu v) = (l.modify i (fun y => { y with a2 := v })).flatMap e_A6vu := rows_set l_A6vu l i 2 _ (fun y => { y with a2 := v }) (by decide) (fun _ => by rfl)
theorem r_A6vu_s_a3 (l : List A6vu) (i : Nat) (v : Int) : (l.flatMap e_A6vu).set (i * 6 + 3) (vu v) = (l.modify i (fun y => { y with a3 := v })).flatMap e_A6vu := rows_set l_A6vu l i 3 _ (fun y => { y with a3 := v }) (by decide) (fun _ => by rfl)
theorem r_A6vu_s_a4 (l : List A6vu) (i : Nat) (v : Int) : (l.flatMap e_A6vu).set (i * 6 + 4) (vu v) = (l.modify i (fun y => { y with a4 := v })).flatMap e_A6vu := rows_set l_A6vu l i 4 _ (fun y => { y with a4 := v }) (by decide) (fun _ => by rfl)
theorem r_A6vu_s_a5 (l : List A6vu) (i : Nat) (v : Int) : (l.flatMap e_A6vu).set (i * 6 + 5) (vu v) = (l.modify i (fun y => { y with a5 := v })).flatMap e_A6vu := rows_set l_A6vu l i 5 _ (fun y => { y with a5 := v }) (by decide) (fun _ => by rfl)
theorem r_A6vu_put (l : List A6vu) (i : Nat) (x : A6vu) : putAt (l.flatMap e_A6vu) (i * 6) (e_A6vu x) = (l.set i x).flatMap e_A6vu := rows_put l_A6vu (by decide) l i x
theorem r_A6vu_app (l : List A6vu) (x : A6vu) : (l.flatMap e_A6vu) ++ e_A6vu x = (l ++ [x]).flatMap e_A6vu := by simp
theorem r_A6vu_cat (l : List A6vu) (m : List A6vu) : (l.flatMap e_A6vu) ++ m.flatMap e_A6vu = (l ++ m).flatMap e_A6vu := List.flatMap_append.symm
theorem f_S_A6vu (l : List A6vu) (o : Nat → Ob) (n : Nat) : fz o (n + 2) (S_A6vu l) = S_A6vu l := by simp only [S_A6vu_eq, fz, r_A6vu_fz]
theorem q_S_A6vu (l : List A6vu) (o : Nat → Ob) (n : Nat) : reach o (n + 2) (S_A6vu l) = [] := by simp only [S_A6vu_eq, reach, r_A6vu_rch]
attribute [go_sem] S_A6vu_eq l_A6vu r_A6vu_len r_A6vu_get r_A6vu_get0 r_A6vu_sub r_A6vu_sub0 r_A6vu_subw r_A6vu_take r_A6vu_drop r_A6vu_fz r_A6vu_rch r_A6vu_s_a0 r_A6vu_s_a1 r_A6vu_s_a2 r_A6vu_s_a3 r_A6vu_s_a4 r_A6vu_s_a5 r_A6vu_put r_A6vu_app r_A6vu_cat f_S_A6vu q_S_A6vu

structure AuthDoor where
  Secret : A16vu
  Open : (List A6vu)
  deriving DecidableEq

def AuthDoor.z : AuthDoor := ⟨A16vu.z, []⟩

def e_AuthDoor (x : AuthDoor) (s0 : AV) : List AV := (e_A16vu x.Secret) ++ [s0]

theorem e_AuthDoor_len (x : AuthDoor) (s0 : AV) : (e_AuthDoor x s0).length = 17 := by rfl
theorem e_AuthDoor_sub (x : AuthDoor) (s0 : AV) : sub? (e_AuthDoor x s0) 0 17 = some (e_AuthDoor x s0) := by rfl
theorem e_AuthDoor_take (x : AuthDoor) (s0 : AV) : (e_AuthDoor x s0).take 17 = (e_AuthDoor x s0) := by rfl
theorem e_AuthDoor_all (x : AuthDoor) (s0 : AV) (y : AuthDoor) (s02 : AV) : putAt (e_AuthDoor x s0) 0 (e_AuthDoor y s02) = e_AuthDoor y s02 := by rfl
theorem e_AuthDoor_g_Secret_a0 (x : AuthDoor) (s0 : AV) : (e_AuthDoor x s0)[0]? = some (vu x.Secret.a0) := by rfl
theorem e_AuthDoor_s_Secret_a0 (x : AuthDoor) (s0 : AV) (v : Int) : (e_AuthDoor x s0).set 0 (vu v) = e_AuthDoor { x with Secret.a0 := v } s0 := by rfl
theorem e_AuthDoor_g_Secret_a1 (x : AuthDoor) (s0 : AV) : (e_AuthDoor x s0)[1]? = some (vu x.Secret.a1) := by rfl
theorem e_AuthDoor_s_Secret_a1 (x : AuthDoor) (s0 : AV) (v : Int) : (e_AuthDoor x s0).set 1 (vu v) = e_AuthDoor { x with Secret.a1 := v } s0 := by rfl
theorem e_AuthDoor_g_Secret_a2 (x : AuthDoor) (s0 : AV) : (e_AuthDoor x s0)[2]? = some (vu x.Secret.a2) := by rfl
theorem e_AuthDoor_s_Secret_a2 (x : AuthDoor) (s0 : AV) (v : Int) : (e_AuthDoor x s0).set 2 (vu v) = e_AuthDoor { x with Secret.a2 := v } s0 := by rfl
theorem e_AuthDoor_g_Secret_a3 (x : AuthDoor) (s0 : AV) : (e_AuthDoor x s0)[3]? = some (vu x.Secret.a3) := by rfl
theorem e_AuthDoor_s_Secret_a3 (x : AuthDoor) (s0 : AV) (v : Int) : (e_AuthDoor x s0).set 3 (vu v) = e_AuthDoor { x with Secret.a3 := v } s0 := by rfl
theorem e_AuthDoor_g_Secret_a4 (x : AuthDoor) (s0 : AV) : (e_AuthDoor x s0)[4]? = some (vu x.Secret.a4) := by rfl
theorem e_AuthDoor_s_Secret_a4 (x : AuthDoor) (s0 : AV) (v : Int) : (e_AuthDoor x s0).set 4 (vu v) = e_AuthDoor { x with Secret.a4 := v } s0 := by rfl
theorem e_AuthDoor_g_Secret_a5 (x : AuthDoor) (s0 : AV) : (e_AuthDoor x s0)[5]? = some (vu x.Secret.a5) := by rfl
theorem e_AuthDoor_s_Secret_a5 (x : AuthDoor) (s0 : AV) (v : Int) : (e_AuthDoor x s0).set 5 (vu v) = e_AuthDoor { x with Secret.a5 := v } s0 := by rfl
theorem e_AuthDoor_g_Secret_a6 (x : AuthDoor) (s0 : AV) : (e_AuthDoor x s0)[6]? = some (vu x.Secret.a6) := by rfl
theorem e_AuthDoor_s_Secret_a6 (x : AuthDoor) (s0 : AV) (v : Int) : (e_AuthDoor x s0).set 6 (vu v) = e_AuthDoor { x with Secret.a6 := v } s0 := by rfl
theorem e_AuthDoor_g_Secret_a7 (x : AuthDoor) (s0 : AV) : (e_AuthDoor x s0)[7]? = some (vu x.Secret.a7) := by rfl
theorem e_AuthDoor_s_Secret_a7 (x : AuthDoor) (s0 : AV) (v : Int) : (e_AuthDoor x s0).set 7 (vu v) = e_AuthDoor { x with Secret.a7 := v } s0 := by rfl
theorem e_AuthDoor_g_Secret_a8 (x : AuthDoor) (s0 : AV) : (e_AuthDoor x s0)[8]? = some (vu x.Secret.a8) := by rfl
theorem e_AuthDoor_s_Secret_a8 (x : AuthDoor) (s0 : AV) (v : Int) : (e_AuthDoor x s0).set 8 (vu v) = e_AuthDoor { x with Secret.a8 := v } s0 := by rfl
theorem e_AuthDoor_g_Secret_a9 (x : AuthDoor) (s0 : AV) : (e_AuthDoor x s0)[9]? = some (vu x.Secret.a9) := by rfl
theorem e_AuthDoor_s_Secret_a9 (x : AuthDoor) (s0 : AV) (v : Int) : (e_AuthDoor x s0).set 9 (vu v) = e_AuthDoor { x with Secret.a9 := v } s0 := by rfl
theorem e_AuthDoor_g_Secret_a10 (x : AuthDoor) (s0 : AV) : (e_AuthDoor x s0)[10]? = some (vu x.Secret.a10) := by rfl
theorem e_AuthDoor_s_Secret_a10 (x : AuthDoor) (s0 : AV) (v : Int) : (e_AuthDoor x s0).set 10 (vu v) = e_AuthDoor { x with Secret.a10 := v } s0 := by rfl
theorem e_AuthDoor_g_Secret_a11 (x : AuthDoor) (s0 : AV) : (e_AuthDoor x s0)[11]? = some (vu x.Secret.a11) := by rfl
theorem e_AuthDoor_s_Secret_a11 (x : AuthDoor) (s0 : AV) (v : Int) : (e_AuthDoor x s0).set 11 (vu v) = e_AuthDoor { x with Secret.a11 := v } s0 := by rfl
theorem e_AuthDoor_g_Secret_a12 (x : AuthDoor) (s0 : AV) : (e_AuthDoor x s0)[12]? = some (vu x.Secret.a12) := by rfl
theorem e_AuthDoor_s_Secret_a12 (x : AuthDoor) (s0 : AV) (v : Int) : (e_AuthDoor x s0).set 12 (vu v) = e_AuthDoor { x with Secret.a12 := v } s0 := by rfl
theorem e_AuthDoor_g_Secret_a13 (x : AuthDoor) (s0 : AV) : (e_AuthDoor x s0)[13]? = some (vu x.Secret.a13) := by rfl
theorem e_AuthDoor_s_Secret_a13 (x : AuthDoor) (s0 : AV) (v : Int) : (e_AuthDoor x s0).set 13 (vu v) = e_AuthDoor { x with Secret.a13 := v } s0 := by rfl
theorem e_AuthDoor_g_Secret_a14 (x : AuthDoor) (s0 : AV) : (e_AuthDoor x s0)[14]? = some (vu x.Secret.a14) := by rfl
theorem e_AuthDoor_s_Secret_a14 (x : AuthDoor) (s0 : AV) (v : Int) : (e_AuthDoor x s0).set 14 (vu v) = e_AuthDoor { x with Secret.a14 := v } s0 := by rfl
theorem e_AuthDoor_g_Secret_a15 (x : AuthDoor) (s0 : AV) : (e_AuthDoor x s0)[15]? = some (vu x.Secret.a15) := by rfl
theorem e_AuthDoor_s_Secret_a15 (x : AuthDoor) (s0 : AV) (v : Int) : (e_AuthDoor x s0).set 15 (vu v) = e_AuthDoor { x with Secret.a15 := v } s0 := by rfl
theorem e_AuthDoor_g_Open (x : AuthDoor) (s0 : AV) : (e_AuthDoor x s0)[16]? = some s0 := by rfl
theorem e_AuthDoor_s_Open (x : AuthDoor) (s0 : AV) (v : AV) : (e_AuthDoor x s0).set 16 v = e_AuthDoor x v := by rfl
theorem e_AuthDoor_d_Secret (x : AuthDoor) (s0 : AV) : sub? (e_AuthDoor x s0) 0 16 = some (e_A16vu x.Secret) := by rfl
theorem e_AuthDoor_p_Secret (x : AuthDoor) (s0 : AV) (v : A16vu) : putAt (e_AuthDoor x s0) 0 (e_A16vu v) = e_AuthDoor { x with Secret := v } s0 := by rfl
theorem e_AuthDoor_fz (x : AuthDoor) (s0 : AV) (o : Nat → Ob) (n : Nat) : (e_AuthDoor x s0).map (fz o (n + 1)) = e_AuthDoor x (fz o (n + 1) s0) := by rfl
theorem e_AuthDoor_reach (x : AuthDoor) (s0 : AV) (o : Nat → Ob) (n : Nat) : (e_AuthDoor x s0).flatMap (reach o (n + 1)) = reach o (n + 1) s0 := by
  simp only [e_AuthDoor, e_A16vu, List.cons_append, List.nil_append, List.append_nil, List.flatMap_cons, List.flatMap_nil, reach_v]
theorem e_AuthDoor_clean (x : AuthDoor) (s0 : AV) (h_s0 : Clean s0) : ∀ c ∈ (e_AuthDoor x s0), Clean c := by
  simp only [e_AuthDoor, e_A16vu, List.cons_append, List.nil_append]
  repeat' (first | exact Clean.v _ | assumption | exact List.forall_mem_nil _ | refine List.forall_mem_cons.2 ⟨?_, ?_⟩)
theorem e_AuthDoor_tm {st : AS} {F : List Nat} {σ : List (Option Nat)} (x : AuthDoor) (s0 : AV) (s02 : AV) (h_s0 : Tm st F σ s0 s02) : TmL st F σ (e_AuthDoor x s0) (e_AuthDoor x s02) := by
  simp only [e_AuthDoor, e_A16vu, List.cons_append, List.nil_append]
  repeat' (first | exact TmL.nil | (refine TmL.cons (Tm.v _) ?_) | (refine TmL.cons (by assumption) ?_))
theorem e_AuthDoor_tmx {st : AS} {F : List Nat} {σ : List (Option Nat)} {x y : AuthDoor} {s0 s02 : AV} (hxy : e_AuthDoor y s02 = e_AuthDoor x s02) (h_s0 : Tm st F σ s0 s02) : TmL st F σ (e_AuthDoor x s0) (e_AuthDoor y s02) := by
  rw [hxy]; exact e_AuthDoor_tm x s0 s02 h_s0
theorem e_AuthDoor_ren (x : AuthDoor) {s0 : (Nat → Nat) → AV} (h_s0 : RenM s0) : RenML fun q => e_AuthDoor x (s0 q) := by
  simp only [e_AuthDoor, e_A16vu, List.cons_append, List.nil_append]
  repeat' (first | exact RenML.nil | (refine RenML.cons (RenM.const (Clean.v _)) ?_) | (refine RenML.cons (by assumption) ?_))
def E_AuthDoor (x : AuthDoor) : List AV := e_AuthDoor x (S_A6vu x.Open)
theorem E_AuthDoor_eq (x : AuthDoor) : E_AuthDoor x = e_AuthDoor x (S_A6vu x.Open) := rfl
theorem E_AuthDoor_clean (x : AuthDoor) : ∀ c ∈ E_AuthDoor x, Clean c := e_AuthDoor_clean x _ (S_A6vu_clean _)
theorem f_AuthDoor (x : AuthDoor) (o : Nat → Ob) (n : Nat) : (E_AuthDoor x).map (fz o (n + 2)) = E_AuthDoor x := by simp only [E_AuthDoor_eq, e_AuthDoor_fz, f_S_A6vu]
theorem q_AuthDoor (x : AuthDoor) (o : Nat → Ob) (n : Nat) : (E_AuthDoor x).flatMap (reach o (n + 2)) = [] := by simp only [E_AuthDoor_eq, e_AuthDoor_reach, q_S_A6vu, List.append_nil]
attribute [go_sem] e_AuthDoor_len e_AuthDoor_sub e_AuthDoor_take e_AuthDoor_all e_AuthDoor_g_Secret_a0 e_AuthDoor_s_Secret_a0 e_AuthDoor_g_Secret_a1 e_AuthDoor_s_Secret_a1 e_AuthDoor_g_Secret_a2 e_AuthDoor_s_Secret_a2 e_AuthDoor_g_Secret_a3 e_AuthDoor_s_Secret_a3 e_AuthDoor_g_Secret_a4 e_AuthDoor_s_Secret_a4 e_AuthDoor_g_Secret_a5 e_AuthDoor_s_Secret_a5 e_AuthDoor_g_Secret_a6 e_AuthDoor_s_Secret_a6 e_AuthDoor_g_Secret_a7 e_AuthDoor_s_Secret_a7 e_AuthDoor_g_Secret_a8 e_AuthDoor_s_Secret_a8 e_AuthDoor_g_Secret_a9 e_AuthDoor_s_Secret_a9 e_AuthDoor_g_Secret_a10 e_AuthDoor_s_Secret_a10 e_AuthDoor_g_Secret_a11 e_AuthDoor_s_Secret_a11 e_AuthDoor_g_Secret_a12 e_AuthDoor_s_Secret_a12 e_AuthDoor_g_Secret_a13 e_AuthDoor_s_Secret_a13 e_AuthDoor_g_Secret_a14 e_AuthDoor_s_Secret_a14 e_AuthDoor_g_Secret_a15 e_AuthDoor_s_Secret_a15 e_AuthDoor_g_Open e_AuthDoor_s_Open e_AuthDoor_d_Secret e_AuthDoor_p_Secret e_AuthDoor_fz e_AuthDoor_reach E_AuthDoor_eq f_AuthDoor q_AuthDoor

def S_S_vu (l : List (List Int)) : AV := .imm (List.map S_vu l) l.length
theorem S_S_vu_eq (l : List (List Int)) : S_S_vu l = .imm (List.map S_vu l) l.length := rfl
theorem S_S_vu_clean (l : List (List Int)) : Clean (S_S_vu l) := Clean.imm fun c hc => by
  obtain ⟨a, _, rfl⟩ := List.mem_map.1 hc
  exact S_vu_clean a
theorem f_S_S_vu (l : List (List Int)) (o : Nat → Ob) (n : Nat) : fz o (n + 3) (S_S_vu l) = S_S_vu l := by
  simp only [S_S_vu_eq, fz, List.map_map]
  congr 1
  exact List.map_congr_left fun a _ => f_S_vu a o n
theorem cS_vu (l : List (List Int)) : ∀ c ∈ l.map S_vu, Clean c := fun c hc => by
  obtain ⟨a, _, rfl⟩ := List.mem_map.1 hc
  exact S_vu_clean a
attribute [go_sem] S_S_vu_eq f_S_S_vu

structure A36vw where
  a0 : Int
  a1 : Int
  a2 : Int
  a3 : Int
  a4 : Int
  a5 : Int
  a6 : Int
  a7 : Int
  a8 : Int
  a9 : Int
  a10 : Int
  a11 : Int
  a12 : Int
  a13 : Int
  a14 : Int
  a15 : Int
  a16 : Int
  a17 : Int
  a18 : Int
  a19 : Int
  a20 : Int
  a21 : Int
  a22 : Int
  a23 : Int
  a24 : Int
  a25 : Int
  a26 : Int
  a27 : Int
  a28 : Int
  a29 : Int
  a30 : Int
  a31 : Int
  a32 : Int
  a33 : Int
  a34 : Int
  a35 : Int
  deriving DecidableEq

def A36vw.z : A36vw := ⟨0, 0, 0, 0, 0, 0, 0, 0, 0, 0, 0, 0, 0, 0, 0, 0, 0, 0, 0, 0, 0, 0, 0, 0, 0, 0, 0, 0, 0, 0, 0, 0, 0, 0, 0, 0⟩

def e_A36vw (x : A36vw) : List AV := [vw x.a0, vw x.a1, vw x.a2, vw x.a3, vw x.a4, vw x.a5, vw x.a6, vw x.a7, vw x.a8, vw x.a9, vw x.a10, vw x.a11, vw x.a12, vw x.a13, vw x.a14, vw x.a15, vw x.a16, vw x.a17, vw x.a18, vw x.a19, vw x.a20, vw x.a21, vw x.a22, vw x.a23, vw x.a24, vw x.a25, vw x.a26, vw x.a27, vw x.a28, vw x.a29, vw x.a30, vw x.a31, vw x.a32, vw x.a33, vw x.a34, vw x.a35]

theorem e_A36vw_len (x : A36vw) : (e_A36vw x).length = 36 := by rfl
theorem e_A36vw_sub (x : A36vw) : sub? (e_A36vw x) 0 36 = some (e_A36vw x) := by rfl
theorem e_A36vw_take (x : A36vw) : (e_A36vw x).take 36 = (e_A36vw x) := by rfl
theorem e_A36vw_all (x : A36vw) (y : A36vw) : putAt (e_A36vw x) 0 (e_A36vw y) = e_A36vw y := by rfl
theorem e_A36vw_g_a0 (x : A36vw) : (e_A36vw x)[0]? = some (vw x.a0) := by rfl
theorem e_A36vw_s_a0 (x : A36vw) (v : Int) : (e_A36vw x).set 0 (vw v) = e_A36vw { x with a0 := v } := by rfl
theorem e_A36vw_g_a1 (x : A36vw) : (e_A36vw x)[1]? = some (vw x.a1) := by rfl
theorem e_A36vw_s_a1 (x : A36vw) (v : Int) : (e_A36vw x).set 1 (vw v) = e_A36vw { x with a1 := v } := by rfl
theorem e_A36vw_g_a2 (x : A36vw) : (e_A36vw x)[2]? = some (vw x.a2) := by rfl
theorem e_A36vw_s_a2 (x : A36vw) (v : Int) : (e_A36vw x).set 2 (vw v) = e_A36vw { x with a2 := v } := by rfl
theorem e_A36vw_g_a3 (x : A36vw) : (e_A36vw x)[3]? = some (vw x.a3) := by rfl
theorem e_A36vw_s_a3 (x : A36vw) (v : Int) : (e_A36vw x).set 3 (vw v) = e_A36vw { x with a3 := v } := by rfl
theorem e_A36vw_g_a4 (x : A36vw) : (e_A36vw x)[4]? = some (vw x.a4) := by rfl
theorem e_A36vw_s_a4 (x : A36vw) (v : Int) : (e_A36vw x).set 4 (vw v) = e_A36vw { x with a4 := v } := by rfl
theorem e_A36vw_g_a5 (x : A36vw) : (e_A36vw x)[5]? = some (vw x.a5) := by rfl
theorem e_A36vw_s_a5 (x : A36vw) (v : Int) : (e_A36vw x).set 5 (vw v) = e_A36vw { x with a5 := v } := by rfl
theorem e_A36vw_g_a6 (x : A36vw) : (e_A36vw x)[6]? = some (vw x.a6) := by rfl
theorem e_A36vw_s_a6 (x : A36vw) (v : Int) : (e_A36vw x).set 6 (vw v) = e_A36vw { x with a6 := v } := by rfl
theorem e_A36vw_g_a7 (x : A36vw) : (e_A36vw x)[7]? = some (vw x.a7) := by rfl
theorem e_A36vw_s_a7 (x : A36vw) (v : Int) : (e_A36vw x).set 7 (vw v) = e_A36vw { x with a7 := v } := by rfl
theorem e_A36vw_g_a8 (x : A36vw) : (e_A36vw x)[8]? = some (vw x.a8) := by rfl
theorem e_A36vw_s_a8 (x : A36vw) (v : Int) : (e_A36vw x).set 8 (vw v) = e_A36vw { x with a8 := v } := by rfl
theorem e_A36vw_g_a9 (x : A36vw) : (e_A36vw x)[9]? = some (vw x.a9) := by rfl
theorem e_A36vw_s_a9 (x : A36vw) (v : Int) : (e_A36vw x).set 9 (vw v) = e_A36vw { x with a9 := v } := by rfl
theorem e_A36vw_g_a10 (x : A36vw) : (e_A36vw x)[10]? = some (vw x.a10) := by rfl
theorem e_A36vw_s_a10 (x : A36vw) (v : Int) : (e_A36vw x).set 10 (vw v) = e_A36vw { x with a10 := v } := by rfl
theorem e_A36vw_g_a11 (x : A36vw) : (e_A36vw x)[11]? = some (vw x.a11) := by rfl
theorem e_A36vw_s_a11 (x : A36vw) (v : Int) : (e_A36vw x).set 11 (vw v) = e_A36vw { x with a11 := v } := by rfl
theorem e_A36vw_g_a12 (x : A36vw) : (e_A36vw x)[12]? = some (vw x.a12) := by rfl
theorem e_A36vw_s_a12 (x : A36vw) (v : Int) : (e_A36vw x).set 12 (vw v) = e_A36vw { x with a12 := v } := by rfl
theorem e_A36vw_g_a13 (x : A36vw) : (e_A36vw x)[13]? = some (vw x.a13) := by rfl
theorem e_A36vw_s_a13 (x : A36vw) (v : Int) : (e_A36vw x).set 13 (vw v) = e_A36vw { x with a13 := v } := by rfl
theorem e_A36vw_g_a14 (x : A36vw) : (e_A36vw x)[14]? = some (vw x.a14) := by rfl
theorem e_A36vw_s_a14 (x : A36vw) (v : Int) : (e_A36vw x).set 14 (vw v) = e_A36vw { x with a14 := v } := by rfl
theorem e_A36vw_g_a15 (x : A36vw) : (e_A36vw x)[15]? = some (vw x.a15) := by rfl
theorem e_A36vw_s_a15 (x : A36vw) (v : Int) : (e_A36vw x).set 15 (vw v) = e_A36vw { x with a15 := v } := by rfl
theorem e_A36vw_g_a16 (x : A36vw) : (e_A36vw x)[16]? = some (vw x.a16) := by rfl
theorem e_A36vw_s_a16 (x : A36vw) (v : Int) : (e_A36vw x).set 16 (vw v) = e_A36vw { x with a16 := v } := by rfl
theorem e_A36vw_g_a17 (x : A36vw) : (e_A36vw x)[17]? = some (vw x.a17) := by rfl
theorem e_A36vw_s_a17 (x : A36vw) (v : Int) : (e_A36vw x).set 17 (vw v) = e_A36vw { x with a17 := v } := by rfl
theorem e_A36vw_g_a18 (x : A36vw) : (e_A36vw x)[18]? = some (vw x.a18) := by rfl
theorem e_A36vw_s_a18 (x : A36vw) (v : Int) : (e_A36vw x).set 18 (vw v) = e_A36vw { x with a18 := v } := by rfl
theorem e_A36vw_g_a19 (x : A36vw) : (e_A36vw x)[19]? = some (vw x.a19) := by rfl
theorem e_A36vw_s_a19 (x : A36vw) (v : Int) : (e_A36vw x).set 19 (vw v) = e_A36vw { x with a19 := v } := by rfl
theorem e_A36vw_g_a20 (x : A36vw) : (e_A36vw x)[20]? = some (vw x.a20) := by rfl
theorem e_A36vw_s_a20 (x : A36vw) (v : Int) : (e_A36vw x).set 20 (vw v) = e_A36vw { x with a20 := v } := by rfl
theorem e_A36vw_g_a21 (x : A36vw) : (e_A36vw x)[21]? = some (vw x.a21) := by rfl
theorem e_A36vw_s_a21 (x : A36vw) (v : Int) : (e_A36vw x).set 21 (vw v) = e_A36vw { x with a21 := v } := by rfl
theorem e_A36vw_g_a22 (x : A36vw) : (e_A36vw x)[22]? = some (vw x.a22) := by rfl
theorem e_A36vw_s_a22 (x : A36vw) (v : Int) : (e_A36vw x).set 22 (vw v) = e_A36vw { x with a22 := v } := by rfl
theorem e_A36vw_g_a23 (x : A36vw) : (e_A36vw x)[23]? = some (vw x.a23) := by rfl
theorem e_A36vw_s_a23 (x : A36vw) (v : Int) : (e_A36vw x).set 23 (vw v) = e_A36vw { x with a23 := v } := by rfl
theorem e_A36vw_g_a24 (x : A36vw) : (e_A36vw x)[24]? = some (vw x.a24) := by rfl
theorem e_A36vw_s_a24 (x : A36vw) (v : Int) : (e_A36vw x).set 24 (vw v) = e_A36vw { x with a24 := v } := by rfl
theorem e_A36vw_g_a25 (x : A36vw) : (e_A36vw x)[25]? = some (vw x.a25) := by rfl
theorem e_A36vw_s_a25 (x : A36vw) (v : Int) : (e_A36vw x).set 25 (vw v) = e_A36vw { x with a25 := v } := by rfl
theorem e_A36vw_g_a26 (x : A36vw) : (e_A36vw x)[26]? = some (vw x.a26) := by rfl
theorem e_A36vw_s_a26 (x : A36vw) (v : Int) : (e_A36vw x).set 26 (vw v) = e_A36vw { x with a26 := v } := by rfl
theorem e_A36vw_g_a27 (x : A36vw) : (e_A36vw x)[27]? = some (vw x.a27) := by rfl
theorem e_A36vw_s_a27 (x : A36vw) (v : Int) : (e_A36vw x).set 27 (vw v) = e_A36vw { x with a27 := v } := by rfl
theorem e_A36vw_g_a28 (x : A36vw) : (e_A36vw x)[28]? = some (vw x.a28) := by rfl
theorem e_A36vw_s_a28 (x : A36vw) (v : Int) : (e_A36vw x).set 28 (vw v) = e_A36vw { x with a28 := v } := by rfl
theorem e_A36vw_g_a29 (x : A36vw) : (e_A36vw x)[29]? = some (vw x.a29) := by rfl
theorem e_A36vw_s_a29 (x : A36vw) (v : Int) : (e_A36vw x).set 29 (vw v) = e_A36vw { x with a29 := v } := by rfl
theorem e_A36vw_g_a30 (x : A36vw) : (e_A36vw x)[30]? = some (vw x.a30) := by rfl
theorem e_A36vw_s_a30 (x : A36vw) (v : Int) : (e_A36vw x).set 30 (vw v) = e_A36vw { x with a30 := v } := by rfl
theorem e_A36vw_g_a31 (x : A36vw) : (e_A36vw x)[31]? = some (vw x.a31) := by rfl
theorem e_A36vw_s_a31 (x : A36vw) (v : Int) : (e_A36vw x).set 31 (vw v) = e_A36vw { x with a31 := v } := by rfl
theorem e_A36vw_g_a32 (x : A36vw) : (e_A36vw x)[32]? = some (vw x.a32) := by rfl
theorem e_A36vw_s_a32 (x : A36vw) (v : Int) : (e_A36vw x).set 32 (vw v) = e_A36vw { x with a32 := v } := by rfl
theorem e_A36vw_g_a33 (x : A36vw) : (e_A36vw x)[33]? = some (vw x.a33) := by rfl
theorem e_A36vw_s_a33 (x : A36vw) (v : Int) : (e_A36vw x).set 33 (vw v) = e_A36vw { x with a33 := v } := by rfl
theorem e_A36vw_g_a34 (x : A36vw) : (e_A36vw x)[34]? = some (vw x.a34) := by rfl
theorem e_A36vw_s_a34 (x : A36vw) (v : Int) : (e_A36vw x).set 34 (vw v) = e_A36vw { x with a34 := v } := by rfl
theorem e_A36vw_g_a35 (x : A36vw) : (e_A36vw x)[35]? = some (vw x.a35) := by rfl
theorem e_A36vw_s_a35 (x : A36vw) (v : Int) : (e_A36vw x).set 35 (vw v) = e_A36vw { x with a35 := v } := by rfl
theorem e_A36vw_fz (x : A36vw) (o : Nat → Ob) (n : Nat) : (e_A36vw x).map (fz o (n + 1)) = e_A36vw x := by rfl
theorem e_A36vw_reach (x : A36vw) (o : Nat → Ob) (n : Nat) : (e_A36vw x).flatMap (reach o (n + 1)) = [] := by
  simp only [e_A36vw, List.cons_append, List.nil_append, List.append_nil, List.flatMap_cons, List.flatMap_nil, reach_v]
theorem e_A36vw_clean (x : A36vw) : ∀ c ∈ (e_A36vw x), Clean c := by
  simp only [e_A36vw, List.cons_append, List.nil_append]
  repeat' (first | exact Clean.v _ | assumption | exact List.forall_mem_nil _ | refine List.forall_mem_cons.2 ⟨?_, ?_⟩)
def A36vw.setA (x : A36vw) (i : Nat) (v : Int) : A36vw := ⟨bif i == 0 then v else x.a0, bif i == 1 then v else x.a1, bif i == 2 then v else x.a2, bif i == 3 then v else x.a3, bif i == 4 then v else x.a4, bif i == 5 then v else x.a5, bif i == 6 then v else x.a6, bif i == 7 then v else x.a7, bif i == 8 then v else x.a8, bif i == 9 then v else x.a9, bif i == 10 then v else x.a10, bif i == 11 then v else x.a11, bif i == 12 then v else x.a12, bif i == 13 then v else x.a13, bif i == 14 then v else x.a14, bif i == 15 then v else x.a15, bif i == 16 then v else x.a16, bif i == 17 then v else x.a17, bif i == 18 then v else x.a18, bif i == 19 then v else x.a19, bif i == 20 then v else x.a20, bif i == 21 then v else x.a21, bif i == 22 then v else x.a22, bif i == 23 then v else x.a23, bif i == 24 then v else x.a24, bif i == 25 then v else x.a25, bif i == 26 then v else x.a26, bif i == 27 then v else x.a27, bif i == 28 then v else x.a28, bif i == 29 then v else x.a29, bif i == 30 then v else x.a30, bif i == 31 then v else x.a31, bif i == 32 then v else x.a32, bif i == 33 then v else x.a33, bif i == 34 then v else x.a34, bif i == 35 then v else x.a35⟩
theorem e_A36vw_setA (x : A36vw) (v : Int) : ∀ {i : Nat}, i < 36 → (e_A36vw x).set i (vw v) = e_A36vw (x.setA i v)
  | 0, _ => rfl
  | 1, _ => rfl
  | 2, _ => rfl
  | 3, _ => rfl
  | 4, _ => rfl
  | 5, _ => rfl
  | 6, _ => rfl
  | 7, _ => rfl
  | 8, _ => rfl
  | 9, _ => rfl
  | 10, _ => rfl
  | 11, _ => rfl
  | 12, _ => rfl
  | 13, _ => rfl
  | 14, _ => rfl
  | 15, _ => rfl
  | 16, _ => rfl
  | 17, _ => rfl
  | 18, _ => rfl
  | 19, _ => rfl
  | 20, _ => rfl
  | 21, _ => rfl
  | 22, _ => rfl
  | 23, _ => rfl
  | 24, _ => rfl
  | 25, _ => rfl
  | 26, _ => rfl
  | 27, _ => rfl
  | 28, _ => rfl
  | 29, _ => rfl
  | 30, _ => rfl
  | 31, _ => rfl
  | 32, _ => rfl
  | 33, _ => rfl
  | 34, _ => rfl
  | 35, _ => rfl
  | k + 36, h => absurd h (by omega)
theorem f_A36vw (x : A36vw) (o : Nat → Ob) (n : Nat) : (e_A36vw x).map (fz o (n + 1)) = e_A36vw x := by simp only [e_A36vw_fz]
theorem q_A36vw (x : A36vw) (o : Nat → Ob) (n : Nat) : (e_A36vw x).flatMap (reach o (n + 1)) = [] := by simp only [e_A36vw_reach, List.append_nil]
attribute [go_sem] e_A36vw_len e_A36vw_sub e_A36vw_take e_A36vw_all e_A36vw_g_a0 e_A36vw_s_a0 e_A36vw_g_a1 e_A36vw_s_a1 e_A36vw_g_a2 e_A36vw_s_a2 e_A36vw_g_a3 e_A36vw_s_a3 e_A36vw_g_a4 e_A36vw_s_a4 e_A36vw_g_a5 e_A36vw_s_a5 e_A36vw_g_a6 e_A36vw_s_a6 e_A36vw_g_a7 e_A36vw_s_a7 e_A36vw_g_a8 e_A36vw_s_a8 e_A36vw_g_a9 e_A36vw_s_a9 e_A36vw_g_a10 e_A36vw_s_a10 e_A36vw_g_a11 e_A36vw_s_a11 e_A36vw_g_a12 e_A36vw_s_a12 e_A36vw_g_a13 e_A36vw_s_a13 e_A36vw_g_a14 e_A36vw_s_a14 e_A36vw_g_a15 e_A36vw_s_a15 e_A36vw_g_a16 e_A36vw_s_a16 e_A36vw_g_a17 e_A36vw_s_a17 e_A36vw_g_a18 e_A36vw_s_a18 e_A36vw_g_a19 e_A36vw_s_a19 e_A36vw_g_a20 e_A36vw_s_a20 e_A36vw_g_a21 e_A36vw_s_a21 e_A36vw_g_a22 e_A36vw_s_a22 e_A36vw_g_a23 e_A36vw_s_a23 e_A36vw_g_a24 e_A36vw_s_a24 e_A36vw_g_a25 e_A36vw_s_a25 e_A36vw_g_a26 e_A36vw_s_a26 e_A36vw_g_a27 e_A36vw_s_a27 e_A36vw_g_a28 e_A36vw_s_a28 e_A36vw_g_a29 e_A36vw_s_a29 e_A36vw_g_a30 e_A36vw_s_a30 e_A36vw_g_a31 e_A36vw_s_a31 e_A36vw_g_a32 e_A36vw_s_a32 e_A36vw_g_a33 e_A36vw_s_a33 e_A36vw_g_a34 e_A36vw_s_a34 e_A36vw_g_a35 e_A36vw_s_a35 e_A36vw_fz e_A36vw_reach f_A36vw q_A36vw

structure A4vw where
  a0 : Int
  a1 : Int
  a2 : Int
  a3 : Int
  deriving DecidableEq

def A4vw.z : A4vw := ⟨0, 0, 0, 0⟩

def e_A4vw (x : A4vw) : List AV := [vw x.a0, vw x.a1, vw x.a2, vw x.a3]

theorem e_A4vw_len (x : A4vw) : (e_A4vw x).length = 4 := by rfl
theorem e_A4vw_sub (x : A4vw) : sub? (e_A4vw x) 0 4 = some (e_A4vw x) := by rfl
theorem e_A4vw_take (x : A4vw) : (e_A4vw x).take 4 = (e_A4vw x) := by rfl
theorem e_A4vw_all (x : A4vw) (y : A4vw) : putAt (e_A4vw x) 0 (e_A4vw y) = e_A4vw y := by rfl
theorem e_A4vw_g_a0 (x : A4vw) : (e_A4vw x)[0]? = some (vw x.a0) := by rfl
theorem e_A4vw_s_a0 (x : A4vw) (v : Int) : (e_A4vw x).set 0 (vw v) = e_A4vw { x with a0 := v } := by rfl
theorem e_A4vw_g_a1 (x : A4vw) : (e_A4vw x)[1]? = some (vw x.a1) := by rfl
theorem e_A4vw_s_a1 (x : A4vw) (v : Int) : (e_A4vw x).set 1 (vw v) = e_A4vw { x with a1 := v } := by rfl
theorem e_A4vw_g_a2 (x : A4vw) : (e_A4vw x)[2]? = some (vw x.a2) := by rfl
theorem e_A4vw_s_a2 (x : A4vw) (v : Int) : (e_A4vw x).set 2 (vw v) = e_A4vw { x with a2 := v } := by rfl
theorem e_A4vw_g_a3 (x : A4vw) : (e_A4vw x)[3]? = some (vw x.a3) := by rfl
theorem e_A4vw_s_a3 (x : A4vw) (v : Int) : (e_A4vw x).set 3 (vw v) = e_A4vw { x with a3 := v } := by rfl
theorem e_A4vw_fz (x : A4vw) (o : Nat → Ob) (n : Nat) : (e_A4vw x).map (fz o (n + 1)) = e_A4vw x := by rfl
theorem e_A4vw_reach (x : A4vw) (o : Nat → Ob) (n : Nat) : (e_A4vw x).flatMap (reach o (n + 1)) = [] := by
  simp only [e_A4vw, List.cons_append, List.nil_append, List.append_nil, List.flatMap_cons, List.flatMap_nil, reach_v]
theorem e_A4vw_clean (x : A4vw) : ∀ c ∈ (e_A4vw x), Clean c := by
  simp only [e_A4vw, List.cons_append, List.nil_append]
  repeat' (first | exact Clean.v _ | assumption | exact List.forall_mem_nil _ | refine List.forall_mem_cons.2 ⟨?_, ?_⟩)
def A4vw.setA (x : A4vw) (i : Nat) (v : Int) : A4vw := ⟨bif i == 0 then v else x.a0, bif i == 1 then v else x.a1, bif i == 2 then v else x.a2, bif i == 3 then v else x.a3⟩
theorem e_A4vw_setA (x : A4vw) (v : Int) : ∀ {i : Nat}, i < 4 → (e_A4vw x).set i (vw v) = e_A4vw (x.setA i v)
  | 0, _ => rfl
  | 1, _ => rfl
  | 2, _ => rfl
  | 3, _ => rfl
  | k + 4, h => absurd h (by omega)
theorem f_A4vw (x : A4vw) (o : Nat → Ob) (n : Nat) : (e_A4vw x).map (fz o (n + 1)) = e_A4vw x := by simp only [e_A4vw_fz]
theorem q_A4vw (x : A4vw) (o : Nat → Ob) (n : Nat) : (e_A4vw x).flatMap (reach o (n + 1)) = [] := by simp only [e_A4vw_reach, List.append_nil]
attribute [go_sem] e_A4vw_len e_A4vw_sub e_A4vw_take e_A4vw_all e_A4vw_g_a0 e_A4vw_s_a0 e_A4vw_g_a1 e_A4vw_s_a1 e_A4vw_g_a2 e_A4vw_s_a2 e_A4vw_g_a3 e_A4vw_s_a3 e_A4vw_fz e_A4vw_reach f_A4vw q_A4vw

end Go.AX.Z.TW

/-! (TWD) -/

set_option linter.unusedSimpArgs false
set_option linter.unusedVariables false
set_option maxHeartbeats 4000000
set_option maxRecDepth 20000
namespace Go.AX.Z.TW
open Go.AX

def slices_Index_api_Addr_api_Addr_L2 (a0 : (List A6vu)) (a1 : A6vu) : Nat → Int → Option (Ex Int Unit)
  | 0, _ => none
  | n2 + 1, d7 =>
    bif decide (d7 < (a0.length : Int)) then
      ((idx a0 d7).bind fun x8 =>
      bif decide (a1 = x8) then
        some (Ex.ret d7)
      else
        slices_Index_api_Addr_api_Addr_L2 a0 a1 n2 (IntKind.wrap .i64 (d7 + 1)))
    else
      some (Ex.go ())

def slices_Index_api_Addr_api_Addr (a0 : (List A6vu)) (a1 : A6vu) : Option Int :=
  ((
    slices_Index_api_Addr_api_Addr_L2 a0 a1 big 0).bind fun o6 =>
  (o6.k fun d5 =>
  some (-1)))

def slices_Contains_api_Addr_api_Addr (a0 : (List A6vu)) (a1 : A6vu) : Option Bool :=
  ((slices_Index_api_Addr_api_Addr a0 a1).bind fun x5 =>
  some (decide (0 ≤ x5)))

def auth_CheckDoor_L2 (a0 : AuthDoor) : Nat → Int → Option (Ex Int Unit)
  | 0, _ => none
  | n3 + 1, d4 =>
    bif decide (d4 < (a0.Open.length : Int)) then
      ((idx a0.Open d4).bind fun x5 =>
      ((chk (decide (0 ≤ d4) && decide (d4 ≤ (a0.Open.length : Int)))).bind fun x6 =>
      ((slices_Contains_api_Addr_api_Addr (List.take ((d4).toNat) a0.Open) x5).bind fun x7 =>
      bif x7 then
        some (Ex.ret 8)
      else
        auth_CheckDoor_L2 a0 n3 (IntKind.wrap .i64 (d4 + 1)))))
    else
      some (Ex.go ())

def auth_CheckDoor (a0 : AuthDoor) : Option Int :=
  bif decide (16 < (a0.Open.length : Int)) then
    some 8
  else
    ((
      auth_CheckDoor_L2 a0 big 0).bind fun o3 =>
    (o3.k fun d2 =>
    some 0))

def auth_shaped (a0 : (List Int)) : Option Int :=
  bif ((a0.length : Int) == 0) then
    some 10
  else
    ((idx a0 0).bind fun x9 =>
    ((
      bif (x9 == 1) then
        ((
          bif ((a0.length : Int) == 18) then
            ((idx a0 17).bind fun x11 =>
            some (x11 == 0))
          else
            some false).bind fun x12 =>
        ((
          bif x12 then
            some true
          else
            ((
              bif ((a0.length : Int) == 26) then
                ((idx a0 17).bind fun x13 =>
                some (x13 == 8))
              else
                some false).bind fun x14 =>
            some x14)).bind fun x15 =>
        some x15))
      else
        bif (x9 == 2) then
          some ((a0.length : Int) == 19)
        else
          bif (x9 == 3) then
            some ((a0.length : Int) == 9)
          else
            some false).bind fun d10 =>
    bif (!d10) then
      some 12
    else
      some 0))

def slices_Clone_api_Addr_api_Addr (a0 : (List A6vu)) : Option (List A6vu) :=
  ((chk (decide ((a0.length) * 6 ≤ 140737488355328))).bind fun x18 =>
  some a0)

def derive_two (a0 : Int) : Option (List Int) :=
  some [IntKind.wrap .u8 a0, IntKind.wrap .u8 ((a0).fdiv (2 ^ (min 8 64)))]

def derive_join_L2 (a0 : (List (List Int))) : Nat → (List Int × Int) → Option ((List Int))
  | 0, _ => none
  | n2 + 1, d24 =>
    bif decide (d24.2 < (a0.length : Int)) then
      ((idx a0 d24.2).bind fun x25 =>
      ((chk (decide ((d24.1).length + x25.length ≤ 140737488355328))).bind fun x26 =>
      derive_join_L2 a0 n2 ((d24.1 ++ x25), IntKind.wrap .i64 (d24.2 + 1))))
    else
      some d24.1

def derive_join (a0 : (List (List Int))) : Option (List Int) :=
  ((
    derive_join_L2 a0 big ([], 0)).bind fun d23 =>
  some d23)

def derive_Input (a0 : (List Int)) (a1 : Int) : Option (List Int) :=
  ((derive_two (a0.length : Int)).bind fun x21 =>
  ((derive_two a1).bind fun x22 =>
  ((derive_join [[IntKind.wrap .u8 5], [116, 111, 107, 101, 110], x21, a0, x22]).bind fun x23 =>
  some x23)))

def cipher_Words_L2 (a0 : A16vu) : Nat → (A4vw × Int) → Option (A4vw)
  | 0, _ => none
  | n2 + 1, d30 =>
    bif decide (d30.2 < 16) then
      ((idxA 16 [a0.a0, a0.a1, a0.a2, a0.a3, a0.a4, a0.a5, a0.a6, a0.a7, a0.a8, a0.a9, a0.a10, a0.a11, a0.a12, a0.a13, a0.a14, a0.a15] d30.2).bind fun x31 =>
      ((idxA 4 [d30.1.a0, d30.1.a1, d30.1.a2, d30.1.a3] (IntKind.wrap .i64 ((d30.2).tdiv 4))).bind fun x32 =>
      ((chk (decide (¬ (IntKind.wrap .i64 (((d30.2).tmod 4) * 8)) < 0))).bind fun x33 =>
      cipher_Words_L2 a0 n2 ((d30.1.setA ((IntKind.wrap .i64 ((d30.2).tdiv 4)).toNat) (bor .u32 x32 (IntKind.wrap .u32 ((IntKind.wrap .u32 x31) * 2 ^ (min ((IntKind.wrap .i64 (((d30.2).tmod 4) * 8))).toNat 32))))), IntKind.wrap .i64 (d30.2 + 1)))))
    else
      some d30.1

def cipher_Words (a0 : A16vu) : Option A4vw :=
  ((
    cipher_Words_L2 a0 big (A4vw.z, 0)).bind fun d29 =>
  some d29)

def math_bits_RotateLeft32 (a0 : Int) (a1 : Int) : Option Int :=
  ((chk (decide (¬ (band .u64 (IntKind.wrap .u64 a1) 31) < 0))).bind fun x38 =>
  ((chk (decide (¬ (IntKind.wrap .u64 (32 - (band .u64 (IntKind.wrap .u64 a1) 31))) < 0))).bind fun x39 =>
  some (bor .u32 (IntKind.wrap .u32 (a0 * 2 ^ (min ((band .u64 (IntKind.wrap .u64 a1) 31)).toNat 32))) ((a0).fdiv (2 ^ (min ((IntKind.wrap .u64 (32 - (band .u64 (IntKind.wrap .u64 a1) 31)))).toNat 32))))))

def cipher_Schedule_L3 (a0 : A16vu) : Nat → (A36vw × Int) → Option (A36vw)
  | 0, _ => none
  | n3 + 1, d31 =>
    bif decide (d31.2 < 36) then
      ((idxA 36 [d31.1.a0, d31.1.a1, d31.1.a2, d31.1.a3, d31.1.a4, d31.1.a5, d31.1.a6, d31.1.a7, d31.1.a8, d31.1.a9, d31.1.a10, d31.1.a11, d31.1.a12, d31.1.a13, d31.1.a14, d31.1.a15, d31.1.a16, d31.1.a17, d31.1.a18, d31.1.a19, d31.1.a20, d31.1.a21, d31.1.a22, d31.1.a23, d31.1.a24, d31.1.a25, d31.1.a26, d31.1.a27, d31.1.a28, d31.1.a29, d31.1.a30, d31.1.a31, d31.1.a32, d31.1.a33, d31.1.a34, d31.1.a35] (IntKind.wrap .i64 (d31.2 - 4))).bind fun x32 =>
      ((idxA 36 [d31.1.a0, d31.1.a1, d31.1.a2, d31.1.a3, d31.1.a4, d31.1.a5, d31.1.a6, d31.1.a7, d31.1.a8, d31.1.a9, d31.1.a10, d31.1.a11, d31.1.a12, d31.1.a13, d31.1.a14, d31.1.a15, d31.1.a16, d31.1.a17, d31.1.a18, d31.1.a19, d31.1.a20, d31.1.a21, d31.1.a22, d31.1.a23, d31.1.a24, d31.1.a25, d31.1.a26, d31.1.a27, d31.1.a28, d31.1.a29, d31.1.a30, d31.1.a31, d31.1.a32, d31.1.a33, d31.1.a34, d31.1.a35] (IntKind.wrap .i64 (d31.2 - 1))).bind fun x33 =>
      ((math_bits_RotateLeft32 x33 7).bind fun x34 =>
      ((idxA 36 [d31.1.a0, d31.1.a1, d31.1.a2, d31.1.a3, d31.1.a4, d31.1.a5, d31.1.a6, d31.1.a7, d31.1.a8, d31.1.a9, d31.1.a10, d31.1.a11, d31.1.a12, d31.1.a13, d31.1.a14, d31.1.a15, d31.1.a16, d31.1.a17, d31.1.a18, d31.1.a19, d31.1.a20, d31.1.a21, d31.1.a22, d31.1.a23, d31.1.a24, d31.1.a25, d31.1.a26, d31.1.a27, d31.1.a28, d31.1.a29, d31.1.a30, d31.1.a31, d31.1.a32, d31.1.a33, d31.1.a34, d31.1.a35] d31.2).bind fun x35 =>
      cipher_Schedule_L3 a0 n3 ((d31.1.setA ((d31.2).toNat) (IntKind.wrap .u32 (x32 + (bxor .u32 x34 (IntKind.wrap .u32 ((IntKind.wrap .u32 ((IntKind.wrap .u32 d31.2) * 2050759141)) + 525043411)))))), IntKind.wrap .i64 (d31.2 + 1))))))
    else
      some d31.1

def cipher_Schedule (a0 : A16vu) : Option A36vw :=
  ((cipher_Words a0).bind fun x29 =>
  ((
    cipher_Schedule_L3 a0 big ({ A36vw.z with a0 := x29.a0, a1 := x29.a1, a2 := x29.a2, a3 := x29.a3 }, 4)).bind fun d30 =>
  some d30))

def cipher_mask_L2 (a0 : A4vw) (a1 : A36vw) : Nat → (A4vw × Int) → Option (A4vw)
  | 0, _ => none
  | n2 + 1, d39 =>
    bif decide (d39.2 < 4) then
      ((idxA 4 [d39.1.a0, d39.1.a1, d39.1.a2, d39.1.a3] d39.2).bind fun x40 =>
      ((idxA 36 [a1.a0, a1.a1, a1.a2, a1.a3, a1.a4, a1.a5, a1.a6, a1.a7, a1.a8, a1.a9, a1.a10, a1.a11, a1.a12, a1.a13, a1.a14, a1.a15, a1.a16, a1.a17, a1.a18, a1.a19, a1.a20, a1.a21, a1.a22, a1.a23, a1.a24, a1.a25, a1.a26, a1.a27, a1.a28, a1.a29, a1.a30, a1.a31, a1.a32, a1.a33, a1.a34, a1.a35] d39.2).bind fun x41 =>
      cipher_mask_L2 a0 a1 n2 ((d39.1.setA ((d39.2).toNat) (bxor .u32 x40 x41)), IntKind.wrap .i64 (d39.2 + 1))))
    else
      some d39.1

def cipher_mask (a0 : A4vw) (a1 : A36vw) : Option A4vw :=
  ((
    cipher_mask_L2 a0 a1 big (a0, 0)).bind fun d38 =>
  some d38)

def cipher_Round (a0 : A4vw) (a1 : Int) (a2 : Int) : Option A4vw :=
  ((math_bits_RotateLeft32 a0.a1 5).bind fun x46 =>
  ((math_bits_RotateLeft32 a0.a3 9).bind fun x47 =>
  ((math_bits_RotateLeft32 (IntKind.wrap .u32 ((IntKind.wrap .u32 (a0.a2 + (bxor .u32 x47 a2))) + a1)) 13).bind fun x48 =>
  ((math_bits_RotateLeft32 (IntKind.wrap .u32 ((IntKind.wrap .u32 (a0.a0 + (bxor .u32 x46 a1))) + a2)) 19).bind fun x49 =>
  some { A4vw.z with a0 := bxor .u32 a0.a1 x48, a1 := IntKind.wrap .u32 (a0.a2 + (bxor .u32 x47 a2)), a2 := bxor .u32 a0.a3 x49, a3 := IntKind.wrap .u32 (a0.a0 + (bxor .u32 x46 a1)) }))))

def cipher_Join_L2 (a0 : A4vw) : Nat → (A16vu × Int) → Option (A16vu)
  | 0, _ => none
  | n2 + 1, d49 =>
    bif decide (d49.2 < 16) then
      ((idxA 4 [a0.a0, a0.a1, a0.a2, a0.a3] (IntKind.wrap .i64 ((d49.2).tdiv 4))).bind fun x50 =>
      ((chk (decide (¬ (IntKind.wrap .i64 (((d49.2).tmod 4) * 8)) < 0))).bind fun x51 =>
      ((idxA 16 [d49.1.a0, d49.1.a1, d49.1.a2, d49.1.a3, d49.1.a4, d49.1.a5, d49.1.a6, d49.1.a7, d49.1.a8, d49.1.a9, d49.1.a10, d49.1.a11, d49.1.a12, d49.1.a13, d49.1.a14, d49.1.a15] d49.2).bind fun x52 =>
      cipher_Join_L2 a0 n2 ((d49.1.setA ((d49.2).toNat) (IntKind.wrap .u8 ((x50).fdiv (2 ^ (min ((IntKind.wrap .i64 (((d49.2).tmod 4) * 8))).toNat 32))))), IntKind.wrap .i64 (d49.2 + 1)))))
    else
      some d49.1

def cipher_Join (a0 : A4vw) : Option A16vu :=
  ((
    cipher_Join_L2 a0 big (A16vu.z, 0)).bind fun d48 =>
  some d48)

def cipher_Encrypt_L4 (x29 : A36vw) (a0 : A16vu) (a1 : A16vu) : Nat → (A4vw × Int) → Option (A4vw)
  | 0, _ => none
  | n2 + 1, d33 =>
    bif decide (d33.2 < 16) then
      ((idxA 36 [x29.a0, x29.a1, x29.a2, x29.a3, x29.a4, x29.a5, x29.a6, x29.a7, x29.a8, x29.a9, x29.a10, x29.a11, x29.a12, x29.a13, x29.a14, x29.a15, x29.a16, x29.a17, x29.a18, x29.a19, x29.a20, x29.a21, x29.a22, x29.a23, x29.a24, x29.a25, x29.a26, x29.a27, x29.a28, x29.a29, x29.a30, x29.a31, x29.a32, x29.a33, x29.a34, x29.a35] (IntKind.wrap .i64 (4 + (IntKind.wrap .i64 (2 * d33.2))))).bind fun x34 =>
      ((idxA 36 [x29.a0, x29.a1, x29.a2, x29.a3, x29.a4, x29.a5, x29.a6, x29.a7, x29.a8, x29.a9, x29.a10, x29.a11, x29.a12, x29.a13, x29.a14, x29.a15, x29.a16, x29.a17, x29.a18, x29.a19, x29.a20, x29.a21, x29.a22, x29.a23, x29.a24, x29.a25, x29.a26, x29.a27, x29.a28, x29.a29, x29.a30, x29.a31, x29.a32, x29.a33, x29.a34, x29.a35] (IntKind.wrap .i64 (5 + (IntKind.wrap .i64 (2 * d33.2))))).bind fun x35 =>
      ((cipher_Round d33.1 x34 x35).bind fun x36 =>
      cipher_Encrypt_L4 x29 a0 a1 n2 (x36, IntKind.wrap .i64 (d33.2 + 1)))))
    else
      some d33.1

def cipher_Encrypt (a0 : A16vu) (a1 : A16vu) : Option A16vu :=
  ((cipher_Schedule a0).bind fun x29 =>
  ((cipher_Words a1).bind fun x30 =>
  ((cipher_mask x30 x29).bind fun x31 =>
  ((
    cipher_Encrypt_L4 x29 a0 a1 big (x31, 0)).bind fun d32 =>
  ((cipher_Join d32).bind fun x37 =>
  some x37)))))

def derive_Mac_L3 (a0 : A16vu) (a1 : (List Int)) : Nat → (A16vu × Int) → Option (A16vu)
  | 0, _ => none
  | n2 + 1, d26 =>
    bif decide (d26.2 < 8) then
      ((chk (decide (¬ (IntKind.wrap .i64 (8 * d26.2)) < 0))).bind fun x27 =>
      ((idxA 16 [d26.1.a0, d26.1.a1, d26.1.a2, d26.1.a3, d26.1.a4, d26.1.a5, d26.1.a6, d26.1.a7, d26.1.a8, d26.1.a9, d26.1.a10, d26.1.a11, d26.1.a12, d26.1.a13, d26.1.a14, d26.1.a15] (IntKind.wrap .i64 (1 + d26.2))).bind fun x28 =>
      derive_Mac_L3 a0 a1 n2 ((d26.1.setA ((IntKind.wrap .i64 (1 + d26.2)).toNat) (IntKind.wrap .u8 (((a1.length : Int)).fdiv (2 ^ (min ((IntKind.wrap .i64 (8 * d26.2))).toNat 64))))), IntKind.wrap .i64 (d26.2 + 1))))
    else
      some d26.1

def derive_Mac_L6 (a1 : (List Int)) (a0 : A16vu) : Nat → (A16vu × Int) → Option (A16vu)
  | 0, _ => none
  | n7 + 1, d31 =>
    bif decide (d31.2 < (a1.length : Int)) then
      ((idx a1 d31.2).bind fun x32 =>
      ((idxA 16 [d31.1.a0, d31.1.a1, d31.1.a2, d31.1.a3, d31.1.a4, d31.1.a5, d31.1.a6, d31.1.a7, d31.1.a8, d31.1.a9, d31.1.a10, d31.1.a11, d31.1.a12, d31.1.a13, d31.1.a14, d31.1.a15] ((d31.2).tmod 16)).bind fun x33 =>
      bif ((((d31.2).tmod 16) == 15) || (d31.2 == (IntKind.wrap .i64 ((a1.length : Int) - 1)))) then
        ((cipher_Encrypt a0 (d31.1.setA (((d31.2).tmod 16).toNat) (bxor .u8 x33 x32))).bind fun x34 =>
        derive_Mac_L6 a1 a0 n7 (x34, IntKind.wrap .i64 (d31.2 + 1)))
      else
        derive_Mac_L6 a1 a0 n7 ((d31.1.setA (((d31.2).tmod 16).toNat) (bxor .u8 x33 x32)), IntKind.wrap .i64 (d31.2 + 1))))
    else
      some d31.1

def derive_Mac (a0 : A16vu) (a1 : (List Int)) : Option A16vu :=
  ((
    derive_Mac_L3 a0 a1 big ({ A16vu.z with a0 := 3 }, 0)).bind fun d25 =>
  ((cipher_Encrypt a0 d25).bind fun x29 =>
  ((
    derive_Mac_L6 a1 a0 big (x29, 0)).bind fun d30 =>
  some d30)))

def derive_Expand_L2 (a2 : Int) (a1 : (List Int)) (a0 : A16vu) : Nat → (List Int × Int) → Option ((List Int))
  | 0, _ => none
  | n6 + 1, d21 =>
    bif decide ((((d21.1).length : Nat) : Int) < a2) then
      ((derive_Input a1 d21.2).bind fun x22 =>
      ((derive_Mac a0 x22).bind fun x23 =>
      ((chk (decide (d21.1.length + 16 ≤ 140737488355328))).bind fun x24 =>
      derive_Expand_L2 a2 a1 a0 n6 ((d21.1 ++ [x23.a0, x23.a1, x23.a2, x23.a3, x23.a4, x23.a5, x23.a6, x23.a7, x23.a8, x23.a9, x23.a10, x23.a11, x23.a12, x23.a13, x23.a14, x23.a15]), IntKind.wrap .i64 (d21.2 + 1)))))
    else
      some d21.1

def derive_Expand (a0 : A16vu) (a1 : (List Int)) (a2 : Int) : Option ((List Int) × Int) :=
  bif decide (a2 < 0) then
    some ([], 2)
  else
    bif ((decide (256 < (a1.length : Int))) || (decide (1024 < a2))) then
      some ([], 4)
    else
      ((
        derive_Expand_L2 a2 a1 a0 big ([], 0)).bind fun d20 =>
      ((chk (decide (0 ≤ a2) && decide (a2 ≤ a2) && decide (a2 ≤ ((d20).length : Int)))).bind fun x25 =>
      some ((List.take ((a2).toNat) d20), 0)))

def auth_get_L2 (a0 : (List Int)) : Nat → (Int × Int) → Option (Int)
  | 0, _ => none
  | n2 + 1, d28 =>
    bif decide (d28.2 < 8) then
      ((idx a0 d28.2).bind fun x29 =>
      ((chk (decide (¬ (IntKind.wrap .i64 (8 * d28.2)) < 0))).bind fun x30 =>
      auth_get_L2 a0 n2 (bor .u64 d28.1 (IntKind.wrap .u64 ((IntKind.wrap .u64 x29) * 2 ^ (min ((IntKind.wrap .i64 (8 * d28.2))).toNat 64))), IntKind.wrap .i64 (d28.2 + 1))))
    else
      some d28.1

def auth_get (a0 : (List Int)) : Option Int :=
  ((
    auth_get_L2 a0 big (0, 0)).bind fun d27 =>
  some d27)

def auth_Token (a0 : AuthDoor) (a1 : A6vu) : Option Int :=
  ((derive_Expand a0.Secret [a1.a0, a1.a1, a1.a2, a1.a3, a1.a4, a1.a5] 8).bind fun x20 =>
  ((auth_get x20.1).bind fun x21 =>
  some x21))

def auth_put_2_L2 (a0 : Int) : Nat → (List Int × Int) → Option ((List Int))
  | 0, _ => none
  | n2 + 1, d31 =>
    bif decide (d31.2 < 8) then
      ((chk (decide (¬ (IntKind.wrap .i64 (8 * d31.2)) < 0))).bind fun x32 =>
      ((chk (decide ((d31.1).length + 1 ≤ 140737488355328))).bind fun x33 =>
      auth_put_2_L2 a0 n2 ((d31.1 ++ [IntKind.wrap .u8 ((a0).fdiv (2 ^ (min ((IntKind.wrap .i64 (8 * d31.2))).toNat 64)))]), IntKind.wrap .i64 (d31.2 + 1))))
    else
      some d31.1

def auth_put_2 (a0 : Int) (a1 : List Int) : Option (List Int) :=
  ((
    auth_put_2_L2 a0 big (a1, 0)).bind fun d30 =>
  some d30)

def auth_numbers_L2 (a0 : (List Int)) : Nat → (List Int × Int) → Option ((List Int))
  | 0, _ => none
  | n2 + 1, d29 =>
    bif decide (d29.2 < (a0.length : Int)) then
      ((idx a0 d29.2).bind fun x30 =>
      ((auth_put_2 x30 d29.1).bind fun x31 =>
      auth_numbers_L2 a0 n2 (x31, IntKind.wrap .i64 (d29.2 + 1))))
    else
      some d29.1

def auth_numbers (a0 : (List Int)) : Option (List Int) :=
  ((
    auth_numbers_L2 a0 big ([], 0)).bind fun d28 =>
  some d28)

def auth_Admit (a0 : AuthDoor) (a1 : A6vu) (a2 : (List Int)) : Option (AuthDoor × (List Int) × Int) :=
  ((auth_CheckDoor a0).bind fun x2 =>
  bif (x2 != 0) then
    some (AuthDoor.z, [], x2)
  else
    ((auth_shaped a2).bind fun x3 =>
    bif (x3 != 0) then
      some (AuthDoor.z, [], x3)
    else
      ((idx a2 0).bind fun x4 =>
      bif (x4 != 1) then
        some (AuthDoor.z, [], 12)
      else
        ((slices_Clone_api_Addr_api_Addr a0.Open).bind fun x5 =>
        ((auth_Token { a0 with Open := x5 } a1).bind fun x6 =>
        ((
          bif ((a2.length : Int) == 26) then
            ((chk (decide (18 ≤ (a2.length : Int)))).bind fun x7 =>
            ((auth_get (List.drop 18 a2)).bind fun x8 =>
            some (x8 == x6)))
          else
            some false).bind fun x9 =>
        ((slices_Contains_api_Addr_api_Addr x5 a1).bind fun x10 =>
        bif x10 then
          some ({ a0 with Open := x5 }, [], 0)
        else
          bif ((decide (((x5.length : Nat) : Int) < 8)) || (x9 && (decide (((x5.length : Nat) : Int) < 16)))) then
            ((chk (decide ((x5.length + 1) * 6 ≤ 140737488355328))).bind fun x11 =>
            some ({ a0 with Open := (x5 ++ [a1]) }, [], 0))
          else
            bif (((x5.length : Nat) : Int) == 16) then
              some (AuthDoor.z, [], 22)
            else
              ((auth_numbers [x6]).bind fun x12 =>
              ((chk (decide (1 + x12.length ≤ 140737488355328))).bind fun x13 =>
              some ({ a0 with Open := x5 }, ([3] ++ x12), 0))))))))))

def hotspotref29_in_L2 (a0 : (List A6vu)) (a1 : A6vu) : Nat → Int → Option (Ex Int Unit)
  | 0, _ => none
  | n2 + 1, d20 =>
    bif decide (d20 < (a0.length : Int)) then
      ((idx a0 d20).bind fun x21 =>
      bif decide (x21 = a1) then
        some (Ex.ret d20)
      else
        hotspotref29_in_L2 a0 a1 n2 (IntKind.wrap .i64 (d20 + 1)))
    else
      some (Ex.go ())

def hotspotref29_in (a0 : (List A6vu)) (a1 : A6vu) : Option Int :=
  ((
    hotspotref29_in_L2 a0 a1 big 0).bind fun o19 =>
  (o19.k fun d18 =>
  some (-1)))

def hotspotref29_CheckDoor_L2 (a0 : AuthDoor) : Nat → Int → Option (Ex Int Unit)
  | 0, _ => none
  | n3 + 1, d17 =>
    bif decide (d17 < (a0.Open.length : Int)) then
      ((chk (decide (0 ≤ d17) && decide (d17 ≤ (a0.Open.length : Int)))).bind fun x18 =>
      ((idx a0.Open d17).bind fun x19 =>
      ((hotspotref29_in (List.take ((d17).toNat) a0.Open) x19).bind fun x20 =>
      bif decide (0 ≤ x20) then
        some (Ex.ret 8)
      else
        hotspotref29_CheckDoor_L2 a0 n3 (IntKind.wrap .i64 (d17 + 1)))))
    else
      some (Ex.go ())

def hotspotref29_CheckDoor (a0 : AuthDoor) : Option Int :=
  bif decide (16 < (a0.Open.length : Int)) then
    some 8
  else
    ((
      hotspotref29_CheckDoor_L2 a0 big 0).bind fun o16 =>
    (o16.k fun d15 =>
    some 0))

def hotspotref29_form (a0 : (List Int)) : Option (Int × Int) :=
  bif ((a0.length : Int) == 0) then
    some (0, 10)
  else
    ((
      bif ((a0.length : Int) == 18) then
        ((idx a0 17).bind fun x22 =>
        some (x22 == 0))
      else
        some false).bind fun x23 =>
    ((
      bif ((a0.length : Int) == 26) then
        ((idx a0 17).bind fun x24 =>
        some (x24 == 8))
      else
        some false).bind fun x25 =>
    ((idx a0 0).bind fun x26 =>
    bif ((((x26 == 1) && (x23 || x25)) || ((x26 == 2) && ((a0.length : Int) == 19))) || ((x26 == 3) && ((a0.length : Int) == 9))) then
      some (IntKind.wrap .i64 x26, 0)
    else
      some (0, 12))))

def hotspotref29_Number_L2 (a0 : (List Int)) : Nat → (Int × Int) → Option (Int)
  | 0, _ => none
  | n2 + 1, d32 =>
    bif decide (0 ≤ d32.2) then
      ((idx a0 d32.2).bind fun x33 =>
      hotspotref29_Number_L2 a0 n2 (IntKind.wrap .u64 ((IntKind.wrap .u64 (256 * d32.1)) + (IntKind.wrap .u64 x33)), IntKind.wrap .i64 (d32.2 - 1)))
    else
      some d32.1

def hotspotref29_Number (a0 : (List Int)) : Option Int :=
  ((
    hotspotref29_Number_L2 a0 big (0, 7)).bind fun d31 =>
  some d31)

def hotspotref23_low_L2 (a1 : Int) : Nat → (Int × List Int × Int) → Option ((List Int))
  | 0, _ => none
  | n2 + 1, d37 =>
    bif decide (d37.2.2 < a1) then
      ((chk (decide ((d37.2.1).length + 1 ≤ 140737488355328))).bind fun x38 =>
      hotspotref23_low_L2 a1 n2 ((d37.1).fdiv (2 ^ (min 8 64)), (d37.2.1 ++ [IntKind.wrap .u8 d37.1]), IntKind.wrap .i64 (d37.2.2 + 1)))
    else
      some d37.2.1

def hotspotref23_low (a0 : Int) (a1 : Int) : Option (List Int) :=
  ((
    hotspotref23_low_L2 a1 big (a0, [], 0)).bind fun d36 =>
  some d36)

def hotspotref23_Input (a0 : (List Int)) (a1 : Int) : Option (List Int) :=
  ((hotspotref23_low 5 1).bind fun x36 =>
  ((chk (decide (x36.length + 5 ≤ 140737488355328))).bind fun x37 =>
  ((hotspotref23_low (a0.length : Int) 2).bind fun x38 =>
  ((chk (decide (x36.length + 5 + x38.length ≤ 140737488355328))).bind fun x39 =>
  ((chk (decide (((x36 ++ [116, 111, 107, 101, 110]) ++ x38).length + a0.length ≤ 140737488355328))).bind fun x40 =>
  ((hotspotref23_low a1 2).bind fun x41 =>
  ((chk (decide (((x36 ++ [116, 111, 107, 101, 110]) ++ x38).length + a0.length + x41.length ≤ 140737488355328))).bind fun x42 =>
  some ((((x36 ++ [116, 111, 107, 101, 110]) ++ x38) ++ a0) ++ x41))))))))

def hotspotref21_word (a0 : Int) (a1 : Int) (a2 : Int) (a3 : Int) : Option Int :=
  some (IntKind.wrap .u32 ((IntKind.wrap .u32 ((IntKind.wrap .u32 ((IntKind.wrap .u32 a0) + (IntKind.wrap .u32 (256 * (IntKind.wrap .u32 a1))))) + (IntKind.wrap .u32 (65536 * (IntKind.wrap .u32 a2))))) + (IntKind.wrap .u32 (16777216 * (IntKind.wrap .u32 a3)))))

def hotspotref21_Words_L2 (a0 : A16vu) : Nat → (A4vw × Int) → Option (A4vw)
  | 0, _ => none
  | n2 + 1, d52 =>
    bif decide (d52.2 < 4) then
      ((idxA 16 [a0.a0, a0.a1, a0.a2, a0.a3, a0.a4, a0.a5, a0.a6, a0.a7, a0.a8, a0.a9, a0.a10, a0.a11, a0.a12, a0.a13, a0.a14, a0.a15] (IntKind.wrap .i64 (4 * d52.2))).bind fun x53 =>
      ((idxA 16 [a0.a0, a0.a1, a0.a2, a0.a3, a0.a4, a0.a5, a0.a6, a0.a7, a0.a8, a0.a9, a0.a10, a0.a11, a0.a12, a0.a13, a0.a14, a0.a15] (IntKind.wrap .i64 ((IntKind.wrap .i64 (4 * d52.2)) + 1))).bind fun x54 =>
      ((idxA 16 [a0.a0, a0.a1, a0.a2, a0.a3, a0.a4, a0.a5, a0.a6, a0.a7, a0.a8, a0.a9, a0.a10, a0.a11, a0.a12, a0.a13, a0.a14, a0.a15] (IntKind.wrap .i64 ((IntKind.wrap .i64 (4 * d52.2)) + 2))).bind fun x55 =>
      ((idxA 16 [a0.a0, a0.a1, a0.a2, a0.a3, a0.a4, a0.a5, a0.a6, a0.a7, a0.a8, a0.a9, a0.a10, a0.a11, a0.a12, a0.a13, a0.a14, a0.a15] (IntKind.wrap .i64 ((IntKind.wrap .i64 (4 * d52.2)) + 3))).bind fun x56 =>
      ((hotspotref21_word x53 x54 x55 x56).bind fun x57 =>
      ((idxA 4 [d52.1.a0, d52.1.a1, d52.1.a2, d52.1.a3] d52.2).bind fun x58 =>
      hotspotref21_Words_L2 a0 n2 ((d52.1.setA ((d52.2).toNat) x57), IntKind.wrap .i64 (d52.2 + 1))))))))
    else
      some d52.1

def hotspotref21_Words (a0 : A16vu) : Option A4vw :=
  ((
    hotspotref21_Words_L2 a0 big (A4vw.z, 0)).bind fun d51 =>
  some d51)

def hotspotref21_Left (a0 : Int) (a1 : Int) : Option Int :=
  ((chk (decide (¬ (IntKind.wrap .u64 a1) < 0))).bind fun x65 =>
  ((chk (decide (¬ (IntKind.wrap .u64 (IntKind.wrap .i64 (32 - a1))) < 0))).bind fun x66 =>
  some (IntKind.wrap .u32 ((IntKind.wrap .u32 (a0 * 2 ^ (min ((IntKind.wrap .u64 a1)).toNat 32))) + ((a0).fdiv (2 ^ (min ((IntKind.wrap .u64 (IntKind.wrap .i64 (32 - a1)))).toNat 32)))))))

def hotspotref21_Schedule_L3 (x51 : A4vw) (a0 : A16vu) : Nat → (A36vw × Int) → Option (A36vw)
  | 0, _ => none
  | n2 + 1, d53 =>
    bif decide (d53.2 < 36) then
      bif decide (d53.2 < 4) then
        ((idxA 4 [x51.a0, x51.a1, x51.a2, x51.a3] d53.2).bind fun x54 =>
        ((idxA 36 [d53.1.a0, d53.1.a1, d53.1.a2, d53.1.a3, d53.1.a4, d53.1.a5, d53.1.a6, d53.1.a7, d53.1.a8, d53.1.a9, d53.1.a10, d53.1.a11, d53.1.a12, d53.1.a13, d53.1.a14, d53.1.a15, d53.1.a16, d53.1.a17, d53.1.a18, d53.1.a19, d53.1.a20, d53.1.a21, d53.1.a22, d53.1.a23, d53.1.a24, d53.1.a25, d53.1.a26, d53.1.a27, d53.1.a28, d53.1.a29, d53.1.a30, d53.1.a31, d53.1.a32, d53.1.a33, d53.1.a34, d53.1.a35] d53.2).bind fun x55 =>
        hotspotref21_Schedule_L3 x51 a0 n2 ((d53.1.setA ((d53.2).toNat) x54), IntKind.wrap .i64 (d53.2 + 1))))
      else
        ((idxA 36 [d53.1.a0, d53.1.a1, d53.1.a2, d53.1.a3, d53.1.a4, d53.1.a5, d53.1.a6, d53.1.a7, d53.1.a8, d53.1.a9, d53.1.a10, d53.1.a11, d53.1.a12, d53.1.a13, d53.1.a14, d53.1.a15, d53.1.a16, d53.1.a17, d53.1.a18, d53.1.a19, d53.1.a20, d53.1.a21, d53.1.a22, d53.1.a23, d53.1.a24, d53.1.a25, d53.1.a26, d53.1.a27, d53.1.a28, d53.1.a29, d53.1.a30, d53.1.a31, d53.1.a32, d53.1.a33, d53.1.a34, d53.1.a35] (IntKind.wrap .i64 (d53.2 - 4))).bind fun x56 =>
        ((idxA 36 [d53.1.a0, d53.1.a1, d53.1.a2, d53.1.a3, d53.1.a4, d53.1.a5, d53.1.a6, d53.1.a7, d53.1.a8, d53.1.a9, d53.1.a10, d53.1.a11, d53.1.a12, d53.1.a13, d53.1.a14, d53.1.a15, d53.1.a16, d53.1.a17, d53.1.a18, d53.1.a19, d53.1.a20, d53.1.a21, d53.1.a22, d53.1.a23, d53.1.a24, d53.1.a25, d53.1.a26, d53.1.a27, d53.1.a28, d53.1.a29, d53.1.a30, d53.1.a31, d53.1.a32, d53.1.a33, d53.1.a34, d53.1.a35] (IntKind.wrap .i64 (d53.2 - 1))).bind fun x57 =>
        ((hotspotref21_Left x57 7).bind fun x58 =>
        ((idxA 36 [d53.1.a0, d53.1.a1, d53.1.a2, d53.1.a3, d53.1.a4, d53.1.a5, d53.1.a6, d53.1.a7, d53.1.a8, d53.1.a9, d53.1.a10, d53.1.a11, d53.1.a12, d53.1.a13, d53.1.a14, d53.1.a15, d53.1.a16, d53.1.a17, d53.1.a18, d53.1.a19, d53.1.a20, d53.1.a21, d53.1.a22, d53.1.a23, d53.1.a24, d53.1.a25, d53.1.a26, d53.1.a27, d53.1.a28, d53.1.a29, d53.1.a30, d53.1.a31, d53.1.a32, d53.1.a33, d53.1.a34, d53.1.a35] d53.2).bind fun x59 =>
        hotspotref21_Schedule_L3 x51 a0 n2 ((d53.1.setA ((d53.2).toNat) (IntKind.wrap .u32 (x56 + (bxor .u32 x58 (IntKind.wrap .u32 ((IntKind.wrap .u32 ((IntKind.wrap .u32 d53.2) * 2050759141)) + 525043411)))))), IntKind.wrap .i64 (d53.2 + 1))))))
    else
      some d53.1

def hotspotref21_Schedule (a0 : A16vu) : Option A36vw :=
  ((hotspotref21_Words a0).bind fun x51 =>
  ((
    hotspotref21_Schedule_L3 x51 a0 big (A36vw.z, 0)).bind fun d52 =>
  some d52))

def hotspotref21_Round (a0 : A4vw) (a1 : Int) (a2 : Int) : Option A4vw :=
  ((hotspotref21_Left a0.a1 5).bind fun x69 =>
  ((hotspotref21_Left a0.a3 9).bind fun x70 =>
  ((hotspotref21_Left (IntKind.wrap .u32 ((IntKind.wrap .u32 (a0.a2 + (bxor .u32 x70 a2))) + a1)) 13).bind fun x71 =>
  ((hotspotref21_Left (IntKind.wrap .u32 ((IntKind.wrap .u32 (a0.a0 + (bxor .u32 x69 a1))) + a2)) 19).bind fun x72 =>
  some { A4vw.z with a0 := bxor .u32 a0.a1 x71, a1 := IntKind.wrap .u32 (a0.a2 + (bxor .u32 x70 a2)), a2 := bxor .u32 a0.a3 x72, a3 := IntKind.wrap .u32 (a0.a0 + (bxor .u32 x69 a1)) }))))

def hotspotref21_Join_L6 (a0 : A4vw) (d72 : (A16vu × Int)) : Nat → (A16vu × Int × Int) → Option (A16vu)
  | 0, _ => none
  | n7 + 1, d76 =>
    bif decide (d76.2.2 < 4) then
      ((idxA 16 [d76.1.a0, d76.1.a1, d76.1.a2, d76.1.a3, d76.1.a4, d76.1.a5, d76.1.a6, d76.1.a7, d76.1.a8, d76.1.a9, d76.1.a10, d76.1.a11, d76.1.a12, d76.1.a13, d76.1.a14, d76.1.a15] (IntKind.wrap .i64 ((IntKind.wrap .i64 (4 * d72.2)) + d76.2.2))).bind fun x77 =>
      hotspotref21_Join_L6 a0 d72 n7 ((d76.1.setA ((IntKind.wrap .i64 ((IntKind.wrap .i64 (4 * d72.2)) + d76.2.2)).toNat) (IntKind.wrap .u8 ((d76.2.1).tmod 256))), IntKind.wrap .u32 ((d76.2.1).tdiv 256), IntKind.wrap .i64 (d76.2.2 + 1)))
    else
      some d76.1

def hotspotref21_Join_L2 (a0 : A4vw) : Nat → (A16vu × Int) → Option (A16vu)
  | 0, _ => none
  | n2 + 1, d72 =>
    bif decide (d72.2 < 4) then
      ((
        ((idxA 4 [a0.a0, a0.a1, a0.a2, a0.a3] d72.2).bind fun x74 =>
        ((
          hotspotref21_Join_L6 a0 d72 big (d72.1, x74, 0)).bind fun d75 =>
        some d75))).bind fun d73 =>
      hotspotref21_Join_L2 a0 n2 (d73, IntKind.wrap .i64 (d72.2 + 1)))
    else
      some d72.1

def hotspotref21_Join (a0 : A4vw) : Option A16vu :=
  ((
    hotspotref21_Join_L2 a0 big (A16vu.z, 0)).bind fun d71 =>
  some d71)

def hotspotref21_Encrypt_L3 (a0 : A16vu) (a1 : A16vu) (x51 : A36vw) : Nat → (A4vw × Int) → Option (A4vw)
  | 0, _ => none
  | n2 + 1, d54 =>
    bif decide (d54.2 < 4) then
      ((idxA 4 [d54.1.a0, d54.1.a1, d54.1.a2, d54.1.a3] d54.2).bind fun x55 =>
      ((idxA 36 [x51.a0, x51.a1, x51.a2, x51.a3, x51.a4, x51.a5, x51.a6, x51.a7, x51.a8, x51.a9, x51.a10, x51.a11, x51.a12, x51.a13, x51.a14, x51.a15, x51.a16, x51.a17, x51.a18, x51.a19, x51.a20, x51.a21, x51.a22, x51.a23, x51.a24, x51.a25, x51.a26, x51.a27, x51.a28, x51.a29, x51.a30, x51.a31, x51.a32, x51.a33, x51.a34, x51.a35] d54.2).bind fun x56 =>
      hotspotref21_Encrypt_L3 a0 a1 x51 n2 ((d54.1.setA ((d54.2).toNat) (bxor .u32 x55 x56)), IntKind.wrap .i64 (d54.2 + 1))))
    else
      some d54.1

def hotspotref21_Encrypt_L6 (x51 : A36vw) (a0 : A16vu) (a1 : A16vu) : Nat → (A4vw × Int) → Option (A4vw)
  | 0, _ => none
  | n7 + 1, d58 =>
    bif decide (d58.2 < 16) then
      ((idxA 36 [x51.a0, x51.a1, x51.a2, x51.a3, x51.a4, x51.a5, x51.a6, x51.a7, x51.a8, x51.a9, x51.a10, x51.a11, x51.a12, x51.a13, x51.a14, x51.a15, x51.a16, x51.a17, x51.a18, x51.a19, x51.a20, x51.a21, x51.a22, x51.a23, x51.a24, x51.a25, x51.a26, x51.a27, x51.a28, x51.a29, x51.a30, x51.a31, x51.a32, x51.a33, x51.a34, x51.a35] (IntKind.wrap .i64 (4 + (IntKind.wrap .i64 (2 * d58.2))))).bind fun x59 =>
      ((idxA 36 [x51.a0, x51.a1, x51.a2, x51.a3, x51.a4, x51.a5, x51.a6, x51.a7, x51.a8, x51.a9, x51.a10, x51.a11, x51.a12, x51.a13, x51.a14, x51.a15, x51.a16, x51.a17, x51.a18, x51.a19, x51.a20, x51.a21, x51.a22, x51.a23, x51.a24, x51.a25, x51.a26, x51.a27, x51.a28, x51.a29, x51.a30, x51.a31, x51.a32, x51.a33, x51.a34, x51.a35] (IntKind.wrap .i64 (5 + (IntKind.wrap .i64 (2 * d58.2))))).bind fun x60 =>
      ((hotspotref21_Round d58.1 x59 x60).bind fun x61 =>
      hotspotref21_Encrypt_L6 x51 a0 a1 n7 (x61, IntKind.wrap .i64 (d58.2 + 1)))))
    else
      some d58.1

def hotspotref21_Encrypt (a0 : A16vu) (a1 : A16vu) : Option A16vu :=
  ((hotspotref21_Schedule a0).bind fun x51 =>
  ((hotspotref21_Words a1).bind fun x52 =>
  ((
    hotspotref21_Encrypt_L3 a0 a1 x51 big (x52, 0)).bind fun d53 =>
  ((
    hotspotref21_Encrypt_L6 x51 a0 a1 big (d53, 0)).bind fun d57 =>
  ((hotspotref21_Join d57).bind fun x62 =>
  some x62)))))

def hotspotref23_Mac_L3 (a0 : A16vu) (a1 : (List Int)) : Nat → (A16vu × Int × Int) → Option (A16vu)
  | 0, _ => none
  | n2 + 1, d45 =>
    bif decide (d45.2.2 ≤ 8) then
      ((idxA 16 [d45.1.a0, d45.1.a1, d45.1.a2, d45.1.a3, d45.1.a4, d45.1.a5, d45.1.a6, d45.1.a7, d45.1.a8, d45.1.a9, d45.1.a10, d45.1.a11, d45.1.a12, d45.1.a13, d45.1.a14, d45.1.a15] d45.2.2).bind fun x46 =>
      hotspotref23_Mac_L3 a0 a1 n2 ((d45.1.setA ((d45.2.2).toNat) (IntKind.wrap .u8 ((d45.2.1).tmod 256))), IntKind.wrap .i64 ((d45.2.1).tdiv 256), IntKind.wrap .i64 (d45.2.2 + 1)))
    else
      some d45.1

def hotspotref23_Mac_L6 : Nat → (List Int) → Option ((List Int))
  | 0, _ => none
  | n7 + 1, d49 =>
    bif ((((((d49).length : Nat) : Int)).tmod 16) != 0) then
      ((chk (decide ((d49).length + 1 ≤ 140737488355328))).bind fun x50 =>
      hotspotref23_Mac_L6 n7 (d49 ++ [0]))
    else
      some d49

def hotspotref23_Mac_L13 (a0 : A16vu) (a1 : (List Int)) (d48 : (List Int)) (d53 : (A16vu × Int)) : Nat → (A16vu × Int) → Option (A16vu)
  | 0, _ => none
  | n16 + 1, d56 =>
    bif decide (d56.2 < 16) then
      ((idxA 16 [d56.1.a0, d56.1.a1, d56.1.a2, d56.1.a3, d56.1.a4, d56.1.a5, d56.1.a6, d56.1.a7, d56.1.a8, d56.1.a9, d56.1.a10, d56.1.a11, d56.1.a12, d56.1.a13, d56.1.a14, d56.1.a15] d56.2).bind fun x57 =>
      ((idx d48 (IntKind.wrap .i64 (d53.2 + d56.2))).bind fun x58 =>
      hotspotref23_Mac_L13 a0 a1 d48 d53 n16 ((d56.1.setA ((d56.2).toNat) (bxor .u8 x57 x58)), IntKind.wrap .i64 (d56.2 + 1))))
    else
      some d56.1

def hotspotref23_Mac_L9 (d48 : (List Int)) (a0 : A16vu) (a1 : (List Int)) : Nat → (A16vu × Int) → Option (A16vu)
  | 0, _ => none
  | n11 + 1, d53 =>
    bif decide (d53.2 < ((d48.length : Nat) : Int)) then
      ((
        ((
          hotspotref23_Mac_L13 a0 a1 d48 d53 big (d53.1, 0)).bind fun d55 =>
        ((hotspotref21_Encrypt a0 d55).bind fun x59 =>
        some x59))).bind fun d54 =>
      hotspotref23_Mac_L9 d48 a0 a1 n11 (d54, IntKind.wrap .i64 (d53.2 + 16)))
    else
      some d53.1

def hotspotref23_Mac (a0 : A16vu) (a1 : (List Int)) : Option A16vu :=
  ((
    hotspotref23_Mac_L3 a0 a1 big ({ A16vu.z with a0 := 3 }, (a1.length : Int), 1)).bind fun d44 =>
  ((chk (decide (a1.length ≤ 140737488355328))).bind fun x47 =>
  ((
    hotspotref23_Mac_L6 big a1).bind fun d48 =>
  ((hotspotref21_Encrypt a0 d44).bind fun x51 =>
  ((
    hotspotref23_Mac_L9 d48 a0 a1 big (x51, 0)).bind fun d52 =>
  some d52)))))

def hotspotref23_Derived_L2 (a2 : Int) (a1 : (List Int)) (a0 : A16vu) : Nat → (List Int × Int) → Option ((List Int))
  | 0, _ => none
  | n2 + 1, d36 =>
    bif decide (d36.2 < a2) then
      ((hotspotref23_Input a1 (IntKind.wrap .i64 ((d36.2).tdiv 16))).bind fun x37 =>
      ((hotspotref23_Mac a0 x37).bind fun x38 =>
      ((idxA 16 [x38.a0, x38.a1, x38.a2, x38.a3, x38.a4, x38.a5, x38.a6, x38.a7, x38.a8, x38.a9, x38.a10, x38.a11, x38.a12, x38.a13, x38.a14, x38.a15] ((d36.2).tmod 16)).bind fun x39 =>
      ((chk (decide (d36.1.length + 1 ≤ 140737488355328))).bind fun x40 =>
      hotspotref23_Derived_L2 a2 a1 a0 n2 ((d36.1 ++ [x39]), IntKind.wrap .i64 (d36.2 + 1))))))
    else
      some d36.1

def hotspotref23_Derived (a0 : A16vu) (a1 : (List Int)) (a2 : Int) : Option (List Int) :=
  ((
    hotspotref23_Derived_L2 a2 a1 a0 big (([] : List Int), 0)).bind fun d35 =>
  some d35)

def hotspotref29_Token (a0 : AuthDoor) (a1 : A6vu) : Option Int :=
  ((hotspotref23_Derived a0.Secret [a1.a0, a1.a1, a1.a2, a1.a3, a1.a4, a1.a5] 8).bind fun x35 =>
  ((hotspotref29_Number x35).bind fun x36 =>
  some x36))

def hotspotref29_Eight_L2 : Nat → (Int × List Int × Int) → Option ((List Int))
  | 0, _ => none
  | n2 + 1, d43 =>
    bif decide (d43.2.2 < 8) then
      ((chk (decide ((d43.2.1).length + 1 ≤ 140737488355328))).bind fun x44 =>
      hotspotref29_Eight_L2 n2 (IntKind.wrap .u64 ((d43.1).tdiv 256), (d43.2.1 ++ [IntKind.wrap .u8 ((d43.1).tmod 256)]), IntKind.wrap .i64 (d43.2.2 + 1)))
    else
      some d43.2.1

def hotspotref29_Eight (a0 : Int) : Option (List Int) :=
  ((
    hotspotref29_Eight_L2 big (a0, [], 0)).bind fun d42 =>
  some d42)

def hotspotref29_Admit (a0 : AuthDoor) (a1 : A6vu) (a2 : (List Int)) : Option (AuthDoor × (List Int) × Int) :=
  ((hotspotref29_CheckDoor a0).bind fun x15 =>
  bif (x15 != 0) then
    some (AuthDoor.z, [], 8)
  else
    ((hotspotref29_form a2).bind fun x16 =>
    ((
      bif ((x16.2 == 0) && (x16.1 != 1)) then
        some 12
      else
        some x16.2).bind fun d17 =>
    bif (d17 != 0) then
      some (AuthDoor.z, [], d17)
    else
      ((hotspotref29_in a0.Open a1).bind fun x18 =>
      bif decide (0 ≤ x18) then
        some (a0, [], 0)
      else
        ((
          bif ((a2.length : Int) == 26) then
            ((chk (decide (18 ≤ (26 : Int)) && decide ((26 : Int) ≤ (a2.length : Int)))).bind fun x19 =>
            ((hotspotref29_Number (List.take 8 (List.drop 18 a2))).bind fun x20 =>
            ((hotspotref29_Token a0 a1).bind fun x21 =>
            some (x20 == x21))))
          else
            some false).bind fun x22 =>
        bif ((decide ((a0.Open.length : Int) < 8)) || ((decide ((a0.Open.length : Int) < 16)) && x22)) then
          ((chk (decide ((a0.Open.length) * 6 ≤ 140737488355328))).bind fun x23 =>
          ((chk (decide ((a0.Open.length + 1) * 6 ≤ 140737488355328))).bind fun x24 =>
          some ({ a0 with Open := (a0.Open ++ [a1]) }, [], 0)))
        else
          bif decide (16 ≤ (a0.Open.length : Int)) then
            some (AuthDoor.z, [], 22)
          else
            ((hotspotref29_Token a0 a1).bind fun x25 =>
            ((hotspotref29_Eight x25).bind fun x26 =>
            ((chk (decide (1 + x26.length ≤ 140737488355328))).bind fun x27 =>
            some (a0, ([3] ++ x26), 0)))))))))

def hotspotref29_SameDoor_L2 (a0 : AuthDoor) (a1 : AuthDoor) : Nat → Int → Option (Ex Bool Unit)
  | 0, _ => none
  | n4 + 1, d31 =>
    bif decide (d31 < (a0.Open.length : Int)) then
      ((idx a0.Open d31).bind fun x32 =>
      ((idx a1.Open d31).bind fun x33 =>
      bif (!decide (x32 = x33)) then
        some (Ex.ret false)
      else
        hotspotref29_SameDoor_L2 a0 a1 n4 (IntKind.wrap .i64 (d31 + 1))))
    else
      some (Ex.go ())

def hotspotref29_SameDoor (a0 : AuthDoor) (a1 : AuthDoor) : Option Bool :=
  bif ((!decide (a0.Secret = a1.Secret)) || ((a0.Open.length : Int) != (a1.Open.length : Int))) then
    some false
  else
    ((
      hotspotref29_SameDoor_L2 a0 a1 big 0).bind fun o30 =>
    (o30.k fun d29 =>
    some true))

def hotspotref22_Same_L2 (a0 : (List Int)) (a1 : (List Int)) : Nat → Int → Option (Ex Bool Unit)
  | 0, _ => none
  | n3 + 1, d37 =>
    bif decide (d37 < (a0.length : Int)) then
      ((idx a0 d37).bind fun x38 =>
      ((idx a1 d37).bind fun x39 =>
      bif (x38 != x39) then
        some (Ex.ret false)
      else
        hotspotref22_Same_L2 a0 a1 n3 (IntKind.wrap .i64 (d37 + 1))))
    else
      some (Ex.go ())

def hotspotref22_Same (a0 : (List Int)) (a1 : (List Int)) : Option Bool :=
  bif ((a0.length : Int) != (a1.length : Int)) then
    some false
  else
    ((
      hotspotref22_Same_L2 a0 a1 big 0).bind fun o36 =>
    (o36.k fun d35 =>
    some true))

def slices_Delete_api_Addr_api_Addr (a0 : Int) (a1 : Int) (a2 : List A6vu) : Option (List A6vu) :=
  ((chk (decide (0 ≤ a0) && decide (a0 ≤ a1) && decide (a1 ≤ ((a2.length : Nat) : Int)))).bind fun x20 =>
  some (a2.take a0.toNat ++ a2.drop a1.toNat))

def auth_Leave (a0 : AuthDoor) (a1 : A6vu) : Option (AuthDoor × Int) :=
  ((auth_CheckDoor a0).bind fun x45 =>
  bif (x45 != 0) then
    some (AuthDoor.z, x45)
  else
    ((slices_Index_api_Addr_api_Addr a0.Open a1).bind fun x46 =>
    bif decide (x46 < 0) then
      some (AuthDoor.z, 6)
    else
      ((slices_Clone_api_Addr_api_Addr a0.Open).bind fun x47 =>
      ((slices_Delete_api_Addr_api_Addr x46 (IntKind.wrap .i64 (x46 + 1)) x47).bind fun x48 =>
      some ({ a0 with Open := x48 }, 0)))))

def hotspotref29_Leave (a0 : AuthDoor) (a1 : A6vu) : Option (AuthDoor × Int) :=
  ((hotspotref29_CheckDoor a0).bind fun x50 =>
  bif (x50 != 0) then
    some (AuthDoor.z, 8)
  else
    ((hotspotref29_in a0.Open a1).bind fun x51 =>
    bif decide (x51 < 0) then
      some (AuthDoor.z, 6)
    else
      ((chk (decide (0 ≤ x51) && decide (x51 ≤ (a0.Open.length : Int)))).bind fun x52 =>
      ((chk (decide (((List.take ((x51).toNat) a0.Open).length) * 6 ≤ 140737488355328))).bind fun x53 =>
      ((chk (decide (0 ≤ IntKind.wrap .i64 (x51 + 1)) && decide (IntKind.wrap .i64 (x51 + 1) ≤ (a0.Open.length : Int)))).bind fun x54 =>
      ((chk (decide (((List.take ((x51).toNat) a0.Open).length + (List.drop ((IntKind.wrap .i64 (x51 + 1)).toNat) a0.Open).length) * 6 ≤ 140737488355328))).bind fun x55 =>
      some ({ a0 with Open := ((List.take ((x51).toNat) a0.Open) ++ (List.drop ((IntKind.wrap .i64 (x51 + 1)).toNat) a0.Open)) }, 0)))))))

def auth_Answer (a0 : (List Int)) : Option ((List Int) × Int) :=
  bif ((a0.length : Int) == 0) then
    some ([], 10)
  else
    ((
      bif decide (1 < (a0.length : Int)) then
        some true
      else
        ((idx a0 0).bind fun x61 =>
        some (x61 != 4))).bind fun x62 =>
    bif x62 then
      some ([], 12)
    else
      some ([5], 0))

def hotspotref29_Answer (a0 : (List Int)) : Option ((List Int) × Int) :=
  bif ((a0.length : Int) == 0) then
    some ([], 10)
  else
    ((
      bif ((a0.length : Int) != 1) then
        some true
      else
        ((idx a0 0).bind fun x64 =>
        some (x64 != 4))).bind fun x65 =>
    bif x65 then
      some ([], 12)
    else
      some ([5], 0))

def hotspotlaw29_AuthDoors_L4 (a0 : AuthDoor) : Nat → (List A6vu × Int) → Option ((List A6vu))
  | 0, _ => none
  | n7 + 1, d8 =>
    bif decide (d8.2 < (((d8.1).length : Nat) : Int)) then
      ((idx d8.1 d8.2).bind fun x9 =>
      hotspotlaw29_AuthDoors_L4 a0 n7 ((d8.1.modify ((d8.2).toNat) fun y => { y with a0 := IntKind.wrap .u8 (x9.a0 + 1) }), IntKind.wrap .i64 (d8.2 + 1)))
    else
      some d8.1

def hotspotlaw29_AuthDoors_L8 (a0 : AuthDoor) : Nat → (List A6vu × Int) → Option (Unit)
  | 0, _ => none
  | n15 + 1, d14 =>
    bif decide (d14.2 < (((d14.1).length : Nat) : Int)) then
      ((idx d14.1 d14.2).bind fun x15 =>
      hotspotlaw29_AuthDoors_L8 a0 n15 ((d14.1.modify ((d14.2).toNat) fun y => { y with a0 := IntKind.wrap .u8 (x15.a0 + 1) }), IntKind.wrap .i64 (d14.2 + 1)))
    else
      some ()

def hotspotlaw29_AuthDoors (a0 : AuthDoor) (a1 : A6vu) (a2 : (List Int)) : Option Bool :=
  bif ((decide (30 < (a0.Open.length : Int))) || (decide (60 < (a2.length : Int)))) then
    some true
  else
    ((chk (decide ((a0.Open.length) * 6 ≤ 140737488355328))).bind fun x1 =>
    ((auth_Admit { AuthDoor.z with Open := a0.Open, Secret := a0.Secret } a1 a2).bind fun x2 =>
    ((hotspotref29_Admit a0 a1 a2).bind fun x3 =>
    ((hotspotref29_SameDoor x2.1 x3.1).bind fun x4 =>
    ((
      bif (!x4) then
        some true
      else
        ((hotspotref22_Same x2.2.1 x3.2.1).bind fun x5 =>
        some (!x5))).bind fun x6 =>
    bif (x6 || (x2.2.2 != x3.2.2)) then
      some false
    else
      ((
        hotspotlaw29_AuthDoors_L4 a0 big (x2.1.Open, 0)).bind fun d7 =>
      ((auth_Leave { AuthDoor.z with Open := a0.Open, Secret := a0.Secret } a1).bind fun x10 =>
      ((hotspotref29_Leave a0 a1).bind fun x11 =>
      ((hotspotref29_SameDoor x10.1 x11.1).bind fun x12 =>
      bif ((!x12) || (x10.2 != x11.2)) then
        some false
      else
        ((
          hotspotlaw29_AuthDoors_L8 a0 big (x10.1.Open, 0)).bind fun d13 =>
        ((auth_Answer a2).bind fun x16 =>
        ((hotspotref29_Answer a2).bind fun x17 =>
        ((hotspotref22_Same x16.1 x17.1).bind fun x18 =>
        ((
          bif (x18 && (x16.2 == x17.2)) then
            ((auth_CheckDoor { AuthDoor.z with Open := a0.Open, Secret := a0.Secret }).bind fun x19 =>
            ((hotspotref29_CheckDoor a0).bind fun x20 =>
            some (x19 == x20)))
          else
            some false).bind fun x21 =>
        ((
          bif x21 then
            ((auth_Token { AuthDoor.z with Open := a0.Open, Secret := a0.Secret } a1).bind fun x22 =>
            ((hotspotref29_Token a0 a1).bind fun x23 =>
            some (x22 == x23)))
          else
            some false).bind fun x24 =>
        ((
          bif x24 then
            ((hotspotref29_SameDoor { AuthDoor.z with Open := a0.Open, Secret := a0.Secret } a0).bind fun x25 =>
            some x25)
          else
            some false).bind fun x26 =>
        some x26))))))))))))))))

end Go.AX.Z.TW

/-! (TWF) -/

namespace Go.AX.Z.TW
open Go.AX Go.Proofs

def tab : List (TypeId × List (Option IntKind)) :=
  [(23, [some .u8, some .u8, some .u8, some .u8, some .u8, some .u8, some .u8, some .u8, some .u8, some .u8, some .u8, some .u8, some .u8, some .u8, some .u8, some .u8]),
   (28, [some .u8, some .u8, some .u8, some .u8, some .u8, some .u8])]

noncomputable def K : Ctx := ⟨Try.prog, fun _ => none, tabK tab⟩

theorem ag105 : agB K.P 105 = some true := by kernel_rfl
theorem ag118 : agB K.P 118 = some false := by kernel_rfl
theorem ag119 : agB K.P 119 = some true := by kernel_rfl
theorem ag121 : agB K.P 121 = some true := by kernel_rfl
theorem ag23 : agB K.P 23 = some true := by kernel_rfl
theorem ag24 : agB K.P 24 = some false := by kernel_rfl
theorem ag26 : agB K.P 26 = some true := by kernel_rfl
theorem ag28 : agB K.P 28 = some true := by kernel_rfl
theorem ag29 : agB K.P 29 = some false := by kernel_rfl
theorem ag47 : agB K.P 47 = some false := by kernel_rfl
theorem ag5 : agB K.P 5 = some false := by kernel_rfl
theorem ar105 : arE K.P 105 = some (16, 5) := by kernel_rfl
theorem ar121 : arE K.P 121 = some (4, 118) := by kernel_rfl
theorem bl105 : bldS K.P 105 = none := by kernel_rfl
theorem bl121 : bldS K.P 121 = none := by kernel_rfl
theorem bl26 : bldS K.P 26 = some [(0, 16), (16, 1)] := by kernel_rfl
theorem by118 : byOf K.P 118 = some 4 := by kernel_rfl
theorem by28 : byOf K.P 28 = some 6 := by kernel_rfl
theorem by29 : byOf K.P 29 = some 24 := by kernel_rfl
theorem by47 : byOf K.P 47 = some 8 := by kernel_rfl
theorem by5 : byOf K.P 5 = some 1 := by kernel_rfl
theorem ek23 : K.eqk 23 = some [some .u8, some .u8, some .u8, some .u8, some .u8, some .u8, some .u8, some .u8, some .u8, some .u8, some .u8, some .u8, some .u8, some .u8, some .u8, some .u8] := by kernel_rfl
theorem ek28 : K.eqk 28 = some [some .u8, some .u8, some .u8, some .u8, some .u8, some .u8] := by kernel_rfl
theorem el103 : elS K.P 103 = some 47 := by kernel_rfl
theorem el129 : elS K.P 129 = some 118 := by kernel_rfl
theorem el24 : elS K.P 24 = some 28 := by kernel_rfl
theorem el29 : elS K.P 29 = some 5 := by kernel_rfl
theorem el70 : elS K.P 70 = some 29 := by kernel_rfl
theorem fl26_0 : flE K.P 26 0 = some (0, 23) := by kernel_rfl
theorem fl26_1 : flE K.P 26 1 = some (16, 24) := by kernel_rfl
theorem in118 : inK K.P 118 = some .u32 := by kernel_rfl
theorem in3 : inK K.P 3 = some .i64 := by kernel_rfl
theorem in47 : inK K.P 47 = some .u64 := by kernel_rfl
theorem in5 : inK K.P 5 = some .u8 := by kernel_rfl
theorem in99 : inK K.P 99 = some .u64 := by kernel_rfl
theorem ni29 : inK K.P 29 = none := by kernel_rfl
theorem sz105 : szOf K.P 105 = some 16 := by kernel_rfl
theorem sz118 : szOf K.P 118 = some 1 := by kernel_rfl
theorem sz119 : szOf K.P 119 = some 36 := by kernel_rfl
theorem sz121 : szOf K.P 121 = some 4 := by kernel_rfl
theorem sz23 : szOf K.P 23 = some 16 := by kernel_rfl
theorem sz24 : szOf K.P 24 = some 1 := by kernel_rfl
theorem sz26 : szOf K.P 26 = some 17 := by kernel_rfl
theorem sz28 : szOf K.P 28 = some 6 := by kernel_rfl
theorem sz29 : szOf K.P 29 = some 1 := by kernel_rfl
theorem sz47 : szOf K.P 47 = some 1 := by kernel_rfl
theorem sz5 : szOf K.P 5 = some 1 := by kernel_rfl
theorem un103 : K.P.underlying 103 = some (.slice 47) := by kernel_rfl
theorem un105 : K.P.underlying 105 = some (.array 16 5) := by kernel_rfl
theorem un118 : K.P.underlying 118 = some (.int .u32) := by kernel_rfl
theorem un119 : K.P.underlying 119 = some (.array 36 118) := by kernel_rfl
theorem un121 : K.P.underlying 121 = some (.array 4 118) := by kernel_rfl
theorem un129 : K.P.underlying 129 = some (.slice 118) := by kernel_rfl
theorem un24 : K.P.underlying 24 = some (.slice 28) := by kernel_rfl
theorem un28 : K.P.underlying 28 = some (.array 6 5) := by kernel_rfl
theorem un29 : K.P.underlying 29 = some (.slice 5) := by kernel_rfl
theorem un3 : K.P.underlying 3 = some (.int .i64) := by kernel_rfl
theorem un47 : K.P.underlying 47 = some (.int .u64) := by kernel_rfl
theorem un5 : K.P.underlying 5 = some (.int .u8) := by kernel_rfl
theorem un70 : K.P.underlying 70 = some (.slice 29) := by kernel_rfl
theorem un9 : K.P.underlying 9 = some .string := by kernel_rfl
theorem ze105 : zer K.P 105 = some (e_A16vu A16vu.z) := by kernel_rfl
theorem ze118 : zer K.P 118 = some [.v (.int .u32 0)] := by kernel_rfl
theorem ze119 : zer K.P 119 = some (e_A36vw A36vw.z) := by kernel_rfl
theorem ze121 : zer K.P 121 = some (e_A4vw A4vw.z) := by kernel_rfl
theorem ze26 : zer K.P 26 = some (e_AuthDoor AuthDoor.z vnil) := by kernel_rfl
theorem ze28 : zer K.P 28 = some (e_A6vu A6vu.z) := by kernel_rfl
theorem ze29 : zer K.P 29 = some [.v (.slice none 0 0)] := by kernel_rfl
theorem ze47 : zer K.P 47 = some [.v (.int .u64 0)] := by kernel_rfl
theorem ze5 : zer K.P 5 = some [.v (.int .u8 0)] := by kernel_rfl
attribute [go_sem] ag105 ag118 ag119 ag121 ag23 ag24 ag26 ag28 ag29 ag47 ag5 ar105 ar121 bl105 bl121 bl26 by118 by28 by29 by47 by5 ek23 ek28 el103 el129 el24 el29 el70 fl26_0 fl26_1 in118 in3 in47 in5 in99 ni29 sz105 sz118 sz119 sz121 sz23 sz24 sz26 sz28 sz29 sz47 sz5 un103 un105 un118 un119 un121 un129 un24 un28 un29 un3 un47 un5 un70 un9 ze105 ze118 ze119 ze121 ze26 ze28 ze29 ze47 ze5
theorem mixed : K.P.follows .mixedOrders = true := by kernel_rfl
theorem hC : COk K := ⟨EqOk.of_tab (tab := tab) rfl (by kernel_rfl), mixed⟩
theorem rs42 : Try.f42.results = #[.tmp 4] := rfl
theorem rs36 : Try.f36.results = #[.tmp 4] := rfl
theorem rs16 : Try.f16.results = #[.tmp 2] := rfl
theorem rs33 : Try.f33.results = #[.tmp 2] := rfl
theorem rs34 : Try.f34.results = #[.tmp 2] := rfl
theorem rs75 : Try.f75.results = #[.tmp 2] := rfl
theorem rs74 : Try.f74.results = #[.tmp 2] := rfl
theorem rs65 : Try.f65.results = #[.tmp 6] := rfl
theorem rs82 : Try.f82.results = #[.cell 2 121] := rfl
theorem rs90 : Try.f90.results = #[.tmp 4] := rfl
theorem rs80 : Try.f80.results = #[.cell 2 119] := rfl
theorem rs81 : Try.f81.results = #[.cell 4 121] := rfl
theorem rs83 : Try.f83.results = #[.cell 6 121] := rfl
theorem rs84 : Try.f84.results = #[.cell 2 105] := rfl
theorem rs73 : Try.f73.results = #[.cell 4 105] := rfl
theorem rs64 : Try.f64.results = #[.cell 4 105] := rfl
theorem rs44 : Try.f44.results = #[.tmp 8, .tmp 9] := rfl
theorem rs35 : Try.f35.results = #[.tmp 2] := rfl
theorem rs18 : Try.f18.results = #[.tmp 4] := rfl
theorem rs63 : Try.f63.results = #[.tmp 4] := rfl
theorem rs37 : Try.f37.results = #[.tmp 2] := rfl
theorem rs8 : Try.f8.results = #[.cell 6 26, .tmp 7, .tmp 8] := rfl
theorem rs39 : Try.f39.results = #[.tmp 4] := rfl
theorem rs17 : Try.f17.results = #[.tmp 2] := rfl
theorem rs38 : Try.f38.results = #[.tmp 2, .tmp 3] := rfl
theorem rs40 : Try.f40.results = #[.tmp 2] := rfl
theorem rs77 : Try.f77.results = #[.tmp 4] := rfl
theorem rs67 : Try.f67.results = #[.tmp 6] := rfl
theorem rs92 : Try.f92.results = #[.tmp 8] := rfl
theorem rs86 : Try.f86.results = #[.cell 2 121] := rfl
theorem rs91 : Try.f91.results = #[.tmp 4] := rfl
theorem rs85 : Try.f85.results = #[.cell 2 119] := rfl
theorem rs87 : Try.f87.results = #[.cell 6 121] := rfl
theorem rs88 : Try.f88.results = #[.cell 2 105] := rfl
theorem rs76 : Try.f76.results = #[.cell 4 105] := rfl
theorem rs66 : Try.f66.results = #[.cell 4 105] := rfl
theorem rs45 : Try.f45.results = #[.tmp 8] := rfl
theorem rs19 : Try.f19.results = #[.tmp 4] := rfl
theorem rs41 : Try.f41.results = #[.tmp 2] := rfl
theorem rs9 : Try.f9.results = #[.cell 6 26, .tmp 7, .tmp 8] := rfl
theorem rs10 : Try.f10.results = #[.tmp 4] := rfl
theorem rs11 : Try.f11.results = #[.tmp 4] := rfl
theorem rs43 : Try.f43.results = #[.tmp 6] := rfl
theorem rs12 : Try.f12.results = #[.cell 4 26, .tmp 5] := rfl
theorem rs13 : Try.f13.results = #[.cell 4 26, .tmp 5] := rfl
theorem rs14 : Try.f14.results = #[.tmp 2, .tmp 3] := rfl
theorem rs15 : Try.f15.results = #[.tmp 2, .tmp 3] := rfl
theorem rs3 : Try.f3.results = #[.tmp 6] := rfl

end Go.AX.Z.TW
