/- A part of the proof: the types, the facts of the program and the functions, read plainly. -/
import Derived.Test.YtpgmoamobacmbaaCorec
import Derived.Test.YtpgmoamobacmbaaProg
import Derived.KernelRfl
set_option linter.unusedVariables false
set_option linter.unusedSimpArgs false

/-! (TVS) -/

set_option linter.unusedSimpArgs false
set_option linter.unusedVariables false
namespace Go.AX.Z.TV
open Go.AX
structure A16vu where
  a0 : Int
  a1 : Int
  a2 : Int
  a3 : Int
  a4 : Int
  a5 : Int
  a6 : Int
  a7 : Int
  a8 : Int
  a9 : Int
  a10 : Int
  a11 : Int
  a12 : Int
  a13 : Int
  a14 : Int
  a15 : Int
  deriving DecidableEq

def A16vu.z : A16vu := ⟨0, 0, 0, 0, 0, 0, 0, 0, 0, 0, 0, 0, 0, 0, 0, 0⟩

def e_A16vu (x : A16vu) : List AV := [vu x.a0, vu x.a1, vu x.a2, vu x.a3, vu x.a4, vu x.a5, vu x.a6, vu x.a7, vu x.a8, vu x.a9, vu x.a10, vu x.a11, vu x.a12, vu x.a13, vu x.a14, vu x.a15]

theorem e_A16vu_len (x : A16vu) : (e_A16vu x).length = 16 := by rfl
theorem e_A16vu_sub (x : A16vu) : sub? (e_A16vu x) 0 16 = some (e_A16vu x) := by rfl
theorem e_A16vu_take (x : A16vu) : (e_A16vu x).take 16 = (e_A16vu x) := by rfl
theorem e_A16vu_all (x : A16vu) (y : A16vu) : putAt (e_A16vu x) 0 (e_A16vu y) = e_A16vu y := by rfl
theorem e_A16vu_g_a0 (x : A16vu) : (e_A16vu x)[0]? = some (vu x.a0) := by rfl
theorem e_A16vu_s_a0 (x : A16vu) (v : Int) : (e_A16vu x).set 0 (vu v) = e_A16vu { x with a0 := v } := by rfl
theorem e_A16vu_g_a1 (x : A16vu) : (e_A16vu x)[1]? = some (vu x.a1) := by rfl
theorem e_A16vu_s_a1 (x : A16vu) (v : Int) : (e_A16vu x).set 1 (vu v) = e_A16vu { x with a1 := v } := by rfl
theorem e_A16vu_g_a2 (x : A16vu) : (e_A16vu x)[2]? = some (vu x.a2) := by rfl
theorem e_A16vu_g_a3 (x : A16vu) : (e_A16vu x)[3]? = some (vu x.a3) := by rfl
theorem e_A16vu_g_a4 (x : A16vu) : (e_A16vu x)[4]? = some (vu x.a4) := by rfl
theorem e_A16vu_g_a5 (x : A16vu) : (e_A16vu x)[5]? = some (vu x.a5) := by rfl
theorem e_A16vu_g_a6 (x : A16vu) : (e_A16vu x)[6]? = some (vu x.a6) := by rfl
theorem e_A16vu_g_a7 (x : A16vu) : (e_A16vu x)[7]? = some (vu x.a7) := by rfl
theorem e_A16vu_g_a8 (x : A16vu) : (e_A16vu x)[8]? = some (vu x.a8) := by rfl
theorem e_A16vu_g_a9 (x : A16vu) : (e_A16vu x)[9]? = some (vu x.a9) := by rfl
theorem e_A16vu_g_a10 (x : A16vu) : (e_A16vu x)[10]? = some (vu x.a10) := by rfl
theorem e_A16vu_g_a11 (x : A16vu) : (e_A16vu x)[11]? = some (vu x.a11) := by rfl
theorem e_A16vu_g_a12 (x : A16vu) : (e_A16vu x)[12]? = some (vu x.a12) := by rfl
theorem e_A16vu_g_a13 (x : A16vu) : (e_A16vu x)[13]? = some (vu x.a13) := by rfl
theorem e_A16vu_g_a14 (x : A16vu) : (e_A16vu x)[14]? = some (vu x.a14) := by rfl
theorem e_A16vu_g_a15 (x : A16vu) : (e_A16vu x)[15]? = some (vu x.a15) := by rfl
theorem e_A16vu_fz (x : A16vu) (o : Nat → Ob) (n : Nat) : (e_A16vu x).map (fz o (n + 1)) = e_A16vu x := by rfl
theorem e_A16vu_reach (x : A16vu) (o : Nat → Ob) (n : Nat) : (e_A16vu x).flatMap (reach o (n + 1)) = [] := by
  simp only [e_A16vu, List.cons_append, List.nil_append, List.append_nil, List.flatMap_cons, List.flatMap_nil, reach_v]
theorem e_A16vu_clean (x : A16vu) : ∀ c ∈ (e_A16vu x), Clean c := by
  simp only [e_A16vu, List.cons_append, List.nil_append]
  repeat' (first | exact Clean.v _ | assumption | exact List.forall_mem_nil _ | refine List.forall_mem_cons.2 ⟨?_, ?_⟩)
def A16vu.setA (x : A16vu) (i : Nat) (v : Int) : A16vu := ⟨bif i == 0 then v else x.a0, bif i == 1 then v else x.a1, bif i == 2 then v else x.a2, bif i == 3 then v else x.a3, bif i == 4 then v else x.a4, bif i == 5 then v else x.a5, bif i == 6 then v else x.a6, bif i == 7 then v else x.a7, bif i == 8 then v else x.a8, bif i == 9 then v else x.a9, bif i == 10 then v else x.a10, bif i == 11 then v else x.a11, bif i == 12 then v else x.a12, bif i == 13 then v else x.a13, bif i == 14 then v else x.a14, bif i == 15 then v else x.a15⟩
theorem e_A16vu_setA (x : A16vu) (v : Int) : ∀ {i : Nat}, i < 16 → (e_A16vu x).set i (vu v) = e_A16vu (x.setA i v)
  | 0, _ => rfl
  | 1, _ => rfl
  | 2, _ => rfl
  | 3, _ => rfl
  | 4, _ => rfl
  | 5, _ => rfl
  | 6, _ => rfl
  | 7, _ => rfl
  | 8, _ => rfl
  | 9, _ => rfl
  | 10, _ => rfl
  | 11, _ => rfl
  | 12, _ => rfl
  | 13, _ => rfl
  | 14, _ => rfl
  | 15, _ => rfl
  | k + 16, h => absurd h (by omega)
def A16vu.of (l : List Int) : A16vu := ⟨l.getD 0 0, l.getD 1 0, l.getD 2 0, l.getD 3 0, l.getD 4 0, l.getD 5 0, l.getD 6 0, l.getD 7 0, l.getD 8 0, l.getD 9 0, l.getD 10 0, l.getD 11 0, l.getD 12 0, l.getD 13 0, l.getD 14 0, l.getD 15 0⟩
theorem e_A16vu_of : ∀ (l : List Int), 16 ≤ l.length → (List.map vu l).take 16 = e_A16vu (A16vu.of l)
  | a0 :: a1 :: a2 :: a3 :: a4 :: a5 :: a6 :: a7 :: a8 :: a9 :: a10 :: a11 :: a12 :: a13 :: a14 :: a15 :: _, _ => rfl
  | [], h => absurd h (by simp only [List.length_cons, List.length_nil]; omega)
  | [_], h => absurd h (by simp only [List.length_cons, List.length_nil]; omega)
  | [_, _], h => absurd h (by simp only [List.length_cons, List.length_nil]; omega)
  | [_, _, _], h => absurd h (by simp only [List.length_cons, List.length_nil]; omega)
  | [_, _, _, _], h => absurd h (by simp only [List.length_cons, List.length_nil]; omega)
  | [_, _, _, _, _], h => absurd h (by simp only [List.length_cons, List.length_nil]; omega)
  | [_, _, _, _, _, _], h => absurd h (by simp only [List.length_cons, List.length_nil]; omega)
  | [_, _, _, _, _, _, _], h => absurd h (by simp only [List.length_cons, List.length_nil]; omega)
  | [_, _, _, _, _, _, _, _], h => absurd h (by simp only [List.length_cons, List.length_nil]; omega)
  | [_, _, _, _, _, _, _, _, _], h => absurd h (by simp only [List.length_cons, List.length_nil]; omega)
  | [_, _, _, _, _, _, _, _, _, _], h => absurd h (by simp only [List.length_cons, List.length_nil]; omega)
  | [_, _, _, _, _, _, _, _, _, _, _], h => absurd h (by simp only [List.length_cons, List.length_nil]; omega)
  | [_, _, _, _, _, _, _, _, _, _, _, _], h => absurd h (by simp only [List.length_cons, List.length_nil]; omega)
  | [_, _, _, _, _, _, _, _, _, _, _, _, _], h => absurd h (by simp only [List.length_cons, List.length_nil]; omega)
  | [_, _, _, _, _, _, _, _, _, _, _, _, _, _], h => absurd h (by simp only [List.length_cons, List.length_nil]; omega)
  | [_, _, _, _, _, _, _, _, _, _, _, _, _, _, _], h => absurd h (by simp only [List.length_cons, List.length_nil]; omega)
theorem f_A16vu (x : A16vu) (o : Nat → Ob) (n : Nat) : (e_A16vu x).map (fz o (n + 1)) = e_A16vu x := by simp only [e_A16vu_fz]
theorem q_A16vu (x : A16vu) (o : Nat → Ob) (n : Nat) : (e_A16vu x).flatMap (reach o (n + 1)) = [] := by simp only [e_A16vu_reach, List.append_nil]
theorem e_A16vu_kinds (x : A16vu) : kindsOk [some .u8, some .u8, some .u8, some .u8, some .u8, some .u8, some .u8, some .u8, some .u8, some .u8, some .u8, some .u8, some .u8, some .u8, some .u8, some .u8] (e_A16vu x) = true := by rfl
theorem e_A16vu_eq (x y : A16vu) : eqCells (e_A16vu x) (e_A16vu y) = decide (x = y) := by
  rw [Bool.eq_iff_iff]
  simp only [e_A16vu, List.cons_append, List.nil_append, List.append_nil, eqCells, eqv, Bool.and_eq_true, beq_iff_eq, decide_eq_true_eq, and_true]
  constructor
  · intro h
    obtain ⟨v1, v2, v3, v4, v5, v6, v7, v8, v9, v10, v11, v12, v13, v14, v15, v16⟩ := x
    obtain ⟨v17', v18', v19', v20', v21', v22', v23', v24', v25', v26', v27', v28', v29', v30', v31', v32'⟩ := y
    simp_all
  · rintro rfl
    simp
attribute [go_sem] e_A16vu_len e_A16vu_sub e_A16vu_take e_A16vu_all e_A16vu_g_a0 e_A16vu_s_a0 e_A16vu_g_a1 e_A16vu_s_a1 e_A16vu_g_a2 e_A16vu_g_a3 e_A16vu_g_a4 e_A16vu_g_a5 e_A16vu_g_a6 e_A16vu_g_a7 e_A16vu_g_a8 e_A16vu_g_a9 e_A16vu_g_a10 e_A16vu_g_a11 e_A16vu_g_a12 e_A16vu_g_a13 e_A16vu_g_a14 e_A16vu_g_a15 e_A16vu_fz e_A16vu_reach e_A16vu_kinds e_A16vu_eq f_A16vu q_A16vu

structure A6vu where
  a0 : Int
  a1 : Int
  a2 : Int
  a3 : Int
  a4 : Int
  a5 : Int
  deriving DecidableEq

def A6vu.z : A6vu := ⟨0, 0, 0, 0, 0, 0⟩

def e_A6vu (x : A6vu) : List AV := [vu x.a0, vu x.a1, vu x.a2, vu x.a3, vu x.a4, vu x.a5]

theorem e_A6vu_len (x : A6vu) : (e_A6vu x).length = 6 := by rfl
theorem e_A6vu_sub (x : A6vu) : sub? (e_A6vu x) 0 6 = some (e_A6vu x) := by rfl
theorem e_A6vu_take (x : A6vu) : (e_A6vu x).take 6 = (e_A6vu x) := by rfl
theorem e_A6vu_all (x : A6vu) (y : A6vu) : putAt (e_A6vu x) 0 (e_A6vu y) = e_A6vu y := by rfl
theorem e_A6vu_s_a0 (x : A6vu) (v : Int) : (e_A6vu x).set 0 (vu v) = e_A6vu { x with a0 := v } := by rfl
theorem e_A6vu_s_a1 (x : A6vu) (v : Int) : (e_A6vu x).set 1 (vu v) = e_A6vu { x with a1 := v } := by rfl
theorem e_A6vu_s_a2 (x : A6vu) (v : Int) : (e_A6vu x).set 2 (vu v) = e_A6vu { x with a2 := v } := by rfl
theorem e_A6vu_s_a3 (x : A6vu) (v : Int) : (e_A6vu x).set 3 (vu v) = e_A6vu { x with a3 := v } := by rfl
theorem e_A6vu_s_a4 (x : A6vu) (v : Int) : (e_A6vu x).set 4 (vu v) = e_A6vu { x with a4 := v } := by rfl
theorem e_A6vu_s_a5 (x : A6vu) (v : Int) : (e_A6vu x).set 5 (vu v) = e_A6vu { x with a5 := v } := by rfl
theorem e_A6vu_fz (x : A6vu) (o : Nat → Ob) (n : Nat) : (e_A6vu x).map (fz o (n + 1)) = e_A6vu x := by rfl
theorem e_A6vu_reach (x : A6vu) (o : Nat → Ob) (n : Nat) : (e_A6vu x).flatMap (reach o (n + 1)) = [] := by
  simp only [e_A6vu, List.cons_append, List.nil_append, List.append_nil, List.flatMap_cons, List.flatMap_nil, reach_v]
theorem e_A6vu_clean (x : A6vu) : ∀ c ∈ (e_A6vu x), Clean c := by
  simp only [e_A6vu, List.cons_append, List.nil_append]
  repeat' (first | exact Clean.v _ | assumption | exact List.forall_mem_nil _ | refine List.forall_mem_cons.2 ⟨?_, ?_⟩)
def A6vu.setA (x : A6vu) (i : Nat) (v : Int) : A6vu := ⟨bif i == 0 then v else x.a0, bif i == 1 then v else x.a1, bif i == 2 then v else x.a2, bif i == 3 then v else x.a3, bif i == 4 then v else x.a4, bif i == 5 then v else x.a5⟩
theorem f_A6vu (x : A6vu) (o : Nat → Ob) (n : Nat) : (e_A6vu x).map (fz o (n + 1)) = e_A6vu x := by simp only [e_A6vu_fz]
theorem q_A6vu (x : A6vu) (o : Nat → Ob) (n : Nat) : (e_A6vu x).flatMap (reach o (n + 1)) = [] := by simp only [e_A6vu_reach, List.append_nil]
theorem e_A6vu_kinds (x : A6vu) : kindsOk [some .u8, some .u8, some .u8, some .u8, some .u8, some .u8] (e_A6vu x) = true := by rfl
theorem e_A6vu_eq (x y : A6vu) : eqCells (e_A6vu x) (e_A6vu y) = decide (x = y) := by
  rw [Bool.eq_iff_iff]
  simp only [e_A6vu, List.cons_append, List.nil_append, List.append_nil, eqCells, eqv, Bool.and_eq_true, beq_iff_eq, decide_eq_true_eq, and_true]
  constructor
  · intro h
    obtain ⟨v1, v2, v3, v4, v5, v6⟩ := x
    obtain ⟨v7', v8', v9', v10', v11', v12'⟩ := y
    simp_all
  · rintro rfl
    simp
attribute [go_sem] e_A6vu_len e_A6vu_sub e_A6vu_take e_A6vu_all e_A6vu_s_a0 e_A6vu_s_a1 e_A6vu_s_a2 e_A6vu_s_a3 e_A6vu_s_a4 e_A6vu_s_a5 e_A6vu_fz e_A6vu_reach e_A6vu_kinds e_A6vu_eq f_A6vu q_A6vu

def S_A6vu (l : List A6vu) : AV := .imm (List.flatMap e_A6vu l) l.length
theorem S_A6vu_eq (l : List A6vu) : S_A6vu l = .imm (List.flatMap e_A6vu l) l.length := rfl
theorem l_A6vu (x : A6vu) : (e_A6vu x).length = 6 := by rfl
theorem r_A6vu_len (l : List A6vu) : (l.flatMap e_A6vu).length = l.length * 6 := flat_len l_A6vu l
theorem r_A6vu_get (l : List A6vu) (i o : Nat) (ho : o < 6) : (l.flatMap e_A6vu)[i * 6 + o]? = l[i]?.bind fun a => (e_A6vu a)[o]? := rows_get l_A6vu l i o ho
theorem r_A6vu_get0 (l : List A6vu) (i : Nat) : (l.flatMap e_A6vu)[i * 6]? = l[i]?.bind fun a => (e_A6vu a)[0]? := rows_get l_A6vu l i 0 (by decide)
theorem r_A6vu_sub (l : List A6vu) (i o n : Nat) (ho : o + n ≤ 6) (hn : 0 < n) : sub? (l.flatMap e_A6vu) (i * 6 + o) n = l[i]?.bind fun a => sub? (e_A6vu a) o n := rows_sub l_A6vu l i o n ho hn
theorem r_A6vu_sub0 (l : List A6vu) (i n : Nat) (ho : n ≤ 6) (hn : 0 < n) : sub? (l.flatMap e_A6vu) (i * 6) n = l[i]?.bind fun a => sub? (e_A6vu a) 0 n := rows_sub l_A6vu l i 0 n (by omega) hn
theorem r_A6vu_subw (l : List A6vu) : sub? (l.flatMap e_A6vu) 0 (l.length * 6) = some (l.flatMap e_A6vu) := rows_subw l_A6vu l
theorem r_A6vu_take (l : List A6vu) (n : Nat) : (l.flatMap e_A6vu).take (n * 6) = (l.take n).flatMap e_A6vu := rows_take l_A6vu l n
theorem r_A6vu_drop (l : List A6vu) (n : Nat) : (l.flatMap e_A6vu).drop (n * 6) = (l.drop n).flatMap e_A6vu := rows_drop l_A6vu l n
theorem r_A6vu_fz (l : List A6vu) (o : Nat → Ob) (n : Nat) : (l.flatMap e_A6vu).map (fz o (n + 1)) = (l.flatMap e_A6vu) := rows_fz (fun a => f_A6vu a o n) l
theorem r_A6vu_rch (l : List A6vu) (o : Nat → Ob) (n : Nat) : (l.flatMap e_A6vu).flatMap (reach o (n + 1)) = [] := rows_reach (fun a => q_A6vu a o n) l
theorem r_A6vu_s_a0 (l : List A6vu) (i : Nat) (v : Int) : (l.flatMap e_A6vu).set (i * 6) (vu v) = (l.modify i (fun y => { y with a0 := v })).flatMap e_A6vu := rows_set l_A6vu l i 0 _ (fun y => { y with a0 := v }) (by decide) (fun _ => by rfl)
theorem r_A6vu_s_a1 (l : List A6vu) (i : Nat) (v : Int) : (l.flatMap e_A6vu).set (i * 6 + 1) (vu v) = (l.modify i (fun y => { y with a1 := v })).flatMap e_A6vu := rows_set l_A6vu l i 1 _ (fun y => { y with a1 := v }) (by decide) (fun _ => by rfl)
theorem r_A6vu_s_a2 (l : List A6vu) (i : Nat) (v : Int) : (l.flatMap e_A6vu).set (i * 6 + 2) (vu v) = (l.modify i (fun y => { y with a2 := v })).flatMap e_A6vu := rows_set l_A6vu l i 2 _ (fun y => { y with a2 := v }) (by decide) (fun _ => by rfl)
theorem r_A6vu_s_a3 (l : List A6vu) (i : Nat) (v : Int) : (l.flatMap e_A6vu).set (i * 6 + 3) (vu v) = (l.modify i (fun y => { y with a3 := v })).flatMap e_A6vu := rows_set l_A6vu l i 3 _ (fun y => { y with a3 := v }) (by decide) (fun _ => by rfl)
theorem r_A6vu_s_a4 (l : List A6vu) (i : Nat) (v : Int) : (l.flatMap e_A6vu).set (i * 6 + 4) (vu v) = (l.modify i (fun y => { y with a4 := v })).flatMap e_A6vu := rows_set l_A6vu l i 4 _ (fun y => { y with a4 := v }) (by decide) (fun _ => by rfl)
theorem r_A6vu_s_a5 (l : List A6vu) (i : Nat) (v : Int) : (l.flatMap e_A6vu).set (i * 6 + 5) (vu v) = (l.modify i (fun y => { y with a5 := v })).flatMap e_A6vu := rows_set l_A6vu l i 5 _ (fun y => { y with a5 := v }) (by decide) (fun _ => by rfl)
theorem r_A6vu_put (l : List A6vu) (i : Nat) (x : A6vu) : putAt (l.flatMap e_A6vu) (i * 6) (e_A6vu x) = (l.set i x).flatMap e_A6vu := rows_put l_A6vu (by decide) l i x
theorem r_A6vu_app (l : List A6vu) (x : A6vu) : (l.flatMap e_A6vu) ++ e_A6vu x = (l ++ [x]).flatMap e_A6vu := by simp
theorem r_A6vu_cat (l : List A6vu) (m : List A6vu) : (l.flatMap e_A6vu) ++ m.flatMap e_A6vu = (l ++ m).flatMap e_A6vu := List.flatMap_append.symm
theorem f_S_A6vu (l : List A6vu) (o : Nat → Ob) (n : Nat) : fz o (n + 2) (S_A6vu l) = S_A6vu l := by simp only [S_A6vu_eq, fz, r_A6vu_fz]
theorem q_S_A6vu (l : List A6vu) (o : Nat → Ob) (n : Nat) : reach o (n + 2) (S_A6vu l) = [] := by simp only [S_A6vu_eq, reach, r_A6vu_rch]
attribute [go_sem] S_A6vu_eq l_A6vu r_A6vu_len r_A6vu_get r_A6vu_get0 r_A6vu_sub r_A6vu_sub0 r_A6vu_subw r_A6vu_take r_A6vu_drop r_A6vu_fz r_A6vu_rch r_A6vu_s_a0 r_A6vu_s_a1 r_A6vu_s_a2 r_A6vu_s_a3 r_A6vu_s_a4 r_A6vu_s_a5 r_A6vu_put r_A6vu_app r_A6vu_cat f_S_A6vu q_S_A6vu

structure AuthDoor where
  Secret : A16vu
  Open : (List A6vu)
  deriving DecidableEq

def AuthDoor.z : AuthDoor := ⟨A16vu.z, []⟩

def e_AuthDoor (x : AuthDoor) (s0 : AV) : List AV := (e_A16vu x.Secret) ++ [s0]

theorem e_AuthDoor_len (x : AuthDoor) (s0 : AV) : (e_AuthDoor x s0).length = 17 := by rfl
theorem e_AuthDoor_sub (x : AuthDoor) (s0 : AV) : sub? (e_AuthDoor x s0) 0 17 = some (e_AuthDoor x s0) := by rfl
theorem e_AuthDoor_take (x : AuthDoor) (s0 : AV) : (e_AuthDoor x s0).take 17 = (e_AuthDoor x s0) := by rfl
theorem e_AuthDoor_all (x : AuthDoor) (s0 : AV) (y : AuthDoor) (s02 : AV) : putAt (e_AuthDoor x s0) 0 (e_AuthDoor y s02) = e_AuthDoor y s02 := by rfl
theorem e_AuthDoor_g_Open (x : AuthDoor) (s0 : AV) : (e_AuthDoor x s0)[16]? = some s0 := by rfl
theorem e_AuthDoor_s_Open (x : AuthDoor) (s0 : AV) (v : AV) : (e_AuthDoor x s0).set 16 v = e_AuthDoor x v := by rfl
theorem e_AuthDoor_d_Secret (x : AuthDoor) (s0 : AV) : sub? (e_AuthDoor x s0) 0 16 = some (e_A16vu x.Secret) := by rfl
theorem e_AuthDoor_p_Secret (x : AuthDoor) (s0 : AV) (v : A16vu) : putAt (e_AuthDoor x s0) 0 (e_A16vu v) = e_AuthDoor { x with Secret := v } s0 := by rfl
theorem e_AuthDoor_fz (x : AuthDoor) (s0 : AV) (o : Nat → Ob) (n : Nat) : (e_AuthDoor x s0).map (fz o (n + 1)) = e_AuthDoor x (fz o (n + 1) s0) := by rfl
theorem e_AuthDoor_reach (x : AuthDoor) (s0 : AV) (o : Nat → Ob) (n : Nat) : (e_AuthDoor x s0).flatMap (reach o (n + 1)) = reach o (n + 1) s0 := by
  simp only [e_AuthDoor, e_A16vu, List.cons_append, List.nil_append, List.append_nil, List.flatMap_cons, List.flatMap_nil, reach_v]
def E_AuthDoor (x : AuthDoor) : List AV := e_AuthDoor x (S_A6vu x.Open)
theorem E_AuthDoor_eq (x : AuthDoor) : E_AuthDoor x = e_AuthDoor x (S_A6vu x.Open) := rfl
theorem f_AuthDoor (x : AuthDoor) (o : Nat → Ob) (n : Nat) : (E_AuthDoor x).map (fz o (n + 2)) = E_AuthDoor x := by simp only [E_AuthDoor_eq, e_AuthDoor_fz, f_S_A6vu]
theorem q_AuthDoor (x : AuthDoor) (o : Nat → Ob) (n : Nat) : (E_AuthDoor x).flatMap (reach o (n + 2)) = [] := by simp only [E_AuthDoor_eq, e_AuthDoor_reach, q_S_A6vu, List.append_nil]
attribute [go_sem] e_AuthDoor_len e_AuthDoor_sub e_AuthDoor_take e_AuthDoor_all e_AuthDoor_g_Open e_AuthDoor_s_Open e_AuthDoor_d_Secret e_AuthDoor_p_Secret e_AuthDoor_fz e_AuthDoor_reach E_AuthDoor_eq f_AuthDoor q_AuthDoor

structure Hotspotlaw29_Sides where
  One : (List Int)
  Two : (List Int)
  Rand : Int
  Mask : Int
  Rand2 : Int
  Mask2 : Int
  deriving DecidableEq

def Hotspotlaw29_Sides.z : Hotspotlaw29_Sides := ⟨[], [], 0, 0, 0, 0⟩

def e_Hotspotlaw29_Sides (x : Hotspotlaw29_Sides) : List AV := [vs x.One, vs x.Two, vq x.Rand, vq x.Mask, vq x.Rand2, vq x.Mask2]

theorem e_Hotspotlaw29_Sides_len (x : Hotspotlaw29_Sides) : (e_Hotspotlaw29_Sides x).length = 6 := by rfl
theorem e_Hotspotlaw29_Sides_sub (x : Hotspotlaw29_Sides) : sub? (e_Hotspotlaw29_Sides x) 0 6 = some (e_Hotspotlaw29_Sides x) := by rfl
theorem e_Hotspotlaw29_Sides_take (x : Hotspotlaw29_Sides) : (e_Hotspotlaw29_Sides x).take 6 = (e_Hotspotlaw29_Sides x) := by rfl
theorem e_Hotspotlaw29_Sides_all (x : Hotspotlaw29_Sides) (y : Hotspotlaw29_Sides) : putAt (e_Hotspotlaw29_Sides x) 0 (e_Hotspotlaw29_Sides y) = e_Hotspotlaw29_Sides y := by rfl
theorem e_Hotspotlaw29_Sides_g_One (x : Hotspotlaw29_Sides) : (e_Hotspotlaw29_Sides x)[0]? = some (vs x.One) := by rfl
theorem e_Hotspotlaw29_Sides_g_Two (x : Hotspotlaw29_Sides) : (e_Hotspotlaw29_Sides x)[1]? = some (vs x.Two) := by rfl
theorem e_Hotspotlaw29_Sides_g_Rand (x : Hotspotlaw29_Sides) : (e_Hotspotlaw29_Sides x)[2]? = some (vq x.Rand) := by rfl
theorem e_Hotspotlaw29_Sides_g_Mask (x : Hotspotlaw29_Sides) : (e_Hotspotlaw29_Sides x)[3]? = some (vq x.Mask) := by rfl
theorem e_Hotspotlaw29_Sides_g_Rand2 (x : Hotspotlaw29_Sides) : (e_Hotspotlaw29_Sides x)[4]? = some (vq x.Rand2) := by rfl
theorem e_Hotspotlaw29_Sides_g_Mask2 (x : Hotspotlaw29_Sides) : (e_Hotspotlaw29_Sides x)[5]? = some (vq x.Mask2) := by rfl
theorem e_Hotspotlaw29_Sides_fz (x : Hotspotlaw29_Sides) (o : Nat → Ob) (n : Nat) : (e_Hotspotlaw29_Sides x).map (fz o (n + 1)) = e_Hotspotlaw29_Sides x := by rfl
theorem e_Hotspotlaw29_Sides_reach (x : Hotspotlaw29_Sides) (o : Nat → Ob) (n : Nat) : (e_Hotspotlaw29_Sides x).flatMap (reach o (n + 1)) = [] := by
  simp only [e_Hotspotlaw29_Sides, List.cons_append, List.nil_append, List.append_nil, List.flatMap_cons, List.flatMap_nil, reach_v]
theorem e_Hotspotlaw29_Sides_clean (x : Hotspotlaw29_Sides) : ∀ c ∈ (e_Hotspotlaw29_Sides x), Clean c := by
  simp only [e_Hotspotlaw29_Sides, List.cons_append, List.nil_append]
  repeat' (first | exact Clean.v _ | assumption | exact List.forall_mem_nil _ | refine List.forall_mem_cons.2 ⟨?_, ?_⟩)
theorem f_Hotspotlaw29_Sides (x : Hotspotlaw29_Sides) (o : Nat → Ob) (n : Nat) : (e_Hotspotlaw29_Sides x).map (fz o (n + 1)) = e_Hotspotlaw29_Sides x := by simp only [e_Hotspotlaw29_Sides_fz]
theorem q_Hotspotlaw29_Sides (x : Hotspotlaw29_Sides) (o : Nat → Ob) (n : Nat) : (e_Hotspotlaw29_Sides x).flatMap (reach o (n + 1)) = [] := by simp only [e_Hotspotlaw29_Sides_reach, List.append_nil]
attribute [go_sem] e_Hotspotlaw29_Sides_len e_Hotspotlaw29_Sides_sub e_Hotspotlaw29_Sides_take e_Hotspotlaw29_Sides_all e_Hotspotlaw29_Sides_g_One e_Hotspotlaw29_Sides_g_Two e_Hotspotlaw29_Sides_g_Rand e_Hotspotlaw29_Sides_g_Mask e_Hotspotlaw29_Sides_g_Rand2 e_Hotspotlaw29_Sides_g_Mask2 e_Hotspotlaw29_Sides_fz e_Hotspotlaw29_Sides_reach f_Hotspotlaw29_Sides q_Hotspotlaw29_Sides

structure Hotspotlaw29_Event where
  Kind : Int
  To : Int
  Which : Int
  At : Int
  By : Int
  Wait : Int
  deriving DecidableEq

def Hotspotlaw29_Event.z : Hotspotlaw29_Event := ⟨0, 0, 0, 0, 0, 0⟩

def e_Hotspotlaw29_Event (x : Hotspotlaw29_Event) : List AV := [vu x.Kind, vu x.To, vi x.Which, vi x.At, vu x.By, vi x.Wait]

theorem e_Hotspotlaw29_Event_len (x : Hotspotlaw29_Event) : (e_Hotspotlaw29_Event x).length = 6 := by rfl
theorem e_Hotspotlaw29_Event_sub (x : Hotspotlaw29_Event) : sub? (e_Hotspotlaw29_Event x) 0 6 = some (e_Hotspotlaw29_Event x) := by rfl
theorem e_Hotspotlaw29_Event_take (x : Hotspotlaw29_Event) : (e_Hotspotlaw29_Event x).take 6 = (e_Hotspotlaw29_Event x) := by rfl
theorem e_Hotspotlaw29_Event_all (x : Hotspotlaw29_Event) (y : Hotspotlaw29_Event) : putAt (e_Hotspotlaw29_Event x) 0 (e_Hotspotlaw29_Event y) = e_Hotspotlaw29_Event y := by rfl
theorem e_Hotspotlaw29_Event_g_Kind (x : Hotspotlaw29_Event) : (e_Hotspotlaw29_Event x)[0]? = some (vu x.Kind) := by rfl
theorem e_Hotspotlaw29_Event_g_To (x : Hotspotlaw29_Event) : (e_Hotspotlaw29_Event x)[1]? = some (vu x.To) := by rfl
theorem e_Hotspotlaw29_Event_g_Which (x : Hotspotlaw29_Event) : (e_Hotspotlaw29_Event x)[2]? = some (vi x.Which) := by rfl
theorem e_Hotspotlaw29_Event_g_At (x : Hotspotlaw29_Event) : (e_Hotspotlaw29_Event x)[3]? = some (vi x.At) := by rfl
theorem e_Hotspotlaw29_Event_g_By (x : Hotspotlaw29_Event) : (e_Hotspotlaw29_Event x)[4]? = some (vu x.By) := by rfl
theorem e_Hotspotlaw29_Event_g_Wait (x : Hotspotlaw29_Event) : (e_Hotspotlaw29_Event x)[5]? = some (vi x.Wait) := by rfl
theorem e_Hotspotlaw29_Event_fz (x : Hotspotlaw29_Event) (o : Nat → Ob) (n : Nat) : (e_Hotspotlaw29_Event x).map (fz o (n + 1)) = e_Hotspotlaw29_Event x := by rfl
theorem e_Hotspotlaw29_Event_reach (x : Hotspotlaw29_Event) (o : Nat → Ob) (n : Nat) : (e_Hotspotlaw29_Event x).flatMap (reach o (n + 1)) = [] := by
  simp only [e_Hotspotlaw29_Event, List.cons_append, List.nil_append, List.append_nil, List.flatMap_cons, List.flatMap_nil, reach_v]
theorem e_Hotspotlaw29_Event_clean (x : Hotspotlaw29_Event) : ∀ c ∈ (e_Hotspotlaw29_Event x), Clean c := by
  simp only [e_Hotspotlaw29_Event, List.cons_append, List.nil_append]
  repeat' (first | exact Clean.v _ | assumption | exact List.forall_mem_nil _ | refine List.forall_mem_cons.2 ⟨?_, ?_⟩)
theorem f_Hotspotlaw29_Event (x : Hotspotlaw29_Event) (o : Nat → Ob) (n : Nat) : (e_Hotspotlaw29_Event x).map (fz o (n + 1)) = e_Hotspotlaw29_Event x := by simp only [e_Hotspotlaw29_Event_fz]
theorem q_Hotspotlaw29_Event (x : Hotspotlaw29_Event) (o : Nat → Ob) (n : Nat) : (e_Hotspotlaw29_Event x).flatMap (reach o (n + 1)) = [] := by simp only [e_Hotspotlaw29_Event_reach, List.append_nil]
attribute [go_sem] e_Hotspotlaw29_Event_len e_Hotspotlaw29_Event_sub e_Hotspotlaw29_Event_take e_Hotspotlaw29_Event_all e_Hotspotlaw29_Event_g_Kind e_Hotspotlaw29_Event_g_To e_Hotspotlaw29_Event_g_Which e_Hotspotlaw29_Event_g_At e_Hotspotlaw29_Event_g_By e_Hotspotlaw29_Event_g_Wait e_Hotspotlaw29_Event_fz e_Hotspotlaw29_Event_reach f_Hotspotlaw29_Event q_Hotspotlaw29_Event

def S_Hotspotlaw29_Event (l : List Hotspotlaw29_Event) : AV := .imm (List.flatMap e_Hotspotlaw29_Event l) l.length
theorem S_Hotspotlaw29_Event_eq (l : List Hotspotlaw29_Event) : S_Hotspotlaw29_Event l = .imm (List.flatMap e_Hotspotlaw29_Event l) l.length := rfl
theorem l_Hotspotlaw29_Event (x : Hotspotlaw29_Event) : (e_Hotspotlaw29_Event x).length = 6 := by rfl
theorem S_Hotspotlaw29_Event_clean (l : List Hotspotlaw29_Event) : Clean (S_Hotspotlaw29_Event l) := Clean.imm (rows_clean e_Hotspotlaw29_Event_clean l)
theorem c_Hotspotlaw29_Event (l : List Hotspotlaw29_Event) : ∀ c ∈ l.flatMap e_Hotspotlaw29_Event, Clean c := rows_clean e_Hotspotlaw29_Event_clean l
theorem r_Hotspotlaw29_Event_len (l : List Hotspotlaw29_Event) : (l.flatMap e_Hotspotlaw29_Event).length = l.length * 6 := flat_len l_Hotspotlaw29_Event l
theorem r_Hotspotlaw29_Event_get (l : List Hotspotlaw29_Event) (i o : Nat) (ho : o < 6) : (l.flatMap e_Hotspotlaw29_Event)[i * 6 + o]? = l[i]?.bind fun a => (e_Hotspotlaw29_Event a)[o]? := rows_get l_Hotspotlaw29_Event l i o ho
theorem r_Hotspotlaw29_Event_get0 (l : List Hotspotlaw29_Event) (i : Nat) : (l.flatMap e_Hotspotlaw29_Event)[i * 6]? = l[i]?.bind fun a => (e_Hotspotlaw29_Event a)[0]? := rows_get l_Hotspotlaw29_Event l i 0 (by decide)
theorem r_Hotspotlaw29_Event_sub (l : List Hotspotlaw29_Event) (i o n : Nat) (ho : o + n ≤ 6) (hn : 0 < n) : sub? (l.flatMap e_Hotspotlaw29_Event) (i * 6 + o) n = l[i]?.bind fun a => sub? (e_Hotspotlaw29_Event a) o n := rows_sub l_Hotspotlaw29_Event l i o n ho hn
theorem r_Hotspotlaw29_Event_sub0 (l : List Hotspotlaw29_Event) (i n : Nat) (ho : n ≤ 6) (hn : 0 < n) : sub? (l.flatMap e_Hotspotlaw29_Event) (i * 6) n = l[i]?.bind fun a => sub? (e_Hotspotlaw29_Event a) 0 n := rows_sub l_Hotspotlaw29_Event l i 0 n (by omega) hn
theorem r_Hotspotlaw29_Event_subw (l : List Hotspotlaw29_Event) : sub? (l.flatMap e_Hotspotlaw29_Event) 0 (l.length * 6) = some (l.flatMap e_Hotspotlaw29_Event) := rows_subw l_Hotspotlaw29_Event l
theorem r_Hotspotlaw29_Event_take (l : List Hotspotlaw29_Event) (n : Nat) : (l.flatMap e_Hotspotlaw29_Event).take (n * 6) = (l.take n).flatMap e_Hotspotlaw29_Event := rows_take l_Hotspotlaw29_Event l n
theorem r_Hotspotlaw29_Event_drop (l : List Hotspotlaw29_Event) (n : Nat) : (l.flatMap e_Hotspotlaw29_Event).drop (n * 6) = (l.drop n).flatMap e_Hotspotlaw29_Event := rows_drop l_Hotspotlaw29_Event l n
theorem r_Hotspotlaw29_Event_fz (l : List Hotspotlaw29_Event) (o : Nat → Ob) (n : Nat) : (l.flatMap e_Hotspotlaw29_Event).map (fz o (n + 1)) = (l.flatMap e_Hotspotlaw29_Event) := rows_fz (fun a => f_Hotspotlaw29_Event a o n) l
theorem r_Hotspotlaw29_Event_rch (l : List Hotspotlaw29_Event) (o : Nat → Ob) (n : Nat) : (l.flatMap e_Hotspotlaw29_Event).flatMap (reach o (n + 1)) = [] := rows_reach (fun a => q_Hotspotlaw29_Event a o n) l
theorem r_Hotspotlaw29_Event_s_Kind (l : List Hotspotlaw29_Event) (i : Nat) (v : Int) : (l.flatMap e_Hotspotlaw29_Event).set (i * 6) (vu v) = (l.modify i (fun y => { y with Kind := v })).flatMap e_Hotspotlaw29_Event := rows_set l_Hotspotlaw29_Event l i 0 _ (fun y => { y with Kind := v }) (by decide) (fun _ => by rfl)
theorem r_Hotspotlaw29_Event_s_To (l : List Hotspotlaw29_Event) (i : Nat) (v : Int) : (l.flatMap e_Hotspotlaw29_Event).set (i * 6 + 1) (vu v) = (l.modify i (fun y => { y with To := v })).flatMap e_Hotspotlaw29_Event := rows_set l_Hotspotlaw29_Event l i 1 _ (fun y => { y with To := v }) (by decide) (fun _ => by rfl)
theorem r_Hotspotlaw29_Event_s_Which (l : List Hotspotlaw29_Event) (i : Nat) (v : Int) : (l.flatMap e_Hotspotlaw29_Event).set (i * 6 + 2) (vi v) = (l.modify i (fun y => { y with Which := v })).flatMap e_Hotspotlaw29_Event := rows_set l_Hotspotlaw29_Event l i 2 _ (fun y => { y with Which := v }) (by decide) (fun _ => by rfl)
theorem r_Hotspotlaw29_Event_s_At (l : List Hotspotlaw29_Event) (i : Nat) (v : Int) : (l.flatMap e_Hotspotlaw29_Event).set (i * 6 + 3) (vi v) = (l.modify i (fun y => { y with At := v })).flatMap e_Hotspotlaw29_Event := rows_set l_Hotspotlaw29_Event l i 3 _ (fun y => { y with At := v }) (by decide) (fun _ => by rfl)
theorem r_Hotspotlaw29_Event_s_By (l : List Hotspotlaw29_Event) (i : Nat) (v : Int) : (l.flatMap e_Hotspotlaw29_Event).set (i * 6 + 4) (vu v) = (l.modify i (fun y => { y with By := v })).flatMap e_Hotspotlaw29_Event := rows_set l_Hotspotlaw29_Event l i 4 _ (fun y => { y with By := v }) (by decide) (fun _ => by rfl)
theorem r_Hotspotlaw29_Event_s_Wait (l : List Hotspotlaw29_Event) (i : Nat) (v : Int) : (l.flatMap e_Hotspotlaw29_Event).set (i * 6 + 5) (vi v) = (l.modify i (fun y => { y with Wait := v })).flatMap e_Hotspotlaw29_Event := rows_set l_Hotspotlaw29_Event l i 5 _ (fun y => { y with Wait := v }) (by decide) (fun _ => by rfl)
theorem r_Hotspotlaw29_Event_put (l : List Hotspotlaw29_Event) (i : Nat) (x : Hotspotlaw29_Event) : putAt (l.flatMap e_Hotspotlaw29_Event) (i * 6) (e_Hotspotlaw29_Event x) = (l.set i x).flatMap e_Hotspotlaw29_Event := rows_put l_Hotspotlaw29_Event (by decide) l i x
theorem r_Hotspotlaw29_Event_app (l : List Hotspotlaw29_Event) (x : Hotspotlaw29_Event) : (l.flatMap e_Hotspotlaw29_Event) ++ e_Hotspotlaw29_Event x = (l ++ [x]).flatMap e_Hotspotlaw29_Event := by simp
theorem r_Hotspotlaw29_Event_cat (l : List Hotspotlaw29_Event) (m : List Hotspotlaw29_Event) : (l.flatMap e_Hotspotlaw29_Event) ++ m.flatMap e_Hotspotlaw29_Event = (l ++ m).flatMap e_Hotspotlaw29_Event := List.flatMap_append.symm
theorem f_S_Hotspotlaw29_Event (l : List Hotspotlaw29_Event) (o : Nat → Ob) (n : Nat) : fz o (n + 2) (S_Hotspotlaw29_Event l) = S_Hotspotlaw29_Event l := by simp only [S_Hotspotlaw29_Event_eq, fz, r_Hotspotlaw29_Event_fz]
theorem q_S_Hotspotlaw29_Event (l : List Hotspotlaw29_Event) (o : Nat → Ob) (n : Nat) : reach o (n + 2) (S_Hotspotlaw29_Event l) = [] := by simp only [S_Hotspotlaw29_Event_eq, reach, r_Hotspotlaw29_Event_rch]
attribute [go_sem] S_Hotspotlaw29_Event_eq l_Hotspotlaw29_Event r_Hotspotlaw29_Event_len r_Hotspotlaw29_Event_get r_Hotspotlaw29_Event_get0 r_Hotspotlaw29_Event_sub r_Hotspotlaw29_Event_sub0 r_Hotspotlaw29_Event_subw r_Hotspotlaw29_Event_take r_Hotspotlaw29_Event_drop r_Hotspotlaw29_Event_fz r_Hotspotlaw29_Event_rch r_Hotspotlaw29_Event_s_Kind r_Hotspotlaw29_Event_s_To r_Hotspotlaw29_Event_s_Which r_Hotspotlaw29_Event_s_At r_Hotspotlaw29_Event_s_By r_Hotspotlaw29_Event_s_Wait r_Hotspotlaw29_Event_put r_Hotspotlaw29_Event_app r_Hotspotlaw29_Event_cat f_S_Hotspotlaw29_Event q_S_Hotspotlaw29_Event

structure Auth where
  Own : A6vu
  Peer : A6vu
  Stage : Int
  Base : Int
  Rand : Int
  Mask : Int
  Scalar : Int
  Element : Int
  OtherScalar : Int
  OtherElement : Int
  Confirm : A16vu
  Master : A16vu
  HasToken : Bool
  Token : Int
  Sync : Int
  Tries : Int
  Due : Int
  deriving DecidableEq

def Auth.z : Auth := ⟨A6vu.z, A6vu.z, 0, 0, 0, 0, 0, 0, 0, 0, A16vu.z, A16vu.z, false, 0, 0, 0, 0⟩

def e_Auth (x : Auth) : List AV := (e_A6vu x.Own) ++ (e_A6vu x.Peer) ++ [vu x.Stage, vq x.Base, vq x.Rand, vq x.Mask, vq x.Scalar, vq x.Element, vq x.OtherScalar, vq x.OtherElement] ++ (e_A16vu x.Confirm) ++ (e_A16vu x.Master) ++ [vb x.HasToken, vq x.Token, vi x.Sync, vi x.Tries, vi x.Due]

theorem e_Auth_len (x : Auth) : (e_Auth x).length = 57 := by rfl
theorem e_Auth_sub (x : Auth) : sub? (e_Auth x) 0 57 = some (e_Auth x) := by rfl
theorem e_Auth_take (x : Auth) : (e_Auth x).take 57 = (e_Auth x) := by rfl
theorem e_Auth_all (x : Auth) (y : Auth) : putAt (e_Auth x) 0 (e_Auth y) = e_Auth y := by rfl
theorem e_Auth_g_Stage (x : Auth) : (e_Auth x)[12]? = some (vu x.Stage) := by rfl
theorem e_Auth_s_Stage (x : Auth) (v : Int) : (e_Auth x).set 12 (vu v) = e_Auth { x with Stage := v } := by rfl
theorem e_Auth_g_Base (x : Auth) : (e_Auth x)[13]? = some (vq x.Base) := by rfl
theorem e_Auth_s_Base (x : Auth) (v : Int) : (e_Auth x).set 13 (vq v) = e_Auth { x with Base := v } := by rfl
theorem e_Auth_g_Rand (x : Auth) : (e_Auth x)[14]? = some (vq x.Rand) := by rfl
theorem e_Auth_s_Rand (x : Auth) (v : Int) : (e_Auth x).set 14 (vq v) = e_Auth { x with Rand := v } := by rfl
theorem e_Auth_g_Mask (x : Auth) : (e_Auth x)[15]? = some (vq x.Mask) := by rfl
theorem e_Auth_s_Mask (x : Auth) (v : Int) : (e_Auth x).set 15 (vq v) = e_Auth { x with Mask := v } := by rfl
theorem e_Auth_g_Scalar (x : Auth) : (e_Auth x)[16]? = some (vq x.Scalar) := by rfl
theorem e_Auth_s_Scalar (x : Auth) (v : Int) : (e_Auth x).set 16 (vq v) = e_Auth { x with Scalar := v } := by rfl
theorem e_Auth_g_Element (x : Auth) : (e_Auth x)[17]? = some (vq x.Element) := by rfl
theorem e_Auth_s_Element (x : Auth) (v : Int) : (e_Auth x).set 17 (vq v) = e_Auth { x with Element := v } := by rfl
theorem e_Auth_g_OtherScalar (x : Auth) : (e_Auth x)[18]? = some (vq x.OtherScalar) := by rfl
theorem e_Auth_s_OtherScalar (x : Auth) (v : Int) : (e_Auth x).set 18 (vq v) = e_Auth { x with OtherScalar := v } := by rfl
theorem e_Auth_g_OtherElement (x : Auth) : (e_Auth x)[19]? = some (vq x.OtherElement) := by rfl
theorem e_Auth_s_OtherElement (x : Auth) (v : Int) : (e_Auth x).set 19 (vq v) = e_Auth { x with OtherElement := v } := by rfl
theorem e_Auth_g_HasToken (x : Auth) : (e_Auth x)[52]? = some (vb x.HasToken) := by rfl
theorem e_Auth_s_HasToken (x : Auth) (v : Bool) : (e_Auth x).set 52 (vb v) = e_Auth { x with HasToken := v } := by rfl
theorem e_Auth_g_Token (x : Auth) : (e_Auth x)[53]? = some (vq x.Token) := by rfl
theorem e_Auth_s_Token (x : Auth) (v : Int) : (e_Auth x).set 53 (vq v) = e_Auth { x with Token := v } := by rfl
theorem e_Auth_g_Sync (x : Auth) : (e_Auth x)[54]? = some (vi x.Sync) := by rfl
theorem e_Auth_s_Sync (x : Auth) (v : Int) : (e_Auth x).set 54 (vi v) = e_Auth { x with Sync := v } := by rfl
theorem e_Auth_g_Tries (x : Auth) : (e_Auth x)[55]? = some (vi x.Tries) := by rfl
theorem e_Auth_s_Tries (x : Auth) (v : Int) : (e_Auth x).set 55 (vi v) = e_Auth { x with Tries := v } := by rfl
theorem e_Auth_g_Due (x : Auth) : (e_Auth x)[56]? = some (vi x.Due) := by rfl
theorem e_Auth_s_Due (x : Auth) (v : Int) : (e_Auth x).set 56 (vi v) = e_Auth { x with Due := v } := by rfl
theorem e_Auth_d_Own (x : Auth) : sub? (e_Auth x) 0 6 = some (e_A6vu x.Own) := by rfl
theorem e_Auth_p_Own (x : Auth) (v : A6vu) : putAt (e_Auth x) 0 (e_A6vu v) = e_Auth { x with Own := v } := by rfl
theorem e_Auth_d_Peer (x : Auth) : sub? (e_Auth x) 6 6 = some (e_A6vu x.Peer) := by rfl
theorem e_Auth_p_Peer (x : Auth) (v : A6vu) : putAt (e_Auth x) 6 (e_A6vu v) = e_Auth { x with Peer := v } := by rfl
theorem e_Auth_d_Confirm (x : Auth) : sub? (e_Auth x) 20 16 = some (e_A16vu x.Confirm) := by rfl
theorem e_Auth_p_Confirm (x : Auth) (v : A16vu) : putAt (e_Auth x) 20 (e_A16vu v) = e_Auth { x with Confirm := v } := by rfl
theorem e_Auth_d_Master (x : Auth) : sub? (e_Auth x) 36 16 = some (e_A16vu x.Master) := by rfl
theorem e_Auth_p_Master (x : Auth) (v : A16vu) : putAt (e_Auth x) 36 (e_A16vu v) = e_Auth { x with Master := v } := by rfl
theorem e_Auth_fz (x : Auth) (o : Nat → Ob) (n : Nat) : (e_Auth x).map (fz o (n + 1)) = e_Auth x := by rfl
theorem e_Auth_reach (x : Auth) (o : Nat → Ob) (n : Nat) : (e_Auth x).flatMap (reach o (n + 1)) = [] := by
  simp only [e_Auth, e_A6vu, e_A16vu, List.cons_append, List.nil_append, List.append_nil, List.flatMap_cons, List.flatMap_nil, reach_v]
theorem e_Auth_clean (x : Auth) : ∀ c ∈ (e_Auth x), Clean c := by
  simp only [e_Auth, e_A6vu, e_A16vu, List.cons_append, List.nil_append]
  repeat' (first | exact Clean.v _ | assumption | exact List.forall_mem_nil _ | refine List.forall_mem_cons.2 ⟨?_, ?_⟩)
theorem f_Auth (x : Auth) (o : Nat → Ob) (n : Nat) : (e_Auth x).map (fz o (n + 1)) = e_Auth x := by simp only [e_Auth_fz]
theorem q_Auth (x : Auth) (o : Nat → Ob) (n : Nat) : (e_Auth x).flatMap (reach o (n + 1)) = [] := by simp only [e_Auth_reach, List.append_nil]
theorem e_Auth_kinds (x : Auth) : kindsOk [some .u8, some .u8, some .u8, some .u8, some .u8, some .u8, some .u8, some .u8, some .u8, some .u8, some .u8, some .u8, some .u8, some .u64, some .u64, some .u64, some .u64, some .u64, some .u64, some .u64, some .u8, some .u8, some .u8, some .u8, some .u8, some .u8, some .u8, some .u8, some .u8, some .u8, some .u8, some .u8, some .u8, some .u8, some .u8, some .u8, some .u8, some .u8, some .u8, some .u8, some .u8, some .u8, some .u8, some .u8, some .u8, some .u8, some .u8, some .u8, some .u8, some .u8, some .u8, some .u8, none, some .u64, some .i64, some .i64, some .i64] (e_Auth x) = true := by rfl
theorem e_Auth_eq (x y : Auth) : eqCells (e_Auth x) (e_Auth y) = decide (x = y) := by
  rw [Bool.eq_iff_iff]
  simp only [e_Auth, e_A6vu, e_A16vu, List.cons_append, List.nil_append, List.append_nil, eqCells, eqv, Bool.and_eq_true, beq_iff_eq, decide_eq_true_eq, and_true]
  constructor
  · intro h
    obtain ⟨⟨v1, v2, v3, v4, v5, v6⟩, ⟨v7, v8, v9, v10, v11, v12⟩, v13, v14, v15, v16, v17, v18, v19, v20, ⟨v21, v22, v23, v24, v25, v26, v27, v28, v29, v30, v31, v32, v33, v34, v35, v36⟩, ⟨v37, v38, v39, v40, v41, v42, v43, v44, v45, v46, v47, v48, v49, v50, v51, v52⟩, v53, v54, v55, v56, v57⟩ := x
    obtain ⟨⟨v58', v59', v60', v61', v62', v63'⟩, ⟨v64', v65', v66', v67', v68', v69'⟩, v70', v71', v72', v73', v74', v75', v76', v77', ⟨v78', v79', v80', v81', v82', v83', v84', v85', v86', v87', v88', v89', v90', v91', v92', v93'⟩, ⟨v94', v95', v96', v97', v98', v99', v100', v101', v102', v103', v104', v105', v106', v107', v108', v109'⟩, v110', v111', v112', v113', v114'⟩ := y
    simp_all
  · rintro rfl
    simp
attribute [go_sem] e_Auth_len e_Auth_sub e_Auth_take e_Auth_all e_Auth_g_Stage e_Auth_s_Stage e_Auth_g_Base e_Auth_s_Base e_Auth_g_Rand e_Auth_s_Rand e_Auth_g_Mask e_Auth_s_Mask e_Auth_g_Scalar e_Auth_s_Scalar e_Auth_g_Element e_Auth_s_Element e_Auth_g_OtherScalar e_Auth_s_OtherScalar e_Auth_g_OtherElement e_Auth_s_OtherElement e_Auth_g_HasToken e_Auth_s_HasToken e_Auth_g_Token e_Auth_s_Token e_Auth_g_Sync e_Auth_s_Sync e_Auth_g_Tries e_Auth_s_Tries e_Auth_g_Due e_Auth_s_Due e_Auth_d_Own e_Auth_p_Own e_Auth_d_Peer e_Auth_p_Peer e_Auth_d_Confirm e_Auth_p_Confirm e_Auth_d_Master e_Auth_p_Master e_Auth_fz e_Auth_reach e_Auth_kinds e_Auth_eq f_Auth q_Auth

structure A2_Auth where
  a0 : Auth
  a1 : Auth
  deriving DecidableEq

def A2_Auth.z : A2_Auth := ⟨Auth.z, Auth.z⟩

def e_A2_Auth (x : A2_Auth) : List AV := (e_Auth x.a0) ++ (e_Auth x.a1)

theorem e_A2_Auth_len (x : A2_Auth) : (e_A2_Auth x).length = 114 := by rfl
theorem e_A2_Auth_sub (x : A2_Auth) : sub? (e_A2_Auth x) 0 114 = some (e_A2_Auth x) := by rfl
theorem e_A2_Auth_take (x : A2_Auth) : (e_A2_Auth x).take 114 = (e_A2_Auth x) := by rfl
theorem e_A2_Auth_all (x : A2_Auth) (y : A2_Auth) : putAt (e_A2_Auth x) 0 (e_A2_Auth y) = e_A2_Auth y := by rfl
theorem e_A2_Auth_d_a0 (x : A2_Auth) : sub? (e_A2_Auth x) 0 57 = some (e_Auth x.a0) := by rfl
theorem e_A2_Auth_p_a0 (x : A2_Auth) (v : Auth) : putAt (e_A2_Auth x) 0 (e_Auth v) = e_A2_Auth { x with a0 := v } := by rfl
theorem e_A2_Auth_d_a1 (x : A2_Auth) : sub? (e_A2_Auth x) 57 57 = some (e_Auth x.a1) := by rfl
theorem e_A2_Auth_p_a1 (x : A2_Auth) (v : Auth) : putAt (e_A2_Auth x) 57 (e_Auth v) = e_A2_Auth { x with a1 := v } := by rfl
theorem e_A2_Auth_fz (x : A2_Auth) (o : Nat → Ob) (n : Nat) : (e_A2_Auth x).map (fz o (n + 1)) = e_A2_Auth x := by rfl
theorem e_A2_Auth_reach (x : A2_Auth) (o : Nat → Ob) (n : Nat) : (e_A2_Auth x).flatMap (reach o (n + 1)) = [] := by
  simp only [e_A2_Auth, e_Auth, e_A6vu, e_A16vu, List.cons_append, List.nil_append, List.append_nil, List.flatMap_cons, List.flatMap_nil, reach_v]
theorem e_A2_Auth_clean (x : A2_Auth) : ∀ c ∈ (e_A2_Auth x), Clean c := by
  simp only [e_A2_Auth, e_Auth, e_A6vu, e_A16vu, List.cons_append, List.nil_append]
  repeat' (first | exact Clean.v _ | assumption | exact List.forall_mem_nil _ | refine List.forall_mem_cons.2 ⟨?_, ?_⟩)
def A2_Auth.setA (x : A2_Auth) (i : Nat) (v : Auth) : A2_Auth := ⟨bif i == 0 then v else x.a0, bif i == 1 then v else x.a1⟩
theorem e_A2_Auth_setA (x : A2_Auth) (v : Auth) : ∀ {i : Nat}, i < 2 → putAt (e_A2_Auth x) (i * 57) (e_Auth v) = e_A2_Auth (x.setA i v)
  | 0, _ => by rfl
  | 1, _ => by rfl
  | k + 2, h => absurd h (by omega)
theorem e_A2_Auth_getA (x : A2_Auth) {v : Auth} : ∀ {i : Nat}, [x.a0, x.a1][i]? = some v → sub? (e_A2_Auth x) (i * 57) 57 = some (e_Auth v)
  | 0, h => by cases h; rfl
  | 1, h => by cases h; rfl
  | k + 2, h => by cases h
theorem f_A2_Auth (x : A2_Auth) (o : Nat → Ob) (n : Nat) : (e_A2_Auth x).map (fz o (n + 1)) = e_A2_Auth x := by simp only [e_A2_Auth_fz]
theorem q_A2_Auth (x : A2_Auth) (o : Nat → Ob) (n : Nat) : (e_A2_Auth x).flatMap (reach o (n + 1)) = [] := by simp only [e_A2_Auth_reach, List.append_nil]
attribute [go_sem] e_A2_Auth_len e_A2_Auth_sub e_A2_Auth_take e_A2_Auth_all e_A2_Auth_d_a0 e_A2_Auth_p_a0 e_A2_Auth_d_a1 e_A2_Auth_p_a1 e_A2_Auth_fz e_A2_Auth_reach f_A2_Auth q_A2_Auth

def S_S_vu (l : List (List Int)) : AV := .imm (List.map S_vu l) l.length
theorem S_S_vu_eq (l : List (List Int)) : S_S_vu l = .imm (List.map S_vu l) l.length := rfl
theorem S_S_vu_clean (l : List (List Int)) : Clean (S_S_vu l) := Clean.imm fun c hc => by
  obtain ⟨a, _, rfl⟩ := List.mem_map.1 hc
  exact S_vu_clean a
theorem f_S_S_vu (l : List (List Int)) (o : Nat → Ob) (n : Nat) : fz o (n + 3) (S_S_vu l) = S_S_vu l := by
  simp only [S_S_vu_eq, fz, List.map_map]
  congr 1
  exact List.map_congr_left fun a _ => f_S_vu a o n
theorem cS_vu (l : List (List Int)) : ∀ c ∈ l.map S_vu, Clean c := fun c hc => by
  obtain ⟨a, _, rfl⟩ := List.mem_map.1 hc
  exact S_vu_clean a
theorem rS_S_vu_take (l : List (List Int)) (n : Nat) : (l.map S_vu).take n = (l.take n).map S_vu := List.map_take.symm
theorem rS_S_vu_drop (l : List (List Int)) (n : Nat) : (l.map S_vu).drop n = (l.drop n).map S_vu := List.map_drop.symm
theorem rS_S_vu_subw (l : List (List Int)) : sub? (l.map S_vu) 0 l.length = some (l.map S_vu) := by rw [sub?, if_pos (by simp), List.drop_zero, List.take_of_length_le (by simp)]
theorem rS_S_vu_fz (l : List (List Int)) (o : Nat → Ob) (n : Nat) : (l.map S_vu).map (fz o (n + 2)) = (l.map S_vu) := by
  rw [List.map_map]; exact List.map_congr_left fun a _ => f_S_vu a o n
theorem rS_S_vu_app (l : List (List Int)) (x : (List Int)) : (l.map S_vu) ++ [.imm (List.map vu x) x.length] = (l ++ [x]).map S_vu := by rw [List.map_append]; rfl
theorem rS_S_vu_cat (l : List (List Int)) (m : List (List Int)) : (l.map S_vu) ++ m.map S_vu = (l ++ m).map S_vu := List.map_append.symm
theorem rS_S_vu_rch (l : List (List Int)) (o : Nat → Ob) (n : Nat) : (l.map S_vu).flatMap (reach o (n + 2)) = [] := by
  rw [List.flatMap_eq_nil_iff]
  intro c hc
  obtain ⟨a, _, rfl⟩ := List.mem_map.1 hc
  exact q_S_vu a o n
attribute [go_sem] S_S_vu_eq rS_S_vu_take rS_S_vu_drop rS_S_vu_subw rS_S_vu_fz rS_S_vu_app rS_S_vu_cat rS_S_vu_rch f_S_S_vu

structure A2vu where
  a0 : Int
  a1 : Int
  deriving DecidableEq

def A2vu.z : A2vu := ⟨0, 0⟩

def e_A2vu (x : A2vu) : List AV := [vu x.a0, vu x.a1]

theorem e_A2vu_len (x : A2vu) : (e_A2vu x).length = 2 := by rfl
theorem e_A2vu_sub (x : A2vu) : sub? (e_A2vu x) 0 2 = some (e_A2vu x) := by rfl
theorem e_A2vu_take (x : A2vu) : (e_A2vu x).take 2 = (e_A2vu x) := by rfl
theorem e_A2vu_all (x : A2vu) (y : A2vu) : putAt (e_A2vu x) 0 (e_A2vu y) = e_A2vu y := by rfl
theorem e_A2vu_s_a0 (x : A2vu) (v : Int) : (e_A2vu x).set 0 (vu v) = e_A2vu { x with a0 := v } := by rfl
theorem e_A2vu_s_a1 (x : A2vu) (v : Int) : (e_A2vu x).set 1 (vu v) = e_A2vu { x with a1 := v } := by rfl
theorem e_A2vu_fz (x : A2vu) (o : Nat → Ob) (n : Nat) : (e_A2vu x).map (fz o (n + 1)) = e_A2vu x := by rfl
theorem e_A2vu_reach (x : A2vu) (o : Nat → Ob) (n : Nat) : (e_A2vu x).flatMap (reach o (n + 1)) = [] := by
  simp only [e_A2vu, List.cons_append, List.nil_append, List.append_nil, List.flatMap_cons, List.flatMap_nil, reach_v]
def A2vu.setA (x : A2vu) (i : Nat) (v : Int) : A2vu := ⟨bif i == 0 then v else x.a0, bif i == 1 then v else x.a1⟩
theorem f_A2vu (x : A2vu) (o : Nat → Ob) (n : Nat) : (e_A2vu x).map (fz o (n + 1)) = e_A2vu x := by simp only [e_A2vu_fz]
theorem q_A2vu (x : A2vu) (o : Nat → Ob) (n : Nat) : (e_A2vu x).flatMap (reach o (n + 1)) = [] := by simp only [e_A2vu_reach, List.append_nil]
theorem e_A2vu_kinds (x : A2vu) : kindsOk [some .u8, some .u8] (e_A2vu x) = true := by rfl
theorem e_A2vu_eq (x y : A2vu) : eqCells (e_A2vu x) (e_A2vu y) = decide (x = y) := by
  rw [Bool.eq_iff_iff]
  simp only [e_A2vu, List.cons_append, List.nil_append, List.append_nil, eqCells, eqv, Bool.and_eq_true, beq_iff_eq, decide_eq_true_eq, and_true]
  constructor
  · intro h
    obtain ⟨v1, v2⟩ := x
    obtain ⟨v3', v4'⟩ := y
    simp_all
  · rintro rfl
    simp
attribute [go_sem] e_A2vu_len e_A2vu_sub e_A2vu_take e_A2vu_all e_A2vu_s_a0 e_A2vu_s_a1 e_A2vu_fz e_A2vu_reach e_A2vu_kinds e_A2vu_eq f_A2vu q_A2vu

structure A36vw where
  a0 : Int
  a1 : Int
  a2 : Int
  a3 : Int
  a4 : Int
  a5 : Int
  a6 : Int
  a7 : Int
  a8 : Int
  a9 : Int
  a10 : Int
  a11 : Int
  a12 : Int
  a13 : Int
  a14 : Int
  a15 : Int
  a16 : Int
  a17 : Int
  a18 : Int
  a19 : Int
  a20 : Int
  a21 : Int
  a22 : Int
  a23 : Int
  a24 : Int
  a25 : Int
  a26 : Int
  a27 : Int
  a28 : Int
  a29 : Int
  a30 : Int
  a31 : Int
  a32 : Int
  a33 : Int
  a34 : Int
  a35 : Int
  deriving DecidableEq

def A36vw.z : A36vw := ⟨0, 0, 0, 0, 0, 0, 0, 0, 0, 0, 0, 0, 0, 0, 0, 0, 0, 0, 0, 0, 0, 0, 0, 0, 0, 0, 0, 0, 0, 0, 0, 0, 0, 0, 0, 0⟩

def e_A36vw (x : A36vw) : List AV := [vw x.a0, vw x.a1, vw x.a2, vw x.a3, vw x.a4, vw x.a5, vw x.a6, vw x.a7, vw x.a8, vw x.a9, vw x.a10, vw x.a11, vw x.a12, vw x.a13, vw x.a14, vw x.a15, vw x.a16, vw x.a17, vw x.a18, vw x.a19, vw x.a20, vw x.a21, vw x.a22, vw x.a23, vw x.a24, vw x.a25, vw x.a26, vw x.a27, vw x.a28, vw x.a29, vw x.a30, vw x.a31, vw x.a32, vw x.a33, vw x.a34, vw x.a35]

theorem e_A36vw_len (x : A36vw) : (e_A36vw x).length = 36 := by rfl
theorem e_A36vw_sub (x : A36vw) : sub? (e_A36vw x) 0 36 = some (e_A36vw x) := by rfl
theorem e_A36vw_take (x : A36vw) : (e_A36vw x).take 36 = (e_A36vw x) := by rfl
theorem e_A36vw_all (x : A36vw) (y : A36vw) : putAt (e_A36vw x) 0 (e_A36vw y) = e_A36vw y := by rfl
theorem e_A36vw_g_a0 (x : A36vw) : (e_A36vw x)[0]? = some (vw x.a0) := by rfl
theorem e_A36vw_s_a0 (x : A36vw) (v : Int) : (e_A36vw x).set 0 (vw v) = e_A36vw { x with a0 := v } := by rfl
theorem e_A36vw_s_a4 (x : A36vw) (v : Int) : (e_A36vw x).set 4 (vw v) = e_A36vw { x with a4 := v } := by rfl
theorem e_A36vw_fz (x : A36vw) (o : Nat → Ob) (n : Nat) : (e_A36vw x).map (fz o (n + 1)) = e_A36vw x := by rfl
theorem e_A36vw_reach (x : A36vw) (o : Nat → Ob) (n : Nat) : (e_A36vw x).flatMap (reach o (n + 1)) = [] := by
  simp only [e_A36vw, List.cons_append, List.nil_append, List.append_nil, List.flatMap_cons, List.flatMap_nil, reach_v]
theorem e_A36vw_clean (x : A36vw) : ∀ c ∈ (e_A36vw x), Clean c := by
  simp only [e_A36vw, List.cons_append, List.nil_append]
  repeat' (first | exact Clean.v _ | assumption | exact List.forall_mem_nil _ | refine List.forall_mem_cons.2 ⟨?_, ?_⟩)
def A36vw.setA (x : A36vw) (i : Nat) (v : Int) : A36vw := ⟨bif i == 0 then v else x.a0, bif i == 1 then v else x.a1, bif i == 2 then v else x.a2, bif i == 3 then v else x.a3, bif i == 4 then v else x.a4, bif i == 5 then v else x.a5, bif i == 6 then v else x.a6, bif i == 7 then v else x.a7, bif i == 8 then v else x.a8, bif i == 9 then v else x.a9, bif i == 10 then v else x.a10, bif i == 11 then v else x.a11, bif i == 12 then v else x.a12, bif i == 13 then v else x.a13, bif i == 14 then v else x.a14, bif i == 15 then v else x.a15, bif i == 16 then v else x.a16, bif i == 17 then v else x.a17, bif i == 18 then v else x.a18, bif i == 19 then v else x.a19, bif i == 20 then v else x.a20, bif i == 21 then v else x.a21, bif i == 22 then v else x.a22, bif i == 23 then v else x.a23, bif i == 24 then v else x.a24, bif i == 25 then v else x.a25, bif i == 26 then v else x.a26, bif i == 27 then v else x.a27, bif i == 28 then v else x.a28, bif i == 29 then v else x.a29, bif i == 30 then v else x.a30, bif i == 31 then v else x.a31, bif i == 32 then v else x.a32, bif i == 33 then v else x.a33, bif i == 34 then v else x.a34, bif i == 35 then v else x.a35⟩
theorem e_A36vw_setA (x : A36vw) (v : Int) : ∀ {i : Nat}, i < 36 → (e_A36vw x).set i (vw v) = e_A36vw (x.setA i v)
  | 0, _ => rfl
  | 1, _ => rfl
  | 2, _ => rfl
  | 3, _ => rfl
  | 4, _ => rfl
  | 5, _ => rfl
  | 6, _ => rfl
  | 7, _ => rfl
  | 8, _ => rfl
  | 9, _ => rfl
  | 10, _ => rfl
  | 11, _ => rfl
  | 12, _ => rfl
  | 13, _ => rfl
  | 14, _ => rfl
  | 15, _ => rfl
  | 16, _ => rfl
  | 17, _ => rfl
  | 18, _ => rfl
  | 19, _ => rfl
  | 20, _ => rfl
  | 21, _ => rfl
  | 22, _ => rfl
  | 23, _ => rfl
  | 24, _ => rfl
  | 25, _ => rfl
  | 26, _ => rfl
  | 27, _ => rfl
  | 28, _ => rfl
  | 29, _ => rfl
  | 30, _ => rfl
  | 31, _ => rfl
  | 32, _ => rfl
  | 33, _ => rfl
  | 34, _ => rfl
  | 35, _ => rfl
  | k + 36, h => absurd h (by omega)
theorem f_A36vw (x : A36vw) (o : Nat → Ob) (n : Nat) : (e_A36vw x).map (fz o (n + 1)) = e_A36vw x := by simp only [e_A36vw_fz]
theorem q_A36vw (x : A36vw) (o : Nat → Ob) (n : Nat) : (e_A36vw x).flatMap (reach o (n + 1)) = [] := by simp only [e_A36vw_reach, List.append_nil]
attribute [go_sem] e_A36vw_len e_A36vw_sub e_A36vw_take e_A36vw_all e_A36vw_g_a0 e_A36vw_s_a0 e_A36vw_s_a4 e_A36vw_fz e_A36vw_reach f_A36vw q_A36vw

structure A4vw where
  a0 : Int
  a1 : Int
  a2 : Int
  a3 : Int
  deriving DecidableEq

def A4vw.z : A4vw := ⟨0, 0, 0, 0⟩

def e_A4vw (x : A4vw) : List AV := [vw x.a0, vw x.a1, vw x.a2, vw x.a3]

theorem e_A4vw_len (x : A4vw) : (e_A4vw x).length = 4 := by rfl
theorem e_A4vw_sub (x : A4vw) : sub? (e_A4vw x) 0 4 = some (e_A4vw x) := by rfl
theorem e_A4vw_take (x : A4vw) : (e_A4vw x).take 4 = (e_A4vw x) := by rfl
theorem e_A4vw_all (x : A4vw) (y : A4vw) : putAt (e_A4vw x) 0 (e_A4vw y) = e_A4vw y := by rfl
theorem e_A4vw_g_a0 (x : A4vw) : (e_A4vw x)[0]? = some (vw x.a0) := by rfl
theorem e_A4vw_s_a0 (x : A4vw) (v : Int) : (e_A4vw x).set 0 (vw v) = e_A4vw { x with a0 := v } := by rfl
theorem e_A4vw_g_a1 (x : A4vw) : (e_A4vw x)[1]? = some (vw x.a1) := by rfl
theorem e_A4vw_s_a1 (x : A4vw) (v : Int) : (e_A4vw x).set 1 (vw v) = e_A4vw { x with a1 := v } := by rfl
theorem e_A4vw_g_a2 (x : A4vw) : (e_A4vw x)[2]? = some (vw x.a2) := by rfl
theorem e_A4vw_s_a2 (x : A4vw) (v : Int) : (e_A4vw x).set 2 (vw v) = e_A4vw { x with a2 := v } := by rfl
theorem e_A4vw_g_a3 (x : A4vw) : (e_A4vw x)[3]? = some (vw x.a3) := by rfl
theorem e_A4vw_s_a3 (x : A4vw) (v : Int) : (e_A4vw x).set 3 (vw v) = e_A4vw { x with a3 := v } := by rfl
theorem e_A4vw_fz (x : A4vw) (o : Nat → Ob) (n : Nat) : (e_A4vw x).map (fz o (n + 1)) = e_A4vw x := by rfl
theorem e_A4vw_reach (x : A4vw) (o : Nat → Ob) (n : Nat) : (e_A4vw x).flatMap (reach o (n + 1)) = [] := by
  simp only [e_A4vw, List.cons_append, List.nil_append, List.append_nil, List.flatMap_cons, List.flatMap_nil, reach_v]
theorem e_A4vw_clean (x : A4vw) : ∀ c ∈ (e_A4vw x), Clean c := by
  simp only [e_A4vw, List.cons_append, List.nil_append]
  repeat' (first | exact Clean.v _ | assumption | exact List.forall_mem_nil _ | refine List.forall_mem_cons.2 ⟨?_, ?_⟩)
def A4vw.setA (x : A4vw) (i : Nat) (v : Int) : A4vw := ⟨bif i == 0 then v else x.a0, bif i == 1 then v else x.a1, bif i == 2 then v else x.a2, bif i == 3 then v else x.a3⟩
theorem e_A4vw_setA (x : A4vw) (v : Int) : ∀ {i : Nat}, i < 4 → (e_A4vw x).set i (vw v) = e_A4vw (x.setA i v)
  | 0, _ => rfl
  | 1, _ => rfl
  | 2, _ => rfl
  | 3, _ => rfl
  | k + 4, h => absurd h (by omega)
theorem f_A4vw (x : A4vw) (o : Nat → Ob) (n : Nat) : (e_A4vw x).map (fz o (n + 1)) = e_A4vw x := by simp only [e_A4vw_fz]
theorem q_A4vw (x : A4vw) (o : Nat → Ob) (n : Nat) : (e_A4vw x).flatMap (reach o (n + 1)) = [] := by simp only [e_A4vw_reach, List.append_nil]
attribute [go_sem] e_A4vw_len e_A4vw_sub e_A4vw_take e_A4vw_all e_A4vw_g_a0 e_A4vw_s_a0 e_A4vw_g_a1 e_A4vw_s_a1 e_A4vw_g_a2 e_A4vw_s_a2 e_A4vw_g_a3 e_A4vw_s_a3 e_A4vw_fz e_A4vw_reach f_A4vw q_A4vw

end Go.AX.Z.TV

/-! (TVD) -/

set_option linter.unusedSimpArgs false
set_option linter.unusedVariables false
set_option maxHeartbeats 4000000
set_option maxRecDepth 20000
namespace Go.AX.Z.TV
open Go.AX

def derive_two (a0 : Int) : Option (List Int) :=
  some [IntKind.wrap .u8 a0, IntKind.wrap .u8 ((a0).fdiv (2 ^ (min 8 64)))]

def derive_join_L2 (a0 : (List (List Int))) : Nat → (List Int × Int) → Option ((List Int))
  | 0, _ => none
  | n2 + 1, d5 =>
    bif decide (d5.2 < (a0.length : Int)) then
      ((idx a0 d5.2).bind fun x6 =>
      ((chk (decide ((d5.1).length + x6.length ≤ 140737488355328))).bind fun x7 =>
      derive_join_L2 a0 n2 ((d5.1 ++ x6), IntKind.wrap .i64 (d5.2 + 1))))
    else
      some d5.1

def derive_join (a0 : (List (List Int))) : Option (List Int) :=
  ((
    derive_join_L2 a0 big ([], 0)).bind fun d4 =>
  some d4)

def cipher_Words_L2 (a0 : A16vu) : Nat → (A4vw × Int) → Option (A4vw)
  | 0, _ => none
  | n2 + 1, d11 =>
    bif decide (d11.2 < 16) then
      ((idxA 16 [a0.a0, a0.a1, a0.a2, a0.a3, a0.a4, a0.a5, a0.a6, a0.a7, a0.a8, a0.a9, a0.a10, a0.a11, a0.a12, a0.a13, a0.a14, a0.a15] d11.2).bind fun x12 =>
      ((idxA 4 [d11.1.a0, d11.1.a1, d11.1.a2, d11.1.a3] (IntKind.wrap .i64 ((d11.2).tdiv 4))).bind fun x13 =>
      ((chk (decide (¬ (IntKind.wrap .i64 (((d11.2).tmod 4) * 8)) < 0))).bind fun x14 =>
      cipher_Words_L2 a0 n2 ((d11.1.setA ((IntKind.wrap .i64 ((d11.2).tdiv 4)).toNat) (bor .u32 x13 (IntKind.wrap .u32 ((IntKind.wrap .u32 x12) * 2 ^ (min ((IntKind.wrap .i64 (((d11.2).tmod 4) * 8))).toNat 32))))), IntKind.wrap .i64 (d11.2 + 1)))))
    else
      some d11.1

def cipher_Words (a0 : A16vu) : Option A4vw :=
  ((
    cipher_Words_L2 a0 big (A4vw.z, 0)).bind fun d10 =>
  some d10)

def math_bits_RotateLeft32 (a0 : Int) (a1 : Int) : Option Int :=
  ((chk (decide (¬ (band .u64 (IntKind.wrap .u64 a1) 31) < 0))).bind fun x19 =>
  ((chk (decide (¬ (IntKind.wrap .u64 (32 - (band .u64 (IntKind.wrap .u64 a1) 31))) < 0))).bind fun x20 =>
  some (bor .u32 (IntKind.wrap .u32 (a0 * 2 ^ (min ((band .u64 (IntKind.wrap .u64 a1) 31)).toNat 32))) ((a0).fdiv (2 ^ (min ((IntKind.wrap .u64 (32 - (band .u64 (IntKind.wrap .u64 a1) 31)))).toNat 32))))))

def cipher_Schedule_L3 (a0 : A16vu) : Nat → (A36vw × Int) → Option (A36vw)
  | 0, _ => none
  | n3 + 1, d12 =>
    bif decide (d12.2 < 36) then
      ((idxA 36 [d12.1.a0, d12.1.a1, d12.1.a2, d12.1.a3, d12.1.a4, d12.1.a5, d12.1.a6, d12.1.a7, d12.1.a8, d12.1.a9, d12.1.a10, d12.1.a11, d12.1.a12, d12.1.a13, d12.1.a14, d12.1.a15, d12.1.a16, d12.1.a17, d12.1.a18, d12.1.a19, d12.1.a20, d12.1.a21, d12.1.a22, d12.1.a23, d12.1.a24, d12.1.a25, d12.1.a26, d12.1.a27, d12.1.a28, d12.1.a29, d12.1.a30, d12.1.a31, d12.1.a32, d12.1.a33, d12.1.a34, d12.1.a35] (IntKind.wrap .i64 (d12.2 - 4))).bind fun x13 =>
      ((idxA 36 [d12.1.a0, d12.1.a1, d12.1.a2, d12.1.a3, d12.1.a4, d12.1.a5, d12.1.a6, d12.1.a7, d12.1.a8, d12.1.a9, d12.1.a10, d12.1.a11, d12.1.a12, d12.1.a13, d12.1.a14, d12.1.a15, d12.1.a16, d12.1.a17, d12.1.a18, d12.1.a19, d12.1.a20, d12.1.a21, d12.1.a22, d12.1.a23, d12.1.a24, d12.1.a25, d12.1.a26, d12.1.a27, d12.1.a28, d12.1.a29, d12.1.a30, d12.1.a31, d12.1.a32, d12.1.a33, d12.1.a34, d12.1.a35] (IntKind.wrap .i64 (d12.2 - 1))).bind fun x14 =>
      ((math_bits_RotateLeft32 x14 7).bind fun x15 =>
      ((idxA 36 [d12.1.a0, d12.1.a1, d12.1.a2, d12.1.a3, d12.1.a4, d12.1.a5, d12.1.a6, d12.1.a7, d12.1.a8, d12.1.a9, d12.1.a10, d12.1.a11, d12.1.a12, d12.1.a13, d12.1.a14, d12.1.a15, d12.1.a16, d12.1.a17, d12.1.a18, d12.1.a19, d12.1.a20, d12.1.a21, d12.1.a22, d12.1.a23, d12.1.a24, d12.1.a25, d12.1.a26, d12.1.a27, d12.1.a28, d12.1.a29, d12.1.a30, d12.1.a31, d12.1.a32, d12.1.a33, d12.1.a34, d12.1.a35] d12.2).bind fun x16 =>
      cipher_Schedule_L3 a0 n3 ((d12.1.setA ((d12.2).toNat) (IntKind.wrap .u32 (x13 + (bxor .u32 x15 (IntKind.wrap .u32 ((IntKind.wrap .u32 ((IntKind.wrap .u32 d12.2) * 2050759141)) + 525043411)))))), IntKind.wrap .i64 (d12.2 + 1))))))
    else
      some d12.1

def cipher_Schedule (a0 : A16vu) : Option A36vw :=
  ((cipher_Words a0).bind fun x10 =>
  ((
    cipher_Schedule_L3 a0 big ({ A36vw.z with a0 := x10.a0, a1 := x10.a1, a2 := x10.a2, a3 := x10.a3 }, 4)).bind fun d11 =>
  some d11))

def cipher_mask_L2 (a0 : A4vw) (a1 : A36vw) : Nat → (A4vw × Int) → Option (A4vw)
  | 0, _ => none
  | n2 + 1, d20 =>
    bif decide (d20.2 < 4) then
      ((idxA 4 [d20.1.a0, d20.1.a1, d20.1.a2, d20.1.a3] d20.2).bind fun x21 =>
      ((idxA 36 [a1.a0, a1.a1, a1.a2, a1.a3, a1.a4, a1.a5, a1.a6, a1.a7, a1.a8, a1.a9, a1.a10, a1.a11, a1.a12, a1.a13, a1.a14, a1.a15, a1.a16, a1.a17, a1.a18, a1.a19, a1.a20, a1.a21, a1.a22, a1.a23, a1.a24, a1.a25, a1.a26, a1.a27, a1.a28, a1.a29, a1.a30, a1.a31, a1.a32, a1.a33, a1.a34, a1.a35] d20.2).bind fun x22 =>
      cipher_mask_L2 a0 a1 n2 ((d20.1.setA ((d20.2).toNat) (bxor .u32 x21 x22)), IntKind.wrap .i64 (d20.2 + 1))))
    else
      some d20.1

def cipher_mask (a0 : A4vw) (a1 : A36vw) : Option A4vw :=
  ((
    cipher_mask_L2 a0 a1 big (a0, 0)).bind fun d19 =>
  some d19)

def cipher_Round (a0 : A4vw) (a1 : Int) (a2 : Int) : Option A4vw :=
  ((math_bits_RotateLeft32 a0.a1 5).bind fun x27 =>
  ((math_bits_RotateLeft32 a0.a3 9).bind fun x28 =>
  ((math_bits_RotateLeft32 (IntKind.wrap .u32 ((IntKind.wrap .u32 (a0.a2 + (bxor .u32 x28 a2))) + a1)) 13).bind fun x29 =>
  ((math_bits_RotateLeft32 (IntKind.wrap .u32 ((IntKind.wrap .u32 (a0.a0 + (bxor .u32 x27 a1))) + a2)) 19).bind fun x30 =>
  some { A4vw.z with a0 := bxor .u32 a0.a1 x29, a1 := IntKind.wrap .u32 (a0.a2 + (bxor .u32 x28 a2)), a2 := bxor .u32 a0.a3 x30, a3 := IntKind.wrap .u32 (a0.a0 + (bxor .u32 x27 a1)) }))))

def cipher_Join_L2 (a0 : A4vw) : Nat → (A16vu × Int) → Option (A16vu)
  | 0, _ => none
  | n2 + 1, d30 =>
    bif decide (d30.2 < 16) then
      ((idxA 4 [a0.a0, a0.a1, a0.a2, a0.a3] (IntKind.wrap .i64 ((d30.2).tdiv 4))).bind fun x31 =>
      ((chk (decide (¬ (IntKind.wrap .i64 (((d30.2).tmod 4) * 8)) < 0))).bind fun x32 =>
      ((idxA 16 [d30.1.a0, d30.1.a1, d30.1.a2, d30.1.a3, d30.1.a4, d30.1.a5, d30.1.a6, d30.1.a7, d30.1.a8, d30.1.a9, d30.1.a10, d30.1.a11, d30.1.a12, d30.1.a13, d30.1.a14, d30.1.a15] d30.2).bind fun x33 =>
      cipher_Join_L2 a0 n2 ((d30.1.setA ((d30.2).toNat) (IntKind.wrap .u8 ((x31).fdiv (2 ^ (min ((IntKind.wrap .i64 (((d30.2).tmod 4) * 8))).toNat 32))))), IntKind.wrap .i64 (d30.2 + 1)))))
    else
      some d30.1

def cipher_Join (a0 : A4vw) : Option A16vu :=
  ((
    cipher_Join_L2 a0 big (A16vu.z, 0)).bind fun d29 =>
  some d29)

def cipher_Encrypt_L4 (x10 : A36vw) (a0 : A16vu) (a1 : A16vu) : Nat → (A4vw × Int) → Option (A4vw)
  | 0, _ => none
  | n2 + 1, d14 =>
    bif decide (d14.2 < 16) then
      ((idxA 36 [x10.a0, x10.a1, x10.a2, x10.a3, x10.a4, x10.a5, x10.a6, x10.a7, x10.a8, x10.a9, x10.a10, x10.a11, x10.a12, x10.a13, x10.a14, x10.a15, x10.a16, x10.a17, x10.a18, x10.a19, x10.a20, x10.a21, x10.a22, x10.a23, x10.a24, x10.a25, x10.a26, x10.a27, x10.a28, x10.a29, x10.a30, x10.a31, x10.a32, x10.a33, x10.a34, x10.a35] (IntKind.wrap .i64 (4 + (IntKind.wrap .i64 (2 * d14.2))))).bind fun x15 =>
      ((idxA 36 [x10.a0, x10.a1, x10.a2, x10.a3, x10.a4, x10.a5, x10.a6, x10.a7, x10.a8, x10.a9, x10.a10, x10.a11, x10.a12, x10.a13, x10.a14, x10.a15, x10.a16, x10.a17, x10.a18, x10.a19, x10.a20, x10.a21, x10.a22, x10.a23, x10.a24, x10.a25, x10.a26, x10.a27, x10.a28, x10.a29, x10.a30, x10.a31, x10.a32, x10.a33, x10.a34, x10.a35] (IntKind.wrap .i64 (5 + (IntKind.wrap .i64 (2 * d14.2))))).bind fun x16 =>
      ((cipher_Round d14.1 x15 x16).bind fun x17 =>
      cipher_Encrypt_L4 x10 a0 a1 n2 (x17, IntKind.wrap .i64 (d14.2 + 1)))))
    else
      some d14.1

def cipher_Encrypt (a0 : A16vu) (a1 : A16vu) : Option A16vu :=
  ((cipher_Schedule a0).bind fun x10 =>
  ((cipher_Words a1).bind fun x11 =>
  ((cipher_mask x11 x10).bind fun x12 =>
  ((
    cipher_Encrypt_L4 x10 a0 a1 big (x12, 0)).bind fun d13 =>
  ((cipher_Join d13).bind fun x18 =>
  some x18)))))

def derive_Mac_L3 (a0 : A16vu) (a1 : (List Int)) : Nat → (A16vu × Int) → Option (A16vu)
  | 0, _ => none
  | n2 + 1, d7 =>
    bif decide (d7.2 < 8) then
      ((chk (decide (¬ (IntKind.wrap .i64 (8 * d7.2)) < 0))).bind fun x8 =>
      ((idxA 16 [d7.1.a0, d7.1.a1, d7.1.a2, d7.1.a3, d7.1.a4, d7.1.a5, d7.1.a6, d7.1.a7, d7.1.a8, d7.1.a9, d7.1.a10, d7.1.a11, d7.1.a12, d7.1.a13, d7.1.a14, d7.1.a15] (IntKind.wrap .i64 (1 + d7.2))).bind fun x9 =>
      derive_Mac_L3 a0 a1 n2 ((d7.1.setA ((IntKind.wrap .i64 (1 + d7.2)).toNat) (IntKind.wrap .u8 (((a1.length : Int)).fdiv (2 ^ (min ((IntKind.wrap .i64 (8 * d7.2))).toNat 64))))), IntKind.wrap .i64 (d7.2 + 1))))
    else
      some d7.1

def derive_Mac_L6 (a1 : (List Int)) (a0 : A16vu) : Nat → (A16vu × Int) → Option (A16vu)
  | 0, _ => none
  | n7 + 1, d12 =>
    bif decide (d12.2 < (a1.length : Int)) then
      ((idx a1 d12.2).bind fun x13 =>
      ((idxA 16 [d12.1.a0, d12.1.a1, d12.1.a2, d12.1.a3, d12.1.a4, d12.1.a5, d12.1.a6, d12.1.a7, d12.1.a8, d12.1.a9, d12.1.a10, d12.1.a11, d12.1.a12, d12.1.a13, d12.1.a14, d12.1.a15] ((d12.2).tmod 16)).bind fun x14 =>
      bif ((((d12.2).tmod 16) == 15) || (d12.2 == (IntKind.wrap .i64 ((a1.length : Int) - 1)))) then
        ((cipher_Encrypt a0 (d12.1.setA (((d12.2).tmod 16).toNat) (bxor .u8 x14 x13))).bind fun x15 =>
        derive_Mac_L6 a1 a0 n7 (x15, IntKind.wrap .i64 (d12.2 + 1)))
      else
        derive_Mac_L6 a1 a0 n7 ((d12.1.setA (((d12.2).tmod 16).toNat) (bxor .u8 x14 x13)), IntKind.wrap .i64 (d12.2 + 1))))
    else
      some d12.1

def derive_Mac (a0 : A16vu) (a1 : (List Int)) : Option A16vu :=
  ((
    derive_Mac_L3 a0 a1 big ({ A16vu.z with a0 := 3 }, 0)).bind fun d6 =>
  ((cipher_Encrypt a0 d6).bind fun x10 =>
  ((
    derive_Mac_L6 a1 a0 big (x10, 0)).bind fun d11 =>
  some d11)))

def auth_get_L2 (a0 : (List Int)) : Nat → (Int × Int) → Option (Int)
  | 0, _ => none
  | n2 + 1, d9 =>
    bif decide (d9.2 < 8) then
      ((idx a0 d9.2).bind fun x10 =>
      ((chk (decide (¬ (IntKind.wrap .i64 (8 * d9.2)) < 0))).bind fun x11 =>
      auth_get_L2 a0 n2 (bor .u64 d9.1 (IntKind.wrap .u64 ((IntKind.wrap .u64 x10) * 2 ^ (min ((IntKind.wrap .i64 (8 * d9.2))).toNat 64))), IntKind.wrap .i64 (d9.2 + 1))))
    else
      some d9.1

def auth_get (a0 : (List Int)) : Option Int :=
  ((
    auth_get_L2 a0 big (0, 0)).bind fun d8 =>
  some d8)

def hotspotref21_word (a0 : Int) (a1 : Int) (a2 : Int) (a3 : Int) : Option Int :=
  some (IntKind.wrap .u32 ((IntKind.wrap .u32 ((IntKind.wrap .u32 ((IntKind.wrap .u32 a0) + (IntKind.wrap .u32 (256 * (IntKind.wrap .u32 a1))))) + (IntKind.wrap .u32 (65536 * (IntKind.wrap .u32 a2))))) + (IntKind.wrap .u32 (16777216 * (IntKind.wrap .u32 a3)))))

def hotspotref21_Words_L2 (a0 : A16vu) : Nat → (A4vw × Int) → Option (A4vw)
  | 0, _ => none
  | n2 + 1, d20 =>
    bif decide (d20.2 < 4) then
      ((idxA 16 [a0.a0, a0.a1, a0.a2, a0.a3, a0.a4, a0.a5, a0.a6, a0.a7, a0.a8, a0.a9, a0.a10, a0.a11, a0.a12, a0.a13, a0.a14, a0.a15] (IntKind.wrap .i64 (4 * d20.2))).bind fun x21 =>
      ((idxA 16 [a0.a0, a0.a1, a0.a2, a0.a3, a0.a4, a0.a5, a0.a6, a0.a7, a0.a8, a0.a9, a0.a10, a0.a11, a0.a12, a0.a13, a0.a14, a0.a15] (IntKind.wrap .i64 ((IntKind.wrap .i64 (4 * d20.2)) + 1))).bind fun x22 =>
      ((idxA 16 [a0.a0, a0.a1, a0.a2, a0.a3, a0.a4, a0.a5, a0.a6, a0.a7, a0.a8, a0.a9, a0.a10, a0.a11, a0.a12, a0.a13, a0.a14, a0.a15] (IntKind.wrap .i64 ((IntKind.wrap .i64 (4 * d20.2)) + 2))).bind fun x23 =>
      ((idxA 16 [a0.a0, a0.a1, a0.a2, a0.a3, a0.a4, a0.a5, a0.a6, a0.a7, a0.a8, a0.a9, a0.a10, a0.a11, a0.a12, a0.a13, a0.a14, a0.a15] (IntKind.wrap .i64 ((IntKind.wrap .i64 (4 * d20.2)) + 3))).bind fun x24 =>
      ((hotspotref21_word x21 x22 x23 x24).bind fun x25 =>
      ((idxA 4 [d20.1.a0, d20.1.a1, d20.1.a2, d20.1.a3] d20.2).bind fun x26 =>
      hotspotref21_Words_L2 a0 n2 ((d20.1.setA ((d20.2).toNat) x25), IntKind.wrap .i64 (d20.2 + 1))))))))
    else
      some d20.1

def hotspotref21_Words (a0 : A16vu) : Option A4vw :=
  ((
    hotspotref21_Words_L2 a0 big (A4vw.z, 0)).bind fun d19 =>
  some d19)

def hotspotref21_Left (a0 : Int) (a1 : Int) : Option Int :=
  ((chk (decide (¬ (IntKind.wrap .u64 a1) < 0))).bind fun x33 =>
  ((chk (decide (¬ (IntKind.wrap .u64 (IntKind.wrap .i64 (32 - a1))) < 0))).bind fun x34 =>
  some (IntKind.wrap .u32 ((IntKind.wrap .u32 (a0 * 2 ^ (min ((IntKind.wrap .u64 a1)).toNat 32))) + ((a0).fdiv (2 ^ (min ((IntKind.wrap .u64 (IntKind.wrap .i64 (32 - a1)))).toNat 32)))))))

def hotspotref21_Schedule_L3 (x19 : A4vw) (a0 : A16vu) : Nat → (A36vw × Int) → Option (A36vw)
  | 0, _ => none
  | n2 + 1, d21 =>
    bif decide (d21.2 < 36) then
      bif decide (d21.2 < 4) then
        ((idxA 4 [x19.a0, x19.a1, x19.a2, x19.a3] d21.2).bind fun x22 =>
        ((idxA 36 [d21.1.a0, d21.1.a1, d21.1.a2, d21.1.a3, d21.1.a4, d21.1.a5, d21.1.a6, d21.1.a7, d21.1.a8, d21.1.a9, d21.1.a10, d21.1.a11, d21.1.a12, d21.1.a13, d21.1.a14, d21.1.a15, d21.1.a16, d21.1.a17, d21.1.a18, d21.1.a19, d21.1.a20, d21.1.a21, d21.1.a22, d21.1.a23, d21.1.a24, d21.1.a25, d21.1.a26, d21.1.a27, d21.1.a28, d21.1.a29, d21.1.a30, d21.1.a31, d21.1.a32, d21.1.a33, d21.1.a34, d21.1.a35] d21.2).bind fun x23 =>
        hotspotref21_Schedule_L3 x19 a0 n2 ((d21.1.setA ((d21.2).toNat) x22), IntKind.wrap .i64 (d21.2 + 1))))
      else
        ((idxA 36 [d21.1.a0, d21.1.a1, d21.1.a2, d21.1.a3, d21.1.a4, d21.1.a5, d21.1.a6, d21.1.a7, d21.1.a8, d21.1.a9, d21.1.a10, d21.1.a11, d21.1.a12, d21.1.a13, d21.1.a14, d21.1.a15, d21.1.a16, d21.1.a17, d21.1.a18, d21.1.a19, d21.1.a20, d21.1.a21, d21.1.a22, d21.1.a23, d21.1.a24, d21.1.a25, d21.1.a26, d21.1.a27, d21.1.a28, d21.1.a29, d21.1.a30, d21.1.a31, d21.1.a32, d21.1.a33, d21.1.a34, d21.1.a35] (IntKind.wrap .i64 (d21.2 - 4))).bind fun x24 =>
        ((idxA 36 [d21.1.a0, d21.1.a1, d21.1.a2, d21.1.a3, d21.1.a4, d21.1.a5, d21.1.a6, d21.1.a7, d21.1.a8, d21.1.a9, d21.1.a10, d21.1.a11, d21.1.a12, d21.1.a13, d21.1.a14, d21.1.a15, d21.1.a16, d21.1.a17, d21.1.a18, d21.1.a19, d21.1.a20, d21.1.a21, d21.1.a22, d21.1.a23, d21.1.a24, d21.1.a25, d21.1.a26, d21.1.a27, d21.1.a28, d21.1.a29, d21.1.a30, d21.1.a31, d21.1.a32, d21.1.a33, d21.1.a34, d21.1.a35] (IntKind.wrap .i64 (d21.2 - 1))).bind fun x25 =>
        ((hotspotref21_Left x25 7).bind fun x26 =>
        ((idxA 36 [d21.1.a0, d21.1.a1, d21.1.a2, d21.1.a3, d21.1.a4, d21.1.a5, d21.1.a6, d21.1.a7, d21.1.a8, d21.1.a9, d21.1.a10, d21.1.a11, d21.1.a12, d21.1.a13, d21.1.a14, d21.1.a15, d21.1.a16, d21.1.a17, d21.1.a18, d21.1.a19, d21.1.a20, d21.1.a21, d21.1.a22, d21.1.a23, d21.1.a24, d21.1.a25, d21.1.a26, d21.1.a27, d21.1.a28, d21.1.a29, d21.1.a30, d21.1.a31, d21.1.a32, d21.1.a33, d21.1.a34, d21.1.a35] d21.2).bind fun x27 =>
        hotspotref21_Schedule_L3 x19 a0 n2 ((d21.1.setA ((d21.2).toNat) (IntKind.wrap .u32 (x24 + (bxor .u32 x26 (IntKind.wrap .u32 ((IntKind.wrap .u32 ((IntKind.wrap .u32 d21.2) * 2050759141)) + 525043411)))))), IntKind.wrap .i64 (d21.2 + 1))))))
    else
      some d21.1

def hotspotref21_Schedule (a0 : A16vu) : Option A36vw :=
  ((hotspotref21_Words a0).bind fun x19 =>
  ((
    hotspotref21_Schedule_L3 x19 a0 big (A36vw.z, 0)).bind fun d20 =>
  some d20))

def hotspotref21_Round (a0 : A4vw) (a1 : Int) (a2 : Int) : Option A4vw :=
  ((hotspotref21_Left a0.a1 5).bind fun x37 =>
  ((hotspotref21_Left a0.a3 9).bind fun x38 =>
  ((hotspotref21_Left (IntKind.wrap .u32 ((IntKind.wrap .u32 (a0.a2 + (bxor .u32 x38 a2))) + a1)) 13).bind fun x39 =>
  ((hotspotref21_Left (IntKind.wrap .u32 ((IntKind.wrap .u32 (a0.a0 + (bxor .u32 x37 a1))) + a2)) 19).bind fun x40 =>
  some { A4vw.z with a0 := bxor .u32 a0.a1 x39, a1 := IntKind.wrap .u32 (a0.a2 + (bxor .u32 x38 a2)), a2 := bxor .u32 a0.a3 x40, a3 := IntKind.wrap .u32 (a0.a0 + (bxor .u32 x37 a1)) }))))

def hotspotref21_Join_L6 (a0 : A4vw) (d40 : (A16vu × Int)) : Nat → (A16vu × Int × Int) → Option (A16vu)
  | 0, _ => none
  | n7 + 1, d44 =>
    bif decide (d44.2.2 < 4) then
      ((idxA 16 [d44.1.a0, d44.1.a1, d44.1.a2, d44.1.a3, d44.1.a4, d44.1.a5, d44.1.a6, d44.1.a7, d44.1.a8, d44.1.a9, d44.1.a10, d44.1.a11, d44.1.a12, d44.1.a13, d44.1.a14, d44.1.a15] (IntKind.wrap .i64 ((IntKind.wrap .i64 (4 * d40.2)) + d44.2.2))).bind fun x45 =>
      hotspotref21_Join_L6 a0 d40 n7 ((d44.1.setA ((IntKind.wrap .i64 ((IntKind.wrap .i64 (4 * d40.2)) + d44.2.2)).toNat) (IntKind.wrap .u8 ((d44.2.1).tmod 256))), IntKind.wrap .u32 ((d44.2.1).tdiv 256), IntKind.wrap .i64 (d44.2.2 + 1)))
    else
      some d44.1

def hotspotref21_Join_L2 (a0 : A4vw) : Nat → (A16vu × Int) → Option (A16vu)
  | 0, _ => none
  | n2 + 1, d40 =>
    bif decide (d40.2 < 4) then
      ((
        ((idxA 4 [a0.a0, a0.a1, a0.a2, a0.a3] d40.2).bind fun x42 =>
        ((
          hotspotref21_Join_L6 a0 d40 big (d40.1, x42, 0)).bind fun d43 =>
        some d43))).bind fun d41 =>
      hotspotref21_Join_L2 a0 n2 (d41, IntKind.wrap .i64 (d40.2 + 1)))
    else
      some d40.1

def hotspotref21_Join (a0 : A4vw) : Option A16vu :=
  ((
    hotspotref21_Join_L2 a0 big (A16vu.z, 0)).bind fun d39 =>
  some d39)

def hotspotref21_Encrypt_L3 (a0 : A16vu) (a1 : A16vu) (x19 : A36vw) : Nat → (A4vw × Int) → Option (A4vw)
  | 0, _ => none
  | n2 + 1, d22 =>
    bif decide (d22.2 < 4) then
      ((idxA 4 [d22.1.a0, d22.1.a1, d22.1.a2, d22.1.a3] d22.2).bind fun x23 =>
      ((idxA 36 [x19.a0, x19.a1, x19.a2, x19.a3, x19.a4, x19.a5, x19.a6, x19.a7, x19.a8, x19.a9, x19.a10, x19.a11, x19.a12, x19.a13, x19.a14, x19.a15, x19.a16, x19.a17, x19.a18, x19.a19, x19.a20, x19.a21, x19.a22, x19.a23, x19.a24, x19.a25, x19.a26, x19.a27, x19.a28, x19.a29, x19.a30, x19.a31, x19.a32, x19.a33, x19.a34, x19.a35] d22.2).bind fun x24 =>
      hotspotref21_Encrypt_L3 a0 a1 x19 n2 ((d22.1.setA ((d22.2).toNat) (bxor .u32 x23 x24)), IntKind.wrap .i64 (d22.2 + 1))))
    else
      some d22.1

def hotspotref21_Encrypt_L6 (x19 : A36vw) (a0 : A16vu) (a1 : A16vu) : Nat → (A4vw × Int) → Option (A4vw)
  | 0, _ => none
  | n7 + 1, d26 =>
    bif decide (d26.2 < 16) then
      ((idxA 36 [x19.a0, x19.a1, x19.a2, x19.a3, x19.a4, x19.a5, x19.a6, x19.a7, x19.a8, x19.a9, x19.a10, x19.a11, x19.a12, x19.a13, x19.a14, x19.a15, x19.a16, x19.a17, x19.a18, x19.a19, x19.a20, x19.a21, x19.a22, x19.a23, x19.a24, x19.a25, x19.a26, x19.a27, x19.a28, x19.a29, x19.a30, x19.a31, x19.a32, x19.a33, x19.a34, x19.a35] (IntKind.wrap .i64 (4 + (IntKind.wrap .i64 (2 * d26.2))))).bind fun x27 =>
      ((idxA 36 [x19.a0, x19.a1, x19.a2, x19.a3, x19.a4, x19.a5, x19.a6, x19.a7, x19.a8, x19.a9, x19.a10, x19.a11, x19.a12, x19.a13, x19.a14, x19.a15, x19.a16, x19.a17, x19.a18, x19.a19, x19.a20, x19.a21, x19.a22, x19.a23, x19.a24, x19.a25, x19.a26, x19.a27, x19.a28, x19.a29, x19.a30, x19.a31, x19.a32, x19.a33, x19.a34, x19.a35] (IntKind.wrap .i64 (5 + (IntKind.wrap .i64 (2 * d26.2))))).bind fun x28 =>
      ((hotspotref21_Round d26.1 x27 x28).bind fun x29 =>
      hotspotref21_Encrypt_L6 x19 a0 a1 n7 (x29, IntKind.wrap .i64 (d26.2 + 1)))))
    else
      some d26.1

def hotspotref21_Encrypt (a0 : A16vu) (a1 : A16vu) : Option A16vu :=
  ((hotspotref21_Schedule a0).bind fun x19 =>
  ((hotspotref21_Words a1).bind fun x20 =>
  ((
    hotspotref21_Encrypt_L3 a0 a1 x19 big (x20, 0)).bind fun d21 =>
  ((
    hotspotref21_Encrypt_L6 x19 a0 a1 big (d21, 0)).bind fun d25 =>
  ((hotspotref21_Join d25).bind fun x30 =>
  some x30)))))

def hotspotref23_Mac_L3 (a0 : A16vu) (a1 : (List Int)) : Nat → (A16vu × Int × Int) → Option (A16vu)
  | 0, _ => none
  | n2 + 1, d13 =>
    bif decide (d13.2.2 ≤ 8) then
      ((idxA 16 [d13.1.a0, d13.1.a1, d13.1.a2, d13.1.a3, d13.1.a4, d13.1.a5, d13.1.a6, d13.1.a7, d13.1.a8, d13.1.a9, d13.1.a10, d13.1.a11, d13.1.a12, d13.1.a13, d13.1.a14, d13.1.a15] d13.2.2).bind fun x14 =>
      hotspotref23_Mac_L3 a0 a1 n2 ((d13.1.setA ((d13.2.2).toNat) (IntKind.wrap .u8 ((d13.2.1).tmod 256))), IntKind.wrap .i64 ((d13.2.1).tdiv 256), IntKind.wrap .i64 (d13.2.2 + 1)))
    else
      some d13.1

def hotspotref23_Mac_L6 : Nat → (List Int) → Option ((List Int))
  | 0, _ => none
  | n7 + 1, d17 =>
    bif ((((((d17).length : Nat) : Int)).tmod 16) != 0) then
      ((chk (decide ((d17).length + 1 ≤ 140737488355328))).bind fun x18 =>
      hotspotref23_Mac_L6 n7 (d17 ++ [0]))
    else
      some d17

def hotspotref23_Mac_L13 (a0 : A16vu) (a1 : (List Int)) (d16 : (List Int)) (d21 : (A16vu × Int)) : Nat → (A16vu × Int) → Option (A16vu)
  | 0, _ => none
  | n16 + 1, d24 =>
    bif decide (d24.2 < 16) then
      ((idxA 16 [d24.1.a0, d24.1.a1, d24.1.a2, d24.1.a3, d24.1.a4, d24.1.a5, d24.1.a6, d24.1.a7, d24.1.a8, d24.1.a9, d24.1.a10, d24.1.a11, d24.1.a12, d24.1.a13, d24.1.a14, d24.1.a15] d24.2).bind fun x25 =>
      ((idx d16 (IntKind.wrap .i64 (d21.2 + d24.2))).bind fun x26 =>
      hotspotref23_Mac_L13 a0 a1 d16 d21 n16 ((d24.1.setA ((d24.2).toNat) (bxor .u8 x25 x26)), IntKind.wrap .i64 (d24.2 + 1))))
    else
      some d24.1

def hotspotref23_Mac_L9 (d16 : (List Int)) (a0 : A16vu) (a1 : (List Int)) : Nat → (A16vu × Int) → Option (A16vu)
  | 0, _ => none
  | n11 + 1, d21 =>
    bif decide (d21.2 < ((d16.length : Nat) : Int)) then
      ((
        ((
          hotspotref23_Mac_L13 a0 a1 d16 d21 big (d21.1, 0)).bind fun d23 =>
        ((hotspotref21_Encrypt a0 d23).bind fun x27 =>
        some x27))).bind fun d22 =>
      hotspotref23_Mac_L9 d16 a0 a1 n11 (d22, IntKind.wrap .i64 (d21.2 + 16)))
    else
      some d21.1

def hotspotref23_Mac (a0 : A16vu) (a1 : (List Int)) : Option A16vu :=
  ((
    hotspotref23_Mac_L3 a0 a1 big ({ A16vu.z with a0 := 3 }, (a1.length : Int), 1)).bind fun d12 =>
  ((chk (decide (a1.length ≤ 140737488355328))).bind fun x15 =>
  ((
    hotspotref23_Mac_L6 big a1).bind fun d16 =>
  ((hotspotref21_Encrypt a0 d12).bind fun x19 =>
  ((
    hotspotref23_Mac_L9 d16 a0 a1 big (x19, 0)).bind fun d20 =>
  some d20)))))

def auth_shaped (a0 : (List Int)) : Option Int :=
  bif ((a0.length : Int) == 0) then
    some 10
  else
    ((idx a0 0).bind fun x12 =>
    ((
      bif (x12 == 1) then
        ((
          bif ((a0.length : Int) == 18) then
            ((idx a0 17).bind fun x14 =>
            some (x14 == 0))
          else
            some false).bind fun x15 =>
        ((
          bif x15 then
            some true
          else
            ((
              bif ((a0.length : Int) == 26) then
                ((idx a0 17).bind fun x16 =>
                some (x16 == 8))
              else
                some false).bind fun x17 =>
            some x17)).bind fun x18 =>
        some x18))
      else
        bif (x12 == 2) then
          some ((a0.length : Int) == 19)
        else
          bif (x12 == 3) then
            some ((a0.length : Int) == 9)
          else
            some false).bind fun d13 =>
    bif (!d13) then
      some 12
    else
      some 0))

def auth_put_2_L2 (a0 : Int) : Nat → (List Int × Int) → Option ((List Int))
  | 0, _ => none
  | n2 + 1, d32 =>
    bif decide (d32.2 < 8) then
      ((chk (decide (¬ (IntKind.wrap .i64 (8 * d32.2)) < 0))).bind fun x33 =>
      ((chk (decide ((d32.1).length + 1 ≤ 140737488355328))).bind fun x34 =>
      auth_put_2_L2 a0 n2 ((d32.1 ++ [IntKind.wrap .u8 ((a0).fdiv (2 ^ (min ((IntKind.wrap .i64 (8 * d32.2))).toNat 64)))]), IntKind.wrap .i64 (d32.2 + 1))))
    else
      some d32.1

def auth_put_2 (a0 : Int) (a1 : List Int) : Option (List Int) :=
  ((
    auth_put_2_L2 a0 big (a1, 0)).bind fun d31 =>
  some d31)

def auth_numbers_L2 (a0 : (List Int)) : Nat → (List Int × Int) → Option ((List Int))
  | 0, _ => none
  | n2 + 1, d30 =>
    bif decide (d30.2 < (a0.length : Int)) then
      ((idx a0 d30.2).bind fun x31 =>
      ((auth_put_2 x31 d30.1).bind fun x32 =>
      auth_numbers_L2 a0 n2 (x32, IntKind.wrap .i64 (d30.2 + 1))))
    else
      some d30.1

def auth_numbers (a0 : (List Int)) : Option (List Int) :=
  ((
    auth_numbers_L2 a0 big ([], 0)).bind fun d29 =>
  some d29)

def hotspotref29_Eight_L2 : Nat → (Int × List Int × Int) → Option ((List Int))
  | 0, _ => none
  | n2 + 1, d40 =>
    bif decide (d40.2.2 < 8) then
      ((chk (decide ((d40.2.1).length + 1 ≤ 140737488355328))).bind fun x41 =>
      hotspotref29_Eight_L2 n2 (IntKind.wrap .u64 ((d40.1).tdiv 256), (d40.2.1 ++ [IntKind.wrap .u8 ((d40.1).tmod 256)]), IntKind.wrap .i64 (d40.2.2 + 1)))
    else
      some d40.2.1

def hotspotref29_Eight (a0 : Int) : Option (List Int) :=
  ((
    hotspotref29_Eight_L2 big (a0, [], 0)).bind fun d39 =>
  some d39)

def hotspotlaw29_one : Option A6vu :=
  some { A6vu.z with a0 := 2, a1 := 0, a2 := 0, a3 := 0, a4 := 0, a5 := 7 }

def hotspotlaw29_two : Option A6vu :=
  some { A6vu.z with a0 := 2, a1 := 0, a2 := 0, a3 := 0, a4 := 0, a5 := 5 }

def bytealg_Compare (a0 : List Int) (a1 : List Int) : Option Int := some (cmpL a0 a1)

def bytes_Compare (a0 : (List Int)) (a1 : (List Int)) : Option Int :=
  ((bytealg_Compare a0 a1).bind fun x32 =>
  some x32)

def address_Compare (a0 : A6vu) (a1 : A6vu) : Option Int :=
  ((bytes_Compare [a0.a0, a0.a1, a0.a2, a0.a3, a0.a4, a0.a5] [a1.a0, a1.a1, a1.a2, a1.a3, a1.a4, a1.a5]).bind fun x32 =>
  some x32)

def slices_Grow_byte_byte (a0 : Int) : Option (List Int) :=
  ((
    bif decide (a0 < 0) then
      none
    else
      some ()).bind fun d38 =>
  bif decide (0 < (IntKind.wrap .i64 (a0 - (IntKind.wrap .i64 0)))) then
    ((chk (decide (0 < (IntKind.wrap .i64 (a0 - (IntKind.wrap .i64 0)))) && decide ((IntKind.wrap .i64 (a0 - (IntKind.wrap .i64 0))) ≤ 140737488355328))).bind fun x39 =>
    some (List.take 0 (List.replicate (IntKind.wrap .i64 (a0 - (IntKind.wrap .i64 0))).toNat 0)))
  else
    some [])

def slices_Concat_byte_byte_L2 (a0 : (List (List Int))) : Nat → (Int × Int) → Option (Int)
  | 0, _ => none
  | n2 + 1, d36 =>
    bif decide (d36.2 < (a0.length : Int)) then
      ((idx a0 d36.2).bind fun x37 =>
      bif decide ((IntKind.wrap .i64 (d36.1 + (x37.length : Int))) < 0) then
        none
      else
        slices_Concat_byte_byte_L2 a0 n2 (IntKind.wrap .i64 (d36.1 + (x37.length : Int)), IntKind.wrap .i64 (d36.2 + 1)))
    else
      some d36.1

def slices_Concat_byte_byte_L5 (a0 : (List (List Int))) : Nat → (List Int × Int) → Option ((List Int))
  | 0, _ => none
  | n7 + 1, d40 =>
    bif decide (d40.2 < (a0.length : Int)) then
      ((idx a0 d40.2).bind fun x41 =>
      ((chk (decide ((d40.1).length + x41.length ≤ 140737488355328))).bind fun x42 =>
      slices_Concat_byte_byte_L5 a0 n7 ((d40.1 ++ x41), IntKind.wrap .i64 (d40.2 + 1))))
    else
      some d40.1

def slices_Concat_byte_byte (a0 : (List (List Int))) : Option (List Int) :=
  ((
    slices_Concat_byte_byte_L2 a0 big (0, 0)).bind fun d35 =>
  ((slices_Grow_byte_byte d35).bind fun x38 =>
  ((
    slices_Concat_byte_byte_L5 a0 big (x38, 0)).bind fun d39 =>
  some d39)))

def derive_Input_2 (a0 : (List Int)) (a1 : Int) : Option (List Int) :=
  ((derive_two (a0.length : Int)).bind fun x45 =>
  ((derive_two a1).bind fun x46 =>
  ((derive_join [[IntKind.wrap .u8 8], [112, 97, 115, 115, 119, 111, 114, 100], x45, a0, x46]).bind fun x47 =>
  some x47)))

def derive_Expand_2_L2 (a2 : Int) (a1 : (List Int)) (a0 : A16vu) : Nat → (List Int × Int) → Option ((List Int))
  | 0, _ => none
  | n6 + 1, d45 =>
    bif decide ((((d45.1).length : Nat) : Int) < a2) then
      ((derive_Input_2 a1 d45.2).bind fun x46 =>
      ((derive_Mac a0 x46).bind fun x47 =>
      ((chk (decide (d45.1.length + 16 ≤ 140737488355328))).bind fun x48 =>
      derive_Expand_2_L2 a2 a1 a0 n6 ((d45.1 ++ [x47.a0, x47.a1, x47.a2, x47.a3, x47.a4, x47.a5, x47.a6, x47.a7, x47.a8, x47.a9, x47.a10, x47.a11, x47.a12, x47.a13, x47.a14, x47.a15]), IntKind.wrap .i64 (d45.2 + 1)))))
    else
      some d45.1

def derive_Expand_2 (a0 : A16vu) (a1 : (List Int)) (a2 : Int) : Option ((List Int) × Int) :=
  bif decide (a2 < 0) then
    some ([], 2)
  else
    bif ((decide (256 < (a1.length : Int))) || (decide (1024 < a2))) then
      some ([], 4)
    else
      ((
        derive_Expand_2_L2 a2 a1 a0 big ([], 0)).bind fun d44 =>
      ((chk (decide (0 ≤ a2) && decide (a2 ≤ a2) && decide (a2 ≤ ((d44).length : Int)))).bind fun x49 =>
      some ((List.take ((a2).toNat) d44), 0)))

def math_bits_Mul64 (a0 : Int) (a1 : Int) : Option (Int × Int) :=
  some (IntKind.wrap .u64 ((IntKind.wrap .u64 ((IntKind.wrap .u64 (((a0).fdiv (2 ^ (min 32 64))) * ((a1).fdiv (2 ^ (min 32 64))))) + (((IntKind.wrap .u64 ((IntKind.wrap .u64 (((a0).fdiv (2 ^ (min 32 64))) * (band .u64 a1 4294967295))) + (((IntKind.wrap .u64 ((band .u64 a0 4294967295) * (band .u64 a1 4294967295)))).fdiv (2 ^ (min 32 64)))))).fdiv (2 ^ (min 32 64))))) + (((IntKind.wrap .u64 ((band .u64 (IntKind.wrap .u64 ((IntKind.wrap .u64 (((a0).fdiv (2 ^ (min 32 64))) * (band .u64 a1 4294967295))) + (((IntKind.wrap .u64 ((band .u64 a0 4294967295) * (band .u64 a1 4294967295)))).fdiv (2 ^ (min 32 64))))) 4294967295) + (IntKind.wrap .u64 ((band .u64 a0 4294967295) * ((a1).fdiv (2 ^ (min 32 64)))))))).fdiv (2 ^ (min 32 64)))), IntKind.wrap .u64 (a0 * a1))

def math_bits_LeadingZeros64 (a0 : Int) : Option Int :=
  bif (a0 == 2305843009213693951) then some 3 else (none)

def math_bits_Div64_L4 (a1 : Int) (x58 : Int) (a2 : Int) : Nat → (Int × Int) → Option (Int)
  | 0, _ => none
  | n7 + 1, d65 =>
    bif ((decide (4294967296 ≤ d65.1)) || (decide ((IntKind.wrap .u64 ((IntKind.wrap .u64 (4294967296 * d65.2)) + (((IntKind.wrap .u64 (a1 * 2 ^ (min ((IntKind.wrap .u64 x58)).toNat 64)))).fdiv (2 ^ (min 32 64))))) < (IntKind.wrap .u64 (d65.1 * (band .u64 (IntKind.wrap .u64 (a2 * 2 ^ (min ((IntKind.wrap .u64 x58)).toNat 64))) 4294967295)))))) then
      bif decide (4294967296 ≤ (IntKind.wrap .u64 (d65.2 + (((IntKind.wrap .u64 (a2 * 2 ^ (min ((IntKind.wrap .u64 x58)).toNat 64)))).fdiv (2 ^ (min 32 64)))))) then
        some (IntKind.wrap .u64 (d65.1 - 1))
      else
        math_bits_Div64_L4 a1 x58 a2 n7 (IntKind.wrap .u64 (d65.1 - 1), IntKind.wrap .u64 (d65.2 + (((IntKind.wrap .u64 (a2 * 2 ^ (min ((IntKind.wrap .u64 x58)).toNat 64)))).fdiv (2 ^ (min 32 64)))))
    else
      some d65.1

def math_bits_Div64_L7 (a1 : Int) (x58 : Int) (a2 : Int) : Nat → (Int × Int) → Option (Int)
  | 0, _ => none
  | n13 + 1, d68 =>
    bif ((decide (4294967296 ≤ d68.2)) || (decide ((IntKind.wrap .u64 ((IntKind.wrap .u64 (4294967296 * d68.1)) + (band .u64 (IntKind.wrap .u64 (a1 * 2 ^ (min ((IntKind.wrap .u64 x58)).toNat 64))) 4294967295))) < (IntKind.wrap .u64 (d68.2 * (band .u64 (IntKind.wrap .u64 (a2 * 2 ^ (min ((IntKind.wrap .u64 x58)).toNat 64))) 4294967295)))))) then
      bif decide (4294967296 ≤ (IntKind.wrap .u64 (d68.1 + (((IntKind.wrap .u64 (a2 * 2 ^ (min ((IntKind.wrap .u64 x58)).toNat 64)))).fdiv (2 ^ (min 32 64)))))) then
        some (IntKind.wrap .u64 (d68.2 - 1))
      else
        math_bits_Div64_L7 a1 x58 a2 n13 (IntKind.wrap .u64 (d68.1 + (((IntKind.wrap .u64 (a2 * 2 ^ (min ((IntKind.wrap .u64 x58)).toNat 64)))).fdiv (2 ^ (min 32 64)))), IntKind.wrap .u64 (d68.2 - 1))
    else
      some d68.2

def math_bits_Div64 (a0 : Int) (a1 : Int) (a2 : Int) : Option (Int × Int) :=
  ((
    bif (a2 == 0) then
      none
    else
      some ()).bind fun d54 =>
  ((
    bif decide (a2 ≤ a0) then
      none
    else
      some ()).bind fun d55 =>
  bif (a0 == 0) then
    ((chk (decide (a2 ≠ 0))).bind fun x56 =>
    ((chk (decide (a2 ≠ 0))).bind fun x57 =>
    some (IntKind.wrap .u64 ((a1).tdiv a2), (a1).tmod a2)))
  else
    ((math_bits_LeadingZeros64 a2).bind fun x58 =>
    ((chk (decide (¬ (IntKind.wrap .u64 x58) < 0))).bind fun x59 =>
    ((chk (decide (¬ (IntKind.wrap .u64 x58) < 0))).bind fun x60 =>
    ((chk (decide (¬ (IntKind.wrap .u64 (64 - (IntKind.wrap .u64 x58))) < 0))).bind fun x61 =>
    ((chk (decide (¬ (IntKind.wrap .u64 x58) < 0))).bind fun x62 =>
    ((chk (decide (((IntKind.wrap .u64 (a2 * 2 ^ (min ((IntKind.wrap .u64 x58)).toNat 64)))).fdiv (2 ^ (min 32 64)) ≠ 0))).bind fun x63 =>
    ((
      math_bits_Div64_L4 a1 x58 a2 big (IntKind.wrap .u64 (((bor .u64 (IntKind.wrap .u64 (a0 * 2 ^ (min ((IntKind.wrap .u64 x58)).toNat 64))) ((a1).fdiv (2 ^ (min ((IntKind.wrap .u64 (64 - (IntKind.wrap .u64 x58)))).toNat 64))))).tdiv (((IntKind.wrap .u64 (a2 * 2 ^ (min ((IntKind.wrap .u64 x58)).toNat 64)))).fdiv (2 ^ (min 32 64)))), IntKind.wrap .u64 ((bor .u64 (IntKind.wrap .u64 (a0 * 2 ^ (min ((IntKind.wrap .u64 x58)).toNat 64))) ((a1).fdiv (2 ^ (min ((IntKind.wrap .u64 (64 - (IntKind.wrap .u64 x58)))).toNat 64)))) - (IntKind.wrap .u64 ((IntKind.wrap .u64 (((bor .u64 (IntKind.wrap .u64 (a0 * 2 ^ (min ((IntKind.wrap .u64 x58)).toNat 64))) ((a1).fdiv (2 ^ (min ((IntKind.wrap .u64 (64 - (IntKind.wrap .u64 x58)))).toNat 64))))).tdiv (((IntKind.wrap .u64 (a2 * 2 ^ (min ((IntKind.wrap .u64 x58)).toNat 64)))).fdiv (2 ^ (min 32 64))))) * (((IntKind.wrap .u64 (a2 * 2 ^ (min ((IntKind.wrap .u64 x58)).toNat 64)))).fdiv (2 ^ (min 32 64)))))))).bind fun d64 =>
    ((chk (decide (((IntKind.wrap .u64 (a2 * 2 ^ (min ((IntKind.wrap .u64 x58)).toNat 64)))).fdiv (2 ^ (min 32 64)) ≠ 0))).bind fun x66 =>
    ((
      math_bits_Div64_L7 a1 x58 a2 big (IntKind.wrap .u64 ((IntKind.wrap .u64 ((IntKind.wrap .u64 ((IntKind.wrap .u64 ((bor .u64 (IntKind.wrap .u64 (a0 * 2 ^ (min ((IntKind.wrap .u64 x58)).toNat 64))) ((a1).fdiv (2 ^ (min ((IntKind.wrap .u64 (64 - (IntKind.wrap .u64 x58)))).toNat 64)))) * 4294967296)) + (((IntKind.wrap .u64 (a1 * 2 ^ (min ((IntKind.wrap .u64 x58)).toNat 64)))).fdiv (2 ^ (min 32 64))))) - (IntKind.wrap .u64 (d64 * (IntKind.wrap .u64 (a2 * 2 ^ (min ((IntKind.wrap .u64 x58)).toNat 64))))))) - (IntKind.wrap .u64 ((IntKind.wrap .u64 (((IntKind.wrap .u64 ((IntKind.wrap .u64 ((IntKind.wrap .u64 ((bor .u64 (IntKind.wrap .u64 (a0 * 2 ^ (min ((IntKind.wrap .u64 x58)).toNat 64))) ((a1).fdiv (2 ^ (min ((IntKind.wrap .u64 (64 - (IntKind.wrap .u64 x58)))).toNat 64)))) * 4294967296)) + (((IntKind.wrap .u64 (a1 * 2 ^ (min ((IntKind.wrap .u64 x58)).toNat 64)))).fdiv (2 ^ (min 32 64))))) - (IntKind.wrap .u64 (d64 * (IntKind.wrap .u64 (a2 * 2 ^ (min ((IntKind.wrap .u64 x58)).toNat 64)))))))).tdiv (((IntKind.wrap .u64 (a2 * 2 ^ (min ((IntKind.wrap .u64 x58)).toNat 64)))).fdiv (2 ^ (min 32 64))))) * (((IntKind.wrap .u64 (a2 * 2 ^ (min ((IntKind.wrap .u64 x58)).toNat 64)))).fdiv (2 ^ (min 32 64)))))), IntKind.wrap .u64 (((IntKind.wrap .u64 ((IntKind.wrap .u64 ((IntKind.wrap .u64 ((bor .u64 (IntKind.wrap .u64 (a0 * 2 ^ (min ((IntKind.wrap .u64 x58)).toNat 64))) ((a1).fdiv (2 ^ (min ((IntKind.wrap .u64 (64 - (IntKind.wrap .u64 x58)))).toNat 64)))) * 4294967296)) + (((IntKind.wrap .u64 (a1 * 2 ^ (min ((IntKind.wrap .u64 x58)).toNat 64)))).fdiv (2 ^ (min 32 64))))) - (IntKind.wrap .u64 (d64 * (IntKind.wrap .u64 (a2 * 2 ^ (min ((IntKind.wrap .u64 x58)).toNat 64)))))))).tdiv (((IntKind.wrap .u64 (a2 * 2 ^ (min ((IntKind.wrap .u64 x58)).toNat 64)))).fdiv (2 ^ (min 32 64)))))).bind fun d67 =>
    ((chk (decide (¬ (IntKind.wrap .u64 x58) < 0))).bind fun x69 =>
    some (IntKind.wrap .u64 ((IntKind.wrap .u64 (d64 * 4294967296)) + d67), ((IntKind.wrap .u64 ((IntKind.wrap .u64 ((IntKind.wrap .u64 ((IntKind.wrap .u64 ((IntKind.wrap .u64 ((IntKind.wrap .u64 ((bor .u64 (IntKind.wrap .u64 (a0 * 2 ^ (min ((IntKind.wrap .u64 x58)).toNat 64))) ((a1).fdiv (2 ^ (min ((IntKind.wrap .u64 (64 - (IntKind.wrap .u64 x58)))).toNat 64)))) * 4294967296)) + (((IntKind.wrap .u64 (a1 * 2 ^ (min ((IntKind.wrap .u64 x58)).toNat 64)))).fdiv (2 ^ (min 32 64))))) - (IntKind.wrap .u64 (d64 * (IntKind.wrap .u64 (a2 * 2 ^ (min ((IntKind.wrap .u64 x58)).toNat 64))))))) * 4294967296)) + (band .u64 (IntKind.wrap .u64 (a1 * 2 ^ (min ((IntKind.wrap .u64 x58)).toNat 64))) 4294967295))) - (IntKind.wrap .u64 (d67 * (IntKind.wrap .u64 (a2 * 2 ^ (min ((IntKind.wrap .u64 x58)).toNat 64)))))))).fdiv (2 ^ (min ((IntKind.wrap .u64 x58)).toNat 64)))))))))))))))

def math_bits_Rem64 (a0 : Int) (a1 : Int) (a2 : Int) : Option Int :=
  ((chk (decide (a2 ≠ 0))).bind fun x53 =>
  ((math_bits_Div64 ((a0).tmod a2) a1 a2).bind fun x54 =>
  some x54.2))

def auth_Mul (a0 : Int) (a1 : Int) : Option Int :=
  ((math_bits_Mul64 ((a0).tmod 2305843009213693951) ((a1).tmod 2305843009213693951)).bind fun x52 =>
  ((math_bits_Rem64 x52.1 x52.2 2305843009213693951).bind fun x53 =>
  some x53))

def auth_Base (a0 : (List Int)) (a1 : A6vu) (a2 : A6vu) : Option (Int × Int) :=
  bif decide (a1 = a2) then
    some (0, 2)
  else
    bif decide (64 < (a0.length : Int)) then
      some (0, 4)
    else
      ((address_Compare a1 a2).bind fun x32 =>
      ((
        bif decide (0 < x32) then
          some (a2, a1)
        else
          some (a1, a2)).bind fun d33 =>
      ((slices_Concat_byte_byte [(sB a0), [d33.1.a0, d33.1.a1, d33.1.a2, d33.1.a3, d33.1.a4, d33.1.a5], [d33.2.a0, d33.2.a1, d33.2.a2, d33.2.a3, d33.2.a4, d33.2.a5]]).bind fun x34 =>
      ((derive_Expand_2 A16vu.z x34 8).bind fun x35 =>
      ((auth_get x35.1).bind fun x36 =>
      ((auth_Mul (IntKind.wrap .u64 (2 + ((x36).tmod 2305843009213693948))) (IntKind.wrap .u64 (2 + ((x36).tmod 2305843009213693948)))).bind fun x37 =>
      some (x37, 0)))))))

def auth_secret (a0 : Auth) : Option Bool :=
  some ((((decide (2 ≤ a0.Rand)) && (decide (a0.Rand < 2305843009213693950))) && (decide (2 ≤ a0.Mask))) && (decide (a0.Mask < 2305843009213693950)))

def auth_sum (a0 : Int) (a1 : Int) : Option Int :=
  some (((IntKind.wrap .u64 (a0 + a1))).tmod 2305843009213693950)

def auth_Pow_L2 : Nat → (Int × Int × Int) → Option (Int)
  | 0, _ => none
  | n2 + 1, d42 =>
    bif decide (0 < d42.2.1) then
      ((
        bif ((band .u64 d42.2.1 1) == 1) then
          ((auth_Mul d42.2.2 d42.1).bind fun x44 =>
          some x44)
        else
          some d42.2.2).bind fun d43 =>
      ((auth_Mul d42.1 d42.1).bind fun x45 =>
      auth_Pow_L2 n2 (x45, (d42.2.1).fdiv (2 ^ (min 1 64)), d43)))
    else
      some d42.2.2

def auth_Pow (a0 : Int) (a1 : Int) : Option Int :=
  ((
    auth_Pow_L2 big (a0, a1, 1)).bind fun d41 =>
  some d41)

def auth_New (a0 : A6vu) (a1 : A6vu) (a2 : (List Int)) (a3 : Int) (a4 : Int) : Option (Auth × Int) :=
  ((auth_Base a2 a0 a1).bind fun x32 =>
  bif (x32.2 != 0) then
    some (Auth.z, x32.2)
  else
    ((auth_secret { Auth.z with Base := x32.1, Mask := a4, Own := a0, Peer := a1, Rand := a3 }).bind fun x33 =>
    bif (!x33) then
      some (Auth.z, 2)
    else
      ((auth_sum a3 a4).bind fun x34 =>
      ((auth_Pow x32.1 (IntKind.wrap .u64 (2305843009213693950 - a4))).bind fun x35 =>
      bif ((decide (x34 < 2)) || (decide (x35 < 2))) then
        some (Auth.z, 2)
      else
        some ({ Auth.z with Base := x32.1, Element := x35, Mask := a4, Own := a0, Peer := a1, Rand := a3, Scalar := x34 }, 0)))))

def derive_Input_3 (a0 : (List Int)) (a1 : Int) : Option (List Int) :=
  ((derive_two (a0.length : Int)).bind fun x55 =>
  ((derive_two a1).bind fun x56 =>
  ((derive_join [[IntKind.wrap .u8 4], [97, 117, 116, 104], x55, a0, x56]).bind fun x57 =>
  some x57)))

def derive_Expand_3_L2 (a2 : Int) (a1 : (List Int)) (a0 : A16vu) : Nat → (List Int × Int) → Option ((List Int))
  | 0, _ => none
  | n6 + 1, d55 =>
    bif decide ((((d55.1).length : Nat) : Int) < a2) then
      ((derive_Input_3 a1 d55.2).bind fun x56 =>
      ((derive_Mac a0 x56).bind fun x57 =>
      ((chk (decide (d55.1.length + 16 ≤ 140737488355328))).bind fun x58 =>
      derive_Expand_3_L2 a2 a1 a0 n6 ((d55.1 ++ [x57.a0, x57.a1, x57.a2, x57.a3, x57.a4, x57.a5, x57.a6, x57.a7, x57.a8, x57.a9, x57.a10, x57.a11, x57.a12, x57.a13, x57.a14, x57.a15]), IntKind.wrap .i64 (d55.2 + 1)))))
    else
      some d55.1

def derive_Expand_3 (a0 : A16vu) (a1 : (List Int)) (a2 : Int) : Option ((List Int) × Int) :=
  bif decide (a2 < 0) then
    some ([], 2)
  else
    bif ((decide (256 < (a1.length : Int))) || (decide (1024 < a2))) then
      some ([], 4)
    else
      ((
        derive_Expand_3_L2 a2 a1 a0 big ([], 0)).bind fun d54 =>
      ((chk (decide (0 ≤ a2) && decide (a2 ≤ a2) && decide (a2 ≤ ((d54).length : Int)))).bind fun x59 =>
      some ((List.take ((a2).toNat) d54), 0)))

def auth_keyed (a0 : Auth) (a1 : Int) (a2 : Int) : Option (Auth × Bool) :=
  bif (((((decide (a1 < 2)) || (decide (2305843009213693950 ≤ a1))) || (decide (a2 < 2))) || (decide (2305843009213693951 ≤ a2))) || ((a1 == a0.Scalar) && (a2 == a0.Element))) then
    some (a0, false)
  else
    ((auth_Pow a0.Base a1).bind fun x49 =>
    ((auth_Mul x49 a2).bind fun x50 =>
    ((auth_Pow x50 a0.Rand).bind fun x51 =>
    bif decide (x51 < 2) then
      some (a0, false)
    else
      ((auth_sum a0.Scalar a1).bind fun x52 =>
      ((auth_numbers [x51, x52]).bind fun x53 =>
      ((derive_Expand_3 A16vu.z x53 32).bind fun x54 =>
      ((chk (decide (16 ≤ x54.1.length))).bind fun x55 =>
      ((chk (decide (16 ≤ (x54.1.length : Int)))).bind fun x56 =>
      ((chk (decide (16 ≤ (x54.1.length - 16)))).bind fun x57 =>
      some ({ a0 with Confirm := (A16vu.of x54.1), Master := (A16vu.of (List.drop 16 x54.1)), OtherElement := a2, OtherScalar := a1 }, true))))))))))

def auth_Check (a0 : Auth) : Option Int :=
  ((
    bif (((decide (a0.Own = a0.Peer)) || (decide (a0.Base < 2))) || (decide (2305843009213693951 ≤ a0.Base))) then
      some true
    else
      ((auth_secret a0).bind fun x44 =>
      some (!x44))).bind fun x45 =>
  bif ((x45 || (decide (4 < a0.Stage))) || ((!a0.HasToken) && (a0.Token != 0))) then
    some 8
  else
    ((auth_sum a0.Rand a0.Mask).bind fun x46 =>
    ((
      bif (a0.Scalar != x46) then
        some true
      else
        ((auth_Pow a0.Base (IntKind.wrap .u64 (2305843009213693950 - a0.Mask))).bind fun x47 =>
        some (a0.Element != x47))).bind fun x48 =>
    bif ((x48 || (decide (a0.Scalar < 2))) || (decide (a0.Element < 2))) then
      some 8
    else
      bif ((((a0.Stage == 1) || (a0.Stage == 2)) && ((((decide (a0.Tries < 1)) || (decide (3 < a0.Tries))) || (decide (a0.Due < 1))) || (decide (1099511827776 < a0.Due)))) || ((!((a0.Stage == 1) || (a0.Stage == 2))) && ((a0.Tries != 0) || (a0.Due != 0)))) then
        some 8
      else
        bif ((a0.Stage == 2) || (a0.Stage == 3)) then
          ((auth_keyed a0 a0.OtherScalar a0.OtherElement).bind fun x49 =>
          bif ((((!x49.2) || (!decide (x49.1 = a0))) || (decide (a0.Sync < 1))) || (decide (65535 < a0.Sync))) then
            some 8
          else
            some 0)
        else
          bif ((!decide (({ a0 with Confirm := A16vu.z, Master := A16vu.z, OtherElement := 0, OtherScalar := 0, Sync := 0 } : Auth) = a0)) || (a0.HasToken && (a0.Stage != 1))) then
            some 8
          else
            some 0)))

def auth_checked (a0 : Auth) (a1 : Int) : Option Int :=
  ((auth_Check a0).bind fun x44 =>
  bif (x44 != 0) then
    some x44
  else
    bif ((decide (a1 < 0)) || (decide (1099511627776 < a1))) then
      some 2
    else
      some 0)

def auth_commit (a0 : Auth) : Option (List Int) :=
  ((auth_numbers [a0.Scalar, a0.Element]).bind fun x46 =>
  ((chk (decide (1 + x46.length ≤ 140737488355328))).bind fun x47 =>
  bif (!a0.HasToken) then
    ((chk (decide (([1] ++ x46).length + 1 ≤ 140737488355328))).bind fun x48 =>
    some (([1] ++ x46) ++ [0]))
  else
    ((chk (decide (([1] ++ x46).length + 1 ≤ 140737488355328))).bind fun x49 =>
    ((auth_numbers [a0.Token]).bind fun x50 =>
    ((chk (decide (x46.length + (2 + x50.length) ≤ 140737488355328))).bind fun x51 =>
    some ((([1] ++ x46) ++ [8]) ++ x50))))))

def auth_Start (a0 : Auth) (a1 : Int) : Option (Auth × (List (List Int)) × Int) :=
  ((auth_checked a0 a1).bind fun x44 =>
  bif (x44 != 0) then
    some (Auth.z, [], x44)
  else
    bif (a0.Stage != 0) then
      some (Auth.z, [], 20)
    else
      ((auth_commit { a0 with Due := IntKind.wrap .i64 (a1 + 200000), Stage := 1, Tries := 1 }).bind fun x45 =>
      some ({ a0 with Due := IntKind.wrap .i64 (a1 + 200000), Stage := 1, Tries := 1 }, [x45], 0)))

def auth_Handle_1 (a0 : Int) : Option (Auth × (List (List Int)) × Int) :=
  some (Auth.z, [], a0)

def bytes_Clone (a0 : (List Int)) : Option (List Int) :=
  ((chk (decide (a0.length ≤ 140737488355328))).bind fun x61 =>
  some a0)

def auth_coded (a0 : A16vu) (a1 : Int) (a2 : Int) (a3 : Int) (a4 : Int) (a5 : Int) : Option (List Int) :=
  ((bytes_Clone [2, IntKind.wrap .u8 a1, IntKind.wrap .u8 ((a1).fdiv (2 ^ (min 8 64)))]).bind fun x61 =>
  ((auth_numbers [a2, a3, a4, a5]).bind fun x62 =>
  ((chk (decide (x61.length + x62.length ≤ 140737488355328))).bind fun x63 =>
  ((derive_Mac a0 (x61 ++ x62)).bind fun x64 =>
  some ([2, IntKind.wrap .u8 a1, IntKind.wrap .u8 ((a1).fdiv (2 ^ (min 8 64)))] ++ [x64.a0, x64.a1, x64.a2, x64.a3, x64.a4, x64.a5, x64.a6, x64.a7, x64.a8, x64.a9, x64.a10, x64.a11, x64.a12, x64.a13, x64.a14, x64.a15])))))

def bytes_Equal (a0 : (List Int)) (a1 : (List Int)) : Option Bool :=
  some (sEq a0 a1)

def auth_prove (a0 : Auth) : Option (Auth × (List Int) × Bool) :=
  ((auth_coded a0.Confirm (IntKind.wrap .i64 (a0.Sync + 1)) a0.Scalar a0.Element a0.OtherScalar a0.OtherElement).bind fun x81 =>
  some ({ a0 with Sync := IntKind.wrap .i64 (a0.Sync + 1) }, x81, decide ((IntKind.wrap .i64 (a0.Sync + 1)) ≤ 65535)))

def auth_committed (a0 : Auth) (a1 : (List Int)) (a2 : Int) : Option (Auth × (List (List Int)) × Int) :=
  ((chk (decide (1 ≤ (a1.length : Int)))).bind fun x69 =>
  ((auth_get (List.drop 1 a1)).bind fun x70 =>
  ((chk (decide (9 ≤ (a1.length : Int)))).bind fun x71 =>
  ((auth_get (List.drop 9 a1)).bind fun x72 =>
  ((
    ((
      bif (a0.Stage == 0) then
        some (a0.Stage == 0)
      else
        some (a0.Stage == 1)).bind fun d75 =>
    bif d75 then
      ((auth_keyed a0 x70 x72).bind fun x76 =>
      bif (!x76.2) then
        some (Ex.ret (a0, [], 33))
      else
        ((
          bif (a0.Stage == 0) then
            ((auth_commit a0).bind fun x78 =>
            some [x78])
          else
            some []).bind fun d77 =>
        some (Ex.go ({ x76.1 with Due := IntKind.wrap .i64 (a2 + 200000), Stage := 2, Tries := 1 }, d77))))
    else
      ((
        bif (a0.Stage == 2) then
          some (a0.Stage == 2)
        else
          some (a0.Stage == 3)).bind fun d79 =>
      bif d79 then
        bif ((x70 != a0.OtherScalar) || (x72 != a0.OtherElement)) then
          some (Ex.ret (a0, [], 20))
        else
          bif (a0.Stage == 2) then
            ((auth_commit a0).bind fun x80 =>
            some (Ex.go (a0, [x80])))
          else
            some (Ex.go (a0, []))
      else
        some (Ex.ret (a0, [], 20))))).bind fun o74 =>
  (o74.k fun d73 =>
  ((auth_prove d73.1).bind fun x81 =>
  bif (!x81.2.2) then
    some (x81.1, [], 22)
  else
    ((chk (decide (((d73.2).length + 1) * 24 ≤ 140737488355328))).bind fun x82 =>
    some (x81.1, (d73.2 ++ [x81.2.1]), 0)))))))))

def auth_Handle (a0 : Auth) (a1 : (List Int)) (a2 : Int) : Option (Auth × (List (List Int)) × Int) :=
  ((auth_checked a0 a2).bind fun x50 =>
  bif (x50 != 0) then
    ((auth_Handle_1 x50).bind fun x51 =>
    some (x51.1, x51.2.1, x51.2.2))
  else
    ((auth_shaped a1).bind fun x52 =>
    bif (x52 != 0) then
      ((auth_Handle_1 x52).bind fun x53 =>
      some (x53.1, x53.2.1, x53.2.2))
    else
      ((idx a1 0).bind fun x54 =>
      bif decide (({ A2vu.z with a0 := x54, a1 := a0.Stage } : A2vu) = { A2vu.z with a0 := 3, a1 := 1 }) then
        bif (a0.Tries == 3) then
          ((auth_Handle_1 20).bind fun x55 =>
          some (x55.1, x55.2.1, x55.2.2))
        else
          ((chk (decide (1 ≤ (a1.length : Int)))).bind fun x56 =>
          ((auth_get (List.drop 1 a1)).bind fun x57 =>
          ((auth_commit { a0 with Due := IntKind.wrap .i64 (a2 + 200000), HasToken := true, Token := x57, Tries := IntKind.wrap .i64 (a0.Tries + 1) }).bind fun x58 =>
          some ({ a0 with Due := IntKind.wrap .i64 (a2 + 200000), HasToken := true, Token := x57, Tries := IntKind.wrap .i64 (a0.Tries + 1) }, [x58], 0))))
      else
        bif decide (({ A2vu.z with a0 := x54, a1 := a0.Stage } : A2vu) = { A2vu.z with a0 := 2, a1 := 2 }) then
          ((idx a1 1).bind fun x59 =>
          ((idx a1 2).bind fun x60 =>
          ((auth_coded a0.Confirm (bor .i64 (IntKind.wrap .i64 x59) (IntKind.wrap .i64 ((IntKind.wrap .i64 x60) * 2 ^ (min 8 64)))) a0.OtherScalar a0.OtherElement a0.Scalar a0.Element).bind fun x61 =>
          ((bytes_Equal a1 x61).bind fun x62 =>
          bif (!x62) then
            ((auth_Handle_1 33).bind fun x63 =>
            some (x63.1, x63.2.1, x63.2.2))
          else
            some ({ a0 with Due := 0, Stage := 3, Tries := 0 }, [], 0)))))
        else
          bif (x54 != 1) then
            ((auth_Handle_1 20).bind fun x64 =>
            some (x64.1, x64.2.1, x64.2.2))
          else
            ((auth_committed a0 a1 a2).bind fun x65 =>
            bif (x65.2.2 != 0) then
              ((auth_Handle_1 x65.2.2).bind fun x66 =>
              some (x66.1, x66.2.1, x66.2.2))
            else
              some (x65.1, x65.2.1, 0)))))

def hotspotlaw29_alive : Option Bool :=
  (hotspotlaw29_one.bind fun x30 =>
  (hotspotlaw29_two.bind fun x31 =>
  ((auth_New x30 x31 [115, 101, 99, 114, 101, 116] 1000 77).bind fun x32 =>
  (hotspotlaw29_two.bind fun x33 =>
  (hotspotlaw29_one.bind fun x34 =>
  ((auth_New x33 x34 [115, 101, 99, 114, 101, 116] 2000 99).bind fun x35 =>
  ((
    bif ((x32.2 != 0) || (x35.2 != 0)) then
      some true
    else
      ((auth_Mul 1152921504606846976 2).bind fun x36 =>
      some (x36 != 1))).bind fun x37 =>
  ((
    bif x37 then
      some true
    else
      ((auth_Pow 2 61).bind fun x38 =>
      some (x38 != 1))).bind fun x39 =>
  bif x39 then
    some false
  else
    ((auth_Start x32.1 0).bind fun x40 =>
    ((
      bif ((x40.2.2 != 0) || ((x40.2.1.length : Int) != 1)) then
        some true
      else
        ((idx x40.2.1 0).bind fun x41 =>
        some ((x41.length : Int) != 18))).bind fun x42 =>
    bif x42 then
      some false
    else
      ((idx x40.2.1 0).bind fun x43 =>
      ((auth_Handle x35.1 x43 0).bind fun x44 =>
      ((
        bif ((x44.2.2 != 0) || ((x44.2.1.length : Int) != 2)) then
          some true
        else
          ((idx x44.2.1 1).bind fun x45 =>
          some ((x45.length : Int) != 19))).bind fun x46 =>
      bif x46 then
        some false
      else
        ((idx x44.2.1 0).bind fun x47 =>
        ((auth_Handle x40.1 x47 0).bind fun x48 =>
        bif ((x48.2.2 != 0) || ((x48.2.1.length : Int) != 1)) then
          some false
        else
          ((idx x44.2.1 1).bind fun x49 =>
          ((auth_Handle x48.1 x49 0).bind fun x50 =>
          ((idx x48.2.1 0).bind fun x51 =>
          ((auth_Handle x44.1 x51 0).bind fun x52 =>
          some ((((((x50.2.2 == 0) && (x52.2.2 == 0)) && (x50.1.Stage == 3)) && (x52.1.Stage == 3)) && (decide (x50.1.Master = x52.1.Master))) && (decide (x50.1.Confirm = x52.1.Confirm))))))))))))))))))))))

def hotspotlaw29_made (a0 : Hotspotlaw29_Sides) : Option (A2_Auth × Bool) :=
  bif ((decide (64 < (a0.One.length : Int))) || (decide (64 < (a0.Two.length : Int)))) then
    some (A2_Auth.z, false)
  else
    (hotspotlaw29_one.bind fun x59 =>
    (hotspotlaw29_two.bind fun x60 =>
    ((auth_New x59 x60 a0.One a0.Rand a0.Mask).bind fun x61 =>
    (hotspotlaw29_two.bind fun x62 =>
    (hotspotlaw29_one.bind fun x63 =>
    ((auth_New x62 x63 a0.Two a0.Rand2 a0.Mask2).bind fun x64 =>
    some ({ A2_Auth.z with a0 := x61.1, a1 := x64.1 }, ((x61.2 == 0) && (x64.2 == 0)))))))))

def auth_Tick (a0 : Auth) (a1 : Int) : Option (Auth × (List (List Int)) × Int) :=
  ((auth_checked a0 a1).bind fun x71 =>
  bif (x71 != 0) then
    some (Auth.z, [], x71)
  else
    bif ((a0.Due == 0) || (decide (a1 < a0.Due))) then
      some (a0, [], 0)
    else
      bif (a0.Tries == 3) then
        some ({ Auth.z with Base := a0.Base, Element := a0.Element, Mask := a0.Mask, Own := a0.Own, Peer := a0.Peer, Rand := a0.Rand, Scalar := a0.Scalar, Stage := 4 }, [], 0)
      else
        ((auth_commit { a0 with Due := IntKind.wrap .i64 (a1 + 200000), Tries := IntKind.wrap .i64 (a0.Tries + 1) }).bind fun x72 =>
        bif (a0.Stage == 2) then
          ((auth_prove { a0 with Due := IntKind.wrap .i64 (a1 + 200000), Tries := IntKind.wrap .i64 (a0.Tries + 1) }).bind fun x73 =>
          bif (!x73.2.2) then
            some (Auth.z, [], 22)
          else
            some (x73.1, ([x72] ++ [x73.2.1]), 0))
        else
          some ({ a0 with Due := IntKind.wrap .i64 (a1 + 200000), Tries := IntKind.wrap .i64 (a0.Tries + 1) }, [x72], 0)))

def hotspotlaw29_run_L2 (a1 : (List Hotspotlaw29_Event)) (a0 : A2_Auth) : Nat → (A2_Auth × List (List Int) × Int × Int) → Option (Ex (A2_Auth × Bool) A2_Auth)
  | 0, _ => none
  | n2 + 1, d68 =>
    bif decide (d68.2.2.2 < (a1.length : Int)) then
      ((idx a1 d68.2.2.2).bind fun x69 =>
      bif (((((decide (40 < (a1.length : Int))) || (decide (x69.Wait < 0))) || (decide (1000000 < x69.Wait))) || (decide (x69.Which < 0))) || (decide (x69.At < 0))) then
        some (Ex.ret (d68.1, false))
      else
        ((
          bif (x69.Kind == 0) then
            ((idxA 2 [d68.1.a0, d68.1.a1] (IntKind.wrap .i64 ((x69.To).tmod 2))).bind fun x71 =>
            ((auth_Start x71 (IntKind.wrap .i64 (d68.2.2.1 + x69.Wait))).bind fun x72 =>
            some (x72.1, x72.2.1, x72.2.2, false)))
          else
            bif ((x69.Kind == 1) || ((((d68.2.1).length : Nat) : Int) == 0)) then
              ((idxA 2 [d68.1.a0, d68.1.a1] (IntKind.wrap .i64 ((x69.To).tmod 2))).bind fun x73 =>
              ((auth_Tick x73 (IntKind.wrap .i64 (d68.2.2.1 + x69.Wait))).bind fun x74 =>
              some (x74.1, x74.2.1, x74.2.2, false)))
            else
              ((chk (decide ((((d68.2.1).length : Nat) : Int) ≠ 0))).bind fun x75 =>
              ((idx d68.2.1 ((x69.Which).tmod (((d68.2.1).length : Nat) : Int))).bind fun x76 =>
              ((chk (decide (x76.length ≤ 140737488355328))).bind fun x77 =>
              ((
                bif ((decide (0 < ((x76.length : Nat) : Int))) && (x69.By != 0)) then
                  ((chk (decide (((x76.length : Nat) : Int) ≠ 0))).bind fun x79 =>
                  ((chk (decide (((x76.length : Nat) : Int) ≠ 0))).bind fun x80 =>
                  ((idx x76 ((x69.At).tmod ((x76.length : Nat) : Int))).bind fun x81 =>
                  some (true, (x76.set (((x69.At).tmod ((x76.length : Nat) : Int)).toNat) (bxor .u8 x81 x69.By))))))
                else
                  some (false, x76)).bind fun d78 =>
              ((idxA 2 [d68.1.a0, d68.1.a1] (IntKind.wrap .i64 ((x69.To).tmod 2))).bind fun x82 =>
              ((auth_Handle x82 d78.2 (IntKind.wrap .i64 (d68.2.2.1 + x69.Wait))).bind fun x83 =>
              some (x83.1, x83.2.1, x83.2.2, d78.1)))))))).bind fun d70 =>
        bif (d70.2.2.1 != 0) then
          hotspotlaw29_run_L2 a1 a0 n2 (d68.1, d68.2.1, IntKind.wrap .i64 (d68.2.2.1 + x69.Wait), IntKind.wrap .i64 (d68.2.2.2 + 1))
        else
          bif d70.2.2.2 then
            some (Ex.ret (d68.1, false))
          else
            ((idxA 2 [d68.1.a0, d68.1.a1] (IntKind.wrap .i64 ((x69.To).tmod 2))).bind fun x84 =>
            ((chk (decide ((d68.2.1.length + d70.2.1.length) * 24 ≤ 140737488355328))).bind fun x85 =>
            hotspotlaw29_run_L2 a1 a0 n2 ((d68.1.setA ((IntKind.wrap .i64 ((x69.To).tmod 2)).toNat) d70.1), (d68.2.1 ++ d70.2.1), IntKind.wrap .i64 (d68.2.2.1 + x69.Wait), IntKind.wrap .i64 (d68.2.2.2 + 1))))))
    else
      some (Ex.go d68.1)

def hotspotlaw29_run (a0 : A2_Auth) (a1 : (List Hotspotlaw29_Event)) : Option (A2_Auth × Bool) :=
  ((
    hotspotlaw29_run_L2 a1 a0 big (a0, [], 0, 0)).bind fun o67 =>
  (o67.k fun d66 =>
  some (d66, true)))

def hotspotref29_Code (a0 : Auth) (a1 : Int) (a2 : Bool) : Option (List Int) :=
  ((hotspotref29_Eight a0.Scalar).bind fun x91 =>
  ((hotspotref29_Eight a0.Element).bind fun x92 =>
  ((chk (decide (x91.length + x92.length ≤ 140737488355328))).bind fun x93 =>
  ((hotspotref29_Eight a0.OtherScalar).bind fun x94 =>
  ((hotspotref29_Eight a0.OtherElement).bind fun x95 =>
  ((chk (decide (x94.length + x95.length ≤ 140737488355328))).bind fun x96 =>
  ((
    bif a2 then
      some ((x94 ++ x95), (x91 ++ x92))
    else
      some ((x91 ++ x92), (x94 ++ x95))).bind fun d97 =>
  ((chk (decide (3 + (d97.1).length ≤ 140737488355328))).bind fun x98 =>
  ((chk (decide (3 + (((d97.1).length) + ((d97.2).length)) ≤ 140737488355328))).bind fun x99 =>
  ((hotspotref23_Mac a0.Confirm (([2, IntKind.wrap .u8 ((a1).tmod 256), IntKind.wrap .u8 (IntKind.wrap .i64 ((a1).tdiv 256))] ++ d97.1) ++ d97.2)).bind fun x100 =>
  some ([2, IntKind.wrap .u8 ((a1).tmod 256), IntKind.wrap .u8 (IntKind.wrap .i64 ((a1).tdiv 256))] ++ [x100.a0, x100.a1, x100.a2, x100.a3, x100.a4, x100.a5, x100.a6, x100.a7, x100.a8, x100.a9, x100.a10, x100.a11, x100.a12, x100.a13, x100.a14, x100.a15])))))))))))

def hotspotref22_Same_L2 (a0 : (List Int)) (a1 : (List Int)) : Nat → Int → Option (Ex Bool Unit)
  | 0, _ => none
  | n3 + 1, d105 =>
    bif decide (d105 < (a0.length : Int)) then
      ((idx a0 d105).bind fun x106 =>
      ((idx a1 d105).bind fun x107 =>
      bif (x106 != x107) then
        some (Ex.ret false)
      else
        hotspotref22_Same_L2 a0 a1 n3 (IntKind.wrap .i64 (d105 + 1))))
    else
      some (Ex.go ())

def hotspotref22_Same (a0 : (List Int)) (a1 : (List Int)) : Option Bool :=
  bif ((a0.length : Int) != (a1.length : Int)) then
    some false
  else
    ((
      hotspotref22_Same_L2 a0 a1 big 0).bind fun o104 =>
    (o104.k fun d103 =>
    some true))

def hotspotlaw29_coincide_L2 (a0 : Auth) (a1 : Auth) : Nat → Int → Option (Ex Bool Unit)
  | 0, _ => none
  | n2 + 1, d92 =>
    bif decide (d92 ≤ 100) then
      ((hotspotref29_Code a0 d92 false).bind fun x93 =>
      ((hotspotref29_Code a1 d92 true).bind fun x94 =>
      ((hotspotref22_Same x93 x94).bind fun x95 =>
      ((
        bif x95 then
          some true
        else
          ((hotspotref29_Code a1 d92 false).bind fun x96 =>
          ((hotspotref29_Code a0 d92 true).bind fun x97 =>
          ((hotspotref22_Same x96 x97).bind fun x98 =>
          some x98)))).bind fun x99 =>
      bif x99 then
        some (Ex.ret true)
      else
        ((hotspotref29_Code a0 d92 false).bind fun x100 =>
        ((hotspotref29_Code a0 d92 true).bind fun x101 =>
        ((hotspotref22_Same x100 x101).bind fun x102 =>
        ((
          bif x102 then
            some true
          else
            ((hotspotref29_Code a1 d92 false).bind fun x103 =>
            ((hotspotref29_Code a1 d92 true).bind fun x104 =>
            ((hotspotref22_Same x103 x104).bind fun x105 =>
            some x105)))).bind fun x106 =>
        bif x106 then
          some (Ex.ret true)
        else
          hotspotlaw29_coincide_L2 a0 a1 n2 (IntKind.wrap .i64 (d92 + 1))))))))))
    else
      some (Ex.go ())

def hotspotlaw29_coincide (a0 : Auth) (a1 : Auth) : Option Bool :=
  ((
    hotspotlaw29_coincide_L2 a0 a1 big 1).bind fun o91 =>
  (o91.k fun d90 =>
  some false))

def hotspotlaw29_AuthAgrees (a0 : Hotspotlaw29_Sides) (a1 : (List Hotspotlaw29_Event)) : Option Bool :=
  (hotspotlaw29_alive.bind fun x58 =>
  ((hotspotlaw29_made a0).bind fun x59 =>
  bif ((!x59.2) || (!x58)) then
    some x58
  else
    ((hotspotlaw29_run x59.1 a1).bind fun x60 =>
    bif (!x60.2) then
      some x58
    else
      ((auth_Check x60.1.a0).bind fun x61 =>
      ((
        bif (x61 != 0) then
          some true
        else
          ((auth_Check x60.1.a1).bind fun x62 =>
          some (x62 != 0))).bind fun x63 =>
      bif x63 then
        some false
      else
        bif ((((((x60.1.a0.OtherScalar == x60.1.a1.Scalar) && (x60.1.a0.OtherElement == x60.1.a1.Element)) && (x60.1.a1.OtherScalar == x60.1.a0.Scalar)) && (x60.1.a1.OtherElement == x60.1.a0.Element)) && (sEq a0.One a0.Two)) && ((!decide (x60.1.a0.Confirm = x60.1.a1.Confirm)) || (!decide (x60.1.a0.Master = x60.1.a1.Master)))) then
          some false
        else
          bif (((x60.1.a0.Stage == 3) && (x60.1.a1.Stage == 3)) && (((!((((x60.1.a0.OtherScalar == x60.1.a1.Scalar) && (x60.1.a0.OtherElement == x60.1.a1.Element)) && (x60.1.a1.OtherScalar == x60.1.a0.Scalar)) && (x60.1.a1.OtherElement == x60.1.a0.Element))) || (!decide (x60.1.a0.Master = x60.1.a1.Master))) || (!decide (x60.1.a0.Confirm = x60.1.a1.Confirm)))) then
            ((
              bif (x58 && ((((x60.1.a0.OtherScalar == x60.1.a1.Scalar) && (x60.1.a0.OtherElement == x60.1.a1.Element)) && (x60.1.a1.OtherScalar == x60.1.a0.Scalar)) && (x60.1.a1.OtherElement == x60.1.a0.Element))) then
                ((hotspotlaw29_coincide x60.1.a0 x60.1.a1).bind fun x64 =>
                some x64)
              else
                some false).bind fun x65 =>
            some x65)
          else
            some x58)))))

end Go.AX.Z.TV

/-! (TVF) -/

namespace Go.AX.Z.TV
open Go.AX Go.Proofs

def tab : List (TypeId × List (Option IntKind)) :=
  [(23, [some .u8, some .u8, some .u8, some .u8, some .u8, some .u8, some .u8, some .u8, some .u8, some .u8, some .u8, some .u8, some .u8, some .u8, some .u8, some .u8]),
   (28, [some .u8, some .u8, some .u8, some .u8, some .u8, some .u8]),
   (55, [some .u8, some .u8, some .u8, some .u8, some .u8, some .u8, some .u8, some .u8, some .u8, some .u8, some .u8, some .u8, some .u8, some .u64, some .u64, some .u64, some .u64, some .u64, some .u64, some .u64, some .u8, some .u8, some .u8, some .u8, some .u8, some .u8, some .u8, some .u8, some .u8, some .u8, some .u8, some .u8, some .u8, some .u8, some .u8, some .u8, some .u8, some .u8, some .u8, some .u8, some .u8, some .u8, some .u8, some .u8, some .u8, some .u8, some .u8, some .u8, some .u8, some .u8, some .u8, some .u8, none, some .u64, some .i64, some .i64, some .i64]),
   (98, [some .u8, some .u8])]

noncomputable def K : Ctx := ⟨Try.prog, fun _ => none, tabK tab⟩

theorem ag105 : agB K.P 105 = some true := by kernel_rfl
theorem ag118 : agB K.P 118 = some false := by kernel_rfl
theorem ag119 : agB K.P 119 = some true := by kernel_rfl
theorem ag121 : agB K.P 121 = some true := by kernel_rfl
theorem ag127 : agB K.P 127 = some false := by kernel_rfl
theorem ag23 : agB K.P 23 = some true := by kernel_rfl
theorem ag24 : agB K.P 24 = some false := by kernel_rfl
theorem ag26 : agB K.P 26 = some true := by kernel_rfl
theorem ag28 : agB K.P 28 = some true := by kernel_rfl
theorem ag29 : agB K.P 29 = some false := by kernel_rfl
theorem ag3 : agB K.P 3 = some false := by kernel_rfl
theorem ag4 : agB K.P 4 = some false := by kernel_rfl
theorem ag47 : agB K.P 47 = some false := by kernel_rfl
theorem ag5 : agB K.P 5 = some false := by kernel_rfl
theorem ag51 : agB K.P 51 = some true := by kernel_rfl
theorem ag55 : agB K.P 55 = some true := by kernel_rfl
theorem ag56 : agB K.P 56 = some true := by kernel_rfl
theorem ag9 : agB K.P 9 = some false := by kernel_rfl
theorem ag90 : agB K.P 90 = some true := by kernel_rfl
theorem ar105 : arE K.P 105 = some (16, 5) := by kernel_rfl
theorem ar121 : arE K.P 121 = some (4, 118) := by kernel_rfl
theorem ar23 : arE K.P 23 = some (16, 5) := by kernel_rfl
theorem ar28 : arE K.P 28 = some (6, 5) := by kernel_rfl
theorem ar56 : arE K.P 56 = some (2, 55) := by kernel_rfl
theorem ar98 : arE K.P 98 = some (2, 5) := by kernel_rfl
theorem bl105 : bldS K.P 105 = none := by kernel_rfl
theorem bl121 : bldS K.P 121 = none := by kernel_rfl
theorem bl23 : bldS K.P 23 = none := by kernel_rfl
theorem bl26 : bldS K.P 26 = some [(0, 16), (16, 1)] := by kernel_rfl
theorem bl28 : bldS K.P 28 = none := by kernel_rfl
theorem bl55 : bldS K.P 55 = some [(0, 6), (6, 6), (12, 1), (13, 1), (14, 1), (15, 1), (16, 1), (17, 1), (18, 1), (19, 1), (20, 16), (36, 16), (52, 1), (53, 1), (54, 1), (55, 1), (56, 1)] := by kernel_rfl
theorem bl56 : bldS K.P 56 = none := by kernel_rfl
theorem bl98 : bldS K.P 98 = none := by kernel_rfl
theorem bs29_9 : isBS K.P 29 9 = true := by kernel_rfl
theorem by118 : byOf K.P 118 = some 4 := by kernel_rfl
theorem by28 : byOf K.P 28 = some 6 := by kernel_rfl
theorem by29 : byOf K.P 29 = some 24 := by kernel_rfl
theorem by4 : byOf K.P 4 = some 1 := by kernel_rfl
theorem by47 : byOf K.P 47 = some 8 := by kernel_rfl
theorem by5 : byOf K.P 5 = some 1 := by kernel_rfl
theorem by90 : byOf K.P 90 = some 40 := by kernel_rfl
theorem ek23 : K.eqk 23 = some [some .u8, some .u8, some .u8, some .u8, some .u8, some .u8, some .u8, some .u8, some .u8, some .u8, some .u8, some .u8, some .u8, some .u8, some .u8, some .u8] := by kernel_rfl
theorem ek28 : K.eqk 28 = some [some .u8, some .u8, some .u8, some .u8, some .u8, some .u8] := by kernel_rfl
theorem ek55 : K.eqk 55 = some [some .u8, some .u8, some .u8, some .u8, some .u8, some .u8, some .u8, some .u8, some .u8, some .u8, some .u8, some .u8, some .u8, some .u64, some .u64, some .u64, some .u64, some .u64, some .u64, some .u64, some .u8, some .u8, some .u8, some .u8, some .u8, some .u8, some .u8, some .u8, some .u8, some .u8, some .u8, some .u8, some .u8, some .u8, some .u8, some .u8, some .u8, some .u8, some .u8, some .u8, some .u8, some .u8, some .u8, some .u8, some .u8, some .u8, some .u8, some .u8, some .u8, some .u8, some .u8, some .u8, none, some .u64, some .i64, some .i64, some .i64] := by kernel_rfl
theorem ek98 : K.eqk 98 = some [some .u8, some .u8] := by kernel_rfl
theorem el103 : elS K.P 103 = some 47 := by kernel_rfl
theorem el129 : elS K.P 129 = some 118 := by kernel_rfl
theorem el24 : elS K.P 24 = some 28 := by kernel_rfl
theorem el29 : elS K.P 29 = some 5 := by kernel_rfl
theorem el52 : elS K.P 52 = some 90 := by kernel_rfl
theorem el70 : elS K.P 70 = some 29 := by kernel_rfl
theorem el74 : elS K.P 74 = some 4 := by kernel_rfl
theorem eln3 : elS K.P 3 = none := by kernel_rfl
theorem fl26_0 : flE K.P 26 0 = some (0, 23) := by kernel_rfl
theorem fl26_1 : flE K.P 26 1 = some (16, 24) := by kernel_rfl
theorem fl51_0 : flE K.P 51 0 = some (0, 9) := by kernel_rfl
theorem fl51_1 : flE K.P 51 1 = some (1, 9) := by kernel_rfl
theorem fl51_2 : flE K.P 51 2 = some (2, 47) := by kernel_rfl
theorem fl51_3 : flE K.P 51 3 = some (3, 47) := by kernel_rfl
theorem fl51_4 : flE K.P 51 4 = some (4, 47) := by kernel_rfl
theorem fl51_5 : flE K.P 51 5 = some (5, 47) := by kernel_rfl
theorem fl55_0 : flE K.P 55 0 = some (0, 28) := by kernel_rfl
theorem fl55_1 : flE K.P 55 1 = some (6, 28) := by kernel_rfl
theorem fl55_10 : flE K.P 55 10 = some (20, 23) := by kernel_rfl
theorem fl55_11 : flE K.P 55 11 = some (36, 23) := by kernel_rfl
theorem fl55_12 : flE K.P 55 12 = some (52, 4) := by kernel_rfl
theorem fl55_13 : flE K.P 55 13 = some (53, 47) := by kernel_rfl
theorem fl55_14 : flE K.P 55 14 = some (54, 3) := by kernel_rfl
theorem fl55_15 : flE K.P 55 15 = some (55, 3) := by kernel_rfl
theorem fl55_16 : flE K.P 55 16 = some (56, 3) := by kernel_rfl
theorem fl55_2 : flE K.P 55 2 = some (12, 5) := by kernel_rfl
theorem fl55_3 : flE K.P 55 3 = some (13, 47) := by kernel_rfl
theorem fl55_4 : flE K.P 55 4 = some (14, 47) := by kernel_rfl
theorem fl55_5 : flE K.P 55 5 = some (15, 47) := by kernel_rfl
theorem fl55_6 : flE K.P 55 6 = some (16, 47) := by kernel_rfl
theorem fl55_7 : flE K.P 55 7 = some (17, 47) := by kernel_rfl
theorem fl55_8 : flE K.P 55 8 = some (18, 47) := by kernel_rfl
theorem fl55_9 : flE K.P 55 9 = some (19, 47) := by kernel_rfl
theorem fl90_0 : flE K.P 90 0 = some (0, 5) := by kernel_rfl
theorem fl90_1 : flE K.P 90 1 = some (1, 5) := by kernel_rfl
theorem fl90_2 : flE K.P 90 2 = some (2, 3) := by kernel_rfl
theorem fl90_3 : flE K.P 90 3 = some (3, 3) := by kernel_rfl
theorem fl90_4 : flE K.P 90 4 = some (4, 5) := by kernel_rfl
theorem fl90_5 : flE K.P 90 5 = some (5, 3) := by kernel_rfl
theorem in118 : inK K.P 118 = some .u32 := by kernel_rfl
theorem in3 : inK K.P 3 = some .i64 := by kernel_rfl
theorem in47 : inK K.P 47 = some .u64 := by kernel_rfl
theorem in5 : inK K.P 5 = some .u8 := by kernel_rfl
theorem in99 : inK K.P 99 = some .u64 := by kernel_rfl
theorem ni29 : inK K.P 29 = none := by kernel_rfl
theorem ni9 : inK K.P 9 = none := by kernel_rfl
theorem sz105 : szOf K.P 105 = some 16 := by kernel_rfl
theorem sz118 : szOf K.P 118 = some 1 := by kernel_rfl
theorem sz119 : szOf K.P 119 = some 36 := by kernel_rfl
theorem sz121 : szOf K.P 121 = some 4 := by kernel_rfl
theorem sz127 : szOf K.P 127 = some 1 := by kernel_rfl
theorem sz23 : szOf K.P 23 = some 16 := by kernel_rfl
theorem sz24 : szOf K.P 24 = some 1 := by kernel_rfl
theorem sz26 : szOf K.P 26 = some 17 := by kernel_rfl
theorem sz28 : szOf K.P 28 = some 6 := by kernel_rfl
theorem sz29 : szOf K.P 29 = some 1 := by kernel_rfl
theorem sz3 : szOf K.P 3 = some 1 := by kernel_rfl
theorem sz4 : szOf K.P 4 = some 1 := by kernel_rfl
theorem sz47 : szOf K.P 47 = some 1 := by kernel_rfl
theorem sz5 : szOf K.P 5 = some 1 := by kernel_rfl
theorem sz51 : szOf K.P 51 = some 6 := by kernel_rfl
theorem sz55 : szOf K.P 55 = some 57 := by kernel_rfl
theorem sz56 : szOf K.P 56 = some 114 := by kernel_rfl
theorem sz9 : szOf K.P 9 = some 1 := by kernel_rfl
theorem sz90 : szOf K.P 90 = some 6 := by kernel_rfl
theorem un103 : K.P.underlying 103 = some (.slice 47) := by kernel_rfl
theorem un105 : K.P.underlying 105 = some (.array 16 5) := by kernel_rfl
theorem un118 : K.P.underlying 118 = some (.int .u32) := by kernel_rfl
theorem un119 : K.P.underlying 119 = some (.array 36 118) := by kernel_rfl
theorem un121 : K.P.underlying 121 = some (.array 4 118) := by kernel_rfl
theorem un129 : K.P.underlying 129 = some (.slice 118) := by kernel_rfl
theorem un23 : K.P.underlying 23 = some (.array 16 5) := by kernel_rfl
theorem un24 : K.P.underlying 24 = some (.slice 28) := by kernel_rfl
theorem un28 : K.P.underlying 28 = some (.array 6 5) := by kernel_rfl
theorem un29 : K.P.underlying 29 = some (.slice 5) := by kernel_rfl
theorem un3 : K.P.underlying 3 = some (.int .i64) := by kernel_rfl
theorem un47 : K.P.underlying 47 = some (.int .u64) := by kernel_rfl
theorem un5 : K.P.underlying 5 = some (.int .u8) := by kernel_rfl
theorem un52 : K.P.underlying 52 = some (.slice 90) := by kernel_rfl
theorem un56 : K.P.underlying 56 = some (.array 2 55) := by kernel_rfl
theorem un70 : K.P.underlying 70 = some (.slice 29) := by kernel_rfl
theorem un74 : K.P.underlying 74 = some (.slice 4) := by kernel_rfl
theorem un9 : K.P.underlying 9 = some .string := by kernel_rfl
theorem ze105 : zer K.P 105 = some (e_A16vu A16vu.z) := by kernel_rfl
theorem ze118 : zer K.P 118 = some [.v (.int .u32 0)] := by kernel_rfl
theorem ze119 : zer K.P 119 = some (e_A36vw A36vw.z) := by kernel_rfl
theorem ze121 : zer K.P 121 = some (e_A4vw A4vw.z) := by kernel_rfl
theorem ze23 : zer K.P 23 = some (e_A16vu A16vu.z) := by kernel_rfl
theorem ze26 : zer K.P 26 = some (e_AuthDoor AuthDoor.z vnil) := by kernel_rfl
theorem ze28 : zer K.P 28 = some (e_A6vu A6vu.z) := by kernel_rfl
theorem ze29 : zer K.P 29 = some [.v (.slice none 0 0)] := by kernel_rfl
theorem ze4 : zer K.P 4 = some [.v (.bool false)] := by kernel_rfl
theorem ze47 : zer K.P 47 = some [.v (.int .u64 0)] := by kernel_rfl
theorem ze5 : zer K.P 5 = some [.v (.int .u8 0)] := by kernel_rfl
theorem ze55 : zer K.P 55 = some (e_Auth Auth.z) := by kernel_rfl
theorem ze56 : zer K.P 56 = some (e_A2_Auth A2_Auth.z) := by kernel_rfl
theorem ze90 : zer K.P 90 = some (e_Hotspotlaw29_Event Hotspotlaw29_Event.z) := by kernel_rfl
theorem ze98 : zer K.P 98 = some (e_A2vu A2vu.z) := by kernel_rfl
attribute [go_sem] ag105 ag118 ag119 ag121 ag127 ag23 ag24 ag26 ag28 ag29 ag3 ag4 ag47 ag5 ag51 ag55 ag56 ag9 ag90 ar105 ar121 ar23 ar28 ar56 ar98 bl105 bl121 bl23 bl26 bl28 bl55 bl56 bl98 bs29_9 by118 by28 by29 by4 by47 by5 by90 ek23 ek28 ek55 ek98 el103 el129 el24 el29 el52 el70 el74 eln3 fl26_0 fl26_1 fl51_0 fl51_1 fl51_2 fl51_3 fl51_4 fl51_5 fl55_0 fl55_1 fl55_10 fl55_11 fl55_12 fl55_13 fl55_14 fl55_15 fl55_16 fl55_2 fl55_3 fl55_4 fl55_5 fl55_6 fl55_7 fl55_8 fl55_9 fl90_0 fl90_1 fl90_2 fl90_3 fl90_4 fl90_5 in118 in3 in47 in5 in99 ni29 ni9 sz105 sz118 sz119 sz121 sz127 sz23 sz24 sz26 sz28 sz29 sz3 sz4 sz47 sz5 sz51 sz55 sz56 sz9 sz90 un103 un105 un118 un119 un121 un129 un23 un24 un28 un29 un3 un47 un5 un52 un56 un70 un74 un9 ze105 ze118 ze119 ze121 ze23 ze26 ze28 ze29 ze4 ze47 ze5 ze55 ze56 ze90 ze98
theorem mixed : K.P.follows .mixedOrders = true := by kernel_rfl
theorem hC : COk K := ⟨EqOk.of_tab (tab := tab) rfl (by kernel_rfl), mixed⟩
theorem rs75 : Try.f75.results = #[.tmp 2] := rfl
theorem rs74 : Try.f74.results = #[.tmp 2] := rfl
theorem rs65 : Try.f65.results = #[.tmp 6] := rfl
theorem rs82 : Try.f82.results = #[.cell 2 121] := rfl
theorem rs90 : Try.f90.results = #[.tmp 4] := rfl
theorem rs80 : Try.f80.results = #[.cell 2 119] := rfl
theorem rs81 : Try.f81.results = #[.cell 4 121] := rfl
theorem rs83 : Try.f83.results = #[.cell 6 121] := rfl
theorem rs84 : Try.f84.results = #[.cell 2 105] := rfl
theorem rs73 : Try.f73.results = #[.cell 4 105] := rfl
theorem rs64 : Try.f64.results = #[.cell 4 105] := rfl
theorem rs44 : Try.f44.results = #[.tmp 8, .tmp 9] := rfl
theorem rs35 : Try.f35.results = #[.tmp 2] := rfl
theorem rs92 : Try.f92.results = #[.tmp 8] := rfl
theorem rs86 : Try.f86.results = #[.cell 2 121] := rfl
theorem rs91 : Try.f91.results = #[.tmp 4] := rfl
theorem rs85 : Try.f85.results = #[.cell 2 119] := rfl
theorem rs87 : Try.f87.results = #[.cell 6 121] := rfl
theorem rs88 : Try.f88.results = #[.cell 2 105] := rfl
theorem rs76 : Try.f76.results = #[.cell 4 105] := rfl
theorem rs66 : Try.f66.results = #[.cell 4 105] := rfl
theorem rs33 : Try.f33.results = #[.tmp 2] := rfl
theorem rs63 : Try.f63.results = #[.tmp 4] := rfl
theorem rs37 : Try.f37.results = #[.tmp 2] := rfl
theorem rs41 : Try.f41.results = #[.tmp 2] := rfl
theorem rs27 : Try.f27.results = #[.cell 0 28] := rfl
theorem rs28 : Try.f28.results = #[.cell 0 28] := rfl
theorem rs70 : Try.f70.results = #[.tmp 4] := rfl
theorem rs54 : Try.f54.results = #[.tmp 4] := rfl
theorem rs71 : Try.f71.results = #[.tmp 4] := rfl
theorem rs55 : Try.f55.results = #[.tmp 2] := rfl
theorem rs68 : Try.f68.results = #[.tmp 4, .tmp 5] := rfl
theorem rs78 : Try.f78.results = #[.tmp 6, .tmp 7] := rfl
theorem rs69 : Try.f69.results = #[.tmp 6] := rfl
theorem rs46 : Try.f46.results = #[.tmp 4] := rfl
theorem rs26 : Try.f26.results = #[.tmp 6, .tmp 7] := rfl
theorem rs48 : Try.f48.results = #[.tmp 2] := rfl
theorem rs49 : Try.f49.results = #[.tmp 4] := rfl
theorem rs47 : Try.f47.results = #[.tmp 4] := rfl
theorem rs29 : Try.f29.results = #[.cell 10 55, .tmp 11] := rfl
theorem rs50 : Try.f50.results = #[.cell 6 55, .tmp 7] := rfl
theorem rs23 : Try.f23.results = #[.tmp 2] := rfl
theorem rs56 : Try.f56.results = #[.tmp 4] := rfl
theorem rs57 : Try.f57.results = #[.tmp 2] := rfl
theorem rs30 : Try.f30.results = #[.cell 4 55, .tmp 5, .tmp 6] := rfl
theorem rs58 : Try.f58.results = #[.cell 2 55, .tmp 3, .tmp 4] := rfl
theorem rs72 : Try.f72.results = #[.tmp 2] := rfl
theorem rs60 : Try.f60.results = #[.tmp 12] := rfl
theorem rs59 : Try.f59.results = #[.tmp 4] := rfl
theorem rs62 : Try.f62.results = #[.cell 2 55, .tmp 3, .tmp 4] := rfl
theorem rs61 : Try.f61.results = #[.cell 6 55, .tmp 7, .tmp 8] := rfl
theorem rs31 : Try.f31.results = #[.cell 6 55, .tmp 7, .tmp 8] := rfl
theorem rs20 : Try.f20.results = #[.tmp 0] := rfl
theorem rs21 : Try.f21.results = #[.cell 2 56, .tmp 3] := rfl
theorem rs32 : Try.f32.results = #[.cell 4 55, .tmp 5, .tmp 6] := rfl
theorem rs22 : Try.f22.results = #[.cell 4 56, .tmp 5] := rfl
theorem rs51 : Try.f51.results = #[.tmp 6] := rfl
theorem rs11 : Try.f11.results = #[.tmp 4] := rfl
theorem rs24 : Try.f24.results = #[.tmp 4] := rfl
theorem rs4 : Try.f4.results = #[.tmp 4] := rfl

end Go.AX.Z.TV
