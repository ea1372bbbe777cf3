/- A part of the proof: the types, the facts of the program and the functions, read plainly. -/
import Derived.Test.YthkcncinmpjhoaaDoorCorec
import Derived.Test.YthkcncinmpjhoaaDoorProg
import Derived.KernelRfl
set_option linter.unusedVariables false
set_option linter.unusedSimpArgs false

/-! (TOS) -/

set_option linter.unusedSimpArgs false
set_option linter.unusedVariables false
namespace Go.AX.Z.TO
open Go.AX
structure A6vu where
 a0 : Int
 a1 : Int
 a2 : Int
 a3 : Int
 a4 : Int
 a5 : Int
 deriving DecidableEq

def A6vu.z : A6vu := ⟨0, 0, 0, 0, 0, 0⟩

def e_A6vu (x : A6vu) : List AV := [vu x.a0, vu x.a1, vu x.a2, vu x.a3, vu x.a4, vu x.a5]

theorem e_A6vu_len (x : A6vu) : (e_A6vu x).length = 6 := by rfl
theorem e_A6vu_sub (x : A6vu) : sub? (e_A6vu x) 0 6 = some (e_A6vu x) := by rfl
theorem e_A6vu_take (x : A6vu) : (e_A6vu x).take 6 = (e_A6vu x) := by rfl
theorem e_A6vu_all (x : A6vu) (y : A6vu) : putAt (e_A6vu x) 0 (e_A6vu y) = e_A6vu y := by rfl
theorem e_A6vu_g_a0 (x : A6vu) : (e_A6vu x)[0]? = some (vu x.a0) := by rfl
theorem e_A6vu_s_a0 (x : A6vu) (v : Int) : (e_A6vu x).set 0 (vu v) = e_A6vu { x with a0 := v } := by rfl
theorem e_A6vu_s_a1 (x : A6vu) (v : Int) : (e_A6vu x).set 1 (vu v) = e_A6vu { x with a1 := v } := by rfl
theorem e_A6vu_s_a2 (x : A6vu) (v : Int) : (e_A6vu x).set 2 (vu v) = e_A6vu { x with a2 := v } := by rfl
theorem e_A6vu_s_a3 (x : A6vu) (v : Int) : (e_A6vu x).set 3 (vu v) = e_A6vu { x with a3 := v } := by rfl
theorem e_A6vu_s_a4 (x : A6vu) (v : Int) : (e_A6vu x).set 4 (vu v) = e_A6vu { x with a4 := v } := by rfl
theorem e_A6vu_s_a5 (x : A6vu) (v : Int) : (e_A6vu x).set 5 (vu v) = e_A6vu { x with a5 := v } := by rfl
theorem e_A6vu_fz (x : A6vu) (o : Nat → Ob) (n : Nat) : (e_A6vu x).map (fz o (n + 1)) = e_A6vu x := by rfl
theorem e_A6vu_reach (x : A6vu) (o : Nat → Ob) (n : Nat) : (e_A6vu x).flatMap (reach o (n + 1)) = [] := by
 simp only [e_A6vu, List.cons_append, List.nil_append, List.append_nil, List.flatMap_cons, List.flatMap_nil, reach_v]
theorem e_A6vu_clean (x : A6vu) : ∀ c ∈ (e_A6vu x), Clean c := by
 simp only [e_A6vu, List.cons_append, List.nil_append]
 repeat' (first | exact Clean.v _ | assumption | exact List.forall_mem_nil _ | refine List.forall_mem_cons.2 ⟨?_, ?_⟩)
theorem e_A6vu_tm {st : AS} {F : List Nat} {σ : List (Option Nat)} (x : A6vu) : TmL st F σ (e_A6vu x) (e_A6vu x) := by
 simp only [e_A6vu, List.cons_append, List.nil_append]
 repeat' (first | exact TmL.nil | (refine TmL.cons (Tm.v _) ?_) | (refine TmL.cons (by assumption) ?_))
def A6vu.setA (x : A6vu) (i : Nat) (v : Int) : A6vu := ⟨bif i == 0 then v else x.a0, bif i == 1 then v else x.a1, bif i == 2 then v else x.a2, bif i == 3 then v else x.a3, bif i == 4 then v else x.a4, bif i == 5 then v else x.a5⟩
theorem e_A6vu_setA (x : A6vu) (v : Int) : ∀ {i : Nat}, i < 6 → (e_A6vu x).set i (vu v) = e_A6vu (x.setA i v)
 | 0, _ => rfl
 | 1, _ => rfl
 | 2, _ => rfl
 | 3, _ => rfl
 | 4, _ => rfl
 | 5, _ => rfl
 | k + 6, h => absurd h (by omega)
theorem f_A6vu (x : A6vu) (o : Nat → Ob) (n : Nat) : (e_A6vu x).map (fz o (n + 1)) = e_A6vu x := by simp only [e_A6vu_fz]
theorem q_A6vu (x : A6vu) (o : Nat → Ob) (n : Nat) : (e_A6vu x).flatMap (reach o (n + 1)) = [] := by simp only [e_A6vu_reach, List.append_nil]
theorem e_A6vu_kinds (x : A6vu) : kindsOk [some .u8, some .u8, some .u8, some .u8, some .u8, some .u8] (e_A6vu x) = true := by rfl
theorem e_A6vu_eq (x y : A6vu) : eqCells (e_A6vu x) (e_A6vu y) = decide (x = y) := by
 rw [Bool.eq_iff_iff]
 simp only [e_A6vu, List.cons_append, List.nil_append, List.append_nil, eqCells, eqv, Bool.and_eq_true, beq_iff_eq, decide_eq_true_eq, and_true]
 constructor
 ·
  intro h
  obtain ⟨v1, v2, v3, v4, v5, v6⟩ := x
  obtain ⟨v7', v8', v9', v10', v11', v12'⟩ := y
  simp_all
 ·
  rintro rfl
  simp
attribute [go_sem] e_A6vu_len e_A6vu_sub e_A6vu_take e_A6vu_all e_A6vu_g_a0 e_A6vu_s_a0 e_A6vu_s_a1 e_A6vu_s_a2 e_A6vu_s_a3 e_A6vu_s_a4 e_A6vu_s_a5 e_A6vu_fz e_A6vu_reach e_A6vu_kinds e_A6vu_eq f_A6vu q_A6vu

structure PathRoute where
 Dest : A6vu
 Seq : Int
 Valid : Bool
 Next : A6vu
 Hops : Int
 Cost : Int
 Until : Int
 deriving DecidableEq

def PathRoute.z : PathRoute := ⟨A6vu.z, 0, false, A6vu.z, 0, 0, 0⟩

def e_PathRoute (x : PathRoute) : List AV := (e_A6vu x.Dest) ++ [vi x.Seq, vb x.Valid] ++ (e_A6vu x.Next) ++ [vi x.Hops, vi x.Cost, vi x.Until]

theorem e_PathRoute_len (x : PathRoute) : (e_PathRoute x).length = 17 := by rfl
theorem e_PathRoute_sub (x : PathRoute) : sub? (e_PathRoute x) 0 17 = some (e_PathRoute x) := by rfl
theorem e_PathRoute_take (x : PathRoute) : (e_PathRoute x).take 17 = (e_PathRoute x) := by rfl
theorem e_PathRoute_all (x : PathRoute) (y : PathRoute) : putAt (e_PathRoute x) 0 (e_PathRoute y) = e_PathRoute y := by rfl
theorem e_PathRoute_g_Seq (x : PathRoute) : (e_PathRoute x)[6]? = some (vi x.Seq) := by rfl
theorem e_PathRoute_s_Seq (x : PathRoute) (v : Int) : (e_PathRoute x).set 6 (vi v) = e_PathRoute { x with Seq := v } := by rfl
theorem e_PathRoute_g_Valid (x : PathRoute) : (e_PathRoute x)[7]? = some (vb x.Valid) := by rfl
theorem e_PathRoute_g_Hops (x : PathRoute) : (e_PathRoute x)[14]? = some (vi x.Hops) := by rfl
theorem e_PathRoute_g_Cost (x : PathRoute) : (e_PathRoute x)[15]? = some (vi x.Cost) := by rfl
theorem e_PathRoute_g_Until (x : PathRoute) : (e_PathRoute x)[16]? = some (vi x.Until) := by rfl
theorem e_PathRoute_d_Dest (x : PathRoute) : sub? (e_PathRoute x) 0 6 = some (e_A6vu x.Dest) := by rfl
theorem e_PathRoute_p_Dest (x : PathRoute) (v : A6vu) : putAt (e_PathRoute x) 0 (e_A6vu v) = e_PathRoute { x with Dest := v } := by rfl
theorem e_PathRoute_d_Next (x : PathRoute) : sub? (e_PathRoute x) 8 6 = some (e_A6vu x.Next) := by rfl
theorem e_PathRoute_fz (x : PathRoute) (o : Nat → Ob) (n : Nat) : (e_PathRoute x).map (fz o (n + 1)) = e_PathRoute x := by rfl
theorem e_PathRoute_reach (x : PathRoute) (o : Nat → Ob) (n : Nat) : (e_PathRoute x).flatMap (reach o (n + 1)) = [] := by
 simp only [e_PathRoute, e_A6vu, List.cons_append, List.nil_append, List.append_nil, List.flatMap_cons, List.flatMap_nil, reach_v]
theorem e_PathRoute_clean (x : PathRoute) : ∀ c ∈ (e_PathRoute x), Clean c := by
 simp only [e_PathRoute, e_A6vu, List.cons_append, List.nil_append]
 repeat' (first | exact Clean.v _ | assumption | exact List.forall_mem_nil _ | refine List.forall_mem_cons.2 ⟨?_, ?_⟩)
theorem e_PathRoute_tm {st : AS} {F : List Nat} {σ : List (Option Nat)} (x : PathRoute) : TmL st F σ (e_PathRoute x) (e_PathRoute x) := by
 simp only [e_PathRoute, e_A6vu, List.cons_append, List.nil_append]
 repeat' (first | exact TmL.nil | (refine TmL.cons (Tm.v _) ?_) | (refine TmL.cons (by assumption) ?_))
theorem f_PathRoute (x : PathRoute) (o : Nat → Ob) (n : Nat) : (e_PathRoute x).map (fz o (n + 1)) = e_PathRoute x := by simp only [e_PathRoute_fz]
theorem q_PathRoute (x : PathRoute) (o : Nat → Ob) (n : Nat) : (e_PathRoute x).flatMap (reach o (n + 1)) = [] := by simp only [e_PathRoute_reach, List.append_nil]
theorem e_PathRoute_kinds (x : PathRoute) : kindsOk [some .u8, some .u8, some .u8, some .u8, some .u8, some .u8, some .i64, none, some .u8, some .u8, some .u8, some .u8, some .u8, some .u8, some .i64, some .i64, some .i64] (e_PathRoute x) = true := by rfl
theorem e_PathRoute_eq (x y : PathRoute) : eqCells (e_PathRoute x) (e_PathRoute y) = decide (x = y) := by
 rw [Bool.eq_iff_iff]
 simp only [e_PathRoute, e_A6vu, List.cons_append, List.nil_append, List.append_nil, eqCells, eqv, Bool.and_eq_true, beq_iff_eq, decide_eq_true_eq, and_true]
 constructor
 ·
  intro h
  obtain ⟨⟨v1, v2, v3, v4, v5, v6⟩, v7, v8, ⟨v9, v10, v11, v12, v13, v14⟩, v15, v16, v17⟩ := x
  obtain ⟨⟨v18', v19', v20', v21', v22', v23'⟩, v24', v25', ⟨v26', v27', v28', v29', v30', v31'⟩, v32', v33', v34'⟩ := y
  simp_all
 ·
  rintro rfl
  simp
attribute [go_sem] e_PathRoute_len e_PathRoute_sub e_PathRoute_take e_PathRoute_all e_PathRoute_g_Seq e_PathRoute_s_Seq e_PathRoute_g_Valid e_PathRoute_g_Hops e_PathRoute_g_Cost e_PathRoute_g_Until e_PathRoute_d_Dest e_PathRoute_p_Dest e_PathRoute_d_Next e_PathRoute_fz e_PathRoute_reach e_PathRoute_kinds e_PathRoute_eq f_PathRoute q_PathRoute

def S_PathRoute (l : List PathRoute) : AV := .imm (List.flatMap e_PathRoute l) l.length
theorem S_PathRoute_eq (l : List PathRoute) : S_PathRoute l = .imm (List.flatMap e_PathRoute l) l.length := rfl
theorem l_PathRoute (x : PathRoute) : (e_PathRoute x).length = 17 := by rfl
theorem S_PathRoute_clean (l : List PathRoute) : Clean (S_PathRoute l) := Clean.imm (rows_clean e_PathRoute_clean l)
theorem c_PathRoute (l : List PathRoute) : ∀ c ∈ l.flatMap e_PathRoute, Clean c := rows_clean e_PathRoute_clean l
theorem r_PathRoute_len (l : List PathRoute) : (l.flatMap e_PathRoute).length = l.length * 17 := flat_len l_PathRoute l
theorem r_PathRoute_get (l : List PathRoute) (i o : Nat) (ho : o < 17) : (l.flatMap e_PathRoute)[i * 17 + o]? = l[i]?.bind fun a => (e_PathRoute a)[o]? := rows_get l_PathRoute l i o ho
theorem r_PathRoute_get0 (l : List PathRoute) (i : Nat) : (l.flatMap e_PathRoute)[i * 17]? = l[i]?.bind fun a => (e_PathRoute a)[0]? := rows_get l_PathRoute l i 0 (by decide)
theorem r_PathRoute_sub (l : List PathRoute) (i o n : Nat) (ho : o + n ≤ 17) (hn : 0 < n) : sub? (l.flatMap e_PathRoute) (i * 17 + o) n = l[i]?.bind fun a => sub? (e_PathRoute a) o n := rows_sub l_PathRoute l i o n ho hn
theorem r_PathRoute_sub0 (l : List PathRoute) (i n : Nat) (ho : n ≤ 17) (hn : 0 < n) : sub? (l.flatMap e_PathRoute) (i * 17) n = l[i]?.bind fun a => sub? (e_PathRoute a) 0 n := rows_sub l_PathRoute l i 0 n (by omega) hn
theorem r_PathRoute_getL (l : List PathRoute) (o : Nat) : (l.flatMap e_PathRoute)[o]? = l[o / 17]?.bind fun a => (e_PathRoute a)[o % 17]? := rows_getL l_PathRoute (by decide) l o
theorem r_PathRoute_subL (l : List PathRoute) (o n : Nat) (ho : o % 17 + n ≤ 17) (hn : 0 < n) : sub? (l.flatMap e_PathRoute) o n = l[o / 17]?.bind fun a => sub? (e_PathRoute a) (o % 17) n := rows_subL l_PathRoute l o n ho hn
theorem r_PathRoute_subw (l : List PathRoute) : sub? (l.flatMap e_PathRoute) 0 (l.length * 17) = some (l.flatMap e_PathRoute) := rows_subw l_PathRoute l
theorem r_PathRoute_take (l : List PathRoute) (n : Nat) : (l.flatMap e_PathRoute).take (n * 17) = (l.take n).flatMap e_PathRoute := rows_take l_PathRoute l n
theorem r_PathRoute_drop (l : List PathRoute) (n : Nat) : (l.flatMap e_PathRoute).drop (n * 17) = (l.drop n).flatMap e_PathRoute := rows_drop l_PathRoute l n
theorem r_PathRoute_fz (l : List PathRoute) (o : Nat → Ob) (n : Nat) : (l.flatMap e_PathRoute).map (fz o (n + 1)) = (l.flatMap e_PathRoute) := rows_fz (fun a => f_PathRoute a o n) l
theorem r_PathRoute_rch (l : List PathRoute) (o : Nat → Ob) (n : Nat) : (l.flatMap e_PathRoute).flatMap (reach o (n + 1)) = [] := rows_reach (fun a => q_PathRoute a o n) l
theorem r_PathRoute_s_Dest_a0 (l : List PathRoute) (i : Nat) (v : Int) : (l.flatMap e_PathRoute).set (i * 17) (vu v) = (l.modify i (fun y => { y with Dest.a0 := v })).flatMap e_PathRoute := rows_set l_PathRoute l i 0 _ (fun y => { y with Dest.a0 := v }) (by decide) (fun _ => by rfl)
theorem r_PathRoute_s_Dest_a1 (l : List PathRoute) (i : Nat) (v : Int) : (l.flatMap e_PathRoute).set (i * 17 + 1) (vu v) = (l.modify i (fun y => { y with Dest.a1 := v })).flatMap e_PathRoute := rows_set l_PathRoute l i 1 _ (fun y => { y with Dest.a1 := v }) (by decide) (fun _ => by rfl)
theorem r_PathRoute_s_Dest_a2 (l : List PathRoute) (i : Nat) (v : Int) : (l.flatMap e_PathRoute).set (i * 17 + 2) (vu v) = (l.modify i (fun y => { y with Dest.a2 := v })).flatMap e_PathRoute := rows_set l_PathRoute l i 2 _ (fun y => { y with Dest.a2 := v }) (by decide) (fun _ => by rfl)
theorem r_PathRoute_s_Dest_a3 (l : List PathRoute) (i : Nat) (v : Int) : (l.flatMap e_PathRoute).set (i * 17 + 3) (vu v) = (l.modify i (fun y => { y with Dest.a3 := v })).flatMap e_PathRoute := rows_set l_PathRoute l i 3 _ (fun y => { y with Dest.a3 := v }) (by decide) (fun _ => by rfl)
theorem r_PathRoute_s_Dest_a4 (l : List PathRoute) (i : Nat) (v : Int) : (l.flatMap e_PathRoute).set (i * 17 + 4) (vu v) = (l.modify i (fun y => { y with Dest.a4 := v })).flatMap e_PathRoute := rows_set l_PathRoute l i 4 _ (fun y => { y with Dest.a4 := v }) (by decide) (fun _ => by rfl)
theorem r_PathRoute_s_Dest_a5 (l : List PathRoute) (i : Nat) (v : Int) : (l.flatMap e_PathRoute).set (i * 17 + 5) (vu v) = (l.modify i (fun y => { y with Dest.a5 := v })).flatMap e_PathRoute := rows_set l_PathRoute l i 5 _ (fun y => { y with Dest.a5 := v }) (by decide) (fun _ => by rfl)
theorem r_PathRoute_s_Seq (l : List PathRoute) (i : Nat) (v : Int) : (l.flatMap e_PathRoute).set (i * 17 + 6) (vi v) = (l.modify i (fun y => { y with Seq := v })).flatMap e_PathRoute := rows_set l_PathRoute l i 6 _ (fun y => { y with Seq := v }) (by decide) (fun _ => by rfl)
theorem r_PathRoute_s_Valid (l : List PathRoute) (i : Nat) (v : Bool) : (l.flatMap e_PathRoute).set (i * 17 + 7) (vb v) = (l.modify i (fun y => { y with Valid := v })).flatMap e_PathRoute := rows_set l_PathRoute l i 7 _ (fun y => { y with Valid := v }) (by decide) (fun _ => by rfl)
theorem r_PathRoute_s_Next_a0 (l : List PathRoute) (i : Nat) (v : Int) : (l.flatMap e_PathRoute).set (i * 17 + 8) (vu v) = (l.modify i (fun y => { y with Next.a0 := v })).flatMap e_PathRoute := rows_set l_PathRoute l i 8 _ (fun y => { y with Next.a0 := v }) (by decide) (fun _ => by rfl)
theorem r_PathRoute_s_Next_a1 (l : List PathRoute) (i : Nat) (v : Int) : (l.flatMap e_PathRoute).set (i * 17 + 9) (vu v) = (l.modify i (fun y => { y with Next.a1 := v })).flatMap e_PathRoute := rows_set l_PathRoute l i 9 _ (fun y => { y with Next.a1 := v }) (by decide) (fun _ => by rfl)
theorem r_PathRoute_s_Next_a2 (l : List PathRoute) (i : Nat) (v : Int) : (l.flatMap e_PathRoute).set (i * 17 + 10) (vu v) = (l.modify i (fun y => { y with Next.a2 := v })).flatMap e_PathRoute := rows_set l_PathRoute l i 10 _ (fun y => { y with Next.a2 := v }) (by decide) (fun _ => by rfl)
theorem r_PathRoute_s_Next_a3 (l : List PathRoute) (i : Nat) (v : Int) : (l.flatMap e_PathRoute).set (i * 17 + 11) (vu v) = (l.modify i (fun y => { y with Next.a3 := v })).flatMap e_PathRoute := rows_set l_PathRoute l i 11 _ (fun y => { y with Next.a3 := v }) (by decide) (fun _ => by rfl)
theorem r_PathRoute_s_Next_a4 (l : List PathRoute) (i : Nat) (v : Int) : (l.flatMap e_PathRoute).set (i * 17 + 12) (vu v) = (l.modify i (fun y => { y with Next.a4 := v })).flatMap e_PathRoute := rows_set l_PathRoute l i 12 _ (fun y => { y with Next.a4 := v }) (by decide) (fun _ => by rfl)
theorem r_PathRoute_s_Next_a5 (l : List PathRoute) (i : Nat) (v : Int) : (l.flatMap e_PathRoute).set (i * 17 + 13) (vu v) = (l.modify i (fun y => { y with Next.a5 := v })).flatMap e_PathRoute := rows_set l_PathRoute l i 13 _ (fun y => { y with Next.a5 := v }) (by decide) (fun _ => by rfl)
theorem r_PathRoute_s_Hops (l : List PathRoute) (i : Nat) (v : Int) : (l.flatMap e_PathRoute).set (i * 17 + 14) (vi v) = (l.modify i (fun y => { y with Hops := v })).flatMap e_PathRoute := rows_set l_PathRoute l i 14 _ (fun y => { y with Hops := v }) (by decide) (fun _ => by rfl)
theorem r_PathRoute_s_Cost (l : List PathRoute) (i : Nat) (v : Int) : (l.flatMap e_PathRoute).set (i * 17 + 15) (vi v) = (l.modify i (fun y => { y with Cost := v })).flatMap e_PathRoute := rows_set l_PathRoute l i 15 _ (fun y => { y with Cost := v }) (by decide) (fun _ => by rfl)
theorem r_PathRoute_s_Until (l : List PathRoute) (i : Nat) (v : Int) : (l.flatMap e_PathRoute).set (i * 17 + 16) (vi v) = (l.modify i (fun y => { y with Until := v })).flatMap e_PathRoute := rows_set l_PathRoute l i 16 _ (fun y => { y with Until := v }) (by decide) (fun _ => by rfl)
theorem r_PathRoute_put (l : List PathRoute) (i : Nat) (x : PathRoute) : putAt (l.flatMap e_PathRoute) (i * 17) (e_PathRoute x) = (l.set i x).flatMap e_PathRoute := rows_put l_PathRoute (by decide) l i x
theorem r_PathRoute_app (l : List PathRoute) (x : PathRoute) : (l.flatMap e_PathRoute) ++ e_PathRoute x = (l ++ [x]).flatMap e_PathRoute := by simp
theorem r_PathRoute_cat (l : List PathRoute) (m : List PathRoute) : (l.flatMap e_PathRoute) ++ m.flatMap e_PathRoute = (l ++ m).flatMap e_PathRoute := List.flatMap_append.symm
theorem f_S_PathRoute (l : List PathRoute) (o : Nat → Ob) (n : Nat) : fz o (n + 2) (S_PathRoute l) = S_PathRoute l := by simp only [S_PathRoute_eq, fz, r_PathRoute_fz]
theorem q_S_PathRoute (l : List PathRoute) (o : Nat → Ob) (n : Nat) : reach o (n + 2) (S_PathRoute l) = [] := by simp only [S_PathRoute_eq, reach, r_PathRoute_rch]
attribute [go_sem] S_PathRoute_eq l_PathRoute r_PathRoute_len r_PathRoute_get r_PathRoute_get0 r_PathRoute_sub r_PathRoute_sub0 r_PathRoute_subw r_PathRoute_take r_PathRoute_drop r_PathRoute_fz r_PathRoute_rch r_PathRoute_s_Dest_a0 r_PathRoute_s_Dest_a1 r_PathRoute_s_Dest_a2 r_PathRoute_s_Dest_a3 r_PathRoute_s_Dest_a4 r_PathRoute_s_Dest_a5 r_PathRoute_s_Seq r_PathRoute_s_Valid r_PathRoute_s_Next_a0 r_PathRoute_s_Next_a1 r_PathRoute_s_Next_a2 r_PathRoute_s_Next_a3 r_PathRoute_s_Next_a4 r_PathRoute_s_Next_a5 r_PathRoute_s_Hops r_PathRoute_s_Cost r_PathRoute_s_Until r_PathRoute_put r_PathRoute_app r_PathRoute_cat f_S_PathRoute q_S_PathRoute

structure PathWanted where
 Dest : A6vu
 Tries : Int
 Due : Int
 deriving DecidableEq

def PathWanted.z : PathWanted := ⟨A6vu.z, 0, 0⟩

def e_PathWanted (x : PathWanted) : List AV := (e_A6vu x.Dest) ++ [vi x.Tries, vi x.Due]

theorem e_PathWanted_len (x : PathWanted) : (e_PathWanted x).length = 8 := by rfl
theorem e_PathWanted_sub (x : PathWanted) : sub? (e_PathWanted x) 0 8 = some (e_PathWanted x) := by rfl
theorem e_PathWanted_take (x : PathWanted) : (e_PathWanted x).take 8 = (e_PathWanted x) := by rfl
theorem e_PathWanted_all (x : PathWanted) (y : PathWanted) : putAt (e_PathWanted x) 0 (e_PathWanted y) = e_PathWanted y := by rfl
theorem e_PathWanted_g_Tries (x : PathWanted) : (e_PathWanted x)[6]? = some (vi x.Tries) := by rfl
theorem e_PathWanted_s_Tries (x : PathWanted) (v : Int) : (e_PathWanted x).set 6 (vi v) = e_PathWanted { x with Tries := v } := by rfl
theorem e_PathWanted_g_Due (x : PathWanted) : (e_PathWanted x)[7]? = some (vi x.Due) := by rfl
theorem e_PathWanted_s_Due (x : PathWanted) (v : Int) : (e_PathWanted x).set 7 (vi v) = e_PathWanted { x with Due := v } := by rfl
theorem e_PathWanted_d_Dest (x : PathWanted) : sub? (e_PathWanted x) 0 6 = some (e_A6vu x.Dest) := by rfl
theorem e_PathWanted_p_Dest (x : PathWanted) (v : A6vu) : putAt (e_PathWanted x) 0 (e_A6vu v) = e_PathWanted { x with Dest := v } := by rfl
theorem e_PathWanted_fz (x : PathWanted) (o : Nat → Ob) (n : Nat) : (e_PathWanted x).map (fz o (n + 1)) = e_PathWanted x := by rfl
theorem e_PathWanted_reach (x : PathWanted) (o : Nat → Ob) (n : Nat) : (e_PathWanted x).flatMap (reach o (n + 1)) = [] := by
 simp only [e_PathWanted, e_A6vu, List.cons_append, List.nil_append, List.append_nil, List.flatMap_cons, List.flatMap_nil, reach_v]
theorem e_PathWanted_clean (x : PathWanted) : ∀ c ∈ (e_PathWanted x), Clean c := by
 simp only [e_PathWanted, e_A6vu, List.cons_append, List.nil_append]
 repeat' (first | exact Clean.v _ | assumption | exact List.forall_mem_nil _ | refine List.forall_mem_cons.2 ⟨?_, ?_⟩)
theorem e_PathWanted_tm {st : AS} {F : List Nat} {σ : List (Option Nat)} (x : PathWanted) : TmL st F σ (e_PathWanted x) (e_PathWanted x) := by
 simp only [e_PathWanted, e_A6vu, List.cons_append, List.nil_append]
 repeat' (first | exact TmL.nil | (refine TmL.cons (Tm.v _) ?_) | (refine TmL.cons (by assumption) ?_))
theorem f_PathWanted (x : PathWanted) (o : Nat → Ob) (n : Nat) : (e_PathWanted x).map (fz o (n + 1)) = e_PathWanted x := by simp only [e_PathWanted_fz]
theorem q_PathWanted (x : PathWanted) (o : Nat → Ob) (n : Nat) : (e_PathWanted x).flatMap (reach o (n + 1)) = [] := by simp only [e_PathWanted_reach, List.append_nil]
theorem e_PathWanted_kinds (x : PathWanted) : kindsOk [some .u8, some .u8, some .u8, some .u8, some .u8, some .u8, some .i64, some .i64] (e_PathWanted x) = true := by rfl
theorem e_PathWanted_eq (x y : PathWanted) : eqCells (e_PathWanted x) (e_PathWanted y) = decide (x = y) := by
 rw [Bool.eq_iff_iff]
 simp only [e_PathWanted, e_A6vu, List.cons_append, List.nil_append, List.append_nil, eqCells, eqv, Bool.and_eq_true, beq_iff_eq, decide_eq_true_eq, and_true]
 constructor
 ·
  intro h
  obtain ⟨⟨v1, v2, v3, v4, v5, v6⟩, v7, v8⟩ := x
  obtain ⟨⟨v9', v10', v11', v12', v13', v14'⟩, v15', v16'⟩ := y
  simp_all
 ·
  rintro rfl
  simp
attribute [go_sem] e_PathWanted_len e_PathWanted_sub e_PathWanted_take e_PathWanted_all e_PathWanted_g_Tries e_PathWanted_s_Tries e_PathWanted_g_Due e_PathWanted_s_Due e_PathWanted_d_Dest e_PathWanted_p_Dest e_PathWanted_fz e_PathWanted_reach e_PathWanted_kinds e_PathWanted_eq f_PathWanted q_PathWanted

def S_PathWanted (l : List PathWanted) : AV := .imm (List.flatMap e_PathWanted l) l.length
theorem S_PathWanted_eq (l : List PathWanted) : S_PathWanted l = .imm (List.flatMap e_PathWanted l) l.length := rfl
theorem l_PathWanted (x : PathWanted) : (e_PathWanted x).length = 8 := by rfl
theorem S_PathWanted_clean (l : List PathWanted) : Clean (S_PathWanted l) := Clean.imm (rows_clean e_PathWanted_clean l)
theorem c_PathWanted (l : List PathWanted) : ∀ c ∈ l.flatMap e_PathWanted, Clean c := rows_clean e_PathWanted_clean l
theorem r_PathWanted_len (l : List PathWanted) : (l.flatMap e_PathWanted).length = l.length * 8 := flat_len l_PathWanted l
theorem r_PathWanted_get (l : List PathWanted) (i o : Nat) (ho : o < 8) : (l.flatMap e_PathWanted)[i * 8 + o]? = l[i]?.bind fun a => (e_PathWanted a)[o]? := rows_get l_PathWanted l i o ho
theorem r_PathWanted_get0 (l : List PathWanted) (i : Nat) : (l.flatMap e_PathWanted)[i * 8]? = l[i]?.bind fun a => (e_PathWanted a)[0]? := rows_get l_PathWanted l i 0 (by decide)
theorem r_PathWanted_sub (l : List PathWanted) (i o n : Nat) (ho : o + n ≤ 8) (hn : 0 < n) : sub? (l.flatMap e_PathWanted) (i * 8 + o) n = l[i]?.bind fun a => sub? (e_PathWanted a) o n := rows_sub l_PathWanted l i o n ho hn
theorem r_PathWanted_sub0 (l : List PathWanted) (i n : Nat) (ho : n ≤ 8) (hn : 0 < n) : sub? (l.flatMap e_PathWanted) (i * 8) n = l[i]?.bind fun a => sub? (e_PathWanted a) 0 n := rows_sub l_PathWanted l i 0 n (by omega) hn
theorem r_PathWanted_getL (l : List PathWanted) (o : Nat) : (l.flatMap e_PathWanted)[o]? = l[o / 8]?.bind fun a => (e_PathWanted a)[o % 8]? := rows_getL l_PathWanted (by decide) l o
theorem r_PathWanted_subL (l : List PathWanted) (o n : Nat) (ho : o % 8 + n ≤ 8) (hn : 0 < n) : sub? (l.flatMap e_PathWanted) o n = l[o / 8]?.bind fun a => sub? (e_PathWanted a) (o % 8) n := rows_subL l_PathWanted l o n ho hn
theorem r_PathWanted_subw (l : List PathWanted) : sub? (l.flatMap e_PathWanted) 0 (l.length * 8) = some (l.flatMap e_PathWanted) := rows_subw l_PathWanted l
theorem r_PathWanted_take (l : List PathWanted) (n : Nat) : (l.flatMap e_PathWanted).take (n * 8) = (l.take n).flatMap e_PathWanted := rows_take l_PathWanted l n
theorem r_PathWanted_drop (l : List PathWanted) (n : Nat) : (l.flatMap e_PathWanted).drop (n * 8) = (l.drop n).flatMap e_PathWanted := rows_drop l_PathWanted l n
theorem r_PathWanted_fz (l : List PathWanted) (o : Nat → Ob) (n : Nat) : (l.flatMap e_PathWanted).map (fz o (n + 1)) = (l.flatMap e_PathWanted) := rows_fz (fun a => f_PathWanted a o n) l
theorem r_PathWanted_rch (l : List PathWanted) (o : Nat → Ob) (n : Nat) : (l.flatMap e_PathWanted).flatMap (reach o (n + 1)) = [] := rows_reach (fun a => q_PathWanted a o n) l
theorem r_PathWanted_s_Dest_a0 (l : List PathWanted) (i : Nat) (v : Int) : (l.flatMap e_PathWanted).set (i * 8) (vu v) = (l.modify i (fun y => { y with Dest.a0 := v })).flatMap e_PathWanted := rows_set l_PathWanted l i 0 _ (fun y => { y with Dest.a0 := v }) (by decide) (fun _ => by rfl)
theorem r_PathWanted_s_Dest_a1 (l : List PathWanted) (i : Nat) (v : Int) : (l.flatMap e_PathWanted).set (i * 8 + 1) (vu v) = (l.modify i (fun y => { y with Dest.a1 := v })).flatMap e_PathWanted := rows_set l_PathWanted l i 1 _ (fun y => { y with Dest.a1 := v }) (by decide) (fun _ => by rfl)
theorem r_PathWanted_s_Dest_a2 (l : List PathWanted) (i : Nat) (v : Int) : (l.flatMap e_PathWanted).set (i * 8 + 2) (vu v) = (l.modify i (fun y => { y with Dest.a2 := v })).flatMap e_PathWanted := rows_set l_PathWanted l i 2 _ (fun y => { y with Dest.a2 := v }) (by decide) (fun _ => by rfl)
theorem r_PathWanted_s_Dest_a3 (l : List PathWanted) (i : Nat) (v : Int) : (l.flatMap e_PathWanted).set (i * 8 + 3) (vu v) = (l.modify i (fun y => { y with Dest.a3 := v })).flatMap e_PathWanted := rows_set l_PathWanted l i 3 _ (fun y => { y with Dest.a3 := v }) (by decide) (fun _ => by rfl)
theorem r_PathWanted_s_Dest_a4 (l : List PathWanted) (i : Nat) (v : Int) : (l.flatMap e_PathWanted).set (i * 8 + 4) (vu v) = (l.modify i (fun y => { y with Dest.a4 := v })).flatMap e_PathWanted := rows_set l_PathWanted l i 4 _ (fun y => { y with Dest.a4 := v }) (by decide) (fun _ => by rfl)
theorem r_PathWanted_s_Dest_a5 (l : List PathWanted) (i : Nat) (v : Int) : (l.flatMap e_PathWanted).set (i * 8 + 5) (vu v) = (l.modify i (fun y => { y with Dest.a5 := v })).flatMap e_PathWanted := rows_set l_PathWanted l i 5 _ (fun y => { y with Dest.a5 := v }) (by decide) (fun _ => by rfl)
theorem r_PathWanted_s_Tries (l : List PathWanted) (i : Nat) (v : Int) : (l.flatMap e_PathWanted).set (i * 8 + 6) (vi v) = (l.modify i (fun y => { y with Tries := v })).flatMap e_PathWanted := rows_set l_PathWanted l i 6 _ (fun y => { y with Tries := v }) (by decide) (fun _ => by rfl)
theorem r_PathWanted_s_Due (l : List PathWanted) (i : Nat) (v : Int) : (l.flatMap e_PathWanted).set (i * 8 + 7) (vi v) = (l.modify i (fun y => { y with Due := v })).flatMap e_PathWanted := rows_set l_PathWanted l i 7 _ (fun y => { y with Due := v }) (by decide) (fun _ => by rfl)
theorem r_PathWanted_put (l : List PathWanted) (i : Nat) (x : PathWanted) : putAt (l.flatMap e_PathWanted) (i * 8) (e_PathWanted x) = (l.set i x).flatMap e_PathWanted := rows_put l_PathWanted (by decide) l i x
theorem r_PathWanted_app (l : List PathWanted) (x : PathWanted) : (l.flatMap e_PathWanted) ++ e_PathWanted x = (l ++ [x]).flatMap e_PathWanted := by simp
theorem r_PathWanted_cat (l : List PathWanted) (m : List PathWanted) : (l.flatMap e_PathWanted) ++ m.flatMap e_PathWanted = (l ++ m).flatMap e_PathWanted := List.flatMap_append.symm
theorem f_S_PathWanted (l : List PathWanted) (o : Nat → Ob) (n : Nat) : fz o (n + 2) (S_PathWanted l) = S_PathWanted l := by simp only [S_PathWanted_eq, fz, r_PathWanted_fz]
theorem q_S_PathWanted (l : List PathWanted) (o : Nat → Ob) (n : Nat) : reach o (n + 2) (S_PathWanted l) = [] := by simp only [S_PathWanted_eq, reach, r_PathWanted_rch]
attribute [go_sem] S_PathWanted_eq l_PathWanted r_PathWanted_len r_PathWanted_get r_PathWanted_get0 r_PathWanted_sub r_PathWanted_sub0 r_PathWanted_subw r_PathWanted_take r_PathWanted_drop r_PathWanted_fz r_PathWanted_rch r_PathWanted_s_Dest_a0 r_PathWanted_s_Dest_a1 r_PathWanted_s_Dest_a2 r_PathWanted_s_Dest_a3 r_PathWanted_s_Dest_a4 r_PathWanted_s_Dest_a5 r_PathWanted_s_Tries r_PathWanted_s_Due r_PathWanted_put r_PathWanted_app r_PathWanted_cat f_S_PathWanted q_S_PathWanted

structure Paths where
 Own : A6vu
 Seq : Int
 Routes : (List PathRoute)
 Wanted : (List PathWanted)
 deriving DecidableEq

def Paths.z : Paths := ⟨A6vu.z, 0, [], []⟩

def e_Paths (x : Paths) (s0 : AV) (s1 : AV) : List AV := (e_A6vu x.Own) ++ [vi x.Seq, s0, s1]

theorem e_Paths_len (x : Paths) (s0 : AV) (s1 : AV) : (e_Paths x s0 s1).length = 9 := by rfl
theorem e_Paths_sub (x : Paths) (s0 : AV) (s1 : AV) : sub? (e_Paths x s0 s1) 0 9 = some (e_Paths x s0 s1) := by rfl
theorem e_Paths_take (x : Paths) (s0 : AV) (s1 : AV) : (e_Paths x s0 s1).take 9 = (e_Paths x s0 s1) := by rfl
theorem e_Paths_all (x : Paths) (s0 : AV) (s1 : AV) (y : Paths) (s02 : AV) (s12 : AV) : putAt (e_Paths x s0 s1) 0 (e_Paths y s02 s12) = e_Paths y s02 s12 := by rfl
theorem e_Paths_g_Seq (x : Paths) (s0 : AV) (s1 : AV) : (e_Paths x s0 s1)[6]? = some (vi x.Seq) := by rfl
theorem e_Paths_s_Seq (x : Paths) (s0 : AV) (s1 : AV) (v : Int) : (e_Paths x s0 s1).set 6 (vi v) = e_Paths { x with Seq := v } s0 s1 := by rfl
theorem e_Paths_g_Routes (x : Paths) (s0 : AV) (s1 : AV) : (e_Paths x s0 s1)[7]? = some s0 := by rfl
theorem e_Paths_s_Routes (x : Paths) (s0 : AV) (s1 : AV) (v : AV) : (e_Paths x s0 s1).set 7 v = e_Paths x v s1 := by rfl
theorem e_Paths_g_Wanted (x : Paths) (s0 : AV) (s1 : AV) : (e_Paths x s0 s1)[8]? = some s1 := by rfl
theorem e_Paths_s_Wanted (x : Paths) (s0 : AV) (s1 : AV) (v : AV) : (e_Paths x s0 s1).set 8 v = e_Paths x s0 v := by rfl
theorem e_Paths_d_Own (x : Paths) (s0 : AV) (s1 : AV) : sub? (e_Paths x s0 s1) 0 6 = some (e_A6vu x.Own) := by rfl
theorem e_Paths_fz (x : Paths) (s0 : AV) (s1 : AV) (o : Nat → Ob) (n : Nat) : (e_Paths x s0 s1).map (fz o (n + 1)) = e_Paths x (fz o (n + 1) s0) (fz o (n + 1) s1) := by rfl
theorem e_Paths_reach (x : Paths) (s0 : AV) (s1 : AV) (o : Nat → Ob) (n : Nat) : (e_Paths x s0 s1).flatMap (reach o (n + 1)) = reach o (n + 1) s0 ++ reach o (n + 1) s1 := by
 simp only [e_Paths, e_A6vu, List.cons_append, List.nil_append, List.append_nil, List.flatMap_cons, List.flatMap_nil, reach_v]
theorem e_Paths_clean (x : Paths) (s0 : AV) (s1 : AV) (h_s0 : Clean s0) (h_s1 : Clean s1) : ∀ c ∈ (e_Paths x s0 s1), Clean c := by
 simp only [e_Paths, e_A6vu, List.cons_append, List.nil_append]
 repeat' (first | exact Clean.v _ | assumption | exact List.forall_mem_nil _ | refine List.forall_mem_cons.2 ⟨?_, ?_⟩)
theorem e_Paths_tm {st : AS} {F : List Nat} {σ : List (Option Nat)} (x : Paths) (s0 : AV) (s1 : AV) (s02 : AV) (s12 : AV) (h_s0 : Tm st F σ s0 s02) (h_s1 : Tm st F σ s1 s12) : TmL st F σ (e_Paths x s0 s1) (e_Paths x s02 s12) := by
 simp only [e_Paths, e_A6vu, List.cons_append, List.nil_append]
 repeat' (first | exact TmL.nil | (refine TmL.cons (Tm.v _) ?_) | (refine TmL.cons (by assumption) ?_))
theorem e_Paths_tmx {st : AS} {F : List Nat} {σ : List (Option Nat)} {x y : Paths} {s0 s1 s02 s12 : AV} (hxy : e_Paths y s02 s12 = e_Paths x s02 s12) (h_s0 : Tm st F σ s0 s02) (h_s1 : Tm st F σ s1 s12) : TmL st F σ (e_Paths x s0 s1) (e_Paths y s02 s12) := by
 rw [hxy]; exact e_Paths_tm x s0 s1 s02 s12 h_s0 h_s1
theorem e_Paths_ren (x : Paths) {s0 s1 : (Nat → Nat) → AV} (h_s0 : RenM s0) (h_s1 : RenM s1) : RenML fun q => e_Paths x (s0 q) (s1 q) := by
 simp only [e_Paths, e_A6vu, List.cons_append, List.nil_append]
 repeat' (first | exact RenML.nil | (refine RenML.cons (RenM.const (Clean.v _)) ?_) | (refine RenML.cons (by assumption) ?_))
theorem e_Paths_frl {q nx off : Nat} (x : Paths) {s0 s1 : AV} {s02 s12 : AV} (h_s0 : Fr q nx off s0 s02) (h_s1 : Fr q nx off s1 s12) : FrL q nx off (e_Paths x s0 s1) (e_Paths x s02 s12) := by
 simp only [e_Paths, e_A6vu, List.cons_append, List.nil_append]
 repeat' (first | exact FrL.nil | (refine FrL.cons _ _ _ _ (by assumption) ?_) | (refine FrL.cons _ _ _ _ (Fr.same _) ?_))
def E_Paths (x : Paths) : List AV := e_Paths x (S_PathRoute x.Routes) (S_PathWanted x.Wanted)
theorem E_Paths_eq (x : Paths) : E_Paths x = e_Paths x (S_PathRoute x.Routes) (S_PathWanted x.Wanted) := rfl
theorem E_Paths_clean (x : Paths) : ∀ c ∈ E_Paths x, Clean c := e_Paths_clean x _ _ (S_PathRoute_clean _) (S_PathWanted_clean _)
theorem f_Paths (x : Paths) (o : Nat → Ob) (n : Nat) : (E_Paths x).map (fz o (n + 2)) = E_Paths x := by simp only [E_Paths_eq, e_Paths_fz, f_S_PathRoute, f_S_PathWanted]
theorem q_Paths (x : Paths) (o : Nat → Ob) (n : Nat) : (E_Paths x).flatMap (reach o (n + 2)) = [] := by simp only [E_Paths_eq, e_Paths_reach, q_S_PathRoute, q_S_PathWanted, List.append_nil]
attribute [go_sem] e_Paths_len e_Paths_sub e_Paths_take e_Paths_all e_Paths_g_Seq e_Paths_s_Seq e_Paths_g_Routes e_Paths_s_Routes e_Paths_g_Wanted e_Paths_s_Wanted e_Paths_d_Own e_Paths_fz e_Paths_reach E_Paths_eq f_Paths q_Paths

structure Sent where
 To : A6vu
 Data : (List Int)
 deriving DecidableEq

def Sent.z : Sent := ⟨A6vu.z, []⟩

def e_Sent (x : Sent) (s0 : AV) : List AV := (e_A6vu x.To) ++ [s0]

theorem e_Sent_len (x : Sent) (s0 : AV) : (e_Sent x s0).length = 7 := by rfl
theorem e_Sent_sub (x : Sent) (s0 : AV) : sub? (e_Sent x s0) 0 7 = some (e_Sent x s0) := by rfl
theorem e_Sent_take (x : Sent) (s0 : AV) : (e_Sent x s0).take 7 = (e_Sent x s0) := by rfl
theorem e_Sent_all (x : Sent) (s0 : AV) (y : Sent) (s02 : AV) : putAt (e_Sent x s0) 0 (e_Sent y s02) = e_Sent y s02 := by rfl
theorem e_Sent_g_Data (x : Sent) (s0 : AV) : (e_Sent x s0)[6]? = some s0 := by rfl
theorem e_Sent_s_Data (x : Sent) (s0 : AV) (v : AV) : (e_Sent x s0).set 6 v = e_Sent x v := by rfl
theorem e_Sent_d_To (x : Sent) (s0 : AV) : sub? (e_Sent x s0) 0 6 = some (e_A6vu x.To) := by rfl
theorem e_Sent_p_To (x : Sent) (s0 : AV) (v : A6vu) : putAt (e_Sent x s0) 0 (e_A6vu v) = e_Sent { x with To := v } s0 := by rfl
theorem e_Sent_fz (x : Sent) (s0 : AV) (o : Nat → Ob) (n : Nat) : (e_Sent x s0).map (fz o (n + 1)) = e_Sent x (fz o (n + 1) s0) := by rfl
theorem e_Sent_reach (x : Sent) (s0 : AV) (o : Nat → Ob) (n : Nat) : (e_Sent x s0).flatMap (reach o (n + 1)) = reach o (n + 1) s0 := by
 simp only [e_Sent, e_A6vu, List.cons_append, List.nil_append, List.append_nil, List.flatMap_cons, List.flatMap_nil, reach_v]
theorem e_Sent_clean (x : Sent) (s0 : AV) (h_s0 : Clean s0) : ∀ c ∈ (e_Sent x s0), Clean c := by
 simp only [e_Sent, e_A6vu, List.cons_append, List.nil_append]
 repeat' (first | exact Clean.v _ | assumption | exact List.forall_mem_nil _ | refine List.forall_mem_cons.2 ⟨?_, ?_⟩)
theorem e_Sent_tm {st : AS} {F : List Nat} {σ : List (Option Nat)} (x : Sent) (s0 : AV) (s02 : AV) (h_s0 : Tm st F σ s0 s02) : TmL st F σ (e_Sent x s0) (e_Sent x s02) := by
 simp only [e_Sent, e_A6vu, List.cons_append, List.nil_append]
 repeat' (first | exact TmL.nil | (refine TmL.cons (Tm.v _) ?_) | (refine TmL.cons (by assumption) ?_))
theorem e_Sent_tmx {st : AS} {F : List Nat} {σ : List (Option Nat)} {x y : Sent} {s0 s02 : AV} (hxy : e_Sent y s02 = e_Sent x s02) (h_s0 : Tm st F σ s0 s02) : TmL st F σ (e_Sent x s0) (e_Sent y s02) := by
 rw [hxy]; exact e_Sent_tm x s0 s02 h_s0
theorem e_Sent_ren (x : Sent) {s0 : (Nat → Nat) → AV} (h_s0 : RenM s0) : RenML fun q => e_Sent x (s0 q) := by
 simp only [e_Sent, e_A6vu, List.cons_append, List.nil_append]
 repeat' (first | exact RenML.nil | (refine RenML.cons (RenM.const (Clean.v _)) ?_) | (refine RenML.cons (by assumption) ?_))
theorem e_Sent_frl {q nx off : Nat} (x : Sent) {s0 : AV} {s02 : AV} (h_s0 : Fr q nx off s0 s02) : FrL q nx off (e_Sent x s0) (e_Sent x s02) := by
 simp only [e_Sent, e_A6vu, List.cons_append, List.nil_append]
 repeat' (first | exact FrL.nil | (refine FrL.cons _ _ _ _ (by assumption) ?_) | (refine FrL.cons _ _ _ _ (Fr.same _) ?_))
def E_Sent (x : Sent) : List AV := e_Sent x (S_vu x.Data)
theorem E_Sent_eq (x : Sent) : E_Sent x = e_Sent x (S_vu x.Data) := rfl
theorem E_Sent_clean (x : Sent) : ∀ c ∈ E_Sent x, Clean c := e_Sent_clean x _ (S_vu_clean _)
theorem f_Sent (x : Sent) (o : Nat → Ob) (n : Nat) : (E_Sent x).map (fz o (n + 2)) = E_Sent x := by simp only [E_Sent_eq, e_Sent_fz, f_S_vu]
theorem q_Sent (x : Sent) (o : Nat → Ob) (n : Nat) : (E_Sent x).flatMap (reach o (n + 2)) = [] := by simp only [E_Sent_eq, e_Sent_reach, q_S_vu, List.append_nil]
attribute [go_sem] e_Sent_len e_Sent_sub e_Sent_take e_Sent_all e_Sent_g_Data e_Sent_s_Data e_Sent_d_To e_Sent_p_To e_Sent_fz e_Sent_reach E_Sent_eq f_Sent q_Sent

def S_Sent (l : List Sent) : AV := .imm (List.flatMap E_Sent l) l.length
theorem S_Sent_eq (l : List Sent) : S_Sent l = .imm (List.flatMap E_Sent l) l.length := rfl
theorem l_Sent (x : Sent) : (E_Sent x).length = 7 := by rfl
theorem S_Sent_clean (l : List Sent) : Clean (S_Sent l) := Clean.imm (rows_clean E_Sent_clean l)
theorem c_Sent (l : List Sent) : ∀ c ∈ l.flatMap E_Sent, Clean c := rows_clean E_Sent_clean l
theorem r_Sent_len (l : List Sent) : (l.flatMap E_Sent).length = l.length * 7 := flat_len l_Sent l
theorem r_Sent_get (l : List Sent) (i o : Nat) (ho : o < 7) : (l.flatMap E_Sent)[i * 7 + o]? = l[i]?.bind fun a => (E_Sent a)[o]? := rows_get l_Sent l i o ho
theorem r_Sent_get0 (l : List Sent) (i : Nat) : (l.flatMap E_Sent)[i * 7]? = l[i]?.bind fun a => (E_Sent a)[0]? := rows_get l_Sent l i 0 (by decide)
theorem r_Sent_sub (l : List Sent) (i o n : Nat) (ho : o + n ≤ 7) (hn : 0 < n) : sub? (l.flatMap E_Sent) (i * 7 + o) n = l[i]?.bind fun a => sub? (E_Sent a) o n := rows_sub l_Sent l i o n ho hn
theorem r_Sent_sub0 (l : List Sent) (i n : Nat) (ho : n ≤ 7) (hn : 0 < n) : sub? (l.flatMap E_Sent) (i * 7) n = l[i]?.bind fun a => sub? (E_Sent a) 0 n := rows_sub l_Sent l i 0 n (by omega) hn
theorem r_Sent_getL (l : List Sent) (o : Nat) : (l.flatMap E_Sent)[o]? = l[o / 7]?.bind fun a => (E_Sent a)[o % 7]? := rows_getL l_Sent (by decide) l o
theorem r_Sent_subL (l : List Sent) (o n : Nat) (ho : o % 7 + n ≤ 7) (hn : 0 < n) : sub? (l.flatMap E_Sent) o n = l[o / 7]?.bind fun a => sub? (E_Sent a) (o % 7) n := rows_subL l_Sent l o n ho hn
theorem r_Sent_subw (l : List Sent) : sub? (l.flatMap E_Sent) 0 (l.length * 7) = some (l.flatMap E_Sent) := rows_subw l_Sent l
theorem r_Sent_take (l : List Sent) (n : Nat) : (l.flatMap E_Sent).take (n * 7) = (l.take n).flatMap E_Sent := rows_take l_Sent l n
theorem r_Sent_drop (l : List Sent) (n : Nat) : (l.flatMap E_Sent).drop (n * 7) = (l.drop n).flatMap E_Sent := rows_drop l_Sent l n
theorem r_Sent_fz (l : List Sent) (o : Nat → Ob) (n : Nat) : (l.flatMap E_Sent).map (fz o (n + 2)) = (l.flatMap E_Sent) := rows_fz (fun a => f_Sent a o n) l
theorem r_Sent_rch (l : List Sent) (o : Nat → Ob) (n : Nat) : (l.flatMap E_Sent).flatMap (reach o (n + 2)) = [] := rows_reach (fun a => q_Sent a o n) l
theorem r_Sent_s_To_a0 (l : List Sent) (i : Nat) (v : Int) : (l.flatMap E_Sent).set (i * 7) (vu v) = (l.modify i (fun y => { y with To.a0 := v })).flatMap E_Sent := rows_set l_Sent l i 0 _ (fun y => { y with To.a0 := v }) (by decide) (fun _ => by rfl)
theorem r_Sent_s_To_a1 (l : List Sent) (i : Nat) (v : Int) : (l.flatMap E_Sent).set (i * 7 + 1) (vu v) = (l.modify i (fun y => { y with To.a1 := v })).flatMap E_Sent := rows_set l_Sent l i 1 _ (fun y => { y with To.a1 := v }) (by decide) (fun _ => by rfl)
theorem r_Sent_s_To_a2 (l : List Sent) (i : Nat) (v : Int) : (l.flatMap E_Sent).set (i * 7 + 2) (vu v) = (l.modify i (fun y => { y with To.a2 := v })).flatMap E_Sent := rows_set l_Sent l i 2 _ (fun y => { y with To.a2 := v }) (by decide) (fun _ => by rfl)
theorem r_Sent_s_To_a3 (l : List Sent) (i : Nat) (v : Int) : (l.flatMap E_Sent).set (i * 7 + 3) (vu v) = (l.modify i (fun y => { y with To.a3 := v })).flatMap E_Sent := rows_set l_Sent l i 3 _ (fun y => { y with To.a3 := v }) (by decide) (fun _ => by rfl)
theorem r_Sent_s_To_a4 (l : List Sent) (i : Nat) (v : Int) : (l.flatMap E_Sent).set (i * 7 + 4) (vu v) = (l.modify i (fun y => { y with To.a4 := v })).flatMap E_Sent := rows_set l_Sent l i 4 _ (fun y => { y with To.a4 := v }) (by decide) (fun _ => by rfl)
theorem r_Sent_s_To_a5 (l : List Sent) (i : Nat) (v : Int) : (l.flatMap E_Sent).set (i * 7 + 5) (vu v) = (l.modify i (fun y => { y with To.a5 := v })).flatMap E_Sent := rows_set l_Sent l i 5 _ (fun y => { y with To.a5 := v }) (by decide) (fun _ => by rfl)
theorem r_Sent_put (l : List Sent) (i : Nat) (x : Sent) (b0 : (List Int)) : putAt (l.flatMap E_Sent) (i * 7) (e_Sent x (.imm (List.map vu b0) b0.length)) = (l.set i { x with Data := b0 }).flatMap E_Sent := rows_put l_Sent (by decide) l i { x with Data := b0 }
theorem r_Sent_app (l : List Sent) (x : Sent) (b0 : (List Int)) : (l.flatMap E_Sent) ++ e_Sent x (S_vu b0) = (l ++ [{ x with Data := b0 }]).flatMap E_Sent := by rw [List.flatMap_append]; simp only [List.flatMap_cons, List.flatMap_nil, List.append_nil]; rfl
theorem r_Sent_cat (l : List Sent) (m : List Sent) : (l.flatMap E_Sent) ++ m.flatMap E_Sent = (l ++ m).flatMap E_Sent := List.flatMap_append.symm
theorem f_S_Sent (l : List Sent) (o : Nat → Ob) (n : Nat) : fz o (n + 3) (S_Sent l) = S_Sent l := by simp only [S_Sent_eq, fz, r_Sent_fz]
theorem q_S_Sent (l : List Sent) (o : Nat → Ob) (n : Nat) : reach o (n + 3) (S_Sent l) = [] := by simp only [S_Sent_eq, reach, r_Sent_rch]
attribute [go_sem] S_Sent_eq l_Sent r_Sent_len r_Sent_get r_Sent_get0 r_Sent_sub r_Sent_sub0 r_Sent_subw r_Sent_take r_Sent_drop r_Sent_fz r_Sent_rch r_Sent_s_To_a0 r_Sent_s_To_a1 r_Sent_s_To_a2 r_Sent_s_To_a3 r_Sent_s_To_a4 r_Sent_s_To_a5 r_Sent_put r_Sent_app r_Sent_cat f_S_Sent q_S_Sent

structure Path_node where
 Paths : Paths
 now : Int
 out : (List Sent)
 deriving DecidableEq

def Path_node.z : Path_node := ⟨Paths.z, 0, []⟩

def e_Path_node (x : Path_node) (s0 : AV) (s1 : AV) (s2 : AV) : List AV := (e_Paths x.Paths s0 s1) ++ [vi x.now, s2]

theorem e_Path_node_len (x : Path_node) (s0 : AV) (s1 : AV) (s2 : AV) : (e_Path_node x s0 s1 s2).length = 11 := by rfl
theorem e_Path_node_sub (x : Path_node) (s0 : AV) (s1 : AV) (s2 : AV) : sub? (e_Path_node x s0 s1 s2) 0 11 = some (e_Path_node x s0 s1 s2) := by rfl
theorem e_Path_node_take (x : Path_node) (s0 : AV) (s1 : AV) (s2 : AV) : (e_Path_node x s0 s1 s2).take 11 = (e_Path_node x s0 s1 s2) := by rfl
theorem e_Path_node_all (x : Path_node) (s0 : AV) (s1 : AV) (s2 : AV) (y : Path_node) (s02 : AV) (s12 : AV) (s22 : AV) : putAt (e_Path_node x s0 s1 s2) 0 (e_Path_node y s02 s12 s22) = e_Path_node y s02 s12 s22 := by rfl
theorem e_Path_node_g_Paths_Seq (x : Path_node) (s0 : AV) (s1 : AV) (s2 : AV) : (e_Path_node x s0 s1 s2)[6]? = some (vi x.Paths.Seq) := by rfl
theorem e_Path_node_s_Paths_Seq (x : Path_node) (s0 : AV) (s1 : AV) (s2 : AV) (v : Int) : (e_Path_node x s0 s1 s2).set 6 (vi v) = e_Path_node { x with Paths.Seq := v } s0 s1 s2 := by rfl
theorem e_Path_node_g_Paths_Routes (x : Path_node) (s0 : AV) (s1 : AV) (s2 : AV) : (e_Path_node x s0 s1 s2)[7]? = some s0 := by rfl
theorem e_Path_node_s_Paths_Routes (x : Path_node) (s0 : AV) (s1 : AV) (s2 : AV) (v : AV) : (e_Path_node x s0 s1 s2).set 7 v = e_Path_node x v s1 s2 := by rfl
theorem e_Path_node_g_Paths_Wanted (x : Path_node) (s0 : AV) (s1 : AV) (s2 : AV) : (e_Path_node x s0 s1 s2)[8]? = some s1 := by rfl
theorem e_Path_node_s_Paths_Wanted (x : Path_node) (s0 : AV) (s1 : AV) (s2 : AV) (v : AV) : (e_Path_node x s0 s1 s2).set 8 v = e_Path_node x s0 v s2 := by rfl
theorem e_Path_node_s_now (x : Path_node) (s0 : AV) (s1 : AV) (s2 : AV) (v : Int) : (e_Path_node x s0 s1 s2).set 9 (vi v) = e_Path_node { x with now := v } s0 s1 s2 := by rfl
theorem e_Path_node_g_out (x : Path_node) (s0 : AV) (s1 : AV) (s2 : AV) : (e_Path_node x s0 s1 s2)[10]? = some s2 := by rfl
theorem e_Path_node_s_out (x : Path_node) (s0 : AV) (s1 : AV) (s2 : AV) (v : AV) : (e_Path_node x s0 s1 s2).set 10 v = e_Path_node x s0 s1 v := by rfl
theorem e_Path_node_d_Paths (x : Path_node) (s0 : AV) (s1 : AV) (s2 : AV) : sub? (e_Path_node x s0 s1 s2) 0 9 = some (e_Paths x.Paths s0 s1) := by rfl
theorem e_Path_node_p_Paths (x : Path_node) (s0 : AV) (s1 : AV) (s2 : AV) (v : Paths) (w0 : AV) (w1 : AV) : putAt (e_Path_node x s0 s1 s2) 0 (e_Paths v w0 w1) = e_Path_node { x with Paths := v } w0 w1 s2 := by rfl
theorem e_Path_node_d_Paths_Own (x : Path_node) (s0 : AV) (s1 : AV) (s2 : AV) : sub? (e_Path_node x s0 s1 s2) 0 6 = some (e_A6vu x.Paths.Own) := by rfl
theorem e_Path_node_fz (x : Path_node) (s0 : AV) (s1 : AV) (s2 : AV) (o : Nat → Ob) (n : Nat) : (e_Path_node x s0 s1 s2).map (fz o (n + 1)) = e_Path_node x (fz o (n + 1) s0) (fz o (n + 1) s1) (fz o (n + 1) s2) := by rfl
theorem e_Path_node_reach (x : Path_node) (s0 : AV) (s1 : AV) (s2 : AV) (o : Nat → Ob) (n : Nat) : (e_Path_node x s0 s1 s2).flatMap (reach o (n + 1)) = reach o (n + 1) s0 ++ (reach o (n + 1) s1 ++ reach o (n + 1) s2) := by
 simp only [e_Path_node, e_Paths, e_A6vu, List.cons_append, List.nil_append, List.append_nil, List.flatMap_cons, List.flatMap_nil, reach_v]
theorem e_Path_node_clean (x : Path_node) (s0 : AV) (s1 : AV) (s2 : AV) (h_s0 : Clean s0) (h_s1 : Clean s1) (h_s2 : Clean s2) : ∀ c ∈ (e_Path_node x s0 s1 s2), Clean c := by
 simp only [e_Path_node, e_Paths, e_A6vu, List.cons_append, List.nil_append]
 repeat' (first | exact Clean.v _ | assumption | exact List.forall_mem_nil _ | refine List.forall_mem_cons.2 ⟨?_, ?_⟩)
theorem e_Path_node_tm {st : AS} {F : List Nat} {σ : List (Option Nat)} (x : Path_node) (s0 : AV) (s1 : AV) (s2 : AV) (s02 : AV) (s12 : AV) (s22 : AV) (h_s0 : Tm st F σ s0 s02) (h_s1 : Tm st F σ s1 s12) (h_s2 : Tm st F σ s2 s22) : TmL st F σ (e_Path_node x s0 s1 s2) (e_Path_node x s02 s12 s22) := by
 simp only [e_Path_node, e_Paths, e_A6vu, List.cons_append, List.nil_append]
 repeat' (first | exact TmL.nil | (refine TmL.cons (Tm.v _) ?_) | (refine TmL.cons (by assumption) ?_))
theorem e_Path_node_tmx {st : AS} {F : List Nat} {σ : List (Option Nat)} {x y : Path_node} {s0 s1 s2 s02 s12 s22 : AV} (hxy : e_Path_node y s02 s12 s22 = e_Path_node x s02 s12 s22) (h_s0 : Tm st F σ s0 s02) (h_s1 : Tm st F σ s1 s12) (h_s2 : Tm st F σ s2 s22) : TmL st F σ (e_Path_node x s0 s1 s2) (e_Path_node y s02 s12 s22) := by
 rw [hxy]; exact e_Path_node_tm x s0 s1 s2 s02 s12 s22 h_s0 h_s1 h_s2
theorem e_Path_node_ren (x : Path_node) {s0 s1 s2 : (Nat → Nat) → AV} (h_s0 : RenM s0) (h_s1 : RenM s1) (h_s2 : RenM s2) : RenML fun q => e_Path_node x (s0 q) (s1 q) (s2 q) := by
 simp only [e_Path_node, e_Paths, e_A6vu, List.cons_append, List.nil_append]
 repeat' (first | exact RenML.nil | (refine RenML.cons (RenM.const (Clean.v _)) ?_) | (refine RenML.cons (by assumption) ?_))
theorem e_Path_node_frl {q nx off : Nat} (x : Path_node) {s0 s1 s2 : AV} {s02 s12 s22 : AV} (h_s0 : Fr q nx off s0 s02) (h_s1 : Fr q nx off s1 s12) (h_s2 : Fr q nx off s2 s22) : FrL q nx off (e_Path_node x s0 s1 s2) (e_Path_node x s02 s12 s22) := by
 simp only [e_Path_node, e_Paths, e_A6vu, List.cons_append, List.nil_append]
 repeat' (first | exact FrL.nil | (refine FrL.cons _ _ _ _ (by assumption) ?_) | (refine FrL.cons _ _ _ _ (Fr.same _) ?_))
def E_Path_node (x : Path_node) : List AV := e_Path_node x (S_PathRoute x.Paths.Routes) (S_PathWanted x.Paths.Wanted) (S_Sent x.out)
theorem E_Path_node_eq (x : Path_node) : E_Path_node x = e_Path_node x (S_PathRoute x.Paths.Routes) (S_PathWanted x.Paths.Wanted) (S_Sent x.out) := rfl
theorem E_Path_node_clean (x : Path_node) : ∀ c ∈ E_Path_node x, Clean c := e_Path_node_clean x _ _ _ (S_PathRoute_clean _) (S_PathWanted_clean _) (S_Sent_clean _)
theorem f_Path_node (x : Path_node) (o : Nat → Ob) (n : Nat) : (E_Path_node x).map (fz o (n + 3)) = E_Path_node x := by simp only [E_Path_node_eq, e_Path_node_fz, f_S_PathRoute, f_S_PathWanted, f_S_Sent]
theorem q_Path_node (x : Path_node) (o : Nat → Ob) (n : Nat) : (E_Path_node x).flatMap (reach o (n + 3)) = [] := by simp only [E_Path_node_eq, e_Path_node_reach, q_S_PathRoute, q_S_PathWanted, q_S_Sent, List.append_nil]
attribute [go_sem] e_Path_node_len e_Path_node_sub e_Path_node_take e_Path_node_all e_Path_node_g_Paths_Seq e_Path_node_s_Paths_Seq e_Path_node_g_Paths_Routes e_Path_node_s_Paths_Routes e_Path_node_g_Paths_Wanted e_Path_node_s_Paths_Wanted e_Path_node_s_now e_Path_node_g_out e_Path_node_s_out e_Path_node_d_Paths e_Path_node_p_Paths e_Path_node_d_Paths_Own e_Path_node_fz e_Path_node_reach E_Path_node_eq f_Path_node q_Path_node

structure Path_asked where
 origin : A6vu
 dest : A6vu
 seq : Int
 known : Int
 hops : Int
 cost : Int
 deriving DecidableEq

def Path_asked.z : Path_asked := ⟨A6vu.z, A6vu.z, 0, 0, 0, 0⟩

def e_Path_asked (x : Path_asked) : List AV := (e_A6vu x.origin) ++ (e_A6vu x.dest) ++ [vi x.seq, vi x.known, vi x.hops, vi x.cost]

theorem e_Path_asked_len (x : Path_asked) : (e_Path_asked x).length = 16 := by rfl
theorem e_Path_asked_sub (x : Path_asked) : sub? (e_Path_asked x) 0 16 = some (e_Path_asked x) := by rfl
theorem e_Path_asked_take (x : Path_asked) : (e_Path_asked x).take 16 = (e_Path_asked x) := by rfl
theorem e_Path_asked_all (x : Path_asked) (y : Path_asked) : putAt (e_Path_asked x) 0 (e_Path_asked y) = e_Path_asked y := by rfl
theorem e_Path_asked_g_seq (x : Path_asked) : (e_Path_asked x)[12]? = some (vi x.seq) := by rfl
theorem e_Path_asked_s_seq (x : Path_asked) (v : Int) : (e_Path_asked x).set 12 (vi v) = e_Path_asked { x with seq := v } := by rfl
theorem e_Path_asked_g_known (x : Path_asked) : (e_Path_asked x)[13]? = some (vi x.known) := by rfl
theorem e_Path_asked_s_known (x : Path_asked) (v : Int) : (e_Path_asked x).set 13 (vi v) = e_Path_asked { x with known := v } := by rfl
theorem e_Path_asked_g_hops (x : Path_asked) : (e_Path_asked x)[14]? = some (vi x.hops) := by rfl
theorem e_Path_asked_g_cost (x : Path_asked) : (e_Path_asked x)[15]? = some (vi x.cost) := by rfl
theorem e_Path_asked_d_origin (x : Path_asked) : sub? (e_Path_asked x) 0 6 = some (e_A6vu x.origin) := by rfl
theorem e_Path_asked_p_origin (x : Path_asked) (v : A6vu) : putAt (e_Path_asked x) 0 (e_A6vu v) = e_Path_asked { x with origin := v } := by rfl
theorem e_Path_asked_d_dest (x : Path_asked) : sub? (e_Path_asked x) 6 6 = some (e_A6vu x.dest) := by rfl
theorem e_Path_asked_p_dest (x : Path_asked) (v : A6vu) : putAt (e_Path_asked x) 6 (e_A6vu v) = e_Path_asked { x with dest := v } := by rfl
theorem e_Path_asked_fz (x : Path_asked) (o : Nat → Ob) (n : Nat) : (e_Path_asked x).map (fz o (n + 1)) = e_Path_asked x := by rfl
theorem e_Path_asked_reach (x : Path_asked) (o : Nat → Ob) (n : Nat) : (e_Path_asked x).flatMap (reach o (n + 1)) = [] := by
 simp only [e_Path_asked, e_A6vu, List.cons_append, List.nil_append, List.append_nil, List.flatMap_cons, List.flatMap_nil, reach_v]
theorem e_Path_asked_clean (x : Path_asked) : ∀ c ∈ (e_Path_asked x), Clean c := by
 simp only [e_Path_asked, e_A6vu, List.cons_append, List.nil_append]
 repeat' (first | exact Clean.v _ | assumption | exact List.forall_mem_nil _ | refine List.forall_mem_cons.2 ⟨?_, ?_⟩)
theorem e_Path_asked_tm {st : AS} {F : List Nat} {σ : List (Option Nat)} (x : Path_asked) : TmL st F σ (e_Path_asked x) (e_Path_asked x) := by
 simp only [e_Path_asked, e_A6vu, List.cons_append, List.nil_append]
 repeat' (first | exact TmL.nil | (refine TmL.cons (Tm.v _) ?_) | (refine TmL.cons (by assumption) ?_))
theorem f_Path_asked (x : Path_asked) (o : Nat → Ob) (n : Nat) : (e_Path_asked x).map (fz o (n + 1)) = e_Path_asked x := by simp only [e_Path_asked_fz]
theorem q_Path_asked (x : Path_asked) (o : Nat → Ob) (n : Nat) : (e_Path_asked x).flatMap (reach o (n + 1)) = [] := by simp only [e_Path_asked_reach, List.append_nil]
attribute [go_sem] e_Path_asked_len e_Path_asked_sub e_Path_asked_take e_Path_asked_all e_Path_asked_g_seq e_Path_asked_s_seq e_Path_asked_g_known e_Path_asked_s_known e_Path_asked_g_hops e_Path_asked_g_cost e_Path_asked_d_origin e_Path_asked_p_origin e_Path_asked_d_dest e_Path_asked_p_dest e_Path_asked_fz e_Path_asked_reach f_Path_asked q_Path_asked

def gv0 : A6vu := ⟨255, 255, 255, 255, 255, 255⟩

end Go.AX.Z.TO

/-! (TOD) -/

set_option linter.unusedSimpArgs false
set_option linter.unusedVariables false
set_option maxHeartbeats 4000000
set_option maxRecDepth 20000
namespace Go.AX.Z.TO
open Go.AX

def hotspotref39_Great (a0 : Paths) : Option Bool :=
 some ((decide (40 < (a0.Routes.length : Int))) || (decide (40 < (a0.Wanted.length : Int))))

def hotspotref39_Twin (a0 : Paths) : Option Paths :=
 ((chk (decide ((a0.Routes.length) * 48 ≤ 140737488355328))).bind fun x2 =>
 ((chk (decide ((a0.Wanted.length) * 24 ≤ 140737488355328))).bind fun x3 =>
 some a0))

def path_between (a0 : Int) (a1 : Int) (a2 : Int) : Option Bool :=
 some ((decide (a1 ≤ a0)) && (decide (a0 ≤ a2)))

def path_validRoute (a0 : PathRoute) (a1 : A6vu) : Option Bool :=
 ((
  bif decide (a0.Dest = a1) then
   some true
  else
   ((path_between a0.Seq 1 2147483647).bind fun x8 =>
   some (!x8))).bind fun x9 =>
 bif x9 then
  some false
 else
  bif (!a0.Valid) then
   some (decide (a0 = { PathRoute.z with Dest := a0.Dest, Seq := a0.Seq }))
  else
   ((
    bif (!decide (a0.Next = a1)) then
     ((path_between a0.Hops 1 16).bind fun x10 =>
     some x10)
    else
     some false).bind fun x11 =>
   ((
    bif x11 then
     ((path_between a0.Cost 1 1099511627776).bind fun x12 =>
     some x12)
    else
     some false).bind fun x13 =>
   ((
    bif x13 then
     ((path_between a0.Until 1 1099516627776).bind fun x14 =>
     some x14)
    else
     some false).bind fun x15 =>
   some x15))))

def bytealg_Compare (a0 : List Int) (a1 : List Int) : Option Int := some (cmpL a0 a1)

def bytes_Compare (a0 : (List Int)) (a1 : (List Int)) : Option Int :=
 ((bytealg_Compare a0 a1).bind fun x10 =>
 some x10)

def address_Compare (a0 : A6vu) (a1 : A6vu) : Option Int :=
 ((bytes_Compare [a0.a0, a0.a1, a0.a2, a0.a3, a0.a4, a0.a5] [a1.a0, a1.a1, a1.a2, a1.a3, a1.a4, a1.a5]).bind fun x10 =>
 some x10)

def path_Check_L2 (a0 : Paths) : Nat → Int → Option (Ex Int Unit)
 | 0, _ => none
 | n5 + 1, d8 =>
  bif decide (d8 < (a0.Routes.length : Int)) then
   ((idx a0.Routes d8).bind fun x9 =>
   ((path_validRoute x9 a0.Own).bind fun x10 =>
   ((
    bif (!x10) then
     some true
    else
     ((
      bif decide (0 < d8) then
       ((idx a0.Routes (IntKind.wrap .i64 (d8 - 1))).bind fun x11 =>
       ((address_Compare x11.Dest x9.Dest).bind fun x12 =>
       some (decide (0 ≤ x12))))
      else
       some false).bind fun x13 =>
     some x13)).bind fun x14 =>
   bif x14 then
    some (Ex.ret 8)
   else
    path_Check_L2 a0 n5 (IntKind.wrap .i64 (d8 + 1)))))
  else
   some (Ex.go ())

def path_Check_L6 (a0 : Paths) : Nat → Int → Option (Ex Int Unit)
 | 0, _ => none
 | n12 + 1, d17 =>
  bif decide (d17 < (a0.Wanted.length : Int)) then
   ((idx a0.Wanted d17).bind fun x18 =>
   ((
    bif decide (x18.Dest = a0.Own) then
     some true
    else
     ((path_between x18.Tries 1 3).bind fun x19 =>
     some (!x19))).bind fun x20 =>
   ((
    bif x20 then
     some true
    else
     ((path_between x18.Due 1 1099511727776).bind fun x21 =>
     some (!x21))).bind fun x22 =>
   ((
    bif x22 then
     some true
    else
     ((
      bif decide (0 < d17) then
       ((idx a0.Wanted (IntKind.wrap .i64 (d17 - 1))).bind fun x23 =>
       ((address_Compare x23.Dest x18.Dest).bind fun x24 =>
       some (decide (0 ≤ x24))))
      else
       some false).bind fun x25 =>
     some x25)).bind fun x26 =>
   bif x26 then
    some (Ex.ret 8)
   else
    path_Check_L6 a0 n12 (IntKind.wrap .i64 (d17 + 1))))))
  else
   some (Ex.go ())

def path_Check (a0 : Paths) : Option Int :=
 ((path_between a0.Seq 0 2147483647).bind fun x5 =>
 bif (((!x5) || (decide (32 < (a0.Routes.length : Int)))) || (decide (32 < (a0.Wanted.length : Int)))) then
  some 8
 else
  ((
   path_Check_L2 a0 big 0).bind fun o7 =>
  (o7.k fun d6 =>
  ((
   path_Check_L6 a0 big 0).bind fun o16 =>
  (o16.k fun d15 =>
  some 0)))))

def slices_Clone_api_PathRoute_api_PathRoute (a0 : (List PathRoute)) : Option (List PathRoute) :=
 ((chk (decide ((a0.length) * 48 ≤ 140737488355328))).bind fun x29 =>
 some a0)

def slices_Clone_api_PathWanted_api_PathWanted (a0 : (List PathWanted)) : Option (List PathWanted) :=
 ((chk (decide ((a0.length) * 24 ≤ 140737488355328))).bind fun x31 =>
 some a0)

def path_spoil (a0 : Int) (a1 : List PathRoute) : Option (List PathRoute) :=
 ((idx a1 a0).bind fun x35 =>
 some (a1.set ((a0).toNat) { PathRoute.z with Dest := x35.Dest, Seq := (if 2147483647 < IntKind.wrap .i64 (x35.Seq + 1) then 2147483647 else IntKind.wrap .i64 (x35.Seq + 1)) }))

def path_begun_L4 (x7 : (List PathRoute)) (a1 : Int) : Nat → (List PathRoute × Int) → Option ((List PathRoute))
 | 0, _ => none
 | n4 + 1, d10 =>
  bif decide (d10.2 < ((x7.length : Nat) : Int)) then
   ((idx d10.1 d10.2).bind fun x11 =>
   bif (x11.Valid && (decide (x11.Until ≤ a1))) then
    ((path_spoil d10.2 d10.1).bind fun x12 =>
    ((chk (decide (x12.length = d10.1.length))).bind fun x13 =>
    path_begun_L4 x7 a1 n4 (x12, IntKind.wrap .i64 (d10.2 + 1))))
   else
    path_begun_L4 x7 a1 n4 (d10.1, IntKind.wrap .i64 (d10.2 + 1)))
  else
   some d10.1

def path_begun (a0 : Paths) (a1 : Int) : Option (List PathRoute × List PathWanted) :=
 ((path_Check a0).bind fun x5 =>
 bif (x5 != 0) then
  none
 else
  ((path_between a1 0 1099511627776).bind fun x6 =>
  bif (!x6) then
   none
  else
   ((slices_Clone_api_PathRoute_api_PathRoute a0.Routes).bind fun x7 =>
   ((slices_Clone_api_PathWanted_api_PathWanted a0.Wanted).bind fun x8 =>
   ((
    path_begun_L4 x7 a1 big (x7, 0)).bind fun d9 =>
   some (d9, x8))))))

def path_group (a0 : A6vu) : Option Bool :=
 some ((band .u8 a0.a0 1) == 1)

def path_node_wanted_1 (a0 : PathWanted) (a1 : A6vu) : Option Int :=
 ((address_Compare a0.Dest a1).bind fun x19 =>
 some x19)

def slices_BinarySearchFunc_api_PathWanted_api_PathWanted_api_Addr_L2 (a0 : (List PathWanted)) (a1 : A6vu) : Nat → (Int × Int) → Option (Int)
 | 0, _ => none
 | n2 + 1, d18 =>
  bif decide (d18.1 < d18.2) then
   ((idx a0 (IntKind.wrap .i64 (((IntKind.wrap .u64 (IntKind.wrap .i64 (d18.1 + d18.2)))).fdiv (2 ^ (min 1 64))))).bind fun x19 =>
   ((path_node_wanted_1 x19 a1).bind fun x20 =>
   bif decide (x20 < 0) then
    slices_BinarySearchFunc_api_PathWanted_api_PathWanted_api_Addr_L2 a0 a1 n2 (IntKind.wrap .i64 ((IntKind.wrap .i64 (((IntKind.wrap .u64 (IntKind.wrap .i64 (d18.1 + d18.2)))).fdiv (2 ^ (min 1 64)))) + 1), d18.2)
   else
    slices_BinarySearchFunc_api_PathWanted_api_PathWanted_api_Addr_L2 a0 a1 n2 (d18.1, IntKind.wrap .i64 (((IntKind.wrap .u64 (IntKind.wrap .i64 (d18.1 + d18.2)))).fdiv (2 ^ (min 1 64))))))
  else
   some d18.1

def slices_BinarySearchFunc_api_PathWanted_api_PathWanted_api_Addr (a0 : (List PathWanted)) (a1 : A6vu) : Option (Int × Bool) :=
 ((
  slices_BinarySearchFunc_api_PathWanted_api_PathWanted_api_Addr_L2 a0 a1 big (0, (a0.length : Int))).bind fun d17 =>
 bif decide (d17 < (a0.length : Int)) then
  ((idx a0 d17).bind fun x21 =>
  ((path_node_wanted_1 x21 a1).bind fun x22 =>
  some (d17, (x22 == 0))))
 else
  some (d17, false))

def path_node_wanted (a0 : Path_node) (a1 : A6vu) : Option (Int × Bool) :=
 ((slices_BinarySearchFunc_api_PathWanted_api_PathWanted_api_Addr a0.Paths.Wanted a1).bind fun x17 =>
 some (x17.1, x17.2))

def path_node_route_1 (a0 : PathRoute) (a1 : A6vu) : Option Int :=
 ((address_Compare a0.Dest a1).bind fun x21 =>
 some x21)

def slices_BinarySearchFunc_api_PathRoute_api_PathRoute_api_Addr_L2 (a0 : (List PathRoute)) (a1 : A6vu) : Nat → (Int × Int) → Option (Int)
 | 0, _ => none
 | n2 + 1, d20 =>
  bif decide (d20.1 < d20.2) then
   ((idx a0 (IntKind.wrap .i64 (((IntKind.wrap .u64 (IntKind.wrap .i64 (d20.1 + d20.2)))).fdiv (2 ^ (min 1 64))))).bind fun x21 =>
   ((path_node_route_1 x21 a1).bind fun x22 =>
   bif decide (x22 < 0) then
    slices_BinarySearchFunc_api_PathRoute_api_PathRoute_api_Addr_L2 a0 a1 n2 (IntKind.wrap .i64 ((IntKind.wrap .i64 (((IntKind.wrap .u64 (IntKind.wrap .i64 (d20.1 + d20.2)))).fdiv (2 ^ (min 1 64)))) + 1), d20.2)
   else
    slices_BinarySearchFunc_api_PathRoute_api_PathRoute_api_Addr_L2 a0 a1 n2 (d20.1, IntKind.wrap .i64 (((IntKind.wrap .u64 (IntKind.wrap .i64 (d20.1 + d20.2)))).fdiv (2 ^ (min 1 64))))))
  else
   some d20.1

def slices_BinarySearchFunc_api_PathRoute_api_PathRoute_api_Addr (a0 : (List PathRoute)) (a1 : A6vu) : Option (Int × Bool) :=
 ((
  slices_BinarySearchFunc_api_PathRoute_api_PathRoute_api_Addr_L2 a0 a1 big (0, (a0.length : Int))).bind fun d19 =>
 bif decide (d19 < (a0.length : Int)) then
  ((idx a0 d19).bind fun x23 =>
  ((path_node_route_1 x23 a1).bind fun x24 =>
  some (d19, (x24 == 0))))
 else
  some (d19, false))

def path_node_route (a0 : Path_node) (a1 : A6vu) : Option (Int × Bool) :=
 ((slices_BinarySearchFunc_api_PathRoute_api_PathRoute_api_Addr a0.Paths.Routes a1).bind fun x19 =>
 some (x19.1, x19.2))

def slices_Insert_api_PathWanted_api_PathWanted_0 (a0 : Int) (a1 : List PathWanted) (a2 : List PathWanted) : Option (List PathWanted) :=
 ((chk (decide (0 ≤ a0) && decide (a0 ≤ (a1.length : Int)))).bind fun x24 =>
 bif (((a2.length : Nat) : Int) == 0) then
  some a1
 else
  bif (a0 == ((a1.length : Nat) : Int)) then
   ((chk (decide ((a1.length + a2.length) * 24 ≤ 140737488355328))).bind fun x25 =>
   some (a1 ++ a2))
  else
   none)

def slices_Insert_api_PathWanted_api_PathWanted (a0 : Int) (a1 : List PathWanted) (a2 : List PathWanted) : Option (List PathWanted) :=
 ((chk (decide (0 ≤ a0) && decide (a0 ≤ (a1.length : Int)))).bind fun x13 =>
 bif (((a2.length : Nat) : Int) == 0) then
  some a1
 else
  bif (a0 == ((a1.length : Nat) : Int)) then
   ((chk (decide ((a1.length + a2.length) * 24 ≤ 140737488355328))).bind fun x14 =>
   some (a1 ++ a2))
  else
   ((chk (decide (a2.length = 1) && decide ((a1.length + 1) * 24 ≤ 140737488355328))).bind fun x15 =>
   some (a1.take a0.toNat ++ a2 ++ a1.drop a0.toNat)))

def path_node_known (a0 : Path_node) (a1 : A6vu) : Option Int :=
 ((path_node_route a0 a1).bind fun x27 =>
 bif x27.2 then
  ((idx a0.Paths.Routes x27.1).bind fun x28 =>
  some x28.Seq)
 else
  some 0)

def path_put_L2 (a1 : Int) (a0 : Int) : Nat → (List Int × Int) → Option ((List Int))
 | 0, _ => none
 | n2 + 1, d31 =>
  bif decide (d31.2 < a1) then
   ((chk (decide (¬ (IntKind.wrap .i64 (8 * d31.2)) < 0))).bind fun x32 =>
   ((chk (decide (d31.1.length + 1 ≤ 140737488355328))).bind fun x33 =>
   path_put_L2 a1 a0 n2 ((d31.1 ++ [IntKind.wrap .u8 ((a0).fdiv (2 ^ (min ((IntKind.wrap .i64 (8 * d31.2))).toNat 64)))]), IntKind.wrap .i64 (d31.2 + 1))))
  else
   some d31.1

def path_put (a0 : Int) (a1 : Int) (a2 : List Int) : Option (List Int) :=
 ((
  path_put_L2 a1 a0 big (a2, 0)).bind fun d30 =>
 some d30)

def path_asked_bytes (a0 : Path_asked) : Option (List Int) :=
 ((path_put a0.seq 4 ([1] ++ [a0.origin.a0, a0.origin.a1, a0.origin.a2, a0.origin.a3, a0.origin.a4, a0.origin.a5])).bind fun x30 =>
 ((chk (decide (x30.length + 6 ≤ 140737488355328))).bind fun x31 =>
 ((path_put a0.known 4 (x30 ++ [a0.dest.a0, a0.dest.a1, a0.dest.a2, a0.dest.a3, a0.dest.a4, a0.dest.a5])).bind fun x32 =>
 ((chk (decide (x32.length + 1 ≤ 140737488355328))).bind fun x33 =>
 ((path_put a0.cost 8 (x32 ++ [IntKind.wrap .u8 a0.hops])).bind fun x34 =>
 some x34)))))

def path_node_send (a0 : A6vu) (a1 : (List Int)) (a2 : Path_node) : Option Unit :=
 some ()

def path_node_ask (a0 : A6vu) (a1 : Path_node) : Option (List Sent) :=
 ((path_node_known { a1 with Paths.Seq := IntKind.wrap .i64 (a1.Paths.Seq + 1), out := [] } a0).bind fun x27 =>
 ((path_asked_bytes { Path_asked.z with dest := a0, known := x27, origin := a1.Paths.Own, seq := IntKind.wrap .i64 (a1.Paths.Seq + 1) }).bind fun x28 =>
 ((path_node_send gv0 x28 { a1 with Paths.Seq := IntKind.wrap .i64 (a1.Paths.Seq + 1), out := [] }).bind fun x29 =>
 some [{ Sent.z with Data := x28, To := gv0 }])))

def path_begun_2_L4 (x33 : (List PathRoute)) (a1 : Int) : Nat → (List PathRoute × Int) → Option ((List PathRoute))
 | 0, _ => none
 | n4 + 1, d36 =>
  bif decide (d36.2 < ((x33.length : Nat) : Int)) then
   ((idx d36.1 d36.2).bind fun x37 =>
   bif (x37.Valid && (decide (x37.Until ≤ a1))) then
    ((path_spoil d36.2 d36.1).bind fun x38 =>
    ((chk (decide (x38.length = d36.1.length))).bind fun x39 =>
    path_begun_2_L4 x33 a1 n4 (x38, IntKind.wrap .i64 (d36.2 + 1))))
   else
    path_begun_2_L4 x33 a1 n4 (d36.1, IntKind.wrap .i64 (d36.2 + 1)))
  else
   some d36.1

def path_begun_2 (a0 : Paths) (a1 : Int) : Option Int :=
 ((path_Check a0).bind fun x31 =>
 bif (x31 != 0) then
  some x31
 else
  ((path_between a1 0 1099511627776).bind fun x32 =>
  bif (!x32) then
   some 2
  else
   ((slices_Clone_api_PathRoute_api_PathRoute a0.Routes).bind fun x33 =>
   ((slices_Clone_api_PathWanted_api_PathWanted a0.Wanted).bind fun x34 =>
   ((
    path_begun_2_L4 x33 a1 big (x33, 0)).bind fun d35 =>
   none)))))

def path_Find (a0 : Paths) (a1 : A6vu) (a2 : Int) : Option (Paths × (List Sent) × Int) :=
 bif (path_begun a0 a2).isSome then
  ((path_begun a0 a2).bind fun x5 =>
  ((
   bif decide (a1 = a0.Own) then
    some true
   else
    ((path_group a1).bind fun x6 =>
    some x6)).bind fun x7 =>
  bif x7 then
   some (Paths.z, [], 2)
  else
   ((path_node_wanted { Path_node.z with Paths := { a0 with Routes := x5.1, Wanted := x5.2 }, now := a2, out := [] } a1).bind fun x8 =>
   ((path_node_route { Path_node.z with Paths := { a0 with Routes := x5.1, Wanted := x5.2 }, now := a2, out := [] } a1).bind fun x9 =>
   ((
    bif x8.2 then
     some true
    else
     ((
      bif x9.2 then
       ((idx x5.1 x9.1).bind fun x10 =>
       some x10.Valid)
      else
       some false).bind fun x11 =>
     some x11)).bind fun x12 =>
   bif x12 then
    some ({ a0 with Routes := x5.1, Wanted := x5.2 }, [], 0)
   else
    bif ((a0.Seq == 2147483647) || (((x5.2.length : Nat) : Int) == 32)) then
     some (Paths.z, [], 22)
    else
     ((slices_Insert_api_PathWanted_api_PathWanted x8.1 x5.2 [{ PathWanted.z with Dest := a1, Due := IntKind.wrap .i64 (a2 + 100000), Tries := 1 }]).bind fun x13 =>
     ((path_node_ask a1 { Path_node.z with Paths := { a0 with Routes := x5.1, Wanted := x13 }, now := a2, out := [] }).bind fun x14 =>
     some ({ { { Path_node.z with Paths := { a0 with Routes := x5.1, Wanted := x13 }, now := a2, out := [] } with Paths.Seq := IntKind.wrap .i64 (a0.Seq + 1), out := [] }.Paths with Routes := x5.1, Wanted := x13 }, x14, 0))))))))
 else
  ((path_begun_2 a0 a2).bind fun x15 =>
  bif (x15 != 0) then
   some (Paths.z, [], x15)
  else
   ((
    bif decide (a1 = a0.Own) then
     some true
    else
     ((path_group a1).bind fun x16 =>
     some x16)).bind fun x17 =>
   bif x17 then
    some (Paths.z, [], 2)
   else
    none))

def hotspotref23_Smaller_L2 (a0 : A6vu) (a1 : A6vu) : Nat → Int → Option (Ex Bool Unit)
 | 0, _ => none
 | n2 + 1, d24 =>
  bif decide (d24 < 6) then
   ((idxA 6 [a0.a0, a0.a1, a0.a2, a0.a3, a0.a4, a0.a5] d24).bind fun x25 =>
   ((idxA 6 [a1.a0, a1.a1, a1.a2, a1.a3, a1.a4, a1.a5] d24).bind fun x26 =>
   bif (x25 != x26) then
    some (Ex.ret (decide (x25 < x26)))
   else
    hotspotref23_Smaller_L2 a0 a1 n2 (IntKind.wrap .i64 (d24 + 1))))
  else
   some (Ex.go ())

def hotspotref23_Smaller (a0 : A6vu) (a1 : A6vu) : Option Bool :=
 ((
  hotspotref23_Smaller_L2 a0 a1 big 0).bind fun o23 =>
 (o23.k fun d22 =>
 some false))

def hotspotref39_Check_L2 (a0 : Paths) : Nat → Int → Option (Ex Int Unit)
 | 0, _ => none
 | n6 + 1, d21 =>
  bif decide (d21 < (a0.Routes.length : Int)) then
   ((idx a0.Routes d21).bind fun x22 =>
   ((
    bif (((decide (x22.Dest = a0.Own)) || (decide (x22.Seq < 1))) || (decide (2147483647 < x22.Seq))) then
     some true
    else
     ((
      bif decide (0 < d21) then
       ((idx a0.Routes (IntKind.wrap .i64 (d21 - 1))).bind fun x23 =>
       ((hotspotref23_Smaller x23.Dest x22.Dest).bind fun x24 =>
       some (!x24)))
      else
       some false).bind fun x25 =>
     some x25)).bind fun x26 =>
   bif x26 then
    some (Ex.ret 8)
   else
    bif ((!x22.Valid) && ((((!decide (x22.Next = A6vu.z)) || (x22.Hops != 0)) || (x22.Cost != 0)) || (x22.Until != 0))) then
     some (Ex.ret 8)
    else
     bif (x22.Valid && (((((((decide (x22.Next = a0.Own)) || (decide (x22.Hops < 1))) || (decide (16 < x22.Hops))) || (decide (x22.Cost < 1))) || (decide (1099511627776 < x22.Cost))) || (decide (x22.Until < 1))) || (decide (1099516627776 < x22.Until)))) then
      some (Ex.ret 8)
     else
      hotspotref39_Check_L2 a0 n6 (IntKind.wrap .i64 (d21 + 1))))
  else
   some (Ex.go ())

def hotspotref39_Check_L5 (a0 : Paths) : Nat → Int → Option (Ex Int Unit)
 | 0, _ => none
 | n28 + 1, d29 =>
  bif decide (d29 < (a0.Wanted.length : Int)) then
   ((idx a0.Wanted d29).bind fun x30 =>
   ((
    bif (((((decide (x30.Dest = a0.Own)) || (decide (x30.Tries < 1))) || (decide (3 < x30.Tries))) || (decide (x30.Due < 1))) || (decide (1099511727776 < x30.Due))) then
     some true
    else
     ((
      bif decide (0 < d29) then
       ((idx a0.Wanted (IntKind.wrap .i64 (d29 - 1))).bind fun x31 =>
       ((hotspotref23_Smaller x31.Dest x30.Dest).bind fun x32 =>
       some (!x32)))
      else
       some false).bind fun x33 =>
     some x33)).bind fun x34 =>
   bif x34 then
    some (Ex.ret 8)
   else
    hotspotref39_Check_L5 a0 n28 (IntKind.wrap .i64 (d29 + 1))))
  else
   some (Ex.go ())

def hotspotref39_Check (a0 : Paths) : Option Int :=
 bif ((((decide (a0.Seq < 0)) || (decide (2147483647 < a0.Seq))) || (decide (32 < (a0.Routes.length : Int)))) || (decide (32 < (a0.Wanted.length : Int)))) then
  some 8
 else
  ((
   hotspotref39_Check_L2 a0 big 0).bind fun o20 =>
  (o20.k fun d19 =>
  ((
   hotspotref39_Check_L5 a0 big 0).bind fun o28 =>
  (o28.k fun d27 =>
  some 0))))

def hotspotref39_gone (a0 : PathRoute) : Option PathRoute :=
 some { PathRoute.z with Dest := a0.Dest, Seq := (if 2147483647 < IntKind.wrap .i64 (a0.Seq + 1) then 2147483647 else IntKind.wrap .i64 (a0.Seq + 1)) }

def hotspotref39_before_L3 (a1 : Int) : Nat → (List PathRoute × Int) → Option ((List PathRoute))
 | 0, _ => none
 | n5 + 1, d22 =>
  bif decide (d22.2 < ((d22.1.length : Nat) : Int)) then
   ((idx d22.1 d22.2).bind fun x23 =>
   bif (x23.Valid && (decide (x23.Until ≤ a1))) then
    ((hotspotref39_gone x23).bind fun x24 =>
    hotspotref39_before_L3 a1 n5 ((d22.1.set ((d22.2).toNat) x24), IntKind.wrap .i64 (d22.2 + 1)))
   else
    hotspotref39_before_L3 a1 n5 (d22.1, IntKind.wrap .i64 (d22.2 + 1)))
  else
   some d22.1

def hotspotref39_before (a0 : Paths) (a1 : Int) : Option (Paths × Int) :=
 ((hotspotref39_Check a0).bind fun x19 =>
 bif (x19 != 0) then
  some (Paths.z, 8)
 else
  bif ((decide (a1 < 0)) || (decide (1099511627776 < a1))) then
   some (Paths.z, 2)
  else
   ((hotspotref39_Twin a0).bind fun x20 =>
   ((
    hotspotref39_before_L3 a1 big (x20.Routes, 0)).bind fun d21 =>
   some ({ x20 with Routes := d21 }, 0))))

def hotspotref39_at_L2 (a0 : Paths) (a1 : A6vu) : Nat → Int → Option (Ex Int Unit)
 | 0, _ => none
 | n2 + 1, d28 =>
  bif decide (d28 < (a0.Routes.length : Int)) then
   ((idx a0.Routes d28).bind fun x29 =>
   bif decide (x29.Dest = a1) then
    some (Ex.ret d28)
   else
    hotspotref39_at_L2 a0 a1 n2 (IntKind.wrap .i64 (d28 + 1)))
  else
   some (Ex.go ())

def hotspotref39_at (a0 : Paths) (a1 : A6vu) : Option Int :=
 ((
  hotspotref39_at_L2 a0 a1 big 0).bind fun o27 =>
 (o27.k fun d26 =>
 some (-1)))

def hotspotref39_wanted_L2 (a0 : Paths) (a1 : A6vu) : Nat → Int → Option (Ex Bool Unit)
 | 0, _ => none
 | n2 + 1, d35 =>
  bif decide (d35 < (a0.Wanted.length : Int)) then
   ((idx a0.Wanted d35).bind fun x36 =>
   bif decide (x36.Dest = a1) then
    some (Ex.ret true)
   else
    hotspotref39_wanted_L2 a0 a1 n2 (IntKind.wrap .i64 (d35 + 1)))
  else
   some (Ex.go ())

def hotspotref39_wanted (a0 : Paths) (a1 : A6vu) : Option Bool :=
 ((
  hotspotref39_wanted_L2 a0 a1 big 0).bind fun o34 =>
 (o34.k fun d33 =>
 some false))

def hotspotref39_All : Option A6vu :=
 some { A6vu.z with a0 := 255, a1 := 255, a2 := 255, a3 := 255, a4 := 255, a5 := 255 }

def hotspotref39_known (a0 : Paths) (a1 : A6vu) : Option Int :=
 ((hotspotref39_at a0 a1).bind fun x51 =>
 bif decide (x51 < 0) then
  some 0
 else
  ((idx a0.Routes x51).bind fun x52 =>
  some x52.Seq))

def hotspotref39_low_L2 (a1 : Int) : Nat → (Int × List Int × Int) → Option ((List Int))
 | 0, _ => none
 | n2 + 1, d55 =>
  bif decide (d55.2.2 < a1) then
   ((chk (decide (d55.2.1.length + 1 ≤ 140737488355328))).bind fun x56 =>
   hotspotref39_low_L2 a1 n2 ((d55.1).fdiv (2 ^ (min 8 64)), (d55.2.1 ++ [IntKind.wrap .u8 d55.1]), IntKind.wrap .i64 (d55.2.2 + 1)))
  else
   some d55.2.1

def hotspotref39_low (a0 : Int) (a1 : Int) : Option (List Int) :=
 ((
  hotspotref39_low_L2 a1 big (a0, [], 0)).bind fun d54 =>
 some d54)

def hotspotref39_Request (a0 : A6vu) (a1 : Int) (a2 : A6vu) (a3 : Int) (a4 : Int) (a5 : Int) : Option (List Int) :=
 ((hotspotref39_low a1 4).bind fun x54 =>
 ((chk (decide (([1] ++ [a0.a0, a0.a1, a0.a2, a0.a3, a0.a4, a0.a5]).length + x54.length ≤ 140737488355328))).bind fun x55 =>
 ((chk (decide (7 + (x54.length + 6) ≤ 140737488355328))).bind fun x56 =>
 ((hotspotref39_low a3 4).bind fun x57 =>
 ((chk (decide (7 + (x54.length + (6 + x57.length)) ≤ 140737488355328))).bind fun x58 =>
 ((hotspotref39_low a4 1).bind fun x59 =>
 ((chk (decide ((((([1] ++ [a0.a0, a0.a1, a0.a2, a0.a3, a0.a4, a0.a5]) ++ x54) ++ [a2.a0, a2.a1, a2.a2, a2.a3, a2.a4, a2.a5]) ++ x57).length + x59.length ≤ 140737488355328))).bind fun x60 =>
 ((hotspotref39_low a5 8).bind fun x61 =>
 ((chk (decide (7 + (x54.length + (6 + (x57.length + (x59.length + x61.length)))) ≤ 140737488355328))).bind fun x62 =>
 some (((((([1] ++ [a0.a0, a0.a1, a0.a2, a0.a3, a0.a4, a0.a5]) ++ x54) ++ [a2.a0, a2.a1, a2.a2, a2.a3, a2.a4, a2.a5]) ++ x57) ++ x59) ++ x61))))))))))

def hotspotref39_Find_L4 (x19 : (Paths × Int)) (a1 : A6vu) (a2 : Int) : Nat → (List PathWanted × Bool × Int) → Option ((List PathWanted × Bool))
 | 0, _ => none
 | n10 + 1, d26 =>
  bif decide (d26.2.2 < ((x19.1.Wanted.length : Nat) : Int)) then
   ((
    bif (!d26.2.1) then
     ((idx x19.1.Wanted d26.2.2).bind fun x27 =>
     ((hotspotref23_Smaller a1 x27.Dest).bind fun x28 =>
     some x28))
    else
     some false).bind fun x29 =>
   ((
    bif x29 then
     ((chk (decide ((d26.1.length + 1) * 24 ≤ 140737488355328))).bind fun x31 =>
     some ((d26.1 ++ [{ PathWanted.z with Dest := a1, Due := IntKind.wrap .i64 (a2 + 100000), Tries := 1 }]), true))
    else
     some (d26.1, d26.2.1)).bind fun d30 =>
   ((idx x19.1.Wanted d26.2.2).bind fun x32 =>
   ((chk (decide ((d30.1.length + 1) * 24 ≤ 140737488355328))).bind fun x33 =>
   hotspotref39_Find_L4 x19 a1 a2 n10 ((d30.1 ++ [x32]), d30.2, IntKind.wrap .i64 (d26.2.2 + 1))))))
  else
   some (d26.1, d26.2.1)

def hotspotref39_Find (a0 : Paths) (a1 : A6vu) (a2 : Int) : Option (Paths × (List Sent) × Int) :=
 ((hotspotref39_before a0 a2).bind fun x19 =>
 bif (x19.2 != 0) then
  some (Paths.z, [], x19.2)
 else
  bif ((decide (a1 = x19.1.Own)) || (((a1.a0).tmod 2) == 1)) then
   some (Paths.z, [], 2)
  else
   ((hotspotref39_at x19.1 a1).bind fun x20 =>
   ((
    bif decide (0 ≤ x20) then
     ((idx x19.1.Routes x20).bind fun x21 =>
     some x21.Valid)
    else
     some false).bind fun x22 =>
   ((
    bif x22 then
     some true
    else
     ((hotspotref39_wanted x19.1 a1).bind fun x23 =>
     some x23)).bind fun x24 =>
   bif x24 then
    some (x19.1, [], 0)
   else
    bif ((decide (2147483647 ≤ x19.1.Seq)) || (decide (32 ≤ ((x19.1.Wanted.length : Nat) : Int)))) then
     some (Paths.z, [], 22)
    else
     ((
      hotspotref39_Find_L4 x19 a1 a2 big ([], false, 0)).bind fun d25 =>
     ((
      bif (!d25.2) then
       ((chk (decide ((d25.1.length + 1) * 24 ≤ 140737488355328))).bind fun x35 =>
       some (d25.1 ++ [{ PathWanted.z with Dest := a1, Due := IntKind.wrap .i64 (a2 + 100000), Tries := 1 }]))
      else
       some d25.1).bind fun d34 =>
     (hotspotref39_All.bind fun x36 =>
     ((hotspotref39_known { x19.1 with Seq := IntKind.wrap .i64 (x19.1.Seq + 1), Wanted := d34 } a1).bind fun x37 =>
     ((hotspotref39_Request x19.1.Own (IntKind.wrap .i64 (x19.1.Seq + 1)) a1 x37 0 0).bind fun x38 =>
     some ({ x19.1 with Seq := IntKind.wrap .i64 (x19.1.Seq + 1), Wanted := d34 }, [{ Sent.z with Data := x38, To := x36 }], 0))))))))))

def hotspotref39_Same_L2 (a0 : Paths) (a1 : Paths) : Nat → Int → Option (Ex Bool Unit)
 | 0, _ => none
 | n6 + 1, d42 =>
  bif decide (d42 < (a0.Routes.length : Int)) then
   ((idx a0.Routes d42).bind fun x43 =>
   ((idx a1.Routes d42).bind fun x44 =>
   bif (!decide (x43 = x44)) then
    some (Ex.ret false)
   else
    hotspotref39_Same_L2 a0 a1 n6 (IntKind.wrap .i64 (d42 + 1))))
  else
   some (Ex.go ())

def hotspotref39_Same_L5 (a0 : Paths) (a1 : Paths) : Nat → Int → Option (Ex Bool Unit)
 | 0, _ => none
 | n11 + 1, d47 =>
  bif decide (d47 < (a0.Wanted.length : Int)) then
   ((idx a0.Wanted d47).bind fun x48 =>
   ((idx a1.Wanted d47).bind fun x49 =>
   bif (!decide (x48 = x49)) then
    some (Ex.ret false)
   else
    hotspotref39_Same_L5 a0 a1 n11 (IntKind.wrap .i64 (d47 + 1))))
  else
   some (Ex.go ())

def hotspotref39_Same (a0 : Paths) (a1 : Paths) : Option Bool :=
 bif ((((!decide (a0.Own = a1.Own)) || (a0.Seq != a1.Seq)) || ((a0.Routes.length : Int) != (a1.Routes.length : Int))) || ((a0.Wanted.length : Int) != (a1.Wanted.length : Int))) then
  some false
 else
  ((
   hotspotref39_Same_L2 a0 a1 big 0).bind fun o41 =>
  (o41.k fun d40 =>
  ((
   hotspotref39_Same_L5 a0 a1 big 0).bind fun o46 =>
  (o46.k fun d45 =>
  some true))))

def hotspotref22_Same_L2 (a0 : (List Int)) (a1 : (List Int)) : Nat → Int → Option (Ex Bool Unit)
 | 0, _ => none
 | n3 + 1, d56 =>
  bif decide (d56 < (a0.length : Int)) then
   ((idx a0 d56).bind fun x57 =>
   ((idx a1 d56).bind fun x58 =>
   bif (x57 != x58) then
    some (Ex.ret false)
   else
    hotspotref22_Same_L2 a0 a1 n3 (IntKind.wrap .i64 (d56 + 1))))
  else
   some (Ex.go ())

def hotspotref22_Same (a0 : (List Int)) (a1 : (List Int)) : Option Bool :=
 bif ((a0.length : Int) != (a1.length : Int)) then
  some false
 else
  ((
   hotspotref22_Same_L2 a0 a1 big 0).bind fun o55 =>
  (o55.k fun d54 =>
  some true))

def hotspotref39_SameSent_L2 (a0 : (List Sent)) (a1 : (List Sent)) : Nat → Int → Option (Ex Bool Unit)
 | 0, _ => none
 | n3 + 1, d53 =>
  bif decide (d53 < (a0.length : Int)) then
   ((idx a0 d53).bind fun x54 =>
   ((idx a1 d53).bind fun x55 =>
   ((
    bif (!decide (x54.To = x55.To)) then
     some true
    else
     ((hotspotref22_Same x54.Data x55.Data).bind fun x56 =>
     some (!x56))).bind fun x57 =>
   bif x57 then
    some (Ex.ret false)
   else
    hotspotref39_SameSent_L2 a0 a1 n3 (IntKind.wrap .i64 (d53 + 1)))))
  else
   some (Ex.go ())

def hotspotref39_SameSent (a0 : (List Sent)) (a1 : (List Sent)) : Option Bool :=
 bif ((a0.length : Int) != (a1.length : Int)) then
  some false
 else
  ((
   hotspotref39_SameSent_L2 a0 a1 big 0).bind fun o52 =>
  (o52.k fun d51 =>
  some true))

def hotspotlaw39_touch_L2 : Nat → (List PathRoute × Int) → Option ((List PathRoute))
 | 0, _ => none
 | n2 + 1, d61 =>
  bif decide (d61.2 < ((d61.1.length : Nat) : Int)) then
   ((idx d61.1 d61.2).bind fun x62 =>
   hotspotlaw39_touch_L2 n2 ((d61.1.modify ((d61.2).toNat) fun y => { y with Seq := 77 }), IntKind.wrap .i64 (d61.2 + 1)))
  else
   some d61.1

def hotspotlaw39_touch_L5 : Nat → (List PathWanted × Int) → Option ((List PathWanted))
 | 0, _ => none
 | n8 + 1, d64 =>
  bif decide (d64.2 < ((d64.1.length : Nat) : Int)) then
   ((idx d64.1 d64.2).bind fun x65 =>
   hotspotlaw39_touch_L5 n8 ((d64.1.modify ((d64.2).toNat) fun y => { y with Tries := 77 }), IntKind.wrap .i64 (d64.2 + 1)))
  else
   some d64.1

def hotspotlaw39_touch (a0 : Paths) : Option (List PathRoute × List PathWanted) :=
 ((
  hotspotlaw39_touch_L2 big (a0.Routes, 0)).bind fun d60 =>
 ((
  hotspotlaw39_touch_L5 big (a0.Wanted, 0)).bind fun d63 =>
 some (d60, d63)))

def path_node_send_2 (a0 : A6vu) (a1 : (List Int)) (a2 : Path_node) : Option Unit :=
 ((chk (decide ((a2.out.length + 1) * 32 ≤ 140737488355328))).bind fun x80 =>
 some ())

def path_node_fail_B_L3 (a0 : (List PathRoute)) (a1 : Path_node) : Nat → (List Int × Int) → Option ((List Int))
 | 0, _ => none
 | n3 + 1, d77 =>
  bif decide (d77.2 < (a0.length : Int)) then
   ((idx a0 d77.2).bind fun x78 =>
   ((chk (decide (d77.1.length + 6 ≤ 140737488355328))).bind fun x79 =>
   ((path_put x78.Seq 4 (d77.1 ++ [x78.Dest.a0, x78.Dest.a1, x78.Dest.a2, x78.Dest.a3, x78.Dest.a4, x78.Dest.a5])).bind fun x80 =>
   path_node_fail_B_L3 a0 a1 n3 (x80, IntKind.wrap .i64 (d77.2 + 1)))))
  else
   some d77.1

def path_node_fail_B (a0 : (List PathRoute)) (a1 : Path_node) : Option (List Sent) :=
 ((
  ((
   path_node_fail_B_L3 a0 a1 big ([3, IntKind.wrap .u8 (a0.length : Int)], 0)).bind fun d76 =>
  ((path_node_send_2 gv0 d76 a1).bind fun x81 =>
  some (a1.out ++ [{ Sent.z with Data := d76, To := gv0 }])))).bind fun d75 =>
 some d75)

def chN : Nat → List PathRoute → List (List PathRoute)
 | 0, _ => []
 | n + 1, l => bif decide (0 < l.length) then l.take 16 :: chN n (l.drop 16) else []
def chL (l : List PathRoute) : List (List PathRoute) := chN l.length l
def failL : Path_node → List (List PathRoute) → Option (List Sent)
 | n, [] => some n.out
 | n, b :: l => (path_node_fail_B b n).bind fun o => failL { n with out := o } l
def path_node_fail (a0 : Path_node) (a1 : List PathRoute) : Option (List Sent) :=
 (chk (decide (a1.length ≤ 100000))).bind fun _ => failL { a0 with out := [] } (chL a1)

def path_Broken_L3 (x67 : (List PathRoute × List PathWanted)) (a1 : A6vu) : Nat → (List PathRoute × List PathRoute × Int) → Option ((List PathRoute × List PathRoute))
 | 0, _ => none
 | n3 + 1, d69 =>
  bif decide (d69.2.2 < ((x67.1.length : Nat) : Int)) then
   ((idx d69.1 d69.2.2).bind fun x70 =>
   bif (x70.Valid && (decide (x70.Next = a1))) then
    ((path_spoil d69.2.2 d69.1).bind fun x71 =>
    ((chk (decide (x71.length = d69.1.length))).bind fun x72 =>
    ((idx x71 d69.2.2).bind fun x73 =>
    ((chk (decide ((d69.2.1.length + 1) * 48 ≤ 140737488355328))).bind fun x74 =>
    path_Broken_L3 x67 a1 n3 (x71, (d69.2.1 ++ [x73]), IntKind.wrap .i64 (d69.2.2 + 1))))))
   else
    path_Broken_L3 x67 a1 n3 (d69.1, d69.2.1, IntKind.wrap .i64 (d69.2.2 + 1)))
  else
   some (d69.1, d69.2.1)

def path_Broken (a0 : Paths) (a1 : A6vu) (a2 : Int) : Option (Paths × (List Sent) × Int) :=
 bif (path_begun a0 a2).isSome then
  ((path_begun a0 a2).bind fun x67 =>
  ((
   path_Broken_L3 x67 a1 big (x67.1, [], 0)).bind fun d68 =>
  ((path_node_fail { Path_node.z with Paths := { a0 with Routes := d68.1, Wanted := x67.2 }, now := a2, out := [] } d68.2).bind fun x75 =>
  some ({ a0 with Routes := d68.1, Wanted := x67.2 }, x75, 0))))
 else
  ((path_begun_2 a0 a2).bind fun x76 =>
  bif (x76 != 0) then
   some (Paths.z, [], x76)
  else
   none)

def hotspotref39_Failure_L2 (a0 : (List PathRoute)) : Nat → (List Int × Int) → Option ((List Int))
 | 0, _ => none
 | n2 + 1, d85 =>
  bif decide (d85.2 < (a0.length : Int)) then
   ((idx a0 d85.2).bind fun x86 =>
   ((chk (decide (d85.1.length + 6 ≤ 140737488355328))).bind fun x87 =>
   ((hotspotref39_low x86.Seq 4).bind fun x88 =>
   ((chk (decide (d85.1.length + (6 + x88.length) ≤ 140737488355328))).bind fun x89 =>
   hotspotref39_Failure_L2 a0 n2 (((d85.1 ++ [x86.Dest.a0, x86.Dest.a1, x86.Dest.a2, x86.Dest.a3, x86.Dest.a4, x86.Dest.a5]) ++ x88), IntKind.wrap .i64 (d85.2 + 1))))))
  else
   some d85.1

def hotspotref39_Failure (a0 : (List PathRoute)) : Option (List Int) :=
 ((
  hotspotref39_Failure_L2 a0 big ([3, IntKind.wrap .u8 (a0.length : Int)], 0)).bind fun d84 =>
 some d84)

def hotspotref39_Broken_L3 (a1 : A6vu) : Nat → (List PathRoute × List PathRoute × List Sent × Int) → Option ((List PathRoute × List Sent))
 | 0, _ => none
 | n3 + 1, d80 =>
  bif decide (d80.2.2.2 < ((d80.1.length : Nat) : Int)) then
   ((idx d80.1 d80.2.2.2).bind fun x81 =>
   ((
    bif (x81.Valid && (decide (x81.Next = a1))) then
     ((hotspotref39_gone x81).bind fun x83 =>
     ((chk (decide ((d80.2.1.length + 1) * 48 ≤ 140737488355328))).bind fun x84 =>
     some ((d80.1.set ((d80.2.2.2).toNat) x83), (d80.2.1 ++ [x83]))))
    else
     some (d80.1, d80.2.1)).bind fun d82 =>
   bif ((((d82.2.length : Nat) : Int) == 16) || ((decide (0 < ((d82.2.length : Nat) : Int))) && (d80.2.2.2 == (IntKind.wrap .i64 (((d82.1.length : Nat) : Int) - 1))))) then
    (hotspotref39_All.bind fun x85 =>
    ((hotspotref39_Failure d82.2).bind fun x86 =>
    ((chk (decide ((d80.2.2.1.length + 1) * 32 ≤ 140737488355328))).bind fun x87 =>
    hotspotref39_Broken_L3 a1 n3 (d82.1, [], (d80.2.2.1 ++ [{ Sent.z with Data := x86, To := x85 }]), IntKind.wrap .i64 (d80.2.2.2 + 1)))))
   else
    hotspotref39_Broken_L3 a1 n3 (d82.1, d82.2, d80.2.2.1, IntKind.wrap .i64 (d80.2.2.2 + 1))))
  else
   some (d80.1, d80.2.2.1)

def hotspotref39_Broken (a0 : Paths) (a1 : A6vu) (a2 : Int) : Option (Paths × (List Sent) × Int) :=
 ((hotspotref39_before a0 a2).bind fun x78 =>
 bif (x78.2 != 0) then
  some (Paths.z, [], x78.2)
 else
  ((
   hotspotref39_Broken_L3 a1 big (x78.1.Routes, [], [], 0)).bind fun d79 =>
  some ({ x78.1 with Routes := d79.1 }, d79.2, 0)))

def path_node_send_3 (a0 : A6vu) (a1 : (List Int)) (a2 : Path_node) : Option Unit :=
 some ()

def path_node_ask_2 (a0 : A6vu) (a1 : Path_node) : Option (List Sent) :=
 ((path_node_known { a1 with Paths.Seq := IntKind.wrap .i64 (a1.Paths.Seq + 1), Paths.Wanted := [], out := [] } a0).bind fun x96 =>
 ((path_asked_bytes { Path_asked.z with dest := a0, known := x96, origin := a1.Paths.Own, seq := IntKind.wrap .i64 (a1.Paths.Seq + 1) }).bind fun x97 =>
 ((path_node_send_3 gv0 x97 { a1 with Paths.Seq := IntKind.wrap .i64 (a1.Paths.Seq + 1), Paths.Wanted := [], out := [] }).bind fun x98 =>
 some [{ Sent.z with Data := x97, To := gv0 }])))

def path_node_ask_3 (a0 : A6vu) (a1 : Path_node) : Option (List Sent) :=
 ((path_node_known { a1 with Paths.Seq := IntKind.wrap .i64 (a1.Paths.Seq + 1) } a0).bind fun x96 =>
 ((path_asked_bytes { Path_asked.z with dest := a0, known := x96, origin := a1.Paths.Own, seq := IntKind.wrap .i64 (a1.Paths.Seq + 1) }).bind fun x97 =>
 ((path_node_send_2 gv0 x97 { a1 with Paths.Seq := IntKind.wrap .i64 (a1.Paths.Seq + 1) }).bind fun x98 =>
 some (a1.out ++ [{ Sent.z with Data := x97, To := gv0 }]))))

def path_Tick_L3 (x93 : (List PathRoute × List PathWanted)) (a1 : Int) : Nat → (Path_node × List PathWanted × List Sent × Int) → Option ((Path_node × List PathWanted × List Sent))
 | 0, _ => none
 | n3 + 1, d95 =>
  bif decide (d95.2.2.2 < ((x93.2.length : Nat) : Int)) then
   ((idx x93.2 d95.2.2.2).bind fun x96 =>
   bif ((decide (x96.Due ≤ a1)) && ((x96.Tries == 3) || (d95.1.Paths.Seq == 2147483647))) then
    path_Tick_L3 x93 a1 n3 (d95.1, d95.2.1, d95.2.2.1, IntKind.wrap .i64 (d95.2.2.2 + 1))
   else
    ((
     bif decide (x96.Due ≤ a1) then
      ((path_node_ask_3 x96.Dest { d95.1 with Paths.Routes := x93.1, Paths.Wanted := d95.2.1, out := d95.2.2.1 }).bind fun x98 =>
      some ({ { d95.1 with Paths.Routes := x93.1, Paths.Wanted := d95.2.1, out := d95.2.2.1 } with Paths.Seq := IntKind.wrap .i64 (d95.1.Paths.Seq + 1) }, x98, { x96 with Due := IntKind.wrap .i64 (a1 + 100000), Tries := IntKind.wrap .i64 (x96.Tries + 1) }))
     else
      some (d95.1, d95.2.2.1, x96)).bind fun d97 =>
    ((chk (decide ((d95.2.1.length + 1) * 24 ≤ 140737488355328))).bind fun x99 =>
    path_Tick_L3 x93 a1 n3 (d97.1, (d95.2.1 ++ [d97.2.2]), d97.2.1, IntKind.wrap .i64 (d95.2.2.2 + 1)))))
  else
   some (d95.1, d95.2.1, d95.2.2.1)

def path_Tick (a0 : Paths) (a1 : Int) : Option (Paths × (List Sent) × Int) :=
 bif (path_begun a0 a1).isSome then
  ((path_begun a0 a1).bind fun x93 =>
  ((
   path_Tick_L3 x93 a1 big ({ Path_node.z with Paths := { a0 with Wanted := [] }, now := a1, out := [] }, [], [], 0)).bind fun d94 =>
  some ({ d94.1.Paths with Routes := x93.1, Wanted := d94.2.1 }, d94.2.2, 0)))
 else
  ((path_begun_2 a0 a1).bind fun x100 =>
  bif (x100 != 0) then
   some (Paths.z, [], x100)
  else
   none)

def hotspotref39_Tick_L3 (x102 : (Paths × Int)) (a1 : Int) : Nat → (Paths × List Sent × List PathWanted × Int) → Option ((Paths × List Sent × List PathWanted))
 | 0, _ => none
 | n3 + 1, d104 =>
  bif decide (d104.2.2.2 < ((x102.1.Wanted.length : Nat) : Int)) then
   ((idx x102.1.Wanted d104.2.2.2).bind fun x105 =>
   bif decide (a1 < x105.Due) then
    ((chk (decide ((d104.2.2.1.length + 1) * 24 ≤ 140737488355328))).bind fun x106 =>
    hotspotref39_Tick_L3 x102 a1 n3 (d104.1, d104.2.1, (d104.2.2.1 ++ [x105]), IntKind.wrap .i64 (d104.2.2.2 + 1)))
   else
    bif ((decide (3 ≤ x105.Tries)) || (decide (2147483647 ≤ d104.1.Seq))) then
     hotspotref39_Tick_L3 x102 a1 n3 (d104.1, d104.2.1, d104.2.2.1, IntKind.wrap .i64 (d104.2.2.2 + 1))
    else
     ((chk (decide ((d104.2.2.1.length + 1) * 24 ≤ 140737488355328))).bind fun x107 =>
     (hotspotref39_All.bind fun x108 =>
     ((hotspotref39_known { d104.1 with Routes := x102.1.Routes, Seq := IntKind.wrap .i64 (d104.1.Seq + 1), Wanted := x102.1.Wanted } x105.Dest).bind fun x109 =>
     ((hotspotref39_Request d104.1.Own (IntKind.wrap .i64 (d104.1.Seq + 1)) x105.Dest x109 0 0).bind fun x110 =>
     ((chk (decide ((d104.2.1.length + 1) * 32 ≤ 140737488355328))).bind fun x111 =>
     hotspotref39_Tick_L3 x102 a1 n3 ({ d104.1 with Seq := IntKind.wrap .i64 (d104.1.Seq + 1) }, (d104.2.1 ++ [{ Sent.z with Data := x110, To := x108 }]), (d104.2.2.1 ++ [{ x105 with Due := IntKind.wrap .i64 (a1 + 100000), Tries := IntKind.wrap .i64 (x105.Tries + 1) }]), IntKind.wrap .i64 (d104.2.2.2 + 1))))))))
  else
   some (d104.1, d104.2.1, d104.2.2.1)

def hotspotref39_Tick (a0 : Paths) (a1 : Int) : Option (Paths × (List Sent) × Int) :=
 ((hotspotref39_before a0 a1).bind fun x102 =>
 bif (x102.2 != 0) then
  some (Paths.z, [], x102.2)
 else
  ((
   hotspotref39_Tick_L3 x102 a1 big (x102.1, [], [], 0)).bind fun d103 =>
  some ({ d103.1 with Routes := x102.1.Routes, Wanted := d103.2.2 }, d103.2.1, 0)))

def path_Next (a0 : Paths) (a1 : A6vu) (a2 : Int) : Option (A6vu × Int) :=
 bif (path_begun a0 a2).isSome then
  ((path_begun a0 a2).bind fun x117 =>
  ((path_node_route { Path_node.z with Paths := { a0 with Routes := x117.1, Wanted := x117.2 }, now := a2, out := [] } a1).bind fun x118 =>
  ((
   bif (!x118.2) then
    some true
   else
    ((idx x117.1 x118.1).bind fun x119 =>
    some (!x119.Valid))).bind fun x120 =>
  bif x120 then
   some (A6vu.z, 6)
  else
   ((idx x117.1 x118.1).bind fun x121 =>
   some (x121.Next, 0)))))
 else
  ((path_begun_2 a0 a2).bind fun x122 =>
  bif (x122 != 0) then
   some (A6vu.z, x122)
  else
   none)

def hotspotref39_Next (a0 : Paths) (a1 : A6vu) (a2 : Int) : Option (A6vu × Int) :=
 ((hotspotref39_before a0 a2).bind fun x124 =>
 bif (x124.2 != 0) then
  some (A6vu.z, x124.2)
 else
  ((hotspotref39_at x124.1 a1).bind fun x125 =>
  ((
   bif decide (x125 < 0) then
    some true
   else
    ((idx x124.1.Routes x125).bind fun x126 =>
    some (!x126.Valid))).bind fun x127 =>
  bif x127 then
   some (A6vu.z, 6)
  else
   ((idx x124.1.Routes x125).bind fun x128 =>
   some (x128.Next, 0)))))

def slices_Equal_api_PathRoute_api_PathRoute_L2 (a0 : (List PathRoute)) (a1 : (List PathRoute)) : Nat → Int → Option (Ex Bool Unit)
 | 0, _ => none
 | n3 + 1, d137 =>
  bif decide (d137 < (a0.length : Int)) then
   ((idx a0 d137).bind fun x138 =>
   ((idx a1 d137).bind fun x139 =>
   bif (!decide (x138 = x139)) then
    some (Ex.ret false)
   else
    slices_Equal_api_PathRoute_api_PathRoute_L2 a0 a1 n3 (IntKind.wrap .i64 (d137 + 1))))
  else
   some (Ex.go ())

def slices_Equal_api_PathRoute_api_PathRoute (a0 : (List PathRoute)) (a1 : (List PathRoute)) : Option Bool :=
 bif ((a0.length : Int) != (a1.length : Int)) then
  some false
 else
  ((
   slices_Equal_api_PathRoute_api_PathRoute_L2 a0 a1 big 0).bind fun o136 =>
  (o136.k fun d135 =>
  some true))

def slices_Equal_api_PathWanted_api_PathWanted_L2 (a0 : (List PathWanted)) (a1 : (List PathWanted)) : Nat → Int → Option (Ex Bool Unit)
 | 0, _ => none
 | n3 + 1, d144 =>
  bif decide (d144 < (a0.length : Int)) then
   ((idx a0 d144).bind fun x145 =>
   ((idx a1 d144).bind fun x146 =>
   bif (!decide (x145 = x146)) then
    some (Ex.ret false)
   else
    slices_Equal_api_PathWanted_api_PathWanted_L2 a0 a1 n3 (IntKind.wrap .i64 (d144 + 1))))
  else
   some (Ex.go ())

def slices_Equal_api_PathWanted_api_PathWanted (a0 : (List PathWanted)) (a1 : (List PathWanted)) : Option Bool :=
 bif ((a0.length : Int) != (a1.length : Int)) then
  some false
 else
  ((
   slices_Equal_api_PathWanted_api_PathWanted_L2 a0 a1 big 0).bind fun o143 =>
  (o143.k fun d142 =>
  some true))

def path_Same (a0 : Paths) (a1 : Paths) : Option Bool :=
 ((
  bif ((decide (a0.Own = a1.Own)) && (a0.Seq == a1.Seq)) then
   ((slices_Equal_api_PathRoute_api_PathRoute a0.Routes a1.Routes).bind fun x135 =>
   some x135)
  else
   some false).bind fun x136 =>
 ((
  bif x136 then
   ((slices_Equal_api_PathWanted_api_PathWanted a0.Wanted a1.Wanted).bind fun x137 =>
   some x137)
  else
   some false).bind fun x138 =>
 some x138))

def hotspotlaw39_PathMatches (a0 : Paths) (a1 : A6vu) (a2 : Int) : Option Bool :=
 ((hotspotref39_Great a0).bind fun x1 =>
 bif x1 then
  some true
 else
  ((hotspotref39_Twin a0).bind fun x2 =>
  ((path_Find x2 a1 a2).bind fun x3 =>
  ((hotspotref39_Find a0 a1 a2).bind fun x4 =>
  ((hotspotref39_Same x3.1 x4.1).bind fun x5 =>
  ((
   bif (!x5) then
    some true
   else
    ((hotspotref39_SameSent x3.2.1 x4.2.1).bind fun x6 =>
    some (!x6))).bind fun x7 =>
  bif (x7 || (x3.2.2 != x4.2.2)) then
   some false
  else
   ((hotspotlaw39_touch x3.1).bind fun x8 =>
   ((path_Broken x2 a1 a2).bind fun x9 =>
   ((hotspotref39_Broken a0 a1 a2).bind fun x10 =>
   ((hotspotref39_Same x9.1 x10.1).bind fun x11 =>
   ((
    bif (!x11) then
     some true
    else
     ((hotspotref39_SameSent x9.2.1 x10.2.1).bind fun x12 =>
     some (!x12))).bind fun x13 =>
   bif (x13 || (x9.2.2 != x10.2.2)) then
    some false
   else
    ((hotspotlaw39_touch x9.1).bind fun x14 =>
    ((path_Tick x2 a2).bind fun x15 =>
    ((hotspotref39_Tick a0 a2).bind fun x16 =>
    ((hotspotref39_Same x15.1 x16.1).bind fun x17 =>
    ((
     bif (!x17) then
      some true
     else
      ((hotspotref39_SameSent x15.2.1 x16.2.1).bind fun x18 =>
      some (!x18))).bind fun x19 =>
    bif (x19 || (x15.2.2 != x16.2.2)) then
     some false
    else
     ((hotspotlaw39_touch x15.1).bind fun x20 =>
     ((path_Next x2 a1 a2).bind fun x21 =>
     ((hotspotref39_Next a0 a1 a2).bind fun x22 =>
     ((
      bif ((decide (x21.1 = x22.1)) && (x21.2 == x22.2)) then
       ((path_Check x2).bind fun x23 =>
       ((hotspotref39_Check a0).bind fun x24 =>
       some (x23 == x24)))
      else
       some false).bind fun x25 =>
     ((
      bif x25 then
       ((hotspotref39_Same x2 a0).bind fun x26 =>
       some x26)
      else
       some false).bind fun x27 =>
     ((
      bif x27 then
       ((path_Same x2 a0).bind fun x28 =>
       some x28)
      else
       some false).bind fun x29 =>
     some x29))))))))))))))))))))))

end Go.AX.Z.TO

/-! (TOF) -/

namespace Go.AX.Z.TO
open Go.AX Go.Proofs

/-- The types that are compared by their cells. -/
def tab : List (TypeId × List (Option IntKind)) :=
 [(23, [some .u8, some .u8, some .u8, some .u8, some .u8, some .u8]),
  (55, [some .u8, some .u8, some .u8, some .u8, some .u8, some .u8, some .i64, none, some .u8, some .u8, some .u8, some .u8, some .u8, some .u8, some .i64, some .i64, some .i64]),
  (60, [some .u8, some .u8, some .u8, some .u8, some .u8, some .u8, some .i64, some .i64])]

noncomputable def K : Ctx := ⟨Tryd.prog, fun g => if g = 0 then some [.int .u8 255, .int .u8 255, .int .u8 255, .int .u8 255, .int .u8 255, .int .u8 255] else none, tabK tab⟩

theorem gv0_e : e_A6vu gv0 = List.map .v [.int .u8 255, .int .u8 255, .int .u8 255, .int .u8 255, .int .u8 255, .int .u8 255] := rfl
theorem gt0 : K.gt 0 = some [.int .u8 255, .int .u8 255, .int .u8 255, .int .u8 255, .int .u8 255, .int .u8 255] := rfl
theorem ag23 : agB K.P 23 = some true := by kernel_rfl
theorem ag24 : agB K.P 24 = some false := by kernel_rfl
theorem ag25 : agB K.P 25 = some false := by kernel_rfl
theorem ag27 : agB K.P 27 = some true := by kernel_rfl
theorem ag3 : agB K.P 3 = some false := by kernel_rfl
theorem ag30 : agB K.P 30 = some false := by kernel_rfl
theorem ag4 : agB K.P 4 = some false := by kernel_rfl
theorem ag48 : agB K.P 48 = some false := by kernel_rfl
theorem ag5 : agB K.P 5 = some false := by kernel_rfl
theorem ag55 : agB K.P 55 = some true := by kernel_rfl
theorem ag60 : agB K.P 60 = some true := by kernel_rfl
theorem ag68 : agB K.P 68 = some false := by kernel_rfl
theorem ar23 : arE K.P 23 = some (6, 5) := by kernel_rfl
theorem bl23 : bldS K.P 23 = none := by kernel_rfl
theorem bl27 : bldS K.P 27 = some [(0, 6), (6, 1), (7, 1), (8, 1)] := by kernel_rfl
theorem bl55 : bldS K.P 55 = some [(0, 6), (6, 1), (7, 1), (8, 6), (14, 1), (15, 1), (16, 1)] := by kernel_rfl
theorem bl57 : bldS K.P 57 = some [(0, 9), (9, 1), (10, 1)] := by kernel_rfl
theorem bl60 : bldS K.P 60 = some [(0, 6), (6, 1), (7, 1)] := by kernel_rfl
theorem bl71 : bldS K.P 71 = some [(0, 6), (6, 1)] := by kernel_rfl
theorem bl93 : bldS K.P 93 = some [(0, 6), (6, 6), (12, 1), (13, 1), (14, 1), (15, 1)] := by kernel_rfl
theorem by5 : byOf K.P 5 = some 1 := by kernel_rfl
theorem by55 : byOf K.P 55 = some 48 := by kernel_rfl
theorem by60 : byOf K.P 60 = some 24 := by kernel_rfl
theorem by71 : byOf K.P 71 = some 32 := by kernel_rfl
theorem ek23 : K.eqk 23 = some [some .u8, some .u8, some .u8, some .u8, some .u8, some .u8] := by kernel_rfl
theorem ek55 : K.eqk 55 = some [some .u8, some .u8, some .u8, some .u8, some .u8, some .u8, some .i64, none, some .u8, some .u8, some .u8, some .u8, some .u8, some .u8, some .i64, some .i64, some .i64] := by kernel_rfl
theorem ek60 : K.eqk 60 = some [some .u8, some .u8, some .u8, some .u8, some .u8, some .u8, some .i64, some .i64] := by kernel_rfl
theorem el24 : elS K.P 24 = some 55 := by kernel_rfl
theorem el25 : elS K.P 25 = some 60 := by kernel_rfl
theorem el30 : elS K.P 30 = some 71 := by kernel_rfl
theorem el68 : elS K.P 68 = some 5 := by kernel_rfl
theorem eln3 : elS K.P 3 = none := by kernel_rfl
theorem fl27_0 : flE K.P 27 0 = some (0, 23) := by kernel_rfl
theorem fl27_1 : flE K.P 27 1 = some (6, 3) := by kernel_rfl
theorem fl27_2 : flE K.P 27 2 = some (7, 24) := by kernel_rfl
theorem fl27_3 : flE K.P 27 3 = some (8, 25) := by kernel_rfl
theorem fl55_0 : flE K.P 55 0 = some (0, 23) := by kernel_rfl
theorem fl55_1 : flE K.P 55 1 = some (6, 3) := by kernel_rfl
theorem fl55_2 : flE K.P 55 2 = some (7, 4) := by kernel_rfl
theorem fl55_3 : flE K.P 55 3 = some (8, 23) := by kernel_rfl
theorem fl55_4 : flE K.P 55 4 = some (14, 3) := by kernel_rfl
theorem fl55_5 : flE K.P 55 5 = some (15, 3) := by kernel_rfl
theorem fl55_6 : flE K.P 55 6 = some (16, 3) := by kernel_rfl
theorem fl57_0 : flE K.P 57 0 = some (0, 27) := by kernel_rfl
theorem fl57_2 : flE K.P 57 2 = some (10, 30) := by kernel_rfl
theorem fl60_0 : flE K.P 60 0 = some (0, 23) := by kernel_rfl
theorem fl60_1 : flE K.P 60 1 = some (6, 3) := by kernel_rfl
theorem fl60_2 : flE K.P 60 2 = some (7, 3) := by kernel_rfl
theorem fl71_0 : flE K.P 71 0 = some (0, 23) := by kernel_rfl
theorem fl71_1 : flE K.P 71 1 = some (6, 68) := by kernel_rfl
theorem fl93_0 : flE K.P 93 0 = some (0, 23) := by kernel_rfl
theorem fl93_1 : flE K.P 93 1 = some (6, 23) := by kernel_rfl
theorem fl93_2 : flE K.P 93 2 = some (12, 3) := by kernel_rfl
theorem fl93_3 : flE K.P 93 3 = some (13, 3) := by kernel_rfl
theorem fl93_4 : flE K.P 93 4 = some (14, 3) := by kernel_rfl
theorem fl93_5 : flE K.P 93 5 = some (15, 3) := by kernel_rfl
theorem in101 : inK K.P 101 = some .u64 := by kernel_rfl
theorem in3 : inK K.P 3 = some .i64 := by kernel_rfl
theorem in5 : inK K.P 5 = some .u8 := by kernel_rfl
theorem sz23 : szOf K.P 23 = some 6 := by kernel_rfl
theorem sz24 : szOf K.P 24 = some 1 := by kernel_rfl
theorem sz25 : szOf K.P 25 = some 1 := by kernel_rfl
theorem sz27 : szOf K.P 27 = some 9 := by kernel_rfl
theorem sz3 : szOf K.P 3 = some 1 := by kernel_rfl
theorem sz30 : szOf K.P 30 = some 1 := by kernel_rfl
theorem sz4 : szOf K.P 4 = some 1 := by kernel_rfl
theorem sz48 : szOf K.P 48 = some 1 := by kernel_rfl
theorem sz5 : szOf K.P 5 = some 1 := by kernel_rfl
theorem sz55 : szOf K.P 55 = some 17 := by kernel_rfl
theorem sz60 : szOf K.P 60 = some 8 := by kernel_rfl
theorem sz68 : szOf K.P 68 = some 1 := by kernel_rfl
theorem sz71 : szOf K.P 71 = some 7 := by kernel_rfl
theorem un101 : K.P.underlying 101 = some (.int .u64) := by kernel_rfl
theorem un23 : K.P.underlying 23 = some (.array 6 5) := by kernel_rfl
theorem un24 : K.P.underlying 24 = some (.slice 55) := by kernel_rfl
theorem un25 : K.P.underlying 25 = some (.slice 60) := by kernel_rfl
theorem un3 : K.P.underlying 3 = some (.int .i64) := by kernel_rfl
theorem un30 : K.P.underlying 30 = some (.slice 71) := by kernel_rfl
theorem un68 : K.P.underlying 68 = some (.slice 5) := by kernel_rfl
theorem ze23 : zer K.P 23 = some (e_A6vu A6vu.z) := by kernel_rfl
theorem ze27 : zer K.P 27 = some (e_Paths Paths.z vnil vnil) := by kernel_rfl
theorem ze5 : zer K.P 5 = some [.v (.int .u8 0)] := by kernel_rfl
theorem ze55 : zer K.P 55 = some (e_PathRoute PathRoute.z) := by kernel_rfl
theorem ze57 : zer K.P 57 = some (e_Path_node Path_node.z vnil vnil vnil) := by kernel_rfl
theorem ze60 : zer K.P 60 = some (e_PathWanted PathWanted.z) := by kernel_rfl
theorem ze71 : zer K.P 71 = some (e_Sent Sent.z vnil) := by kernel_rfl
theorem ze93 : zer K.P 93 = some (e_Path_asked Path_asked.z) := by kernel_rfl
attribute [go_sem] ag23 ag24 ag25 ag27 ag3 ag30 ag4 ag48 ag5 ag55 ag60 ag68 ar23 bl23 bl27 bl55 bl57 bl60 bl71 bl93 by5 by55 by60 by71 ek23 ek55 ek60 el24 el25 el30 el68 eln3 fl27_0 fl27_1 fl27_2 fl27_3 fl55_0 fl55_1 fl55_2 fl55_3 fl55_4 fl55_5 fl55_6 fl57_0 fl57_2 fl60_0 fl60_1 fl60_2 fl71_0 fl71_1 fl93_0 fl93_1 fl93_2 fl93_3 fl93_4 fl93_5 in101 in3 in5 sz23 sz24 sz25 sz27 sz3 sz30 sz4 sz48 sz5 sz55 sz60 sz68 sz71 un101 un23 un24 un25 un3 un30 un68 ze23 ze27 ze5 ze55 ze57 ze60 ze71 ze93
theorem mixed : K.P.follows .mixedOrders = true := by kernel_rfl
theorem hC : COk K := ⟨EqOk.of_tab (tab := tab) rfl (by kernel_rfl), mixed⟩
theorem rs4 : Tryd.f4.results = #[.tmp 2] := rfl
theorem rs5 : Tryd.f5.results = #[.cell 2 27] := rfl
theorem rs38 : Tryd.f38.results = #[.tmp 6] := rfl
theorem rs39 : Tryd.f39.results = #[.tmp 4] := rfl
theorem rs57 : Tryd.f57.results = #[.tmp 4] := rfl
theorem rs40 : Tryd.f40.results = #[.tmp 4] := rfl
theorem rs17 : Tryd.f17.results = #[.tmp 2] := rfl
theorem rs43 : Tryd.f43.results = #[.tmp 2] := rfl
theorem rs44 : Tryd.f44.results = #[.tmp 2] := rfl
theorem rs34 : Tryd.f34.results = #[] := rfl
theorem rs20 : Tryd.f20.results = #[.tmp 4, .tmp 5] := rfl
theorem rs21 : Tryd.f21.results = #[.tmp 2] := rfl
theorem rs46 : Tryd.f46.results = #[.tmp 4] := rfl
theorem rs45 : Tryd.f45.results = #[.tmp 6, .tmp 7] := rfl
theorem rs22 : Tryd.f22.results = #[.tmp 4, .tmp 5] := rfl
theorem rs48 : Tryd.f48.results = #[.tmp 4] := rfl
theorem rs47 : Tryd.f47.results = #[.tmp 6, .tmp 7] := rfl
theorem rs23 : Tryd.f23.results = #[.tmp 4, .tmp 5] := rfl
theorem rs24 : Tryd.f24.results = #[.tmp 6] := rfl
theorem rs52 : Tryd.f52.results = #[.tmp 4] := rfl
theorem rs56 : Tryd.f56.results = #[.tmp 6] := rfl
theorem rs53 : Tryd.f53.results = #[.tmp 2] := rfl
theorem rs51 : Tryd.f51.results = #[] := rfl
theorem rs25 : Tryd.f25.results = #[] := rfl
theorem rs6 : Tryd.f6.results = #[.cell 6 27, .tmp 7, .tmp 8] := rfl
theorem rs29 : Tryd.f29.results = #[.tmp 4] := rfl
theorem rs18 : Tryd.f18.results = #[.tmp 2] := rfl
theorem rs36 : Tryd.f36.results = #[.cell 2 55] := rfl
theorem rs26 : Tryd.f26.results = #[.cell 4 27, .tmp 5] := rfl
theorem rs27 : Tryd.f27.results = #[.tmp 4] := rfl
theorem rs28 : Tryd.f28.results = #[.tmp 4] := rfl
theorem rs30 : Tryd.f30.results = #[.cell 0 23] := rfl
theorem rs32 : Tryd.f32.results = #[.tmp 4] := rfl
theorem rs54 : Tryd.f54.results = #[.tmp 4] := rfl
theorem rs31 : Tryd.f31.results = #[.tmp 12] := rfl
theorem rs7 : Tryd.f7.results = #[.cell 6 27, .tmp 7, .tmp 8] := rfl
theorem rs8 : Tryd.f8.results = #[.tmp 4] := rfl
theorem rs33 : Tryd.f33.results = #[.tmp 4] := rfl
theorem rs9 : Tryd.f9.results = #[.tmp 4] := rfl
theorem rs10 : Tryd.f10.results = #[] := rfl
theorem rs35 : Tryd.f35.results = #[] := rfl
theorem rs11 : Tryd.f11.results = #[.cell 6 27, .tmp 7, .tmp 8] := rfl
theorem rs37 : Tryd.f37.results = #[.tmp 2] := rfl
theorem rs12 : Tryd.f12.results = #[.cell 6 27, .tmp 7, .tmp 8] := rfl
theorem rs13 : Tryd.f13.results = #[.cell 4 27, .tmp 5, .tmp 6] := rfl
theorem rs14 : Tryd.f14.results = #[.cell 4 27, .tmp 5, .tmp 6] := rfl
theorem rs15 : Tryd.f15.results = #[.cell 6 23, .tmp 7] := rfl
theorem rs16 : Tryd.f16.results = #[.cell 6 23, .tmp 7] := rfl
theorem rs41 : Tryd.f41.results = #[.tmp 4] := rfl
theorem rs42 : Tryd.f42.results = #[.tmp 4] := rfl
theorem rs19 : Tryd.f19.results = #[.tmp 4] := rfl
theorem rs3 : Tryd.f3.results = #[.tmp 6] := rfl

end Go.AX.Z.TO
