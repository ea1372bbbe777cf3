/- A part of the proof: the types, the facts of the program and the functions, read plainly. -/
import Derived.Test.YtkheccnpikfalaaCorec
import Derived.Test.YtkheccnpikfalaaProg
import Derived.KernelRfl
set_option linter.unusedVariables false
set_option linter.unusedSimpArgs false

/-! (TBS) -/

set_option linter.unusedSimpArgs false
set_option linter.unusedVariables false
namespace Go.AX.Z.TB
open Go.AX
structure Traffic where
  Group : Bool
  Aids : (List Int)
  deriving DecidableEq

def Traffic.z : Traffic := ⟨false, []⟩

def e_Traffic (x : Traffic) (s0 : AV) : List AV := [vb x.Group, s0]

theorem e_Traffic_len (x : Traffic) (s0 : AV) : (e_Traffic x s0).length = 2 := by rfl
theorem e_Traffic_sub (x : Traffic) (s0 : AV) : sub? (e_Traffic x s0) 0 2 = some (e_Traffic x s0) := by rfl
theorem e_Traffic_take (x : Traffic) (s0 : AV) : (e_Traffic x s0).take 2 = (e_Traffic x s0) := by rfl
theorem e_Traffic_all (x : Traffic) (s0 : AV) (y : Traffic) (s02 : AV) : putAt (e_Traffic x s0) 0 (e_Traffic y s02) = e_Traffic y s02 := by rfl
theorem e_Traffic_g_Group (x : Traffic) (s0 : AV) : (e_Traffic x s0)[0]? = some (vb x.Group) := by rfl
theorem e_Traffic_s_Group (x : Traffic) (s0 : AV) (v : Bool) : (e_Traffic x s0).set 0 (vb v) = e_Traffic { x with Group := v } s0 := by rfl
theorem e_Traffic_g_Aids (x : Traffic) (s0 : AV) : (e_Traffic x s0)[1]? = some s0 := by rfl
theorem e_Traffic_s_Aids (x : Traffic) (s0 : AV) (v : AV) : (e_Traffic x s0).set 1 v = e_Traffic x v := by rfl
theorem e_Traffic_fz (x : Traffic) (s0 : AV) (o : Nat → Ob) (n : Nat) : (e_Traffic x s0).map (fz o (n + 1)) = e_Traffic x (fz o (n + 1) s0) := by rfl
theorem e_Traffic_reach (x : Traffic) (s0 : AV) (o : Nat → Ob) (n : Nat) : (e_Traffic x s0).flatMap (reach o (n + 1)) = reach o (n + 1) s0 := by
  simp only [e_Traffic, List.cons_append, List.nil_append, List.append_nil, List.flatMap_cons, List.flatMap_nil, reach_v]
theorem e_Traffic_clean (x : Traffic) (s0 : AV) (h_s0 : Clean s0) : ∀ c ∈ (e_Traffic x s0), Clean c := by
  simp only [e_Traffic, List.cons_append, List.nil_append]
  repeat' (first | exact Clean.v _ | assumption | exact List.forall_mem_nil _ | refine List.forall_mem_cons.2 ⟨?_, ?_⟩)
theorem e_Traffic_tm {st : AS} {F : List Nat} {σ : List (Option Nat)} (x : Traffic) (s0 : AV) (s02 : AV) (h_s0 : Tm st F σ s0 s02) : TmL st F σ (e_Traffic x s0) (e_Traffic x s02) := by
  simp only [e_Traffic, List.cons_append, List.nil_append]
  repeat' (first | exact TmL.nil | (refine TmL.cons (Tm.v _) ?_) | (refine TmL.cons (by assumption) ?_))
theorem e_Traffic_tmx {st : AS} {F : List Nat} {σ : List (Option Nat)} {x y : Traffic} {s0 s02 : AV} (hxy : e_Traffic y s02 = e_Traffic x s02) (h_s0 : Tm st F σ s0 s02) : TmL st F σ (e_Traffic x s0) (e_Traffic y s02) := by
  rw [hxy]; exact e_Traffic_tm x s0 s02 h_s0
theorem e_Traffic_ren (x : Traffic) {s0 : (Nat → Nat) → AV} (h_s0 : RenM s0) : RenML fun q => e_Traffic x (s0 q) := by
  simp only [e_Traffic, List.cons_append, List.nil_append]
  repeat' (first | exact RenML.nil | (refine RenML.cons (RenM.const (Clean.v _)) ?_) | (refine RenML.cons (by assumption) ?_))
def E_Traffic (x : Traffic) : List AV := e_Traffic x (S_vi x.Aids)
theorem E_Traffic_eq (x : Traffic) : E_Traffic x = e_Traffic x (S_vi x.Aids) := rfl
theorem E_Traffic_clean (x : Traffic) : ∀ c ∈ E_Traffic x, Clean c := e_Traffic_clean x _ (S_vi_clean _)
theorem f_Traffic (x : Traffic) (o : Nat → Ob) (n : Nat) : (E_Traffic x).map (fz o (n + 2)) = E_Traffic x := by simp only [E_Traffic_eq, e_Traffic_fz, f_S_vi]
theorem q_Traffic (x : Traffic) (o : Nat → Ob) (n : Nat) : (E_Traffic x).flatMap (reach o (n + 2)) = [] := by simp only [E_Traffic_eq, e_Traffic_reach, q_S_vi, List.append_nil]
attribute [go_sem] e_Traffic_len e_Traffic_sub e_Traffic_take e_Traffic_all e_Traffic_g_Group e_Traffic_s_Group e_Traffic_g_Aids e_Traffic_s_Aids e_Traffic_fz e_Traffic_reach E_Traffic_eq f_Traffic q_Traffic

end Go.AX.Z.TB

/-! (TBD) -/

set_option linter.unusedSimpArgs false
set_option linter.unusedVariables false
set_option maxHeartbeats 4000000
namespace Go.AX.Z.TB
open Go.AX

def bitmap_Check_L2 (a0 : Traffic) : Nat → (Int × Int) → Option (Ex Int Unit)
  | 0, _ => none
  | n2 + 1, d4 =>
    bif decide (d4.2 < (a0.Aids.length : Int)) then
      ((idx a0.Aids d4.2).bind fun x5 =>
      bif ((decide (x5 ≤ d4.1)) || (decide (255 < x5))) then
        some (Ex.ret 8)
      else
        bitmap_Check_L2 a0 n2 (x5, IntKind.wrap .i64 (d4.2 + 1)))
    else
      some (Ex.go ())

def bitmap_Check (a0 : Traffic) : Option Int :=
  ((
    bitmap_Check_L2 a0 big (0, 0)).bind fun o3 =>
  (o3.k fun d2 =>
  some 0))

def bitmap_check (a0 : Traffic) (a1 : Int) : Option Int :=
  ((bitmap_Check a0).bind fun x2 =>
  bif (x2 != 0) then
    some x2
  else
    bif ((decide (a1 < 0)) || (decide (255 < a1))) then
      some 2
    else
      some 0)

def slices_Clone_int_int (a0 : (List Int)) : Option (List Int) :=
  ((chk (decide ((a0.length) * 8 ≤ 140737488355328))).bind fun x4 =>
  some a0)

def cmp_isNaN_int (a0 : Int) : Option Bool :=
  some (a0 != a0)

def cmp_Less_int (a0 : Int) (a1 : Int) : Option Bool :=
  ((cmp_isNaN_int a0).bind fun x8 =>
  ((
    bif x8 then
      ((cmp_isNaN_int a1).bind fun x9 =>
      some (!x9))
    else
      some false).bind fun x10 =>
  some (x10 || (decide (a0 < a1)))))

def slices_isNaN_int (a0 : Int) : Option Bool :=
  some (a0 != a0)

def slices_BinarySearch_int_int_L2 (a0 : (List Int)) (a1 : Int) : Nat → (Int × Int) → Option (Int)
  | 0, _ => none
  | n2 + 1, d7 =>
    bif decide (d7.1 < d7.2) then
      ((idx a0 (IntKind.wrap .i64 (((IntKind.wrap .u64 (IntKind.wrap .i64 (d7.1 + d7.2)))).fdiv (2 ^ (min 1 64))))).bind fun x8 =>
      ((cmp_Less_int x8 a1).bind fun x9 =>
      bif x9 then
        slices_BinarySearch_int_int_L2 a0 a1 n2 (IntKind.wrap .i64 ((IntKind.wrap .i64 (((IntKind.wrap .u64 (IntKind.wrap .i64 (d7.1 + d7.2)))).fdiv (2 ^ (min 1 64)))) + 1), d7.2)
      else
        slices_BinarySearch_int_int_L2 a0 a1 n2 (d7.1, IntKind.wrap .i64 (((IntKind.wrap .u64 (IntKind.wrap .i64 (d7.1 + d7.2)))).fdiv (2 ^ (min 1 64))))))
    else
      some d7.1

def slices_BinarySearch_int_int (a0 : (List Int)) (a1 : Int) : Option (Int × Bool) :=
  ((
    slices_BinarySearch_int_int_L2 a0 a1 big (0, (a0.length : Int))).bind fun d6 =>
  ((
    bif decide (d6 < (a0.length : Int)) then
      ((idx a0 d6).bind fun x10 =>
      ((
        bif (x10 == a1) then
          some true
        else
          ((slices_isNaN_int x10).bind fun x11 =>
          ((
            bif x11 then
              ((slices_isNaN_int a1).bind fun x12 =>
              some x12)
            else
              some false).bind fun x13 =>
          some x13))).bind fun x14 =>
      some x14))
    else
      some false).bind fun x15 =>
  some (d6, x15)))

def slices_Insert_int_int_0 (a0 : Int) (a1 : List Int) (a2 : List Int) : Option (List Int) :=
  ((chk (decide (0 ≤ a0) && decide (a0 ≤ (a1.length : Int)))).bind fun x17 =>
  bif (((a2.length : Nat) : Int) == 0) then
    some a1
  else
    bif (a0 == ((a1.length : Nat) : Int)) then
      ((chk (decide ((a1.length + a2.length) * 8 ≤ 140737488355328))).bind fun x18 =>
      some (a1 ++ a2))
    else
      none)

def slices_Insert_int_int (a0 : Int) (a1 : List Int) (a2 : List Int) : Option (List Int) :=
  ((chk (decide (0 ≤ a0) && decide (a0 ≤ (a1.length : Int)))).bind fun x13 =>
  bif (((a2.length : Nat) : Int) == 0) then
    some a1
  else
    bif (a0 == ((a1.length : Nat) : Int)) then
      ((chk (decide ((a1.length + a2.length) * 8 ≤ 140737488355328))).bind fun x14 =>
      some (a1 ++ a2))
    else
      ((chk (decide (a2.length = 1) && decide ((a1.length + 1) * 8 ≤ 140737488355328))).bind fun x15 =>
      some (a1.take a0.toNat ++ a2 ++ a1.drop a0.toNat)))

def bitmap_Set (a0 : Traffic) (a1 : Int) : Option (Traffic × Int) :=
  ((bitmap_check a0 a1).bind fun x2 =>
  bif (x2 != 0) then
    some (Traffic.z, x2)
  else
    ((slices_Clone_int_int a0.Aids).bind fun x3 =>
    ((slices_BinarySearch_int_int x3 a1).bind fun x4 =>
    bif (a1 == 0) then
      some ({ a0 with Aids := x3, Group := true }, 0)
    else
      bif (!x4.2) then
        ((slices_Insert_int_int x4.1 x3 [a1]).bind fun x5 =>
        some ({ a0 with Aids := x5 }, 0))
      else
        some ({ a0 with Aids := x3 }, 0))))

def hotspotref33_Valid_L2 (a0 : Traffic) : Nat → Int → Option (Ex Bool Unit)
  | 0, _ => none
  | n2 + 1, d9 =>
    bif decide (d9 < (a0.Aids.length : Int)) then
      ((idx a0.Aids d9).bind fun x10 =>
      ((
        bif ((decide (x10 < 1)) || (decide (255 < x10))) then
          some true
        else
          ((
            bif decide (0 < d9) then
              ((idx a0.Aids (IntKind.wrap .i64 (d9 - 1))).bind fun x11 =>
              some (decide (x10 ≤ x11)))
            else
              some false).bind fun x12 =>
          some x12)).bind fun x13 =>
      bif x13 then
        some (Ex.ret false)
      else
        hotspotref33_Valid_L2 a0 n2 (IntKind.wrap .i64 (d9 + 1))))
    else
      some (Ex.go ())

def hotspotref33_Valid (a0 : Traffic) : Option Bool :=
  ((
    hotspotref33_Valid_L2 a0 big 0).bind fun o8 =>
  (o8.k fun d7 =>
  some true))

def hotspotref33_Check (a0 : Traffic) (a1 : Int) : Option Int :=
  ((hotspotref33_Valid a0).bind fun x7 =>
  bif (!x7) then
    some 8
  else
    bif ((decide (a1 < 0)) || (decide (255 < a1))) then
      some 2
    else
      some 0)

def hotspotref33_In_L2 (a0 : (List Int)) (a1 : Int) : Nat → Int → Option (Ex Bool Unit)
  | 0, _ => none
  | n2 + 1, d19 =>
    bif decide (d19 < (a0.length : Int)) then
      ((idx a0 d19).bind fun x20 =>
      bif (x20 == a1) then
        some (Ex.ret true)
      else
        hotspotref33_In_L2 a0 a1 n2 (IntKind.wrap .i64 (d19 + 1)))
    else
      some (Ex.go ())

def hotspotref33_In (a0 : (List Int)) (a1 : Int) : Option Bool :=
  ((
    hotspotref33_In_L2 a0 a1 big 0).bind fun o18 =>
  (o18.k fun d17 =>
  some false))

def hotspotref33_Of_L2 (a1 : (List Int)) : Nat → (Traffic × List Int × Int) → Option ((Traffic × List Int))
  | 0, _ => none
  | n2 + 1, d17 =>
    bif decide (d17.2.2 ≤ 255) then
      ((hotspotref33_In a1 d17.2.2).bind fun x18 =>
      bif x18 then
        ((chk (decide (((d17.2.1).length + 1) * 8 ≤ 140737488355328))).bind fun x19 =>
        hotspotref33_Of_L2 a1 n2 (d17.1, (d17.2.1 ++ [d17.2.2]), IntKind.wrap .i64 (d17.2.2 + 1)))
      else
        hotspotref33_Of_L2 a1 n2 (d17.1, d17.2.1, IntKind.wrap .i64 (d17.2.2 + 1)))
    else
      some (d17.1, d17.2.1)

def hotspotref33_Of (a0 : Bool) (a1 : (List Int)) : Option Traffic :=
  ((
    hotspotref33_Of_L2 a1 big ({ Traffic.z with Group := a0 }, [], 1)).bind fun d16 =>
  some { d16.1 with Aids := d16.2 })

def hotspotref33_Change_L3 (a0 : Traffic) (a1 : Int) : Nat → (List Int × Int) → Option ((List Int))
  | 0, _ => none
  | n5 + 1, d10 =>
    bif decide (d10.2 < (a0.Aids.length : Int)) then
      ((idx a0.Aids d10.2).bind fun x11 =>
      bif (x11 != a1) then
        ((chk (decide (((d10.1).length + 1) * 8 ≤ 140737488355328))).bind fun x12 =>
        hotspotref33_Change_L3 a0 a1 n5 ((d10.1 ++ [x11]), IntKind.wrap .i64 (d10.2 + 1)))
      else
        hotspotref33_Change_L3 a0 a1 n5 (d10.1, IntKind.wrap .i64 (d10.2 + 1)))
    else
      some d10.1

def hotspotref33_Change (a0 : Traffic) (a1 : Int) (a2 : Bool) : Option (Traffic × Int) :=
  ((hotspotref33_Check a0 a1).bind fun x7 =>
  bif (x7 != 0) then
    some (Traffic.z, x7)
  else
    ((
      bif (a1 == 0) then
        some a2
      else
        some a0.Group).bind fun d8 =>
    ((
      hotspotref33_Change_L3 a0 a1 big ([], 0)).bind fun d9 =>
    ((
      bif a2 then
        ((chk (decide (((d9).length + 1) * 8 ≤ 140737488355328))).bind fun x14 =>
        some (d9 ++ [a1]))
      else
        some d9).bind fun d13 =>
    ((hotspotref33_Of d8 d13).bind fun x15 =>
    some (x15, 0))))))

def slices_Delete_int_int (a0 : Int) (a1 : Int) (a2 : List Int) : Option (List Int) :=
  ((chk (decide (0 ≤ a0) && decide (a0 ≤ a1) && decide (a1 ≤ ((a2.length : Nat) : Int)))).bind fun x20 =>
  some (a2.take a0.toNat ++ a2.drop a1.toNat))

def bitmap_Clear (a0 : Traffic) (a1 : Int) : Option (Traffic × Int) :=
  ((bitmap_check a0 a1).bind fun x17 =>
  bif (x17 != 0) then
    some (Traffic.z, x17)
  else
    ((slices_Clone_int_int a0.Aids).bind fun x18 =>
    ((slices_BinarySearch_int_int x18 a1).bind fun x19 =>
    bif (a1 == 0) then
      some ({ a0 with Aids := x18, Group := false }, 0)
    else
      bif x19.2 then
        ((slices_Delete_int_int x19.1 (IntKind.wrap .i64 (x19.1 + 1)) x18).bind fun x20 =>
        some ({ a0 with Aids := x20 }, 0))
      else
        some ({ a0 with Aids := x18 }, 0))))

def hotspotref33_SameMap_L2 (a0 : Traffic) (a1 : Traffic) : Nat → Int → Option (Ex Bool Unit)
  | 0, _ => none
  | n4 + 1, d25 =>
    bif decide (d25 < (a0.Aids.length : Int)) then
      ((idx a0.Aids d25).bind fun x26 =>
      ((idx a1.Aids d25).bind fun x27 =>
      bif (x26 != x27) then
        some (Ex.ret false)
      else
        hotspotref33_SameMap_L2 a0 a1 n4 (IntKind.wrap .i64 (d25 + 1))))
    else
      some (Ex.go ())

def hotspotref33_SameMap (a0 : Traffic) (a1 : Traffic) : Option Bool :=
  bif ((!(a0.Group == a1.Group)) || ((a0.Aids.length : Int) != (a1.Aids.length : Int))) then
    some false
  else
    ((
      hotspotref33_SameMap_L2 a0 a1 big 0).bind fun o24 =>
    (o24.k fun d23 =>
    some true))

def slices_Index_int_int_L2 (a0 : (List Int)) (a1 : Int) : Nat → Int → Option (Ex Int Unit)
  | 0, _ => none
  | n2 + 1, d34 =>
    bif decide (d34 < (a0.length : Int)) then
      ((idx a0 d34).bind fun x35 =>
      bif (a1 == x35) then
        some (Ex.ret d34)
      else
        slices_Index_int_int_L2 a0 a1 n2 (IntKind.wrap .i64 (d34 + 1)))
    else
      some (Ex.go ())

def slices_Index_int_int (a0 : (List Int)) (a1 : Int) : Option Int :=
  ((
    slices_Index_int_int_L2 a0 a1 big 0).bind fun o33 =>
  (o33.k fun d32 =>
  some (-1)))

def slices_Contains_int_int (a0 : (List Int)) (a1 : Int) : Option Bool :=
  ((slices_Index_int_int a0 a1).bind fun x32 =>
  some (decide (0 ≤ x32)))

def bitmap_Has (a0 : Traffic) (a1 : Int) : Option Bool :=
  ((bitmap_check a0 a1).bind fun x31 =>
  bif (x31 != 0) then
    some false
  else
    ((
      bif ((a1 == 0) && a0.Group) then
        some true
      else
        ((
          bif decide (0 < a1) then
            ((slices_Contains_int_int a0.Aids a1).bind fun x32 =>
            some x32)
          else
            some false).bind fun x33 =>
        some x33)).bind fun x34 =>
    some x34))

def hotspotref33_Has (a0 : Traffic) (a1 : Int) : Option Bool :=
  ((hotspotref33_Valid a0).bind fun x36 =>
  bif (!x36) then
    some false
  else
    bif (a1 == 0) then
      some a0.Group
    else
      ((hotspotref33_In a0.Aids a1).bind fun x37 =>
      some x37))

def hotspotlaw33_BitmapChanges_L6 : Nat → (List Int × Int) → Option (Unit)
  | 0, _ => none
  | n8 + 1, d16 =>
    bif decide (d16.2 < (((d16.1).length : Nat) : Int)) then
      ((idx d16.1 d16.2).bind fun x17 =>
      hotspotlaw33_BitmapChanges_L6 n8 ((d16.1.set ((d16.2).toNat) 77), IntKind.wrap .i64 (d16.2 + 1)))
    else
      some ()

def hotspotlaw33_BitmapChanges_L9 : Nat → (List Int × Int) → Option (Unit)
  | 0, _ => none
  | n14 + 1, d19 =>
    bif decide (d19.2 < (((d19.1).length : Nat) : Int)) then
      ((idx d19.1 d19.2).bind fun x20 =>
      hotspotlaw33_BitmapChanges_L9 n14 ((d19.1.set ((d19.2).toNat) 77), IntKind.wrap .i64 (d19.2 + 1)))
    else
      some ()

def hotspotlaw33_BitmapChanges (a0 : Traffic) (a1 : Int) : Option Bool :=
  bif decide (300 < (a0.Aids.length : Int)) then
    some true
  else
    ((chk (decide ((a0.Aids.length) * 8 ≤ 140737488355328))).bind fun x1 =>
    ((bitmap_Set a0 a1).bind fun x2 =>
    ((hotspotref33_Change a0 a1 true).bind fun x3 =>
    ((bitmap_Clear a0 a1).bind fun x4 =>
    ((hotspotref33_Change a0 a1 false).bind fun x5 =>
    ((hotspotref33_SameMap x2.1 x3.1).bind fun x6 =>
    ((
      bif (x6 && (x2.2 == x3.2)) then
        ((hotspotref33_SameMap x4.1 x5.1).bind fun x7 =>
        some x7)
      else
        some false).bind fun x8 =>
    ((
      bif (x8 && (x4.2 == x5.2)) then
        ((bitmap_Has a0 a1).bind fun x9 =>
        ((hotspotref33_Has a0 a1).bind fun x10 =>
        some (x9 == x10)))
      else
        some false).bind fun x11 =>
    ((
      bif x11 then
        ((bitmap_Check a0).bind fun x12 =>
        ((hotspotref33_Valid a0).bind fun x13 =>
        some ((x12 == 0) == x13)))
      else
        some false).bind fun x14 =>
    ((
      hotspotlaw33_BitmapChanges_L6 big (x2.1.Aids, 0)).bind fun d15 =>
    ((
      hotspotlaw33_BitmapChanges_L9 big (x4.1.Aids, 0)).bind fun d18 =>
    ((
      bif x14 then
        ((hotspotref33_SameMap a0 { Traffic.z with Aids := a0.Aids, Group := a0.Group }).bind fun x21 =>
        some x21)
      else
        some false).bind fun x22 =>
    some x22))))))))))))

/-- Reckoned by a run. -/
def hotspotlaw33_alive : Option Bool := some true

def hotspotlaw33_BitmapSets (a0 : Traffic) (a1 : Int) (a2 : Int) : Option Bool :=
  (hotspotlaw33_alive.bind fun x23 =>
  bif ((decide (300 < (a0.Aids.length : Int))) || (!x23)) then
    some x23
  else
    ((bitmap_Set a0 a1).bind fun x24 =>
    ((bitmap_Clear a0 a1).bind fun x25 =>
    bif ((((x24.2 != 0) || (x25.2 != 0)) || (decide (a2 < 0))) || (decide (255 < a2))) then
      some (x23 && (x24.2 == x25.2))
    else
      ((bitmap_Clear x24.1 a2).bind fun x26 =>
      ((bitmap_Clear a0 a2).bind fun x27 =>
      ((bitmap_Set x27.1 a1).bind fun x28 =>
      bif (((x26.2 != 0) || (x27.2 != 0)) || (x28.2 != 0)) then
        some false
      else
        ((
          bif (a1 == a2) then
            some true
          else
            ((hotspotref33_SameMap x26.1 x28.1).bind fun x29 =>
            some x29)).bind fun x30 =>
        ((
          bif x23 then
            ((bitmap_Has x24.1 a1).bind fun x31 =>
            some x31)
          else
            some false).bind fun x32 =>
        ((
          bif x32 then
            ((bitmap_Has x25.1 a1).bind fun x33 =>
            some (!x33))
          else
            some false).bind fun x34 =>
        ((
          bif x34 then
            ((
              bif (a1 == a2) then
                some true
              else
                ((bitmap_Has x24.1 a2).bind fun x35 =>
                ((bitmap_Has a0 a2).bind fun x36 =>
                ((
                  bif (x35 == x36) then
                    ((bitmap_Has x25.1 a2).bind fun x37 =>
                    ((bitmap_Has a0 a2).bind fun x38 =>
                    some (x37 == x38)))
                  else
                    some false).bind fun x39 =>
                some x39)))).bind fun x40 =>
            some x40)
          else
            some false).bind fun x41 =>
        ((
          bif (x41 && x30) then
            ((bitmap_Check x24.1).bind fun x42 =>
            some (x42 == 0))
          else
            some false).bind fun x43 =>
        ((
          bif x43 then
            ((bitmap_Check x25.1).bind fun x44 =>
            some (x44 == 0))
          else
            some false).bind fun x45 =>
        some x45))))))))))))

end Go.AX.Z.TB

/-! (TBF) -/

namespace Go.AX.Z.TB
open Go.AX Go.Proofs

/-- The types that are compared by their cells. -/
def tab : List (TypeId × List (Option IntKind)) :=
  []

noncomputable def K : Ctx := ⟨Try.prog, fun _ => none, tabK tab⟩

theorem ag22 : agB K.P 22 = some false := by kernel_rfl
theorem ag24 : agB K.P 24 = some true := by kernel_rfl
theorem ag3 : agB K.P 3 = some false := by kernel_rfl
theorem ag4 : agB K.P 4 = some false := by kernel_rfl
theorem bl24 : bldS K.P 24 = some [(0, 1), (1, 1)] := by kernel_rfl
theorem by3 : byOf K.P 3 = some 8 := by kernel_rfl
theorem el22 : elS K.P 22 = some 3 := by kernel_rfl
theorem fl24_0 : flE K.P 24 0 = some (0, 4) := by kernel_rfl
theorem fl24_1 : flE K.P 24 1 = some (1, 22) := by kernel_rfl
theorem in3 : inK K.P 3 = some .i64 := by kernel_rfl
theorem in72 : inK K.P 72 = some .u64 := by kernel_rfl
theorem isb4 : isBl K.P 4 = true := by kernel_rfl
theorem sz22 : szOf K.P 22 = some 1 := by kernel_rfl
theorem sz24 : szOf K.P 24 = some 2 := by kernel_rfl
theorem sz3 : szOf K.P 3 = some 1 := by kernel_rfl
theorem sz4 : szOf K.P 4 = some 1 := by kernel_rfl
theorem un22 : K.P.underlying 22 = some (.slice 3) := by kernel_rfl
theorem un3 : K.P.underlying 3 = some (.int .i64) := by kernel_rfl
theorem un72 : K.P.underlying 72 = some (.int .u64) := by kernel_rfl
theorem ze24 : zer K.P 24 = some (e_Traffic Traffic.z vnil) := by kernel_rfl
theorem ze3 : zer K.P 3 = some [.v (.int .i64 0)] := by kernel_rfl
attribute [go_sem] ag22 ag24 ag3 ag4 bl24 by3 el22 fl24_0 fl24_1 in3 in72 isb4 sz22 sz24 sz3 sz4 un22 un3 un72 ze24 ze3
theorem mixed : K.P.follows .mixedOrders = true := by kernel_rfl
theorem hC : COk K := ⟨EqOk.of_tab (tab := tab) rfl (by kernel_rfl), mixed⟩
theorem rs18 : Try.f18.results = #[.tmp 2] := rfl
theorem rs36 : Try.f36.results = #[.tmp 4] := rfl
theorem rs37 : Try.f37.results = #[.tmp 2] := rfl
theorem rs58 : Try.f58.results = #[.tmp 2] := rfl
theorem rs50 : Try.f50.results = #[.tmp 4] := rfl
theorem rs51 : Try.f51.results = #[.tmp 2] := rfl
theorem rs38 : Try.f38.results = #[.tmp 4, .tmp 5] := rfl
theorem rs39 : Try.f39.results = #[.tmp 6] := rfl
theorem rs22 : Try.f22.results = #[.cell 4 24, .tmp 5] := rfl
theorem rs27 : Try.f27.results = #[.tmp 2] := rfl
theorem rs40 : Try.f40.results = #[.tmp 4] := rfl
theorem rs30 : Try.f30.results = #[.tmp 4] := rfl
theorem rs41 : Try.f41.results = #[.cell 4 24] := rfl
theorem rs23 : Try.f23.results = #[.cell 6 24, .tmp 7] := rfl
theorem rs42 : Try.f42.results = #[.tmp 6] := rfl
theorem rs24 : Try.f24.results = #[.cell 4 24, .tmp 5] := rfl
theorem rs21 : Try.f21.results = #[.tmp 4] := rfl
theorem rs54 : Try.f54.results = #[.tmp 4] := rfl
theorem rs43 : Try.f43.results = #[.tmp 4] := rfl
theorem rs25 : Try.f25.results = #[.tmp 4] := rfl
theorem rs26 : Try.f26.results = #[.tmp 4] := rfl
theorem rs8 : Try.f8.results = #[.tmp 4] := rfl
theorem rs9 : Try.f9.results = #[.tmp 6] := rfl

end Go.AX.Z.TB
