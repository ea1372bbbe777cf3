/- A part of the proof: the types, the facts of the program and the functions, read plainly. -/
import Derived.Test.YtkheccnpikfalaaCorec
import Derived.Test.YtkheccnpikfalaaProg
import Derived.KernelRfl
set_option linter.unusedVariables false
set_option linter.unusedSimpArgs false

/-! (TES) -/

set_option linter.unusedSimpArgs false
set_option linter.unusedVariables false
namespace Go.AX.Z.TE
open Go.AX
structure Traffic where
  Group : Bool
  Aids : (List Int)
  deriving DecidableEq

def Traffic.z : Traffic := ⟨false, []⟩

def e_Traffic (x : Traffic) (s0 : AV) : List AV := [vb x.Group, s0]

theorem e_Traffic_len (x : Traffic) (s0 : AV) : (e_Traffic x s0).length = 2 := by rfl
theorem e_Traffic_sub (x : Traffic) (s0 : AV) : sub? (e_Traffic x s0) 0 2 = some (e_Traffic x s0) := by rfl
theorem e_Traffic_take (x : Traffic) (s0 : AV) : (e_Traffic x s0).take 2 = (e_Traffic x s0) := by rfl
theorem e_Traffic_all (x : Traffic) (s0 : AV) (y : Traffic) (s02 : AV) : putAt (e_Traffic x s0) 0 (e_Traffic y s02) = e_Traffic y s02 := by rfl
theorem e_Traffic_g_Group (x : Traffic) (s0 : AV) : (e_Traffic x s0)[0]? = some (vb x.Group) := by rfl
theorem e_Traffic_s_Group (x : Traffic) (s0 : AV) (v : Bool) : (e_Traffic x s0).set 0 (vb v) = e_Traffic { x with Group := v } s0 := by rfl
theorem e_Traffic_g_Aids (x : Traffic) (s0 : AV) : (e_Traffic x s0)[1]? = some s0 := by rfl
theorem e_Traffic_s_Aids (x : Traffic) (s0 : AV) (v : AV) : (e_Traffic x s0).set 1 v = e_Traffic x v := by rfl
theorem e_Traffic_fz (x : Traffic) (s0 : AV) (o : Nat → Ob) (n : Nat) : (e_Traffic x s0).map (fz o (n + 1)) = e_Traffic x (fz o (n + 1) s0) := by rfl
theorem e_Traffic_reach (x : Traffic) (s0 : AV) (o : Nat → Ob) (n : Nat) : (e_Traffic x s0).flatMap (reach o (n + 1)) = reach o (n + 1) s0 := by
  simp only [e_Traffic, List.cons_append, List.nil_append, List.append_nil, List.flatMap_cons, List.flatMap_nil, reach_v]
theorem e_Traffic_clean (x : Traffic) (s0 : AV) (h_s0 : Clean s0) : ∀ c ∈ (e_Traffic x s0), Clean c := by
  simp only [e_Traffic, List.cons_append, List.nil_append]
  repeat' (first | exact Clean.v _ | assumption | exact List.forall_mem_nil _ | refine List.forall_mem_cons.2 ⟨?_, ?_⟩)
theorem e_Traffic_tm {st : AS} {F : List Nat} {σ : List (Option Nat)} (x : Traffic) (s0 : AV) (s02 : AV) (h_s0 : Tm st F σ s0 s02) : TmL st F σ (e_Traffic x s0) (e_Traffic x s02) := by
  simp only [e_Traffic, List.cons_append, List.nil_append]
  repeat' (first | exact TmL.nil | (refine TmL.cons (Tm.v _) ?_) | (refine TmL.cons (by assumption) ?_))
theorem e_Traffic_tmx {st : AS} {F : List Nat} {σ : List (Option Nat)} {x y : Traffic} {s0 s02 : AV} (hxy : e_Traffic y s02 = e_Traffic x s02) (h_s0 : Tm st F σ s0 s02) : TmL st F σ (e_Traffic x s0) (e_Traffic y s02) := by
  rw [hxy]; exact e_Traffic_tm x s0 s02 h_s0
theorem e_Traffic_ren (x : Traffic) {s0 : (Nat → Nat) → AV} (h_s0 : RenM s0) : RenML fun q => e_Traffic x (s0 q) := by
  simp only [e_Traffic, List.cons_append, List.nil_append]
  repeat' (first | exact RenML.nil | (refine RenML.cons (RenM.const (Clean.v _)) ?_) | (refine RenML.cons (by assumption) ?_))
def E_Traffic (x : Traffic) : List AV := e_Traffic x (S_vi x.Aids)
theorem E_Traffic_eq (x : Traffic) : E_Traffic x = e_Traffic x (S_vi x.Aids) := rfl
theorem E_Traffic_clean (x : Traffic) : ∀ c ∈ E_Traffic x, Clean c := e_Traffic_clean x _ (S_vi_clean _)
theorem f_Traffic (x : Traffic) (o : Nat → Ob) (n : Nat) : (E_Traffic x).map (fz o (n + 2)) = E_Traffic x := by simp only [E_Traffic_eq, e_Traffic_fz, f_S_vi]
theorem q_Traffic (x : Traffic) (o : Nat → Ob) (n : Nat) : (E_Traffic x).flatMap (reach o (n + 2)) = [] := by simp only [E_Traffic_eq, e_Traffic_reach, q_S_vi, List.append_nil]
attribute [go_sem] e_Traffic_len e_Traffic_sub e_Traffic_take e_Traffic_all e_Traffic_g_Group e_Traffic_s_Group e_Traffic_g_Aids e_Traffic_s_Aids e_Traffic_fz e_Traffic_reach E_Traffic_eq f_Traffic q_Traffic

end Go.AX.Z.TE

/-! (TED) -/

set_option linter.unusedSimpArgs false
set_option linter.unusedVariables false
set_option maxHeartbeats 4000000
namespace Go.AX.Z.TE
open Go.AX

def bitmap_Check_L2 (a0 : Traffic) : Nat → (Int × Int) → Option (Ex Int Unit)
  | 0, _ => none
  | n2 + 1, d3 =>
    bif decide (d3.2 < (a0.Aids.length : Int)) then
      ((idx a0.Aids d3.2).bind fun x4 =>
      bif ((decide (x4 ≤ d3.1)) || (decide (255 < x4))) then
        some (Ex.ret 8)
      else
        bitmap_Check_L2 a0 n2 (x4, IntKind.wrap .i64 (d3.2 + 1)))
    else
      some (Ex.go ())

def bitmap_Check (a0 : Traffic) : Option Int :=
  ((
    bitmap_Check_L2 a0 big (0, 0)).bind fun o2 =>
  (o2.k fun d1 =>
  some 0))

def bitmap_encoders : Option Unit :=
  some ()

def bitmap_bytes_L2 (a0 : (List Int)) : Nat → (List Int × Int) → Option ((List Int))
  | 0, _ => none
  | n2 + 1, d10 =>
    bif decide (d10.2 < (a0.length : Int)) then
      ((idx a0 d10.2).bind fun x11 =>
      ((idxA 32 d10.1 ((x11).fdiv (2 ^ (min 3 64)))).bind fun x12 =>
      ((chk (decide (¬ (band .i64 x11 7) < 0))).bind fun x13 =>
      bitmap_bytes_L2 a0 n2 ((d10.1.set (((x11).fdiv (2 ^ (min 3 64))).toNat) (bor .u8 x12 (IntKind.wrap .u8 (1 * 2 ^ (min ((band .i64 x11 7)).toNat 8))))), IntKind.wrap .i64 (d10.2 + 1)))))
    else
      some d10.1

def bitmap_bytes (a0 : (List Int)) : Option (List Int) :=
  ((
    bitmap_bytes_L2 a0 big ((List.replicate 32 0), 0)).bind fun d9 =>
  ((chk (decide (d9.length = 32))).bind fun x14 =>
  ((chk (decide (d9.length = 32))).bind fun x15 =>
  some d9)))

def bitmap_full (a0 : (List Int)) : Option (List Int) :=
  ((bitmap_bytes a0).bind fun x9 =>
  ((chk (decide ((List.replicate 32 0).length = 32) && decide (x9.length = 32))).bind fun x10 =>
  some x9))

def bitmap_part (a0 : (List Int)) : Option (List Int) :=
  bif ((a0.length : Int) == 0) then
    some [0, 0]
  else
    ((bitmap_bytes a0).bind fun x13 =>
    ((chk (decide ((List.replicate 32 0).length = 32) && decide (x13.length = 32))).bind fun x14 =>
    ((idx a0 0).bind fun x15 =>
    ((idx a0 (IntKind.wrap .i64 ((a0.length : Int) - 1))).bind fun x16 =>
    ((chk (decide (0 ≤ (x15).fdiv (2 ^ (min 3 64))) && decide ((x15).fdiv (2 ^ (min 3 64)) ≤ IntKind.wrap .i64 (((x16).fdiv (2 ^ (min 3 64))) + 1)) && decide (IntKind.wrap .i64 (((x16).fdiv (2 ^ (min 3 64))) + 1) ≤ 32))).bind fun x17 =>
    ((chk (decide (2 + ((IntKind.wrap .i64 (((x16).fdiv (2 ^ (min 3 64))) + 1)) - ((x15).fdiv (2 ^ (min 3 64)))).toNat ≤ 140737488355328))).bind fun x18 =>
    some ([IntKind.wrap .u8 ((x15).fdiv (2 ^ (min 3 64))), IntKind.wrap .u8 (IntKind.wrap .i64 ((IntKind.wrap .i64 (((x16).fdiv (2 ^ (min 3 64))) + 1)) - ((x15).fdiv (2 ^ (min 3 64)))))] ++ (List.take (((IntKind.wrap .i64 (((x16).fdiv (2 ^ (min 3 64))) + 1)) - ((x15).fdiv (2 ^ (min 3 64)))).toNat) (List.drop (((x15).fdiv (2 ^ (min 3 64))).toNat) x13)))))))))

def bitmap_list_L2 (a0 : (List Int)) : Nat → (List Int × Int) → Option ((List Int))
  | 0, _ => none
  | n2 + 1, d22 =>
    bif decide (d22.2 < (a0.length : Int)) then
      ((idx a0 d22.2).bind fun x23 =>
      ((chk (decide ((d22.1).length + 1 ≤ 140737488355328))).bind fun x24 =>
      bitmap_list_L2 a0 n2 ((d22.1 ++ [IntKind.wrap .u8 x23]), IntKind.wrap .i64 (d22.2 + 1))))
    else
      some d22.1

def bitmap_list (a0 : (List Int)) : Option (List Int) :=
  ((
    bitmap_list_L2 a0 big ([IntKind.wrap .u8 (a0.length : Int)], 0)).bind fun d21 =>
  some d21)

def bitmap_holes_L6 (x30 : Int) : Nat → (List Int × Int) → Option ((List Int))
  | 0, _ => none
  | n7 + 1, d33 =>
    bif decide (d33.2 < x30) then
      ((chk (decide ((d33.1).length + 1 ≤ 140737488355328))).bind fun x34 =>
      bitmap_holes_L6 x30 n7 ((d33.1 ++ [IntKind.wrap .u8 d33.2]), IntKind.wrap .i64 (d33.2 + 1)))
    else
      some d33.1

def bitmap_holes_L2 (a0 : (List Int)) : Nat → (List Int × Int) → Option ((List Int))
  | 0, _ => none
  | n2 + 1, d28 =>
    bif decide (d28.2 < (a0.length : Int)) then
      ((
        ((idx a0 d28.2).bind fun x30 =>
        ((idx d28.1 0).bind fun x31 =>
        ((
          bitmap_holes_L6 x30 big (d28.1, IntKind.wrap .i64 ((IntKind.wrap .i64 x31) + 1))).bind fun d32 =>
        ((idx d32 0).bind fun x35 =>
        some (d32.set 0 (IntKind.wrap .u8 x30))))))).bind fun d29 =>
      bitmap_holes_L2 a0 n2 (d29, IntKind.wrap .i64 (d28.2 + 1)))
    else
      some d28.1

def bitmap_holes (a0 : (List Int)) : Option (List Int) :=
  ((
    bitmap_holes_L2 a0 big ([0, 0], 0)).bind fun d27 =>
  ((idx d27 1).bind fun x36 =>
  some (d27.set 1 (IntKind.wrap .u8 (IntKind.wrap .i64 ((((d27).length : Nat) : Int) - 2))))))

def bitmap_EncodeAs (a0 : Traffic) (a1 : Int) : Option ((List Int) × Int) :=
  ((bitmap_Check a0).bind fun x1 =>
  bif (x1 != 0) then
    some ([], x1)
  else
    bif decide (3 < a1) then
      some ([], 2)
    else
      ((
        bif a0.Group then
          some (bor .u8 a1 128)
        else
          some a1).bind fun d2 =>
      (bitmap_encoders.bind fun x3 =>
      ((chk (decide (0 ≤ a1) && decide (a1 < 4))).bind fun x4 =>
      bif (a1 == 0) then
        ((bitmap_full a0.Aids).bind fun x5 =>
        ((chk (decide (1 + x5.length ≤ 140737488355328))).bind fun x6 =>
        some (([d2] ++ x5), 0)))
      else
        bif (a1 == 1) then
          ((bitmap_part a0.Aids).bind fun x7 =>
          ((chk (decide (1 + x7.length ≤ 140737488355328))).bind fun x8 =>
          some (([d2] ++ x7), 0)))
        else
          bif (a1 == 2) then
            ((bitmap_list a0.Aids).bind fun x9 =>
            ((chk (decide (1 + x9.length ≤ 140737488355328))).bind fun x10 =>
            some (([d2] ++ x9), 0)))
          else
            ((bitmap_holes a0.Aids).bind fun x11 =>
            ((chk (decide (1 + x11.length ≤ 140737488355328))).bind fun x12 =>
            some (([d2] ++ x11), 0)))))))

def hotspotref33_Valid_L2 (a0 : Traffic) : Nat → Int → Option (Ex Bool Unit)
  | 0, _ => none
  | n2 + 1, d16 =>
    bif decide (d16 < (a0.Aids.length : Int)) then
      ((idx a0.Aids d16).bind fun x17 =>
      ((
        bif ((decide (x17 < 1)) || (decide (255 < x17))) then
          some true
        else
          ((
            bif decide (0 < d16) then
              ((idx a0.Aids (IntKind.wrap .i64 (d16 - 1))).bind fun x18 =>
              some (decide (x17 ≤ x18)))
            else
              some false).bind fun x19 =>
          some x19)).bind fun x20 =>
      bif x20 then
        some (Ex.ret false)
      else
        hotspotref33_Valid_L2 a0 n2 (IntKind.wrap .i64 (d16 + 1))))
    else
      some (Ex.go ())

def hotspotref33_Valid (a0 : Traffic) : Option Bool :=
  ((
    hotspotref33_Valid_L2 a0 big 0).bind fun o15 =>
  (o15.k fun d14 =>
  some true))

def hotspotref33_In_L2 (a0 : (List Int)) (a1 : Int) : Nat → Int → Option (Ex Bool Unit)
  | 0, _ => none
  | n2 + 1, d27 =>
    bif decide (d27 < (a0.length : Int)) then
      ((idx a0 d27).bind fun x28 =>
      bif (x28 == a1) then
        some (Ex.ret true)
      else
        hotspotref33_In_L2 a0 a1 n2 (IntKind.wrap .i64 (d27 + 1)))
    else
      some (Ex.go ())

def hotspotref33_In (a0 : (List Int)) (a1 : Int) : Option Bool :=
  ((
    hotspotref33_In_L2 a0 a1 big 0).bind fun o26 =>
  (o26.k fun d25 =>
  some false))

def hotspotref33_mapByte_L2 (a0 : (List Int)) (a1 : Int) : Nat → (Int × Int × Int) → Option (Int)
  | 0, _ => none
  | n2 + 1, d25 =>
    bif decide (d25.2.2 < 8) then
      ((hotspotref33_In a0 (IntKind.wrap .i64 ((IntKind.wrap .i64 (8 * a1)) + d25.2.2))).bind fun x26 =>
      bif x26 then
        hotspotref33_mapByte_L2 a0 a1 n2 (IntKind.wrap .i64 (d25.1 + d25.2.1), IntKind.wrap .i64 (d25.2.1 * 2), IntKind.wrap .i64 (d25.2.2 + 1))
      else
        hotspotref33_mapByte_L2 a0 a1 n2 (d25.1, IntKind.wrap .i64 (d25.2.1 * 2), IntKind.wrap .i64 (d25.2.2 + 1)))
    else
      some d25.1

def hotspotref33_mapByte (a0 : (List Int)) (a1 : Int) : Option Int :=
  ((
    hotspotref33_mapByte_L2 a0 a1 big (0, 1, 0)).bind fun d24 =>
  some d24)

def hotspotref33_EncodeAs_L4 (a0 : Traffic) : Nat → (List Int × Int) → Option ((List Int))
  | 0, _ => none
  | n8 + 1, d18 =>
    bif decide (d18.2 < 32) then
      ((hotspotref33_mapByte a0.Aids d18.2).bind fun x19 =>
      ((chk (decide (((d18.1).length + 1) * 8 ≤ 140737488355328))).bind fun x20 =>
      hotspotref33_EncodeAs_L4 a0 n8 ((d18.1 ++ [x19]), IntKind.wrap .i64 (d18.2 + 1))))
    else
      some d18.1

def hotspotref33_EncodeAs_L7 (a0 : Traffic) : Nat → (Int × Int) → Option (Int)
  | 0, _ => none
  | n13 + 1, d22 =>
    bif decide (0 ≤ d22.2) then
      ((hotspotref33_mapByte a0.Aids d22.2).bind fun x23 =>
      bif (x23 != 0) then
        hotspotref33_EncodeAs_L7 a0 n13 (d22.2, IntKind.wrap .i64 (d22.2 - 1))
      else
        hotspotref33_EncodeAs_L7 a0 n13 (d22.1, IntKind.wrap .i64 (d22.2 - 1)))
    else
      some d22.1

def hotspotref33_EncodeAs_L10 (a0 : Traffic) : Nat → (Int × Int) → Option (Int)
  | 0, _ => none
  | n18 + 1, d25 =>
    bif decide (d25.2 < 32) then
      ((hotspotref33_mapByte a0.Aids d25.2).bind fun x26 =>
      bif (x26 != 0) then
        hotspotref33_EncodeAs_L10 a0 n18 (IntKind.wrap .i64 (d25.2 + 1), IntKind.wrap .i64 (d25.2 + 1))
      else
        hotspotref33_EncodeAs_L10 a0 n18 (d25.1, IntKind.wrap .i64 (d25.2 + 1)))
    else
      some d25.1

def hotspotref33_EncodeAs_L13 (d24 : Int) (a0 : Traffic) : Nat → (List Int × Int) → Option ((List Int))
  | 0, _ => none
  | n23 + 1, d28 =>
    bif decide (d28.2 < d24) then
      ((hotspotref33_mapByte a0.Aids d28.2).bind fun x29 =>
      ((chk (decide (((d28.1).length + 1) * 8 ≤ 140737488355328))).bind fun x30 =>
      hotspotref33_EncodeAs_L13 d24 a0 n23 ((d28.1 ++ [x29]), IntKind.wrap .i64 (d28.2 + 1))))
    else
      some d28.1

def hotspotref33_EncodeAs_L17 (d32 : Int) (a0 : Traffic) : Nat → (List Int × Int) → Option ((List Int))
  | 0, _ => none
  | n31 + 1, d35 =>
    bif decide (d35.2 < d32) then
      ((hotspotref33_In a0.Aids d35.2).bind fun x36 =>
      bif (!x36) then
        ((chk (decide (((d35.1).length + 1) * 8 ≤ 140737488355328))).bind fun x37 =>
        hotspotref33_EncodeAs_L17 d32 a0 n31 ((d35.1 ++ [d35.2]), IntKind.wrap .i64 (d35.2 + 1)))
      else
        hotspotref33_EncodeAs_L17 d32 a0 n31 (d35.1, IntKind.wrap .i64 (d35.2 + 1)))
    else
      some d35.1

def hotspotref33_EncodeAs_L20 (d16 : (List Int)) : Nat → (List Int × Int) → Option ((List Int))
  | 0, _ => none
  | n36 + 1, d40 =>
    bif decide (d40.2 < ((d16.length : Nat) : Int)) then
      ((idx d16 d40.2).bind fun x41 =>
      ((chk (decide ((d40.1).length + 1 ≤ 140737488355328))).bind fun x42 =>
      hotspotref33_EncodeAs_L20 d16 n36 ((d40.1 ++ [IntKind.wrap .u8 x41]), IntKind.wrap .i64 (d40.2 + 1))))
    else
      some d40.1

def hotspotref33_EncodeAs (a0 : Traffic) (a1 : Int) : Option ((List Int) × Int) :=
  ((hotspotref33_Valid a0).bind fun x14 =>
  bif (!x14) then
    some ([], 8)
  else
    bif decide (3 < a1) then
      some ([], 2)
    else
      ((
        bif a0.Group then
          some (IntKind.wrap .i64 ((IntKind.wrap .i64 a1) + 128))
        else
          some (IntKind.wrap .i64 a1)).bind fun d15 =>
      ((
        bif (a1 == 0) then
          ((
            hotspotref33_EncodeAs_L4 a0 big ([d15], 0)).bind fun d17 =>
          some d17)
        else
          bif (a1 == 1) then
            ((
              hotspotref33_EncodeAs_L7 a0 big (0, 31)).bind fun d21 =>
            ((
              hotspotref33_EncodeAs_L10 a0 big (0, 0)).bind fun d24 =>
            ((
              hotspotref33_EncodeAs_L13 d24 a0 big (([d15] ++ [d21, IntKind.wrap .i64 (d24 - d21)]), d21)).bind fun d27 =>
            some d27)))
          else
            bif (a1 == 2) then
              ((chk (decide ((2 + a0.Aids.length) * 8 ≤ 140737488355328))).bind fun x31 =>
              some (([d15] ++ [(a0.Aids.length : Int)]) ++ a0.Aids))
            else
              bif (a1 == 3) then
                ((
                  bif decide (0 < (a0.Aids.length : Int)) then
                    ((idx a0.Aids (IntKind.wrap .i64 ((a0.Aids.length : Int) - 1))).bind fun x33 =>
                    some x33)
                  else
                    some 0).bind fun d32 =>
                ((
                  hotspotref33_EncodeAs_L17 d32 a0 big ([], 1)).bind fun d34 =>
                ((chk (decide ((3 + (d34).length) * 8 ≤ 140737488355328))).bind fun x38 =>
                some (([d15] ++ [d32, (((d34).length : Nat) : Int)]) ++ d34))))
              else
                some [d15]).bind fun d16 =>
      ((
        hotspotref33_EncodeAs_L20 d16 big ([], 0)).bind fun d39 =>
      some (d39, 0)))))

def bitmap_Encode_L2 (a0 : Traffic) : Nat → (List Int × Bool × Int) → Option (Ex ((List Int) × Int) (List Int × Bool))
  | 0, _ => none
  | n2 + 1, d46 =>
    bif decide (d46.2.2 < 4) then
      ((bitmap_EncodeAs a0 d46.2.2).bind fun x47 =>
      bif (x47.2 != 0) then
        some (Ex.ret ([], x47.2))
      else
        bif d46.2.1 then
          bitmap_Encode_L2 a0 n2 (x47.1, false, IntKind.wrap .u8 (d46.2.2 + 1))
        else
          ((chk (decide (0 < ((d46.1).length)))).bind fun x48 =>
          bif decide (((x47.1.length : Nat) : Int) < (((d46.1).length : Nat) : Int)) then
            bitmap_Encode_L2 a0 n2 (x47.1, false, IntKind.wrap .u8 (d46.2.2 + 1))
          else
            bitmap_Encode_L2 a0 n2 (d46.1, false, IntKind.wrap .u8 (d46.2.2 + 1))))
    else
      some (Ex.go (d46.1, d46.2.1))

def bitmap_Encode (a0 : Traffic) : Option ((List Int) × Int) :=
  ((
    bitmap_Encode_L2 a0 big ([], true, 0)).bind fun o45 =>
  (o45.k fun d44 =>
  bif d44.2 then
    some ([], 0)
  else
    some (d44.1, 0)))

def hotspotref33_Encode_L2 (a0 : Traffic) : Nat → (List Int × Int) → Option ((List Int))
  | 0, _ => none
  | n3 + 1, d53 =>
    bif decide (d53.2 < 4) then
      ((hotspotref33_EncodeAs a0 d53.2).bind fun x54 =>
      bif decide (((x54.1.length : Nat) : Int) < (((d53.1).length : Nat) : Int)) then
        hotspotref33_Encode_L2 a0 n3 (x54.1, IntKind.wrap .u8 (d53.2 + 1))
      else
        hotspotref33_Encode_L2 a0 n3 (d53.1, IntKind.wrap .u8 (d53.2 + 1)))
    else
      some d53.1

def hotspotref33_Encode (a0 : Traffic) : Option ((List Int) × Int) :=
  ((hotspotref33_Valid a0).bind fun x50 =>
  bif (!x50) then
    some ([], 8)
  else
    ((hotspotref33_EncodeAs a0 0).bind fun x51 =>
    ((
      hotspotref33_Encode_L2 a0 big (x51.1, 1)).bind fun d52 =>
    some (d52, 0))))

def bitmap_Size (a0 : Traffic) (a1 : Int) : Option (Int × Int) :=
  ((bitmap_EncodeAs a0 a1).bind fun x56 =>
  some (((x56.1.length : Nat) : Int), x56.2))

def hotspotref33_Same_L2 (a0 : (List Int)) (a1 : (List Int)) : Nat → Int → Option (Ex Bool Unit)
  | 0, _ => none
  | n3 + 1, d60 =>
    bif decide (d60 < (a0.length : Int)) then
      ((idx a0 d60).bind fun x61 =>
      ((idx a1 d60).bind fun x62 =>
      bif (x61 != x62) then
        some (Ex.ret false)
      else
        hotspotref33_Same_L2 a0 a1 n3 (IntKind.wrap .i64 (d60 + 1))))
    else
      some (Ex.go ())

def hotspotref33_Same (a0 : (List Int)) (a1 : (List Int)) : Option Bool :=
  bif ((a0.length : Int) != (a1.length : Int)) then
    some false
  else
    ((
      hotspotref33_Same_L2 a0 a1 big 0).bind fun o59 =>
    (o59.k fun d58 =>
    some true))

def hotspotlaw33_BitmapEncodes (a0 : Traffic) (a1 : Int) : Option Bool :=
  bif decide (300 < (a0.Aids.length : Int)) then
    some true
  else
    ((bitmap_EncodeAs a0 a1).bind fun x1 =>
    ((hotspotref33_EncodeAs a0 a1).bind fun x2 =>
    ((bitmap_Encode a0).bind fun x3 =>
    ((hotspotref33_Encode a0).bind fun x4 =>
    ((bitmap_Size a0 a1).bind fun x5 =>
    ((hotspotref33_Same x1.1 x2.1).bind fun x6 =>
    ((
      bif (x6 && (x1.2 == x2.2)) then
        ((hotspotref33_Same x3.1 x4.1).bind fun x7 =>
        some x7)
      else
        some false).bind fun x8 =>
    some (((x8 && (x3.2 == x4.2)) && (x5.1 == (x2.1.length : Int))) && (x5.2 == x2.2)))))))))

/-- Reckoned by a run. -/
def hotspotlaw33_alive : Option Bool := some true

def hotspotlaw33_BitmapLengths (a0 : Traffic) : Option Bool :=
  (hotspotlaw33_alive.bind fun x9 =>
  ((
    bif decide (300 < (a0.Aids.length : Int)) then
      some true
    else
      ((bitmap_Check a0).bind fun x10 =>
      some (x10 != 0))).bind fun x11 =>
  bif (x11 || (!x9)) then
    some x9
  else
    ((
      bif decide (0 < (a0.Aids.length : Int)) then
        ((idx a0.Aids 0).bind fun x13 =>
        ((idx a0.Aids (IntKind.wrap .i64 ((a0.Aids.length : Int) - 1))).bind fun x14 =>
        some (x13, x14)))
      else
        some (0, 0)).bind fun d12 =>
    ((bitmap_Size a0 0).bind fun x15 =>
    ((bitmap_Size a0 1).bind fun x16 =>
    ((bitmap_Size a0 2).bind fun x17 =>
    ((bitmap_Size a0 3).bind fun x18 =>
    ((
      bif decide (0 < (a0.Aids.length : Int)) then
        some (IntKind.wrap .i64 ((IntKind.wrap .i64 ((IntKind.wrap .i64 (3 + (IntKind.wrap .i64 ((d12.2).tdiv 8)))) - (IntKind.wrap .i64 ((d12.1).tdiv 8)))) + 1))
      else
        some 3).bind fun d19 =>
    some ((((((((x9 && (x15.2 == 0)) && (x16.2 == 0)) && (x17.2 == 0)) && (x18.2 == 0)) && (x15.1 == 33)) && (x16.1 == d19)) && (x17.1 == (IntKind.wrap .i64 (2 + (a0.Aids.length : Int))))) && (x18.1 == (IntKind.wrap .i64 ((IntKind.wrap .i64 (3 + d12.2)) - (a0.Aids.length : Int)))))))))))))

def hotspotlaw33_BitmapShortest_L2 (a0 : Traffic) (x21 : ((List Int) × Int)) (x24 : Int) : Nat → Int → Option (Ex Bool Unit)
  | 0, _ => none
  | n8 + 1, d27 =>
    bif decide (d27 < 4) then
      ((bitmap_EncodeAs a0 d27).bind fun x28 =>
      ((bitmap_Size a0 d27).bind fun x29 =>
      ((
        bif (((((x28.2 != 0) || (x29.2 != 0)) || (x29.1 != (x28.1.length : Int))) || (decide ((x28.1.length : Int) < (x21.1.length : Int)))) || (((x28.1.length : Int) == (x21.1.length : Int)) && (decide (d27 < ((x24).tmod 128))))) then
          some true
        else
          ((
            bif (d27 == ((x24).tmod 128)) then
              ((hotspotref33_Same x21.1 x28.1).bind fun x30 =>
              some (!x30))
            else
              some false).bind fun x31 =>
          some x31)).bind fun x32 =>
      bif x32 then
        some (Ex.ret false)
      else
        hotspotlaw33_BitmapShortest_L2 a0 x21 x24 n8 (IntKind.wrap .u8 (d27 + 1)))))
    else
      some (Ex.go ())

def hotspotlaw33_BitmapShortest (a0 : Traffic) : Option Bool :=
  (hotspotlaw33_alive.bind fun x20 =>
  bif ((decide (300 < (a0.Aids.length : Int))) || (!x20)) then
    some x20
  else
    ((bitmap_Encode a0).bind fun x21 =>
    bif (x21.2 != 0) then
      ((
        bif x20 then
          ((bitmap_Check a0).bind fun x22 =>
          some (x22 == x21.2))
        else
          some false).bind fun x23 =>
      some x23)
    else
      bif ((decide ((x21.1.length : Int) < 1)) || (decide (33 < (x21.1.length : Int)))) then
        some false
      else
        ((idx x21.1 0).bind fun x24 =>
        ((
          hotspotlaw33_BitmapShortest_L2 a0 x21 x24 big 0).bind fun o26 =>
        (o26.k fun d25 =>
        some (x20 && (decide (((x24).tmod 128) < 4))))))))

end Go.AX.Z.TE

/-! (TEF) -/

namespace Go.AX.Z.TE
open Go.AX Go.Proofs

/-- The types that are compared by their cells. -/
def tab : List (TypeId × List (Option IntKind)) :=
  []

noncomputable def K : Ctx := ⟨Try.prog, fun _ => none, tabK tab⟩

theorem ag22 : agB K.P 22 = some false := by kernel_rfl
theorem ag24 : agB K.P 24 = some true := by kernel_rfl
theorem ag3 : agB K.P 3 = some false := by kernel_rfl
theorem ag4 : agB K.P 4 = some false := by kernel_rfl
theorem ag5 : agB K.P 5 = some false := by kernel_rfl
theorem ag52 : agB K.P 52 = some false := by kernel_rfl
theorem ag53 : agB K.P 53 = some true := by kernel_rfl
theorem ag71 : agB K.P 71 = some true := by kernel_rfl
theorem ar53 : arE K.P 53 = some (4, 52) := by kernel_rfl
theorem bl53 : bldS K.P 53 = none := by kernel_rfl
theorem by3 : byOf K.P 3 = some 8 := by kernel_rfl
theorem by5 : byOf K.P 5 = some 1 := by kernel_rfl
theorem el22 : elS K.P 22 = some 3 := by kernel_rfl
theorem el25 : elS K.P 25 = some 5 := by kernel_rfl
theorem fl24_0 : flE K.P 24 0 = some (0, 4) := by kernel_rfl
theorem fl24_1 : flE K.P 24 1 = some (1, 22) := by kernel_rfl
theorem in3 : inK K.P 3 = some .i64 := by kernel_rfl
theorem in5 : inK K.P 5 = some .u8 := by kernel_rfl
theorem sz22 : szOf K.P 22 = some 1 := by kernel_rfl
theorem sz24 : szOf K.P 24 = some 2 := by kernel_rfl
theorem sz3 : szOf K.P 3 = some 1 := by kernel_rfl
theorem sz4 : szOf K.P 4 = some 1 := by kernel_rfl
theorem sz5 : szOf K.P 5 = some 1 := by kernel_rfl
theorem sz52 : szOf K.P 52 = some 1 := by kernel_rfl
theorem sz53 : szOf K.P 53 = some 4 := by kernel_rfl
theorem sz71 : szOf K.P 71 = some 32 := by kernel_rfl
theorem un22 : K.P.underlying 22 = some (.slice 3) := by kernel_rfl
theorem un25 : K.P.underlying 25 = some (.slice 5) := by kernel_rfl
theorem un3 : K.P.underlying 3 = some (.int .i64) := by kernel_rfl
theorem un5 : K.P.underlying 5 = some (.int .u8) := by kernel_rfl
theorem un71 : K.P.underlying 71 = some (.array 32 5) := by kernel_rfl
theorem ze3 : zer K.P 3 = some [.v (.int .i64 0)] := by kernel_rfl
theorem ze5 : zer K.P 5 = some [.v (.int .u8 0)] := by kernel_rfl
theorem ze53 : zer K.P 53 = some [.v .nilFunc, .v .nilFunc, .v .nilFunc, .v .nilFunc] := by kernel_rfl
theorem ze71 : zer K.P 71 = some ((List.map vu (List.replicate 32 0))) := zer_arr (Value.int .u8) 32 0 (by kernel_rfl) rfl
attribute [go_sem] ag22 ag24 ag3 ag4 ag5 ag52 ag53 ag71 ar53 bl53 by3 by5 el22 el25 fl24_0 fl24_1 in3 in5 sz22 sz24 sz3 sz4 sz5 sz52 sz53 sz71 un22 un25 un3 un5 un71 ze3 ze5 ze53 ze71
theorem mixed : K.P.follows .mixedOrders = true := by kernel_rfl
theorem hC : COk K := ⟨EqOk.of_tab (tab := tab) rfl (by kernel_rfl), mixed⟩
theorem rs18 : Try.f18.results = #[.tmp 2] := rfl
theorem rs28 : Try.f28.results = #[.cell 0 53] := rfl
theorem rs55 : Try.f55.results = #[.cell 2 71] := rfl
theorem rs44 : Try.f44.results = #[.tmp 2] := rfl
theorem rs45 : Try.f45.results = #[.tmp 2] := rfl
theorem rs46 : Try.f46.results = #[.tmp 2] := rfl
theorem rs47 : Try.f47.results = #[.tmp 2] := rfl
theorem rs11 : Try.f11.results = #[.tmp 4, .tmp 5] := rfl
theorem rs27 : Try.f27.results = #[.tmp 2] := rfl
theorem rs30 : Try.f30.results = #[.tmp 4] := rfl
theorem rs29 : Try.f29.results = #[.tmp 4] := rfl
theorem rs12 : Try.f12.results = #[.tmp 4, .tmp 5] := rfl
theorem rs13 : Try.f13.results = #[.tmp 2, .tmp 3] := rfl
theorem rs14 : Try.f14.results = #[.tmp 2, .tmp 3] := rfl
theorem rs15 : Try.f15.results = #[.tmp 4, .tmp 5] := rfl
theorem rs16 : Try.f16.results = #[.tmp 4] := rfl
theorem rs3 : Try.f3.results = #[.tmp 4] := rfl
theorem rs5 : Try.f5.results = #[.tmp 2] := rfl
theorem rs4 : Try.f4.results = #[.tmp 2] := rfl

end Go.AX.Z.TE
