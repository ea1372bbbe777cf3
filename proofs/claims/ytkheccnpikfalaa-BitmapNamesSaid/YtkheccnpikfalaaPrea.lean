/- A part of the proof: the types, the facts of the program and the functions, read plainly. -/
import Derived.Test.YtkheccnpikfalaaCorec
import Derived.Test.YtkheccnpikfalaaProg
import Derived.KernelRfl
set_option linter.unusedVariables false
set_option linter.unusedSimpArgs false

/-! (TDS) -/

set_option linter.unusedSimpArgs false
set_option linter.unusedVariables false
namespace Go.AX.Z.TD
open Go.AX
structure Traffic where
  Group : Bool
  Aids : (List Int)
  deriving DecidableEq

def Traffic.z : Traffic := ⟨false, []⟩

def e_Traffic (x : Traffic) (s0 : AV) : List AV := [vb x.Group, s0]

theorem e_Traffic_len (x : Traffic) (s0 : AV) : (e_Traffic x s0).length = 2 := by rfl
theorem e_Traffic_sub (x : Traffic) (s0 : AV) : sub? (e_Traffic x s0) 0 2 = some (e_Traffic x s0) := by rfl
theorem e_Traffic_take (x : Traffic) (s0 : AV) : (e_Traffic x s0).take 2 = (e_Traffic x s0) := by rfl
theorem e_Traffic_all (x : Traffic) (s0 : AV) (y : Traffic) (s02 : AV) : putAt (e_Traffic x s0) 0 (e_Traffic y s02) = e_Traffic y s02 := by rfl
theorem e_Traffic_g_Group (x : Traffic) (s0 : AV) : (e_Traffic x s0)[0]? = some (vb x.Group) := by rfl
theorem e_Traffic_s_Group (x : Traffic) (s0 : AV) (v : Bool) : (e_Traffic x s0).set 0 (vb v) = e_Traffic { x with Group := v } s0 := by rfl
theorem e_Traffic_g_Aids (x : Traffic) (s0 : AV) : (e_Traffic x s0)[1]? = some s0 := by rfl
theorem e_Traffic_s_Aids (x : Traffic) (s0 : AV) (v : AV) : (e_Traffic x s0).set 1 v = e_Traffic x v := by rfl
theorem e_Traffic_fz (x : Traffic) (s0 : AV) (o : Nat → Ob) (n : Nat) : (e_Traffic x s0).map (fz o (n + 1)) = e_Traffic x (fz o (n + 1) s0) := by rfl
theorem e_Traffic_reach (x : Traffic) (s0 : AV) (o : Nat → Ob) (n : Nat) : (e_Traffic x s0).flatMap (reach o (n + 1)) = reach o (n + 1) s0 := by
  simp only [e_Traffic, List.cons_append, List.nil_append, List.append_nil, List.flatMap_cons, List.flatMap_nil, reach_v]
theorem e_Traffic_clean (x : Traffic) (s0 : AV) (h_s0 : Clean s0) : ∀ c ∈ (e_Traffic x s0), Clean c := by
  simp only [e_Traffic, List.cons_append, List.nil_append]
  repeat' (first | exact Clean.v _ | assumption | exact List.forall_mem_nil _ | refine List.forall_mem_cons.2 ⟨?_, ?_⟩)
theorem e_Traffic_tm {st : AS} {F : List Nat} {σ : List (Option Nat)} (x : Traffic) (s0 : AV) (s02 : AV) (h_s0 : Tm st F σ s0 s02) : TmL st F σ (e_Traffic x s0) (e_Traffic x s02) := by
  simp only [e_Traffic, List.cons_append, List.nil_append]
  repeat' (first | exact TmL.nil | (refine TmL.cons (Tm.v _) ?_) | (refine TmL.cons (by assumption) ?_))
theorem e_Traffic_tmx {st : AS} {F : List Nat} {σ : List (Option Nat)} {x y : Traffic} {s0 s02 : AV} (hxy : e_Traffic y s02 = e_Traffic x s02) (h_s0 : Tm st F σ s0 s02) : TmL st F σ (e_Traffic x s0) (e_Traffic y s02) := by
  rw [hxy]; exact e_Traffic_tm x s0 s02 h_s0
theorem e_Traffic_ren (x : Traffic) {s0 : (Nat → Nat) → AV} (h_s0 : RenM s0) : RenML fun q => e_Traffic x (s0 q) := by
  simp only [e_Traffic, List.cons_append, List.nil_append]
  repeat' (first | exact RenML.nil | (refine RenML.cons (RenM.const (Clean.v _)) ?_) | (refine RenML.cons (by assumption) ?_))
theorem e_Traffic_frl {q nx off : Nat} (x : Traffic) {s0 : AV} {s02 : AV} (h_s0 : Fr q nx off s0 s02) : FrL q nx off (e_Traffic x s0) (e_Traffic x s02) := by
  simp only [e_Traffic, List.cons_append, List.nil_append]
  repeat' (first | exact FrL.nil | (refine FrL.cons _ _ _ _ (by assumption) ?_) | (refine FrL.cons _ _ _ _ (Fr.same _) ?_))
def E_Traffic (x : Traffic) : List AV := e_Traffic x (S_vi x.Aids)
theorem E_Traffic_eq (x : Traffic) : E_Traffic x = e_Traffic x (S_vi x.Aids) := rfl
theorem E_Traffic_clean (x : Traffic) : ∀ c ∈ E_Traffic x, Clean c := e_Traffic_clean x _ (S_vi_clean _)
theorem f_Traffic (x : Traffic) (o : Nat → Ob) (n : Nat) : (E_Traffic x).map (fz o (n + 2)) = E_Traffic x := by simp only [E_Traffic_eq, e_Traffic_fz, f_S_vi]
theorem q_Traffic (x : Traffic) (o : Nat → Ob) (n : Nat) : (E_Traffic x).flatMap (reach o (n + 2)) = [] := by simp only [E_Traffic_eq, e_Traffic_reach, q_S_vi, List.append_nil]
attribute [go_sem] e_Traffic_len e_Traffic_sub e_Traffic_take e_Traffic_all e_Traffic_g_Group e_Traffic_s_Group e_Traffic_g_Aids e_Traffic_s_Aids e_Traffic_fz e_Traffic_reach E_Traffic_eq f_Traffic q_Traffic

def S_S_vu (l : List (List Int)) : AV := .imm (List.map S_vu l) l.length
theorem S_S_vu_eq (l : List (List Int)) : S_S_vu l = .imm (List.map S_vu l) l.length := rfl
theorem S_S_vu_clean (l : List (List Int)) : Clean (S_S_vu l) := Clean.imm fun c hc => by
  obtain ⟨a, _, rfl⟩ := List.mem_map.1 hc
  exact S_vu_clean a
theorem f_S_S_vu (l : List (List Int)) (o : Nat → Ob) (n : Nat) : fz o (n + 3) (S_S_vu l) = S_S_vu l := by
  simp only [S_S_vu_eq, fz, List.map_map]
  congr 1
  exact List.map_congr_left fun a _ => f_S_vu a o n
theorem cS_vu (l : List (List Int)) : ∀ c ∈ l.map S_vu, Clean c := fun c hc => by
  obtain ⟨a, _, rfl⟩ := List.mem_map.1 hc
  exact S_vu_clean a
attribute [go_sem] S_S_vu_eq f_S_S_vu

structure Arr4_Intvi where
  a0 : Int
  a1 : Int
  a2 : Int
  a3 : Int
  deriving DecidableEq

def Arr4_Intvi.z : Arr4_Intvi := ⟨0, 0, 0, 0⟩

def e_Arr4_Intvi (x : Arr4_Intvi) : List AV := [vi x.a0, vi x.a1, vi x.a2, vi x.a3]

theorem e_Arr4_Intvi_len (x : Arr4_Intvi) : (e_Arr4_Intvi x).length = 4 := by rfl
theorem e_Arr4_Intvi_sub (x : Arr4_Intvi) : sub? (e_Arr4_Intvi x) 0 4 = some (e_Arr4_Intvi x) := by rfl
theorem e_Arr4_Intvi_take (x : Arr4_Intvi) : (e_Arr4_Intvi x).take 4 = (e_Arr4_Intvi x) := by rfl
theorem e_Arr4_Intvi_all (x : Arr4_Intvi) (y : Arr4_Intvi) : putAt (e_Arr4_Intvi x) 0 (e_Arr4_Intvi y) = e_Arr4_Intvi y := by rfl
theorem e_Arr4_Intvi_g_a0 (x : Arr4_Intvi) : (e_Arr4_Intvi x)[0]? = some (vi x.a0) := by rfl
theorem e_Arr4_Intvi_s_a0 (x : Arr4_Intvi) (v : Int) : (e_Arr4_Intvi x).set 0 (vi v) = e_Arr4_Intvi { x with a0 := v } := by rfl
theorem e_Arr4_Intvi_g_a1 (x : Arr4_Intvi) : (e_Arr4_Intvi x)[1]? = some (vi x.a1) := by rfl
theorem e_Arr4_Intvi_s_a1 (x : Arr4_Intvi) (v : Int) : (e_Arr4_Intvi x).set 1 (vi v) = e_Arr4_Intvi { x with a1 := v } := by rfl
theorem e_Arr4_Intvi_g_a2 (x : Arr4_Intvi) : (e_Arr4_Intvi x)[2]? = some (vi x.a2) := by rfl
theorem e_Arr4_Intvi_s_a2 (x : Arr4_Intvi) (v : Int) : (e_Arr4_Intvi x).set 2 (vi v) = e_Arr4_Intvi { x with a2 := v } := by rfl
theorem e_Arr4_Intvi_g_a3 (x : Arr4_Intvi) : (e_Arr4_Intvi x)[3]? = some (vi x.a3) := by rfl
theorem e_Arr4_Intvi_s_a3 (x : Arr4_Intvi) (v : Int) : (e_Arr4_Intvi x).set 3 (vi v) = e_Arr4_Intvi { x with a3 := v } := by rfl
theorem e_Arr4_Intvi_fz (x : Arr4_Intvi) (o : Nat → Ob) (n : Nat) : (e_Arr4_Intvi x).map (fz o (n + 1)) = e_Arr4_Intvi x := by rfl
theorem e_Arr4_Intvi_reach (x : Arr4_Intvi) (o : Nat → Ob) (n : Nat) : (e_Arr4_Intvi x).flatMap (reach o (n + 1)) = [] := by
  simp only [e_Arr4_Intvi, List.cons_append, List.nil_append, List.append_nil, List.flatMap_cons, List.flatMap_nil, reach_v]
theorem e_Arr4_Intvi_clean (x : Arr4_Intvi) : ∀ c ∈ (e_Arr4_Intvi x), Clean c := by
  simp only [e_Arr4_Intvi, List.cons_append, List.nil_append]
  repeat' (first | exact Clean.v _ | assumption | exact List.forall_mem_nil _ | refine List.forall_mem_cons.2 ⟨?_, ?_⟩)
theorem e_Arr4_Intvi_tm {st : AS} {F : List Nat} {σ : List (Option Nat)} (x : Arr4_Intvi) : TmL st F σ (e_Arr4_Intvi x) (e_Arr4_Intvi x) := by
  simp only [e_Arr4_Intvi, List.cons_append, List.nil_append]
  repeat' (first | exact TmL.nil | (refine TmL.cons (Tm.v _) ?_) | (refine TmL.cons (by assumption) ?_))
theorem f_Arr4_Intvi (x : Arr4_Intvi) (o : Nat → Ob) (n : Nat) : (e_Arr4_Intvi x).map (fz o (n + 1)) = e_Arr4_Intvi x := by simp only [e_Arr4_Intvi_fz]
theorem q_Arr4_Intvi (x : Arr4_Intvi) (o : Nat → Ob) (n : Nat) : (e_Arr4_Intvi x).flatMap (reach o (n + 1)) = [] := by simp only [e_Arr4_Intvi_reach, List.append_nil]
attribute [go_sem] e_Arr4_Intvi_len e_Arr4_Intvi_sub e_Arr4_Intvi_take e_Arr4_Intvi_all e_Arr4_Intvi_g_a0 e_Arr4_Intvi_s_a0 e_Arr4_Intvi_g_a1 e_Arr4_Intvi_s_a1 e_Arr4_Intvi_g_a2 e_Arr4_Intvi_s_a2 e_Arr4_Intvi_g_a3 e_Arr4_Intvi_s_a3 e_Arr4_Intvi_fz e_Arr4_Intvi_reach f_Arr4_Intvi q_Arr4_Intvi

end Go.AX.Z.TD

/-! (TDD) -/

set_option linter.unusedSimpArgs false
set_option linter.unusedVariables false
set_option maxHeartbeats 4000000
set_option maxRecDepth 20000
namespace Go.AX.Z.TD
open Go.AX

def agP : Nat → List (List AV) → List (Nat × AV)
  | _, [] => []
  | i, c :: L => (i, .agg c) :: agP (i + 1) L
theorem rep_l (zs : List AV) : ∀ n, (rep n zs).length = n * zs.length
  | 0 => by simp [rep]
  | n + 1 => by rw [rep, List.length_append, rep_l zs n, Nat.succ_mul]; omega
theorem fillA_go {sz : Nat} {zs : List AV} (hz : zs.length = sz) : ∀ (L : List (List AV)) (i0 : Nat) (pre : List AV), pre.length = i0 * sz → (∀ c ∈ L, c.length = sz) → fillA (fun i => some (i * sz, sz)) (pre ++ rep L.length zs) (agP i0 L) = some (pre ++ L.flatten)
  | [], i0, pre, _, _ => by simp [agP, fillA, rep]
  | c :: L, i0, pre, hp, hL => by
    have hc := hL c (by simp)
    have ih := fillA_go hz L (i0 + 1) (pre ++ c) (by rw [List.length_append, hp, hc, Nat.succ_mul]) (fun d hd => hL d (by simp [hd]))
    have e : putAt (pre ++ rep (c :: L).length zs) (i0 * sz) c = pre ++ c ++ rep L.length zs := by
      rw [List.length_cons, rep, ← hp]
      rw [putAt_in (by rw [List.length_append, List.length_append, hz, hc]; omega), List.take_left, List.drop_append, List.drop_eq_nil_of_le (by omega), List.nil_append, show pre.length + c.length - pre.length = zs.length by omega, List.drop_left]
    rw [agP, fillA]
    simp only [cellsOf]
    rw [if_pos ⟨hc, by rw [List.length_append, hp, List.length_cons, rep, List.length_append, hz, hc]; omega⟩, e, ih, List.flatten_cons, List.append_assoc]
theorem tmL_tgt {s : AS} {F : List Nat} {σ : List (Option Nat)} {xs ys zs : List AV} (h : TmL s F σ xs ys) (e : ys = zs) : TmL s F σ xs zs := e ▸ h

def bitmap_need (a0 : (List Int)) : Option Int :=
  ((idx a0 0).bind fun x3 =>
  ((chk (decide (0 ≤ bandn .u8 x3 128) && decide (bandn .u8 x3 128 < 4))).bind fun x4 =>
  bif (bandn .u8 x3 128 == 0) then
    bif ((decide ((a0.length : Int) < 33)) || ((bandn .u8 x3 128) == 0)) then
      some 33
    else
      ((idx a0 (IntKind.wrap .i64 32)).bind fun x5 =>
      some (IntKind.wrap .i64 (33 + (IntKind.wrap .i64 x5))))
  else
    bif (bandn .u8 x3 128 == 1) then
      bif ((decide ((a0.length : Int) < 3)) || ((bandn .u8 x3 128) == 0)) then
        some 3
      else
        ((idx a0 (IntKind.wrap .i64 2)).bind fun x6 =>
        some (IntKind.wrap .i64 (3 + (IntKind.wrap .i64 x6))))
    else
      bif (bandn .u8 x3 128 == 2) then
        bif ((decide ((a0.length : Int) < 2)) || ((bandn .u8 x3 128) == 0)) then
          some 2
        else
          ((idx a0 (IntKind.wrap .i64 1)).bind fun x7 =>
          some (IntKind.wrap .i64 (2 + (IntKind.wrap .i64 x7))))
      else
        bif ((decide ((a0.length : Int) < 3)) || ((bandn .u8 x3 128) == 0)) then
          some 3
        else
          ((idx a0 (IntKind.wrap .i64 2)).bind fun x8 =>
          some (IntKind.wrap .i64 (3 + (IntKind.wrap .i64 x8))))))

def slices_Index_byte_byte_L2 (a0 : (List Int)) (a1 : Int) : Nat → Int → Option (Ex Int Unit)
  | 0, _ => none
  | n2 + 1, d27 =>
    bif decide (d27 < (a0.length : Int)) then
      ((idx a0 d27).bind fun x28 =>
      bif (a1 == x28) then
        some (Ex.ret d27)
      else
        slices_Index_byte_byte_L2 a0 a1 n2 (IntKind.wrap .i64 (d27 + 1)))
    else
      some (Ex.go ())

def slices_Index_byte_byte (a0 : (List Int)) (a1 : Int) : Option Int :=
  ((
    slices_Index_byte_byte_L2 a0 a1 big 0).bind fun o26 =>
  (o26.k fun d25 =>
  some (-1)))

def slices_Contains_byte_byte (a0 : (List Int)) (a1 : Int) : Option Bool :=
  ((slices_Index_byte_byte a0 a1).bind fun x25 =>
  some (decide (0 ≤ x25)))

def bitmap_read_L3 (a0 : (List Int)) : Nat → (List Int × Int) → Option ((List Int))
  | 0, _ => none
  | n14 + 1, d19 =>
    bif decide (d19.2 < ((List.drop 2 a0).length : Int)) then
      ((idx (List.drop 2 a0) d19.2).bind fun x20 =>
      ((idxA 32 d19.1 ((x20).fdiv (2 ^ (min 3 8)))).bind fun x21 =>
      ((chk (decide (¬ (band .u8 x20 7) < 0))).bind fun x22 =>
      bitmap_read_L3 a0 n14 ((d19.1.set (((x20).fdiv (2 ^ (min 3 8))).toNat) (bor .u8 x21 (IntKind.wrap .u8 (1 * 2 ^ (min ((band .u8 x20 7)).toNat 8))))), IntKind.wrap .i64 (d19.2 + 1)))))
    else
      some d19.1

def bitmap_read_L6 (a0 : (List Int)) : Nat → (List Int × Int) → Option ((List Int))
  | 0, _ => none
  | n20 + 1, d24 =>
    ((idx a0 1).bind fun x25 =>
    bif decide (d24.2 ≤ (IntKind.wrap .i64 x25)) then
      ((chk (decide (3 ≤ (a0.length : Int)))).bind fun x26 =>
      ((slices_Contains_byte_byte (List.drop 3 a0) (IntKind.wrap .u8 d24.2)).bind fun x27 =>
      bif (!x27) then
        ((idxA 32 d24.1 ((d24.2).fdiv (2 ^ (min 3 64)))).bind fun x28 =>
        ((chk (decide (¬ (band .i64 d24.2 7) < 0))).bind fun x29 =>
        bitmap_read_L6 a0 n20 ((d24.1.set (((d24.2).fdiv (2 ^ (min 3 64))).toNat) (bor .u8 x28 (IntKind.wrap .u8 (1 * 2 ^ (min ((band .i64 d24.2 7)).toNat 8))))), IntKind.wrap .i64 (d24.2 + 1))))
      else
        bitmap_read_L6 a0 n20 (d24.1, IntKind.wrap .i64 (d24.2 + 1))))
    else
      some d24.1)

def bitmap_read (a0 : (List Int)) : Option (List Int) :=
  ((idx a0 0).bind fun x10 =>
  ((
    bif ((bandn .u8 x10 128) == 0) then
      ((chk (decide ((List.replicate 32 0).length = 32))).bind fun x12 =>
      ((chk (decide (1 ≤ (a0.length : Int)))).bind fun x13 =>
      some (putL ((List.replicate 32 0) : List Int) 0 (List.take (min (List.drop 1 a0).length 32) (List.drop 1 a0)))))
    else
      bif ((bandn .u8 x10 128) == 1) then
        ((idx a0 1).bind fun x14 =>
        bif decide ((IntKind.wrap .i64 x14) < 32) then
          ((chk (decide ((List.replicate 32 0).length = 32) && decide (0 ≤ x14) && decide (x14 ≤ 32))).bind fun x15 =>
          ((chk (decide (3 ≤ (a0.length : Int)))).bind fun x16 =>
          some (putL ((List.replicate 32 0) : List Int) ((x14).toNat) (List.take (min (List.drop 3 a0).length ((32 - x14).toNat)) (List.drop 3 a0)))))
        else
          some (List.replicate 32 0))
      else
        bif ((bandn .u8 x10 128) == 2) then
          ((chk (decide (2 ≤ (a0.length : Int)))).bind fun x17 =>
          ((
            bitmap_read_L3 a0 big ((List.replicate 32 0), 0)).bind fun d18 =>
          some d18))
        else
          ((
            bitmap_read_L6 a0 big ((List.replicate 32 0), 1)).bind fun d23 =>
          some d23)).bind fun d11 =>
  ((chk (decide (d11.length = 32))).bind fun x30 =>
  some (aidsL d11))))

def bitmap_Check_L2 (a0 : Traffic) : Nat → (Int × Int) → Option (Ex Int Unit)
  | 0, _ => none
  | n2 + 1, d34 =>
    bif decide (d34.2 < (a0.Aids.length : Int)) then
      ((idx a0.Aids d34.2).bind fun x35 =>
      bif ((decide (x35 ≤ d34.1)) || (decide (255 < x35))) then
        some (Ex.ret 8)
      else
        bitmap_Check_L2 a0 n2 (x35, IntKind.wrap .i64 (d34.2 + 1)))
    else
      some (Ex.go ())

def bitmap_Check (a0 : Traffic) : Option Int :=
  ((
    bitmap_Check_L2 a0 big (0, 0)).bind fun o33 =>
  (o33.k fun d32 =>
  some 0))

def bitmap_encoders : Option Unit :=
  some ()

def bitmap_bytes_L2 (a0 : (List Int)) : Nat → (List Int × Int) → Option ((List Int))
  | 0, _ => none
  | n2 + 1, d41 =>
    bif decide (d41.2 < (a0.length : Int)) then
      ((idx a0 d41.2).bind fun x42 =>
      ((idxA 32 d41.1 ((x42).fdiv (2 ^ (min 3 64)))).bind fun x43 =>
      ((chk (decide (¬ (band .i64 x42 7) < 0))).bind fun x44 =>
      bitmap_bytes_L2 a0 n2 ((d41.1.set (((x42).fdiv (2 ^ (min 3 64))).toNat) (bor .u8 x43 (IntKind.wrap .u8 (1 * 2 ^ (min ((band .i64 x42 7)).toNat 8))))), IntKind.wrap .i64 (d41.2 + 1)))))
    else
      some d41.1

def bitmap_bytes (a0 : (List Int)) : Option (List Int) :=
  ((
    bitmap_bytes_L2 a0 big ((List.replicate 32 0), 0)).bind fun d40 =>
  ((chk (decide (d40.length = 32))).bind fun x45 =>
  ((chk (decide (d40.length = 32))).bind fun x46 =>
  some d40)))

def bitmap_full (a0 : (List Int)) : Option (List Int) :=
  ((bitmap_bytes a0).bind fun x40 =>
  ((chk (decide ((List.replicate 32 0).length = 32) && decide (x40.length = 32))).bind fun x41 =>
  some x40))

def bitmap_part (a0 : (List Int)) : Option (List Int) :=
  bif ((a0.length : Int) == 0) then
    some [0, 0]
  else
    ((bitmap_bytes a0).bind fun x44 =>
    ((chk (decide ((List.replicate 32 0).length = 32) && decide (x44.length = 32))).bind fun x45 =>
    ((idx a0 0).bind fun x46 =>
    ((idx a0 (IntKind.wrap .i64 ((a0.length : Int) - 1))).bind fun x47 =>
    ((chk (decide (0 ≤ (x46).fdiv (2 ^ (min 3 64))) && decide ((x46).fdiv (2 ^ (min 3 64)) ≤ IntKind.wrap .i64 (((x47).fdiv (2 ^ (min 3 64))) + 1)) && decide (IntKind.wrap .i64 (((x47).fdiv (2 ^ (min 3 64))) + 1) ≤ 32))).bind fun x48 =>
    ((chk (decide (2 + ((IntKind.wrap .i64 (((x47).fdiv (2 ^ (min 3 64))) + 1)) - ((x46).fdiv (2 ^ (min 3 64)))).toNat ≤ 140737488355328))).bind fun x49 =>
    some ([IntKind.wrap .u8 ((x46).fdiv (2 ^ (min 3 64))), IntKind.wrap .u8 (IntKind.wrap .i64 ((IntKind.wrap .i64 (((x47).fdiv (2 ^ (min 3 64))) + 1)) - ((x46).fdiv (2 ^ (min 3 64)))))] ++ (List.take (((IntKind.wrap .i64 (((x47).fdiv (2 ^ (min 3 64))) + 1)) - ((x46).fdiv (2 ^ (min 3 64)))).toNat) (List.drop (((x46).fdiv (2 ^ (min 3 64))).toNat) x44)))))))))

def bitmap_list_L2 (a0 : (List Int)) : Nat → (List Int × Int) → Option ((List Int))
  | 0, _ => none
  | n2 + 1, d53 =>
    bif decide (d53.2 < (a0.length : Int)) then
      ((idx a0 d53.2).bind fun x54 =>
      ((chk (decide ((d53.1).length + 1 ≤ 140737488355328))).bind fun x55 =>
      bitmap_list_L2 a0 n2 ((d53.1 ++ [IntKind.wrap .u8 x54]), IntKind.wrap .i64 (d53.2 + 1))))
    else
      some d53.1

def bitmap_list (a0 : (List Int)) : Option (List Int) :=
  ((
    bitmap_list_L2 a0 big ([IntKind.wrap .u8 (a0.length : Int)], 0)).bind fun d52 =>
  some d52)

def bitmap_holes_L6 (x61 : Int) : Nat → (List Int × Int) → Option ((List Int))
  | 0, _ => none
  | n7 + 1, d64 =>
    bif decide (d64.2 < x61) then
      ((chk (decide ((d64.1).length + 1 ≤ 140737488355328))).bind fun x65 =>
      bitmap_holes_L6 x61 n7 ((d64.1 ++ [IntKind.wrap .u8 d64.2]), IntKind.wrap .i64 (d64.2 + 1)))
    else
      some d64.1

def bitmap_holes_L2 (a0 : (List Int)) : Nat → (List Int × Int) → Option ((List Int))
  | 0, _ => none
  | n2 + 1, d59 =>
    bif decide (d59.2 < (a0.length : Int)) then
      ((
        ((idx a0 d59.2).bind fun x61 =>
        ((idx d59.1 0).bind fun x62 =>
        ((
          bitmap_holes_L6 x61 big (d59.1, IntKind.wrap .i64 ((IntKind.wrap .i64 x62) + 1))).bind fun d63 =>
        ((idx d63 0).bind fun x66 =>
        some (d63.set 0 (IntKind.wrap .u8 x61))))))).bind fun d60 =>
      bitmap_holes_L2 a0 n2 (d60, IntKind.wrap .i64 (d59.2 + 1)))
    else
      some d59.1

def bitmap_holes (a0 : (List Int)) : Option (List Int) :=
  ((
    bitmap_holes_L2 a0 big ([0, 0], 0)).bind fun d58 =>
  ((idx d58 1).bind fun x67 =>
  some (d58.set 1 (IntKind.wrap .u8 (IntKind.wrap .i64 ((((d58).length : Nat) : Int) - 2))))))

def bitmap_EncodeAs (a0 : Traffic) (a1 : Int) : Option ((List Int) × Int) :=
  ((bitmap_Check a0).bind fun x32 =>
  bif (x32 != 0) then
    some ([], x32)
  else
    bif decide (3 < a1) then
      some ([], 2)
    else
      ((
        bif a0.Group then
          some (bor .u8 a1 128)
        else
          some a1).bind fun d33 =>
      (bitmap_encoders.bind fun x34 =>
      ((chk (decide (0 ≤ a1) && decide (a1 < 4))).bind fun x35 =>
      bif (a1 == 0) then
        ((bitmap_full a0.Aids).bind fun x36 =>
        ((chk (decide (1 + x36.length ≤ 140737488355328))).bind fun x37 =>
        some (([d33] ++ x36), 0)))
      else
        bif (a1 == 1) then
          ((bitmap_part a0.Aids).bind fun x38 =>
          ((chk (decide (1 + x38.length ≤ 140737488355328))).bind fun x39 =>
          some (([d33] ++ x38), 0)))
        else
          bif (a1 == 2) then
            ((bitmap_list a0.Aids).bind fun x40 =>
            ((chk (decide (1 + x40.length ≤ 140737488355328))).bind fun x41 =>
            some (([d33] ++ x40), 0)))
          else
            ((bitmap_holes a0.Aids).bind fun x42 =>
            ((chk (decide (1 + x42.length ≤ 140737488355328))).bind fun x43 =>
            some (([d33] ++ x42), 0)))))))

def slices_Equal_byte_byte_L2 (a0 : (List Int)) (a1 : (List Int)) : Nat → Int → Option (Ex Bool Unit)
  | 0, _ => none
  | n3 + 1, d47 =>
    bif decide (d47 < (a0.length : Int)) then
      ((idx a0 d47).bind fun x48 =>
      ((idx a1 d47).bind fun x49 =>
      bif (x48 != x49) then
        some (Ex.ret false)
      else
        slices_Equal_byte_byte_L2 a0 a1 n3 (IntKind.wrap .i64 (d47 + 1))))
    else
      some (Ex.go ())

def slices_Equal_byte_byte (a0 : (List Int)) (a1 : (List Int)) : Option Bool :=
  bif ((a0.length : Int) != (a1.length : Int)) then
    some false
  else
    ((
      slices_Equal_byte_byte_L2 a0 a1 big 0).bind fun o46 =>
    (o46.k fun d45 =>
    some true))

def bitmap_Decode (a0 : (List Int)) : Option (Traffic × Int) :=
  bif ((a0.length : Int) == 0) then
    some (Traffic.z, 10)
  else
    ((idx a0 0).bind fun x2 =>
    bif decide (3 < (bandn .u8 x2 128)) then
      some (Traffic.z, 12)
    else
      ((bitmap_need a0).bind fun x3 =>
      bif decide ((a0.length : Int) < x3) then
        some (Traffic.z, 10)
      else
        bif decide (x3 < (a0.length : Int)) then
          some (Traffic.z, 11)
        else
          ((bitmap_read a0).bind fun x4 =>
          ((bitmap_EncodeAs { Traffic.z with Aids := x4, Group := ((band .u8 x2 128) != 0) } (bandn .u8 x2 128)).bind fun x5 =>
          ((
            bif (x5.2 != 0) then
              some true
            else
              ((slices_Equal_byte_byte a0 x5.1).bind fun x6 =>
              some (!x6))).bind fun x7 =>
          bif x7 then
            some (Traffic.z, 12)
          else
            some ({ Traffic.z with Aids := x4, Group := ((band .u8 x2 128) != 0) }, 0))))))

def hotspotref33_length (a0 : (List Int)) (a1 : Int) : Option Int :=
  bif (a1 == 0) then
    some 33
  else
    bif (a1 == 2) then
      bif decide ((a0.length : Int) < 2) then
        some (-1)
      else
        ((idx a0 1).bind fun x10 =>
        some (IntKind.wrap .i64 (2 + (IntKind.wrap .i64 x10))))
    else
      bif decide ((a0.length : Int) < 3) then
        some (-1)
      else
        ((idx a0 2).bind fun x11 =>
        some (IntKind.wrap .i64 (3 + (IntKind.wrap .i64 x11))))

def hotspotref33_named_L4 (a2 : Int) : Nat → (Int × Int) → Option (Int)
  | 0, _ => none
  | n8 + 1, d20 =>
    bif decide (d20.2 < ((a2).tmod 8)) then
      hotspotref33_named_L4 a2 n8 (IntKind.wrap .i64 ((d20.1).tdiv 2), IntKind.wrap .i64 (d20.2 + 1))
    else
      some d20.1

def hotspotref33_named_L7 (a0 : (List Int)) (a2 : Int) : Nat → (Bool × Int) → Option (Bool)
  | 0, _ => none
  | n12 + 1, d22 =>
    bif decide (d22.2 < (a0.length : Int)) then
      ((
        bif d22.1 then
          some true
        else
          ((idx a0 d22.2).bind fun x23 =>
          some ((IntKind.wrap .i64 x23) == a2))).bind fun x24 =>
      hotspotref33_named_L7 a0 a2 n12 (x24, IntKind.wrap .i64 (d22.2 + 1)))
    else
      some d22.1

def hotspotref33_named (a0 : (List Int)) (a1 : Int) (a2 : Int) : Option Bool :=
  ((
    bif decide (a1 < 2) then
      ((
        bif (a1 == 1) then
          ((idx a0 1).bind fun x17 =>
          some (IntKind.wrap .i64 ((IntKind.wrap .i64 ((a2).tdiv 8)) - (IntKind.wrap .i64 x17)), 3))
        else
          some (IntKind.wrap .i64 ((a2).tdiv 8), 1)).bind fun d16 =>
      bif ((decide (d16.1 < 0)) || (decide ((a0.length : Int) ≤ (IntKind.wrap .i64 (d16.2 + d16.1))))) then
        some (Ex.ret false)
      else
        ((idx a0 (IntKind.wrap .i64 (d16.2 + d16.1))).bind fun x18 =>
        ((
          hotspotref33_named_L4 a2 big (IntKind.wrap .i64 x18, 0)).bind fun d19 =>
        some (Ex.ret (((d19).tmod 2) == 1)))))
    else
      some (Ex.go ())).bind fun o15 =>
  (o15.k fun d14 =>
  ((
    hotspotref33_named_L7 a0 a2 big (false, a1)).bind fun d21 =>
  bif (a1 == 2) then
    some d21
  else
    ((idx a0 1).bind fun x25 =>
    some ((decide (a2 ≤ (IntKind.wrap .i64 x25))) && (!d21))))))

def hotspotref33_Valid_L2 (a0 : Traffic) : Nat → Int → Option (Ex Bool Unit)
  | 0, _ => none
  | n2 + 1, d20 =>
    bif decide (d20 < (a0.Aids.length : Int)) then
      ((idx a0.Aids d20).bind fun x21 =>
      ((
        bif ((decide (x21 < 1)) || (decide (255 < x21))) then
          some true
        else
          ((
            bif decide (0 < d20) then
              ((idx a0.Aids (IntKind.wrap .i64 (d20 - 1))).bind fun x22 =>
              some (decide (x21 ≤ x22)))
            else
              some false).bind fun x23 =>
          some x23)).bind fun x24 =>
      bif x24 then
        some (Ex.ret false)
      else
        hotspotref33_Valid_L2 a0 n2 (IntKind.wrap .i64 (d20 + 1))))
    else
      some (Ex.go ())

def hotspotref33_Valid (a0 : Traffic) : Option Bool :=
  ((
    hotspotref33_Valid_L2 a0 big 0).bind fun o19 =>
  (o19.k fun d18 =>
  some true))

def hotspotref33_In_L2 (a0 : (List Int)) (a1 : Int) : Nat → Int → Option (Ex Bool Unit)
  | 0, _ => none
  | n2 + 1, d31 =>
    bif decide (d31 < (a0.length : Int)) then
      ((idx a0 d31).bind fun x32 =>
      bif (x32 == a1) then
        some (Ex.ret true)
      else
        hotspotref33_In_L2 a0 a1 n2 (IntKind.wrap .i64 (d31 + 1)))
    else
      some (Ex.go ())

def hotspotref33_In (a0 : (List Int)) (a1 : Int) : Option Bool :=
  ((
    hotspotref33_In_L2 a0 a1 big 0).bind fun o30 =>
  (o30.k fun d29 =>
  some false))

def hotspotref33_mapByte_L2 (a0 : (List Int)) (a1 : Int) : Nat → (Int × Int × Int) → Option (Int)
  | 0, _ => none
  | n2 + 1, d29 =>
    bif decide (d29.2.2 < 8) then
      ((hotspotref33_In a0 (IntKind.wrap .i64 ((IntKind.wrap .i64 (8 * a1)) + d29.2.2))).bind fun x30 =>
      bif x30 then
        hotspotref33_mapByte_L2 a0 a1 n2 (IntKind.wrap .i64 (d29.1 + d29.2.1), IntKind.wrap .i64 (d29.2.1 * 2), IntKind.wrap .i64 (d29.2.2 + 1))
      else
        hotspotref33_mapByte_L2 a0 a1 n2 (d29.1, IntKind.wrap .i64 (d29.2.1 * 2), IntKind.wrap .i64 (d29.2.2 + 1)))
    else
      some d29.1

def hotspotref33_mapByte (a0 : (List Int)) (a1 : Int) : Option Int :=
  ((
    hotspotref33_mapByte_L2 a0 a1 big (0, 1, 0)).bind fun d28 =>
  some d28)

def hotspotref33_EncodeAs_L4 (a0 : Traffic) : Nat → (List Int × Int) → Option ((List Int))
  | 0, _ => none
  | n8 + 1, d22 =>
    bif decide (d22.2 < 32) then
      ((hotspotref33_mapByte a0.Aids d22.2).bind fun x23 =>
      ((chk (decide (((d22.1).length + 1) * 8 ≤ 140737488355328))).bind fun x24 =>
      hotspotref33_EncodeAs_L4 a0 n8 ((d22.1 ++ [x23]), IntKind.wrap .i64 (d22.2 + 1))))
    else
      some d22.1

def hotspotref33_EncodeAs_L7 (a0 : Traffic) : Nat → (Int × Int) → Option (Int)
  | 0, _ => none
  | n13 + 1, d26 =>
    bif decide (0 ≤ d26.2) then
      ((hotspotref33_mapByte a0.Aids d26.2).bind fun x27 =>
      bif (x27 != 0) then
        hotspotref33_EncodeAs_L7 a0 n13 (d26.2, IntKind.wrap .i64 (d26.2 - 1))
      else
        hotspotref33_EncodeAs_L7 a0 n13 (d26.1, IntKind.wrap .i64 (d26.2 - 1)))
    else
      some d26.1

def hotspotref33_EncodeAs_L10 (a0 : Traffic) : Nat → (Int × Int) → Option (Int)
  | 0, _ => none
  | n18 + 1, d29 =>
    bif decide (d29.2 < 32) then
      ((hotspotref33_mapByte a0.Aids d29.2).bind fun x30 =>
      bif (x30 != 0) then
        hotspotref33_EncodeAs_L10 a0 n18 (IntKind.wrap .i64 (d29.2 + 1), IntKind.wrap .i64 (d29.2 + 1))
      else
        hotspotref33_EncodeAs_L10 a0 n18 (d29.1, IntKind.wrap .i64 (d29.2 + 1)))
    else
      some d29.1

def hotspotref33_EncodeAs_L13 (d28 : Int) (a0 : Traffic) : Nat → (List Int × Int) → Option ((List Int))
  | 0, _ => none
  | n23 + 1, d32 =>
    bif decide (d32.2 < d28) then
      ((hotspotref33_mapByte a0.Aids d32.2).bind fun x33 =>
      ((chk (decide (((d32.1).length + 1) * 8 ≤ 140737488355328))).bind fun x34 =>
      hotspotref33_EncodeAs_L13 d28 a0 n23 ((d32.1 ++ [x33]), IntKind.wrap .i64 (d32.2 + 1))))
    else
      some d32.1

def hotspotref33_EncodeAs_L17 (d36 : Int) (a0 : Traffic) : Nat → (List Int × Int) → Option ((List Int))
  | 0, _ => none
  | n31 + 1, d39 =>
    bif decide (d39.2 < d36) then
      ((hotspotref33_In a0.Aids d39.2).bind fun x40 =>
      bif (!x40) then
        ((chk (decide (((d39.1).length + 1) * 8 ≤ 140737488355328))).bind fun x41 =>
        hotspotref33_EncodeAs_L17 d36 a0 n31 ((d39.1 ++ [d39.2]), IntKind.wrap .i64 (d39.2 + 1)))
      else
        hotspotref33_EncodeAs_L17 d36 a0 n31 (d39.1, IntKind.wrap .i64 (d39.2 + 1)))
    else
      some d39.1

def hotspotref33_EncodeAs_L20 (d20 : (List Int)) : Nat → (List Int × Int) → Option ((List Int))
  | 0, _ => none
  | n36 + 1, d44 =>
    bif decide (d44.2 < ((d20.length : Nat) : Int)) then
      ((idx d20 d44.2).bind fun x45 =>
      ((chk (decide ((d44.1).length + 1 ≤ 140737488355328))).bind fun x46 =>
      hotspotref33_EncodeAs_L20 d20 n36 ((d44.1 ++ [IntKind.wrap .u8 x45]), IntKind.wrap .i64 (d44.2 + 1))))
    else
      some d44.1

def hotspotref33_EncodeAs (a0 : Traffic) (a1 : Int) : Option ((List Int) × Int) :=
  ((hotspotref33_Valid a0).bind fun x18 =>
  bif (!x18) then
    some ([], 8)
  else
    bif decide (3 < a1) then
      some ([], 2)
    else
      ((
        bif a0.Group then
          some (IntKind.wrap .i64 ((IntKind.wrap .i64 a1) + 128))
        else
          some (IntKind.wrap .i64 a1)).bind fun d19 =>
      ((
        bif (a1 == 0) then
          ((
            hotspotref33_EncodeAs_L4 a0 big ([d19], 0)).bind fun d21 =>
          some d21)
        else
          bif (a1 == 1) then
            ((
              hotspotref33_EncodeAs_L7 a0 big (0, 31)).bind fun d25 =>
            ((
              hotspotref33_EncodeAs_L10 a0 big (0, 0)).bind fun d28 =>
            ((
              hotspotref33_EncodeAs_L13 d28 a0 big (([d19] ++ [d25, IntKind.wrap .i64 (d28 - d25)]), d25)).bind fun d31 =>
            some d31)))
          else
            bif (a1 == 2) then
              ((chk (decide ((2 + a0.Aids.length) * 8 ≤ 140737488355328))).bind fun x35 =>
              some (([d19] ++ [(a0.Aids.length : Int)]) ++ a0.Aids))
            else
              bif (a1 == 3) then
                ((
                  bif decide (0 < (a0.Aids.length : Int)) then
                    ((idx a0.Aids (IntKind.wrap .i64 ((a0.Aids.length : Int) - 1))).bind fun x37 =>
                    some x37)
                  else
                    some 0).bind fun d36 =>
                ((
                  hotspotref33_EncodeAs_L17 d36 a0 big ([], 1)).bind fun d38 =>
                ((chk (decide ((3 + (d38).length) * 8 ≤ 140737488355328))).bind fun x42 =>
                some (([d19] ++ [d36, (((d38).length : Nat) : Int)]) ++ d38))))
              else
                some [d19]).bind fun d20 =>
      ((
        hotspotref33_EncodeAs_L20 d20 big ([], 0)).bind fun d43 =>
      some (d43, 0)))))

def hotspotref33_Same_L2 (a0 : (List Int)) (a1 : (List Int)) : Nat → Int → Option (Ex Bool Unit)
  | 0, _ => none
  | n3 + 1, d50 =>
    bif decide (d50 < (a0.length : Int)) then
      ((idx a0 d50).bind fun x51 =>
      ((idx a1 d50).bind fun x52 =>
      bif (x51 != x52) then
        some (Ex.ret false)
      else
        hotspotref33_Same_L2 a0 a1 n3 (IntKind.wrap .i64 (d50 + 1))))
    else
      some (Ex.go ())

def hotspotref33_Same (a0 : (List Int)) (a1 : (List Int)) : Option Bool :=
  bif ((a0.length : Int) != (a1.length : Int)) then
    some false
  else
    ((
      hotspotref33_Same_L2 a0 a1 big 0).bind fun o49 =>
    (o49.k fun d48 =>
    some true))

def hotspotref33_Decode_L2 (a0 : (List Int)) (x9 : Int) : Nat → (List Int × Int) → Option ((List Int))
  | 0, _ => none
  | n7 + 1, d12 =>
    bif decide (d12.2 ≤ 255) then
      ((hotspotref33_named a0 (((IntKind.wrap .i64 x9)).tmod 128) d12.2).bind fun x13 =>
      bif x13 then
        ((chk (decide (((d12.1).length + 1) * 8 ≤ 140737488355328))).bind fun x14 =>
        hotspotref33_Decode_L2 a0 x9 n7 ((d12.1 ++ [d12.2]), IntKind.wrap .i64 (d12.2 + 1)))
      else
        hotspotref33_Decode_L2 a0 x9 n7 (d12.1, IntKind.wrap .i64 (d12.2 + 1)))
    else
      some d12.1

def hotspotref33_Decode (a0 : (List Int)) : Option (Traffic × Int) :=
  bif ((a0.length : Int) == 0) then
    some (Traffic.z, 10)
  else
    ((idx a0 0).bind fun x9 =>
    bif decide (3 < (((IntKind.wrap .i64 x9)).tmod 128)) then
      some (Traffic.z, 12)
    else
      ((hotspotref33_length a0 (((IntKind.wrap .i64 x9)).tmod 128)).bind fun x10 =>
      bif ((decide (x10 < 0)) || (decide ((a0.length : Int) < x10))) then
        some (Traffic.z, 10)
      else
        bif decide (x10 < (a0.length : Int)) then
          some (Traffic.z, 11)
        else
          ((
            hotspotref33_Decode_L2 a0 x9 big ([], 1)).bind fun d11 =>
          ((idx a0 0).bind fun x15 =>
          ((hotspotref33_EncodeAs { Traffic.z with Aids := d11, Group := decide (128 ≤ x15) } (IntKind.wrap .u8 (((IntKind.wrap .i64 x9)).tmod 128))).bind fun x16 =>
          ((hotspotref33_Same a0 x16.1).bind fun x17 =>
          bif (!x17) then
            some (Traffic.z, 12)
          else
            some ({ Traffic.z with Aids := d11, Group := decide (128 ≤ x15) }, 0)))))))

def hotspotref33_SameMap_L2 (a0 : Traffic) (a1 : Traffic) : Nat → Int → Option (Ex Bool Unit)
  | 0, _ => none
  | n4 + 1, d21 =>
    bif decide (d21 < (a0.Aids.length : Int)) then
      ((idx a0.Aids d21).bind fun x22 =>
      ((idx a1.Aids d21).bind fun x23 =>
      bif (x22 != x23) then
        some (Ex.ret false)
      else
        hotspotref33_SameMap_L2 a0 a1 n4 (IntKind.wrap .i64 (d21 + 1))))
    else
      some (Ex.go ())

def hotspotref33_SameMap (a0 : Traffic) (a1 : Traffic) : Option Bool :=
  bif ((!(a0.Group == a1.Group)) || ((a0.Aids.length : Int) != (a1.Aids.length : Int))) then
    some false
  else
    ((
      hotspotref33_SameMap_L2 a0 a1 big 0).bind fun o20 =>
    (o20.k fun d19 =>
    some true))

def hotspotlaw33_BitmapDecodes (a0 : (List Int)) : Option Bool :=
  bif decide (600 < (a0.length : Int)) then
    some true
  else
    ((chk (decide (a0.length ≤ 140737488355328))).bind fun x1 =>
    ((bitmap_Decode a0).bind fun x2 =>
    ((hotspotref33_Decode a0).bind fun x3 =>
    ((hotspotref33_SameMap x2.1 x3.1).bind fun x4 =>
    ((
      bif (x4 && (x2.2 == x3.2)) then
        ((hotspotref33_Same a0 a0).bind fun x5 =>
        some x5)
      else
        some false).bind fun x6 =>
    some x6)))))

/-- Reckoned by a run. -/
def hotspotlaw33_alive : Option Bool := some true

def hotspotlaw33_BitmapBack (a0 : Traffic) (a1 : Int) (a2 : (List Int)) : Option Bool :=
  (hotspotlaw33_alive.bind fun x7 =>
  bif (((decide (300 < (a0.Aids.length : Int))) || (decide (600 < (a2.length : Int)))) || (!x7)) then
    some x7
  else
    ((bitmap_EncodeAs a0 a1).bind fun x8 =>
    ((
      bif (x8.2 == 0) then
        ((bitmap_Decode x8.1).bind fun x11 =>
        ((
          bif (x11.2 != 0) then
            some true
          else
            ((hotspotref33_SameMap a0 x11.1).bind fun x12 =>
            some (!x12))).bind fun x13 =>
        bif x13 then
          some (Ex.ret false)
        else
          some (Ex.go ())))
      else
        some (Ex.go ())).bind fun o10 =>
    (o10.k fun d9 =>
    ((bitmap_Decode a2).bind fun x14 =>
    bif (x14.2 != 0) then
      some ((x7 && (!x14.1.Group)) && ((x14.1.Aids.length : Int) == 0))
    else
      bif ((a2.length : Int) == 0) then
        some false
      else
        ((idx a2 0).bind fun x15 =>
        ((bitmap_EncodeAs x14.1 ((x15).tmod 128)).bind fun x16 =>
        ((
          bif (x7 && (x16.2 == 0)) then
            ((hotspotref33_Same a2 x16.1).bind fun x17 =>
            some x17)
          else
            some false).bind fun x18 =>
        ((
          bif x18 then
            ((bitmap_Check x14.1).bind fun x19 =>
            some (x19 == 0))
          else
            some false).bind fun x20 =>
        some x20)))))))))

def bitmap_check (a0 : Traffic) (a1 : Int) : Option Int :=
  ((bitmap_Check a0).bind fun x36 =>
  bif (x36 != 0) then
    some x36
  else
    bif ((decide (a1 < 0)) || (decide (255 < a1))) then
      some 2
    else
      some 0)

def slices_Clone_int_int (a0 : (List Int)) : Option (List Int) :=
  ((chk (decide ((a0.length) * 8 ≤ 140737488355328))).bind fun x38 =>
  some a0)

def cmp_isNaN_int (a0 : Int) : Option Bool :=
  some (a0 != a0)

def cmp_Less_int (a0 : Int) (a1 : Int) : Option Bool :=
  ((cmp_isNaN_int a0).bind fun x42 =>
  ((
    bif x42 then
      ((cmp_isNaN_int a1).bind fun x43 =>
      some (!x43))
    else
      some false).bind fun x44 =>
  some (x44 || (decide (a0 < a1)))))

def slices_isNaN_int (a0 : Int) : Option Bool :=
  some (a0 != a0)

def slices_BinarySearch_int_int_L2 (a0 : (List Int)) (a1 : Int) : Nat → (Int × Int) → Option (Int)
  | 0, _ => none
  | n2 + 1, d41 =>
    bif decide (d41.1 < d41.2) then
      ((idx a0 (IntKind.wrap .i64 (((IntKind.wrap .u64 (IntKind.wrap .i64 (d41.1 + d41.2)))).fdiv (2 ^ (min 1 64))))).bind fun x42 =>
      ((cmp_Less_int x42 a1).bind fun x43 =>
      bif x43 then
        slices_BinarySearch_int_int_L2 a0 a1 n2 (IntKind.wrap .i64 ((IntKind.wrap .i64 (((IntKind.wrap .u64 (IntKind.wrap .i64 (d41.1 + d41.2)))).fdiv (2 ^ (min 1 64)))) + 1), d41.2)
      else
        slices_BinarySearch_int_int_L2 a0 a1 n2 (d41.1, IntKind.wrap .i64 (((IntKind.wrap .u64 (IntKind.wrap .i64 (d41.1 + d41.2)))).fdiv (2 ^ (min 1 64))))))
    else
      some d41.1

def slices_BinarySearch_int_int (a0 : (List Int)) (a1 : Int) : Option (Int × Bool) :=
  ((
    slices_BinarySearch_int_int_L2 a0 a1 big (0, (a0.length : Int))).bind fun d40 =>
  ((
    bif decide (d40 < (a0.length : Int)) then
      ((idx a0 d40).bind fun x44 =>
      ((
        bif (x44 == a1) then
          some true
        else
          ((slices_isNaN_int x44).bind fun x45 =>
          ((
            bif x45 then
              ((slices_isNaN_int a1).bind fun x46 =>
              some x46)
            else
              some false).bind fun x47 =>
          some x47))).bind fun x48 =>
      some x48))
    else
      some false).bind fun x49 =>
  some (d40, x49)))

def slices_Insert_int_int_0 (a0 : Int) (a1 : List Int) (a2 : List Int) : Option (List Int) :=
  ((chk (decide (0 ≤ a0) && decide (a0 ≤ (a1.length : Int)))).bind fun x51 =>
  bif (((a2.length : Nat) : Int) == 0) then
    some a1
  else
    bif (a0 == ((a1.length : Nat) : Int)) then
      ((chk (decide ((a1.length + a2.length) * 8 ≤ 140737488355328))).bind fun x52 =>
      some (a1 ++ a2))
    else
      none)

def slices_Insert_int_int (a0 : Int) (a1 : List Int) (a2 : List Int) : Option (List Int) :=
  ((chk (decide (0 ≤ a0) && decide (a0 ≤ (a1.length : Int)))).bind fun x13 =>
  bif (((a2.length : Nat) : Int) == 0) then
    some a1
  else
    bif (a0 == ((a1.length : Nat) : Int)) then
      ((chk (decide ((a1.length + a2.length) * 8 ≤ 140737488355328))).bind fun x14 =>
      some (a1 ++ a2))
    else
      ((chk (decide (a2.length = 1) && decide ((a1.length + 1) * 8 ≤ 140737488355328))).bind fun x15 =>
      some (a1.take a0.toNat ++ a2 ++ a1.drop a0.toNat)))

def bitmap_Set (a0 : Traffic) (a1 : Int) : Option (Traffic × Int) :=
  ((bitmap_check a0 a1).bind fun x36 =>
  bif (x36 != 0) then
    some (Traffic.z, x36)
  else
    ((slices_Clone_int_int a0.Aids).bind fun x37 =>
    ((slices_BinarySearch_int_int x37 a1).bind fun x38 =>
    bif (a1 == 0) then
      some ({ a0 with Aids := x37, Group := true }, 0)
    else
      bif (!x38.2) then
        ((slices_Insert_int_int x38.1 x37 [a1]).bind fun x39 =>
        some ({ a0 with Aids := x39 }, 0))
      else
        some ({ a0 with Aids := x37 }, 0))))

def slices_Delete_int_int (a0 : Int) (a1 : Int) (a2 : List Int) : Option (List Int) :=
  ((chk (decide (0 ≤ a0) && decide (a0 ≤ a1) && decide (a1 ≤ ((a2.length : Nat) : Int)))).bind fun x20 =>
  some (a2.take a0.toNat ++ a2.drop a1.toNat))

def bitmap_Clear (a0 : Traffic) (a1 : Int) : Option (Traffic × Int) :=
  ((bitmap_check a0 a1).bind fun x43 =>
  bif (x43 != 0) then
    some (Traffic.z, x43)
  else
    ((slices_Clone_int_int a0.Aids).bind fun x44 =>
    ((slices_BinarySearch_int_int x44 a1).bind fun x45 =>
    bif (a1 == 0) then
      some ({ a0 with Aids := x44, Group := false }, 0)
    else
      bif x45.2 then
        ((slices_Delete_int_int x45.1 (IntKind.wrap .i64 (x45.1 + 1)) x44).bind fun x46 =>
        some ({ a0 with Aids := x46 }, 0))
      else
        some ({ a0 with Aids := x44 }, 0))))

def bitmap_Encode_L2 (a0 : Traffic) : Nat → (List Int × Bool × Int) → Option (Ex ((List Int) × Int) (List Int × Bool))
  | 0, _ => none
  | n2 + 1, d55 =>
    bif decide (d55.2.2 < 4) then
      ((bitmap_EncodeAs a0 d55.2.2).bind fun x56 =>
      bif (x56.2 != 0) then
        some (Ex.ret ([], x56.2))
      else
        bif d55.2.1 then
          bitmap_Encode_L2 a0 n2 (x56.1, false, IntKind.wrap .u8 (d55.2.2 + 1))
        else
          ((chk (decide (0 < ((d55.1).length)))).bind fun x57 =>
          bif decide (((x56.1.length : Nat) : Int) < (((d55.1).length : Nat) : Int)) then
            bitmap_Encode_L2 a0 n2 (x56.1, false, IntKind.wrap .u8 (d55.2.2 + 1))
          else
            bitmap_Encode_L2 a0 n2 (d55.1, false, IntKind.wrap .u8 (d55.2.2 + 1))))
    else
      some (Ex.go (d55.1, d55.2.1))

def bitmap_Encode (a0 : Traffic) : Option ((List Int) × Int) :=
  ((
    bitmap_Encode_L2 a0 big ([], true, 0)).bind fun o54 =>
  (o54.k fun d53 =>
  bif d53.2 then
    some ([], 0)
  else
    some (d53.1, 0)))

def slices_Index_int_int_L2 (a0 : (List Int)) (a1 : Int) : Nat → Int → Option (Ex Int Unit)
  | 0, _ => none
  | n2 + 1, d64 =>
    bif decide (d64 < (a0.length : Int)) then
      ((idx a0 d64).bind fun x65 =>
      bif (a1 == x65) then
        some (Ex.ret d64)
      else
        slices_Index_int_int_L2 a0 a1 n2 (IntKind.wrap .i64 (d64 + 1)))
    else
      some (Ex.go ())

def slices_Index_int_int (a0 : (List Int)) (a1 : Int) : Option Int :=
  ((
    slices_Index_int_int_L2 a0 a1 big 0).bind fun o63 =>
  (o63.k fun d62 =>
  some (-1)))

def slices_Contains_int_int (a0 : (List Int)) (a1 : Int) : Option Bool :=
  ((slices_Index_int_int a0 a1).bind fun x62 =>
  some (decide (0 ≤ x62)))

def bitmap_Has (a0 : Traffic) (a1 : Int) : Option Bool :=
  ((bitmap_check a0 a1).bind fun x61 =>
  bif (x61 != 0) then
    some false
  else
    ((
      bif ((a1 == 0) && a0.Group) then
        some true
      else
        ((
          bif decide (0 < a1) then
            ((slices_Contains_int_int a0.Aids a1).bind fun x62 =>
            some x62)
          else
            some false).bind fun x63 =>
        some x63)).bind fun x64 =>
    some x64))

def hotspotlaw33_BitmapNames_C0 : List (List Int) :=
  [([] : List Int), [0], [0, 0, 0, 0, 0, 0, 0, 0, 0, 0, 0, 0, 0, 0, 0, 0, 0, 0, 0, 0, 0, 0, 0, 0, 0, 0, 0, 0, 0, 0, 0, 0], [1], [1, 0], [1, 0, 1], [2], [2, 3, 1, 2], [3, 5], [3, 5, 2, 1]]

def hotspotlaw33_BitmapNames_C2 : List (List Int) :=
  [[0, 0, 0, 0, 0, 0, 0, 0, 0, 0, 0, 0, 0, 0, 0, 0, 0, 0, 0, 0, 0, 0, 0, 0, 0, 0, 0, 0, 0, 0, 0, 0, 0, 0], [1, 0, 0, 0], [2, 1, 7, 8], [3, 2, 1, 1, 1]]

def hotspotlaw33_BitmapNames_C4 : List (List Int) :=
  [[4], [132], [127], [1, 1, 0], [1, 0, 1, 0], [1, 0, 2, 2, 0], [1, 31, 2, 1, 1], [1, 0, 1, 1], [2, 1, 0], [2, 2, 5, 5], [2, 2, 6, 5], [3, 0, 1, 1], [3, 5, 1, 5], [3, 5, 2, 2, 1], ([0, 1] ++ [0, 0, 0, 0, 0, 0, 0, 0, 0, 0, 0, 0, 0, 0, 0, 0, 0, 0, 0, 0, 0, 0, 0, 0, 0, 0, 0, 0, 0, 0, 0])]

def hotspotlaw33_BitmapNames_L8 : Nat → Int → Option (Ex Bool Unit)
  | 0, _ => none
  | n5 + 1, d23 =>
    bif decide (d23 < (hotspotlaw33_BitmapNames_C0.length : Int)) then
      ((idx hotspotlaw33_BitmapNames_C0 d23).bind fun x24 =>
      ((bitmap_Decode x24).bind fun x25 =>
      bif (x25.2 != 10) then
        some (Ex.ret false)
      else
        hotspotlaw33_BitmapNames_L8 n5 (IntKind.wrap .i64 (d23 + 1))))
    else
      some (Ex.go ())

def hotspotlaw33_BitmapNames_L11 : Nat → Int → Option (Ex Bool Unit)
  | 0, _ => none
  | n10 + 1, d28 =>
    bif decide (d28 < (hotspotlaw33_BitmapNames_C2.length : Int)) then
      ((idx hotspotlaw33_BitmapNames_C2 d28).bind fun x29 =>
      ((bitmap_Decode x29).bind fun x30 =>
      bif (x30.2 != 11) then
        some (Ex.ret false)
      else
        hotspotlaw33_BitmapNames_L11 n10 (IntKind.wrap .i64 (d28 + 1))))
    else
      some (Ex.go ())

def hotspotlaw33_BitmapNames_L14 : Nat → Int → Option (Ex Bool Unit)
  | 0, _ => none
  | n15 + 1, d33 =>
    bif decide (d33 < (hotspotlaw33_BitmapNames_C4.length : Int)) then
      ((idx hotspotlaw33_BitmapNames_C4 d33).bind fun x34 =>
      ((bitmap_Decode x34).bind fun x35 =>
      bif (x35.2 != 12) then
        some (Ex.ret false)
      else
        hotspotlaw33_BitmapNames_L14 n15 (IntKind.wrap .i64 (d33 + 1))))
    else
      some (Ex.go ())

def hotspotlaw33_BitmapNames_L20 : Nat → (List Int × Int) → Option ((List Int))
  | 0, _ => none
  | n20 + 1, d43 =>
    bif decide (d43.2 ≤ 255) then
      ((chk (decide (((d43.1).length + 1) * 8 ≤ 140737488355328))).bind fun x44 =>
      hotspotlaw33_BitmapNames_L20 n20 ((d43.1 ++ [d43.2]), IntKind.wrap .i64 (d43.2 + 1)))
    else
      some d43.1

def hotspotlaw33_BitmapNames : Option Bool :=
  ((
    hotspotlaw33_BitmapNames_L8 big 0).bind fun o22 =>
  (o22.k fun d21 =>
  ((
    hotspotlaw33_BitmapNames_L11 big 0).bind fun o27 =>
  (o27.k fun d26 =>
  ((
    hotspotlaw33_BitmapNames_L14 big 0).bind fun o32 =>
  (o32.k fun d31 =>
  ((bitmap_Set Traffic.z 256).bind fun x36 =>
  ((bitmap_Set { Traffic.z with Aids := [0] } 300).bind fun x37 =>
  ((bitmap_EncodeAs Traffic.z 4).bind fun x38 =>
  ((bitmap_Clear Traffic.z (-1)).bind fun x39 =>
  ((bitmap_Set Traffic.z 0).bind fun x40 =>
  ((bitmap_Clear { Traffic.z with Aids := [4] } 5).bind fun x41 =>
  ((
    hotspotlaw33_BitmapNames_L20 big ([], 1)).bind fun d42 =>
  ((bitmap_Encode { Traffic.z with Aids := d42 }).bind fun x45 =>
  ((bitmap_Check { Traffic.z with Aids := [2, 2] }).bind fun x46 =>
  bif (x46 == 8) then
    ((bitmap_Check { Traffic.z with Aids := [256] }).bind fun x47 =>
    bif (x47 == 8) then
      ((bitmap_Has { Traffic.z with Aids := [2, 1] } 1).bind fun x48 =>
      (hotspotlaw33_alive.bind fun x49 =>
      bif ((((((((((x49 && (x36.2 == 2)) && (x37.2 == 8)) && (x38.2 == 2)) && (x39.2 == 2)) && (x40.2 == 0)) && x40.1.Group) && (((x40.1.Aids.length : Nat) : Int) == 0)) && (x41.2 == 0)) && (((x41.1.Aids.length : Nat) : Int) == 1)) && (x45.2 == 0)) then
        ((hotspotref33_Same x45.1 [3, 255, 0]).bind fun x50 =>
        some (x50 && (!x48)))
      else
        some false))
    else
      (hotspotlaw33_alive.bind fun x51 =>
      bif ((((((((((x51 && (x36.2 == 2)) && (x37.2 == 8)) && (x38.2 == 2)) && (x39.2 == 2)) && (x40.2 == 0)) && x40.1.Group) && (((x40.1.Aids.length : Nat) : Int) == 0)) && (x41.2 == 0)) && (((x41.1.Aids.length : Nat) : Int) == 1)) && (x45.2 == 0)) then
        ((hotspotref33_Same x45.1 [3, 255, 0]).bind fun x52 =>
        some (x52 && false))
      else
        some false))
  else
    (hotspotlaw33_alive.bind fun x53 =>
    bif ((((((((((x53 && (x36.2 == 2)) && (x37.2 == 8)) && (x38.2 == 2)) && (x39.2 == 2)) && (x40.2 == 0)) && x40.1.Group) && (((x40.1.Aids.length : Nat) : Int) == 0)) && (x41.2 == 0)) && (((x41.1.Aids.length : Nat) : Int) == 1)) && (x45.2 == 0)) then
      ((hotspotref33_Same x45.1 [3, 255, 0]).bind fun x54 =>
      some (x54 && false))
    else
      some false))))))))))))))))

end Go.AX.Z.TD

/-! (TDF) -/

namespace Go.AX.Z.TD
open Go.AX Go.Proofs

/-- The types that are compared by their cells. -/
def tab : List (TypeId × List (Option IntKind)) :=
  []

noncomputable def K : Ctx := ⟨Try.prog, fun _ => none, tabK tab⟩

theorem ag22 : agB K.P 22 = some false := by kernel_rfl
theorem ag24 : agB K.P 24 = some true := by kernel_rfl
theorem ag25 : agB K.P 25 = some false := by kernel_rfl
theorem ag3 : agB K.P 3 = some false := by kernel_rfl
theorem ag4 : agB K.P 4 = some false := by kernel_rfl
theorem ag5 : agB K.P 5 = some false := by kernel_rfl
theorem ag52 : agB K.P 52 = some false := by kernel_rfl
theorem ag53 : agB K.P 53 = some true := by kernel_rfl
theorem ag71 : agB K.P 71 = some true := by kernel_rfl
theorem ar53 : arE K.P 53 = some (4, 52) := by kernel_rfl
theorem ar69 : arE K.P 69 = some (4, 3) := by kernel_rfl
theorem bl24 : bldS K.P 24 = some [(0, 1), (1, 1)] := by kernel_rfl
theorem bl53 : bldS K.P 53 = none := by kernel_rfl
theorem bl69 : bldS K.P 69 = none := by kernel_rfl
theorem by25 : byOf K.P 25 = some 24 := by kernel_rfl
theorem by3 : byOf K.P 3 = some 8 := by kernel_rfl
theorem by5 : byOf K.P 5 = some 1 := by kernel_rfl
theorem el22 : elS K.P 22 = some 3 := by kernel_rfl
theorem el25 : elS K.P 25 = some 5 := by kernel_rfl
theorem el51 : elS K.P 51 = some 25 := by kernel_rfl
theorem eln3 : elS K.P 3 = none := by kernel_rfl
theorem fl24_0 : flE K.P 24 0 = some (0, 4) := by kernel_rfl
theorem fl24_1 : flE K.P 24 1 = some (1, 22) := by kernel_rfl
theorem in3 : inK K.P 3 = some .i64 := by kernel_rfl
theorem in5 : inK K.P 5 = some .u8 := by kernel_rfl
theorem in72 : inK K.P 72 = some .u64 := by kernel_rfl
theorem isb4 : isBl K.P 4 = true := by kernel_rfl
theorem sz22 : szOf K.P 22 = some 1 := by kernel_rfl
theorem sz24 : szOf K.P 24 = some 2 := by kernel_rfl
theorem sz25 : szOf K.P 25 = some 1 := by kernel_rfl
theorem sz3 : szOf K.P 3 = some 1 := by kernel_rfl
theorem sz4 : szOf K.P 4 = some 1 := by kernel_rfl
theorem sz5 : szOf K.P 5 = some 1 := by kernel_rfl
theorem sz52 : szOf K.P 52 = some 1 := by kernel_rfl
theorem sz53 : szOf K.P 53 = some 4 := by kernel_rfl
theorem sz71 : szOf K.P 71 = some 32 := by kernel_rfl
theorem un22 : K.P.underlying 22 = some (.slice 3) := by kernel_rfl
theorem un25 : K.P.underlying 25 = some (.slice 5) := by kernel_rfl
theorem un3 : K.P.underlying 3 = some (.int .i64) := by kernel_rfl
theorem un5 : K.P.underlying 5 = some (.int .u8) := by kernel_rfl
theorem un51 : K.P.underlying 51 = some (.slice 25) := by kernel_rfl
theorem un71 : K.P.underlying 71 = some (.array 32 5) := by kernel_rfl
theorem un72 : K.P.underlying 72 = some (.int .u64) := by kernel_rfl
theorem ze22 : zer K.P 22 = some [.v (.slice none 0 0)] := by kernel_rfl
theorem ze24 : zer K.P 24 = some (e_Traffic Traffic.z vnil) := by kernel_rfl
theorem ze25 : zer K.P 25 = some [.v (.slice none 0 0)] := by kernel_rfl
theorem ze3 : zer K.P 3 = some [.v (.int .i64 0)] := by kernel_rfl
theorem ze5 : zer K.P 5 = some [.v (.int .u8 0)] := by kernel_rfl
theorem ze53 : zer K.P 53 = some [.v .nilFunc, .v .nilFunc, .v .nilFunc, .v .nilFunc] := by kernel_rfl
theorem ze69 : zer K.P 69 = some (e_Arr4_Intvi Arr4_Intvi.z) := by kernel_rfl
theorem ze71 : zer K.P 71 = some ((List.map vu (List.replicate 32 0))) := zer_arr (Value.int .u8) 32 0 (by kernel_rfl) rfl
attribute [go_sem] ag22 ag24 ag25 ag3 ag4 ag5 ag52 ag53 ag71 ar53 ar69 bl24 bl53 bl69 by25 by3 by5 el22 el25 el51 eln3 fl24_0 fl24_1 in3 in5 in72 isb4 sz22 sz24 sz25 sz3 sz4 sz5 sz52 sz53 sz71 un22 un25 un3 un5 un51 un71 un72 ze22 ze24 ze25 ze3 ze5 ze53 ze69 ze71
theorem mixed : K.P.follows .mixedOrders = true := by kernel_rfl
theorem hC : COk K := ⟨EqOk.of_tab (tab := tab) rfl (by kernel_rfl), mixed⟩
theorem rs31 : Try.f31.results = #[.tmp 2] := rfl
theorem rs56 : Try.f56.results = #[.tmp 4] := rfl
theorem rs48 : Try.f48.results = #[.tmp 4] := rfl
theorem rs32 : Try.f32.results = #[.cell 2 22] := rfl
theorem rs18 : Try.f18.results = #[.tmp 2] := rfl
theorem rs28 : Try.f28.results = #[.cell 0 53] := rfl
theorem rs55 : Try.f55.results = #[.cell 2 71] := rfl
theorem rs44 : Try.f44.results = #[.tmp 2] := rfl
theorem rs45 : Try.f45.results = #[.tmp 2] := rfl
theorem rs46 : Try.f46.results = #[.tmp 2] := rfl
theorem rs47 : Try.f47.results = #[.tmp 2] := rfl
theorem rs11 : Try.f11.results = #[.tmp 4, .tmp 5] := rfl
theorem rs33 : Try.f33.results = #[.tmp 4] := rfl
theorem rs19 : Try.f19.results = #[.cell 2 24, .tmp 3] := rfl
theorem rs34 : Try.f34.results = #[.tmp 4] := rfl
theorem rs35 : Try.f35.results = #[.tmp 6] := rfl
theorem rs27 : Try.f27.results = #[.tmp 2] := rfl
theorem rs30 : Try.f30.results = #[.tmp 4] := rfl
theorem rs29 : Try.f29.results = #[.tmp 4] := rfl
theorem rs12 : Try.f12.results = #[.tmp 4, .tmp 5] := rfl
theorem rs16 : Try.f16.results = #[.tmp 4] := rfl
theorem rs20 : Try.f20.results = #[.cell 2 24, .tmp 3] := rfl
theorem rs21 : Try.f21.results = #[.tmp 4] := rfl
theorem rs6 : Try.f6.results = #[.tmp 2] := rfl
theorem rs7 : Try.f7.results = #[.tmp 6] := rfl
theorem rs36 : Try.f36.results = #[.tmp 4] := rfl
theorem rs37 : Try.f37.results = #[.tmp 2] := rfl
theorem rs58 : Try.f58.results = #[.tmp 2] := rfl
theorem rs50 : Try.f50.results = #[.tmp 4] := rfl
theorem rs51 : Try.f51.results = #[.tmp 2] := rfl
theorem rs38 : Try.f38.results = #[.tmp 4, .tmp 5] := rfl
theorem rs39 : Try.f39.results = #[.tmp 6] := rfl
theorem rs22 : Try.f22.results = #[.cell 4 24, .tmp 5] := rfl
theorem rs42 : Try.f42.results = #[.tmp 6] := rfl
theorem rs24 : Try.f24.results = #[.cell 4 24, .tmp 5] := rfl
theorem rs13 : Try.f13.results = #[.tmp 2, .tmp 3] := rfl
theorem rs54 : Try.f54.results = #[.tmp 4] := rfl
theorem rs43 : Try.f43.results = #[.tmp 4] := rfl
theorem rs25 : Try.f25.results = #[.tmp 4] := rfl
theorem rs10 : Try.f10.results = #[.tmp 0] := rfl

end Go.AX.Z.TD

/-! (TDI) -/

set_option linter.unusedSimpArgs false
set_option linter.unusedVariables false
set_option maxHeartbeats 400000
namespace Go.AX.Z.TD
open Go.AX Go.Proofs

def aidsX (m : List Int) : List (List AV) := (aidsN m).map fun (a : Nat) => [vi (a : Int)]
def cntA (m : List Int) (k : Nat) : Nat := ((List.range k).filter (aidB m)).length

theorem cntA_succ (m : List Int) (k : Nat) : cntA m (k + 1) = cntA m k + (if aidB m k then 1 else 0) := by
  unfold cntA
  rw [List.range_succ, List.filter_append, List.length_append]
  congr 1
  by_cases h : aidB m k <;> simp [h]

theorem aidsX_get {m : List Int} {k : Nat} (hk : k < 256) (hb : aidB m k = true) : (aidsX m)[cntA m k]? = some [vi (k : Int)] := by
  have h1 : List.range 256 = List.range k ++ (k :: (List.range 256).drop (k + 1)) := by
    have h2 : (List.range 256).drop k = k :: (List.range 256).drop (k + 1) := by
      rw [List.drop_eq_getElem_cons (by simpa using hk)]; simp
    have h3 : (List.range 256).take k = List.range k := by
      rw [List.take_range, Nat.min_eq_left (Nat.le_of_lt hk)]
    rw [← h2, ← h3, List.take_append_drop]
  have h4 : aidsN m = (List.range k).filter (aidB m) ++ (k :: ((List.range 256).drop (k + 1)).filter (aidB m)) := by
    unfold aidsN
    conv => lhs; rw [h1]
    rw [List.filter_append, List.filter_cons, hb]
    rfl
  unfold aidsX cntA
  rw [h4, List.map_append, List.getElem?_append_right (by simp)]
  simp

theorem aidsX_len (m : List Int) : (aidsX m).length = cntA m 256 := by simp [aidsX, aidsN, cntA]

def tA (y : Value) (q : Nat) (j : Nat) (x : AV) : Nat → AV := upd (upd (upd (fun _ => .unk) 1 (.ptr q 0)) 0 (.v y)) j x

theorem aids_iter {m : List Int} (hm : m.length = 32) (q : Nat) : Iter K 57 [.ptr q 0] (fun hs => hs.objs q = .live (List.map vu m)) (aidsX m) := by
  intro l lb ρ0 V0 J Jx hlb hJ hJx hJc hJxc hy ρ V hs W h0
  have hAb : ∀ i, Abides K (J i) := fun i => ⟨fun ρ V hs W h => ⟨(hJ i ρ V hs W h).2.1, (hJ i ρ V hs W h).2.2.1⟩, hJc i⟩
  have hAx : Abides K Jx := ⟨hJx, hJxc⟩
  obtain ⟨loc, hloc, rfl⟩ : ∃ loc, ρ0 q = some loc ∧ lb = #[.pointer (some ⟨loc.b, loc.base + 0, none⟩)] := by
    obtain ⟨e1, e2⟩ := hlb
    obtain ⟨lb⟩ := lb
    match lb, e1, e2 with
    | [y], _, e2 =>
      have := e2 0 _ y rfl rfl
      cases this with
      | ptr _ _ loc h => exact ⟨loc, h, rfl⟩
  obtain ⟨Y, hY⟩ : ∃ Y, Value.func (.yield l) #[] #[] = Y := ⟨_, rfl⟩
  refine callsIn_of_wp (fn := Try.f57) Try.func57 rfl trivial ?_ rfl
  have hst0 := StJ.start (N := Try.f57.ntmps) (t := tA Y q 0 (.v Y)) (J := J 0) (args := #[.func (.yield l) #[] #[]] ++ #[.pointer (some ⟨loc.b, loc.base + 0, none⟩)]) (by show 2 ≤ 23; decide) h0 (fun i y hy => by
    match i, hy with
    | 0, hy => cases hy; rw [hY]; exact .v _
    | 1, hy => cases hy; exact .ptr q 0 loc ((hJ 0 _ _ _ _ h0).1.rho _ _ hloc)) (fun i hi => by
    have hi : 2 ≤ i := hi
    unfold tA
    rw [upd_ne _ _ (by omega), upd_ne _ _ (by omega), upd_ne _ _ (by omega)])
  have hR : ∀ i ρ' V' hs' W', i = (aidsX m).length → J i ρ' V' hs' W' → (∃ v, Ending.returned undef = .returned v) ∧ ∃ ρ' V' hs', J (aidsX m).length ρ' V' hs' W' ∨ Jx ρ' V' hs' W' := fun i ρ' V' hs' W' hi h => ⟨⟨_, rfl⟩, ρ', V', hs', .inl (hi ▸ h)⟩
  refine wpIn_seq ?_
  refine iter_region hC (hAb 0) (by decide +kernel) (by decide +kernel) (K := fun t => t 0 = .v Y ∧ t 1 = .ptr q 0 ∧ t 4 = vi 0) hst0 ?_ ?_
  · unfold tA
    simp only [go_sem, ↓iop_and, Nat.reduceEqDiff, reduceIte, Nat.reduceAdd, Nat.reduceMul, Nat.reduceSub, Nat.reduceLT, Nat.reduceLeDiff, Int.reduceToNat, Int.reduceBEq, Int.reduceBNe, Int.reduceLT, Int.reduceLE, Int.reduceAdd, Int.reduceSub, Int.reduceMul, Int.reduceNeg, Int.reduceEq, Int.reduceNe]
    try exact ⟨rfl, rfl, rfl, rfl⟩
  intro ρ1 V1 hs1 a1 W1 t1 ⟨e0, e1, e4⟩ _ hst1
  refine wpIn_block ?_
  refine wpIn_loop (I := fun a w => ∃ (k : Nat) (ρ : Rho) (V : View) (hs : HS) (t : Nat → AV), k ≤ 256 ∧ t 0 = .v Y ∧ t 1 = .ptr q 0 ∧ t 4 = vi (k : Int) ∧ StJ Try.f57.ntmps t (J (cntA m k)) ρ V hs a w) (fun a _ => 256 - (match a.tmps.getD 4 undef with | .int _ n => n.toNat | _ => 0)) ⟨0, ρ1, V1, hs1, t1, by omega, e0, e1, e4, hst1⟩ ?_
  rintro a w ⟨k, ρ2, V2, hs2, t2, hk, e0, e1, e4, hst2⟩
  have hk4 : a.tmps.getD 4 undef = .int .i64 (k : Int) := by
    have := hst2.tm 4
    rw [e4] at this
    exact Rel.v_inv this
  refine wpIn_seq ?_
  refine iter_region hC (hAb _) (by decide +kernel) (by decide +kernel) (K := fun t => t 0 = .v Y ∧ t 1 = .ptr q 0 ∧ t 4 = vi (k : Int) ∧ t 5 = vb (decide ((k : Int) < 256))) hst2 ?_ ?_
  · simp only [go_sem, ↓iop_and, Nat.reduceEqDiff, reduceIte, Nat.reduceAdd, Nat.reduceMul, Nat.reduceSub, Nat.reduceLT, Nat.reduceLeDiff, Int.reduceToNat, Int.reduceBEq, Int.reduceBNe, Int.reduceLT, Int.reduceLE, Int.reduceAdd, Int.reduceSub, Int.reduceMul, Int.reduceNeg, Int.reduceEq, Int.reduceNe, e0, e1, e4]
    try exact ⟨rfl, rfl, rfl, rfl, rfl⟩
  intro ρ3 V3 hs3 a3 W3 t3 ⟨e0, e1, e4, e5⟩ _ hst3
  refine wpIn_seq ?_
  have hc5 : a3.eval (.tmp 5) = .bool (decide ((k : Int) < 256)) := by
    have := ev_rel (C := K) (s := { toHS := hs3, tmps := t3 }) hst3.tm ((hAb _).inv _ _ _ _ hst3.j).2 (.tmp 5)
    rw [show ev K { toHS := hs3, tmps := t3 } (.tmp 5) = t3 5 from rfl, e5] at this
    exact Rel.v_inv this
  refine wpIn_cond_split hc5 (fun hlt => ?_) (fun hge => ?_)
  · have hlt : k < 256 := by have := of_decide_eq_true hlt; omega
    refine wpIn_skip ?_
    refine wpIn_seq ?_
    refine wpIn_block ?_
    refine wpIn_seq ?_
    refine iter_region hC (hAb _) (by decide +kernel) (by decide +kernel) (K := fun t => t 0 = .v Y ∧ t 1 = .ptr q 0 ∧ t 4 = vi (k : Int) ∧ t 3 = vi (k : Int)) hst3 ?_ ?_
    · simp only [go_sem, ↓iop_and, Nat.reduceEqDiff, reduceIte, Nat.reduceAdd, Nat.reduceMul, Nat.reduceSub, Nat.reduceLT, Nat.reduceLeDiff, Int.reduceToNat, Int.reduceBEq, Int.reduceBNe, Int.reduceLT, Int.reduceLE, Int.reduceAdd, Int.reduceSub, Int.reduceMul, Int.reduceNeg, Int.reduceEq, Int.reduceNe, e0, e1, e4]
      try exact ⟨rfl, rfl, rfl, rfl, rfl⟩
    intro ρ4 V4 hs4 a4 W4 t4 ⟨e0, e1, e4, e3⟩ _ hst4
    refine wpIn_seq ?_
    have hRd : hs4.objs q = .live (List.map vu m) := (hJ _ _ _ _ _ hst4.j).2.2.2
    obtain ⟨x, hx⟩ : ∃ x, idxA 32 m ((k : Int).fdiv (2 ^ (min 3 64))) = some x := by
      have h1 : (k : Int).fdiv (2 ^ (min 3 64)) = ((k / 8 : Nat) : Int) := by
        rw [Int.fdiv_eq_ediv_of_nonneg _ (by decide)]; rfl
      rw [h1]
      unfold idxA
      have h2 : k / 8 < m.length := by omega
      rw [show (decide (0 ≤ ((k / 8 : Nat) : Int)) && decide (((k / 8 : Nat) : Int) < 32)) = true by simp; omega, cond_true]
      exact ⟨m[k / 8], by rw [Int.toNat_natCast]; exact List.getElem?_eq_getElem h2⟩
    obtain ⟨f0, f1, f2, f3⟩ := idxA_some hx
    have hb : aidB m k = bitA x k := by unfold aidB; rw [hx]
    have hobj : ∀ (o : HS), o.objs = hs4.objs → o.objs q = .live (List.map vu m) := fun o ho => by rw [ho]; exact hRd
    have hneg : (band .i64 (k : Int) 7 < 0) = False := eq_false ((by decide +kernel : ∀ k : Fin 256, ¬ band .i64 ((k.1 : Nat) : Int) 7 < 0) ⟨k, hlt⟩)
    refine iter_yield hC (hAb _) (hAb (cntA m k + 1)) hAx (by decide +kernel) (by decide +kernel) 12 _ rfl (l := l) rfl rfl rfl (x := [vi (k : Int)]) (b := aidB m k) hst4
      (K1 := fun t => t 0 = .v Y ∧ t 1 = .ptr q 0 ∧ t 4 = vi (k : Int) ∧ t 16 = vb (aidB m k) ∧ (aidB m k = true → t 17 = .v Y ∧ t 18 = vi (k : Int)))
      (K2 := fun r t => t 0 = .v Y ∧ t 1 = .ptr q 0 ∧ t 4 = vi (k : Int) ∧ t 21 = vb (match r with | some false => true | _ => false)) ?_ ?_ ?_ ?_ ?_ ?_ ?_ ?_
    · rw [hb]
      cases hbb : bitA x k
      · have hbb' : (band .u8 (x.fdiv (2 ^ (min (band .i64 (k : Int) 7).toNat 8))) 1 == 1) = false := hbb
        simp only [go_sem, ↓iop_and, Nat.reduceEqDiff, reduceIte, Nat.reduceAdd, Nat.reduceMul, Nat.reduceSub, Nat.reduceLT, Nat.reduceLeDiff, Int.reduceToNat, Int.reduceBEq, Int.reduceBNe, Int.reduceLT, Int.reduceLE, Int.reduceAdd, Int.reduceSub, Int.reduceMul, Int.reduceNeg, Int.reduceEq, Int.reduceNe, e0, e1, e4, e3, hRd, f0, f1, f2, hneg, hbb']
        try exact ⟨rfl, rfl, rfl, rfl, rfl, fun h => by cases h⟩
        try (intro h; cases h)
      · have hbb' : (band .u8 (x.fdiv (2 ^ (min (band .i64 (k : Int) 7).toNat 8))) 1 == 1) = true := hbb
        simp only [go_sem, ↓iop_and, Nat.reduceEqDiff, reduceIte, Nat.reduceAdd, Nat.reduceMul, Nat.reduceSub, Nat.reduceLT, Nat.reduceLeDiff, Int.reduceToNat, Int.reduceBEq, Int.reduceBNe, Int.reduceLT, Int.reduceLE, Int.reduceAdd, Int.reduceSub, Int.reduceMul, Int.reduceNeg, Int.reduceEq, Int.reduceNe, e0, e1, e4, e3, hRd, f0, f1, f2, hneg, hbb']
        try exact ⟨rfl, rfl, rfl, rfl, rfl, fun h => ⟨rfl, rfl⟩⟩
        try exact fun _ => ⟨rfl, rfl⟩
        try exact fun _ => trivial
    · rintro t1 ⟨_, _, _, h16, _⟩
      exact .inr ⟨9, 16, rfl, rfl, h16⟩
    · rintro hbt t1 hs' ⟨_, _, _, _, h17⟩
      obtain ⟨h17, h18⟩ := h17 hbt
      exact ⟨by rw [hY]; exact h17, by show [t1 18] = _; rw [h18]⟩
    · intro hbt ρ' V' hs' W' args' _ hj hargs
      exact hy _ _ _ _ _ _ _ hj (aidsX_get hlt hbt) hargs
    · rintro r t1 hs' ⟨e0, e1, e4, h16, _⟩ hr
      cases r with
      | none =>
        have hr' : aidB m k = false := hr.symm
        rw [hr'] at h16
        simp only [go_sem, ↓iop_and, Nat.reduceEqDiff, reduceIte, Nat.reduceAdd, Nat.reduceMul, Nat.reduceSub, Nat.reduceLT, Nat.reduceLeDiff, Int.reduceToNat, Int.reduceBEq, Int.reduceBNe, Int.reduceLT, Int.reduceLE, Int.reduceAdd, Int.reduceSub, Int.reduceMul, Int.reduceNeg, Int.reduceEq, Int.reduceNe, e0, e1, e4, h16]
        try exact ⟨rfl, rfl, rfl, rfl, rfl⟩
      | some r =>
        have hr' : aidB m k = true := hr.symm
        rw [hr'] at h16
        simp only [go_sem, ↓iop_and, Nat.reduceEqDiff, reduceIte, Nat.reduceAdd, Nat.reduceMul, Nat.reduceSub, Nat.reduceLT, Nat.reduceLeDiff, Int.reduceToNat, Int.reduceBEq, Int.reduceBNe, Int.reduceLT, Int.reduceLE, Int.reduceAdd, Int.reduceSub, Int.reduceMul, Int.reduceNeg, Int.reduceEq, Int.reduceNe, e0, e1, e4, h16]
        cases r <;> first | rfl | exact ⟨rfl, rfl, rfl, rfl, rfl⟩
    · rintro hbf ρ5 V5 hs5 a5 W5 t5 ⟨e0, e1, e4, e21⟩ _ hst5
      have hn : cntA m (k + 1) = cntA m k := by rw [cntA_succ, hbf]; rfl
      have hc : a5.eval (.tmp 21) = .bool false := by
        have := ev_rel (C := K) (s := { toHS := hs5, tmps := t5 }) hst5.tm ((hAb _).inv _ _ _ _ hst5.j).2 (.tmp 21)
        rw [show ev K { toHS := hs5, tmps := t5 } (.tmp 21) = t5 21 from rfl, e21] at this
        exact Rel.v_inv this
      refine wpIn_cond_false hc (wpIn_skip ?_)
      refine iter_region hC (hAb _) (by decide +kernel) (by decide +kernel) (K := fun t => t 0 = .v Y ∧ t 1 = .ptr q 0 ∧ t 4 = vi ((k + 1 : Nat) : Int)) hst5 ?_ ?_
      · first | (simp only [go_sem, ↓iop_and, Nat.reduceEqDiff, reduceIte, Nat.reduceAdd, Nat.reduceMul, Nat.reduceSub, Nat.reduceLT, Nat.reduceLeDiff, Int.reduceToNat, Int.reduceBEq, Int.reduceBNe, Int.reduceLT, Int.reduceLE, Int.reduceAdd, Int.reduceSub, Int.reduceMul, Int.reduceNeg, Int.reduceEq, Int.reduceNe, e0, e1, e4, wrapN (show k < 4611686018427387904 by omega)]; done) | (simp only [go_sem, ↓iop_and, Nat.reduceEqDiff, reduceIte, Nat.reduceAdd, Nat.reduceMul, Nat.reduceSub, Nat.reduceLT, Nat.reduceLeDiff, Int.reduceToNat, Int.reduceBEq, Int.reduceBNe, Int.reduceLT, Int.reduceLE, Int.reduceAdd, Int.reduceSub, Int.reduceMul, Int.reduceNeg, Int.reduceEq, Int.reduceNe, e0, e1, e4, wrapN (show k < 4611686018427387904 by omega)]; exact ⟨rfl, rfl, rfl, rfl⟩)
      rintro ρ6 V6 hs6 a6 W6 t6 ⟨e0, e1, e4⟩ _ hst6
      refine ⟨⟨k + 1, ρ6, V6, hs6, t6, by omega, e0, e1, e4, by rw [hn]; exact hst6⟩, ?_⟩
      have h4 : a6.tmps.getD 4 undef = .int .i64 ((k + 1 : Nat) : Int) := by
        have := hst6.tm 4
        rw [e4] at this
        exact Rel.v_inv this
      show 256 - (match a6.tmps.getD 4 undef with | .int _ n => n.toNat | _ => 0) < 256 - (match a.tmps.getD 4 undef with | .int _ n => n.toNat | _ => 0)
      rw [h4, hk4]
      show 256 - ((k + 1 : Nat) : Int).toNat < 256 - ((k : Nat) : Int).toNat
      omega
    · rintro hbt ρ5 V5 hs5 a5 W5 t5 ⟨e0, e1, e4, e21⟩ _ hst5
      have hn : cntA m (k + 1) = cntA m k + 1 := by rw [cntA_succ, hbt]; rfl
      have hc : a5.eval (.tmp 21) = .bool false := by
        have := ev_rel (C := K) (s := { toHS := hs5, tmps := t5 }) hst5.tm ((hAb _).inv _ _ _ _ hst5.j).2 (.tmp 21)
        rw [show ev K { toHS := hs5, tmps := t5 } (.tmp 21) = t5 21 from rfl, e21] at this
        exact Rel.v_inv this
      refine wpIn_cond_false hc (wpIn_skip ?_)
      refine iter_region hC (hAb _) (by decide +kernel) (by decide +kernel) (K := fun t => t 0 = .v Y ∧ t 1 = .ptr q 0 ∧ t 4 = vi ((k + 1 : Nat) : Int)) hst5 ?_ ?_
      · first | (simp only [go_sem, ↓iop_and, Nat.reduceEqDiff, reduceIte, Nat.reduceAdd, Nat.reduceMul, Nat.reduceSub, Nat.reduceLT, Nat.reduceLeDiff, Int.reduceToNat, Int.reduceBEq, Int.reduceBNe, Int.reduceLT, Int.reduceLE, Int.reduceAdd, Int.reduceSub, Int.reduceMul, Int.reduceNeg, Int.reduceEq, Int.reduceNe, e0, e1, e4, wrapN (show k < 4611686018427387904 by omega)]; done) | (simp only [go_sem, ↓iop_and, Nat.reduceEqDiff, reduceIte, Nat.reduceAdd, Nat.reduceMul, Nat.reduceSub, Nat.reduceLT, Nat.reduceLeDiff, Int.reduceToNat, Int.reduceBEq, Int.reduceBNe, Int.reduceLT, Int.reduceLE, Int.reduceAdd, Int.reduceSub, Int.reduceMul, Int.reduceNeg, Int.reduceEq, Int.reduceNe, e0, e1, e4, wrapN (show k < 4611686018427387904 by omega)]; exact ⟨rfl, rfl, rfl, rfl⟩)
      rintro ρ6 V6 hs6 a6 W6 t6 ⟨e0, e1, e4⟩ _ hst6
      refine ⟨⟨k + 1, ρ6, V6, hs6, t6, by omega, e0, e1, e4, by rw [hn]; exact hst6⟩, ?_⟩
      have h4 : a6.tmps.getD 4 undef = .int .i64 ((k + 1 : Nat) : Int) := by
        have := hst6.tm 4
        rw [e4] at this
        exact Rel.v_inv this
      show 256 - (match a6.tmps.getD 4 undef with | .int _ n => n.toNat | _ => 0) < 256 - (match a.tmps.getD 4 undef with | .int _ n => n.toNat | _ => 0)
      rw [h4, hk4]
      show 256 - ((k + 1 : Nat) : Int).toNat < 256 - ((k : Nat) : Int).toNat
      omega
    · rintro hbt ρ5 V5 hs5 a5 W5 t5 ⟨e0, e1, e4, e21⟩ _ hst5
      have hc : a5.eval (.tmp 21) = .bool true := by
        have := ev_rel (C := K) (s := { toHS := hs5, tmps := t5 }) hst5.tm (hAx.inv _ _ _ _ hst5.j).2 (.tmp 21)
        rw [show ev K { toHS := hs5, tmps := t5 } (.tmp 21) = t5 21 from rfl, e21] at this
        exact Rel.v_inv this
      refine wpIn_cond_true hc (wpIn_ret ?_)
      exact iter_end (R := fun e W' => (∃ v, e = .returned v) ∧ ∃ ρ' V' hs', J (aidsX m).length ρ' V' hs' W' ∨ Jx ρ' V' hs' W') hst5 rfl (fun v h => ⟨⟨v, rfl⟩, _, _, _, .inr h⟩)
  · have hk256 : k = 256 := by have := of_decide_eq_false hge; omega
    refine wpIn_exit ?_
    exact iter_end (R := fun e W' => (∃ v, e = .returned v) ∧ ∃ ρ' V' hs', J (aidsX m).length ρ' V' hs' W' ∨ Jx ρ' V' hs' W') hst3 rfl (fun v h => ⟨⟨v, rfl⟩, _, _, _, .inl (by rw [aidsX_len, ← hk256]; exact h)⟩)

end Go.AX.Z.TD

/-! (TDK) -/

set_option linter.unusedSimpArgs false
set_option linter.unusedVariables false
set_option maxHeartbeats 400000
namespace Go.AX.Z.TD
open Go.AX Go.Proofs
attribute [local irreducible] awp xw xop xcall gsp ob xd xdop xcallD

theorem aids_snd (m : List Int) (hs : HS) : Snd K 49 [.agg (List.map vu m)] hs (fun r hs' => r = .clo 57 [] [.ptr hs.next 0] ∧ hs'.objs = upd hs.objs hs.next (.live (List.map vu m)) ∧ hs.next < hs'.next) := by
  obtain ⟨objs, nx⟩ := hs
  refine snd_of_awp hC (fn := Try.f49) Try.func49 rfl rfl (by decide +kernel) (Nat.le_of_ble_eq_true rfl) ?_
  refine awp_reg fun KK hKK => ?_
  refine xw_id ?_
  simp only [init, List.getD_cons_zero, go_sem, Nat.reduceEqDiff, reduceIte, Nat.reduceAdd]
  refine hKK _ ?_; clear hKK KK
  refine awp_reg fun KK hKK => ?_
  refine xw_id ?_
  simp only [go_sem, Nat.reduceEqDiff, reduceIte, Nat.reduceAdd]
  refine hKK _ ?_; clear hKK KK
  refine awp_ret1 ?_
  refine end_ret0 (fn := Try.f49) (rs := #[.tmp 2]) rfl (by simp only [go_sem, resV, resAll, resOf, packR, Nat.reduceEqDiff, reduceIte, Nat.reduceAdd]; rfl) ?_
  exact ⟨rfl, rfl, by show nx < nx + 2 + 2; omega⟩

def tl3 (c : Option Code) : Code := match c with
  | some (.seq _ (.seq _ (.seq _ c))) => c
  | _ => .skip

theorem read_tail {s : AS} {m : List Int} (hm : m.length = 32) (h3 : s.tmps 3 = .ptr 1 0) (h1 : s.objs 1 = .live (List.map vu m)) (h2 : s.tmps 2 = .ptr 0 0) (h0 : s.objs 0 = .live [vnil]) (hn : s.next = 2) :
    awp 0 K (tl3 Try.f32.body) (endW 0 K Try.f32 (fun r' s' => Res r' s' (fun q => .ref (q 0) 0 (aidsL m).length 1) [List.map vi (aidsL m)])) s := by
  obtain ⟨⟨objs, nx⟩, tm⟩ := s
  simp only at h3 h1 h2 h0 hn
  subst hn
  show awp 0 K (.seq (.seq _ _) _) _ _
  refine awp_assoc ?_
  refine awp_reg fun KK hKK => ?_
  refine xw_id ?_
  have hsub : sub? (List.map vu m) 0 32 = some (List.map vu m) := by
    have hl : (List.map vu m).length = 32 := by rw [List.length_map]; exact hm
    rw [← hl]
    unfold sub?
    rw [if_pos (by omega), List.drop_zero, List.take_length]
  simp only [go_sem, ↓iop_and, Nat.reduceEqDiff, reduceIte, Nat.reduceAdd, Nat.reduceMul, Nat.reduceSub, Nat.reduceLT, Nat.reduceLeDiff, Int.reduceToNat, Int.reduceBEq, Int.reduceBNe, Int.reduceLT, Int.reduceLE, Int.reduceAdd, Int.reduceSub, Int.reduceMul, Int.reduceNeg, Int.reduceEq, Int.reduceNe, h3, h1, List.length_map, hm, hsub]
  refine xcall_g (aids_snd m _) ?_
  rintro r hs' ⟨rfl, ho, hnx⟩
  obtain ⟨objs', nx'⟩ := hs'
  simp only at ho hnx
  try dsimp only
  refine hKK _ ?_; clear hKK KK
  have g1 : objs' 4 = .live (List.map vu m) := by rw [ho, upd_eq]
  have g0 : objs' 0 = .live [vnil] := by rw [ho, upd_ne _ _ (by decide)]; exact h0
  clear ho
  refine awp_block ?_
  refine awp_rangeFunc hC (gf := 57) (caps := [.ptr 4 0]) (xs := aidsX m) rfl (aids_iter hm 4) ⟨Try.f57, Try.func57, rfl, rfl⟩ (by
      intro x hx
      obtain ⟨a, _, rfl⟩ := List.mem_map.1 hx
      rfl) (by decide +kernel) (by decide +kernel)
    (fun i hs => 4 < hs.next ∧ hs.objs 4 = .live (List.map vu m) ∧ ((i = 0 ∧ hs.objs 0 = .live [vnil]) ∨ ∃ p, 4 < p ∧ p < hs.next ∧ hs.objs 0 = .live [.ref p 0 i 1] ∧ hs.objs p = .live (List.map vi ((aidsL m).take i))))
    (fun _ _ => False) ?_ ?_ ?_ ?_ ?_ ?_ ?_
  · rintro i ⟨o, n⟩ n' ⟨a1, a2, a3⟩ hle
    simp only at a1 a2 a3 hle ⊢
    refine ⟨by omega, a2, ?_⟩
    rcases a3 with h | ⟨p, b1, b2, b3, b4⟩
    · exact .inl h
    · exact .inr ⟨p, b1, by omega, b3, b4⟩
  · intro e hs n h; exact h.elim
  · rintro i hs ⟨_, a2, _⟩; exact a2
  · exact ⟨hnx, g1, .inl ⟨rfl, g0⟩⟩
  · rintro i x ⟨o, n⟩ hx ⟨a1, a2, a3⟩
    simp only at a1 a2 a3
    obtain ⟨a, ha, rfl⟩ : ∃ a : Nat, (aidsN m)[i]? = some a ∧ x = [vi (a : Int)] := by
      simp only [aidsX, List.getElem?_map, Option.map_eq_some_iff] at hx
      obtain ⟨a, h1, h2⟩ := hx
      exact ⟨a, h1, h2.symm⟩
    have hil : i < (aidsN m).length := (List.getElem?_eq_some_iff.1 ha).1
    have hlen : (aidsN m).length ≤ 256 := by
      have := List.length_filter_le (aidB m) (List.range 256)
      simpa [aidsN] using this
    have htk : (aidsL m).take (i + 1) = (aidsL m).take i ++ [(a : Int)] := by
      rw [List.take_add_one, show (aidsL m)[i]? = some (a : Int) by simp [aidsL, ha]]
      rfl
    have hli : ((aidsL m).take i).length = i := by simp [aidsL]; omega
    refine awp_reg1 fun KK hKK => ?_
    refine xw_id ?_
    simp only [putAll, go_sem, ↓iop_and, Nat.reduceEqDiff, reduceIte, Nat.reduceAdd, Nat.reduceMul, Nat.reduceSub, Nat.reduceLT, Nat.reduceLeDiff, Int.reduceToNat, Int.reduceBEq, Int.reduceBNe, Int.reduceLT, Int.reduceLE, Int.reduceAdd, Int.reduceSub, Int.reduceMul, Int.reduceNeg, Int.reduceEq, Int.reduceNe]
    refine hKK _ ?_; clear hKK KK
    refine awp_block1 ?_
    refine awp_reg1 fun KK hKK => ?_
    refine xw_id ?_
    rcases a3 with ⟨rfl, b3⟩ | ⟨p, b1, b2, b3, b4⟩
    · simp only [go_sem, ↓iop_and, Nat.reduceEqDiff, reduceIte, Nat.reduceAdd, Nat.reduceMul, Nat.reduceSub, Nat.reduceLT, Nat.reduceLeDiff, Int.reduceToNat, Int.reduceBEq, Int.reduceBNe, Int.reduceLT, Int.reduceLE, Int.reduceAdd, Int.reduceSub, Int.reduceMul, Int.reduceNeg, Int.reduceEq, Int.reduceNe, h2, b3]
      refine hKK _ ?_; clear hKK KK
      show 4 < n + 6 ∧ _ ∧ _
      refine ⟨by omega, ?_, .inr ⟨n + 4, by omega, by show n + 4 < n + 6; omega, ?_, ?_⟩⟩
      · simp only [upd]
        rw [if_neg (by omega), if_neg (by omega), if_neg (by omega)]; exact a2
      · simp only [upd, if_true]
      · simp only [upd]
        rw [if_neg (by omega), if_pos trivial, htk]; rfl
    · have hp0 : (p = 0) = False := eq_false (by omega)
      have h0p : (0 = p) = False := eq_false (by omega)
      have hpn : (p = n + 3) = False := eq_false (by omega)
      have hil2 : (i = ((aidsL m).take i).length ∧ (i + 1) * 8 ≤ 140737488355328) = True := eq_true ⟨hli.symm, by omega⟩
      simp only [go_sem, ↓iop_and, Nat.reduceEqDiff, reduceIte, Nat.reduceAdd, Nat.reduceMul, Nat.reduceSub, Nat.reduceLT, Nat.reduceLeDiff, Int.reduceToNat, Int.reduceBEq, Int.reduceBNe, Int.reduceLT, Int.reduceLE, Int.reduceAdd, Int.reduceSub, Int.reduceMul, Int.reduceNeg, Int.reduceEq, Int.reduceNe, h2, b3, b4, hp0, h0p, hpn, List.length_map, hil2]
      refine hKK _ ?_; clear hKK KK
      show 4 < n + 6 ∧ _ ∧ _
      refine ⟨by omega, ?_, .inr ⟨n + 4, by omega, by show n + 4 < n + 6; omega, ?_, ?_⟩⟩
      · simp only [upd]
        rw [if_neg (by omega), if_neg (by omega), if_neg (by omega), if_neg (by omega)]; exact a2
      · simp only [upd, if_true]
      · simp only [upd]
        rw [if_neg (by omega), if_pos trivial, htk]
  · rintro ⟨o, n⟩ ⟨a1, a2, a3⟩
    simp only at a1 a2 a3
    rw [blkQ_n, seqQ_n]
    have hxl : (aidsX m).length = (aidsL m).length := by simp [aidsX, aidsL]
    rw [hxl] at a3
    refine awp_reg fun KK hKK => ?_
    refine xw_id ?_
    rcases a3 with ⟨he, b3⟩ | ⟨p, b1, b2, b3, b4⟩
    · simp only [go_sem, ↓iop_and, Nat.reduceEqDiff, reduceIte, Nat.reduceAdd, Nat.reduceMul, Nat.reduceSub, Nat.reduceLT, Nat.reduceLeDiff, Int.reduceToNat, Int.reduceBEq, Int.reduceBNe, Int.reduceLT, Int.reduceLE, Int.reduceAdd, Int.reduceSub, Int.reduceMul, Int.reduceNeg, Int.reduceEq, Int.reduceNe, h2, b3]
      refine hKK _ ?_; clear hKK KK
      refine awp_ret1 ?_
      refine ⟨_, Wk.refl _ _ _, ?_⟩
      refine end_ret0 (fn := Try.f32) (rs := #[.cell 2 22]) rfl (by simp only [go_sem, resV, resAll, resOf, packR, ↓iop_and, Nat.reduceEqDiff, reduceIte, Nat.reduceAdd, Nat.reduceMul, Nat.reduceSub, Nat.reduceLT, Nat.reduceLeDiff, Int.reduceToNat, Int.reduceBEq, Int.reduceBNe, Int.reduceLT, Int.reduceLE, Int.reduceAdd, Int.reduceSub, Int.reduceMul, Int.reduceNeg, Int.reduceEq, Int.reduceNe, h2]; rfl) ?_
      rw [he]
      exact Res.mk [] [none] rfl (resON resO0) (Tm.thaw 0 0 1)
    · have hp0 : (p = 0) = False := eq_false (by omega)
      have h0p : (0 = p) = False := eq_false (by omega)
      simp only [go_sem, ↓iop_and, Nat.reduceEqDiff, reduceIte, Nat.reduceAdd, Nat.reduceMul, Nat.reduceSub, Nat.reduceLT, Nat.reduceLeDiff, Int.reduceToNat, Int.reduceBEq, Int.reduceBNe, Int.reduceLT, Int.reduceLE, Int.reduceAdd, Int.reduceSub, Int.reduceMul, Int.reduceNeg, Int.reduceEq, Int.reduceNe, h2, b3, b4, hp0, h0p]
      refine hKK _ ?_; clear hKK KK
      refine awp_ret1 ?_
      refine ⟨_, Wk.refl _ _ _, ?_⟩
      refine end_ret0 (fn := Try.f32) (rs := #[.cell 2 22]) rfl (by simp only [go_sem, resV, resAll, resOf, packR, ↓iop_and, Nat.reduceEqDiff, reduceIte, Nat.reduceAdd, Nat.reduceMul, Nat.reduceSub, Nat.reduceLT, Nat.reduceLeDiff, Int.reduceToNat, Int.reduceBEq, Int.reduceBNe, Int.reduceLT, Int.reduceLE, Int.reduceAdd, Int.reduceSub, Int.reduceMul, Int.reduceNeg, Int.reduceEq, Int.reduceNe, h2]; rfl) ?_
      rw [List.take_length] at b4
      exact Res.mk [] [some p] (by first | rfl | simp [sgB]) (resOU List.not_mem_nil (by simp only [upd]; rw [if_neg (by omega)]; exact b4) (TmL.of_eq rfl (vi_clean _)) resO0) (Tm.refL rfl rfl)
  · intro e hs _ h; exact h.elim

end Go.AX.Z.TD
