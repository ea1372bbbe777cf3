/- A part of the proof: the types, the facts of the program and the functions, read plainly. -/
import Derived.Test.YtpjogfcpmcbafaaCorec
import Derived.Test.YtpjogfcpmcbafaaProg
import Derived.KernelRfl
set_option linter.unusedVariables false
set_option linter.unusedSimpArgs false

/-! (TNS) -/

set_option linter.unusedSimpArgs false
set_option linter.unusedVariables false
namespace Go.AX.Z.TN
open Go.AX
structure SessionPlan where
 Start : Int
 Size : Int
 Limit : Int
 Life : Int
 Hold : Int
 Burst : Int
 Round : Int
 deriving DecidableEq

def SessionPlan.z : SessionPlan := ⟨0, 0, 0, 0, 0, 0, 0⟩

def am (x : SessionPlan) : List AV := [vi x.Start, vi x.Size, vi x.Limit, vi x.Life, vi x.Hold, vi x.Burst, vi x.Round]

theorem rH (x : SessionPlan) : (am x).length = 7 := by rfl
theorem sg (x : SessionPlan) : cg (am x) 0 7 = some (am x) := by rfl
theorem rt (x : SessionPlan) : (am x).take 7 = (am x) := by rfl
theorem rQ (x : SessionPlan) (y : SessionPlan) : cC (am x) 0 (am y) = am y := by rfl
theorem oe (x : SessionPlan) : (am x)[0]? = some (vi x.Start) := by rfl
theorem nU (x : SessionPlan) (v : Int) : (am x).set 0 (vi v) = am { x with Start := v } := by rfl
theorem pF (x : SessionPlan) : (am x)[1]? = some (vi x.Size) := by rfl
theorem oH (x : SessionPlan) (v : Int) : (am x).set 1 (vi v) = am { x with Size := v } := by rfl
theorem nV (x : SessionPlan) : (am x)[2]? = some (vi x.Limit) := by rfl
theorem oo (x : SessionPlan) (v : Int) : (am x).set 2 (vi v) = am { x with Limit := v } := by rfl
theorem pI (x : SessionPlan) : (am x)[3]? = some (vi x.Life) := by rfl
theorem pa (x : SessionPlan) (v : Int) : (am x).set 3 (vi v) = am { x with Life := v } := by rfl
theorem pk (x : SessionPlan) : (am x)[4]? = some (vi x.Hold) := by rfl
theorem pi (x : SessionPlan) (v : Int) : (am x).set 4 (vi v) = am { x with Hold := v } := by rfl
theorem ou (x : SessionPlan) : (am x)[5]? = some (vi x.Burst) := by rfl
theorem oa (x : SessionPlan) (v : Int) : (am x).set 5 (vi v) = am { x with Burst := v } := by rfl
theorem od (x : SessionPlan) : (am x)[6]? = some (vi x.Round) := by rfl
theorem nX (x : SessionPlan) (v : Int) : (am x).set 6 (vi v) = am { x with Round := v } := by rfl
theorem mL (x : SessionPlan) (o : Nat → Ob) (n : Nat) : (am x).map (fz o (n + 1)) = am x := by rfl
theorem ky (x : SessionPlan) (o : Nat → Ob) (n : Nat) : (am x).flatMap (bc o (n + 1)) = [] := by
 simp only [am, List.cons_append, List.nil_append, List.append_nil, List.flatMap_cons, List.flatMap_nil, fm]
theorem cn (x : SessionPlan) : ∀ c ∈ (am x), aw c := by
 simp only [am, List.cons_append, List.nil_append]
 repeat' (first | exact aw.v _ | assumption | exact List.forall_mem_nil _ | refine List.forall_mem_cons.2 ⟨?_, ?_⟩)
theorem qo (x : SessionPlan) (o : Nat → Ob) (n : Nat) : (am x).map (fz o (n + 1)) = am x := by simp only [mL]
theorem qv (x : SessionPlan) (o : Nat → Ob) (n : Nat) : (am x).flatMap (bc o (n + 1)) = [] := by simp only [ky, List.append_nil]
attribute [go_sem] rH sg rt rQ oe nU pF oH nV oo pI pa pk pi ou oa od nX mL ky qo qv

structure SessionResult where
 Delivered : (List Int)
 Acked : (List Int)
 Dropped : (List Int)
 Rounds : Int
 deriving DecidableEq

def SessionResult.z : SessionResult := ⟨[], [], [], 0⟩

def az (x : SessionResult) (s0 : AV) (s1 : AV) (s2 : AV) : List AV := [s0, s1, s2, vi x.Rounds]

theorem p8 (x : SessionResult) (s0 : AV) (s1 : AV) (s2 : AV) : (az x s0 s1 s2).length = 4 := by rfl
theorem p4 (x : SessionResult) (s0 : AV) (s1 : AV) (s2 : AV) : cg (az x s0 s1 s2) 0 4 = some (az x s0 s1 s2) := by rfl
theorem oF (x : SessionResult) (s0 : AV) (s1 : AV) (s2 : AV) : (az x s0 s1 s2).take 4 = (az x s0 s1 s2) := by rfl
theorem p7 (x : SessionResult) (s0 : AV) (s1 : AV) (s2 : AV) (y : SessionResult) (s02 : AV) (s12 : AV) (s22 : AV) : cC (az x s0 s1 s2) 0 (az y s02 s12 s22) = az y s02 s12 s22 := by rfl
theorem kM (x : SessionResult) (s0 : AV) (s1 : AV) (s2 : AV) : (az x s0 s1 s2)[0]? = some s0 := by rfl
theorem kF (x : SessionResult) (s0 : AV) (s1 : AV) (s2 : AV) (v : AV) : (az x s0 s1 s2).set 0 v = az x v s1 s2 := by rfl
theorem mE (x : SessionResult) (s0 : AV) (s1 : AV) (s2 : AV) : (az x s0 s1 s2)[1]? = some s1 := by rfl
theorem mn (x : SessionResult) (s0 : AV) (s1 : AV) (s2 : AV) (v : AV) : (az x s0 s1 s2).set 1 v = az x s0 v s2 := by rfl
theorem lD (x : SessionResult) (s0 : AV) (s1 : AV) (s2 : AV) : (az x s0 s1 s2)[2]? = some s2 := by rfl
theorem lF (x : SessionResult) (s0 : AV) (s1 : AV) (s2 : AV) (v : AV) : (az x s0 s1 s2).set 2 v = az x s0 s1 v := by rfl
theorem l9 (x : SessionResult) (s0 : AV) (s1 : AV) (s2 : AV) : (az x s0 s1 s2)[3]? = some (vi x.Rounds) := by rfl
theorem l0 (x : SessionResult) (s0 : AV) (s1 : AV) (s2 : AV) (v : Int) : (az x s0 s1 s2).set 3 (vi v) = az { x with Rounds := v } s0 s1 s2 := by rfl
theorem lk (x : SessionResult) (s0 : AV) (s1 : AV) (s2 : AV) (o : Nat → Ob) (n : Nat) : (az x s0 s1 s2).map (fz o (n + 1)) = az x (fz o (n + 1) s0) (fz o (n + 1) s1) (fz o (n + 1) s2) := by rfl
theorem jw (x : SessionResult) (s0 : AV) (s1 : AV) (s2 : AV) (o : Nat → Ob) (n : Nat) : (az x s0 s1 s2).flatMap (bc o (n + 1)) = bc o (n + 1) s0 ++ (bc o (n + 1) s1 ++ bc o (n + 1) s2) := by
 simp only [az, List.cons_append, List.nil_append, List.append_nil, List.flatMap_cons, List.flatMap_nil, fm]
theorem nW (x : SessionResult) (s0 : AV) (s1 : AV) (s2 : AV) (h_s0 : aw s0) (h_s1 : aw s1) (h_s2 : aw s2) : ∀ c ∈ (az x s0 s1 s2), aw c := by
 simp only [az, List.cons_append, List.nil_append]
 repeat' (first | exact aw.v _ | assumption | exact List.forall_mem_nil _ | refine List.forall_mem_cons.2 ⟨?_, ?_⟩)
theorem rj {st : AS} {F : List Nat} {σ : List (Option Nat)} (x : SessionResult) (s0 : AV) (s1 : AV) (s2 : AV) (s02 : AV) (s12 : AV) (s22 : AV) (h_s0 : Tm st F σ s0 s02) (h_s1 : Tm st F σ s1 s12) (h_s2 : Tm st F σ s2 s22) : TmL st F σ (az x s0 s1 s2) (az x s02 s12 s22) := by
 simp only [az, List.cons_append, List.nil_append]
 repeat' (first | exact TmL.nil | (refine TmL.cons (Tm.v _) ?_) | (refine TmL.cons (by assumption) ?_))
theorem bm {st : AS} {F : List Nat} {σ : List (Option Nat)} {x y : SessionResult} {s0 s1 s2 s02 s12 s22 : AV} (hxy : az y s02 s12 s22 = az x s02 s12 s22) (h_s0 : Tm st F σ s0 s02) (h_s1 : Tm st F σ s1 s12) (h_s2 : Tm st F σ s2 s22) : TmL st F σ (az x s0 s1 s2) (az y s02 s12 s22) := by
 rw [hxy]; exact rj x s0 s1 s2 s02 s12 s22 h_s0 h_s1 h_s2
theorem p5 (x : SessionResult) {s0 s1 s2 : (Nat → Nat) → AV} (h_s0 : aF s0) (h_s1 : aF s1) (h_s2 : aF s2) : RenML fun q => az x (s0 q) (s1 q) (s2 q) := by
 simp only [az, List.cons_append, List.nil_append]
 repeat' (first | exact RenML.nil | (refine RenML.cons (aF.const (aw.v _)) ?_) | (refine RenML.cons (by assumption) ?_))
def dO (x : SessionResult) : List AV := az x (lE x.Delivered) (lE x.Acked) (lE x.Dropped)
theorem iM (x : SessionResult) : dO x = az x (lE x.Delivered) (lE x.Acked) (lE x.Dropped) := rfl
theorem gd (x : SessionResult) : ∀ c ∈ dO x, aw c := nW x _ _ _ (dh _) (dh _) (dh _)
theorem ug (x : SessionResult) (o : Nat → Ob) (n : Nat) : (dO x).map (fz o (n + 2)) = dO x := by simp only [iM, lk, yK, yK, yK]
theorem ui (x : SessionResult) (o : Nat → Ob) (n : Nat) : (dO x).flatMap (bc o (n + 2)) = [] := by simp only [iM, jw, zw, zw, zw, List.append_nil]
attribute [go_sem] p8 p4 oF p7 kM kF mE mn lD lF l9 l0 lk jw iM ug ui

def jR (l : List SessionPlan) : AV := .imm (List.flatMap am l) l.length
theorem jC (l : List SessionPlan) : jR l = .imm (List.flatMap am l) l.length := rfl
theorem bY (x : SessionPlan) : (am x).length = 7 := by rfl
theorem rB (l : List SessionPlan) : (l.flatMap am).length = l.length * 7 := fc bY l
theorem sd (l : List SessionPlan) (i o : Nat) (ho : o < 7) : (l.flatMap am)[i * 7 + o]? = l[i]?.bind fun a => (am a)[o]? := je bY l i o ho
theorem qJ (l : List SessionPlan) (i : Nat) : (l.flatMap am)[i * 7]? = l[i]?.bind fun a => (am a)[0]? := je bY l i 0 (by decide)
theorem sr (l : List SessionPlan) (i o n : Nat) (ho : o + n ≤ 7) (hn : 0 < n) : cg (l.flatMap am) (i * 7 + o) n = l[i]?.bind fun a => cg (am a) o n := jf bY l i o n ho hn
theorem qE (l : List SessionPlan) (i n : Nat) (ho : n ≤ 7) (hn : 0 < n) : cg (l.flatMap am) (i * 7) n = l[i]?.bind fun a => cg (am a) 0 n := jf bY l i 0 n (by omega) hn
theorem rq (l : List SessionPlan) : cg (l.flatMap am) 0 (l.length * 7) = some (l.flatMap am) := pZ bY l
theorem qz (l : List SessionPlan) (n : Nat) : (l.flatMap am).take (n * 7) = (l.take n).flatMap am := iT bY l n
theorem rl (l : List SessionPlan) (n : Nat) : (l.flatMap am).drop (n * 7) = (l.drop n).flatMap am := jL bY l n
theorem mH (l : List SessionPlan) (o : Nat → Ob) (n : Nat) : (l.flatMap am).map (fz o (n + 1)) = (l.flatMap am) := uG (fun a => qo a o n) l
theorem lJ (l : List SessionPlan) (o : Nat → Ob) (n : Nat) : (l.flatMap am).flatMap (bc o (n + 1)) = [] := nc (fun a => qv a o n) l
theorem nS (l : List SessionPlan) (i : Nat) (v : Int) : (l.flatMap am).set (i * 7) (vi v) = (l.modify i (fun y => { y with Start := v })).flatMap am := dw bY l i 0 _ (fun y => { y with Start := v }) (by decide) (fun _ => by rfl)
theorem o0 (l : List SessionPlan) (i : Nat) (v : Int) : (l.flatMap am).set (i * 7 + 1) (vi v) = (l.modify i (fun y => { y with Size := v })).flatMap am := dw bY l i 1 _ (fun y => { y with Size := v }) (by decide) (fun _ => by rfl)
theorem oh (l : List SessionPlan) (i : Nat) (v : Int) : (l.flatMap am).set (i * 7 + 2) (vi v) = (l.modify i (fun y => { y with Limit := v })).flatMap am := dw bY l i 2 _ (fun y => { y with Limit := v }) (by decide) (fun _ => by rfl)
theorem pJ (l : List SessionPlan) (i : Nat) (v : Int) : (l.flatMap am).set (i * 7 + 3) (vi v) = (l.modify i (fun y => { y with Life := v })).flatMap am := dw bY l i 3 _ (fun y => { y with Life := v }) (by decide) (fun _ => by rfl)
theorem pu (l : List SessionPlan) (i : Nat) (v : Int) : (l.flatMap am).set (i * 7 + 4) (vi v) = (l.modify i (fun y => { y with Hold := v })).flatMap am := dw bY l i 4 _ (fun y => { y with Hold := v }) (by decide) (fun _ => by rfl)
theorem nZ (l : List SessionPlan) (i : Nat) (v : Int) : (l.flatMap am).set (i * 7 + 5) (vi v) = (l.modify i (fun y => { y with Burst := v })).flatMap am := dw bY l i 5 _ (fun y => { y with Burst := v }) (by decide) (fun _ => by rfl)
theorem oc (l : List SessionPlan) (i : Nat) (v : Int) : (l.flatMap am).set (i * 7 + 6) (vi v) = (l.modify i (fun y => { y with Round := v })).flatMap am := dw bY l i 6 _ (fun y => { y with Round := v }) (by decide) (fun _ => by rfl)
theorem rS (l : List SessionPlan) (i : Nat) (x : SessionPlan) : cC (l.flatMap am) (i * 7) (am x) = (l.set i x).flatMap am := sw bY (by decide) l i x
theorem sf (l : List SessionPlan) (x : SessionPlan) : (l.flatMap am) ++ am x = (l ++ [x]).flatMap am := by simp
theorem rC (l : List SessionPlan) (m : List SessionPlan) : (l.flatMap am) ++ m.flatMap am = (l ++ m).flatMap am := List.flatMap_append.symm
theorem ul (l : List SessionPlan) (o : Nat → Ob) (n : Nat) : fz o (n + 2) (jR l) = jR l := by simp only [jC, fz, mH]
theorem ud (l : List SessionPlan) (o : Nat → Ob) (n : Nat) : bc o (n + 2) (jR l) = [] := by simp only [jC, bc, lJ]
attribute [go_sem] jC bY rB sd qJ sr qE rq qz rl mH lJ nS o0 oh pJ pu nZ oc rS sf rC ul ud

structure Addr where
 a0 : Int
 a1 : Int
 a2 : Int
 a3 : Int
 a4 : Int
 a5 : Int
 deriving DecidableEq

def Addr.z : Addr := ⟨0, 0, 0, 0, 0, 0⟩

def dJ (x : Addr) : List AV := [vu x.a0, vu x.a1, vu x.a2, vu x.a3, vu x.a4, vu x.a5]

theorem Bn (x : Addr) : (dJ x).length = 6 := by rfl
theorem AY (x : Addr) : cg (dJ x) 0 6 = some (dJ x) := by rfl
theorem Ab (x : Addr) : (dJ x).take 6 = (dJ x) := by rfl
theorem Be (x : Addr) (y : Addr) : cC (dJ x) 0 (dJ y) = dJ y := by rfl
theorem yk (x : Addr) (o : Nat → Ob) (n : Nat) : (dJ x).map (fz o (n + 1)) = dJ x := by rfl
theorem rF (x : Addr) (o : Nat → Ob) (n : Nat) : (dJ x).flatMap (bc o (n + 1)) = [] := by
 simp only [dJ, List.cons_append, List.nil_append, List.append_nil, List.flatMap_cons, List.flatMap_nil, fm]
theorem Jo (x : Addr) (o : Nat → Ob) (n : Nat) : (dJ x).map (fz o (n + 1)) = dJ x := by simp only [yk]
theorem Jf (x : Addr) (o : Nat → Ob) (n : Nat) : (dJ x).flatMap (bc o (n + 1)) = [] := by simp only [rF, List.append_nil]
attribute [go_sem] Bn AY Ab Be yk rF Jo Jf

structure Header where
 Kind : Int
 Sub : Int
 ToDs : Bool
 FromDs : Bool
 More : Bool
 Retry : Bool
 Sleep : Bool
 MoreData : Bool
 Protected : Bool
 Duration : Int
 A1 : Addr
 A2 : Addr
 A3 : Addr
 A4 : Addr
 Seq : Int
 Frag : Int
 Tid : Int
 Ack : Int
 Amsdu : Bool
 Eosp : Bool
 deriving DecidableEq

def Header.z : Header := ⟨0, 0, false, false, false, false, false, false, false, 0, Addr.z, Addr.z, Addr.z, Addr.z, 0, 0, 0, 0, false, false⟩

def cO (x : Header) : List AV := [vu x.Kind, vu x.Sub, vb x.ToDs, vb x.FromDs, vb x.More, vb x.Retry, vb x.Sleep, vb x.MoreData, vb x.Protected, vi x.Duration] ++ (dJ x.A1) ++ (dJ x.A2) ++ (dJ x.A3) ++ (dJ x.A4) ++ [vi x.Seq, vi x.Frag, vi x.Tid, vu x.Ack, vb x.Amsdu, vb x.Eosp]

theorem yw (x : Header) : (cO x).length = 40 := by rfl
theorem yQ (x : Header) : cg (cO x) 0 40 = some (cO x) := by rfl
theorem wP (x : Header) : (cO x).take 40 = (cO x) := by rfl
theorem y9 (x : Header) (y : Header) : cC (cO x) 0 (cO y) = cO y := by rfl
theorem tW (x : Header) (o : Nat → Ob) (n : Nat) : (cO x).map (fz o (n + 1)) = cO x := by rfl
theorem oP (x : Header) (o : Nat → Ob) (n : Nat) : (cO x).flatMap (bc o (n + 1)) = [] := by
 simp only [cO, dJ, List.cons_append, List.nil_append, List.append_nil, List.flatMap_cons, List.flatMap_nil, fm]
theorem Eb (x : Header) (o : Nat → Ob) (n : Nat) : (cO x).map (fz o (n + 1)) = cO x := by simp only [tW]
theorem DM (x : Header) (o : Nat → Ob) (n : Nat) : (cO x).flatMap (bc o (n + 1)) = [] := by simp only [oP, List.append_nil]
attribute [go_sem] yw yQ wP y9 tW oP Eb DM

structure Frame where
 Head : Header
 Body : (List Int)
 deriving DecidableEq

def Frame.z : Frame := ⟨Header.z, []⟩

def bn (x : Frame) (s0 : AV) : List AV := (cO x.Head) ++ [s0]

theorem z9 (x : Frame) (s0 : AV) : (bn x s0).length = 41 := by rfl
theorem zR (x : Frame) (s0 : AV) : cg (bn x s0) 0 41 = some (bn x s0) := by rfl
theorem yx (x : Frame) (s0 : AV) : (bn x s0).take 41 = (bn x s0) := by rfl
theorem zF (x : Frame) (s0 : AV) (y : Frame) (s02 : AV) : cC (bn x s0) 0 (bn y s02) = bn y s02 := by rfl
theorem pq (x : Frame) (s0 : AV) (v : Bool) : (bn x s0).set 5 (vb v) = bn { x with Head.Retry := v } s0 := by rfl
theorem rk (x : Frame) (s0 : AV) : (bn x s0)[34]? = some (vi x.Head.Seq) := by rfl
theorem re (x : Frame) (s0 : AV) (v : Int) : (bn x s0).set 34 (vi v) = bn { x with Head.Seq := v } s0 := by rfl
theorem qA (x : Frame) (s0 : AV) (v : Int) : (bn x s0).set 36 (vi v) = bn { x with Head.Tid := v } s0 := by rfl
theorem uR (x : Frame) (s0 : AV) : (bn x s0)[40]? = some s0 := by rfl
theorem va (x : Frame) (s0 : AV) (v : AV) : (bn x s0).set 40 v = bn x v := by rfl
theorem wb (x : Frame) (s0 : AV) (o : Nat → Ob) (n : Nat) : (bn x s0).map (fz o (n + 1)) = bn x (fz o (n + 1) s0) := by rfl
theorem qk (x : Frame) (s0 : AV) (o : Nat → Ob) (n : Nat) : (bn x s0).flatMap (bc o (n + 1)) = bc o (n + 1) s0 := by
 simp only [bn, cO, dJ, List.cons_append, List.nil_append, List.append_nil, List.flatMap_cons, List.flatMap_nil, fm]
theorem xq (x : Frame) (s0 : AV) (h_s0 : aw s0) : ∀ c ∈ (bn x s0), aw c := by
 simp only [bn, cO, dJ, List.cons_append, List.nil_append]
 repeat' (first | exact aw.v _ | assumption | exact List.forall_mem_nil _ | refine List.forall_mem_cons.2 ⟨?_, ?_⟩)
theorem Bh {st : AS} {F : List Nat} {σ : List (Option Nat)} (x : Frame) (s0 : AV) (s02 : AV) (h_s0 : Tm st F σ s0 s02) : TmL st F σ (bn x s0) (bn x s02) := by
 simp only [bn, cO, dJ, List.cons_append, List.nil_append]
 repeat' (first | exact TmL.nil | (refine TmL.cons (Tm.v _) ?_) | (refine TmL.cons (by assumption) ?_))
theorem da {st : AS} {F : List Nat} {σ : List (Option Nat)} {x y : Frame} {s0 s02 : AV} (hxy : bn y s02 = bn x s02) (h_s0 : Tm st F σ s0 s02) : TmL st F σ (bn x s0) (bn y s02) := by
 rw [hxy]; exact Bh x s0 s02 h_s0
def aY (x : Frame) : List AV := bn x (r9 x.Body)
theorem rh (x : Frame) : aY x = bn x (r9 x.Body) := rfl
theorem dF (x : Frame) : ∀ c ∈ aY x, aw c := xq x _ (qC _)
theorem BG (x : Frame) (o : Nat → Ob) (n : Nat) : (aY x).map (fz o (n + 2)) = aY x := by simp only [rh, wb, yW]
theorem BT (x : Frame) (o : Nat → Ob) (n : Nat) : (aY x).flatMap (bc o (n + 2)) = [] := by simp only [rh, qk, ym, List.append_nil]
attribute [go_sem] z9 zR yx zF pq rk re qA uR va wb qk rh BG BT

structure Unacked where
 At : Int
 Tries : Int
 Flying : Bool
 Frame : Frame
 deriving DecidableEq

def Unacked.z : Unacked := ⟨0, 0, false, Frame.z⟩

def bh (x : Unacked) (s0 : AV) : List AV := [vi x.At, vi x.Tries, vb x.Flying] ++ (bn x.Frame s0)

theorem wH (x : Unacked) (s0 : AV) : (bh x s0).length = 44 := by rfl
theorem xp (x : Unacked) (s0 : AV) : cg (bh x s0) 0 44 = some (bh x s0) := by rfl
theorem u6 (x : Unacked) (s0 : AV) : (bh x s0).take 44 = (bh x s0) := by rfl
theorem xB (x : Unacked) (s0 : AV) (y : Unacked) (s02 : AV) : cC (bh x s0) 0 (bh y s02) = bh y s02 := by rfl
theorem vv (x : Unacked) (s0 : AV) : (bh x s0)[0]? = some (vi x.At) := by rfl
theorem wg (x : Unacked) (s0 : AV) (v : Int) : (bh x s0).set 0 (vi v) = bh { x with At := v } s0 := by rfl
theorem rX (x : Unacked) (s0 : AV) : (bh x s0)[1]? = some (vi x.Tries) := by rfl
theorem rn (x : Unacked) (s0 : AV) : (bh x s0)[2]? = some (vb x.Flying) := by rfl
theorem kY (x : Unacked) (s0 : AV) : (bh x s0)[37]? = some (vi x.Frame.Head.Seq) := by rfl
theorem rZ (x : Unacked) (s0 : AV) : cg (bh x s0) 3 41 = some (bn x.Frame s0) := by rfl
theorem sq (x : Unacked) (s0 : AV) (v : Frame) (w0 : AV) : cC (bh x s0) 3 (bn v w0) = bh { x with Frame := v } w0 := by rfl
theorem sB (x : Unacked) (s0 : AV) (o : Nat → Ob) (n : Nat) : (bh x s0).map (fz o (n + 1)) = bh x (fz o (n + 1) s0) := by rfl
theorem nv (x : Unacked) (s0 : AV) (o : Nat → Ob) (n : Nat) : (bh x s0).flatMap (bc o (n + 1)) = bc o (n + 1) s0 := by
 simp only [bh, bn, cO, dJ, List.cons_append, List.nil_append, List.append_nil, List.flatMap_cons, List.flatMap_nil, fm]
theorem uh (x : Unacked) (s0 : AV) (h_s0 : aw s0) : ∀ c ∈ (bh x s0), aw c := by
 simp only [bh, bn, cO, dJ, List.cons_append, List.nil_append]
 repeat' (first | exact aw.v _ | assumption | exact List.forall_mem_nil _ | refine List.forall_mem_cons.2 ⟨?_, ?_⟩)
theorem zq {st : AS} {F : List Nat} {σ : List (Option Nat)} (x : Unacked) (s0 : AV) (s02 : AV) (h_s0 : Tm st F σ s0 s02) : TmL st F σ (bh x s0) (bh x s02) := by
 simp only [bh, bn, cO, dJ, List.cons_append, List.nil_append]
 repeat' (first | exact TmL.nil | (refine TmL.cons (Tm.v _) ?_) | (refine TmL.cons (by assumption) ?_))
theorem ql {st : AS} {F : List Nat} {σ : List (Option Nat)} {x y : Unacked} {s0 s02 : AV} (hxy : bh y s02 = bh x s02) (h_s0 : Tm st F σ s0 s02) : TmL st F σ (bh x s0) (bh y s02) := by
 rw [hxy]; exact zq x s0 s02 h_s0
theorem qd (x : Unacked) {s0 : (Nat → Nat) → AV} (h_s0 : aF s0) : RenML fun q => bh x (s0 q) := by
 simp only [bh, bn, cO, dJ, List.cons_append, List.nil_append]
 repeat' (first | exact RenML.nil | (refine RenML.cons (aF.const (aw.v _)) ?_) | (refine RenML.cons (by assumption) ?_))
def ag (x : Unacked) : List AV := bh x (r9 x.Frame.Body)
theorem nl (x : Unacked) : ag x = bh x (r9 x.Frame.Body) := rfl
theorem iF (x : Unacked) : ∀ c ∈ ag x, aw c := uh x _ (qC _)
theorem ya (x : Unacked) (o : Nat → Ob) (n : Nat) : (ag x).map (fz o (n + 2)) = ag x := by simp only [nl, sB, yW]
theorem xR (x : Unacked) (o : Nat → Ob) (n : Nat) : (ag x).flatMap (bc o (n + 2)) = [] := by simp only [nl, nv, ym, List.append_nil]
attribute [go_sem] wH xp u6 xB vv wg rX rn kY rZ sq sB nv nl ya xR

def gN (l : List Unacked) : AV := .imm (List.flatMap ag l) l.length
theorem mO (l : List Unacked) : gN l = .imm (List.flatMap ag l) l.length := rfl
theorem c4 (x : Unacked) : (ag x).length = 44 := by rfl
theorem np (l : List Unacked) : aw (gN l) := aw.imm (jy iF l)
theorem ah (l : List Unacked) : ∀ c ∈ l.flatMap ag, aw c := jy iF l
theorem w8 (l : List Unacked) : (l.flatMap ag).length = l.length * 44 := fc c4 l
theorem wS (l : List Unacked) (i o : Nat) (ho : o < 44) : (l.flatMap ag)[i * 44 + o]? = l[i]?.bind fun a => (ag a)[o]? := je c4 l i o ho
theorem vE (l : List Unacked) (i : Nat) : (l.flatMap ag)[i * 44]? = l[i]?.bind fun a => (ag a)[0]? := je c4 l i 0 (by decide)
theorem wU (l : List Unacked) (i o n : Nat) (ho : o + n ≤ 44) (hn : 0 < n) : cg (l.flatMap ag) (i * 44 + o) n = l[i]?.bind fun a => cg (ag a) o n := jf c4 l i o n ho hn
theorem v9 (l : List Unacked) (i n : Nat) (ho : n ≤ 44) (hn : 0 < n) : cg (l.flatMap ag) (i * 44) n = l[i]?.bind fun a => cg (ag a) 0 n := jf c4 l i 0 n (by omega) hn
theorem uK (l : List Unacked) (o : Nat) : (l.flatMap ag)[o]? = l[o / 44]?.bind fun a => (ag a)[o % 44]? := xJ c4 (by decide) l o
theorem vl (l : List Unacked) (o n : Nat) (ho : o % 44 + n ≤ 44) (hn : 0 < n) : cg (l.flatMap ag) o n = l[o / 44]?.bind fun a => cg (ag a) (o % 44) n := xZ c4 l o n ho hn
theorem wc (l : List Unacked) : cg (l.flatMap ag) 0 (l.length * 44) = some (l.flatMap ag) := pZ c4 l
theorem uU (l : List Unacked) (n : Nat) : (l.flatMap ag).take (n * 44) = (l.take n).flatMap ag := iT c4 l n
theorem wu (l : List Unacked) (n : Nat) : (l.flatMap ag).drop (n * 44) = (l.drop n).flatMap ag := jL c4 l n
theorem rV (l : List Unacked) (o : Nat → Ob) (n : Nat) : (l.flatMap ag).map (fz o (n + 2)) = (l.flatMap ag) := uG (fun a => ya a o n) l
theorem qx (l : List Unacked) (o : Nat → Ob) (n : Nat) : (l.flatMap ag).flatMap (bc o (n + 2)) = [] := nc (fun a => xR a o n) l
theorem u7 (l : List Unacked) (i : Nat) (v : Int) : (l.flatMap ag).set (i * 44) (vi v) = (l.modify i (fun y => { y with At := v })).flatMap ag := dw c4 l i 0 _ (fun y => { y with At := v }) (by decide) (fun _ => by rfl)
theorem sC (l : List Unacked) (i : Nat) (v : Int) : (l.flatMap ag).set (i * 44 + 1) (vi v) = (l.modify i (fun y => { y with Tries := v })).flatMap ag := dw c4 l i 1 _ (fun y => { y with Tries := v }) (by decide) (fun _ => by rfl)
theorem ry (l : List Unacked) (i : Nat) (v : Bool) : (l.flatMap ag).set (i * 44 + 2) (vb v) = (l.modify i (fun y => { y with Flying := v })).flatMap ag := dw c4 l i 2 _ (fun y => { y with Flying := v }) (by decide) (fun _ => by rfl)
theorem kq (l : List Unacked) (i : Nat) (v : Bool) : (l.flatMap ag).set (i * 44 + 8) (vb v) = (l.modify i (fun y => { y with Frame.Head.Retry := v })).flatMap ag := dw c4 l i 8 _ (fun y => { y with Frame.Head.Retry := v }) (by decide) (fun _ => by rfl)
theorem lA (l : List Unacked) (i : Nat) (v : Int) : (l.flatMap ag).set (i * 44 + 37) (vi v) = (l.modify i (fun y => { y with Frame.Head.Seq := v })).flatMap ag := dw c4 l i 37 _ (fun y => { y with Frame.Head.Seq := v }) (by decide) (fun _ => by rfl)
theorem kX (l : List Unacked) (i : Nat) (v : Int) : (l.flatMap ag).set (i * 44 + 39) (vi v) = (l.modify i (fun y => { y with Frame.Head.Tid := v })).flatMap ag := dw c4 l i 39 _ (fun y => { y with Frame.Head.Tid := v }) (by decide) (fun _ => by rfl)
theorem wI (l : List Unacked) (i : Nat) (x : Unacked) (b0 : (List Int)) : cC (l.flatMap ag) (i * 44) (bh x (.imm (List.map vu b0) b0.length)) = (l.set i { x with Frame.Body := b0 }).flatMap ag := sw c4 (by decide) l i { x with Frame.Body := b0 }
theorem xr (l : List Unacked) (x : Unacked) (b0 : (List Int)) : (l.flatMap ag) ++ bh x (r9 b0) = (l ++ [{ x with Frame.Body := b0 }]).flatMap ag := by rw [List.flatMap_append]; simp only [List.flatMap_cons, List.flatMap_nil, List.append_nil]; rfl
theorem xl (l : List Unacked) (m : List Unacked) : (l.flatMap ag) ++ m.flatMap ag = (l ++ m).flatMap ag := List.flatMap_append.symm
theorem oK (l : List Unacked) (o : Nat → Ob) (n : Nat) : fz o (n + 3) (gN l) = gN l := by simp only [mO, fz, rV]
theorem o9 (l : List Unacked) (o : Nat → Ob) (n : Nat) : bc o (n + 3) (gN l) = [] := by simp only [mO, bc, qx]
attribute [go_sem] mO c4 w8 wS vE wU v9 wc uU wu rV qx u7 sC ry kq lA kX wI xr xl oK o9

structure Sender where
 Tid : Int
 Phase : Int
 Token : Int
 Next : Int
 Size : Int
 Limit : Int
 Life : Int
 Out : (List Unacked)
 Bar : Bool
 deriving DecidableEq

def Sender.z : Sender := ⟨0, 0, 0, 0, 0, 0, 0, [], false⟩

def av (x : Sender) (s0 : AV) : List AV := [vi x.Tid, vu x.Phase, vi x.Token, vi x.Next, vi x.Size, vi x.Limit, vi x.Life, s0, vb x.Bar]

theorem zz (x : Sender) (s0 : AV) : (av x s0).length = 9 := by rfl
theorem zg (x : Sender) (s0 : AV) : cg (av x s0) 0 9 = some (av x s0) := by rfl
theorem wW (x : Sender) (s0 : AV) : (av x s0).take 9 = (av x s0) := by rfl
theorem yn (x : Sender) (s0 : AV) (y : Sender) (s02 : AV) : cC (av x s0) 0 (av y s02) = av y s02 := by rfl
theorem vS (x : Sender) (s0 : AV) : (av x s0)[0]? = some (vi x.Tid) := by rfl
theorem wC (x : Sender) (s0 : AV) (v : Int) : (av x s0).set 0 (vi v) = av { x with Tid := v } s0 := by rfl
theorem tx (x : Sender) (s0 : AV) : (av x s0)[1]? = some (vu x.Phase) := by rfl
theorem th (x : Sender) (s0 : AV) (v : Int) : (av x s0).set 1 (vu v) = av { x with Phase := v } s0 := by rfl
theorem s7 (x : Sender) (s0 : AV) : (av x s0)[2]? = some (vi x.Token) := by rfl
theorem tj (x : Sender) (s0 : AV) (v : Int) : (av x s0).set 2 (vi v) = av { x with Token := v } s0 := by rfl
theorem t4 (x : Sender) (s0 : AV) : (av x s0)[3]? = some (vi x.Next) := by rfl
theorem uq (x : Sender) (s0 : AV) (v : Int) : (av x s0).set 3 (vi v) = av { x with Next := v } s0 := by rfl
theorem ur (x : Sender) (s0 : AV) : (av x s0)[4]? = some (vi x.Size) := by rfl
theorem t7 (x : Sender) (s0 : AV) (v : Int) : (av x s0).set 4 (vi v) = av { x with Size := v } s0 := by rfl
theorem tg (x : Sender) (s0 : AV) : (av x s0)[5]? = some (vi x.Limit) := by rfl
theorem sI (x : Sender) (s0 : AV) (v : Int) : (av x s0).set 5 (vi v) = av { x with Limit := v } s0 := by rfl
theorem uk (x : Sender) (s0 : AV) : (av x s0)[6]? = some (vi x.Life) := by rfl
theorem uc (x : Sender) (s0 : AV) (v : Int) : (av x s0).set 6 (vi v) = av { x with Life := v } s0 := by rfl
theorem uO (x : Sender) (s0 : AV) : (av x s0)[7]? = some s0 := by rfl
theorem wB (x : Sender) (s0 : AV) (v : AV) : (av x s0).set 7 v = av x v := by rfl
theorem vC (x : Sender) (s0 : AV) : (av x s0)[8]? = some (vb x.Bar) := by rfl
theorem wj (x : Sender) (s0 : AV) (v : Bool) : (av x s0).set 8 (vb v) = av { x with Bar := v } s0 := by rfl
theorem tK (x : Sender) (s0 : AV) (o : Nat → Ob) (n : Nat) : (av x s0).map (fz o (n + 1)) = av x (fz o (n + 1) s0) := by rfl
theorem oU (x : Sender) (s0 : AV) (o : Nat → Ob) (n : Nat) : (av x s0).flatMap (bc o (n + 1)) = bc o (n + 1) s0 := by
 simp only [av, List.cons_append, List.nil_append, List.append_nil, List.flatMap_cons, List.flatMap_nil, fm]
theorem wl (x : Sender) (s0 : AV) (h_s0 : aw s0) : ∀ c ∈ (av x s0), aw c := by
 simp only [av, List.cons_append, List.nil_append]
 repeat' (first | exact aw.v _ | assumption | exact List.forall_mem_nil _ | refine List.forall_mem_cons.2 ⟨?_, ?_⟩)
theorem Ad {st : AS} {F : List Nat} {σ : List (Option Nat)} (x : Sender) (s0 : AV) (s02 : AV) (h_s0 : Tm st F σ s0 s02) : TmL st F σ (av x s0) (av x s02) := by
 simp only [av, List.cons_append, List.nil_append]
 repeat' (first | exact TmL.nil | (refine TmL.cons (Tm.v _) ?_) | (refine TmL.cons (by assumption) ?_))
theorem al {st : AS} {F : List Nat} {σ : List (Option Nat)} {x y : Sender} {s0 s02 : AV} (hxy : av y s02 = av x s02) (h_s0 : Tm st F σ s0 s02) : TmL st F σ (av x s0) (av y s02) := by
 rw [hxy]; exact Ad x s0 s02 h_s0
theorem bD (x : Sender) {s0 : (Nat → Nat) → AV} (h_s0 : aF s0) : RenML fun q => av x (s0 q) := by
 simp only [av, List.cons_append, List.nil_append]
 repeat' (first | exact RenML.nil | (refine RenML.cons (aF.const (aw.v _)) ?_) | (refine RenML.cons (by assumption) ?_))
def bt (x : Sender) : List AV := av x (gN x.Out)
theorem pd (x : Sender) : bt x = av x (gN x.Out) := rfl
theorem aR (x : Sender) : ∀ c ∈ bt x, aw c := wl x _ (np _)
theorem EA (x : Sender) (o : Nat → Ob) (n : Nat) : (bt x).map (fz o (n + 3)) = bt x := by simp only [pd, tK, oK]
theorem DZ (x : Sender) (o : Nat → Ob) (n : Nat) : (bt x).flatMap (bc o (n + 3)) = [] := by simp only [pd, oU, o9, List.append_nil]
attribute [go_sem] zz zg wW yn vS wC tx th s7 tj t4 uq ur t7 tg sI uk uc uO wB vC wj tK oU pd EA DZ

structure HeldSeq where
 At : Int
 Frame : Frame
 deriving DecidableEq

def HeldSeq.z : HeldSeq := ⟨0, Frame.z⟩

def bU (x : HeldSeq) (s0 : AV) : List AV := [vi x.At] ++ (bn x.Frame s0)

theorem l5 (x : HeldSeq) (s0 : AV) : (bU x s0).length = 42 := by rfl
theorem xn (x : HeldSeq) (s0 : AV) : cg (bU x s0) 0 42 = some (bU x s0) := by rfl
theorem wD (x : HeldSeq) (s0 : AV) : (bU x s0).take 42 = (bU x s0) := by rfl
theorem xx (x : HeldSeq) (s0 : AV) (y : HeldSeq) (s02 : AV) : cC (bU x s0) 0 (bU y s02) = bU y s02 := by rfl
theorem vo (x : HeldSeq) (s0 : AV) : (bU x s0)[0]? = some (vi x.At) := by rfl
theorem vk (x : HeldSeq) (s0 : AV) (v : Int) : (bU x s0).set 0 (vi v) = bU { x with At := v } s0 := by rfl
theorem kT (x : HeldSeq) (s0 : AV) : (bU x s0)[35]? = some (vi x.Frame.Head.Seq) := by rfl
theorem sa (x : HeldSeq) (s0 : AV) : cg (bU x s0) 1 41 = some (bn x.Frame s0) := by rfl
theorem su (x : HeldSeq) (s0 : AV) (v : Frame) (w0 : AV) : cC (bU x s0) 1 (bn v w0) = bU { x with Frame := v } w0 := by rfl
theorem rO (x : HeldSeq) (s0 : AV) (o : Nat → Ob) (n : Nat) : (bU x s0).map (fz o (n + 1)) = bU x (fz o (n + 1) s0) := by rfl
theorem nu (x : HeldSeq) (s0 : AV) (o : Nat → Ob) (n : Nat) : (bU x s0).flatMap (bc o (n + 1)) = bc o (n + 1) s0 := by
 simp only [bU, bn, cO, dJ, List.cons_append, List.nil_append, List.append_nil, List.flatMap_cons, List.flatMap_nil, fm]
theorem uo (x : HeldSeq) (s0 : AV) (h_s0 : aw s0) : ∀ c ∈ (bU x s0), aw c := by
 simp only [bU, bn, cO, dJ, List.cons_append, List.nil_append]
 repeat' (first | exact aw.v _ | assumption | exact List.forall_mem_nil _ | refine List.forall_mem_cons.2 ⟨?_, ?_⟩)
def ai (x : HeldSeq) : List AV := bU x (r9 x.Frame.Body)
theorem mY (x : HeldSeq) : ai x = bU x (r9 x.Frame.Body) := rfl
theorem kj (x : HeldSeq) : ∀ c ∈ ai x, aw c := uo x _ (qC _)
theorem yc (x : HeldSeq) (o : Nat → Ob) (n : Nat) : (ai x).map (fz o (n + 2)) = ai x := by simp only [mY, rO, yW]
theorem xC (x : HeldSeq) (o : Nat → Ob) (n : Nat) : (ai x).flatMap (bc o (n + 2)) = [] := by simp only [mY, nu, ym, List.append_nil]
attribute [go_sem] l5 xn wD xx vo vk kT sa su rO nu mY yc xC

def eN (l : List HeldSeq) : AV := .imm (List.flatMap ai l) l.length
theorem mQ (l : List HeldSeq) : eN l = .imm (List.flatMap ai l) l.length := rfl
theorem cZ (x : HeldSeq) : (ai x).length = 42 := by rfl
theorem fQ (l : List HeldSeq) : aw (eN l) := aw.imm (jy kj l)
theorem au (l : List HeldSeq) : ∀ c ∈ l.flatMap ai, aw c := jy kj l
theorem fZ (l : List HeldSeq) : (l.flatMap ai).length = l.length * 42 := fc cZ l
theorem xk (l : List HeldSeq) (i o : Nat) (ho : o < 42) : (l.flatMap ai)[i * 42 + o]? = l[i]?.bind fun a => (ai a)[o]? := je cZ l i o ho
theorem ww (l : List HeldSeq) (i : Nat) : (l.flatMap ai)[i * 42]? = l[i]?.bind fun a => (ai a)[0]? := je cZ l i 0 (by decide)
theorem wT (l : List HeldSeq) (i o n : Nat) (ho : o + n ≤ 42) (hn : 0 < n) : cg (l.flatMap ai) (i * 42 + o) n = l[i]?.bind fun a => cg (ai a) o n := jf cZ l i o n ho hn
theorem v8 (l : List HeldSeq) (i n : Nat) (ho : n ≤ 42) (hn : 0 < n) : cg (l.flatMap ai) (i * 42) n = l[i]?.bind fun a => cg (ai a) 0 n := jf cZ l i 0 n (by omega) hn
theorem oZ (l : List HeldSeq) (o : Nat) : (l.flatMap ai)[o]? = l[o / 42]?.bind fun a => (ai a)[o % 42]? := xJ cZ (by decide) l o
theorem ow (l : List HeldSeq) (o n : Nat) (ho : o % 42 + n ≤ 42) (hn : 0 < n) : cg (l.flatMap ai) o n = l[o / 42]?.bind fun a => cg (ai a) (o % 42) n := xZ cZ l o n ho hn
theorem uT (l : List HeldSeq) : cg (l.flatMap ai) 0 (l.length * 42) = some (l.flatMap ai) := pZ cZ l
theorem vW (l : List HeldSeq) (n : Nat) : (l.flatMap ai).take (n * 42) = (l.take n).flatMap ai := iT cZ l n
theorem uW (l : List HeldSeq) (n : Nat) : (l.flatMap ai).drop (n * 42) = (l.drop n).flatMap ai := jL cZ l n
theorem sl (l : List HeldSeq) (o : Nat → Ob) (n : Nat) : (l.flatMap ai).map (fz o (n + 2)) = (l.flatMap ai) := uG (fun a => yc a o n) l
theorem qp (l : List HeldSeq) (o : Nat → Ob) (n : Nat) : (l.flatMap ai).flatMap (bc o (n + 2)) = [] := nc (fun a => xC a o n) l
theorem wy (l : List HeldSeq) (i : Nat) (v : Int) : (l.flatMap ai).set (i * 42) (vi v) = (l.modify i (fun y => { y with At := v })).flatMap ai := dw cZ l i 0 _ (fun y => { y with At := v }) (by decide) (fun _ => by rfl)
theorem kl (l : List HeldSeq) (i : Nat) (v : Bool) : (l.flatMap ai).set (i * 42 + 6) (vb v) = (l.modify i (fun y => { y with Frame.Head.Retry := v })).flatMap ai := dw cZ l i 6 _ (fun y => { y with Frame.Head.Retry := v }) (by decide) (fun _ => by rfl)
theorem lv (l : List HeldSeq) (i : Nat) (v : Int) : (l.flatMap ai).set (i * 42 + 35) (vi v) = (l.modify i (fun y => { y with Frame.Head.Seq := v })).flatMap ai := dw cZ l i 35 _ (fun y => { y with Frame.Head.Seq := v }) (by decide) (fun _ => by rfl)
theorem kW (l : List HeldSeq) (i : Nat) (v : Int) : (l.flatMap ai).set (i * 42 + 37) (vi v) = (l.modify i (fun y => { y with Frame.Head.Tid := v })).flatMap ai := dw cZ l i 37 _ (fun y => { y with Frame.Head.Tid := v }) (by decide) (fun _ => by rfl)
theorem xf (l : List HeldSeq) (i : Nat) (x : HeldSeq) (b0 : (List Int)) : cC (l.flatMap ai) (i * 42) (bU x (.imm (List.map vu b0) b0.length)) = (l.set i { x with Frame.Body := b0 }).flatMap ai := sw cZ (by decide) l i { x with Frame.Body := b0 }
theorem w7 (l : List HeldSeq) (x : HeldSeq) (b0 : (List Int)) : (l.flatMap ai) ++ bU x (r9 b0) = (l ++ [{ x with Frame.Body := b0 }]).flatMap ai := by rw [List.flatMap_append]; simp only [List.flatMap_cons, List.flatMap_nil, List.append_nil]; rfl
theorem xz (l : List HeldSeq) (m : List HeldSeq) : (l.flatMap ai) ++ m.flatMap ai = (l ++ m).flatMap ai := List.flatMap_append.symm
theorem ov (l : List HeldSeq) (o : Nat → Ob) (n : Nat) : fz o (n + 3) (eN l) = eN l := by simp only [mQ, fz, sl]
theorem pm (l : List HeldSeq) (o : Nat → Ob) (n : Nat) : bc o (n + 3) (eN l) = [] := by simp only [mQ, bc, qp]
attribute [go_sem] mQ cZ fZ xk ww wT v8 uT vW uW sl qp wy kl lv kW xf w7 xz ov pm

structure Window where
 Start : Int
 Bits : Int
 deriving DecidableEq

def Window.z : Window := ⟨0, 0⟩

def aU (x : Window) : List AV := [vi x.Start, vq x.Bits]

theorem zi (x : Window) : (aU x).length = 2 := by rfl
theorem zf (x : Window) : cg (aU x) 0 2 = some (aU x) := by rfl
theorem wN (x : Window) : (aU x).take 2 = (aU x) := by rfl
theorem zp (x : Window) (y : Window) : cC (aU x) 0 (aU y) = aU y := by rfl
theorem sK (x : Window) : (aU x)[0]? = some (vi x.Start) := by rfl
theorem sP (x : Window) (v : Int) : (aU x).set 0 (vi v) = aU { x with Start := v } := by rfl
theorem uf (x : Window) : (aU x)[1]? = some (vq x.Bits) := by rfl
theorem uu (x : Window) (v : Int) : (aU x).set 1 (vq v) = aU { x with Bits := v } := by rfl
theorem tO (x : Window) (o : Nat → Ob) (n : Nat) : (aU x).map (fz o (n + 1)) = aU x := by rfl
theorem pQ (x : Window) (o : Nat → Ob) (n : Nat) : (aU x).flatMap (bc o (n + 1)) = [] := by
 simp only [aU, List.cons_append, List.nil_append, List.append_nil, List.flatMap_cons, List.flatMap_nil, fm]
theorem aI (x : Window) : ∀ c ∈ (aU x), aw c := by
 simp only [aU, List.cons_append, List.nil_append]
 repeat' (first | exact aw.v _ | assumption | exact List.forall_mem_nil _ | refine List.forall_mem_cons.2 ⟨?_, ?_⟩)
theorem C3 (x : Window) (o : Nat → Ob) (n : Nat) : (aU x).map (fz o (n + 1)) = aU x := by simp only [tO]
theorem Dw (x : Window) (o : Nat → Ob) (n : Nat) : (aU x).flatMap (bc o (n + 1)) = [] := by simp only [pQ, List.append_nil]
attribute [go_sem] zi zf wN zp sK sP uf uu tO pQ C3 Dw

structure Reorder where
 Start : Int
 Size : Int
 Hold : Int
 Held : (List HeldSeq)
 Seen : Window
 deriving DecidableEq

def Reorder.z : Reorder := ⟨0, 0, 0, [], Window.z⟩

def aB (x : Reorder) (s0 : AV) : List AV := [vi x.Start, vi x.Size, vi x.Hold, s0] ++ (aU x.Seen)

theorem wL (x : Reorder) (s0 : AV) : (aB x s0).length = 6 := by rfl
theorem xa (x : Reorder) (s0 : AV) : cg (aB x s0) 0 6 = some (aB x s0) := by rfl
theorem vD (x : Reorder) (s0 : AV) : (aB x s0).take 6 = (aB x s0) := by rfl
theorem wJ (x : Reorder) (s0 : AV) (y : Reorder) (s02 : AV) : cC (aB x s0) 0 (aB y s02) = aB y s02 := by rfl
theorem r8 (x : Reorder) (s0 : AV) : (aB x s0)[0]? = some (vi x.Start) := by rfl
theorem rN (x : Reorder) (s0 : AV) (v : Int) : (aB x s0).set 0 (vi v) = aB { x with Start := v } s0 := by rfl
theorem sN (x : Reorder) (s0 : AV) : (aB x s0)[1]? = some (vi x.Size) := by rfl
theorem sQ (x : Reorder) (s0 : AV) (v : Int) : (aB x s0).set 1 (vi v) = aB { x with Size := v } s0 := by rfl
theorem tq (x : Reorder) (s0 : AV) : (aB x s0)[2]? = some (vi x.Hold) := by rfl
theorem tt (x : Reorder) (s0 : AV) (v : Int) : (aB x s0).set 2 (vi v) = aB { x with Hold := v } s0 := by rfl
theorem tF (x : Reorder) (s0 : AV) : (aB x s0)[3]? = some s0 := by rfl
theorem sO (x : Reorder) (s0 : AV) (v : AV) : (aB x s0).set 3 v = aB x v := by rfl
theorem sD (x : Reorder) (s0 : AV) : cg (aB x s0) 4 2 = some (aU x.Seen) := by rfl
theorem tE (x : Reorder) (s0 : AV) (v : Window) : cC (aB x s0) 4 (aU v) = aB { x with Seen := v } s0 := by rfl
theorem sv (x : Reorder) (s0 : AV) (o : Nat → Ob) (n : Nat) : (aB x s0).map (fz o (n + 1)) = aB x (fz o (n + 1) s0) := by rfl
theorem nz (x : Reorder) (s0 : AV) (o : Nat → Ob) (n : Nat) : (aB x s0).flatMap (bc o (n + 1)) = bc o (n + 1) s0 := by
 simp only [aB, aU, List.cons_append, List.nil_append, List.append_nil, List.flatMap_cons, List.flatMap_nil, fm]
theorem uw (x : Reorder) (s0 : AV) (h_s0 : aw s0) : ∀ c ∈ (aB x s0), aw c := by
 simp only [aB, aU, List.cons_append, List.nil_append]
 repeat' (first | exact aw.v _ | assumption | exact List.forall_mem_nil _ | refine List.forall_mem_cons.2 ⟨?_, ?_⟩)
theorem yH {st : AS} {F : List Nat} {σ : List (Option Nat)} (x : Reorder) (s0 : AV) (s02 : AV) (h_s0 : Tm st F σ s0 s02) : TmL st F σ (aB x s0) (aB x s02) := by
 simp only [aB, aU, List.cons_append, List.nil_append]
 repeat' (first | exact TmL.nil | (refine TmL.cons (Tm.v _) ?_) | (refine TmL.cons (by assumption) ?_))
theorem aJ {st : AS} {F : List Nat} {σ : List (Option Nat)} {x y : Reorder} {s0 s02 : AV} (hxy : aB y s02 = aB x s02) (h_s0 : Tm st F σ s0 s02) : TmL st F σ (aB x s0) (aB y s02) := by
 rw [hxy]; exact yH x s0 s02 h_s0
theorem im (x : Reorder) {s0 : (Nat → Nat) → AV} (h_s0 : aF s0) : RenML fun q => aB x (s0 q) := by
 simp only [aB, aU, List.cons_append, List.nil_append]
 repeat' (first | exact RenML.nil | (refine RenML.cons (aF.const (aw.v _)) ?_) | (refine RenML.cons (by assumption) ?_))
theorem qt {q nx off : Nat} (x : Reorder) {s0 : AV} {s02 : AV} (h_s0 : Fr q nx off s0 s02) : FrL q nx off (aB x s0) (aB x s02) := by
 simp only [aB, aU, List.cons_append, List.nil_append]
 repeat' (first | exact FrL.nil | (refine FrL.cons _ _ _ _ (by assumption) ?_) | (refine FrL.cons _ _ _ _ (Fr.same _) ?_))
def c6 (x : Reorder) : List AV := aB x (eN x.Held)
theorem mV (x : Reorder) : c6 x = aB x (eN x.Held) := rfl
theorem bA (x : Reorder) : ∀ c ∈ c6 x, aw c := uw x _ (fQ _)
theorem Cr (x : Reorder) (o : Nat → Ob) (n : Nat) : (c6 x).map (fz o (n + 3)) = c6 x := by simp only [mV, sv, ov]
theorem Ce (x : Reorder) (o : Nat → Ob) (n : Nat) : (c6 x).flatMap (bc o (n + 3)) = [] := by simp only [mV, nz, pm, List.append_nil]
attribute [go_sem] wL xa vD wJ r8 rN sN sQ tq tt tF sO sD tE sv nz mV Cr Ce

structure Session_sides where
 Sender : Sender
 Reorder : Reorder
 deriving DecidableEq

def Session_sides.z : Session_sides := ⟨Sender.z, Reorder.z⟩

def bx (x : Session_sides) (s0 : AV) (s1 : AV) : List AV := (av x.Sender s0) ++ (aB x.Reorder s1)

theorem qb (x : Session_sides) (s0 : AV) (s1 : AV) : (bx x s0 s1).length = 15 := by rfl
theorem qc (x : Session_sides) (s0 : AV) (s1 : AV) : cg (bx x s0 s1) 0 15 = some (bx x s0 s1) := by rfl
theorem oN (x : Session_sides) (s0 : AV) (s1 : AV) : (bx x s0 s1).take 15 = (bx x s0 s1) := by rfl
theorem qa (x : Session_sides) (s0 : AV) (s1 : AV) (y : Session_sides) (s02 : AV) (s12 : AV) : cC (bx x s0 s1) 0 (bx y s02 s12) = bx y s02 s12 := by rfl
theorem lf (x : Session_sides) (s0 : AV) (s1 : AV) (o : Nat → Ob) (n : Nat) : (bx x s0 s1).map (fz o (n + 1)) = bx x (fz o (n + 1) s0) (fz o (n + 1) s1) := by rfl
theorem jv (x : Session_sides) (s0 : AV) (s1 : AV) (o : Nat → Ob) (n : Nat) : (bx x s0 s1).flatMap (bc o (n + 1)) = bc o (n + 1) s0 ++ bc o (n + 1) s1 := by
 simp only [bx, av, aB, aU, List.cons_append, List.nil_append, List.append_nil, List.flatMap_cons, List.flatMap_nil, fm]
def iG (x : Session_sides) : List AV := bx x (gN x.Sender.Out) (eN x.Reorder.Held)
theorem iK (x : Session_sides) : iG x = bx x (gN x.Sender.Out) (eN x.Reorder.Held) := rfl
theorem t8 (x : Session_sides) (o : Nat → Ob) (n : Nat) : (iG x).map (fz o (n + 3)) = iG x := by simp only [iK, lf, oK, ov]
theorem t9 (x : Session_sides) (o : Nat → Ob) (n : Nat) : (iG x).flatMap (bc o (n + 3)) = [] := by simp only [iK, jv, o9, pm, List.append_nil]
attribute [go_sem] qb qc oN qa lf jv iK t8 t9

structure Session_session where
 sides : Session_sides
 plan : SessionPlan
 many : Int
 accepted : Int
 lost : Unit
 out : SessionResult
 err : Int
 deriving DecidableEq

def Session_session.z : Session_session := ⟨Session_sides.z, SessionPlan.z, 0, 0, (), SessionResult.z, 0⟩

def ae (x : Session_session) (s0 : AV) (s1 : AV) (s2 : AV) (s3 : AV) (s4 : AV) (s5 : AV) : List AV := (bx x.sides s0 s1) ++ (am x.plan) ++ [vi x.many, vi x.accepted, s2] ++ (az x.out s3 s4 s5) ++ [vi x.err]

theorem ol (x : Session_session) (s0 : AV) (s1 : AV) (s2 : AV) (s3 : AV) (s4 : AV) (s5 : AV) : (ae x s0 s1 s2 s3 s4 s5).length = 30 := by rfl
theorem om (x : Session_session) (s0 : AV) (s1 : AV) (s2 : AV) (s3 : AV) (s4 : AV) (s5 : AV) : cg (ae x s0 s1 s2 s3 s4 s5) 0 30 = some (ae x s0 s1 s2 s3 s4 s5) := by rfl
theorem mN (x : Session_session) (s0 : AV) (s1 : AV) (s2 : AV) (s3 : AV) (s4 : AV) (s5 : AV) : (ae x s0 s1 s2 s3 s4 s5).take 30 = (ae x s0 s1 s2 s3 s4 s5) := by rfl
theorem oq (x : Session_session) (s0 : AV) (s1 : AV) (s2 : AV) (s3 : AV) (s4 : AV) (s5 : AV) (y : Session_session) (s02 : AV) (s12 : AV) (s22 : AV) (s32 : AV) (s42 : AV) (s52 : AV) : cC (ae x s0 s1 s2 s3 s4 s5) 0 (ae y s02 s12 s22 s32 s42 s52) = ae y s02 s12 s22 s32 s42 s52 := by rfl
theorem gL (x : Session_session) (s0 : AV) (s1 : AV) (s2 : AV) (s3 : AV) (s4 : AV) (s5 : AV) : (ae x s0 s1 s2 s3 s4 s5)[3]? = some (vi x.sides.Sender.Next) := by rfl
theorem gZ (x : Session_session) (s0 : AV) (s1 : AV) (s2 : AV) (s3 : AV) (s4 : AV) (s5 : AV) : (ae x s0 s1 s2 s3 s4 s5)[7]? = some s0 := by rfl
theorem hH (x : Session_session) (s0 : AV) (s1 : AV) (s2 : AV) (s3 : AV) (s4 : AV) (s5 : AV) : (ae x s0 s1 s2 s3 s4 s5)[8]? = some (vb x.sides.Sender.Bar) := by rfl
theorem jN (x : Session_session) (s0 : AV) (s1 : AV) (s2 : AV) (s3 : AV) (s4 : AV) (s5 : AV) : (ae x s0 s1 s2 s3 s4 s5)[15]? = some (vi x.plan.Start) := by rfl
theorem jA (x : Session_session) (s0 : AV) (s1 : AV) (s2 : AV) (s3 : AV) (s4 : AV) (s5 : AV) : (ae x s0 s1 s2 s3 s4 s5)[20]? = some (vi x.plan.Burst) := by rfl
theorem jB (x : Session_session) (s0 : AV) (s1 : AV) (s2 : AV) (s3 : AV) (s4 : AV) (s5 : AV) : (ae x s0 s1 s2 s3 s4 s5)[21]? = some (vi x.plan.Round) := by rfl
theorem lY (x : Session_session) (s0 : AV) (s1 : AV) (s2 : AV) (s3 : AV) (s4 : AV) (s5 : AV) : (ae x s0 s1 s2 s3 s4 s5)[22]? = some (vi x.many) := by rfl
theorem ma (x : Session_session) (s0 : AV) (s1 : AV) (s2 : AV) (s3 : AV) (s4 : AV) (s5 : AV) (v : Int) : (ae x s0 s1 s2 s3 s4 s5).set 22 (vi v) = ae { x with many := v } s0 s1 s2 s3 s4 s5 := by rfl
theorem kp (x : Session_session) (s0 : AV) (s1 : AV) (s2 : AV) (s3 : AV) (s4 : AV) (s5 : AV) : (ae x s0 s1 s2 s3 s4 s5)[23]? = some (vi x.accepted) := by rfl
theorem ko (x : Session_session) (s0 : AV) (s1 : AV) (s2 : AV) (s3 : AV) (s4 : AV) (s5 : AV) (v : Int) : (ae x s0 s1 s2 s3 s4 s5).set 23 (vi v) = ae { x with accepted := v } s0 s1 s2 s3 s4 s5 := by rfl
theorem lV (x : Session_session) (s0 : AV) (s1 : AV) (s2 : AV) (s3 : AV) (s4 : AV) (s5 : AV) : (ae x s0 s1 s2 s3 s4 s5)[24]? = some s2 := by rfl
theorem l8 (x : Session_session) (s0 : AV) (s1 : AV) (s2 : AV) (s3 : AV) (s4 : AV) (s5 : AV) (v : AV) : (ae x s0 s1 s2 s3 s4 s5).set 24 v = ae x s0 s1 v s3 s4 s5 := by rfl
theorem i8 (x : Session_session) (s0 : AV) (s1 : AV) (s2 : AV) (s3 : AV) (s4 : AV) (s5 : AV) : (ae x s0 s1 s2 s3 s4 s5)[25]? = some s3 := by rfl
theorem i9 (x : Session_session) (s0 : AV) (s1 : AV) (s2 : AV) (s3 : AV) (s4 : AV) (s5 : AV) (v : AV) : (ae x s0 s1 s2 s3 s4 s5).set 25 v = ae x s0 s1 s2 v s4 s5 := by rfl
theorem ki (x : Session_session) (s0 : AV) (s1 : AV) (s2 : AV) (s3 : AV) (s4 : AV) (s5 : AV) : (ae x s0 s1 s2 s3 s4 s5)[26]? = some s4 := by rfl
theorem jY (x : Session_session) (s0 : AV) (s1 : AV) (s2 : AV) (s3 : AV) (s4 : AV) (s5 : AV) (v : AV) : (ae x s0 s1 s2 s3 s4 s5).set 26 v = ae x s0 s1 s2 s3 v s5 := by rfl
theorem jr (x : Session_session) (s0 : AV) (s1 : AV) (s2 : AV) (s3 : AV) (s4 : AV) (s5 : AV) : (ae x s0 s1 s2 s3 s4 s5)[27]? = some s5 := by rfl
theorem jt (x : Session_session) (s0 : AV) (s1 : AV) (s2 : AV) (s3 : AV) (s4 : AV) (s5 : AV) (v : AV) : (ae x s0 s1 s2 s3 s4 s5).set 27 v = ae x s0 s1 s2 s3 s4 v := by rfl
theorem jF (x : Session_session) (s0 : AV) (s1 : AV) (s2 : AV) (s3 : AV) (s4 : AV) (s5 : AV) : (ae x s0 s1 s2 s3 s4 s5)[28]? = some (vi x.out.Rounds) := by rfl
theorem jH (x : Session_session) (s0 : AV) (s1 : AV) (s2 : AV) (s3 : AV) (s4 : AV) (s5 : AV) (v : Int) : (ae x s0 s1 s2 s3 s4 s5).set 28 (vi v) = ae { x with out.Rounds := v } s0 s1 s2 s3 s4 s5 := by rfl
theorem mh (x : Session_session) (s0 : AV) (s1 : AV) (s2 : AV) (s3 : AV) (s4 : AV) (s5 : AV) : (ae x s0 s1 s2 s3 s4 s5)[29]? = some (vi x.err) := by rfl
theorem mz (x : Session_session) (s0 : AV) (s1 : AV) (s2 : AV) (s3 : AV) (s4 : AV) (s5 : AV) (v : Int) : (ae x s0 s1 s2 s3 s4 s5).set 29 (vi v) = ae { x with err := v } s0 s1 s2 s3 s4 s5 := by rfl
theorem jg (x : Session_session) (s0 : AV) (s1 : AV) (s2 : AV) (s3 : AV) (s4 : AV) (s5 : AV) : cg (ae x s0 s1 s2 s3 s4 s5) 0 9 = some (av x.sides.Sender s0) := by rfl
theorem jl (x : Session_session) (s0 : AV) (s1 : AV) (s2 : AV) (s3 : AV) (s4 : AV) (s5 : AV) (v : Sender) (w0 : AV) : cC (ae x s0 s1 s2 s3 s4 s5) 0 (av v w0) = ae { x with sides.Sender := v } w0 s1 s2 s3 s4 s5 := by rfl
theorem ja (x : Session_session) (s0 : AV) (s1 : AV) (s2 : AV) (s3 : AV) (s4 : AV) (s5 : AV) : cg (ae x s0 s1 s2 s3 s4 s5) 9 6 = some (aB x.sides.Reorder s1) := by rfl
theorem jb (x : Session_session) (s0 : AV) (s1 : AV) (s2 : AV) (s3 : AV) (s4 : AV) (s5 : AV) (v : Reorder) (w0 : AV) : cC (ae x s0 s1 s2 s3 s4 s5) 9 (aB v w0) = ae { x with sides.Reorder := v } s0 w0 s2 s3 s4 s5 := by rfl
theorem l7 (x : Session_session) (s0 : AV) (s1 : AV) (s2 : AV) (s3 : AV) (s4 : AV) (s5 : AV) : cg (ae x s0 s1 s2 s3 s4 s5) 15 7 = some (am x.plan) := by rfl
theorem l4 (x : Session_session) (s0 : AV) (s1 : AV) (s2 : AV) (s3 : AV) (s4 : AV) (s5 : AV) (v : SessionPlan) : cC (ae x s0 s1 s2 s3 s4 s5) 15 (am v) = ae { x with plan := v } s0 s1 s2 s3 s4 s5 := by rfl
theorem mm (x : Session_session) (s0 : AV) (s1 : AV) (s2 : AV) (s3 : AV) (s4 : AV) (s5 : AV) : cg (ae x s0 s1 s2 s3 s4 s5) 25 4 = some (az x.out s3 s4 s5) := by rfl
theorem pK (x : Session_session) (s0 : AV) (s1 : AV) (s2 : AV) (s3 : AV) (s4 : AV) (s5 : AV) (o : Nat → Ob) (n : Nat) : (ae x s0 s1 s2 s3 s4 s5).map (fz o (n + 1)) = ae x (fz o (n + 1) s0) (fz o (n + 1) s1) (fz o (n + 1) s2) (fz o (n + 1) s3) (fz o (n + 1) s4) (fz o (n + 1) s5) := by rfl
theorem ms (x : Session_session) (s0 : AV) (s1 : AV) (s2 : AV) (s3 : AV) (s4 : AV) (s5 : AV) (o : Nat → Ob) (n : Nat) : (ae x s0 s1 s2 s3 s4 s5).flatMap (bc o (n + 1)) = bc o (n + 1) s0 ++ (bc o (n + 1) s1 ++ (bc o (n + 1) s2 ++ (bc o (n + 1) s3 ++ (bc o (n + 1) s4 ++ bc o (n + 1) s5)))) := by
 simp only [ae, bx, av, aB, aU, am, az, List.cons_append, List.nil_append, List.append_nil, List.flatMap_cons, List.flatMap_nil, fm]
theorem fw (x : Session_session) (s0 : AV) (s1 : AV) (s2 : AV) (s3 : AV) (s4 : AV) (s5 : AV) (h_s0 : aw s0) (h_s1 : aw s1) (h_s2 : aw s2) (h_s3 : aw s3) (h_s4 : aw s4) (h_s5 : aw s5) : ∀ c ∈ (ae x s0 s1 s2 s3 s4 s5), aw c := by
 simp only [ae, bx, av, aB, aU, am, az, List.cons_append, List.nil_append]
 repeat' (first | exact aw.v _ | assumption | exact List.forall_mem_nil _ | refine List.forall_mem_cons.2 ⟨?_, ?_⟩)
theorem o5 {st : AS} {F : List Nat} {σ : List (Option Nat)} (x : Session_session) (s0 : AV) (s1 : AV) (s2 : AV) (s3 : AV) (s4 : AV) (s5 : AV) (s02 : AV) (s12 : AV) (s22 : AV) (s32 : AV) (s42 : AV) (s52 : AV) (h_s0 : Tm st F σ s0 s02) (h_s1 : Tm st F σ s1 s12) (h_s2 : Tm st F σ s2 s22) (h_s3 : Tm st F σ s3 s32) (h_s4 : Tm st F σ s4 s42) (h_s5 : Tm st F σ s5 s52) : TmL st F σ (ae x s0 s1 s2 s3 s4 s5) (ae x s02 s12 s22 s32 s42 s52) := by
 simp only [ae, bx, av, aB, aU, am, az, List.cons_append, List.nil_append]
 repeat' (first | exact TmL.nil | (refine TmL.cons (Tm.v _) ?_) | (refine TmL.cons (by assumption) ?_))
theorem aq {st : AS} {F : List Nat} {σ : List (Option Nat)} {x y : Session_session} {s0 s1 s2 s3 s4 s5 s02 s12 s22 s32 s42 s52 : AV} (hxy : ae y s02 s12 s22 s32 s42 s52 = ae x s02 s12 s22 s32 s42 s52) (h_s0 : Tm st F σ s0 s02) (h_s1 : Tm st F σ s1 s12) (h_s2 : Tm st F σ s2 s22) (h_s3 : Tm st F σ s3 s32) (h_s4 : Tm st F σ s4 s42) (h_s5 : Tm st F σ s5 s52) : TmL st F σ (ae x s0 s1 s2 s3 s4 s5) (ae y s02 s12 s22 s32 s42 s52) := by
 rw [hxy]; exact o5 x s0 s1 s2 s3 s4 s5 s02 s12 s22 s32 s42 s52 h_s0 h_s1 h_s2 h_s3 h_s4 h_s5
theorem bb (x : Session_session) {s0 s1 s2 s3 s4 s5 : (Nat → Nat) → AV} (h_s0 : aF s0) (h_s1 : aF s1) (h_s2 : aF s2) (h_s3 : aF s3) (h_s4 : aF s4) (h_s5 : aF s5) : RenML fun q => ae x (s0 q) (s1 q) (s2 q) (s3 q) (s4 q) (s5 q) := by
 simp only [ae, bx, av, aB, aU, am, az, List.cons_append, List.nil_append]
 repeat' (first | exact RenML.nil | (refine RenML.cons (aF.const (aw.v _)) ?_) | (refine RenML.cons (by assumption) ?_))
attribute [go_sem] ol om mN oq gL gZ hH jN jA jB lY ma kp ko lV l8 i8 i9 ki jY jr jt jF jH mh mz jg jl ja jb l7 l4 mm pK ms

structure BlockAsk where
 Token : Int
 Tid : Int
 Size : Int
 Start : Int
 deriving DecidableEq

def BlockAsk.z : BlockAsk := ⟨0, 0, 0, 0⟩

def bv (x : BlockAsk) : List AV := [vi x.Token, vi x.Tid, vi x.Size, vi x.Start]

theorem vP (x : BlockAsk) : (bv x).length = 4 := by rfl
theorem vr (x : BlockAsk) : cg (bv x) 0 4 = some (bv x) := by rfl
theorem t0 (x : BlockAsk) : (bv x).take 4 = (bv x) := by rfl
theorem vc (x : BlockAsk) (y : BlockAsk) : cC (bv x) 0 (bv y) = bv y := by rfl
theorem q9 (x : BlockAsk) : (bv x)[0]? = some (vi x.Token) := by rfl
theorem rm (x : BlockAsk) (v : Int) : (bv x).set 0 (vi v) = bv { x with Token := v } := by rfl
theorem sE (x : BlockAsk) (v : Int) : (bv x).set 1 (vi v) = bv { x with Tid := v } := by rfl
theorem sm (x : BlockAsk) (v : Int) : (bv x).set 2 (vi v) = bv { x with Size := v } := by rfl
theorem ra (x : BlockAsk) (v : Int) : (bv x).set 3 (vi v) = bv { x with Start := v } := by rfl
theorem qr (x : BlockAsk) (o : Nat → Ob) (n : Nat) : (bv x).map (fz o (n + 1)) = bv x := by rfl
theorem mq (x : BlockAsk) (o : Nat → Ob) (n : Nat) : (bv x).flatMap (bc o (n + 1)) = [] := by
 simp only [bv, List.cons_append, List.nil_append, List.append_nil, List.flatMap_cons, List.flatMap_nil, fm]
theorem de (x : BlockAsk) : ∀ c ∈ (bv x), aw c := by
 simp only [bv, List.cons_append, List.nil_append]
 repeat' (first | exact aw.v _ | assumption | exact List.forall_mem_nil _ | refine List.forall_mem_cons.2 ⟨?_, ?_⟩)
theorem By (x : BlockAsk) (o : Nat → Ob) (n : Nat) : (bv x).map (fz o (n + 1)) = bv x := by simp only [qr]
theorem Ba (x : BlockAsk) (o : Nat → Ob) (n : Nat) : (bv x).flatMap (bc o (n + 1)) = [] := by simp only [mq, List.append_nil]
attribute [go_sem] vP vr t0 vc q9 rm sE sm ra qr mq By Ba

structure BlockAnswer where
 Token : Int
 Tid : Int
 Status : Int
 Size : Int
 deriving DecidableEq

def BlockAnswer.z : BlockAnswer := ⟨0, 0, 0, 0⟩

def bg (x : BlockAnswer) : List AV := [vi x.Token, vi x.Tid, vi x.Status, vi x.Size]

theorem r7 (x : BlockAnswer) : (bg x).length = 4 := by rfl
theorem sc (x : BlockAnswer) : cg (bg x) 0 4 = some (bg x) := by rfl
theorem qT (x : BlockAnswer) : (bg x).take 4 = (bg x) := by rfl
theorem sA (x : BlockAnswer) (y : BlockAnswer) : cC (bg x) 0 (bg y) = bg y := by rfl
theorem ot (x : BlockAnswer) : (bg x)[0]? = some (vi x.Token) := by rfl
theorem nY (x : BlockAnswer) (v : Int) : (bg x).set 0 (vi v) = bg { x with Token := v } := by rfl
theorem p6 (x : BlockAnswer) : (bg x)[1]? = some (vi x.Tid) := by rfl
theorem mX (x : BlockAnswer) : (bg x)[2]? = some (vi x.Status) := by rfl
theorem oO (x : BlockAnswer) : (bg x)[3]? = some (vi x.Size) := by rfl
theorem pN (x : BlockAnswer) (v : Int) : (bg x).set 3 (vi v) = bg { x with Size := v } := by rfl
theorem mo (x : BlockAnswer) (o : Nat → Ob) (n : Nat) : (bg x).map (fz o (n + 1)) = bg x := by rfl
theorem kA (x : BlockAnswer) (o : Nat → Ob) (n : Nat) : (bg x).flatMap (bc o (n + 1)) = [] := by
 simp only [bg, List.cons_append, List.nil_append, List.append_nil, List.flatMap_cons, List.flatMap_nil, fm]
theorem hU (x : BlockAnswer) : ∀ c ∈ (bg x), aw c := by
 simp only [bg, List.cons_append, List.nil_append]
 repeat' (first | exact aw.v _ | assumption | exact List.forall_mem_nil _ | refine List.forall_mem_cons.2 ⟨?_, ?_⟩)
theorem xb (x : BlockAnswer) (o : Nat → Ob) (n : Nat) : (bg x).map (fz o (n + 1)) = bg x := by simp only [mo]
theorem xe (x : BlockAnswer) (o : Nat → Ob) (n : Nat) : (bg x).flatMap (bc o (n + 1)) = [] := by simp only [kA, List.append_nil]
attribute [go_sem] r7 sc qT sA ot nY p6 mX oO pN mo kA xb xe

def kN (l : List Frame) : AV := .imm (List.flatMap aY l) l.length
theorem qW (l : List Frame) : kN l = .imm (List.flatMap aY l) l.length := rfl
theorem gQ (x : Frame) : (aY x).length = 41 := by rfl
theorem jS (l : List Frame) : aw (kN l) := aw.imm (jy dF l)
theorem bW (l : List Frame) : ∀ c ∈ l.flatMap aY, aw c := jy dF l
theorem zG (l : List Frame) : (l.flatMap aY).length = l.length * 41 := fc gQ l
theorem Af (l : List Frame) (i o : Nat) (ho : o < 41) : (l.flatMap aY)[i * 41 + o]? = l[i]?.bind fun a => (aY a)[o]? := je gQ l i o ho
theorem zl (l : List Frame) (i : Nat) : (l.flatMap aY)[i * 41]? = l[i]?.bind fun a => (aY a)[0]? := je gQ l i 0 (by decide)
theorem zM (l : List Frame) (i o n : Nat) (ho : o + n ≤ 41) (hn : 0 < n) : cg (l.flatMap aY) (i * 41 + o) n = l[i]?.bind fun a => cg (aY a) o n := jf gQ l i o n ho hn
theorem yR (l : List Frame) (i n : Nat) (ho : n ≤ 41) (hn : 0 < n) : cg (l.flatMap aY) (i * 41) n = l[i]?.bind fun a => cg (aY a) 0 n := jf gQ l i 0 n (by omega) hn
theorem yB (l : List Frame) : cg (l.flatMap aY) 0 (l.length * 41) = some (l.flatMap aY) := pZ gQ l
theorem zb (l : List Frame) (n : Nat) : (l.flatMap aY).take (n * 41) = (l.take n).flatMap aY := iT gQ l n
theorem zo (l : List Frame) (n : Nat) : (l.flatMap aY).drop (n * 41) = (l.drop n).flatMap aY := jL gQ l n
theorem vT (l : List Frame) (o : Nat → Ob) (n : Nat) : (l.flatMap aY).map (fz o (n + 2)) = (l.flatMap aY) := uG (fun a => BG a o n) l
theorem tN (l : List Frame) (o : Nat → Ob) (n : Nat) : (l.flatMap aY).flatMap (bc o (n + 2)) = [] := nc (fun a => BT a o n) l
theorem oV (l : List Frame) (i : Nat) (v : Bool) : (l.flatMap aY).set (i * 41 + 5) (vb v) = (l.modify i (fun y => { y with Head.Retry := v })).flatMap aY := dw gQ l i 5 _ (fun y => { y with Head.Retry := v }) (by decide) (fun _ => by rfl)
theorem rg (l : List Frame) (i : Nat) (v : Int) : (l.flatMap aY).set (i * 41 + 34) (vi v) = (l.modify i (fun y => { y with Head.Seq := v })).flatMap aY := dw gQ l i 34 _ (fun y => { y with Head.Seq := v }) (by decide) (fun _ => by rfl)
theorem qH (l : List Frame) (i : Nat) (v : Int) : (l.flatMap aY).set (i * 41 + 36) (vi v) = (l.modify i (fun y => { y with Head.Tid := v })).flatMap aY := dw gQ l i 36 _ (fun y => { y with Head.Tid := v }) (by decide) (fun _ => by rfl)
theorem AC (l : List Frame) (i : Nat) (x : Frame) (b0 : (List Int)) : cC (l.flatMap aY) (i * 41) (bn x (.imm (List.map vu b0) b0.length)) = (l.set i { x with Body := b0 }).flatMap aY := sw gQ (by decide) l i { x with Body := b0 }
theorem AI (l : List Frame) (x : Frame) (b0 : (List Int)) : (l.flatMap aY) ++ bn x (r9 b0) = (l ++ [{ x with Body := b0 }]).flatMap aY := by rw [List.flatMap_append]; simp only [List.flatMap_cons, List.flatMap_nil, List.append_nil]; rfl
theorem As (l : List Frame) (m : List Frame) : (l.flatMap aY) ++ m.flatMap aY = (l ++ m).flatMap aY := List.flatMap_append.symm
theorem Cl (l : List Frame) (o : Nat → Ob) (n : Nat) : fz o (n + 3) (kN l) = kN l := by simp only [qW, fz, vT]
theorem Ck (l : List Frame) (o : Nat → Ob) (n : Nat) : bc o (n + 3) (kN l) = [] := by simp only [qW, bc, tN]
attribute [go_sem] qW gQ zG Af zl zM yR yB zb zo vT tN oV rg qH AC AI As Cl Ck

end Go.AX.Z.TN

/-! (TND) -/

set_option linter.unusedSimpArgs false
set_option linter.unusedVariables false
set_option maxHeartbeats 4000000
set_option maxRecDepth 20000
namespace Go.AX.Z.TN
open Go.AX

def gE : Option SessionPlan :=
 some { SessionPlan.z with Burst := 2, Hold := 16777216, Life := 1073741824, Limit := 2, Round := 10, Size := 2, Start := 4095 }

def cN (a0 : Int) (a1 : Int) (a2 : Int) : Option Bool :=
 some ((decide (a1 ≤ a0)) && (decide (a0 ≤ a2)))

def il (a0 : SessionPlan) : Option Int :=
 ((cN a0.Start 0 4095).bind fun x2 =>
 ((
  bif x2 then
   ((cN a0.Size 1 64).bind fun x3 =>
   some x3)
  else
   some false).bind fun x4 =>
 ((
  bif x4 then
   ((cN a0.Limit 1 16).bind fun x5 =>
   some x5)
  else
   some false).bind fun x6 =>
 ((
  bif x6 then
   ((cN a0.Burst 1 64).bind fun x7 =>
   some x7)
  else
   some false).bind fun x8 =>
 ((cN a0.Life 1 1073741824).bind fun x9 =>
 ((
  bif x9 then
   ((cN a0.Hold 0 16777216).bind fun x10 =>
   some x10)
  else
   some false).bind fun x11 =>
 ((
  bif x11 then
   ((cN a0.Round 1 1000000).bind fun x12 =>
   some x12)
  else
   some false).bind fun x13 =>
 bif ((!x8) || (!x13)) then
  some 8
 else
  some 0)))))))

def bH (a0 : Int) (a1 : Int) (a2 : Int) : Option Bool :=
 some ((decide (a1 ≤ a0)) && (decide (a0 ≤ a2)))

def fP (a0 : Sender) : Option Int :=
 bif decide (0 < (a0.Out.length : Int)) then
  ((idx a0.Out 0).bind fun x27 =>
  some x27.Frame.Head.Seq)
 else
  some a0.Next

def cD (a0 : Int) (a1 : Int) : Option Int :=
 some (IntKind.wrap .i64 (vp .u64 (IntKind.wrap .u64 ((IntKind.wrap .u64 a1) - (IntKind.wrap .u64 a0))) 4095))

def dU (a0 : Sender) (x27 : Int) (x28 : Int) : Nat → (Int × Int × Int) → Option (Ex Int Unit)
 | 0, _ => none
 | n15 + 1, d31 =>
  bif decide (d31.2.2 < (a0.Out.length : Int)) then
   ((idx a0.Out d31.2.2).bind fun x32 =>
   ((cD x27 x32.Frame.Head.Seq).bind fun x33 =>
   ((bH x32.Frame.Head.Seq 0 4095).bind fun x34 =>
   ((
    bif (((!x34) || (decide (x33 ≤ d31.1))) || (decide (x28 ≤ x33))) then
     some true
    else
     ((bH x32.At d31.2.1 1099511627776).bind fun x35 =>
     some (!x35))).bind fun x36 =>
   ((
    bif x36 then
     some true
    else
     ((bH x32.Tries 0 a0.Limit).bind fun x37 =>
     some (!x37))).bind fun x38 =>
   bif (x38 || (x32.Flying && (x32.Tries == 0))) then
    some (Ex.ret 8)
   else
    dU a0 x27 x28 n15 (x33, x32.At, IntKind.wrap .i64 (d31.2.2 + 1)))))))
  else
   some (Ex.go ())

def ee (a0 : Sender) : Option Int :=
 ((bH a0.Tid 0 7).bind fun x16 =>
 ((
  bif (x16 && (decide (a0.Phase ≤ 2))) then
   ((bH a0.Token 0 255).bind fun x17 =>
   some x17)
  else
   some false).bind fun x18 =>
 ((
  bif x18 then
   ((bH a0.Next 0 4095).bind fun x19 =>
   some x19)
  else
   some false).bind fun x20 =>
 ((
  bif x20 then
   ((bH a0.Limit 1 16).bind fun x21 =>
   some x21)
  else
   some false).bind fun x22 =>
 ((
  bif x22 then
   ((bH a0.Life 1 1073741824).bind fun x23 =>
   some x23)
  else
   some false).bind fun x24 =>
 ((bH a0.Size 1 64).bind fun x25 =>
 ((
  bif (a0.Phase == 0) then
   some (a0.Size == 0)
  else
   some x25).bind fun d26 =>
 bif (((!x24) || (!d26)) || ((a0.Phase != 2) && ((decide (0 < (a0.Out.length : Int))) || a0.Bar))) then
  some 8
 else
  ((fP a0).bind fun x27 =>
  ((cD x27 a0.Next).bind fun x28 =>
  bif decide (a0.Size < x28) then
   some 8
  else
   ((
    dU a0 x27 x28 big ((-1), 0, 0)).bind fun o30 =>
   (o30.k fun d29 =>
   some 0)))))))))))

def kV (a0 : Int) (a1 : Int) (a2 : Int) (a3 : Int) : Option (Sender × Int) :=
 ((ee { Sender.z with Life := a3, Limit := a2, Next := a1, Tid := a0 }).bind fun x16 =>
 bif (x16 != 0) then
  some (Sender.z, 2)
 else
  some ({ Sender.z with Life := a3, Limit := a2, Next := a1, Tid := a0 }, 0))

def aW (a0 : Int) (a1 : Session_session) (a2 : (List Bool)) : Option Session_session :=
 bif (a1.err == 0) then
  some { a1 with err := a0 }
 else
  some a1

def dP (a0 : Frame) : Option Frame :=
 ((chk (decide (a0.Body.length ≤ 140737488355328))).bind fun x23 =>
 some a0)

def eo (a0 : Sender) : Nat → (List Unacked × Int) → Option ((List Unacked))
 | 0, _ => none
 | n2 + 1, d22 =>
  bif decide (d22.2 < (a0.Out.length : Int)) then
   ((idx a0.Out d22.2).bind fun x23 =>
   ((dP x23.Frame).bind fun x24 =>
   ((chk (decide ((d22.1.length + 1) * 128 ≤ 140737488355328))).bind fun x25 =>
   eo a0 n2 ((d22.1 ++ [{ x23 with Frame := x24 }]), IntKind.wrap .i64 (d22.2 + 1)))))
  else
   some d22.1

def fa (a0 : Sender) : Option Sender :=
 ((
  eo a0 big ([], 0)).bind fun d21 =>
 some { a0 with Out := d21 })

def jz (a0 : Sender) (a1 : Int) : Option (BlockAsk × Sender × Int) :=
 ((ee a0).bind fun x19 =>
 bif (x19 != 0) then
  some (BlockAsk.z, Sender.z, x19)
 else
  ((bH a1 1 64).bind fun x20 =>
  bif (!x20) then
   some (BlockAsk.z, Sender.z, 2)
  else
   bif (a0.Phase == 2) then
    some (BlockAsk.z, Sender.z, 20)
   else
    ((fa { a0 with Phase := 1, Size := a1, Token := IntKind.wrap .i64 ((a0.Token.tmod 255) + 1) }).bind fun x21 =>
    some ({ BlockAsk.z with Size := a1, Start := a0.Next, Tid := a0.Tid, Token := IntKind.wrap .i64 ((a0.Token.tmod 255) + 1) }, x21, 0))))

def fY (a0 : Sender) (a1 : BlockAnswer) : Option (Sender × Int) :=
 ((ee a0).bind fun x24 =>
 ((
  bif (x24 != 0) then
   some (Ex.ret (Sender.z, x24))
  else
   bif (a0.Phase != 1) then
    some (Ex.ret (Sender.z, 20))
   else
    bif ((a1.Token != a0.Token) || (a1.Tid != a0.Tid)) then
     some (Ex.ret (Sender.z, 21))
    else
     bif (a1.Status != 0) then
      some (Ex.go { a0 with Phase := 0, Size := 0 })
     else
      ((bH a1.Size 1 a0.Size).bind fun x27 =>
      bif (!x27) then
       some (Ex.ret (Sender.z, 2))
      else
       some (Ex.go { a0 with Phase := 2, Size := a1.Size }))).bind fun o26 =>
 (o26.k fun d25 =>
 ((fa d25).bind fun x28 =>
 some (x28, 0)))))

def dl (a0 : Int) : Option Bool :=
 some ((decide (0 ≤ a0)) && (decide (a0 < 4096)))

def ef (a0 : Int) : Option Bool :=
 some ((decide (0 ≤ a0)) && (decide (a0 < 4096)))

def eH (a0 : Window) : Option Int :=
 ((ef a0.Start).bind fun x32 =>
 bif (!x32) then
  some 8
 else
  some 0)

def er (a0 : Int) : Option Bool :=
 some ((decide (0 ≤ a0)) && (decide (a0 ≤ 1099511627776)))

def cR (a0 : Reorder) : Nat → (Int × Int) → Option (Ex Int Unit)
 | 0, _ => none
 | n8 + 1, d36 =>
  bif decide (d36.2 < (a0.Held.length : Int)) then
   ((idx a0.Held d36.2).bind fun x37 =>
   ((cD a0.Start x37.Frame.Head.Seq).bind fun x38 =>
   ((dl x37.Frame.Head.Seq).bind fun x39 =>
   ((
    bif (!x39) then
     some true
    else
     ((er x37.At).bind fun x40 =>
     some (!x40))).bind fun x41 =>
   bif ((x41 || (decide (x38 ≤ d36.1))) || (decide (a0.Size ≤ x38))) then
    some (Ex.ret 8)
   else
    cR a0 n8 (x38, IntKind.wrap .i64 (d36.2 + 1))))))
  else
   some (Ex.go ())

def eg (a0 : Reorder) : Option Int :=
 ((dl a0.Start).bind fun x31 =>
 ((
  bif (((((!x31) || (decide (a0.Size < 1))) || (decide (64 < a0.Size))) || (decide (a0.Hold < 0))) || (decide (16777216 < a0.Hold))) then
   some true
  else
   ((eH a0.Seen).bind fun x32 =>
   some (x32 != 0))).bind fun x33 =>
 bif x33 then
  some 8
 else
  ((
   cR a0 big (0, 0)).bind fun o35 =>
  (o35.k fun d34 =>
  some 0))))

def lT (a0 : Int) (a1 : Int) (a2 : Int) : Option (Reorder × Int) :=
 ((eg { Reorder.z with Hold := a2, Seen := { Window.z with Start := a0 }, Size := a1, Start := a0 }).bind fun x31 =>
 bif (x31 != 0) then
  some (Reorder.z, 2)
 else
  some ({ Reorder.z with Hold := a2, Seen := { Window.z with Start := a0 }, Size := a1, Start := a0 }, 0))

def dY (a0 : Session_session) (a1 : (List Bool)) : Option Session_session :=
 ((kV 0 a0.plan.Start a0.plan.Limit a0.plan.Life).bind fun x16 =>
 ((aW x16.2 a0 a1).bind fun x17 =>
 ((jz x16.1 a0.plan.Size).bind fun x18 =>
 ((aW x18.2.2 { x17 with out.Acked := a0.out.Acked, out.Delivered := a0.out.Delivered, out.Dropped := a0.out.Dropped } a1).bind fun x19 =>
 ((fY x18.2.1 { BlockAnswer.z with Size := a0.plan.Size, Token := x18.1.Token }).bind fun x20 =>
 ((aW x20.2 { x19 with out.Acked := a0.out.Acked, out.Delivered := a0.out.Delivered, out.Dropped := a0.out.Dropped, sides.Sender := x20.1 } a1).bind fun x21 =>
 ((lT a0.plan.Start a0.plan.Size a0.plan.Hold).bind fun x22 =>
 ((aW x22.2 { x21 with out.Acked := a0.out.Acked, out.Delivered := a0.out.Delivered, out.Dropped := a0.out.Dropped, sides.Reorder := x22.1 } a1).bind fun x23 =>
 some x23))))))))

def dR (a0 : Sender) : Nat → (List Int × Int) → Option ((List Int))
 | 0, _ => none
 | n3 + 1, d28 =>
  bif decide (d28.2 < (a0.Out.length : Int)) then
   ((idx a0.Out d28.2).bind fun x29 =>
   ((chk (decide ((d28.1.length + 1) * 8 ≤ 140737488355328))).bind fun x30 =>
   dR a0 n3 ((d28.1 ++ [x29.Frame.Head.Seq]), IntKind.wrap .i64 (d28.2 + 1))))
  else
   some d28.1

def fF (a0 : Sender) : Option ((List Int) × Sender × Int) :=
 ((ee a0).bind fun x26 =>
 bif (x26 != 0) then
  some ([], Sender.z, x26)
 else
  ((
   dR a0 big ([], 0)).bind fun d27 =>
  some (d27, { a0 with Bar := false, Out := [], Phase := 0, Size := 0 }, 0)))

def bP (a2 : (List Int)) (a0 : Session_session) : Nat → (List Int × Int) → Option ((List Int))
 | 0, _ => none
 | n2 + 1, d34 =>
  bif decide (d34.2 < (a2.length : Int)) then
   ((idx a2 d34.2).bind fun x35 =>
   ((cD a0.plan.Start x35).bind fun x36 =>
   ((chk (decide ((d34.1.length + 1) * 8 ≤ 140737488355328))).bind fun x37 =>
   bP a2 a0 n2 ((d34.1 ++ [x36]), IntKind.wrap .i64 (d34.2 + 1)))))
  else
   some d34.1

def cm (a0 : Session_session) (a1 : (List Bool)) (a2 : (List Int)) : Option (List Int) :=
 ((
  bP a2 a0 big ([], 0)).bind fun d33 =>
 some d33)

def dQ (a0 : (List HeldSeq)) : Nat → (List HeldSeq × Int) → Option ((List HeldSeq))
 | 0, _ => none
 | n2 + 1, d46 =>
  bif decide (d46.2 < (a0.length : Int)) then
   ((idx a0 d46.2).bind fun x47 =>
   ((dP x47.Frame).bind fun x48 =>
   ((chk (decide ((d46.1.length + 1) * 112 ≤ 140737488355328))).bind fun x49 =>
   dQ a0 n2 ((d46.1 ++ [{ HeldSeq.z with At := x47.At, Frame := x48 }]), IntKind.wrap .i64 (d46.2 + 1)))))
  else
   some d46.1

def eI (a0 : (List HeldSeq)) : Option (List HeldSeq) :=
 ((
  dQ a0 big ([], 0)).bind fun d45 =>
 some d45)

def eV (a0 : HeldSeq) (a1 : Int) (a2 : Reorder) : Option Int :=
 ((cD a2.Start a0.Frame.Head.Seq).bind fun x55 =>
 some (IntKind.wrap .i64 (x55 - a1)))

def aM (a0 : (List HeldSeq)) (a1 : Int) (a2 : Reorder) : Nat → (Int × Int) → Option (Int)
 | 0, _ => none
 | n2 + 1, d54 =>
  bif decide (d54.1 < d54.2) then
   ((idx a0 (IntKind.wrap .i64 (((IntKind.wrap .u64 (IntKind.wrap .i64 (d54.1 + d54.2)))).fdiv (2 ^ (min 1 64))))).bind fun x55 =>
   ((eV x55 a1 a2).bind fun x56 =>
   bif decide (x56 < 0) then
    aM a0 a1 a2 n2 (IntKind.wrap .i64 ((IntKind.wrap .i64 (((IntKind.wrap .u64 (IntKind.wrap .i64 (d54.1 + d54.2)))).fdiv (2 ^ (min 1 64)))) + 1), d54.2)
   else
    aM a0 a1 a2 n2 (d54.1, IntKind.wrap .i64 (((IntKind.wrap .u64 (IntKind.wrap .i64 (d54.1 + d54.2)))).fdiv (2 ^ (min 1 64))))))
  else
   some d54.1

def bG (a0 : (List HeldSeq)) (a1 : Int) (a2 : Reorder) : Option (Int × Bool) :=
 ((
  aM a0 a1 a2 big (0, (a0.length : Int))).bind fun d53 =>
 bif decide (d53 < (a0.length : Int)) then
  ((idx a0 d53).bind fun x57 =>
  ((eV x57 a1 a2).bind fun x58 =>
  some (d53, (x58 == 0))))
 else
  some (d53, false))

def fX (a0 : Reorder) (a1 : Int) : Option (Int × Bool) :=
 ((cD a0.Start a1).bind fun x52 =>
 ((bG a0.Held x52 a0).bind fun x53 =>
 some (x53.1, x53.2)))

def eR (a0 : Int) (a1 : Int) : Option Int :=
 some (IntKind.wrap .i64 (vp .u64 (IntKind.wrap .u64 ((IntKind.wrap .u64 a0) + (IntKind.wrap .u64 a1))) 4095))

def dS (a0 : Reorder) : Nat → (List Frame × Nat × Int × Int) → Option ((List Frame))
 | 0, _ => none
 | n2 + 1, d55 =>
  bif decide (d55.2.2.2 < d55.2.2.1) then
   ((chk (decide (d55.2.2.2 < (d55.2.1 : Int)))).bind fun x56 =>
   ((idx a0.Held d55.2.2.2).bind fun x57 =>
   ((chk (decide ((d55.1.length + 1) * 104 ≤ 140737488355328))).bind fun x58 =>
   dS a0 n2 ((d55.1 ++ [x57.Frame]), d55.2.1, d55.2.2.1, IntKind.wrap .i64 (d55.2.2.2 + 1)))))
  else
   some d55.1

def dT : Nat → (Reorder × List HeldSeq × List Frame) → Option ((Reorder × List HeldSeq × List Frame))
 | 0, _ => none
 | n7 + 1, d61 =>
  ((
   bif decide (0 < ((d61.2.1.length : Nat) : Int)) then
    ((idx d61.2.1 0).bind fun x62 =>
    some (x62.Frame.Head.Seq == d61.1.Start))
   else
    some false).bind fun x63 =>
  bif x63 then
   ((idx d61.2.1 0).bind fun x64 =>
   ((chk (decide ((d61.2.2.length + 1) * 104 ≤ 140737488355328))).bind fun x65 =>
   ((eR d61.1.Start 1).bind fun x66 =>
   ((chk (decide (1 ≤ (d61.2.1.length : Int)))).bind fun x67 =>
   dT n7 ({ d61.1 with Start := x66 }, (List.drop 1 d61.2.1), (d61.2.2 ++ [x64.Frame]))))))
  else
   some (d61.1, d61.2.1, d61.2.2))

def eJ (a0 : Reorder) (a1 : Int) : Option (List Frame × Reorder × List HeldSeq) :=
 ((fX a0 a1).bind fun x52 =>
 ((chk (decide (0 ≤ x52.1) && decide (x52.1 ≤ (a0.Held.length : Int)))).bind fun x53 =>
 ((
  dS a0 big ([], (x52.1).toNat, (((x52.1).toNat : Nat) : Int), 0)).bind fun d54 =>
 ((chk (decide (0 ≤ x52.1) && decide (x52.1 ≤ (a0.Held.length : Int)))).bind fun x59 =>
 ((
  dT big ({ a0 with Start := a1 }, (List.drop ((x52.1).toNat) a0.Held), d54)).bind fun d60 =>
 some (d60.2.2, d60.1, d60.2.1))))))

def iY (a0 : Reorder) (a1 : Int) : Option ((List Frame) × Reorder × Int) :=
 ((eg a0).bind fun x43 =>
 bif (x43 != 0) then
  some ([], Reorder.z, x43)
 else
  ((dl a1).bind fun x44 =>
  bif (!x44) then
   some ([], Reorder.z, 2)
  else
   ((eI a0.Held).bind fun x45 =>
   ((cD a0.Start a1).bind fun x46 =>
   bif decide (2048 ≤ x46) then
    some ([], { a0 with Held := x45 }, 0)
   else
    ((eJ { a0 with Held := x45 } a1).bind fun x47 =>
    some (x47.1, { x47.2.1 with Held := x47.2.2 }, 0))))))

def bM (a0 : (List Frame)) (a1 : Session_session) : Nat → (List Int × Int) → Option ((List Int))
 | 0, _ => none
 | n2 + 1, d51 =>
  bif decide (d51.2 < (a0.length : Int)) then
   ((idx a0 d51.2).bind fun x52 =>
   ((cD a1.plan.Start x52.Head.Seq).bind fun x53 =>
   ((chk (decide ((d51.1.length + 1) * 8 ≤ 140737488355328))).bind fun x54 =>
   bM a0 a1 n2 ((d51.1 ++ [x53]), IntKind.wrap .i64 (d51.2 + 1)))))
  else
   some d51.1

def bI (a0 : (List Frame)) (a1 : Session_session) (a2 : (List Bool)) : Option (List Int) :=
 ((
  bM a0 a1 big (a1.out.Delivered, 0)).bind fun d50 =>
 some d50)

def cw (a0 : Int) (a1 : Session_session) (a2 : (List Bool)) : Option (Session_session × List Int) :=
 ((iY a1.sides.Reorder a0).bind fun x43 =>
 ((aW x43.2.2 a1 a2).bind fun x44 =>
 ((bI x43.1 { x44 with out.Acked := a1.out.Acked, out.Delivered := a1.out.Delivered, out.Dropped := a1.out.Dropped, sides.Reorder := x43.2.1 } a2).bind fun x45 =>
 some ({ x44 with out.Acked := a1.out.Acked, out.Delivered := a1.out.Delivered, out.Dropped := a1.out.Dropped, sides.Reorder := x43.2.1 }, x45))))

def bZ (x27 : Session_session) : Nat → (List Int × Int) → Option ((List Int))
 | 0, _ => none
 | n2 + 1, d31 =>
  bif decide (d31.2 < x27.many) then
   ((chk (decide ((d31.1.length + 1) * 8 ≤ 140737488355328))).bind fun x32 =>
   bZ x27 n2 ((d31.1 ++ [d31.2]), IntKind.wrap .i64 (d31.2 + 1)))
  else
   some d31.1

def dX (a0 : Session_session) (a1 : (List Bool)) : Option (Session_session × List Int × List Int) :=
 ((fF a0.sides.Sender).bind fun x26 =>
 ((aW x26.2.2 a0 a1).bind fun x27 =>
 ((cm { x27 with out.Acked := a0.out.Acked, out.Delivered := a0.out.Delivered, out.Dropped := a0.out.Dropped, sides.Sender := x26.2.1 } a1 x26.1).bind fun x28 =>
 ((chk (decide ((a0.out.Dropped.length + x28.length) * 8 ≤ 140737488355328))).bind fun x29 =>
 ((
  bZ x27 big ((a0.out.Dropped ++ x28), x27.accepted)).bind fun d30 =>
 ((cw x26.2.1.Next { x27 with out.Acked := a0.out.Acked, out.Delivered := a0.out.Delivered, out.Dropped := d30, sides.Sender := x26.2.1 } a1).bind fun x33 =>
 some (x33.1, x33.2, d30)))))))

def dN (a0 : Sender) (a1 : Bool) : Option (Sender × Int) :=
 ((ee a0).bind fun x36 =>
 bif (x36 != 0) then
  some (Sender.z, x36)
 else
  bif (!a1) then
   some (Sender.z, 2)
  else
   bif (a0.Phase != 2) then
    some (Sender.z, 20)
   else
    ((fa a0).bind fun x37 =>
    some (x37, 0)))

def iE (a0 : Unacked) (a1 : Sender) (a2 : Int) : Option Bool :=
 some ((!a0.Flying) && ((a0.Tries == a1.Limit) || (decide ((IntKind.wrap .i64 (a0.At + a1.Life)) ≤ a2))))

def eD (a0 : Unacked) (a1 : Sender) (a2 : Int) (a3 : List Int) : Option (Bool × List Int) :=
 ((iE a0 a1 a2).bind fun x41 =>
 bif x41 then
  ((chk (decide ((a3.length + 1) * 8 ≤ 140737488355328))).bind fun x42 =>
  some (x41, (a3 ++ [a0.Frame.Head.Seq])))
 else
  some (x41, a3))

def aZ (a0 : Sender) (a1 : Int) : Nat → (List Int × Int) → Option (Ex (Int × List Int) (List Int))
 | 0, _ => none
 | n2 + 1, d41 =>
  bif decide (d41.2 < ((a0.Out.length : Nat) : Int)) then
   ((idx a0.Out d41.2).bind fun x42 =>
   ((eD x42 a0 a1 d41.1).bind fun x43 =>
   bif x43.1 then
    some (Ex.ret (d41.2, x43.2))
   else
    aZ a0 a1 n2 (x43.2, IntKind.wrap .i64 (d41.2 + 1))))
  else
   some (Ex.go d41.1)

def cf (a0 : Sender) (a1 : Int) : Option (Int × List Int) :=
 ((
  aZ a0 a1 big ([], 0)).bind fun o40 =>
 (o40.k fun d39 =>
 some ((-1), d39)))

def aV (a1 : Int) : Nat → (List Unacked × Sender × List Int × Int × Int) → Option ((List Unacked × Int × Sender × List Int))
 | 0, _ => none
 | n3 + 1, d41 =>
  bif decide (d41.2.2.2.2 < ((d41.1.length : Nat) : Int)) then
   ((idx d41.1 d41.2.2.2.2).bind fun x42 =>
   ((eD x42 { d41.2.1 with Out := d41.1 } a1 d41.2.2.1).bind fun x43 =>
   bif (!x43.1) then
    ((idx d41.1 d41.2.2.2.1).bind fun x44 =>
    aV a1 n3 ((d41.1.set ((d41.2.2.2.1).toNat) x42), { d41.2.1 with Out := d41.1 }, x43.2, IntKind.wrap .i64 (d41.2.2.2.1 + 1), IntKind.wrap .i64 (d41.2.2.2.2 + 1)))
   else
    aV a1 n3 (d41.1, { d41.2.1 with Out := d41.1 }, x43.2, d41.2.2.2.1, IntKind.wrap .i64 (d41.2.2.2.2 + 1))))
  else
   some (d41.1, d41.2.2.2.1, d41.2.1, d41.2.2.1)

def bK (a0 : Sender) (a1 : Int) : Option (List Unacked × Sender × List Int) :=
 ((cf a0 a1).bind fun x39 =>
 bif (x39.1 == (-1)) then
  some (a0.Out, a0, x39.2)
 else
  ((
   aV a1 big (a0.Out, a0, x39.2, x39.1, IntKind.wrap .i64 (x39.1 + 1))).bind fun d40 =>
  ((chk (decide (0 ≤ d40.2.1) && decide (d40.2.1 ≤ (d40.1.length : Int)))).bind fun x45 =>
  ((chk (decide (0 ≤ d40.2.1) && decide (d40.2.1 ≤ (d40.1.length : Int)))).bind fun x46 =>
  some ((List.take ((d40.2.1).toNat) d40.1), d40.2.2.1, d40.2.2.2)))))

def jQ (a0 : Sender) (a1 : Int) : Option (List Int × Sender × List Unacked) :=
 ((bK a0 a1).bind fun x39 =>
 some (x39.2.2, x39.2.1, x39.1))

def fh (a0 : Sender) (a1 : Int) : Option ((List Int) × Sender × Int) :=
 ((bH a1 0 1099511627776).bind fun x35 =>
 ((dN a0 x35).bind fun x36 =>
 bif (x36.2 != 0) then
  some ([], Sender.z, x36.2)
 else
  ((jQ x36.1 a1).bind fun x37 =>
  some (x37.1, { x37.2.1 with Bar := (x37.2.1.Bar || (decide (0 < ((x37.1.length : Nat) : Int)))), Out := x37.2.2 }, 0))))

def fi (a0 : (List Bool)) : Option (Bool × List Bool) :=
 bif ((a0.length : Int) == 0) then
  some (false, a0)
 else
  ((idx a0 0).bind fun x42 =>
  ((chk (decide (1 ≤ (a0.length : Int)))).bind fun x43 =>
  some (x42, (List.drop 1 a0))))

def gP (a0 : Sender) : Option Int :=
 ((ee a0).bind fun x45 =>
 bif (x45 != 0) then
  some 0
 else
  ((fP a0).bind fun x46 =>
  some x46))

def eL (a0 : Sender) : Option (Sender × Int) :=
 ((dN a0 true).bind fun x49 =>
 bif (x49.2 != 0) then
  some (Sender.z, x49.2)
 else
  bif (!x49.1.Bar) then
   some (Sender.z, 20)
  else
   some ({ x49.1 with Bar := false }, 0))

def fL (a0 : Sender) (a1 : Frame) (a2 : Int) : Option (Frame × Sender × Int) :=
 ((bH a2 0 1099511627776).bind fun x51 =>
 ((dN a0 x51).bind fun x52 =>
 bif (x52.2 != 0) then
  some (Frame.z, Sender.z, x52.2)
 else
  ((
   bif decide (0 < ((x52.1.Out.length : Nat) : Int)) then
    ((idx x52.1.Out (IntKind.wrap .i64 (((x52.1.Out.length : Nat) : Int) - 1))).bind fun x53 =>
    some (decide (a2 < x53.At)))
   else
    some false).bind fun x54 =>
  bif x54 then
   some (Frame.z, Sender.z, 20)
  else
   ((fP x52.1).bind fun x55 =>
   ((cD x55 x52.1.Next).bind fun x56 =>
   bif decide (x52.1.Size ≤ x56) then
    some (Frame.z, Sender.z, 22)
   else
    ((dP a1).bind fun x57 =>
    ((chk (decide ((x52.1.Out.length + 1) * 128 ≤ 140737488355328))).bind fun x58 =>
    ((eR x52.1.Next 1).bind fun x59 =>
    ((dP { x57 with Head.Retry := false, Head.Seq := x52.1.Next, Head.Tid := x52.1.Tid }).bind fun x60 =>
    some (x60, { x52.1 with Next := x59, Out := (x52.1.Out ++ [{ Unacked.z with At := a2, Frame := { x57 with Head.Retry := false, Head.Seq := x52.1.Next, Head.Tid := x52.1.Tid } }]) }, 0))))))))))

def b8 (a0 : Int) (a1 : Session_session) (a2 : (List Bool)) : Nat → Session_session → Option (Ex Session_session Session_session)
 | 0, _ => none
 | n2 + 1, d52 =>
  bif ((decide (d52.accepted < d52.many)) && (d52.err == 0)) then
   ((fL d52.sides.Sender Frame.z a0).bind fun x53 =>
   bif (x53.2.2 == 22) then
    some (Ex.ret d52)
   else
    ((aW x53.2.2 { d52 with out.Acked := a1.out.Acked, out.Delivered := a1.out.Delivered, out.Dropped := a1.out.Dropped } a2).bind fun x54 =>
    b8 a0 a1 a2 n2 { x54 with accepted := IntKind.wrap .i64 (x54.accepted + 1), sides.Sender := x53.2.1 }))
  else
   some (Ex.go d52)

def cV (a0 : Int) (a1 : Session_session) (a2 : (List Bool)) : Option Session_session :=
 ((
  b8 a0 a1 a2 big a1).bind fun o51 =>
 (o51.k fun d50 =>
 some d50))

def dG (x56 : (Sender × Int)) (a1 : Int) : Nat → (List Unacked × List Frame × Int) → Option ((List Unacked × List Frame))
 | 0, _ => none
 | n3 + 1, d58 =>
  bif decide (d58.2.2 < ((x56.1.Out.length : Nat) : Int)) then
   ((idx d58.1 d58.2.2).bind fun x59 =>
   bif (((d58.2.1.length : Nat) : Int) == a1) then
    some (d58.1, d58.2.1)
   else
    bif (x59.Flying || (x59.Tries == x56.1.Limit)) then
     dG x56 a1 n3 (d58.1, d58.2.1, IntKind.wrap .i64 (d58.2.2 + 1))
    else
     ((dP x59.Frame).bind fun x60 =>
     ((chk (decide ((d58.2.1.length + 1) * 104 ≤ 140737488355328))).bind fun x61 =>
     dG x56 a1 n3 (((d58.1.modify (d58.2.2.toNat) fun y => { y with Tries := IntKind.wrap .i64 (x59.Tries + 1) }).modify (d58.2.2.toNat) fun y => { y with Flying := true }), (d58.2.1 ++ [{ x60 with Head.Retry := decide (0 < x59.Tries) }]), IntKind.wrap .i64 (d58.2.2 + 1)))))
  else
   some (d58.1, d58.2.1)

def gB (a0 : Sender) (a1 : Int) : Option ((List Frame) × Sender × Int) :=
 ((dN a0 (decide (0 ≤ a1))).bind fun x56 =>
 bif (x56.2 != 0) then
  some ([], Sender.z, x56.2)
 else
  ((
   dG x56 a1 big (x56.1.Out, [], 0)).bind fun d57 =>
  some (d57.2, { x56.1 with Out := d57.1 }, 0)))

def fg (a0 : Window) (a1 : Int) : Option Int :=
 ((eH a0).bind fun x75 =>
 bif (x75 != 0) then
  some x75
 else
  ((ef a1).bind fun x76 =>
  bif (!x76) then
   some 2
  else
   some 0))

def jW (a0 : Window) (a1 : Int) : Option (Window × Int) :=
 ((fg a0 a1).bind fun x75 =>
 bif (x75 != 0) then
  some (Window.z, x75)
 else
  ((cD a0.Start a1).bind fun x76 =>
  bif decide (x76 < 2048) then
   ((chk (decide (¬ x76 < 0))).bind fun x77 =>
   some ({ Window.z with Bits := (a0.Bits).fdiv (2 ^ (min (x76).toNat 64)), Start := a1 }, 0))
  else
   ((chk (decide (¬ (IntKind.wrap .i64 (4096 - x76)) < 0))).bind fun x78 =>
   some ({ Window.z with Bits := IntKind.wrap .u64 (a0.Bits * 2 ^ (min ((IntKind.wrap .i64 (4096 - x76))).toNat 64)), Start := a1 }, 0))))

def jT (a0 : Window) (a1 : Int) : Option (Window × Int) :=
 ((fg a0 a1).bind fun x77 =>
 bif (x77 != 0) then
  some (Window.z, x77)
 else
  ((cD a0.Start a1).bind fun x78 =>
  bif decide (64 ≤ x78) then
   some (Window.z, 21)
  else
   ((chk (decide (¬ x78 < 0))).bind fun x79 =>
   some ({ a0 with Bits := bor .u64 a0.Bits (IntKind.wrap .u64 (1 * 2 ^ (min (x78).toNat 64))) }, 0))))

def jq (a0 : Window) (a1 : Int) : Option Window :=
 ((cD a0.Start a1).bind fun x73 =>
 bif decide (2048 ≤ x73) then
  some a0
 else
  ((
   bif decide (64 ≤ x73) then
    ((eR a1 (-63)).bind fun x75 =>
    ((jW a0 x75).bind fun x76 =>
    some x76.1))
   else
    some a0).bind fun d74 =>
  ((jT d74 a1).bind fun x77 =>
  some x77.1)))

def cq (a0 : Int) (a1 : List HeldSeq) (a2 : List HeldSeq) : Option (List HeldSeq) :=
 ((chk (decide (0 ≤ a0) && decide (a0 ≤ (a1.length : Int)))).bind fun x81 =>
 bif (((a2.length : Nat) : Int) == 0) then
  some a1
 else
  bif (a0 == ((a1.length : Nat) : Int)) then
   ((chk (decide ((a1.length + a2.length) * 112 ≤ 140737488355328))).bind fun x82 =>
   some (a1 ++ a2))
  else
   none)

def bR (a0 : Int) (a1 : List HeldSeq) (a2 : List HeldSeq) : Option (List HeldSeq) :=
 ((chk (decide (0 ≤ a0) && decide (a0 ≤ (a1.length : Int)))).bind fun x13 =>
 bif (((a2.length : Nat) : Int) == 0) then
  some a1
 else
  bif (a0 == ((a1.length : Nat) : Int)) then
   ((chk (decide ((a1.length + a2.length) * 112 ≤ 140737488355328))).bind fun x14 =>
   some (a1 ++ a2))
  else
   ((chk (decide (a2.length = 1) && decide ((a1.length + 1) * 112 ≤ 140737488355328))).bind fun x15 =>
   some (a1.take a0.toNat ++ a2 ++ a1.drop a0.toNat)))

def iQ (a0 : Reorder) (a1 : Frame) (a2 : Int) : Option ((List Frame) × Reorder × Int) :=
 ((eg a0).bind fun x67 =>
 bif (x67 != 0) then
  some ([], Reorder.z, x67)
 else
  ((er a2).bind fun x68 =>
  ((
   bif (!x68) then
    some true
   else
    ((dl a1.Head.Seq).bind fun x69 =>
    some (!x69))).bind fun x70 =>
  bif x70 then
   some ([], Reorder.z, 2)
  else
   ((cD a0.Start a1.Head.Seq).bind fun x71 =>
   ((fX a0 a1.Head.Seq).bind fun x72 =>
   bif ((decide (2048 ≤ x71)) || x72.2) then
    some ([], Reorder.z, 21)
   else
    ((jq a0.Seen a1.Head.Seq).bind fun x73 =>
    ((eI a0.Held).bind fun x74 =>
    ((dP a1).bind fun x75 =>
    ((bR x72.1 x74 [{ HeldSeq.z with At := a2, Frame := x75 }]).bind fun x76 =>
    ((
     bif decide (a0.Size ≤ x71) then
      ((eR a1.Head.Seq (IntKind.wrap .i64 (1 - a0.Size))).bind fun x78 =>
      some x78)
     else
      some a0.Start).bind fun d77 =>
    ((eJ { a0 with Held := x76, Seen := x73 } d77).bind fun x79 =>
    some (x79.1, { x79.2.1 with Held := x79.2.2 }, 0))))))))))))

def bL (x56 : ((List Frame) × Sender × Int)) (a0 : Int) (a1 : Session_session) : Nat → (Session_session × List Bool × List Int × Int) → Option ((Session_session × List Bool × List Int))
 | 0, _ => none
 | n2 + 1, d59 =>
  bif decide (d59.2.2.2 < (x56.1.length : Int)) then
   ((idx x56.1 d59.2.2.2).bind fun x60 =>
   ((fi d59.2.1).bind fun x61 =>
   bif x61.1 then
    bL x56 a0 a1 n2 (d59.1, x61.2, d59.2.2.1, IntKind.wrap .i64 (d59.2.2.2 + 1))
   else
    ((iQ d59.1.sides.Reorder x60 a0).bind fun x62 =>
    bif (x62.2.2 == 0) then
     ((bI x62.1 { d59.1 with out.Acked := a1.out.Acked, out.Delivered := d59.2.2.1, out.Dropped := a1.out.Dropped, sides.Reorder := x62.2.1 } x61.2).bind fun x63 =>
     bL x56 a0 a1 n2 ({ d59.1 with out.Acked := a1.out.Acked, out.Delivered := d59.2.2.1, out.Dropped := a1.out.Dropped, sides.Reorder := x62.2.1 }, x61.2, x63, IntKind.wrap .i64 (d59.2.2.2 + 1)))
    else
     bL x56 a0 a1 n2 (d59.1, x61.2, d59.2.2.1, IntKind.wrap .i64 (d59.2.2.2 + 1)))))
  else
   some (d59.1, d59.2.1, d59.2.2.1)

def c9 (a0 : Int) (a1 : Session_session) (a2 : (List Bool)) : Option (Int × Session_session × List Bool × List Int) :=
 ((gB a1.sides.Sender a1.plan.Burst).bind fun x56 =>
 ((aW x56.2.2 a1 a2).bind fun x57 =>
 ((
  bL x56 a0 a1 big ({ x57 with sides.Sender := x56.2.1 }, a2, a1.out.Delivered, 0)).bind fun d58 =>
 some ((x56.1.length : Int), d58.1, d58.2.1, d58.2.2))))

def ep (a0 : Sender) : Nat → (List Unacked × Int) → Option ((List Unacked))
 | 0, _ => none
 | n2 + 1, d68 =>
  bif decide (d68.2 < ((a0.Out.length : Nat) : Int)) then
   ((idx d68.1 d68.2).bind fun x69 =>
   ep a0 n2 ((d68.1.modify ((d68.2).toNat) fun y => { y with Flying := false }), IntKind.wrap .i64 (d68.2 + 1)))
  else
   some d68.1

def iR (a0 : Sender) : Option (List Unacked) :=
 ((
  ep a0 big (a0.Out, 0)).bind fun d67 =>
 some d67)

def gC (a0 : Sender) : Option (Sender × Int) :=
 ((dN a0 true).bind fun x66 =>
 bif (x66.2 != 0) then
  some (Sender.z, x66.2)
 else
  ((iR x66.1).bind fun x67 =>
  some ({ x66.1 with Out := x67 }, 0)))

def fp (a0 : Reorder) : Option (Window × Int) :=
 ((eg a0).bind fun x70 =>
 bif (x70 != 0) then
  some (Window.z, x70)
 else
  some (a0.Seen, 0))

def ll (a0 : Window) (a1 : Int) : Option Bool :=
 ((fg a0 a1).bind fun x77 =>
 bif (x77 != 0) then
  some false
 else
  ((cD a0.Start a1).bind fun x78 =>
  ((
   bif decide (x78 < 64) then
    ((chk (decide (¬ x78 < 0))).bind fun x79 =>
    some ((vp .u64 ((a0.Bits).fdiv (2 ^ (min (x78).toNat 64))) 1) == 1))
   else
    some false).bind fun x80 =>
  some x80)))

def gD (a0 : Unacked) (a1 : Window) : Option Bool :=
 ((
  bif decide (0 < a0.Tries) then
   ((ll a1 a0.Frame.Head.Seq).bind fun x77 =>
   some x77)
  else
   some false).bind fun x78 =>
 some x78)

def eu (a0 : Unacked) (a1 : Window) (a2 : List Int) : Option (Bool × List Int) :=
 ((gD a0 a1).bind fun x77 =>
 bif x77 then
  ((chk (decide ((a2.length + 1) * 8 ≤ 140737488355328))).bind fun x78 =>
  some (x77, (a2 ++ [a0.Frame.Head.Seq])))
 else
  some (x77, a2))

def aX (a1 : List Unacked) (a0 : Window) : Nat → (List Int × Int) → Option (Ex (Int × List Int) (List Int))
 | 0, _ => none
 | n2 + 1, d77 =>
  bif decide (d77.2 < ((a1.length : Nat) : Int)) then
   ((idx a1 d77.2).bind fun x78 =>
   ((eu x78 a0 d77.1).bind fun x79 =>
   bif x79.1 then
    some (Ex.ret (d77.2, x79.2))
   else
    aX a1 a0 n2 (x79.2, IntKind.wrap .i64 (d77.2 + 1))))
  else
   some (Ex.go d77.1)

def bV (a0 : Window) (a1 : List Unacked) : Option (Int × List Int) :=
 ((
  aX a1 a0 big ([], 0)).bind fun o76 =>
 (o76.k fun d75 =>
 some ((-1), d75)))

def aT (a0 : Window) : Nat → (List Unacked × List Int × Int × Int) → Option ((List Unacked × Int × List Int))
 | 0, _ => none
 | n3 + 1, d77 =>
  bif decide (d77.2.2.2 < ((d77.1.length : Nat) : Int)) then
   ((idx d77.1 d77.2.2.2).bind fun x78 =>
   ((eu x78 a0 d77.2.1).bind fun x79 =>
   bif (!x79.1) then
    ((idx d77.1 d77.2.2.1).bind fun x80 =>
    aT a0 n3 ((d77.1.set ((d77.2.2.1).toNat) x78), x79.2, IntKind.wrap .i64 (d77.2.2.1 + 1), IntKind.wrap .i64 (d77.2.2.2 + 1)))
   else
    aT a0 n3 (d77.1, x79.2, d77.2.2.1, IntKind.wrap .i64 (d77.2.2.2 + 1))))
  else
   some (d77.1, d77.2.2.1, d77.2.1)

def bF (a0 : Window) (a1 : List Unacked) : Option (List Unacked × List Int) :=
 ((bV a0 a1).bind fun x75 =>
 bif (x75.1 == (-1)) then
  some (a1, x75.2)
 else
  ((
   aT a0 big (a1, x75.2, x75.1, IntKind.wrap .i64 (x75.1 + 1))).bind fun d76 =>
  ((chk (decide (0 ≤ d76.2.1) && decide (d76.2.1 ≤ (d76.1.length : Int)))).bind fun x81 =>
  ((chk (decide (0 ≤ d76.2.1) && decide (d76.2.1 ≤ (d76.1.length : Int)))).bind fun x82 =>
  some ((List.take ((d76.2.1).toNat) d76.1), d76.2.2)))))

def fR (a0 : Sender) (a1 : Window) : Option (List Int × List Unacked) :=
 ((bF a1 a0.Out).bind fun x75 =>
 some (x75.2, x75.1))

def fN (a0 : Sender) (a1 : Window) : Option ((List Int) × Sender × Int) :=
 ((eH a1).bind fun x73 =>
 ((dN a0 (x73 == 0)).bind fun x74 =>
 bif (x74.2 != 0) then
  some ([], Sender.z, x74.2)
 else
  ((fR x74.1 a1).bind fun x75 =>
  ((iR { x74.1 with Out := x75.2 }).bind fun x76 =>
  some (x75.1, { x74.1 with Out := x76 }, 0)))))

def cL (a0 : Session_session) (a1 : (List Bool)) : Option (Session_session × List Bool × List Int) :=
 ((fi a1).bind fun x65 =>
 bif x65.1 then
  ((gC a0.sides.Sender).bind fun x66 =>
  ((aW x66.2 a0 x65.2).bind fun x67 =>
  some ({ x67 with sides.Sender := x66.1 }, x65.2, a0.out.Acked)))
 else
  ((fp a0.sides.Reorder).bind fun x68 =>
  ((aW x68.2 a0 x65.2).bind fun x69 =>
  ((fN x69.sides.Sender x68.1).bind fun x70 =>
  ((aW x70.2.2 { x69 with out.Acked := a0.out.Acked, out.Delivered := a0.out.Delivered, out.Dropped := a0.out.Dropped } x65.2).bind fun x71 =>
  ((cm { x71 with out.Acked := a0.out.Acked, out.Delivered := a0.out.Delivered, out.Dropped := a0.out.Dropped, sides.Sender := x70.2.1 } x65.2 x70.1).bind fun x72 =>
  ((chk (decide ((a0.out.Acked.length + x72.length) * 8 ≤ 140737488355328))).bind fun x73 =>
  some ({ x71 with sides.Sender := x70.2.1 }, x65.2, (a0.out.Acked ++ x72)))))))))

def cW (b : Reorder) (now : Int) (l : List HeldSeq) : Nat → Option (Ex (List Frame × Reorder × Int) Unit)
 | 0 => some (Ex.go ())
 | c + 1 =>
  ((l[c]?).bind fun x =>
  bif decide ((IntKind.wrap .i64 (x.At + b.Hold)) ≤ now) then
   ((eR x.Frame.Head.Seq 1).bind fun y =>
   ((eJ { b with Held := l } y).bind fun z =>
   some (Ex.ret (z.1, { z.2.1 with Held := z.2.2 }, 0))))
  else
   cW b now l c)

def dI (a0 : Reorder) (a1 : Int) : Option ((List Frame) × Reorder × Int) :=
 ((eg a0).bind fun x67 =>
 bif (x67 != 0) then
  some ([], Reorder.z, x67)
 else
  ((er a1).bind fun x68 =>
  bif (!x68) then
   some ([], Reorder.z, 2)
  else
   ((eI a0.Held).bind fun x69 =>
   ((chk (decide (x69.length < 4611686018427387904))).bind fun x70 =>
   ((cW a0 a1 x69 x69.length).bind fun o71 =>
   (o71.k fun d72 =>
   some ([], { a0 with Held := x69 }, 0)))))))

def dj (a0 : Session_session) (a1 : (List Bool)) : Option (Session_session × List Bool × List Int × List Int × List Int) :=
 ((fh a0.sides.Sender (IntKind.wrap .i64 (a0.out.Rounds * a0.plan.Round))).bind fun x35 =>
 ((aW x35.2.2 a0 a1).bind fun x36 =>
 ((cm { x36 with out.Acked := a0.out.Acked, out.Delivered := a0.out.Delivered, out.Dropped := a0.out.Dropped, sides.Sender := x35.2.1 } a1 x35.1).bind fun x37 =>
 ((chk (decide ((a0.out.Dropped.length + x37.length) * 8 ≤ 140737488355328))).bind fun x38 =>
 bif x35.2.1.Bar then
  ((fi a1).bind fun x39 =>
  ((
   bif (!x39.1) then
    ((gP x35.2.1).bind fun x41 =>
    ((cw x41 { x36 with out.Acked := a0.out.Acked, out.Delivered := a0.out.Delivered, out.Dropped := (a0.out.Dropped ++ x37), sides.Sender := x35.2.1 } x39.2).bind fun x42 =>
    ((eL x42.1.sides.Sender).bind fun x43 =>
    ((aW x43.2 { x42.1 with out.Acked := a0.out.Acked, out.Delivered := x42.2, out.Dropped := (a0.out.Dropped ++ x37), sides.Sender := x43.1 } x39.2).bind fun x44 =>
    some (x44, x42.2)))))
   else
    some ({ x36 with sides.Sender := x35.2.1 }, a0.out.Delivered)).bind fun d40 =>
  ((cV (IntKind.wrap .i64 (a0.out.Rounds * a0.plan.Round)) { d40.1 with out.Acked := a0.out.Acked, out.Delivered := d40.2, out.Dropped := (a0.out.Dropped ++ x37) } x39.2).bind fun x45 =>
  ((c9 (IntKind.wrap .i64 (a0.out.Rounds * a0.plan.Round)) { x45 with out.Acked := a0.out.Acked, out.Delivered := d40.2, out.Dropped := (a0.out.Dropped ++ x37) } x39.2).bind fun x46 =>
  ((
   bif decide (0 < x46.1) then
    ((cL { x46.2.1 with out.Acked := a0.out.Acked, out.Delivered := x46.2.2.2, out.Dropped := (a0.out.Dropped ++ x37) } x46.2.2.1).bind fun x48 =>
    some (x48.1, x48.2.1, x48.2.2))
   else
    some (x46.2.1, x46.2.2.1, a0.out.Acked)).bind fun d47 =>
  ((dI d47.1.sides.Reorder (IntKind.wrap .i64 (a0.out.Rounds * a0.plan.Round))).bind fun x49 =>
  ((aW x49.2.2 { d47.1 with out.Acked := d47.2.2, out.Delivered := x46.2.2.2, out.Dropped := (a0.out.Dropped ++ x37) } d47.2.1).bind fun x50 =>
  ((bI x49.1 { x50 with out.Acked := d47.2.2, out.Delivered := x46.2.2.2, out.Dropped := (a0.out.Dropped ++ x37), sides.Reorder := x49.2.1 } d47.2.1).bind fun x51 =>
  some ({ x50 with out.Acked := d47.2.2, out.Delivered := x46.2.2.2, out.Dropped := (a0.out.Dropped ++ x37), out.Rounds := IntKind.wrap .i64 (x50.out.Rounds + 1), sides.Reorder := x49.2.1 }, d47.2.1, x51, d47.2.2, (a0.out.Dropped ++ x37))))))))))
 else
  ((cV (IntKind.wrap .i64 (a0.out.Rounds * a0.plan.Round)) { x36 with out.Acked := a0.out.Acked, out.Delivered := a0.out.Delivered, out.Dropped := (a0.out.Dropped ++ x37), sides.Sender := x35.2.1 } a1).bind fun x52 =>
  ((c9 (IntKind.wrap .i64 (a0.out.Rounds * a0.plan.Round)) { x52 with out.Acked := a0.out.Acked, out.Delivered := a0.out.Delivered, out.Dropped := (a0.out.Dropped ++ x37) } a1).bind fun x53 =>
  ((
   bif decide (0 < x53.1) then
    ((cL { x53.2.1 with out.Acked := a0.out.Acked, out.Delivered := x53.2.2.2, out.Dropped := (a0.out.Dropped ++ x37) } x53.2.2.1).bind fun x55 =>
    some (x55.1, x55.2.1, x55.2.2))
   else
    some (x53.2.1, x53.2.2.1, a0.out.Acked)).bind fun d54 =>
  ((dI d54.1.sides.Reorder (IntKind.wrap .i64 (a0.out.Rounds * a0.plan.Round))).bind fun x56 =>
  ((aW x56.2.2 { d54.1 with out.Acked := d54.2.2, out.Delivered := x53.2.2.2, out.Dropped := (a0.out.Dropped ++ x37) } d54.2.1).bind fun x57 =>
  ((bI x56.1 { x57 with out.Acked := d54.2.2, out.Delivered := x53.2.2.2, out.Dropped := (a0.out.Dropped ++ x37), sides.Reorder := x56.2.1 } d54.2.1).bind fun x58 =>
  some ({ x57 with out.Acked := d54.2.2, out.Delivered := x53.2.2.2, out.Dropped := (a0.out.Dropped ++ x37), out.Rounds := IntKind.wrap .i64 (x57.out.Rounds + 1), sides.Reorder := x56.2.1 }, d54.2.1, x58, d54.2.2, (a0.out.Dropped ++ x37))))))))))))

def et (a1 : Int) : Nat → (Session_session × List Bool × List Int × List Int × List Int) → Option ((Session_session × List Bool × List Int × List Int × List Int))
 | 0, _ => none
 | n4 + 1, d6 =>
  bif ((d6.1.err == 0) && (((decide (d6.1.accepted < a1)) || (decide (0 < (d6.1.sides.Sender.Out.length : Int)))) || d6.1.sides.Sender.Bar)) then
   bif (d6.1.out.Rounds == 2000) then
    ((dX { d6.1 with out.Acked := d6.2.2.2.1, out.Delivered := d6.2.2.1, out.Dropped := d6.2.2.2.2 } d6.2.1).bind fun x7 =>
    some (x7.1, d6.2.1, x7.2.1, d6.2.2.2.1, x7.2.2))
   else
    ((dj { d6.1 with out.Acked := d6.2.2.2.1, out.Delivered := d6.2.2.1, out.Dropped := d6.2.2.2.2 } d6.2.1).bind fun x8 =>
    et a1 n4 (x8.1, x8.2.1, x8.2.2.1, x8.2.2.2.1, x8.2.2.2.2))
  else
   some (d6.1, d6.2.1, d6.2.2.1, d6.2.2.2.1, d6.2.2.2.2)

def gF (a0 : SessionPlan) (a1 : Int) (a2 : (List Bool)) : Option (SessionResult × Int) :=
 ((il a0).bind fun x2 =>
 bif (x2 != 0) then
  some (SessionResult.z, x2)
 else
  ((cN a1 0 200).bind fun x3 =>
  bif (!x3) then
   some (SessionResult.z, 4)
  else
   ((dY { Session_session.z with many := a1, out.Acked := ([] : List Int), out.Delivered := ([] : List Int), out.Dropped := ([] : List Int), plan := a0 } a2).bind fun x4 =>
   ((
    et a1 big (x4, a2, ([] : List Int), ([] : List Int), ([] : List Int))).bind fun d5 =>
   bif (d5.1.err != 0) then
    some (SessionResult.z, d5.1.err)
   else
    some ({ d5.1.out with Acked := d5.2.2.2.1, Delivered := d5.2.2.1, Dropped := d5.2.2.2.2 }, 0)))))

def bX (a0 : (List Int)) (a1 : (List Int)) : Nat → Int → Option (Ex Bool Unit)
 | 0, _ => none
 | n3 + 1, d26 =>
  bif decide (d26 < (a0.length : Int)) then
   ((idx a0 d26).bind fun x27 =>
   ((idx a1 d26).bind fun x28 =>
   bif (x27 != x28) then
    some (Ex.ret false)
   else
    bX a0 a1 n3 (IntKind.wrap .i64 (d26 + 1))))
  else
   some (Ex.go ())

def bT (a0 : (List Int)) (a1 : (List Int)) : Option Bool :=
 bif ((a0.length : Int) != (a1.length : Int)) then
  some false
 else
  ((
   bX a0 a1 big 0).bind fun o25 =>
  (o25.k fun d24 =>
  some true))

def eY (a0 : (List Bool)) (a1 : (List Int)) (a2 : (List Int)) (a3 : (List Int)) : Option (Int × Bool) :=
 (gE.bind fun x22 =>
 ((gF x22 3 a0).bind fun x23 =>
 ((
  bif (x23.2 == 0) then
   ((bT x23.1.Delivered a1).bind fun x24 =>
   some x24)
  else
   some false).bind fun x25 =>
 ((
  bif x25 then
   ((bT x23.1.Acked a2).bind fun x26 =>
   some x26)
  else
   some false).bind fun x27 =>
 ((
  bif x27 then
   ((bT x23.1.Dropped a3).bind fun x28 =>
   some x28)
  else
   some false).bind fun x29 =>
 some (x23.1.Rounds, x29))))))

def fM : Option Bool :=
 ((eY [] [0, 1, 2] [0, 1, 2] []).bind fun x22 =>
 ((eY [true] [0, 1, 2] [1, 0, 2] []).bind fun x23 =>
 ((eY [true, false, false, true] [1, 2] [1, 2] [0]).bind fun x24 =>
 some ((((x22.2 && (x22.1 == 2)) && x23.2) && (x23.1 == 3)) && x24.2))))

def fb (a0 : SessionResult) (a1 : SessionResult) : Option Bool :=
 ((
  bif (a0.Rounds == a1.Rounds) then
   ((bT a0.Delivered a1.Delivered).bind fun x26 =>
   some x26)
  else
   some false).bind fun x27 =>
 ((
  bif x27 then
   ((bT a0.Acked a1.Acked).bind fun x28 =>
   some x28)
  else
   some false).bind fun x29 =>
 ((
  bif x29 then
   ((bT a0.Dropped a1.Dropped).bind fun x30 =>
   some x30)
  else
   some false).bind fun x31 =>
 some x31)))

def cE (a0 : (List Int)) (a1 : Int) : Nat → (Int × Int) → Option (Int)
 | 0, _ => none
 | n2 + 1, d33 =>
  bif decide (d33.2 < (a0.length : Int)) then
   ((idx a0 d33.2).bind fun x34 =>
   bif (x34 == a1) then
    cE a0 a1 n2 (IntKind.wrap .i64 (d33.1 + 1), IntKind.wrap .i64 (d33.2 + 1))
   else
    cE a0 a1 n2 (d33.1, IntKind.wrap .i64 (d33.2 + 1)))
  else
   some d33.1

def d9 (a0 : (List Int)) (a1 : Int) : Option Int :=
 ((
  cE a0 a1 big (0, 0)).bind fun d32 =>
 some d32)

def bN (x21 : (SessionResult × Int)) (a1 : Int) : Nat → Int → Option (Ex Bool Unit)
 | 0, _ => none
 | n6 + 1, d26 =>
  bif decide (d26 < (x21.1.Delivered.length : Int)) then
   ((idx x21.1.Delivered d26).bind fun x27 =>
   ((
    bif ((decide (x27 < 0)) || (decide (a1 ≤ x27))) then
     some true
    else
     ((
      bif decide (0 < d26) then
       ((idx x21.1.Delivered (IntKind.wrap .i64 (d26 - 1))).bind fun x28 =>
       some (decide (x27 ≤ x28)))
      else
       some false).bind fun x29 =>
     some x29)).bind fun x30 =>
   bif x30 then
    some (Ex.ret false)
   else
    bN x21 a1 n6 (IntKind.wrap .i64 (d26 + 1))))
  else
   some (Ex.go ())

def bO (a1 : Int) (x21 : (SessionResult × Int)) : Nat → Int → Option (Ex Bool Unit)
 | 0, _ => none
 | n14 + 1, d33 =>
  bif decide (d33 < a1) then
   ((d9 x21.1.Delivered d33).bind fun x34 =>
   ((
    bif (x34 != 1) then
     ((d9 x21.1.Dropped d33).bind fun x35 =>
     some (x35 != 1))
    else
     some false).bind fun x36 =>
   bif x36 then
    some (Ex.ret false)
   else
    bO a1 x21 n14 (IntKind.wrap .i64 (d33 + 1))))
  else
   some (Ex.go ())

def ea (a0 : SessionPlan) (a1 : Int) (a2 : (List Bool)) : Option Bool :=
 (fM.bind fun x20 =>
 bif ((decide (5000 < (a2.length : Int))) || (!x20)) then
  some x20
 else
  ((gF a0 a1 a2).bind fun x21 =>
  bif (x21.2 != 0) then
   ((
    bif x20 then
     ((fb x21.1 SessionResult.z).bind fun x22 =>
     some x22)
    else
     some false).bind fun x23 =>
   some x23)
  else
   ((
    bN x21 a1 big 0).bind fun o25 =>
   (o25.k fun d24 =>
   ((
    bO a1 x21 big 0).bind fun o32 =>
   (o32.k fun d31 =>
   some x20))))))

def ku (a0 : Int) : Option Bool :=
 some ((decide (0 ≤ a0)) && (decide (a0 ≤ 4095)))

end Go.AX.Z.TN

/-! (TNF) -/

namespace Go.AX.Z.TN
open Go.AX Go.Proofs

def tab : List (TypeId × List (Option IntKind)) :=
 []

noncomputable def K : Ctx := ⟨Try.prog, fun _ => none, I5 tab⟩

theorem Km : agB K.P 113 = some true := by kernel_rfl
theorem Nj : agB K.P 23 = some true := by kernel_rfl
theorem LR : agB K.P 25 = some false := by kernel_rfl
theorem L9 : agB K.P 27 = some true := by kernel_rfl
theorem Lm : agB K.P 28 = some false := by kernel_rfl
theorem ag3 : agB K.P 3 = some false := by kernel_rfl
theorem Ml : agB K.P 31 = some false := by kernel_rfl
theorem M6 : agB K.P 34 = some false := by kernel_rfl
theorem ag4 : agB K.P 4 = some false := by kernel_rfl
theorem Ms : agB K.P 43 = some false := by kernel_rfl
theorem Nk : agB K.P 45 = some true := by kernel_rfl
theorem MP : agB K.P 46 = some false := by kernel_rfl
theorem Lv : agB K.P 47 = some false := by kernel_rfl
theorem MC : agB K.P 49 = some true := by kernel_rfl
theorem ag5 : agB K.P 5 = some false := by kernel_rfl
theorem Mu : agB K.P 51 = some true := by kernel_rfl
theorem LN : agB K.P 53 = some true := by kernel_rfl
theorem Lj : agB K.P 63 = some true := by kernel_rfl
theorem LX : agB K.P 79 = some false := by kernel_rfl
theorem L5 : agB K.P 89 = some true := by kernel_rfl
theorem M3 : agB K.P 90 = some false := by kernel_rfl
theorem MI : agB K.P 92 = some true := by kernel_rfl
theorem Nd : agB K.P 94 = some true := by kernel_rfl
theorem Mo : agB K.P 99 = some false := by kernel_rfl
theorem Kr : sS K.P 113 = some [(0, 1), (1, 41)] := by kernel_rfl
theorem Mr : sS K.P 23 = some [(0, 1), (1, 1), (2, 1), (3, 1), (4, 1), (5, 1), (6, 1)] := by kernel_rfl
theorem ME : sS K.P 27 = some [(0, 1), (1, 1), (2, 1), (3, 1)] := by kernel_rfl
theorem Mn : sS K.P 45 = some [(0, 1), (1, 1), (2, 1), (3, 1), (4, 1), (5, 1), (6, 1), (7, 1), (8, 1)] := by kernel_rfl
theorem Mx : sS K.P 49 = some [(0, 1), (1, 1)] := by kernel_rfl
theorem Lp : sS K.P 51 = some [(0, 1), (1, 1), (2, 1), (3, 1), (4, 2)] := by kernel_rfl
theorem M1 : sS K.P 55 = some [(0, 15), (15, 7), (22, 1), (23, 1), (24, 1), (25, 4), (29, 1)] := by kernel_rfl
theorem MT : sS K.P 63 = some [(0, 1), (1, 1), (2, 1), (3, 1)] := by kernel_rfl
theorem MK : sS K.P 68 = some [(0, 1), (1, 1), (2, 1), (3, 1)] := by kernel_rfl
theorem Mf : sS K.P 92 = some [(0, 40), (40, 1)] := by kernel_rfl
theorem Me : sS K.P 94 = some [(0, 1), (1, 1), (2, 1), (3, 41)] := by kernel_rfl
theorem KG : qQ K.P 113 = some 112 := by kernel_rfl
theorem MM : qQ K.P 23 = some 56 := by kernel_rfl
theorem by3 : qQ K.P 3 = some 8 := by kernel_rfl
theorem by4 : qQ K.P 4 = some 1 := by kernel_rfl
theorem by5 : qQ K.P 5 = some 1 := by kernel_rfl
theorem Lw : qQ K.P 92 = some 104 := by kernel_rfl
theorem Ng : qQ K.P 94 = some 128 := by kernel_rfl
theorem L8 : elS K.P 25 = some 3 := by kernel_rfl
theorem Li : elS K.P 31 = some 4 := by kernel_rfl
theorem LI : elS K.P 32 = some 23 := by kernel_rfl
theorem Lu : elS K.P 43 = some 94 := by kernel_rfl
theorem Ke : elS K.P 46 = some 113 := by kernel_rfl
theorem LA : elS K.P 79 = some 92 := by kernel_rfl
theorem Ls : elS K.P 90 = some 5 := by kernel_rfl
theorem Lg : elS K.P 3 = none := by kernel_rfl
theorem EQ : flE K.P 113 0 = some (0, 3) := by kernel_rfl
theorem FY : flE K.P 113 1 = some (1, 92) := by kernel_rfl
theorem HP : flE K.P 23 0 = some (0, 3) := by kernel_rfl
theorem HK : flE K.P 23 1 = some (1, 3) := by kernel_rfl
theorem H8 : flE K.P 23 2 = some (2, 3) := by kernel_rfl
theorem HU : flE K.P 23 3 = some (3, 3) := by kernel_rfl
theorem H3 : flE K.P 23 4 = some (4, 3) := by kernel_rfl
theorem HV : flE K.P 23 5 = some (5, 3) := by kernel_rfl
theorem Jh : flE K.P 23 6 = some (6, 3) := by kernel_rfl
theorem Hy : flE K.P 27 0 = some (0, 25) := by kernel_rfl
theorem JO : flE K.P 27 1 = some (1, 25) := by kernel_rfl
theorem IJ : flE K.P 27 2 = some (2, 25) := by kernel_rfl
theorem IL : flE K.P 27 3 = some (3, 3) := by kernel_rfl
theorem J0 : flE K.P 45 0 = some (0, 3) := by kernel_rfl
theorem IK : flE K.P 45 1 = some (1, 5) := by kernel_rfl
theorem In : flE K.P 45 2 = some (2, 3) := by kernel_rfl
theorem Jv : flE K.P 45 3 = some (3, 3) := by kernel_rfl
theorem JQ : flE K.P 45 4 = some (4, 3) := by kernel_rfl
theorem Je : flE K.P 45 5 = some (5, 3) := by kernel_rfl
theorem Ih : flE K.P 45 6 = some (6, 3) := by kernel_rfl
theorem Jm : flE K.P 45 7 = some (7, 43) := by kernel_rfl
theorem JD : flE K.P 45 8 = some (8, 4) := by kernel_rfl
theorem IR : flE K.P 49 0 = some (0, 3) := by kernel_rfl
theorem I8 : flE K.P 49 1 = some (1, 47) := by kernel_rfl
theorem Hk : flE K.P 51 0 = some (0, 3) := by kernel_rfl
theorem I4 : flE K.P 51 1 = some (1, 3) := by kernel_rfl
theorem JS : flE K.P 51 2 = some (2, 3) := by kernel_rfl
theorem JH : flE K.P 51 3 = some (3, 46) := by kernel_rfl
theorem J2 : flE K.P 51 4 = some (4, 49) := by kernel_rfl
theorem Hm : flE K.P 53 0 = some (0, 45) := by kernel_rfl
theorem IV : flE K.P 53 1 = some (9, 51) := by kernel_rfl
theorem JL : flE K.P 55 0 = some (0, 53) := by kernel_rfl
theorem HX : flE K.P 55 1 = some (15, 23) := by kernel_rfl
theorem Hh : flE K.P 55 2 = some (22, 3) := by kernel_rfl
theorem Jb : flE K.P 55 3 = some (23, 3) := by kernel_rfl
theorem HN : flE K.P 55 4 = some (24, 34) := by kernel_rfl
theorem Iy : flE K.P 55 5 = some (25, 27) := by kernel_rfl
theorem Jl : flE K.P 55 6 = some (29, 28) := by kernel_rfl
theorem Ht : flE K.P 63 0 = some (0, 3) := by kernel_rfl
theorem HR : flE K.P 68 0 = some (0, 3) := by kernel_rfl
theorem JM : flE K.P 68 1 = some (1, 3) := by kernel_rfl
theorem Ja : flE K.P 68 2 = some (2, 3) := by kernel_rfl
theorem Hp : flE K.P 68 3 = some (3, 3) := by kernel_rfl
theorem ER : flE K.P 89 14 = some (34, 3) := by kernel_rfl
theorem GC : flE K.P 89 16 = some (36, 3) := by kernel_rfl
theorem Iz : flE K.P 89 5 = some (5, 4) := by kernel_rfl
theorem HO : flE K.P 92 0 = some (0, 89) := by kernel_rfl
theorem Hw : flE K.P 92 1 = some (40, 90) := by kernel_rfl
theorem Iv : flE K.P 94 0 = some (0, 3) := by kernel_rfl
theorem HH : flE K.P 94 1 = some (1, 3) := by kernel_rfl
theorem IC : flE K.P 94 2 = some (2, 4) := by kernel_rfl
theorem JV : flE K.P 94 3 = some (3, 92) := by kernel_rfl
theorem J8 : inK K.P 133 = some .u64 := by kernel_rfl
theorem in3 : inK K.P 3 = some .i64 := by kernel_rfl
theorem MV : inK K.P 47 = some .u64 := by kernel_rfl
theorem Ni : Fs K.P 4 = true := by kernel_rfl
theorem GW : cA K.P 113 = some 42 := by kernel_rfl
theorem MR : cA K.P 23 = some 7 := by kernel_rfl
theorem Ma : cA K.P 25 = some 1 := by kernel_rfl
theorem MF : cA K.P 27 = some 4 := by kernel_rfl
theorem LQ : cA K.P 28 = some 1 := by kernel_rfl
theorem sz3 : cA K.P 3 = some 1 := by kernel_rfl
theorem M0 : cA K.P 31 = some 1 := by kernel_rfl
theorem MU : cA K.P 34 = some 1 := by kernel_rfl
theorem sz4 : cA K.P 4 = some 1 := by kernel_rfl
theorem Lx : cA K.P 43 = some 1 := by kernel_rfl
theorem M5 : cA K.P 45 = some 9 := by kernel_rfl
theorem Lf : cA K.P 46 = some 1 := by kernel_rfl
theorem Mp : cA K.P 47 = some 1 := by kernel_rfl
theorem MS : cA K.P 49 = some 2 := by kernel_rfl
theorem sz5 : cA K.P 5 = some 1 := by kernel_rfl
theorem LG : cA K.P 51 = some 6 := by kernel_rfl
theorem LT : cA K.P 53 = some 15 := by kernel_rfl
theorem Nh : cA K.P 63 = some 4 := by kernel_rfl
theorem LD : cA K.P 79 = some 1 := by kernel_rfl
theorem Nc : cA K.P 89 = some 40 := by kernel_rfl
theorem LY : cA K.P 90 = some 1 := by kernel_rfl
theorem LU : cA K.P 92 = some 41 := by kernel_rfl
theorem LE : cA K.P 94 = some 44 := by kernel_rfl
theorem Mb : cA K.P 99 = some 1 := by kernel_rfl
theorem Kb : K.P.underlying 133 = some (.int .u64) := by kernel_rfl
theorem LM : K.P.underlying 25 = some (.slice 3) := by kernel_rfl
theorem un3 : K.P.underlying 3 = some (.int .i64) := by kernel_rfl
theorem Lr : K.P.underlying 31 = some (.slice 4) := by kernel_rfl
theorem Na : K.P.underlying 32 = some (.slice 23) := by kernel_rfl
theorem Mm : K.P.underlying 43 = some (.slice 94) := by kernel_rfl
theorem ML : K.P.underlying 46 = some (.slice 113) := by kernel_rfl
theorem Lh : K.P.underlying 47 = some (.int .u64) := by kernel_rfl
theorem Mg : K.P.underlying 79 = some (.slice 92) := by kernel_rfl
theorem LO : K.P.underlying 90 = some (.slice 5) := by kernel_rfl
theorem K4 : zer K.P 113 = some (bU HeldSeq.z cJ) := by kernel_rfl
theorem LS : zer K.P 23 = some (am SessionPlan.z) := by kernel_rfl
theorem Le : zer K.P 25 = some [.v (.slice none 0 0)] := by kernel_rfl
theorem Md : zer K.P 27 = some (az SessionResult.z cJ cJ cJ) := by kernel_rfl
theorem MN : zer K.P 28 = some [.v (.int .i64 0)] := by kernel_rfl
theorem ze3 : zer K.P 3 = some [.v (.int .i64 0)] := by kernel_rfl
theorem ze4 : zer K.P 4 = some [.v (.bool false)] := by kernel_rfl
theorem LK : zer K.P 45 = some (av Sender.z cJ) := by kernel_rfl
theorem Mt : zer K.P 49 = some (aU Window.z) := by kernel_rfl
theorem ze5 : zer K.P 5 = some [.v (.int .u8 0)] := by kernel_rfl
theorem LH : zer K.P 51 = some (aB Reorder.z cJ) := by kernel_rfl
theorem LZ : zer K.P 55 = some (ae Session_session.z cJ cJ (.v .nilFunc) cJ cJ cJ) := by kernel_rfl
theorem L1 : zer K.P 63 = some (bv BlockAsk.z) := by kernel_rfl
theorem MZ : zer K.P 68 = some (bg BlockAnswer.z) := by kernel_rfl
theorem My : zer K.P 79 = some [.v (.slice none 0 0)] := by kernel_rfl
theorem L7 : zer K.P 92 = some (bn Frame.z cJ) := by kernel_rfl
theorem Ln : zer K.P 94 = some (bh Unacked.z cJ) := by kernel_rfl
attribute [go_sem] Km Nj LR L9 Lm ag3 Ml M6 ag4 Ms Nk MP Lv MC ag5 Mu LN Lj LX L5 M3 MI Nd Mo Kr Mr ME Mn Mx Lp M1 MT MK Mf Me KG MM by3 by4 by5 Lw Ng L8 Li LI Lu Ke LA Ls Lg EQ FY HP HK H8 HU H3 HV Jh Hy JO IJ IL J0 IK In Jv JQ Je Ih Jm JD IR I8 Hk I4 JS JH J2 Hm IV JL HX Hh Jb HN Iy Jl Ht HR JM Ja Hp ER GC Iz HO Hw Iv HH IC JV J8 in3 MV Ni GW MR Ma MF LQ sz3 M0 MU sz4 Lx M5 Lf Mp MS sz5 LG LT Nh LD Nc LY LU LE Mb Kb LM un3 Lr Na Mm ML Lh Mg LO K4 LS Le Md MN ze3 ze4 LK Mt ze5 LH LZ L1 MZ My L7 Ln
theorem mixed : K.P.follows .mixedOrders = true := by kernel_rfl
theorem hC : COk K := ⟨FZ.of_tab (tab := tab) rfl (by kernel_rfl), mixed⟩
theorem rs9 : Try.f9.results = #[.cell 0 23] := rfl
theorem L2 : Try.f16.results = #[.tmp 6] := rfl
theorem K8 : Try.f11.results = #[.tmp 2] := rfl
theorem MH : Try.f40.results = #[.tmp 6] := rfl
theorem KP : Try.f48.results = #[.tmp 2] := rfl
theorem Mk : Try.f43.results = #[.tmp 4] := rfl
theorem E4 : Try.f39.results = #[.tmp 2] := rfl
theorem KL : Try.f23.results = #[.cell 8 45, .tmp 9] := rfl
theorem Kd : Try.f24.results = #[] := rfl
theorem MD : Try.f60.results = #[.cell 2 92] := rfl
theorem Nf : Try.f41.results = #[.cell 2 45] := rfl
theorem FG : Try.f25.results = #[.cell 4 63, .cell 5 45, .tmp 6] := rfl
theorem DD : Try.f26.results = #[.cell 4 45, .tmp 5] := rfl
theorem L4 : Try.f61.results = #[.tmp 2] := rfl
theorem Mj : Try.f72.results = #[.tmp 2] := rfl
theorem KM : Try.f62.results = #[.tmp 2] := rfl
theorem M7 : Try.f55.results = #[.tmp 2] := rfl
theorem Ik : Try.f42.results = #[.tmp 2] := rfl
theorem KT : Try.f27.results = #[.cell 6 51, .tmp 7] := rfl
theorem M4 : Try.f18.results = #[] := rfl
theorem Kv : Try.f28.results = #[.tmp 2, .cell 3 45, .tmp 4] := rfl
theorem Mc : Try.f29.results = #[.tmp 4] := rfl
theorem MB : Try.f56.results = #[.tmp 2] := rfl
theorem Ld : Try.f75.results = #[.tmp 5] := rfl
theorem KR : Try.f74.results = #[.tmp 6, .tmp 7] := rfl
theorem L3 : Try.f65.results = #[.tmp 4, .tmp 5] := rfl
theorem Lt : Try.f59.results = #[.tmp 4] := rfl
theorem Lz : Try.f58.results = #[.tmp 4, .cell 5 51] := rfl
theorem Ga : Try.f44.results = #[.tmp 4, .cell 5 51, .tmp 6] := rfl
theorem M2 : Try.f38.results = #[] := rfl
theorem Lk : Try.f30.results = #[] := rfl
theorem MQ : Try.f19.results = #[] := rfl
theorem Gn : Try.f45.results = #[.cell 4 45, .tmp 5] := rfl
theorem Lq : Try.f47.results = #[.tmp 4] := rfl
theorem Ff : Try.f64.results = #[.tmp 4] := rfl
theorem Fh : Try.f73.results = #[.tmp 4] := rfl
theorem E8 : Try.f63.results = #[.tmp 4] := rfl
theorem Kq : Try.f46.results = #[.cell 4 25] := rfl
theorem KY : Try.f31.results = #[.tmp 4, .cell 5 45, .tmp 6] := rfl
theorem KZ : Try.f17.results = #[.tmp 1] := rfl
theorem K6 : Try.f32.results = #[.tmp 2] := rfl
theorem H7 : Try.f33.results = #[.cell 2 45, .tmp 3] := rfl
theorem Gf : Try.f49.results = #[.cell 6 92, .cell 7 45, .tmp 8] := rfl
theorem KU : Try.f34.results = #[] := rfl
theorem KH : Try.f50.results = #[.tmp 4, .cell 5 45, .tmp 6] := rfl
theorem J3 : Try.f80.results = #[.tmp 4] := rfl
theorem Io : Try.f76.results = #[.cell 4 49, .tmp 5] := rfl
theorem Hx : Try.f77.results = #[.cell 4 49, .tmp 5] := rfl
theorem KW : Try.f66.results = #[.cell 4 49] := rfl
theorem Ft : Try.f67.results = #[.tmp 6] := rfl
theorem E0 : Try.f51.results = #[.tmp 6, .cell 7 51, .tmp 8] := rfl
theorem LJ : Try.f35.results = #[.tmp 4] := rfl
theorem LV : Try.f68.results = #[] := rfl
theorem Kk : Try.f52.results = #[.cell 2 45, .tmp 3] := rfl
theorem KA : Try.f53.results = #[.cell 2 49, .tmp 3] := rfl
theorem KO : Try.f70.results = #[.tmp 4] := rfl
theorem LW : Try.f69.results = #[.tmp 3] := rfl
theorem KF : Try.f54.results = #[.tmp 4, .cell 5 45, .tmp 6] := rfl
theorem KD : Try.f36.results = #[] := rfl
theorem Kf : Try.f37.results = #[.cell 4 79, .cell 5 51, .cell 6 28] := rfl
theorem Kg : Try.f20.results = #[] := rfl
theorem Fc : Try.f10.results = #[.cell 6 27, .tmp 7] := rfl
theorem Hq : Try.f22.results = #[.tmp 4] := rfl
theorem L0 : Try.f21.results = #[.tmp 8, .tmp 9] := rfl
theorem MX : Try.f12.results = #[.tmp 0] := rfl
theorem MW : Try.f13.results = #[.tmp 4] := rfl
theorem LC : Try.f14.results = #[.tmp 4] := rfl
theorem rs4 : Try.f4.results = #[.tmp 6] := rfl
end Go.AX.Z.TN

/-! (TNI) -/

set_option linter.unusedSimpArgs false
set_option linter.unusedVariables false
set_option maxHeartbeats 1000000
namespace Go.AX.Z.TN
open Go.AX Go.Proofs

/-- What slices.Backward hands out. -/
def rP (l : List HeldSeq) : List (List AV) := (List.range l.length).map fun i => [vi ((l.length - 1 - i : Nat) : Int), match l[l.length - 1 - i]? with | some x => .agg (ai x) | none => .unk]
theorem sW (l : List HeldSeq) : (rP l).length = l.length := by simp [rP]
theorem xS {l : List HeldSeq} {k i : Nat} {x : HeldSeq} (hk : k + i + 1 = l.length) (hx : l[i]? = some x) : (rP l)[k]? = some [vi (i : Int), .agg (ai x)] := by
 have e : l.length - 1 - k = i := by omega
 have h : (List.range l.length)[k]? = some k := by rw [List.getElem?_range (by omega)]
 unfold rP
 rw [List.getElem?_map, h]
 simp only [Option.map_some, e, hx]
theorem yg {l : List HeldSeq} {k : Nat} {x : List AV} (h : (rP l)[k]? = some x) : ∃ i e, k + i + 1 = l.length ∧ l[i]? = some e ∧ x = [vi (i : Int), .agg (ai e)] := by
 have hk : k < l.length := by rw [← sW l]; exact (List.getElem?_eq_some_iff.1 h).1
 have hi : l.length - 1 - k < l.length := by omega
 have := xS (k := k) (i := l.length - 1 - k) (by omega) (List.getElem?_eq_getElem hi)
 rw [h] at this
 cases this
 exact ⟨_, _, by omega, List.getElem?_eq_getElem hi, rfl⟩

def tB (y : Value) (q : Nat) : Nat → AV := upd (upd (fun _ => .unk) 1 (.ptr q 0)) 0 (.v y)

theorem Ci (l : List HeldSeq) (hL : l.length < 4611686018427387904) (p q : Nat) : K7 K 71 [.ptr p 0] (fun hs => hs.objs p = .live [.ref q 0 l.length 42] ∧ hs.objs q = .live (List.flatMap ai l)) (rP l) := by
 intro lo lb ρ0 V0 J Jx hlb hJ hJx hJc hJxc hy ρ V hs W h0
 have hAb : ∀ i, Abides K (J i) := fun i => ⟨fun ρ V hs W h => ⟨(hJ i ρ V hs W h).2.1, (hJ i ρ V hs W h).2.2.1⟩, hJc i⟩
 have hAx : Abides K Jx := ⟨hJx, hJxc⟩
 obtain ⟨loc, hloc, rfl⟩ : ∃ loc, ρ0 p = some loc ∧ lb = #[.pointer (some ⟨loc.b, loc.base + 0, none⟩)] := by
  obtain ⟨e1, e2⟩ := hlb
  obtain ⟨lb⟩ := lb
  match lb, e1, e2 with
  | [y], _, e2 =>
   have := e2 0 _ y rfl rfl
   cases this with
   | ptr _ _ loc h => exact ⟨loc, h, rfl⟩
 obtain ⟨Y, hY⟩ : ∃ Y, Value.func (.yield lo) #[] #[] = Y := ⟨_, rfl⟩
 refine callsIn_of_wp (fn := Try.f71) Try.func71 rfl trivial ?_ rfl
 have hst0 := StJ.start (N := Try.f71.ntmps) (t := tB Y p) (J := J 0) (args := #[.func (.yield lo) #[] #[]] ++ #[.pointer (some ⟨loc.b, loc.base + 0, none⟩)]) (by show 2 ≤ 19; decide) h0 (fun i y hy => by
  match i, hy with
  | 0, hy => cases hy; rw [hY]; exact .v _
  | 1, hy => cases hy; exact .ptr p 0 loc ((hJ 0 _ _ _ _ h0).1.rho _ _ hloc)) (fun i hi => by
  have hi : 2 ≤ i := hi
  unfold tB
  rw [ba _ _ (by omega), ba _ _ (by omega)])
 have hRd : ∀ i ρ V hs W, J i ρ V hs W → hs.objs p = .live [.ref q 0 l.length 42] ∧ hs.objs q = .live (List.flatMap ai l) := fun i ρ V hs W h => (hJ i ρ V hs W h).2.2.2
 refine wpIn_seq ?_
 obtain ⟨r1, r2⟩ := hRd _ _ _ _ _ hst0.j
 refine oM hC (hAb 0) (by decide +kernel) (by decide +kernel) (K := fun t => t 0 = .v Y ∧ t 1 = .ptr p 0 ∧ t 3 = vi ((l.length : Int) - 1)) hst0 ?_ ?_
 ·
  unfold tB
  simp only [go_sem, Nat.reduceEqDiff, reduceIte, Nat.reduceAdd, Nat.reduceMul, Nat.reduceSub, Nat.reduceLT, Nat.reduceLeDiff, Int.reduceToNat, Int.reduceBEq, Int.reduceBNe, Int.reduceLT, Int.reduceLE, Int.reduceAdd, Int.reduceSub, Int.reduceMul, Int.reduceNeg, Int.reduceEq, Int.reduceNe, r1, kt (show -4611686018427387904 ≤ (l.length : Int) - 1 by omega) (show (l.length : Int) - 1 < 4611686018427387904 by omega)]
  try exact ⟨rfl, rfl, rfl, rfl⟩
 intro ρ1 V1 hs1 a1 W1 t1 ⟨e0, e1, e3⟩ _ hst1
 refine wpIn_block ?_
 refine wpIn_loop (I := fun a w => ∃ (k c : Nat) (ρ : Rho) (V : bw) (hs : HS) (t : Nat → AV), k + c = l.length ∧ t 0 = .v Y ∧ t 1 = .ptr p 0 ∧ t 3 = vi ((c : Int) - 1) ∧ StJ Try.f71.ntmps t (J k) ρ V hs a w)
  (fun a _ => (match a.tmps.getD 3 undef with | .int _ n => (n + 1).toNat | _ => 0)) ⟨0, l.length, ρ1, V1, hs1, t1, by omega, e0, e1, e3, hst1⟩ ?_
 rintro a w ⟨k, c, ρ2, V2, hs2, t2, hk, e0, e1, e3, hst2⟩
 have hk3 : a.tmps.getD 3 undef = .int .i64 ((c : Int) - 1) := by
  have := hst2.tm 3
  rw [e3] at this
  exact Rel.v_inv this
 refine wpIn_seq ?_
 refine wpIn_seq ?_
 refine oM hC (hAb _) (by decide +kernel) (by decide +kernel) (K := fun t => t 0 = .v Y ∧ t 1 = .ptr p 0 ∧ t 3 = vi ((c : Int) - 1) ∧ t 8 = vb (decide (0 ≤ (c : Int) - 1))) hst2 ?_ ?_
 ·
  simp only [go_sem, Nat.reduceEqDiff, reduceIte, Nat.reduceAdd, Nat.reduceMul, Nat.reduceSub, Nat.reduceLT, Nat.reduceLeDiff, Int.reduceToNat, Int.reduceBEq, Int.reduceBNe, Int.reduceLT, Int.reduceLE, Int.reduceAdd, Int.reduceSub, Int.reduceMul, Int.reduceNeg, Int.reduceEq, Int.reduceNe, e0, e1, e3]
  try exact ⟨rfl, rfl, rfl, rfl, rfl⟩
 intro ρ3 V3 hs3 a3 W3 t3 ⟨e0, e1, e3, e8⟩ _ hst3
 have hc8 : a3.eval (.tmp 8) = .bool (decide (0 ≤ (c : Int) - 1)) := by
  have := jD (C := K) (s := { toHS := hs3, tmps := t3 }) hst3.tm ((hAb _).inv _ _ _ _ hst3.j).2 (.tmp 8)
  rw [show ev K { toHS := hs3, tmps := t3 } (.tmp 8) = t3 8 from rfl, e8] at this
  exact Rel.v_inv this
 refine wpIn_cond_split hc8 (fun hlt => ?_) (fun hge => ?_)
 ·
  obtain ⟨i, rfl⟩ : ∃ i, c = i + 1 := ⟨c - 1, by have := of_decide_eq_true hlt; omega⟩
  have e3 : t3 3 = vi (i : Int) := by rw [e3]; congr 2; omega
  have hil : i < l.length := by omega
  obtain ⟨x, hx⟩ : ∃ x, l[i]? = some x := ⟨_, List.getElem?_eq_getElem hil⟩
  refine wpIn_skip ?_
  refine wpIn_seq ?_
  refine wpIn_block ?_
  refine wpIn_seq ?_
  obtain ⟨r1, r2⟩ := hRd _ _ _ _ _ hst3.j
  obtain ⟨f0, f1, f2, f3⟩ := co (show idx l (i : Int) = some x by rw [kQ]; exact hx)
  rw [Int.toNat_natCast] at f2
  refine AL hC (hAb _) (hAb (k + 1)) hAx (by decide +kernel) (by decide +kernel) 6 _ rfl (l := lo) rfl rfl rfl (x := [vi (i : Int), .agg (ai x)]) (b := true) hst3
   (K1 := fun t => t 0 = .v Y ∧ t 1 = .ptr p 0 ∧ t 3 = vi (i : Int) ∧ t 11 = .v Y ∧ t 12 = vi (i : Int) ∧ t 16 = .agg (ai x))
   (K2 := fun r t => t 0 = .v Y ∧ t 1 = .ptr p 0 ∧ t 3 = vi (i : Int) ∧ t 18 = vb (match r with | some false => true | _ => false)) ?_ ?_ ?_ ?_ ?_ ?_ ?_ ?_
  ·
   simp only [go_sem, Nat.reduceEqDiff, reduceIte, Nat.reduceAdd, Nat.reduceMul, Nat.reduceSub, Nat.reduceLT, Nat.reduceLeDiff, Int.reduceToNat, Int.reduceBEq, Int.reduceBNe, Int.reduceLT, Int.reduceLE, Int.reduceAdd, Int.reduceSub, Int.reduceMul, Int.reduceNeg, Int.reduceEq, Int.reduceNe, e0, e1, e3, r1, r2, f0, f1, f2, Int.toNat_natCast]
   try exact ⟨rfl, rfl, rfl, rfl, rfl, rfl⟩
  ·
   rintro t1 _
   exact .inl ⟨rfl, rfl⟩
  ·
   rintro _ t1 hs' ⟨_, _, _, h11, h12, h16⟩
   exact ⟨by rw [hY]; exact h11, by show [t1 12, t1 16] = _; rw [h12, h16]⟩
  ·
   intro _ ρ' V' hs' W' args' _ hj hargs
   exact hy _ _ _ _ _ _ _ hj (xS (by omega) hx) hargs
  ·
   rintro r t1 hs' ⟨e0, e1, e3, _⟩ hr
   cases r with
   | none => cases hr
   | some r =>
    cases r <;> simp only [go_sem, Nat.reduceEqDiff, reduceIte, Nat.reduceAdd, Nat.reduceMul, Nat.reduceSub, Nat.reduceLT, Nat.reduceLeDiff, Int.reduceToNat, Int.reduceBEq, Int.reduceBNe, Int.reduceLT, Int.reduceLE, Int.reduceAdd, Int.reduceSub, Int.reduceMul, Int.reduceNeg, Int.reduceEq, Int.reduceNe, e0, e1, e3] <;> first | rfl | exact ⟨rfl, rfl, rfl, rfl, rfl⟩
  ·
   intro h; cases h
  ·
   rintro _ ρ5 V5 hs5 a5 W5 t5 ⟨e0, e1, e3, e18⟩ _ hst5
   have hc : a5.eval (.tmp 18) = .bool false := by
    have := jD (C := K) (s := { toHS := hs5, tmps := t5 }) hst5.tm ((hAb _).inv _ _ _ _ hst5.j).2 (.tmp 18)
    rw [show ev K { toHS := hs5, tmps := t5 } (.tmp 18) = t5 18 from rfl, e18] at this
    exact Rel.v_inv this
   refine wpIn_cond_false hc (wpIn_skip ?_)
   refine oM hC (hAb _) (by decide +kernel) (by decide +kernel) (K := fun t => t 0 = .v Y ∧ t 1 = .ptr p 0 ∧ t 3 = vi ((i : Int) - 1)) hst5 ?_ ?_
   ·
    simp only [go_sem, Nat.reduceEqDiff, reduceIte, Nat.reduceAdd, Nat.reduceMul, Nat.reduceSub, Nat.reduceLT, Nat.reduceLeDiff, Int.reduceToNat, Int.reduceBEq, Int.reduceBNe, Int.reduceLT, Int.reduceLE, Int.reduceAdd, Int.reduceSub, Int.reduceMul, Int.reduceNeg, Int.reduceEq, Int.reduceNe, e0, e1, e3, kt (show -4611686018427387904 ≤ (i : Int) - 1 by omega) (show (i : Int) - 1 < 4611686018427387904 by omega)]
    try exact ⟨rfl, rfl, rfl, rfl⟩
   rintro ρ6 V6 hs6 a6 W6 t6 ⟨e0, e1, e3⟩ _ hst6
   refine ⟨⟨k + 1, i, ρ6, V6, hs6, t6, by omega, e0, e1, e3, hst6⟩, ?_⟩
   have h3 : a6.tmps.getD 3 undef = .int .i64 ((i : Int) - 1) := by
    have := hst6.tm 3
    rw [e3] at this
    exact Rel.v_inv this
   show (match a6.tmps.getD 3 undef with | .int _ n => (n + 1).toNat | _ => 0) < (match a.tmps.getD 3 undef with | .int _ n => (n + 1).toNat | _ => 0)
   rw [h3, hk3]
   show ((i : Int) - 1 + 1).toNat < (((i + 1 : Nat) : Int) - 1 + 1).toNat
   omega
  ·
   rintro _ ρ5 V5 hs5 a5 W5 t5 ⟨e0, e1, e3, e18⟩ _ hst5
   have hc : a5.eval (.tmp 18) = .bool true := by
    have := jD (C := K) (s := { toHS := hs5, tmps := t5 }) hst5.tm (hAx.inv _ _ _ _ hst5.j).2 (.tmp 18)
    rw [show ev K { toHS := hs5, tmps := t5 } (.tmp 18) = t5 18 from rfl, e18] at this
    exact Rel.v_inv this
   refine wpIn_cond_true hc (wpIn_ret ?_)
   exact Ak (R := fun e W' => (∃ v, e = .returned v) ∧ ∃ ρ' V' hs', J (rP l).length ρ' V' hs' W' ∨ Jx ρ' V' hs' W') hst5 rfl (fun v h => ⟨⟨v, rfl⟩, _, _, _, .inr h⟩)
 ·
  have hc0 : c = 0 := by have := of_decide_eq_false hge; omega
  subst hc0
  refine wpIn_exit ?_
  exact Ak (R := fun e W' => (∃ v, e = .returned v) ∧ ∃ ρ' V' hs', J (rP l).length ρ' V' hs' W' ∨ Jx ρ' V' hs' W') hst3 rfl (fun v h => ⟨⟨v, rfl⟩, _, _, _, .inl (by rw [sW, ← hk]; exact h)⟩)

theorem Dt (n q : Nat) (hs : HS) : Snd K 57 [.ref q 0 n 42] hs (fun r hs' => r = .clo 71 [] [.ptr hs.next 0] ∧ hs'.objs = upd hs.objs hs.next (.live [.ref q 0 n 42]) ∧ hs.next < hs'.next) := by
 obtain ⟨objs, nx⟩ := hs
 refine vK hC (fn := Try.f57) Try.func57 rfl rfl (by decide +kernel) (Nat.le_of_ble_eq_true rfl) ?_
 refine rD fun KK hKK => ?_
 refine ap ?_
 simp only [gc, List.getD_cons_zero, go_sem, Nat.reduceEqDiff, reduceIte, Nat.reduceAdd]
 refine hKK _ ?_; clear hKK KK
 refine rD fun KK hKK => ?_
 refine ap ?_
 simp only [go_sem, Nat.reduceEqDiff, reduceIte, Nat.reduceAdd]
 refine hKK _ ?_; clear hKK KK
 refine aL ?_
 refine ax (fn := Try.f57) (rs := #[.tmp 2]) rfl (by simp only [go_sem, sL, lr, se, vY, Nat.reduceEqDiff, reduceIte, Nat.reduceAdd]; rfl) ?_
 exact ⟨rfl, rfl, by show nx < nx + 2 + 2; omega⟩

end Go.AX.Z.TN
