/- A part of the proof: the types, the facts of the program and the functions, read plainly. -/
import Derived.Test.YtpjogfcpmcbafaaCorec
import Derived.Test.YtpjogfcpmcbafaaProg
import Derived.KernelRfl
set_option linter.unusedVariables false
set_option linter.unusedSimpArgs false

/-! (TNS) -/

set_option linter.unusedSimpArgs false
set_option linter.unusedVariables false
namespace Go.AX.Z.TN
open Go.AX
structure SessionPlan where
 Start : Int
 Size : Int
 Limit : Int
 Life : Int
 Hold : Int
 Burst : Int
 Round : Int
 deriving DecidableEq

def SessionPlan.z : SessionPlan := ⟨0, 0, 0, 0, 0, 0, 0⟩

def am (x : SessionPlan) : List AV := [vi x.Start, vi x.Size, vi x.Limit, vi x.Life, vi x.Hold, vi x.Burst, vi x.Round]

theorem sd (x : SessionPlan) : (am x).length = 7 := by rfl
theorem rS (x : SessionPlan) : b8 (am x) 0 7 = some (am x) := by rfl
theorem rl (x : SessionPlan) : (am x).take 7 = (am x) := by rfl
theorem ru (x : SessionPlan) (y : SessionPlan) : cz (am x) 0 (am y) = am y := by rfl
theorem om (x : SessionPlan) : (am x)[0]? = some (vi x.Start) := by rfl
theorem oa (x : SessionPlan) (v : Int) : (am x).set 0 (vi v) = am { x with Start := v } := by rfl
theorem oZ (x : SessionPlan) : (am x)[1]? = some (vi x.Size) := by rfl
theorem oW (x : SessionPlan) (v : Int) : (am x).set 1 (vi v) = am { x with Size := v } := by rfl
theorem oc (x : SessionPlan) : (am x)[2]? = some (vi x.Limit) := by rfl
theorem nR (x : SessionPlan) (v : Int) : (am x).set 2 (vi v) = am { x with Limit := v } := by rfl
theorem oT (x : SessionPlan) : (am x)[3]? = some (vi x.Life) := by rfl
theorem oK (x : SessionPlan) (v : Int) : (am x).set 3 (vi v) = am { x with Life := v } := by rfl
theorem oC (x : SessionPlan) : (am x)[4]? = some (vi x.Hold) := by rfl
theorem pj (x : SessionPlan) (v : Int) : (am x).set 4 (vi v) = am { x with Hold := v } := by rfl
theorem oe (x : SessionPlan) : (am x)[5]? = some (vi x.Burst) := by rfl
theorem nY (x : SessionPlan) (v : Int) : (am x).set 5 (vi v) = am { x with Burst := v } := by rfl
theorem od (x : SessionPlan) : (am x)[6]? = some (vi x.Round) := by rfl
theorem nT (x : SessionPlan) (v : Int) : (am x).set 6 (vi v) = am { x with Round := v } := by rfl
theorem mb (x : SessionPlan) (o : Nat → Ob) (n : Nat) : (am x).map (fz o (n + 1)) = am x := by rfl
theorem kv (x : SessionPlan) (o : Nat → Ob) (n : Nat) : (am x).flatMap (bc o (n + 1)) = [] := by
 simp only [am, List.cons_append, List.nil_append, List.append_nil, List.flatMap_cons, List.flatMap_nil, fi]
theorem ce (x : SessionPlan) : ∀ c ∈ (am x), aw c := by
 simp only [am, List.cons_append, List.nil_append]
 repeat' (first | exact aw.v _ | assumption | exact List.forall_mem_nil _ | refine List.forall_mem_cons.2 ⟨?_, ?_⟩)
theorem qo (x : SessionPlan) (o : Nat → Ob) (n : Nat) : (am x).map (fz o (n + 1)) = am x := by simp only [mb]
theorem qe (x : SessionPlan) (o : Nat → Ob) (n : Nat) : (am x).flatMap (bc o (n + 1)) = [] := by simp only [kv, List.append_nil]
attribute [go_sem] sd rS rl ru om oa oZ oW oc nR oT oK oC pj oe nY od nT mb kv qo qe

structure SessionResult where
 Delivered : (List Int)
 Acked : (List Int)
 Dropped : (List Int)
 Rounds : Int
 deriving DecidableEq

def SessionResult.z : SessionResult := ⟨[], [], [], 0⟩

def az (x : SessionResult) (s0 : AV) (s1 : AV) (s2 : AV) : List AV := [s0, s1, s2, vi x.Rounds]

theorem pY (x : SessionResult) (s0 : AV) (s1 : AV) (s2 : AV) : (az x s0 s1 s2).length = 4 := by rfl
theorem pW (x : SessionResult) (s0 : AV) (s1 : AV) (s2 : AV) : b8 (az x s0 s1 s2) 0 4 = some (az x s0 s1 s2) := by rfl
theorem oY (x : SessionResult) (s0 : AV) (s1 : AV) (s2 : AV) : (az x s0 s1 s2).take 4 = (az x s0 s1 s2) := by rfl
theorem p4 (x : SessionResult) (s0 : AV) (s1 : AV) (s2 : AV) (y : SessionResult) (s02 : AV) (s12 : AV) (s22 : AV) : cz (az x s0 s1 s2) 0 (az y s02 s12 s22) = az y s02 s12 s22 := by rfl
theorem kH (x : SessionResult) (s0 : AV) (s1 : AV) (s2 : AV) : (az x s0 s1 s2)[0]? = some s0 := by rfl
theorem kz (x : SessionResult) (s0 : AV) (s1 : AV) (s2 : AV) (v : AV) : (az x s0 s1 s2).set 0 v = az x v s1 s2 := by rfl
theorem mC (x : SessionResult) (s0 : AV) (s1 : AV) (s2 : AV) : (az x s0 s1 s2)[1]? = some s1 := by rfl
theorem ma (x : SessionResult) (s0 : AV) (s1 : AV) (s2 : AV) (v : AV) : (az x s0 s1 s2).set 1 v = az x s0 v s2 := by rfl
theorem lu (x : SessionResult) (s0 : AV) (s1 : AV) (s2 : AV) : (az x s0 s1 s2)[2]? = some s2 := by rfl
theorem lv (x : SessionResult) (s0 : AV) (s1 : AV) (s2 : AV) (v : AV) : (az x s0 s1 s2).set 2 v = az x s0 s1 v := by rfl
theorem lP (x : SessionResult) (s0 : AV) (s1 : AV) (s2 : AV) : (az x s0 s1 s2)[3]? = some (vi x.Rounds) := by rfl
theorem l0 (x : SessionResult) (s0 : AV) (s1 : AV) (s2 : AV) (v : Int) : (az x s0 s1 s2).set 3 (vi v) = az { x with Rounds := v } s0 s1 s2 := by rfl
theorem k8 (x : SessionResult) (s0 : AV) (s1 : AV) (s2 : AV) (o : Nat → Ob) (n : Nat) : (az x s0 s1 s2).map (fz o (n + 1)) = az x (fz o (n + 1) s0) (fz o (n + 1) s1) (fz o (n + 1) s2) := by rfl
theorem jo (x : SessionResult) (s0 : AV) (s1 : AV) (s2 : AV) (o : Nat → Ob) (n : Nat) : (az x s0 s1 s2).flatMap (bc o (n + 1)) = bc o (n + 1) s0 ++ (bc o (n + 1) s1 ++ bc o (n + 1) s2) := by
 simp only [az, List.cons_append, List.nil_append, List.append_nil, List.flatMap_cons, List.flatMap_nil, fi]
theorem nU (x : SessionResult) (s0 : AV) (s1 : AV) (s2 : AV) (h_s0 : aw s0) (h_s1 : aw s1) (h_s2 : aw s2) : ∀ c ∈ (az x s0 s1 s2), aw c := by
 simp only [az, List.cons_append, List.nil_append]
 repeat' (first | exact aw.v _ | assumption | exact List.forall_mem_nil _ | refine List.forall_mem_cons.2 ⟨?_, ?_⟩)
theorem rk {st : AS} {F : List Nat} {σ : List (Option Nat)} (x : SessionResult) (s0 : AV) (s1 : AV) (s2 : AV) (s02 : AV) (s12 : AV) (s22 : AV) (h_s0 : Tm st F σ s0 s02) (h_s1 : Tm st F σ s1 s12) (h_s2 : Tm st F σ s2 s22) : TmL st F σ (az x s0 s1 s2) (az x s02 s12 s22) := by
 simp only [az, List.cons_append, List.nil_append]
 repeat' (first | exact TmL.nil | (refine TmL.cons (Tm.v _) ?_) | (refine TmL.cons (by assumption) ?_))
theorem bo {st : AS} {F : List Nat} {σ : List (Option Nat)} {x y : SessionResult} {s0 s1 s2 s02 s12 s22 : AV} (hxy : az y s02 s12 s22 = az x s02 s12 s22) (h_s0 : Tm st F σ s0 s02) (h_s1 : Tm st F σ s1 s12) (h_s2 : Tm st F σ s2 s22) : TmL st F σ (az x s0 s1 s2) (az y s02 s12 s22) := by
 rw [hxy]; exact rk x s0 s1 s2 s02 s12 s22 h_s0 h_s1 h_s2
theorem p7 (x : SessionResult) {s0 s1 s2 : (Nat → Nat) → AV} (h_s0 : aF s0) (h_s1 : aF s1) (h_s2 : aF s2) : RenML fun q => az x (s0 q) (s1 q) (s2 q) := by
 simp only [az, List.cons_append, List.nil_append]
 repeat' (first | exact RenML.nil | (refine RenML.cons (aF.const (aw.v _)) ?_) | (refine RenML.cons (by assumption) ?_))
def eR (x : SessionResult) : List AV := az x (lw x.Delivered) (lw x.Acked) (lw x.Dropped)
theorem iG (x : SessionResult) : eR x = az x (lw x.Delivered) (lw x.Acked) (lw x.Dropped) := rfl
theorem nS (x : SessionResult) : ∀ c ∈ eR x, aw c := nU x _ _ _ (db _) (db _) (db _)
theorem tU (x : SessionResult) (o : Nat → Ob) (n : Nat) : (eR x).map (fz o (n + 2)) = eR x := by simp only [iG, k8, yR, yR, yR]
theorem ui (x : SessionResult) (o : Nat → Ob) (n : Nat) : (eR x).flatMap (bc o (n + 2)) = [] := by simp only [iG, jo, yZ, yZ, yZ, List.append_nil]
attribute [go_sem] pY pW oY p4 kH kz mC ma lu lv lP l0 k8 jo iG tU ui

def jN (l : List SessionPlan) : AV := .imm (List.flatMap am l) l.length
theorem jC (l : List SessionPlan) : jN l = .imm (List.flatMap am l) l.length := rfl
theorem bV (x : SessionPlan) : (am x).length = 7 := by rfl
theorem rU (l : List SessionPlan) : (l.flatMap am).length = l.length * 7 := eU bV l
theorem rV (l : List SessionPlan) (i o : Nat) (ho : o < 7) : (l.flatMap am)[i * 7 + o]? = l[i]?.bind fun a => (am a)[o]? := jf bV l i o ho
theorem re (l : List SessionPlan) (i : Nat) : (l.flatMap am)[i * 7]? = l[i]?.bind fun a => (am a)[0]? := jf bV l i 0 (by decide)
theorem sw (l : List SessionPlan) (i o n : Nat) (ho : o + n ≤ 7) (hn : 0 < n) : b8 (l.flatMap am) (i * 7 + o) n = l[i]?.bind fun a => b8 (am a) o n := i9 bV l i o n ho hn
theorem qC (l : List SessionPlan) (i n : Nat) (ho : n ≤ 7) (hn : 0 < n) : b8 (l.flatMap am) (i * 7) n = l[i]?.bind fun a => b8 (am a) 0 n := i9 bV l i 0 n (by omega) hn
theorem qA (l : List SessionPlan) : b8 (l.flatMap am) 0 (l.length * 7) = some (l.flatMap am) := pS bV l
theorem qJ (l : List SessionPlan) (n : Nat) : (l.flatMap am).take (n * 7) = (l.take n).flatMap am := iP bV l n
theorem ra (l : List SessionPlan) (n : Nat) : (l.flatMap am).drop (n * 7) = (l.drop n).flatMap am := jD bV l n
theorem ms (l : List SessionPlan) (o : Nat → Ob) (n : Nat) : (l.flatMap am).map (fz o (n + 1)) = (l.flatMap am) := uz (fun a => qo a o n) l
theorem lI (l : List SessionPlan) (o : Nat → Ob) (n : Nat) : (l.flatMap am).flatMap (bc o (n + 1)) = [] := m9 (fun a => qe a o n) l
theorem oh (l : List SessionPlan) (i : Nat) (v : Int) : (l.flatMap am).set (i * 7) (vi v) = (l.modify i (fun y => { y with Start := v })).flatMap am := du bV l i 0 _ (fun y => { y with Start := v }) (by decide) (fun _ => by rfl)
theorem pg (l : List SessionPlan) (i : Nat) (v : Int) : (l.flatMap am).set (i * 7 + 1) (vi v) = (l.modify i (fun y => { y with Size := v })).flatMap am := du bV l i 1 _ (fun y => { y with Size := v }) (by decide) (fun _ => by rfl)
theorem nW (l : List SessionPlan) (i : Nat) (v : Int) : (l.flatMap am).set (i * 7 + 2) (vi v) = (l.modify i (fun y => { y with Limit := v })).flatMap am := du bV l i 2 _ (fun y => { y with Limit := v }) (by decide) (fun _ => by rfl)
theorem oy (l : List SessionPlan) (i : Nat) (v : Int) : (l.flatMap am).set (i * 7 + 3) (vi v) = (l.modify i (fun y => { y with Life := v })).flatMap am := du bV l i 3 _ (fun y => { y with Life := v }) (by decide) (fun _ => by rfl)
theorem oO (l : List SessionPlan) (i : Nat) (v : Int) : (l.flatMap am).set (i * 7 + 4) (vi v) = (l.modify i (fun y => { y with Hold := v })).flatMap am := du bV l i 4 _ (fun y => { y with Hold := v }) (by decide) (fun _ => by rfl)
theorem ol (l : List SessionPlan) (i : Nat) (v : Int) : (l.flatMap am).set (i * 7 + 5) (vi v) = (l.modify i (fun y => { y with Burst := v })).flatMap am := du bV l i 5 _ (fun y => { y with Burst := v }) (by decide) (fun _ => by rfl)
theorem nO (l : List SessionPlan) (i : Nat) (v : Int) : (l.flatMap am).set (i * 7 + 6) (vi v) = (l.modify i (fun y => { y with Round := v })).flatMap am := du bV l i 6 _ (fun y => { y with Round := v }) (by decide) (fun _ => by rfl)
theorem rJ (l : List SessionPlan) (i : Nat) (x : SessionPlan) : cz (l.flatMap am) (i * 7) (am x) = (l.set i x).flatMap am := rK bV (by decide) l i x
theorem so (l : List SessionPlan) (x : SessionPlan) : (l.flatMap am) ++ am x = (l ++ [x]).flatMap am := by simp
theorem r6 (l : List SessionPlan) (m : List SessionPlan) : (l.flatMap am) ++ m.flatMap am = (l ++ m).flatMap am := List.flatMap_append.symm
theorem uj (l : List SessionPlan) (o : Nat → Ob) (n : Nat) : fz o (n + 2) (jN l) = jN l := by simp only [jC, fz, ms]
theorem um (l : List SessionPlan) (o : Nat → Ob) (n : Nat) : bc o (n + 2) (jN l) = [] := by simp only [jC, bc, lI]
attribute [go_sem] jC bV rU rV re sw qC qA qJ ra ms lI oh pg nW oy oO ol nO rJ so r6 uj um

structure Addr where
 a0 : Int
 a1 : Int
 a2 : Int
 a3 : Int
 a4 : Int
 a5 : Int
 deriving DecidableEq

def Addr.z : Addr := ⟨0, 0, 0, 0, 0, 0⟩

def dF (x : Addr) : List AV := [vu x.a0, vu x.a1, vu x.a2, vu x.a3, vu x.a4, vu x.a5]

theorem Bb (x : Addr) : (dF x).length = 6 := by rfl
theorem AP (x : Addr) : b8 (dF x) 0 6 = some (dF x) := by rfl
theorem zv (x : Addr) : (dF x).take 6 = (dF x) := by rfl
theorem Bd (x : Addr) (y : Addr) : cz (dF x) 0 (dF y) = dF y := by rfl
theorem xZ (x : Addr) (o : Nat → Ob) (n : Nat) : (dF x).map (fz o (n + 1)) = dF x := by rfl
theorem rE (x : Addr) (o : Nat → Ob) (n : Nat) : (dF x).flatMap (bc o (n + 1)) = [] := by
 simp only [dF, List.cons_append, List.nil_append, List.append_nil, List.flatMap_cons, List.flatMap_nil, fi]
theorem JF (x : Addr) (o : Nat → Ob) (n : Nat) : (dF x).map (fz o (n + 1)) = dF x := by simp only [xZ]
theorem H6 (x : Addr) (o : Nat → Ob) (n : Nat) : (dF x).flatMap (bc o (n + 1)) = [] := by simp only [rE, List.append_nil]
attribute [go_sem] Bb AP zv Bd xZ rE JF H6

structure Header where
 Kind : Int
 Sub : Int
 ToDs : Bool
 FromDs : Bool
 More : Bool
 Retry : Bool
 Sleep : Bool
 MoreData : Bool
 Protected : Bool
 Duration : Int
 A1 : Addr
 A2 : Addr
 A3 : Addr
 A4 : Addr
 Seq : Int
 Frag : Int
 Tid : Int
 Ack : Int
 Amsdu : Bool
 Eosp : Bool
 deriving DecidableEq

def Header.z : Header := ⟨0, 0, false, false, false, false, false, false, false, 0, Addr.z, Addr.z, Addr.z, Addr.z, 0, 0, 0, 0, false, false⟩

def cN (x : Header) : List AV := [vu x.Kind, vu x.Sub, vb x.ToDs, vb x.FromDs, vb x.More, vb x.Retry, vb x.Sleep, vb x.MoreData, vb x.Protected, vi x.Duration] ++ (dF x.A1) ++ (dF x.A2) ++ (dF x.A3) ++ (dF x.A4) ++ [vi x.Seq, vi x.Frag, vi x.Tid, vu x.Ack, vb x.Amsdu, vb x.Eosp]

theorem yU (x : Header) : (cN x).length = 40 := by rfl
theorem yf (x : Header) : b8 (cN x) 0 40 = some (cN x) := by rfl
theorem wC (x : Header) : (cN x).take 40 = (cN x) := by rfl
theorem yQ (x : Header) (y : Header) : cz (cN x) 0 (cN y) = cN y := by rfl
theorem tM (x : Header) (o : Nat → Ob) (n : Nat) : (cN x).map (fz o (n + 1)) = cN x := by rfl
theorem ot (x : Header) (o : Nat → Ob) (n : Nat) : (cN x).flatMap (bc o (n + 1)) = [] := by
 simp only [cN, dF, List.cons_append, List.nil_append, List.append_nil, List.flatMap_cons, List.flatMap_nil, fi]
theorem Dc (x : Header) (o : Nat → Ob) (n : Nat) : (cN x).map (fz o (n + 1)) = cN x := by simp only [tM]
theorem Ew (x : Header) (o : Nat → Ob) (n : Nat) : (cN x).flatMap (bc o (n + 1)) = [] := by simp only [ot, List.append_nil]
attribute [go_sem] yU yf wC yQ tM ot Dc Ew

structure Frame where
 Head : Header
 Body : (List Int)
 deriving DecidableEq

def Frame.z : Frame := ⟨Header.z, []⟩

def bm (x : Frame) (s0 : AV) : List AV := (cN x.Head) ++ [s0]

theorem Az (x : Frame) (s0 : AV) : (bm x s0).length = 41 := by rfl
theorem AE (x : Frame) (s0 : AV) : b8 (bm x s0) 0 41 = some (bm x s0) := by rfl
theorem zp (x : Frame) (s0 : AV) : (bm x s0).take 41 = (bm x s0) := by rfl
theorem zD (x : Frame) (s0 : AV) (y : Frame) (s02 : AV) : cz (bm x s0) 0 (bm y s02) = bm y s02 := by rfl
theorem pC (x : Frame) (s0 : AV) (v : Bool) : (bm x s0).set 5 (vb v) = bm { x with Head.Retry := v } s0 := by rfl
theorem qX (x : Frame) (s0 : AV) : (bm x s0)[34]? = some (vi x.Head.Seq) := by rfl
theorem qx (x : Frame) (s0 : AV) (v : Int) : (bm x s0).set 34 (vi v) = bm { x with Head.Seq := v } s0 := by rfl
theorem qW (x : Frame) (s0 : AV) (v : Int) : (bm x s0).set 36 (vi v) = bm { x with Head.Tid := v } s0 := by rfl
theorem vm (x : Frame) (s0 : AV) : (bm x s0)[40]? = some s0 := by rfl
theorem vM (x : Frame) (s0 : AV) (v : AV) : (bm x s0).set 40 v = bm x v := by rfl
theorem vS (x : Frame) (s0 : AV) (o : Nat → Ob) (n : Nat) : (bm x s0).map (fz o (n + 1)) = bm x (fz o (n + 1) s0) := by rfl
theorem qi (x : Frame) (s0 : AV) (o : Nat → Ob) (n : Nat) : (bm x s0).flatMap (bc o (n + 1)) = bc o (n + 1) s0 := by
 simp only [bm, cN, dF, List.cons_append, List.nil_append, List.append_nil, List.flatMap_cons, List.flatMap_nil, fi]
theorem w9 (x : Frame) (s0 : AV) (h_s0 : aw s0) : ∀ c ∈ (bm x s0), aw c := by
 simp only [bm, cN, dF, List.cons_append, List.nil_append]
 repeat' (first | exact aw.v _ | assumption | exact List.forall_mem_nil _ | refine List.forall_mem_cons.2 ⟨?_, ?_⟩)
theorem AJ {st : AS} {F : List Nat} {σ : List (Option Nat)} (x : Frame) (s0 : AV) (s02 : AV) (h_s0 : Tm st F σ s0 s02) : TmL st F σ (bm x s0) (bm x s02) := by
 simp only [bm, cN, dF, List.cons_append, List.nil_append]
 repeat' (first | exact TmL.nil | (refine TmL.cons (Tm.v _) ?_) | (refine TmL.cons (by assumption) ?_))
theorem cZ {st : AS} {F : List Nat} {σ : List (Option Nat)} {x y : Frame} {s0 s02 : AV} (hxy : bm y s02 = bm x s02) (h_s0 : Tm st F σ s0 s02) : TmL st F σ (bm x s0) (bm y s02) := by
 rw [hxy]; exact AJ x s0 s02 h_s0
def aY (x : Frame) : List AV := bm x (ry x.Body)
theorem qz (x : Frame) : aY x = bm x (ry x.Body) := rfl
theorem dD (x : Frame) : ∀ c ∈ aY x, aw c := w9 x _ (qI _)
theorem BF (x : Frame) (o : Nat → Ob) (n : Nat) : (aY x).map (fz o (n + 2)) = aY x := by simp only [qz, vS, y5]
theorem BJ (x : Frame) (o : Nat → Ob) (n : Nat) : (aY x).flatMap (bc o (n + 2)) = [] := by simp only [qz, qi, yq, List.append_nil]
attribute [go_sem] Az AE zp zD pC qX qx qW vm vM vS qi qz BF BJ

structure Unacked where
 At : Int
 Tries : Int
 Flying : Bool
 Frame : Frame
 deriving DecidableEq

def Unacked.z : Unacked := ⟨0, 0, false, Frame.z⟩

def bh (x : Unacked) (s0 : AV) : List AV := [vi x.At, vi x.Tries, vb x.Flying] ++ (bm x.Frame s0)

theorem wG (x : Unacked) (s0 : AV) : (bh x s0).length = 44 := by rfl
theorem xt (x : Unacked) (s0 : AV) : b8 (bh x s0) 0 44 = some (bh x s0) := by rfl
theorem uN (x : Unacked) (s0 : AV) : (bh x s0).take 44 = (bh x s0) := by rfl
theorem xg (x : Unacked) (s0 : AV) (y : Unacked) (s02 : AV) : cz (bh x s0) 0 (bh y s02) = bh y s02 := by rfl
theorem wb (x : Unacked) (s0 : AV) : (bh x s0)[0]? = some (vi x.At) := by rfl
theorem uY (x : Unacked) (s0 : AV) (v : Int) : (bh x s0).set 0 (vi v) = bh { x with At := v } s0 := by rfl
theorem rT (x : Unacked) (s0 : AV) : (bh x s0)[1]? = some (vi x.Tries) := by rfl
theorem qH (x : Unacked) (s0 : AV) : (bh x s0)[2]? = some (vb x.Flying) := by rfl
theorem kT (x : Unacked) (s0 : AV) : (bh x s0)[37]? = some (vi x.Frame.Head.Seq) := by rfl
theorem rW (x : Unacked) (s0 : AV) : b8 (bh x s0) 3 41 = some (bm x.Frame s0) := by rfl
theorem rC (x : Unacked) (s0 : AV) (v : Frame) (w0 : AV) : cz (bh x s0) 3 (bm v w0) = bh { x with Frame := v } w0 := by rfl
theorem su (x : Unacked) (s0 : AV) (o : Nat → Ob) (n : Nat) : (bh x s0).map (fz o (n + 1)) = bh x (fz o (n + 1) s0) := by rfl
theorem np (x : Unacked) (s0 : AV) (o : Nat → Ob) (n : Nat) : (bh x s0).flatMap (bc o (n + 1)) = bc o (n + 1) s0 := by
 simp only [bh, bm, cN, dF, List.cons_append, List.nil_append, List.append_nil, List.flatMap_cons, List.flatMap_nil, fi]
theorem t7 (x : Unacked) (s0 : AV) (h_s0 : aw s0) : ∀ c ∈ (bh x s0), aw c := by
 simp only [bh, bm, cN, dF, List.cons_append, List.nil_append]
 repeat' (first | exact aw.v _ | assumption | exact List.forall_mem_nil _ | refine List.forall_mem_cons.2 ⟨?_, ?_⟩)
theorem zb {st : AS} {F : List Nat} {σ : List (Option Nat)} (x : Unacked) (s0 : AV) (s02 : AV) (h_s0 : Tm st F σ s0 s02) : TmL st F σ (bh x s0) (bh x s02) := by
 simp only [bh, bm, cN, dF, List.cons_append, List.nil_append]
 repeat' (first | exact TmL.nil | (refine TmL.cons (Tm.v _) ?_) | (refine TmL.cons (by assumption) ?_))
theorem qc {st : AS} {F : List Nat} {σ : List (Option Nat)} {x y : Unacked} {s0 s02 : AV} (hxy : bh y s02 = bh x s02) (h_s0 : Tm st F σ s0 s02) : TmL st F σ (bh x s0) (bh y s02) := by
 rw [hxy]; exact zb x s0 s02 h_s0
theorem p9 (x : Unacked) {s0 : (Nat → Nat) → AV} (h_s0 : aF s0) : RenML fun q => bh x (s0 q) := by
 simp only [bh, bm, cN, dF, List.cons_append, List.nil_append]
 repeat' (first | exact RenML.nil | (refine RenML.cons (aF.const (aw.v _)) ?_) | (refine RenML.cons (by assumption) ?_))
def ag (x : Unacked) : List AV := bh x (ry x.Frame.Body)
theorem mW (x : Unacked) : ag x = bh x (ry x.Frame.Body) := rfl
theorem iC (x : Unacked) : ∀ c ∈ ag x, aw c := t7 x _ (qI _)
theorem xP (x : Unacked) (o : Nat → Ob) (n : Nat) : (ag x).map (fz o (n + 2)) = ag x := by simp only [mW, su, y5]
theorem xL (x : Unacked) (o : Nat → Ob) (n : Nat) : (ag x).flatMap (bc o (n + 2)) = [] := by simp only [mW, np, yq, List.append_nil]
attribute [go_sem] wG xt uN xg wb uY rT qH kT rW rC su np mW xP xL

def gK (l : List Unacked) : AV := .imm (List.flatMap ag l) l.length
theorem mU (l : List Unacked) : gK l = .imm (List.flatMap ag l) l.length := rfl
theorem cW (x : Unacked) : (ag x).length = 44 := by rfl
theorem nH (l : List Unacked) : aw (gK l) := aw.imm (jA iC l)
theorem ah (l : List Unacked) : ∀ c ∈ l.flatMap ag, aw c := jA iC l
theorem wU (l : List Unacked) : (l.flatMap ag).length = l.length * 44 := eU cW l
theorem wZ (l : List Unacked) (i o : Nat) (ho : o < 44) : (l.flatMap ag)[i * 44 + o]? = l[i]?.bind fun a => (ag a)[o]? := jf cW l i o ho
theorem vI (l : List Unacked) (i : Nat) : (l.flatMap ag)[i * 44]? = l[i]?.bind fun a => (ag a)[0]? := jf cW l i 0 (by decide)
theorem wJ (l : List Unacked) (i o n : Nat) (ho : o + n ≤ 44) (hn : 0 < n) : b8 (l.flatMap ag) (i * 44 + o) n = l[i]?.bind fun a => b8 (ag a) o n := i9 cW l i o n ho hn
theorem vk (l : List Unacked) (i n : Nat) (ho : n ≤ 44) (hn : 0 < n) : b8 (l.flatMap ag) (i * 44) n = l[i]?.bind fun a => b8 (ag a) 0 n := i9 cW l i 0 n (by omega) hn
theorem vU (l : List Unacked) (o : Nat) : (l.flatMap ag)[o]? = l[o / 44]?.bind fun a => (ag a)[o % 44]? := xD cW (by decide) l o
theorem ws (l : List Unacked) (o n : Nat) (ho : o % 44 + n ≤ 44) (hn : 0 < n) : b8 (l.flatMap ag) o n = l[o / 44]?.bind fun a => b8 (ag a) (o % 44) n := xE cW l o n ho hn
theorem vT (l : List Unacked) : b8 (l.flatMap ag) 0 (l.length * 44) = some (l.flatMap ag) := pS cW l
theorem wu (l : List Unacked) (n : Nat) : (l.flatMap ag).take (n * 44) = (l.take n).flatMap ag := iP cW l n
theorem vX (l : List Unacked) (n : Nat) : (l.flatMap ag).drop (n * 44) = (l.drop n).flatMap ag := jD cW l n
theorem se (l : List Unacked) (o : Nat → Ob) (n : Nat) : (l.flatMap ag).map (fz o (n + 2)) = (l.flatMap ag) := uz (fun a => xP a o n) l
theorem qn (l : List Unacked) (o : Nat → Ob) (n : Nat) : (l.flatMap ag).flatMap (bc o (n + 2)) = [] := m9 (fun a => xL a o n) l
theorem uX (l : List Unacked) (i : Nat) (v : Int) : (l.flatMap ag).set (i * 44) (vi v) = (l.modify i (fun y => { y with At := v })).flatMap ag := du cW l i 0 _ (fun y => { y with At := v }) (by decide) (fun _ => by rfl)
theorem si (l : List Unacked) (i : Nat) (v : Int) : (l.flatMap ag).set (i * 44 + 1) (vi v) = (l.modify i (fun y => { y with Tries := v })).flatMap ag := du cW l i 1 _ (fun y => { y with Tries := v }) (by decide) (fun _ => by rfl)
theorem qT (l : List Unacked) (i : Nat) (v : Bool) : (l.flatMap ag).set (i * 44 + 2) (vb v) = (l.modify i (fun y => { y with Flying := v })).flatMap ag := du cW l i 2 _ (fun y => { y with Flying := v }) (by decide) (fun _ => by rfl)
theorem kj (l : List Unacked) (i : Nat) (v : Bool) : (l.flatMap ag).set (i * 44 + 8) (vb v) = (l.modify i (fun y => { y with Frame.Head.Retry := v })).flatMap ag := du cW l i 8 _ (fun y => { y with Frame.Head.Retry := v }) (by decide) (fun _ => by rfl)
theorem lg (l : List Unacked) (i : Nat) (v : Int) : (l.flatMap ag).set (i * 44 + 37) (vi v) = (l.modify i (fun y => { y with Frame.Head.Seq := v })).flatMap ag := du cW l i 37 _ (fun y => { y with Frame.Head.Seq := v }) (by decide) (fun _ => by rfl)
theorem lk (l : List Unacked) (i : Nat) (v : Int) : (l.flatMap ag).set (i * 44 + 39) (vi v) = (l.modify i (fun y => { y with Frame.Head.Tid := v })).flatMap ag := du cW l i 39 _ (fun y => { y with Frame.Head.Tid := v }) (by decide) (fun _ => by rfl)
theorem wK (l : List Unacked) (i : Nat) (x : Unacked) (b0 : (List Int)) : cz (l.flatMap ag) (i * 44) (bh x (.imm (List.map vu b0) b0.length)) = (l.set i { x with Frame.Body := b0 }).flatMap ag := rK cW (by decide) l i { x with Frame.Body := b0 }
theorem wH (l : List Unacked) (x : Unacked) (b0 : (List Int)) : (l.flatMap ag) ++ bh x (ry b0) = (l ++ [{ x with Frame.Body := b0 }]).flatMap ag := by rw [List.flatMap_append]; simp only [List.flatMap_cons, List.flatMap_nil, List.append_nil]; rfl
theorem wS (l : List Unacked) (m : List Unacked) : (l.flatMap ag) ++ m.flatMap ag = (l ++ m).flatMap ag := List.flatMap_append.symm
theorem pu (l : List Unacked) (o : Nat → Ob) (n : Nat) : fz o (n + 3) (gK l) = gK l := by simp only [mU, fz, se]
theorem pi (l : List Unacked) (o : Nat → Ob) (n : Nat) : bc o (n + 3) (gK l) = [] := by simp only [mU, bc, qn]
attribute [go_sem] mU cW wU wZ vI wJ vk vT wu vX se qn uX si qT kj lg lk wK wH wS pu pi

structure Sender where
 Tid : Int
 Phase : Int
 Token : Int
 Next : Int
 Size : Int
 Limit : Int
 Life : Int
 Out : (List Unacked)
 Bar : Bool
 deriving DecidableEq

def Sender.z : Sender := ⟨0, 0, 0, 0, 0, 0, 0, [], false⟩

def av (x : Sender) (s0 : AV) : List AV := [vi x.Tid, vu x.Phase, vi x.Token, vi x.Next, vi x.Size, vi x.Limit, vi x.Life, s0, vb x.Bar]

theorem zr (x : Sender) (s0 : AV) : (av x s0).length = 9 := by rfl
theorem y8 (x : Sender) (s0 : AV) : b8 (av x s0) 0 9 = some (av x s0) := by rfl
theorem xb (x : Sender) (s0 : AV) : (av x s0).take 9 = (av x s0) := by rfl
theorem yr (x : Sender) (s0 : AV) (y : Sender) (s02 : AV) : cz (av x s0) 0 (av y s02) = av y s02 := by rfl
theorem wh (x : Sender) (s0 : AV) : (av x s0)[0]? = some (vi x.Tid) := by rfl
theorem v7 (x : Sender) (s0 : AV) (v : Int) : (av x s0).set 0 (vi v) = av { x with Tid := v } s0 := by rfl
theorem sC (x : Sender) (s0 : AV) : (av x s0)[1]? = some (vu x.Phase) := by rfl
theorem sO (x : Sender) (s0 : AV) (v : Int) : (av x s0).set 1 (vu v) = av { x with Phase := v } s0 := by rfl
theorem tq (x : Sender) (s0 : AV) : (av x s0)[2]? = some (vi x.Token) := by rfl
theorem sK (x : Sender) (s0 : AV) (v : Int) : (av x s0).set 2 (vi v) = av { x with Token := v } s0 := by rfl
theorem uh (x : Sender) (s0 : AV) : (av x s0)[3]? = some (vi x.Next) := by rfl
theorem tZ (x : Sender) (s0 : AV) (v : Int) : (av x s0).set 3 (vi v) = av { x with Next := v } s0 := by rfl
theorem tY (x : Sender) (s0 : AV) : (av x s0)[4]? = some (vi x.Size) := by rfl
theorem t0 (x : Sender) (s0 : AV) (v : Int) : (av x s0).set 4 (vi v) = av { x with Size := v } s0 := by rfl
theorem sL (x : Sender) (s0 : AV) : (av x s0)[5]? = some (vi x.Limit) := by rfl
theorem tt (x : Sender) (s0 : AV) (v : Int) : (av x s0).set 5 (vi v) = av { x with Limit := v } s0 := by rfl
theorem ub (x : Sender) (s0 : AV) : (av x s0)[6]? = some (vi x.Life) := by rfl
theorem tV (x : Sender) (s0 : AV) (v : Int) : (av x s0).set 6 (vi v) = av { x with Life := v } s0 := by rfl
theorem wc (x : Sender) (s0 : AV) : (av x s0)[7]? = some s0 := by rfl
theorem we (x : Sender) (s0 : AV) (v : AV) : (av x s0).set 7 v = av x v := by rfl
theorem vv (x : Sender) (s0 : AV) : (av x s0)[8]? = some (vb x.Bar) := by rfl
theorem uZ (x : Sender) (s0 : AV) (v : Bool) : (av x s0).set 8 (vb v) = av { x with Bar := v } s0 := by rfl
theorem tL (x : Sender) (s0 : AV) (o : Nat → Ob) (n : Nat) : (av x s0).map (fz o (n + 1)) = av x (fz o (n + 1) s0) := by rfl
theorem pE (x : Sender) (s0 : AV) (o : Nat → Ob) (n : Nat) : (av x s0).flatMap (bc o (n + 1)) = bc o (n + 1) s0 := by
 simp only [av, List.cons_append, List.nil_append, List.append_nil, List.flatMap_cons, List.flatMap_nil, fi]
theorem u7 (x : Sender) (s0 : AV) (h_s0 : aw s0) : ∀ c ∈ (av x s0), aw c := by
 simp only [av, List.cons_append, List.nil_append]
 repeat' (first | exact aw.v _ | assumption | exact List.forall_mem_nil _ | refine List.forall_mem_cons.2 ⟨?_, ?_⟩)
theorem zE {st : AS} {F : List Nat} {σ : List (Option Nat)} (x : Sender) (s0 : AV) (s02 : AV) (h_s0 : Tm st F σ s0 s02) : TmL st F σ (av x s0) (av x s02) := by
 simp only [av, List.cons_append, List.nil_append]
 repeat' (first | exact TmL.nil | (refine TmL.cons (Tm.v _) ?_) | (refine TmL.cons (by assumption) ?_))
theorem ak {st : AS} {F : List Nat} {σ : List (Option Nat)} {x y : Sender} {s0 s02 : AV} (hxy : av y s02 = av x s02) (h_s0 : Tm st F σ s0 s02) : TmL st F σ (av x s0) (av y s02) := by
 rw [hxy]; exact zE x s0 s02 h_s0
theorem bC (x : Sender) {s0 : (Nat → Nat) → AV} (h_s0 : aF s0) : RenML fun q => av x (s0 q) := by
 simp only [av, List.cons_append, List.nil_append]
 repeat' (first | exact RenML.nil | (refine RenML.cons (aF.const (aw.v _)) ?_) | (refine RenML.cons (by assumption) ?_))
def bt (x : Sender) : List AV := av x (gK x.Out)
theorem oX (x : Sender) : bt x = av x (gK x.Out) := rfl
theorem aS (x : Sender) : ∀ c ∈ bt x, aw c := u7 x _ (nH _)
theorem Dn (x : Sender) (o : Nat → Ob) (n : Nat) : (bt x).map (fz o (n + 3)) = bt x := by simp only [oX, tL, pu]
theorem CY (x : Sender) (o : Nat → Ob) (n : Nat) : (bt x).flatMap (bc o (n + 3)) = [] := by simp only [oX, pE, pi, List.append_nil]
attribute [go_sem] zr y8 xb yr wh v7 sC sO tq sK uh tZ tY t0 sL tt ub tV wc we vv uZ tL pE oX Dn CY

structure HeldSeq where
 At : Int
 Frame : Frame
 deriving DecidableEq

def HeldSeq.z : HeldSeq := ⟨0, Frame.z⟩

def bS (x : HeldSeq) (s0 : AV) : List AV := [vi x.At] ++ (bm x.Frame s0)

theorem lT (x : HeldSeq) (s0 : AV) : (bS x s0).length = 42 := by rfl
theorem xc (x : HeldSeq) (s0 : AV) : b8 (bS x s0) 0 42 = some (bS x s0) := by rfl
theorem uD (x : HeldSeq) (s0 : AV) : (bS x s0).take 42 = (bS x s0) := by rfl
theorem xl (x : HeldSeq) (s0 : AV) (y : HeldSeq) (s02 : AV) : cz (bS x s0) 0 (bS y s02) = bS y s02 := by rfl
theorem vd (x : HeldSeq) (s0 : AV) : (bS x s0)[0]? = some (vi x.At) := by rfl
theorem uJ (x : HeldSeq) (s0 : AV) (v : Int) : (bS x s0).set 0 (vi v) = bS { x with At := v } s0 := by rfl
theorem lh (x : HeldSeq) (s0 : AV) : (bS x s0)[35]? = some (vi x.Frame.Head.Seq) := by rfl
theorem rA (x : HeldSeq) (s0 : AV) : b8 (bS x s0) 1 41 = some (bm x.Frame s0) := by rfl
theorem sb (x : HeldSeq) (s0 : AV) (v : Frame) (w0 : AV) : cz (bS x s0) 1 (bm v w0) = bS { x with Frame := v } w0 := by rfl
theorem r8 (x : HeldSeq) (s0 : AV) (o : Nat → Ob) (n : Nat) : (bS x s0).map (fz o (n + 1)) = bS x (fz o (n + 1) s0) := by rfl
theorem nE (x : HeldSeq) (s0 : AV) (o : Nat → Ob) (n : Nat) : (bS x s0).flatMap (bc o (n + 1)) = bc o (n + 1) s0 := by
 simp only [bS, bm, cN, dF, List.cons_append, List.nil_append, List.append_nil, List.flatMap_cons, List.flatMap_nil, fi]
theorem up (x : HeldSeq) (s0 : AV) (h_s0 : aw s0) : ∀ c ∈ (bS x s0), aw c := by
 simp only [bS, bm, cN, dF, List.cons_append, List.nil_append]
 repeat' (first | exact aw.v _ | assumption | exact List.forall_mem_nil _ | refine List.forall_mem_cons.2 ⟨?_, ?_⟩)
def ai (x : HeldSeq) : List AV := bS x (ry x.Frame.Body)
theorem mP (x : HeldSeq) : ai x = bS x (ry x.Frame.Body) := rfl
theorem kl (x : HeldSeq) : ∀ c ∈ ai x, aw c := up x _ (qI _)
theorem yb (x : HeldSeq) (o : Nat → Ob) (n : Nat) : (ai x).map (fz o (n + 2)) = ai x := by simp only [mP, r8, y5]
theorem ya (x : HeldSeq) (o : Nat → Ob) (n : Nat) : (ai x).flatMap (bc o (n + 2)) = [] := by simp only [mP, nE, yq, List.append_nil]
attribute [go_sem] lT xc uD xl vd uJ lh rA sb r8 nE mP yb ya

def eI (l : List HeldSeq) : AV := .imm (List.flatMap ai l) l.length
theorem ng (l : List HeldSeq) : eI l = .imm (List.flatMap ai l) l.length := rfl
theorem cU (x : HeldSeq) : (ai x).length = 42 := by rfl
theorem fT (l : List HeldSeq) : aw (eI l) := aw.imm (jA kl l)
theorem au (l : List HeldSeq) : ∀ c ∈ l.flatMap ai, aw c := jA kl l
theorem fX (l : List HeldSeq) : (l.flatMap ai).length = l.length * 42 := eU cU l
theorem wI (l : List HeldSeq) (i o : Nat) (ho : o < 42) : (l.flatMap ai)[i * 42 + o]? = l[i]?.bind fun a => (ai a)[o]? := jf cU l i o ho
theorem uS (l : List HeldSeq) (i : Nat) : (l.flatMap ai)[i * 42]? = l[i]?.bind fun a => (ai a)[0]? := jf cU l i 0 (by decide)
theorem wN (l : List HeldSeq) (i o n : Nat) (ho : o + n ≤ 42) (hn : 0 < n) : b8 (l.flatMap ai) (i * 42 + o) n = l[i]?.bind fun a => b8 (ai a) o n := i9 cU l i o n ho hn
theorem uC (l : List HeldSeq) (i n : Nat) (ho : n ≤ 42) (hn : 0 < n) : b8 (l.flatMap ai) (i * 42) n = l[i]?.bind fun a => b8 (ai a) 0 n := i9 cU l i 0 n (by omega) hn
theorem oH (l : List HeldSeq) (o : Nat) : (l.flatMap ai)[o]? = l[o / 42]?.bind fun a => (ai a)[o % 42]? := xD cU (by decide) l o
theorem pk (l : List HeldSeq) (o n : Nat) (ho : o % 42 + n ≤ 42) (hn : 0 < n) : b8 (l.flatMap ai) o n = l[o / 42]?.bind fun a => b8 (ai a) (o % 42) n := xE cU l o n ho hn
theorem vA (l : List HeldSeq) : b8 (l.flatMap ai) 0 (l.length * 42) = some (l.flatMap ai) := pS cU l
theorem vC (l : List HeldSeq) (n : Nat) : (l.flatMap ai).take (n * 42) = (l.take n).flatMap ai := iP cU l n
theorem vY (l : List HeldSeq) (n : Nat) : (l.flatMap ai).drop (n * 42) = (l.drop n).flatMap ai := jD cU l n
theorem rO (l : List HeldSeq) (o : Nat → Ob) (n : Nat) : (l.flatMap ai).map (fz o (n + 2)) = (l.flatMap ai) := uz (fun a => yb a o n) l
theorem qq (l : List HeldSeq) (o : Nat → Ob) (n : Nat) : (l.flatMap ai).flatMap (bc o (n + 2)) = [] := m9 (fun a => ya a o n) l
theorem vF (l : List HeldSeq) (i : Nat) (v : Int) : (l.flatMap ai).set (i * 42) (vi v) = (l.modify i (fun y => { y with At := v })).flatMap ai := du cU l i 0 _ (fun y => { y with At := v }) (by decide) (fun _ => by rfl)
theorem km (l : List HeldSeq) (i : Nat) (v : Bool) : (l.flatMap ai).set (i * 42 + 6) (vb v) = (l.modify i (fun y => { y with Frame.Head.Retry := v })).flatMap ai := du cU l i 6 _ (fun y => { y with Frame.Head.Retry := v }) (by decide) (fun _ => by rfl)
theorem lm (l : List HeldSeq) (i : Nat) (v : Int) : (l.flatMap ai).set (i * 42 + 35) (vi v) = (l.modify i (fun y => { y with Frame.Head.Seq := v })).flatMap ai := du cU l i 35 _ (fun y => { y with Frame.Head.Seq := v }) (by decide) (fun _ => by rfl)
theorem kP (l : List HeldSeq) (i : Nat) (v : Int) : (l.flatMap ai).set (i * 42 + 37) (vi v) = (l.modify i (fun y => { y with Frame.Head.Tid := v })).flatMap ai := du cU l i 37 _ (fun y => { y with Frame.Head.Tid := v }) (by decide) (fun _ => by rfl)
theorem xh (l : List HeldSeq) (i : Nat) (x : HeldSeq) (b0 : (List Int)) : cz (l.flatMap ai) (i * 42) (bS x (.imm (List.map vu b0) b0.length)) = (l.set i { x with Frame.Body := b0 }).flatMap ai := rK cU (by decide) l i { x with Frame.Body := b0 }
theorem w7 (l : List HeldSeq) (x : HeldSeq) (b0 : (List Int)) : (l.flatMap ai) ++ bS x (ry b0) = (l ++ [{ x with Frame.Body := b0 }]).flatMap ai := by rw [List.flatMap_append]; simp only [List.flatMap_cons, List.flatMap_nil, List.append_nil]; rfl
theorem wE (l : List HeldSeq) (m : List HeldSeq) : (l.flatMap ai) ++ m.flatMap ai = (l ++ m).flatMap ai := List.flatMap_append.symm
theorem pK (l : List HeldSeq) (o : Nat → Ob) (n : Nat) : fz o (n + 3) (eI l) = eI l := by simp only [ng, fz, rO]
theorem oL (l : List HeldSeq) (o : Nat → Ob) (n : Nat) : bc o (n + 3) (eI l) = [] := by simp only [ng, bc, qq]
attribute [go_sem] ng cU fX wI uS wN uC vA vC vY rO qq vF km lm kP xh w7 wE pK oL

structure Window where
 Start : Int
 Bits : Int
 deriving DecidableEq

def Window.z : Window := ⟨0, 0⟩

def aU (x : Window) : List AV := [vi x.Start, vq x.Bits]

theorem yV (x : Window) : (aU x).length = 2 := by rfl
theorem yF (x : Window) : b8 (aU x) 0 2 = some (aU x) := by rfl
theorem wB (x : Window) : (aU x).take 2 = (aU x) := by rfl
theorem yg (x : Window) (y : Window) : cz (aU x) 0 (aU y) = aU y := by rfl
theorem s8 (x : Window) : (aU x)[0]? = some (vi x.Start) := by rfl
theorem sA (x : Window) (v : Int) : (aU x).set 0 (vi v) = aU { x with Start := v } := by rfl
theorem ug (x : Window) : (aU x)[1]? = some (vq x.Bits) := by rfl
theorem t4 (x : Window) (v : Int) : (aU x).set 1 (vq v) = aU { x with Bits := v } := by rfl
theorem tD (x : Window) (o : Nat → Ob) (n : Nat) : (aU x).map (fz o (n + 1)) = aU x := by rfl
theorem o5 (x : Window) (o : Nat → Ob) (n : Nat) : (aU x).flatMap (bc o (n + 1)) = [] := by
 simp only [aU, List.cons_append, List.nil_append, List.append_nil, List.flatMap_cons, List.flatMap_nil, fi]
theorem aI (x : Window) : ∀ c ∈ (aU x), aw c := by
 simp only [aU, List.cons_append, List.nil_append]
 repeat' (first | exact aw.v _ | assumption | exact List.forall_mem_nil _ | refine List.forall_mem_cons.2 ⟨?_, ?_⟩)
theorem CQ (x : Window) (o : Nat → Ob) (n : Nat) : (aU x).map (fz o (n + 1)) = aU x := by simp only [tD]
theorem Dx (x : Window) (o : Nat → Ob) (n : Nat) : (aU x).flatMap (bc o (n + 1)) = [] := by simp only [o5, List.append_nil]
attribute [go_sem] yV yF wB yg s8 sA ug t4 tD o5 CQ Dx

structure Reorder where
 Start : Int
 Size : Int
 Hold : Int
 Held : (List HeldSeq)
 Seen : Window
 deriving DecidableEq

def Reorder.z : Reorder := ⟨0, 0, 0, [], Window.z⟩

def aB (x : Reorder) (s0 : AV) : List AV := [vi x.Start, vi x.Size, vi x.Hold, s0] ++ (aU x.Seen)

theorem wQ (x : Reorder) (s0 : AV) : (aB x s0).length = 6 := by rfl
theorem wD (x : Reorder) (s0 : AV) : b8 (aB x s0) 0 6 = some (aB x s0) := by rfl
theorem vP (x : Reorder) (s0 : AV) : (aB x s0).take 6 = (aB x s0) := by rfl
theorem wY (x : Reorder) (s0 : AV) (y : Reorder) (s02 : AV) : cz (aB x s0) 0 (aB y s02) = aB y s02 := by rfl
theorem rG (x : Reorder) (s0 : AV) : (aB x s0)[0]? = some (vi x.Start) := by rfl
theorem sf (x : Reorder) (s0 : AV) (v : Int) : (aB x s0).set 0 (vi v) = aB { x with Start := v } s0 := by rfl
theorem sy (x : Reorder) (s0 : AV) : (aB x s0)[1]? = some (vi x.Size) := by rfl
theorem sZ (x : Reorder) (s0 : AV) (v : Int) : (aB x s0).set 1 (vi v) = aB { x with Size := v } s0 := by rfl
theorem sY (x : Reorder) (s0 : AV) : (aB x s0)[2]? = some (vi x.Hold) := by rfl
theorem th (x : Reorder) (s0 : AV) (v : Int) : (aB x s0).set 2 (vi v) = aB { x with Hold := v } s0 := by rfl
theorem sJ (x : Reorder) (s0 : AV) : (aB x s0)[3]? = some s0 := by rfl
theorem sG (x : Reorder) (s0 : AV) (v : AV) : (aB x s0).set 3 v = aB x v := by rfl
theorem sV (x : Reorder) (s0 : AV) : b8 (aB x s0) 4 2 = some (aU x.Seen) := by rfl
theorem tf (x : Reorder) (s0 : AV) (v : Window) : cz (aB x s0) 4 (aU v) = aB { x with Seen := v } s0 := by rfl
theorem sm (x : Reorder) (s0 : AV) (o : Nat → Ob) (n : Nat) : (aB x s0).map (fz o (n + 1)) = aB x (fz o (n + 1) s0) := by rfl
theorem nu (x : Reorder) (s0 : AV) (o : Nat → Ob) (n : Nat) : (aB x s0).flatMap (bc o (n + 1)) = bc o (n + 1) s0 := by
 simp only [aB, aU, List.cons_append, List.nil_append, List.append_nil, List.flatMap_cons, List.flatMap_nil, fi]
theorem uc (x : Reorder) (s0 : AV) (h_s0 : aw s0) : ∀ c ∈ (aB x s0), aw c := by
 simp only [aB, aU, List.cons_append, List.nil_append]
 repeat' (first | exact aw.v _ | assumption | exact List.forall_mem_nil _ | refine List.forall_mem_cons.2 ⟨?_, ?_⟩)
theorem zq {st : AS} {F : List Nat} {σ : List (Option Nat)} (x : Reorder) (s0 : AV) (s02 : AV) (h_s0 : Tm st F σ s0 s02) : TmL st F σ (aB x s0) (aB x s02) := by
 simp only [aB, aU, List.cons_append, List.nil_append]
 repeat' (first | exact TmL.nil | (refine TmL.cons (Tm.v _) ?_) | (refine TmL.cons (by assumption) ?_))
theorem aJ {st : AS} {F : List Nat} {σ : List (Option Nat)} {x y : Reorder} {s0 s02 : AV} (hxy : aB y s02 = aB x s02) (h_s0 : Tm st F σ s0 s02) : TmL st F σ (aB x s0) (aB y s02) := by
 rw [hxy]; exact zq x s0 s02 h_s0
theorem iw (x : Reorder) {s0 : (Nat → Nat) → AV} (h_s0 : aF s0) : RenML fun q => aB x (s0 q) := by
 simp only [aB, aU, List.cons_append, List.nil_append]
 repeat' (first | exact RenML.nil | (refine RenML.cons (aF.const (aw.v _)) ?_) | (refine RenML.cons (by assumption) ?_))
theorem qa {q nx off : Nat} (x : Reorder) {s0 : AV} {s02 : AV} (h_s0 : Fr q nx off s0 s02) : FrL q nx off (aB x s0) (aB x s02) := by
 simp only [aB, aU, List.cons_append, List.nil_append]
 repeat' (first | exact FrL.nil | (refine FrL.cons _ _ _ _ (by assumption) ?_) | (refine FrL.cons _ _ _ _ (Fr.same _) ?_))
def cV (x : Reorder) : List AV := aB x (eI x.Held)
theorem mZ (x : Reorder) : cV x = aB x (eI x.Held) := rfl
theorem bw (x : Reorder) : ∀ c ∈ cV x, aw c := uc x _ (fT _)
theorem B9 (x : Reorder) (o : Nat → Ob) (n : Nat) : (cV x).map (fz o (n + 3)) = cV x := by simp only [mZ, sm, pK]
theorem Cv (x : Reorder) (o : Nat → Ob) (n : Nat) : (cV x).flatMap (bc o (n + 3)) = [] := by simp only [mZ, nu, oL, List.append_nil]
attribute [go_sem] wQ wD vP wY rG sf sy sZ sY th sJ sG sV tf sm nu mZ B9 Cv

structure Session_sides where
 Sender : Sender
 Reorder : Reorder
 deriving DecidableEq

def Session_sides.z : Session_sides := ⟨Sender.z, Reorder.z⟩

def bx (x : Session_sides) (s0 : AV) (s1 : AV) : List AV := (av x.Sender s0) ++ (aB x.Reorder s1)

theorem pZ (x : Session_sides) (s0 : AV) (s1 : AV) : (bx x s0 s1).length = 15 := by rfl
theorem p6 (x : Session_sides) (s0 : AV) (s1 : AV) : b8 (bx x s0 s1) 0 15 = some (bx x s0 s1) := by rfl
theorem oM (x : Session_sides) (s0 : AV) (s1 : AV) : (bx x s0 s1).take 15 = (bx x s0 s1) := by rfl
theorem pV (x : Session_sides) (s0 : AV) (s1 : AV) (y : Session_sides) (s02 : AV) (s12 : AV) : cz (bx x s0 s1) 0 (bx y s02 s12) = bx y s02 s12 := by rfl
theorem kY (x : Session_sides) (s0 : AV) (s1 : AV) (o : Nat → Ob) (n : Nat) : (bx x s0 s1).map (fz o (n + 1)) = bx x (fz o (n + 1) s0) (fz o (n + 1) s1) := by rfl
theorem jp (x : Session_sides) (s0 : AV) (s1 : AV) (o : Nat → Ob) (n : Nat) : (bx x s0 s1).flatMap (bc o (n + 1)) = bc o (n + 1) s0 ++ bc o (n + 1) s1 := by
 simp only [bx, av, aB, aU, List.cons_append, List.nil_append, List.append_nil, List.flatMap_cons, List.flatMap_nil, fi]
def iB (x : Session_sides) : List AV := bx x (gK x.Sender.Out) (eI x.Reorder.Held)
theorem iH (x : Session_sides) : iB x = bx x (gK x.Sender.Out) (eI x.Reorder.Held) := rfl
theorem uf (x : Session_sides) (o : Nat → Ob) (n : Nat) : (iB x).map (fz o (n + 3)) = iB x := by simp only [iH, kY, pu, pK]
theorem uq (x : Session_sides) (o : Nat → Ob) (n : Nat) : (iB x).flatMap (bc o (n + 3)) = [] := by simp only [iH, jp, pi, oL, List.append_nil]
attribute [go_sem] pZ p6 oM pV kY jp iH uf uq

structure Session_session where
 sides : Session_sides
 plan : SessionPlan
 many : Int
 accepted : Int
 lost : Unit
 out : SessionResult
 err : Int
 deriving DecidableEq

def Session_session.z : Session_session := ⟨Session_sides.z, SessionPlan.z, 0, 0, (), SessionResult.z, 0⟩

def ae (x : Session_session) (s0 : AV) (s1 : AV) (s2 : AV) (s3 : AV) (s4 : AV) (s5 : AV) : List AV := (bx x.sides s0 s1) ++ (am x.plan) ++ [vi x.many, vi x.accepted, s2] ++ (az x.out s3 s4 s5) ++ [vi x.err]

theorem n6 (x : Session_session) (s0 : AV) (s1 : AV) (s2 : AV) (s3 : AV) (s4 : AV) (s5 : AV) : (ae x s0 s1 s2 s3 s4 s5).length = 30 := by rfl
theorem nQ (x : Session_session) (s0 : AV) (s1 : AV) (s2 : AV) (s3 : AV) (s4 : AV) (s5 : AV) : b8 (ae x s0 s1 s2 s3 s4 s5) 0 30 = some (ae x s0 s1 s2 s3 s4 s5) := by rfl
theorem mK (x : Session_session) (s0 : AV) (s1 : AV) (s2 : AV) (s3 : AV) (s4 : AV) (s5 : AV) : (ae x s0 s1 s2 s3 s4 s5).take 30 = (ae x s0 s1 s2 s3 s4 s5) := by rfl
theorem nV (x : Session_session) (s0 : AV) (s1 : AV) (s2 : AV) (s3 : AV) (s4 : AV) (s5 : AV) (y : Session_session) (s02 : AV) (s12 : AV) (s22 : AV) (s32 : AV) (s42 : AV) (s52 : AV) : cz (ae x s0 s1 s2 s3 s4 s5) 0 (ae y s02 s12 s22 s32 s42 s52) = ae y s02 s12 s22 s32 s42 s52 := by rfl
theorem gG (x : Session_session) (s0 : AV) (s1 : AV) (s2 : AV) (s3 : AV) (s4 : AV) (s5 : AV) : (ae x s0 s1 s2 s3 s4 s5)[3]? = some (vi x.sides.Sender.Next) := by rfl
theorem gZ (x : Session_session) (s0 : AV) (s1 : AV) (s2 : AV) (s3 : AV) (s4 : AV) (s5 : AV) : (ae x s0 s1 s2 s3 s4 s5)[7]? = some s0 := by rfl
theorem gY (x : Session_session) (s0 : AV) (s1 : AV) (s2 : AV) (s3 : AV) (s4 : AV) (s5 : AV) : (ae x s0 s1 s2 s3 s4 s5)[8]? = some (vb x.sides.Sender.Bar) := by rfl
theorem jL (x : Session_session) (s0 : AV) (s1 : AV) (s2 : AV) (s3 : AV) (s4 : AV) (s5 : AV) : (ae x s0 s1 s2 s3 s4 s5)[15]? = some (vi x.plan.Start) := by rfl
theorem jG (x : Session_session) (s0 : AV) (s1 : AV) (s2 : AV) (s3 : AV) (s4 : AV) (s5 : AV) : (ae x s0 s1 s2 s3 s4 s5)[20]? = some (vi x.plan.Burst) := by rfl
theorem jH (x : Session_session) (s0 : AV) (s1 : AV) (s2 : AV) (s3 : AV) (s4 : AV) (s5 : AV) : (ae x s0 s1 s2 s3 s4 s5)[21]? = some (vi x.plan.Round) := by rfl
theorem l4 (x : Session_session) (s0 : AV) (s1 : AV) (s2 : AV) (s3 : AV) (s4 : AV) (s5 : AV) : (ae x s0 s1 s2 s3 s4 s5)[22]? = some (vi x.many) := by rfl
theorem lY (x : Session_session) (s0 : AV) (s1 : AV) (s2 : AV) (s3 : AV) (s4 : AV) (s5 : AV) (v : Int) : (ae x s0 s1 s2 s3 s4 s5).set 22 (vi v) = ae { x with many := v } s0 s1 s2 s3 s4 s5 := by rfl
theorem ko (x : Session_session) (s0 : AV) (s1 : AV) (s2 : AV) (s3 : AV) (s4 : AV) (s5 : AV) : (ae x s0 s1 s2 s3 s4 s5)[23]? = some (vi x.accepted) := by rfl
theorem ki (x : Session_session) (s0 : AV) (s1 : AV) (s2 : AV) (s3 : AV) (s4 : AV) (s5 : AV) (v : Int) : (ae x s0 s1 s2 s3 s4 s5).set 23 (vi v) = ae { x with accepted := v } s0 s1 s2 s3 s4 s5 := by rfl
theorem lW (x : Session_session) (s0 : AV) (s1 : AV) (s2 : AV) (s3 : AV) (s4 : AV) (s5 : AV) : (ae x s0 s1 s2 s3 s4 s5)[24]? = some s2 := by rfl
theorem lQ (x : Session_session) (s0 : AV) (s1 : AV) (s2 : AV) (s3 : AV) (s4 : AV) (s5 : AV) (v : AV) : (ae x s0 s1 s2 s3 s4 s5).set 24 v = ae x s0 s1 v s3 s4 s5 := by rfl
theorem iZ (x : Session_session) (s0 : AV) (s1 : AV) (s2 : AV) (s3 : AV) (s4 : AV) (s5 : AV) : (ae x s0 s1 s2 s3 s4 s5)[25]? = some s3 := by rfl
theorem iW (x : Session_session) (s0 : AV) (s1 : AV) (s2 : AV) (s3 : AV) (s4 : AV) (s5 : AV) (v : AV) : (ae x s0 s1 s2 s3 s4 s5).set 25 v = ae x s0 s1 s2 v s4 s5 := by rfl
theorem jX (x : Session_session) (s0 : AV) (s1 : AV) (s2 : AV) (s3 : AV) (s4 : AV) (s5 : AV) : (ae x s0 s1 s2 s3 s4 s5)[26]? = some s4 := by rfl
theorem jT (x : Session_session) (s0 : AV) (s1 : AV) (s2 : AV) (s3 : AV) (s4 : AV) (s5 : AV) (v : AV) : (ae x s0 s1 s2 s3 s4 s5).set 26 v = ae x s0 s1 s2 s3 v s5 := by rfl
theorem jm (x : Session_session) (s0 : AV) (s1 : AV) (s2 : AV) (s3 : AV) (s4 : AV) (s5 : AV) : (ae x s0 s1 s2 s3 s4 s5)[27]? = some s5 := by rfl
theorem jl (x : Session_session) (s0 : AV) (s1 : AV) (s2 : AV) (s3 : AV) (s4 : AV) (s5 : AV) (v : AV) : (ae x s0 s1 s2 s3 s4 s5).set 27 v = ae x s0 s1 s2 s3 s4 v := by rfl
theorem jK (x : Session_session) (s0 : AV) (s1 : AV) (s2 : AV) (s3 : AV) (s4 : AV) (s5 : AV) : (ae x s0 s1 s2 s3 s4 s5)[28]? = some (vi x.out.Rounds) := by rfl
theorem jt (x : Session_session) (s0 : AV) (s1 : AV) (s2 : AV) (s3 : AV) (s4 : AV) (s5 : AV) (v : Int) : (ae x s0 s1 s2 s3 s4 s5).set 28 (vi v) = ae { x with out.Rounds := v } s0 s1 s2 s3 s4 s5 := by rfl
theorem mt (x : Session_session) (s0 : AV) (s1 : AV) (s2 : AV) (s3 : AV) (s4 : AV) (s5 : AV) : (ae x s0 s1 s2 s3 s4 s5)[29]? = some (vi x.err) := by rfl
theorem mD (x : Session_session) (s0 : AV) (s1 : AV) (s2 : AV) (s3 : AV) (s4 : AV) (s5 : AV) (v : Int) : (ae x s0 s1 s2 s3 s4 s5).set 29 (vi v) = ae { x with err := v } s0 s1 s2 s3 s4 s5 := by rfl
theorem je (x : Session_session) (s0 : AV) (s1 : AV) (s2 : AV) (s3 : AV) (s4 : AV) (s5 : AV) : b8 (ae x s0 s1 s2 s3 s4 s5) 0 9 = some (av x.sides.Sender s0) := by rfl
theorem ji (x : Session_session) (s0 : AV) (s1 : AV) (s2 : AV) (s3 : AV) (s4 : AV) (s5 : AV) (v : Sender) (w0 : AV) : cz (ae x s0 s1 s2 s3 s4 s5) 0 (av v w0) = ae { x with sides.Sender := v } w0 s1 s2 s3 s4 s5 := by rfl
theorem i4 (x : Session_session) (s0 : AV) (s1 : AV) (s2 : AV) (s3 : AV) (s4 : AV) (s5 : AV) : b8 (ae x s0 s1 s2 s3 s4 s5) 9 6 = some (aB x.sides.Reorder s1) := by rfl
theorem iX (x : Session_session) (s0 : AV) (s1 : AV) (s2 : AV) (s3 : AV) (s4 : AV) (s5 : AV) (v : Reorder) (w0 : AV) : cz (ae x s0 s1 s2 s3 s4 s5) 9 (aB v w0) = ae { x with sides.Reorder := v } s0 w0 s2 s3 s4 s5 := by rfl
theorem lV (x : Session_session) (s0 : AV) (s1 : AV) (s2 : AV) (s3 : AV) (s4 : AV) (s5 : AV) : b8 (ae x s0 s1 s2 s3 s4 s5) 15 7 = some (am x.plan) := by rfl
theorem lU (x : Session_session) (s0 : AV) (s1 : AV) (s2 : AV) (s3 : AV) (s4 : AV) (s5 : AV) (v : SessionPlan) : cz (ae x s0 s1 s2 s3 s4 s5) 15 (am v) = ae { x with plan := v } s0 s1 s2 s3 s4 s5 := by rfl
theorem mE (x : Session_session) (s0 : AV) (s1 : AV) (s2 : AV) (s3 : AV) (s4 : AV) (s5 : AV) : b8 (ae x s0 s1 s2 s3 s4 s5) 25 4 = some (az x.out s3 s4 s5) := by rfl
theorem o0 (x : Session_session) (s0 : AV) (s1 : AV) (s2 : AV) (s3 : AV) (s4 : AV) (s5 : AV) (o : Nat → Ob) (n : Nat) : (ae x s0 s1 s2 s3 s4 s5).map (fz o (n + 1)) = ae x (fz o (n + 1) s0) (fz o (n + 1) s1) (fz o (n + 1) s2) (fz o (n + 1) s3) (fz o (n + 1) s4) (fz o (n + 1) s5) := by rfl
theorem mo (x : Session_session) (s0 : AV) (s1 : AV) (s2 : AV) (s3 : AV) (s4 : AV) (s5 : AV) (o : Nat → Ob) (n : Nat) : (ae x s0 s1 s2 s3 s4 s5).flatMap (bc o (n + 1)) = bc o (n + 1) s0 ++ (bc o (n + 1) s1 ++ (bc o (n + 1) s2 ++ (bc o (n + 1) s3 ++ (bc o (n + 1) s4 ++ bc o (n + 1) s5)))) := by
 simp only [ae, bx, av, aB, aU, am, az, List.cons_append, List.nil_append, List.append_nil, List.flatMap_cons, List.flatMap_nil, fi]
theorem fk (x : Session_session) (s0 : AV) (s1 : AV) (s2 : AV) (s3 : AV) (s4 : AV) (s5 : AV) (h_s0 : aw s0) (h_s1 : aw s1) (h_s2 : aw s2) (h_s3 : aw s3) (h_s4 : aw s4) (h_s5 : aw s5) : ∀ c ∈ (ae x s0 s1 s2 s3 s4 s5), aw c := by
 simp only [ae, bx, av, aB, aU, am, az, List.cons_append, List.nil_append]
 repeat' (first | exact aw.v _ | assumption | exact List.forall_mem_nil _ | refine List.forall_mem_cons.2 ⟨?_, ?_⟩)
theorem oE {st : AS} {F : List Nat} {σ : List (Option Nat)} (x : Session_session) (s0 : AV) (s1 : AV) (s2 : AV) (s3 : AV) (s4 : AV) (s5 : AV) (s02 : AV) (s12 : AV) (s22 : AV) (s32 : AV) (s42 : AV) (s52 : AV) (h_s0 : Tm st F σ s0 s02) (h_s1 : Tm st F σ s1 s12) (h_s2 : Tm st F σ s2 s22) (h_s3 : Tm st F σ s3 s32) (h_s4 : Tm st F σ s4 s42) (h_s5 : Tm st F σ s5 s52) : TmL st F σ (ae x s0 s1 s2 s3 s4 s5) (ae x s02 s12 s22 s32 s42 s52) := by
 simp only [ae, bx, av, aB, aU, am, az, List.cons_append, List.nil_append]
 repeat' (first | exact TmL.nil | (refine TmL.cons (Tm.v _) ?_) | (refine TmL.cons (by assumption) ?_))
theorem ap {st : AS} {F : List Nat} {σ : List (Option Nat)} {x y : Session_session} {s0 s1 s2 s3 s4 s5 s02 s12 s22 s32 s42 s52 : AV} (hxy : ae y s02 s12 s22 s32 s42 s52 = ae x s02 s12 s22 s32 s42 s52) (h_s0 : Tm st F σ s0 s02) (h_s1 : Tm st F σ s1 s12) (h_s2 : Tm st F σ s2 s22) (h_s3 : Tm st F σ s3 s32) (h_s4 : Tm st F σ s4 s42) (h_s5 : Tm st F σ s5 s52) : TmL st F σ (ae x s0 s1 s2 s3 s4 s5) (ae y s02 s12 s22 s32 s42 s52) := by
 rw [hxy]; exact oE x s0 s1 s2 s3 s4 s5 s02 s12 s22 s32 s42 s52 h_s0 h_s1 h_s2 h_s3 h_s4 h_s5
theorem bb (x : Session_session) {s0 s1 s2 s3 s4 s5 : (Nat → Nat) → AV} (h_s0 : aF s0) (h_s1 : aF s1) (h_s2 : aF s2) (h_s3 : aF s3) (h_s4 : aF s4) (h_s5 : aF s5) : RenML fun q => ae x (s0 q) (s1 q) (s2 q) (s3 q) (s4 q) (s5 q) := by
 simp only [ae, bx, av, aB, aU, am, az, List.cons_append, List.nil_append]
 repeat' (first | exact RenML.nil | (refine RenML.cons (aF.const (aw.v _)) ?_) | (refine RenML.cons (by assumption) ?_))
attribute [go_sem] n6 nQ mK nV gG gZ gY jL jG jH l4 lY ko ki lW lQ iZ iW jX jT jm jl jK jt mt mD je ji i4 iX lV lU mE o0 mo

structure BlockAsk where
 Token : Int
 Tid : Int
 Size : Int
 Start : Int
 deriving DecidableEq

def BlockAsk.z : BlockAsk := ⟨0, 0, 0, 0⟩

def bu (x : BlockAsk) : List AV := [vi x.Token, vi x.Tid, vi x.Size, vi x.Start]

theorem uT (x : BlockAsk) : (bu x).length = 4 := by rfl
theorem vJ (x : BlockAsk) : b8 (bu x) 0 4 = some (bu x) := by rfl
theorem uk (x : BlockAsk) : (bu x).take 4 = (bu x) := by rfl
theorem wa (x : BlockAsk) (y : BlockAsk) : cz (bu x) 0 (bu y) = bu y := by rfl
theorem rp (x : BlockAsk) : (bu x)[0]? = some (vi x.Token) := by rfl
theorem qO (x : BlockAsk) (v : Int) : (bu x).set 0 (vi v) = bu { x with Token := v } := by rfl
theorem ti (x : BlockAsk) (v : Int) : (bu x).set 1 (vi v) = bu { x with Tid := v } := by rfl
theorem rF (x : BlockAsk) (v : Int) : (bu x).set 2 (vi v) = bu { x with Size := v } := by rfl
theorem rg (x : BlockAsk) (v : Int) : (bu x).set 3 (vi v) = bu { x with Start := v } := by rfl
theorem qp (x : BlockAsk) (o : Nat → Ob) (n : Nat) : (bu x).map (fz o (n + 1)) = bu x := by rfl
theorem mn (x : BlockAsk) (o : Nat → Ob) (n : Nat) : (bu x).flatMap (bc o (n + 1)) = [] := by
 simp only [bu, List.cons_append, List.nil_append, List.append_nil, List.flatMap_cons, List.flatMap_nil, fi]
theorem c9 (x : BlockAsk) : ∀ c ∈ (bu x), aw c := by
 simp only [bu, List.cons_append, List.nil_append]
 repeat' (first | exact aw.v _ | assumption | exact List.forall_mem_nil _ | refine List.forall_mem_cons.2 ⟨?_, ?_⟩)
theorem AH (x : BlockAsk) (o : Nat → Ob) (n : Nat) : (bu x).map (fz o (n + 1)) = bu x := by simp only [qp]
theorem Bs (x : BlockAsk) (o : Nat → Ob) (n : Nat) : (bu x).flatMap (bc o (n + 1)) = [] := by simp only [mn, List.append_nil]
attribute [go_sem] uT vJ uk wa rp qO ti rF rg qp mn AH Bs

structure BlockAnswer where
 Token : Int
 Tid : Int
 Status : Int
 Size : Int
 deriving DecidableEq

def BlockAnswer.z : BlockAnswer := ⟨0, 0, 0, 0⟩

def bf (x : BlockAnswer) : List AV := [vi x.Token, vi x.Tid, vi x.Status, vi x.Size]

theorem sc (x : BlockAnswer) : (bf x).length = 4 := by rfl
theorem sr (x : BlockAnswer) : b8 (bf x) 0 4 = some (bf x) := by rfl
theorem q9 (x : BlockAnswer) : (bf x).take 4 = (bf x) := by rfl
theorem rB (x : BlockAnswer) (y : BlockAnswer) : cz (bf x) 0 (bf y) = bf y := by rfl
theorem nP (x : BlockAnswer) : (bf x)[0]? = some (vi x.Token) := by rfl
theorem nX (x : BlockAnswer) (v : Int) : (bf x).set 0 (vi v) = bf { x with Token := v } := by rfl
theorem p5 (x : BlockAnswer) : (bf x)[1]? = some (vi x.Tid) := by rfl
theorem mV (x : BlockAnswer) : (bf x)[2]? = some (vi x.Status) := by rfl
theorem pJ (x : BlockAnswer) : (bf x)[3]? = some (vi x.Size) := by rfl
theorem o9 (x : BlockAnswer) (v : Int) : (bf x).set 3 (vi v) = bf { x with Size := v } := by rfl
theorem mH (x : BlockAnswer) (o : Nat → Ob) (n : Nat) : (bf x).map (fz o (n + 1)) = bf x := by rfl
theorem kx (x : BlockAnswer) (o : Nat → Ob) (n : Nat) : (bf x).flatMap (bc o (n + 1)) = [] := by
 simp only [bf, List.cons_append, List.nil_append, List.append_nil, List.flatMap_cons, List.flatMap_nil, fi]
theorem gV (x : BlockAnswer) : ∀ c ∈ (bf x), aw c := by
 simp only [bf, List.cons_append, List.nil_append]
 repeat' (first | exact aw.v _ | assumption | exact List.forall_mem_nil _ | refine List.forall_mem_cons.2 ⟨?_, ?_⟩)
theorem xu (x : BlockAnswer) (o : Nat → Ob) (n : Nat) : (bf x).map (fz o (n + 1)) = bf x := by simp only [mH]
theorem xk (x : BlockAnswer) (o : Nat → Ob) (n : Nat) : (bf x).flatMap (bc o (n + 1)) = [] := by simp only [kx, List.append_nil]
attribute [go_sem] sc sr q9 rB nP nX p5 mV pJ o9 mH kx xu xk

def kA (l : List Frame) : AV := .imm (List.flatMap aY l) l.length
theorem qZ (l : List Frame) : kA l = .imm (List.flatMap aY l) l.length := rfl
theorem gJ (x : Frame) : (aY x).length = 41 := by rfl
theorem jP (l : List Frame) : aw (kA l) := aw.imm (jA dD l)
theorem bU (l : List Frame) : ∀ c ∈ l.flatMap aY, aw c := jA dD l
theorem Af (l : List Frame) : (l.flatMap aY).length = l.length * 41 := eU gJ l
theorem AB (l : List Frame) (i o : Nat) (ho : o < 41) : (l.flatMap aY)[i * 41 + o]? = l[i]?.bind fun a => (aY a)[o]? := jf gJ l i o ho
theorem zj (l : List Frame) (i : Nat) : (l.flatMap aY)[i * 41]? = l[i]?.bind fun a => (aY a)[0]? := jf gJ l i 0 (by decide)
theorem zZ (l : List Frame) (i o n : Nat) (ho : o + n ≤ 41) (hn : 0 < n) : b8 (l.flatMap aY) (i * 41 + o) n = l[i]?.bind fun a => b8 (aY a) o n := i9 gJ l i o n ho hn
theorem yk (l : List Frame) (i n : Nat) (ho : n ≤ 41) (hn : 0 < n) : b8 (l.flatMap aY) (i * 41) n = l[i]?.bind fun a => b8 (aY a) 0 n := i9 gJ l i 0 n (by omega) hn
theorem yd (l : List Frame) : b8 (l.flatMap aY) 0 (l.length * 41) = some (l.flatMap aY) := pS gJ l
theorem yx (l : List Frame) (n : Nat) : (l.flatMap aY).take (n * 41) = (l.take n).flatMap aY := iP gJ l n
theorem zm (l : List Frame) (n : Nat) : (l.flatMap aY).drop (n * 41) = (l.drop n).flatMap aY := jD gJ l n
theorem uK (l : List Frame) (o : Nat → Ob) (n : Nat) : (l.flatMap aY).map (fz o (n + 2)) = (l.flatMap aY) := uz (fun a => BF a o n) l
theorem tF (l : List Frame) (o : Nat → Ob) (n : Nat) : (l.flatMap aY).flatMap (bc o (n + 2)) = [] := m9 (fun a => BJ a o n) l
theorem oF (l : List Frame) (i : Nat) (v : Bool) : (l.flatMap aY).set (i * 41 + 5) (vb v) = (l.modify i (fun y => { y with Head.Retry := v })).flatMap aY := du gJ l i 5 _ (fun y => { y with Head.Retry := v }) (by decide) (fun _ => by rfl)
theorem qQ (l : List Frame) (i : Nat) (v : Int) : (l.flatMap aY).set (i * 41 + 34) (vi v) = (l.modify i (fun y => { y with Head.Seq := v })).flatMap aY := du gJ l i 34 _ (fun y => { y with Head.Seq := v }) (by decide) (fun _ => by rfl)
theorem qy (l : List Frame) (i : Nat) (v : Int) : (l.flatMap aY).set (i * 41 + 36) (vi v) = (l.modify i (fun y => { y with Head.Tid := v })).flatMap aY := du gJ l i 36 _ (fun y => { y with Head.Tid := v }) (by decide) (fun _ => by rfl)
theorem z6 (l : List Frame) (i : Nat) (x : Frame) (b0 : (List Int)) : cz (l.flatMap aY) (i * 41) (bm x (.imm (List.map vu b0) b0.length)) = (l.set i { x with Body := b0 }).flatMap aY := rK gJ (by decide) l i { x with Body := b0 }
theorem zY (l : List Frame) (x : Frame) (b0 : (List Int)) : (l.flatMap aY) ++ bm x (ry b0) = (l ++ [{ x with Body := b0 }]).flatMap aY := by rw [List.flatMap_append]; simp only [List.flatMap_cons, List.flatMap_nil, List.append_nil]; rfl
theorem zA (l : List Frame) (m : List Frame) : (l.flatMap aY) ++ m.flatMap aY = (l ++ m).flatMap aY := List.flatMap_append.symm
theorem Cf (l : List Frame) (o : Nat → Ob) (n : Nat) : fz o (n + 3) (kA l) = kA l := by simp only [qZ, fz, uK]
theorem Cm (l : List Frame) (o : Nat → Ob) (n : Nat) : bc o (n + 3) (kA l) = [] := by simp only [qZ, bc, tF]
attribute [go_sem] qZ gJ Af AB zj zZ yk yd yx zm uK tF oF qQ qy z6 zY zA Cf Cm

end Go.AX.Z.TN

/-! (TND) -/

set_option linter.unusedSimpArgs false
set_option linter.unusedVariables false
set_option maxHeartbeats 4000000
set_option maxRecDepth 20000
namespace Go.AX.Z.TN
open Go.AX

def gu : Option SessionPlan :=
 some { SessionPlan.z with Burst := 2, Hold := 16777216, Life := 1073741824, Limit := 2, Round := 10, Size := 2, Start := 4095 }

def cL (a0 : Int) (a1 : Int) (a2 : Int) : Option Bool :=
 some ((decide (a1 ≤ a0)) && (decide (a0 ≤ a2)))

def ii (a0 : SessionPlan) : Option Int :=
 ((cL a0.Start 0 4095).bind fun x2 =>
 ((
  bif x2 then
   ((cL a0.Size 1 64).bind fun x3 =>
   some x3)
  else
   some false).bind fun x4 =>
 ((
  bif x4 then
   ((cL a0.Limit 1 16).bind fun x5 =>
   some x5)
  else
   some false).bind fun x6 =>
 ((
  bif x6 then
   ((cL a0.Burst 1 64).bind fun x7 =>
   some x7)
  else
   some false).bind fun x8 =>
 ((cL a0.Life 1 1073741824).bind fun x9 =>
 ((
  bif x9 then
   ((cL a0.Hold 0 16777216).bind fun x10 =>
   some x10)
  else
   some false).bind fun x11 =>
 ((
  bif x11 then
   ((cL a0.Round 1 1000000).bind fun x12 =>
   some x12)
  else
   some false).bind fun x13 =>
 bif ((!x8) || (!x13)) then
  some 8
 else
  some 0)))))))

def bH (a0 : Int) (a1 : Int) (a2 : Int) : Option Bool :=
 some ((decide (a1 ≤ a0)) && (decide (a0 ≤ a2)))

def fL (a0 : Sender) : Option Int :=
 bif decide (0 < (a0.Out.length : Int)) then
  ((idx a0.Out 0).bind fun x27 =>
  some x27.Frame.Head.Seq)
 else
  some a0.Next

def cy (a0 : Int) (a1 : Int) : Option Int :=
 some (IntKind.wrap .i64 (uP .u64 (IntKind.wrap .u64 ((IntKind.wrap .u64 a1) - (IntKind.wrap .u64 a0))) 4095))

def dK (a0 : Sender) (x27 : Int) (x28 : Int) : Nat → (Int × Int × Int) → Option (Ex Int Unit)
 | 0, _ => none
 | n15 + 1, d31 =>
  bif decide (d31.2.2 < (a0.Out.length : Int)) then
   ((idx a0.Out d31.2.2).bind fun x32 =>
   ((cy x27 x32.Frame.Head.Seq).bind fun x33 =>
   ((bH x32.Frame.Head.Seq 0 4095).bind fun x34 =>
   ((
    bif (((!x34) || (decide (x33 ≤ d31.1))) || (decide (x28 ≤ x33))) then
     some true
    else
     ((bH x32.At d31.2.1 1099511627776).bind fun x35 =>
     some (!x35))).bind fun x36 =>
   ((
    bif x36 then
     some true
    else
     ((bH x32.Tries 0 a0.Limit).bind fun x37 =>
     some (!x37))).bind fun x38 =>
   bif (x38 || (x32.Flying && (x32.Tries == 0))) then
    some (Ex.ret 8)
   else
    dK a0 x27 x28 n15 (x33, x32.At, IntKind.wrap .i64 (d31.2.2 + 1)))))))
  else
   some (Ex.go ())

def d7 (a0 : Sender) : Option Int :=
 ((bH a0.Tid 0 7).bind fun x16 =>
 ((
  bif (x16 && (decide (a0.Phase ≤ 2))) then
   ((bH a0.Token 0 255).bind fun x17 =>
   some x17)
  else
   some false).bind fun x18 =>
 ((
  bif x18 then
   ((bH a0.Next 0 4095).bind fun x19 =>
   some x19)
  else
   some false).bind fun x20 =>
 ((
  bif x20 then
   ((bH a0.Limit 1 16).bind fun x21 =>
   some x21)
  else
   some false).bind fun x22 =>
 ((
  bif x22 then
   ((bH a0.Life 1 1073741824).bind fun x23 =>
   some x23)
  else
   some false).bind fun x24 =>
 ((bH a0.Size 1 64).bind fun x25 =>
 ((
  bif (a0.Phase == 0) then
   some (a0.Size == 0)
  else
   some x25).bind fun d26 =>
 bif (((!x24) || (!d26)) || ((a0.Phase != 2) && ((decide (0 < (a0.Out.length : Int))) || a0.Bar))) then
  some 8
 else
  ((fL a0).bind fun x27 =>
  ((cy x27 a0.Next).bind fun x28 =>
  bif decide (a0.Size < x28) then
   some 8
  else
   ((
    dK a0 x27 x28 big ((-1), 0, 0)).bind fun o30 =>
   (o30.k fun d29 =>
   some 0)))))))))))

def lq (a0 : Int) (a1 : Int) (a2 : Int) (a3 : Int) : Option (Sender × Int) :=
 ((d7 { Sender.z with Life := a3, Limit := a2, Next := a1, Tid := a0 }).bind fun x16 =>
 bif (x16 != 0) then
  some (Sender.z, 2)
 else
  some ({ Sender.z with Life := a3, Limit := a2, Next := a1, Tid := a0 }, 0))

def aW (a0 : Int) (a1 : Session_session) (a2 : (List Bool)) : Option Session_session :=
 bif (a1.err == 0) then
  some { a1 with err := a0 }
 else
  some a1

def dO (a0 : Frame) : Option Frame :=
 ((chk (decide (a0.Body.length ≤ 140737488355328))).bind fun x23 =>
 some a0)

def ek (a0 : Sender) : Nat → (List Unacked × Int) → Option ((List Unacked))
 | 0, _ => none
 | n2 + 1, d22 =>
  bif decide (d22.2 < (a0.Out.length : Int)) then
   ((idx a0.Out d22.2).bind fun x23 =>
   ((dO x23.Frame).bind fun x24 =>
   ((chk (decide ((d22.1.length + 1) * 128 ≤ 140737488355328))).bind fun x25 =>
   ek a0 n2 ((d22.1 ++ [{ x23 with Frame := x24 }]), IntKind.wrap .i64 (d22.2 + 1)))))
  else
   some d22.1

def eX (a0 : Sender) : Option Sender :=
 ((
  ek a0 big ([], 0)).bind fun d21 =>
 some { a0 with Out := d21 })

def jz (a0 : Sender) (a1 : Int) : Option (BlockAsk × Sender × Int) :=
 ((d7 a0).bind fun x19 =>
 bif (x19 != 0) then
  some (BlockAsk.z, Sender.z, x19)
 else
  ((bH a1 1 64).bind fun x20 =>
  bif (!x20) then
   some (BlockAsk.z, Sender.z, 2)
  else
   bif (a0.Phase == 2) then
    some (BlockAsk.z, Sender.z, 20)
   else
    ((eX { a0 with Phase := 1, Size := a1, Token := IntKind.wrap .i64 ((a0.Token.tmod 255) + 1) }).bind fun x21 =>
    some ({ BlockAsk.z with Size := a1, Start := a0.Next, Tid := a0.Tid, Token := IntKind.wrap .i64 ((a0.Token.tmod 255) + 1) }, x21, 0))))

def fW (a0 : Sender) (a1 : BlockAnswer) : Option (Sender × Int) :=
 ((d7 a0).bind fun x24 =>
 ((
  bif (x24 != 0) then
   some (Ex.ret (Sender.z, x24))
  else
   bif (a0.Phase != 1) then
    some (Ex.ret (Sender.z, 20))
   else
    bif ((a1.Token != a0.Token) || (a1.Tid != a0.Tid)) then
     some (Ex.ret (Sender.z, 21))
    else
     bif (a1.Status != 0) then
      some (Ex.go { a0 with Phase := 0, Size := 0 })
     else
      ((bH a1.Size 1 a0.Size).bind fun x27 =>
      bif (!x27) then
       some (Ex.ret (Sender.z, 2))
      else
       some (Ex.go { a0 with Phase := 2, Size := a1.Size }))).bind fun o26 =>
 (o26.k fun d25 =>
 ((eX d25).bind fun x28 =>
 some (x28, 0)))))

def di (a0 : Int) : Option Bool :=
 some ((decide (0 ≤ a0)) && (decide (a0 < 4096)))

def ea (a0 : Int) : Option Bool :=
 some ((decide (0 ≤ a0)) && (decide (a0 < 4096)))

def eD (a0 : Window) : Option Int :=
 ((ea a0.Start).bind fun x32 =>
 bif (!x32) then
  some 8
 else
  some 0)

def eo (a0 : Int) : Option Bool :=
 some ((decide (0 ≤ a0)) && (decide (a0 ≤ 1099511627776)))

def cO (a0 : Reorder) : Nat → (Int × Int) → Option (Ex Int Unit)
 | 0, _ => none
 | n8 + 1, d36 =>
  bif decide (d36.2 < (a0.Held.length : Int)) then
   ((idx a0.Held d36.2).bind fun x37 =>
   ((cy a0.Start x37.Frame.Head.Seq).bind fun x38 =>
   ((di x37.Frame.Head.Seq).bind fun x39 =>
   ((
    bif (!x39) then
     some true
    else
     ((eo x37.At).bind fun x40 =>
     some (!x40))).bind fun x41 =>
   bif ((x41 || (decide (x38 ≤ d36.1))) || (decide (a0.Size ≤ x38))) then
    some (Ex.ret 8)
   else
    cO a0 n8 (x38, IntKind.wrap .i64 (d36.2 + 1))))))
  else
   some (Ex.go ())

def ee (a0 : Reorder) : Option Int :=
 ((di a0.Start).bind fun x31 =>
 ((
  bif (((((!x31) || (decide (a0.Size < 1))) || (decide (64 < a0.Size))) || (decide (a0.Hold < 0))) || (decide (16777216 < a0.Hold))) then
   some true
  else
   ((eD a0.Seen).bind fun x32 =>
   some (x32 != 0))).bind fun x33 =>
 bif x33 then
  some 8
 else
  ((
   cO a0 big (0, 0)).bind fun o35 =>
  (o35.k fun d34 =>
  some 0))))

def lB (a0 : Int) (a1 : Int) (a2 : Int) : Option (Reorder × Int) :=
 ((ee { Reorder.z with Hold := a2, Seen := { Window.z with Start := a0 }, Size := a1, Start := a0 }).bind fun x31 =>
 bif (x31 != 0) then
  some (Reorder.z, 2)
 else
  some ({ Reorder.z with Hold := a2, Seen := { Window.z with Start := a0 }, Size := a1, Start := a0 }, 0))

def dW (a0 : Session_session) (a1 : (List Bool)) : Option Session_session :=
 ((lq 0 a0.plan.Start a0.plan.Limit a0.plan.Life).bind fun x16 =>
 ((aW x16.2 a0 a1).bind fun x17 =>
 ((jz x16.1 a0.plan.Size).bind fun x18 =>
 ((aW x18.2.2 { x17 with out.Acked := a0.out.Acked, out.Delivered := a0.out.Delivered, out.Dropped := a0.out.Dropped } a1).bind fun x19 =>
 ((fW x18.2.1 { BlockAnswer.z with Size := a0.plan.Size, Token := x18.1.Token }).bind fun x20 =>
 ((aW x20.2 { x19 with out.Acked := a0.out.Acked, out.Delivered := a0.out.Delivered, out.Dropped := a0.out.Dropped, sides.Sender := x20.1 } a1).bind fun x21 =>
 ((lB a0.plan.Start a0.plan.Size a0.plan.Hold).bind fun x22 =>
 ((aW x22.2 { x21 with out.Acked := a0.out.Acked, out.Delivered := a0.out.Delivered, out.Dropped := a0.out.Dropped, sides.Reorder := x22.1 } a1).bind fun x23 =>
 some x23))))))))

def dQ (a0 : Sender) : Nat → (List Int × Int) → Option ((List Int))
 | 0, _ => none
 | n3 + 1, d28 =>
  bif decide (d28.2 < (a0.Out.length : Int)) then
   ((idx a0.Out d28.2).bind fun x29 =>
   ((chk (decide ((d28.1.length + 1) * 8 ≤ 140737488355328))).bind fun x30 =>
   dQ a0 n3 ((d28.1 ++ [x29.Frame.Head.Seq]), IntKind.wrap .i64 (d28.2 + 1))))
  else
   some d28.1

def fD (a0 : Sender) : Option ((List Int) × Sender × Int) :=
 ((d7 a0).bind fun x26 =>
 bif (x26 != 0) then
  some ([], Sender.z, x26)
 else
  ((
   dQ a0 big ([], 0)).bind fun d27 =>
  some (d27, { a0 with Bar := false, Out := [], Phase := 0, Size := 0 }, 0)))

def bO (a2 : (List Int)) (a0 : Session_session) : Nat → (List Int × Int) → Option ((List Int))
 | 0, _ => none
 | n2 + 1, d34 =>
  bif decide (d34.2 < (a2.length : Int)) then
   ((idx a2 d34.2).bind fun x35 =>
   ((cy a0.plan.Start x35).bind fun x36 =>
   ((chk (decide ((d34.1.length + 1) * 8 ≤ 140737488355328))).bind fun x37 =>
   bO a2 a0 n2 ((d34.1 ++ [x36]), IntKind.wrap .i64 (d34.2 + 1)))))
  else
   some d34.1

def cd (a0 : Session_session) (a1 : (List Bool)) (a2 : (List Int)) : Option (List Int) :=
 ((
  bO a2 a0 big ([], 0)).bind fun d33 =>
 some d33)

def dL (a0 : (List HeldSeq)) : Nat → (List HeldSeq × Int) → Option ((List HeldSeq))
 | 0, _ => none
 | n2 + 1, d46 =>
  bif decide (d46.2 < (a0.length : Int)) then
   ((idx a0 d46.2).bind fun x47 =>
   ((dO x47.Frame).bind fun x48 =>
   ((chk (decide ((d46.1.length + 1) * 112 ≤ 140737488355328))).bind fun x49 =>
   dL a0 n2 ((d46.1 ++ [{ HeldSeq.z with At := x47.At, Frame := x48 }]), IntKind.wrap .i64 (d46.2 + 1)))))
  else
   some d46.1

def eE (a0 : (List HeldSeq)) : Option (List HeldSeq) :=
 ((
  dL a0 big ([], 0)).bind fun d45 =>
 some d45)

def eT (a0 : HeldSeq) (a1 : Int) (a2 : Reorder) : Option Int :=
 ((cy a2.Start a0.Frame.Head.Seq).bind fun x55 =>
 some (IntKind.wrap .i64 (x55 - a1)))

def aL (a0 : (List HeldSeq)) (a1 : Int) (a2 : Reorder) : Nat → (Int × Int) → Option (Int)
 | 0, _ => none
 | n2 + 1, d54 =>
  bif decide (d54.1 < d54.2) then
   ((idx a0 (IntKind.wrap .i64 (((IntKind.wrap .u64 (IntKind.wrap .i64 (d54.1 + d54.2)))).fdiv (2 ^ (min 1 64))))).bind fun x55 =>
   ((eT x55 a1 a2).bind fun x56 =>
   bif decide (x56 < 0) then
    aL a0 a1 a2 n2 (IntKind.wrap .i64 ((IntKind.wrap .i64 (((IntKind.wrap .u64 (IntKind.wrap .i64 (d54.1 + d54.2)))).fdiv (2 ^ (min 1 64)))) + 1), d54.2)
   else
    aL a0 a1 a2 n2 (d54.1, IntKind.wrap .i64 (((IntKind.wrap .u64 (IntKind.wrap .i64 (d54.1 + d54.2)))).fdiv (2 ^ (min 1 64))))))
  else
   some d54.1

def bF (a0 : (List HeldSeq)) (a1 : Int) (a2 : Reorder) : Option (Int × Bool) :=
 ((
  aL a0 a1 a2 big (0, (a0.length : Int))).bind fun d53 =>
 bif decide (d53 < (a0.length : Int)) then
  ((idx a0 d53).bind fun x57 =>
  ((eT x57 a1 a2).bind fun x58 =>
  some (d53, (x58 == 0))))
 else
  some (d53, false))

def fY (a0 : Reorder) (a1 : Int) : Option (Int × Bool) :=
 ((cy a0.Start a1).bind fun x52 =>
 ((bF a0.Held x52 a0).bind fun x53 =>
 some (x53.1, x53.2)))

def eL (a0 : Int) (a1 : Int) : Option Int :=
 some (IntKind.wrap .i64 (uP .u64 (IntKind.wrap .u64 ((IntKind.wrap .u64 a0) + (IntKind.wrap .u64 a1))) 4095))

def dM (a0 : Reorder) : Nat → (List Frame × Nat × Int × Int) → Option ((List Frame))
 | 0, _ => none
 | n2 + 1, d55 =>
  bif decide (d55.2.2.2 < d55.2.2.1) then
   ((chk (decide (d55.2.2.2 < (d55.2.1 : Int)))).bind fun x56 =>
   ((idx a0.Held d55.2.2.2).bind fun x57 =>
   ((chk (decide ((d55.1.length + 1) * 104 ≤ 140737488355328))).bind fun x58 =>
   dM a0 n2 ((d55.1 ++ [x57.Frame]), d55.2.1, d55.2.2.1, IntKind.wrap .i64 (d55.2.2.2 + 1)))))
  else
   some d55.1

def dP : Nat → (Reorder × List HeldSeq × List Frame) → Option ((Reorder × List HeldSeq × List Frame))
 | 0, _ => none
 | n7 + 1, d61 =>
  ((
   bif decide (0 < ((d61.2.1.length : Nat) : Int)) then
    ((idx d61.2.1 0).bind fun x62 =>
    some (x62.Frame.Head.Seq == d61.1.Start))
   else
    some false).bind fun x63 =>
  bif x63 then
   ((idx d61.2.1 0).bind fun x64 =>
   ((chk (decide ((d61.2.2.length + 1) * 104 ≤ 140737488355328))).bind fun x65 =>
   ((eL d61.1.Start 1).bind fun x66 =>
   ((chk (decide (1 ≤ (d61.2.1.length : Int)))).bind fun x67 =>
   dP n7 ({ d61.1 with Start := x66 }, (List.drop 1 d61.2.1), (d61.2.2 ++ [x64.Frame]))))))
  else
   some (d61.1, d61.2.1, d61.2.2))

def eC (a0 : Reorder) (a1 : Int) : Option (List Frame × Reorder × List HeldSeq) :=
 ((fY a0 a1).bind fun x52 =>
 ((chk (decide (0 ≤ x52.1) && decide (x52.1 ≤ (a0.Held.length : Int)))).bind fun x53 =>
 ((
  dM a0 big ([], (x52.1).toNat, (((x52.1).toNat : Nat) : Int), 0)).bind fun d54 =>
 ((chk (decide (0 ≤ x52.1) && decide (x52.1 ≤ (a0.Held.length : Int)))).bind fun x59 =>
 ((
  dP big ({ a0 with Start := a1 }, (List.drop ((x52.1).toNat) a0.Held), d54)).bind fun d60 =>
 some (d60.2.2, d60.1, d60.2.1))))))

def iV (a0 : Reorder) (a1 : Int) : Option ((List Frame) × Reorder × Int) :=
 ((ee a0).bind fun x43 =>
 bif (x43 != 0) then
  some ([], Reorder.z, x43)
 else
  ((di a1).bind fun x44 =>
  bif (!x44) then
   some ([], Reorder.z, 2)
  else
   ((eE a0.Held).bind fun x45 =>
   ((cy a0.Start a1).bind fun x46 =>
   bif decide (2048 ≤ x46) then
    some ([], { a0 with Held := x45 }, 0)
   else
    ((eC { a0 with Held := x45 } a1).bind fun x47 =>
    some (x47.1, { x47.2.1 with Held := x47.2.2 }, 0))))))

def bN (a0 : (List Frame)) (a1 : Session_session) : Nat → (List Int × Int) → Option ((List Int))
 | 0, _ => none
 | n2 + 1, d51 =>
  bif decide (d51.2 < (a0.length : Int)) then
   ((idx a0 d51.2).bind fun x52 =>
   ((cy a1.plan.Start x52.Head.Seq).bind fun x53 =>
   ((chk (decide ((d51.1.length + 1) * 8 ≤ 140737488355328))).bind fun x54 =>
   bN a0 a1 n2 ((d51.1 ++ [x53]), IntKind.wrap .i64 (d51.2 + 1)))))
  else
   some d51.1

def bI (a0 : (List Frame)) (a1 : Session_session) (a2 : (List Bool)) : Option (List Int) :=
 ((
  bN a0 a1 big (a1.out.Delivered, 0)).bind fun d50 =>
 some d50)

def cp (a0 : Int) (a1 : Session_session) (a2 : (List Bool)) : Option (Session_session × List Int) :=
 ((iV a1.sides.Reorder a0).bind fun x43 =>
 ((aW x43.2.2 a1 a2).bind fun x44 =>
 ((bI x43.1 { x44 with out.Acked := a1.out.Acked, out.Delivered := a1.out.Delivered, out.Dropped := a1.out.Dropped, sides.Reorder := x43.2.1 } a2).bind fun x45 =>
 some ({ x44 with out.Acked := a1.out.Acked, out.Delivered := a1.out.Delivered, out.Dropped := a1.out.Dropped, sides.Reorder := x43.2.1 }, x45))))

def bW (x27 : Session_session) : Nat → (List Int × Int) → Option ((List Int))
 | 0, _ => none
 | n2 + 1, d31 =>
  bif decide (d31.2 < x27.many) then
   ((chk (decide ((d31.1.length + 1) * 8 ≤ 140737488355328))).bind fun x32 =>
   bW x27 n2 ((d31.1 ++ [d31.2]), IntKind.wrap .i64 (d31.2 + 1)))
  else
   some d31.1

def dU (a0 : Session_session) (a1 : (List Bool)) : Option (Session_session × List Int × List Int) :=
 ((fD a0.sides.Sender).bind fun x26 =>
 ((aW x26.2.2 a0 a1).bind fun x27 =>
 ((cd { x27 with out.Acked := a0.out.Acked, out.Delivered := a0.out.Delivered, out.Dropped := a0.out.Dropped, sides.Sender := x26.2.1 } a1 x26.1).bind fun x28 =>
 ((chk (decide ((a0.out.Dropped.length + x28.length) * 8 ≤ 140737488355328))).bind fun x29 =>
 ((
  bW x27 big ((a0.out.Dropped ++ x28), x27.accepted)).bind fun d30 =>
 ((cp x26.2.1.Next { x27 with out.Acked := a0.out.Acked, out.Delivered := a0.out.Delivered, out.Dropped := d30, sides.Sender := x26.2.1 } a1).bind fun x33 =>
 some (x33.1, x33.2, d30)))))))

def dN (a0 : Sender) (a1 : Bool) : Option (Sender × Int) :=
 ((d7 a0).bind fun x36 =>
 bif (x36 != 0) then
  some (Sender.z, x36)
 else
  bif (!a1) then
   some (Sender.z, 2)
  else
   bif (a0.Phase != 2) then
    some (Sender.z, 20)
   else
    ((eX a0).bind fun x37 =>
    some (x37, 0)))

def iD (a0 : Unacked) (a1 : Sender) (a2 : Int) : Option Bool :=
 some ((!a0.Flying) && ((a0.Tries == a1.Limit) || (decide ((IntKind.wrap .i64 (a0.At + a1.Life)) ≤ a2))))

def ey (a0 : Unacked) (a1 : Sender) (a2 : Int) (a3 : List Int) : Option (Bool × List Int) :=
 ((iD a0 a1 a2).bind fun x41 =>
 bif x41 then
  ((chk (decide ((a3.length + 1) * 8 ≤ 140737488355328))).bind fun x42 =>
  some (x41, (a3 ++ [a0.Frame.Head.Seq])))
 else
  some (x41, a3))

def aZ (a0 : Sender) (a1 : Int) : Nat → (List Int × Int) → Option (Ex (Int × List Int) (List Int))
 | 0, _ => none
 | n2 + 1, d41 =>
  bif decide (d41.2 < ((a0.Out.length : Nat) : Int)) then
   ((idx a0.Out d41.2).bind fun x42 =>
   ((ey x42 a0 a1 d41.1).bind fun x43 =>
   bif x43.1 then
    some (Ex.ret (d41.2, x43.2))
   else
    aZ a0 a1 n2 (x43.2, IntKind.wrap .i64 (d41.2 + 1))))
  else
   some (Ex.go d41.1)

def b9 (a0 : Sender) (a1 : Int) : Option (Int × List Int) :=
 ((
  aZ a0 a1 big ([], 0)).bind fun o40 =>
 (o40.k fun d39 =>
 some ((-1), d39)))

def aV (a1 : Int) : Nat → (List Unacked × Sender × List Int × Int × Int) → Option ((List Unacked × Int × Sender × List Int))
 | 0, _ => none
 | n3 + 1, d41 =>
  bif decide (d41.2.2.2.2 < ((d41.1.length : Nat) : Int)) then
   ((idx d41.1 d41.2.2.2.2).bind fun x42 =>
   ((ey x42 { d41.2.1 with Out := d41.1 } a1 d41.2.2.1).bind fun x43 =>
   bif (!x43.1) then
    ((idx d41.1 d41.2.2.2.1).bind fun x44 =>
    aV a1 n3 ((d41.1.set ((d41.2.2.2.1).toNat) x42), { d41.2.1 with Out := d41.1 }, x43.2, IntKind.wrap .i64 (d41.2.2.2.1 + 1), IntKind.wrap .i64 (d41.2.2.2.2 + 1)))
   else
    aV a1 n3 (d41.1, { d41.2.1 with Out := d41.1 }, x43.2, d41.2.2.2.1, IntKind.wrap .i64 (d41.2.2.2.2 + 1))))
  else
   some (d41.1, d41.2.2.2.1, d41.2.1, d41.2.2.1)

def bK (a0 : Sender) (a1 : Int) : Option (List Unacked × Sender × List Int) :=
 ((b9 a0 a1).bind fun x39 =>
 bif (x39.1 == (-1)) then
  some (a0.Out, a0, x39.2)
 else
  ((
   aV a1 big (a0.Out, a0, x39.2, x39.1, IntKind.wrap .i64 (x39.1 + 1))).bind fun d40 =>
  ((chk (decide (0 ≤ d40.2.1) && decide (d40.2.1 ≤ (d40.1.length : Int)))).bind fun x45 =>
  ((chk (decide (0 ≤ d40.2.1) && decide (d40.2.1 ≤ (d40.1.length : Int)))).bind fun x46 =>
  some ((List.take ((d40.2.1).toNat) d40.1), d40.2.2.1, d40.2.2.2)))))

def jO (a0 : Sender) (a1 : Int) : Option (List Int × Sender × List Unacked) :=
 ((bK a0 a1).bind fun x39 =>
 some (x39.2.2, x39.2.1, x39.1))

def fe (a0 : Sender) (a1 : Int) : Option ((List Int) × Sender × Int) :=
 ((bH a1 0 1099511627776).bind fun x35 =>
 ((dN a0 x35).bind fun x36 =>
 bif (x36.2 != 0) then
  some ([], Sender.z, x36.2)
 else
  ((jO x36.1 a1).bind fun x37 =>
  some (x37.1, { x37.2.1 with Bar := (x37.2.1.Bar || (decide (0 < ((x37.1.length : Nat) : Int)))), Out := x37.2.2 }, 0))))

def fc (a0 : (List Bool)) : Option (Bool × List Bool) :=
 bif ((a0.length : Int) == 0) then
  some (false, a0)
 else
  ((idx a0 0).bind fun x42 =>
  ((chk (decide (1 ≤ (a0.length : Int)))).bind fun x43 =>
  some (x42, (List.drop 1 a0))))

def gH (a0 : Sender) : Option Int :=
 ((d7 a0).bind fun x45 =>
 bif (x45 != 0) then
  some 0
 else
  ((fL a0).bind fun x46 =>
  some x46))

def eG (a0 : Sender) : Option (Sender × Int) :=
 ((dN a0 true).bind fun x49 =>
 bif (x49.2 != 0) then
  some (Sender.z, x49.2)
 else
  bif (!x49.1.Bar) then
   some (Sender.z, 20)
  else
   some ({ x49.1 with Bar := false }, 0))

def fE (a0 : Sender) (a1 : Frame) (a2 : Int) : Option (Frame × Sender × Int) :=
 ((bH a2 0 1099511627776).bind fun x51 =>
 ((dN a0 x51).bind fun x52 =>
 bif (x52.2 != 0) then
  some (Frame.z, Sender.z, x52.2)
 else
  ((
   bif decide (0 < ((x52.1.Out.length : Nat) : Int)) then
    ((idx x52.1.Out (IntKind.wrap .i64 (((x52.1.Out.length : Nat) : Int) - 1))).bind fun x53 =>
    some (decide (a2 < x53.At)))
   else
    some false).bind fun x54 =>
  bif x54 then
   some (Frame.z, Sender.z, 20)
  else
   ((fL x52.1).bind fun x55 =>
   ((cy x55 x52.1.Next).bind fun x56 =>
   bif decide (x52.1.Size ≤ x56) then
    some (Frame.z, Sender.z, 22)
   else
    ((dO a1).bind fun x57 =>
    ((chk (decide ((x52.1.Out.length + 1) * 128 ≤ 140737488355328))).bind fun x58 =>
    ((eL x52.1.Next 1).bind fun x59 =>
    ((dO { x57 with Head.Retry := false, Head.Seq := x52.1.Next, Head.Tid := x52.1.Tid }).bind fun x60 =>
    some (x60, { x52.1 with Next := x59, Out := (x52.1.Out ++ [{ Unacked.z with At := a2, Frame := { x57 with Head.Retry := false, Head.Seq := x52.1.Next, Head.Tid := x52.1.Tid } }]) }, 0))))))))))

def bX (a0 : Int) (a1 : Session_session) (a2 : (List Bool)) : Nat → Session_session → Option (Ex Session_session Session_session)
 | 0, _ => none
 | n2 + 1, d52 =>
  bif ((decide (d52.accepted < d52.many)) && (d52.err == 0)) then
   ((fE d52.sides.Sender Frame.z a0).bind fun x53 =>
   bif (x53.2.2 == 22) then
    some (Ex.ret d52)
   else
    ((aW x53.2.2 { d52 with out.Acked := a1.out.Acked, out.Delivered := a1.out.Delivered, out.Dropped := a1.out.Dropped } a2).bind fun x54 =>
    bX a0 a1 a2 n2 { x54 with accepted := IntKind.wrap .i64 (x54.accepted + 1), sides.Sender := x53.2.1 }))
  else
   some (Ex.go d52)

def cQ (a0 : Int) (a1 : Session_session) (a2 : (List Bool)) : Option Session_session :=
 ((
  bX a0 a1 a2 big a1).bind fun o51 =>
 (o51.k fun d50 =>
 some d50))

def dH (x56 : (Sender × Int)) (a1 : Int) : Nat → (List Unacked × List Frame × Int) → Option ((List Unacked × List Frame))
 | 0, _ => none
 | n3 + 1, d58 =>
  bif decide (d58.2.2 < ((x56.1.Out.length : Nat) : Int)) then
   ((idx d58.1 d58.2.2).bind fun x59 =>
   bif (((d58.2.1.length : Nat) : Int) == a1) then
    some (d58.1, d58.2.1)
   else
    bif (x59.Flying || (x59.Tries == x56.1.Limit)) then
     dH x56 a1 n3 (d58.1, d58.2.1, IntKind.wrap .i64 (d58.2.2 + 1))
    else
     ((dO x59.Frame).bind fun x60 =>
     ((chk (decide ((d58.2.1.length + 1) * 104 ≤ 140737488355328))).bind fun x61 =>
     dH x56 a1 n3 (((d58.1.modify (d58.2.2.toNat) fun y => { y with Tries := IntKind.wrap .i64 (x59.Tries + 1) }).modify (d58.2.2.toNat) fun y => { y with Flying := true }), (d58.2.1 ++ [{ x60 with Head.Retry := decide (0 < x59.Tries) }]), IntKind.wrap .i64 (d58.2.2 + 1)))))
  else
   some (d58.1, d58.2.1)

def gA (a0 : Sender) (a1 : Int) : Option ((List Frame) × Sender × Int) :=
 ((dN a0 (decide (0 ≤ a1))).bind fun x56 =>
 bif (x56.2 != 0) then
  some ([], Sender.z, x56.2)
 else
  ((
   dH x56 a1 big (x56.1.Out, [], 0)).bind fun d57 =>
  some (d57.2, { x56.1 with Out := d57.1 }, 0)))

def eV (a0 : Window) (a1 : Int) : Option Int :=
 ((eD a0).bind fun x75 =>
 bif (x75 != 0) then
  some x75
 else
  ((ea a1).bind fun x76 =>
  bif (!x76) then
   some 2
  else
   some 0))

def jZ (a0 : Window) (a1 : Int) : Option (Window × Int) :=
 ((eV a0 a1).bind fun x75 =>
 bif (x75 != 0) then
  some (Window.z, x75)
 else
  ((cy a0.Start a1).bind fun x76 =>
  bif decide (x76 < 2048) then
   ((chk (decide (¬ x76 < 0))).bind fun x77 =>
   some ({ Window.z with Bits := (a0.Bits).fdiv (2 ^ (min (x76).toNat 64)), Start := a1 }, 0))
  else
   ((chk (decide (¬ (IntKind.wrap .i64 (4096 - x76)) < 0))).bind fun x78 =>
   some ({ Window.z with Bits := IntKind.wrap .u64 (a0.Bits * 2 ^ (min ((IntKind.wrap .i64 (4096 - x76))).toNat 64)), Start := a1 }, 0))))

def jW (a0 : Window) (a1 : Int) : Option (Window × Int) :=
 ((eV a0 a1).bind fun x77 =>
 bif (x77 != 0) then
  some (Window.z, x77)
 else
  ((cy a0.Start a1).bind fun x78 =>
  bif decide (64 ≤ x78) then
   some (Window.z, 21)
  else
   ((chk (decide (¬ x78 < 0))).bind fun x79 =>
   some ({ a0 with Bits := bor .u64 a0.Bits (IntKind.wrap .u64 (1 * 2 ^ (min (x78).toNat 64))) }, 0))))

def i7 (a0 : Window) (a1 : Int) : Option Window :=
 ((cy a0.Start a1).bind fun x73 =>
 bif decide (2048 ≤ x73) then
  some a0
 else
  ((
   bif decide (64 ≤ x73) then
    ((eL a1 (-63)).bind fun x75 =>
    ((jZ a0 x75).bind fun x76 =>
    some x76.1))
   else
    some a0).bind fun d74 =>
  ((jW d74 a1).bind fun x77 =>
  some x77.1)))

def cg (a0 : Int) (a1 : List HeldSeq) (a2 : List HeldSeq) : Option (List HeldSeq) :=
 ((chk (decide (0 ≤ a0) && decide (a0 ≤ (a1.length : Int)))).bind fun x81 =>
 bif (((a2.length : Nat) : Int) == 0) then
  some a1
 else
  bif (a0 == ((a1.length : Nat) : Int)) then
   ((chk (decide ((a1.length + a2.length) * 112 ≤ 140737488355328))).bind fun x82 =>
   some (a1 ++ a2))
  else
   none)

def bP (a0 : Int) (a1 : List HeldSeq) (a2 : List HeldSeq) : Option (List HeldSeq) :=
 ((chk (decide (0 ≤ a0) && decide (a0 ≤ (a1.length : Int)))).bind fun x13 =>
 bif (((a2.length : Nat) : Int) == 0) then
  some a1
 else
  bif (a0 == ((a1.length : Nat) : Int)) then
   ((chk (decide ((a1.length + a2.length) * 112 ≤ 140737488355328))).bind fun x14 =>
   some (a1 ++ a2))
  else
   ((chk (decide (a2.length = 1) && decide ((a1.length + 1) * 112 ≤ 140737488355328))).bind fun x15 =>
   some (a1.take a0.toNat ++ a2 ++ a1.drop a0.toNat)))

def iK (a0 : Reorder) (a1 : Frame) (a2 : Int) : Option ((List Frame) × Reorder × Int) :=
 ((ee a0).bind fun x67 =>
 bif (x67 != 0) then
  some ([], Reorder.z, x67)
 else
  ((eo a2).bind fun x68 =>
  ((
   bif (!x68) then
    some true
   else
    ((di a1.Head.Seq).bind fun x69 =>
    some (!x69))).bind fun x70 =>
  bif x70 then
   some ([], Reorder.z, 2)
  else
   ((cy a0.Start a1.Head.Seq).bind fun x71 =>
   ((fY a0 a1.Head.Seq).bind fun x72 =>
   bif ((decide (2048 ≤ x71)) || x72.2) then
    some ([], Reorder.z, 21)
   else
    ((i7 a0.Seen a1.Head.Seq).bind fun x73 =>
    ((eE a0.Held).bind fun x74 =>
    ((dO a1).bind fun x75 =>
    ((bP x72.1 x74 [{ HeldSeq.z with At := a2, Frame := x75 }]).bind fun x76 =>
    ((
     bif decide (a0.Size ≤ x71) then
      ((eL a1.Head.Seq (IntKind.wrap .i64 (1 - a0.Size))).bind fun x78 =>
      some x78)
     else
      some a0.Start).bind fun d77 =>
    ((eC { a0 with Held := x76, Seen := x73 } d77).bind fun x79 =>
    some (x79.1, { x79.2.1 with Held := x79.2.2 }, 0))))))))))))

def bL (x56 : ((List Frame) × Sender × Int)) (a0 : Int) (a1 : Session_session) : Nat → (Session_session × List Bool × List Int × Int) → Option ((Session_session × List Bool × List Int))
 | 0, _ => none
 | n2 + 1, d59 =>
  bif decide (d59.2.2.2 < (x56.1.length : Int)) then
   ((idx x56.1 d59.2.2.2).bind fun x60 =>
   ((fc d59.2.1).bind fun x61 =>
   bif x61.1 then
    bL x56 a0 a1 n2 (d59.1, x61.2, d59.2.2.1, IntKind.wrap .i64 (d59.2.2.2 + 1))
   else
    ((iK d59.1.sides.Reorder x60 a0).bind fun x62 =>
    bif (x62.2.2 == 0) then
     ((bI x62.1 { d59.1 with out.Acked := a1.out.Acked, out.Delivered := d59.2.2.1, out.Dropped := a1.out.Dropped, sides.Reorder := x62.2.1 } x61.2).bind fun x63 =>
     bL x56 a0 a1 n2 ({ d59.1 with out.Acked := a1.out.Acked, out.Delivered := d59.2.2.1, out.Dropped := a1.out.Dropped, sides.Reorder := x62.2.1 }, x61.2, x63, IntKind.wrap .i64 (d59.2.2.2 + 1)))
    else
     bL x56 a0 a1 n2 (d59.1, x61.2, d59.2.2.1, IntKind.wrap .i64 (d59.2.2.2 + 1)))))
  else
   some (d59.1, d59.2.1, d59.2.2.1)

def c4 (a0 : Int) (a1 : Session_session) (a2 : (List Bool)) : Option (Int × Session_session × List Bool × List Int) :=
 ((gA a1.sides.Sender a1.plan.Burst).bind fun x56 =>
 ((aW x56.2.2 a1 a2).bind fun x57 =>
 ((
  bL x56 a0 a1 big ({ x57 with sides.Sender := x56.2.1 }, a2, a1.out.Delivered, 0)).bind fun d58 =>
 some ((x56.1.length : Int), d58.1, d58.2.1, d58.2.2))))

def ei (a0 : Sender) : Nat → (List Unacked × Int) → Option ((List Unacked))
 | 0, _ => none
 | n2 + 1, d68 =>
  bif decide (d68.2 < ((a0.Out.length : Nat) : Int)) then
   ((idx d68.1 d68.2).bind fun x69 =>
   ei a0 n2 ((d68.1.modify ((d68.2).toNat) fun y => { y with Flying := false }), IntKind.wrap .i64 (d68.2 + 1)))
  else
   some d68.1

def iS (a0 : Sender) : Option (List Unacked) :=
 ((
  ei a0 big (a0.Out, 0)).bind fun d67 =>
 some d67)

def gr (a0 : Sender) : Option (Sender × Int) :=
 ((dN a0 true).bind fun x66 =>
 bif (x66.2 != 0) then
  some (Sender.z, x66.2)
 else
  ((iS x66.1).bind fun x67 =>
  some ({ x66.1 with Out := x67 }, 0)))

def fy (a0 : Reorder) : Option (Window × Int) :=
 ((ee a0).bind fun x70 =>
 bif (x70 != 0) then
  some (Window.z, x70)
 else
  some (a0.Seen, 0))

def kS (a0 : Window) (a1 : Int) : Option Bool :=
 ((eV a0 a1).bind fun x77 =>
 bif (x77 != 0) then
  some false
 else
  ((cy a0.Start a1).bind fun x78 =>
  ((
   bif decide (x78 < 64) then
    ((chk (decide (¬ x78 < 0))).bind fun x79 =>
    some ((uP .u64 ((a0.Bits).fdiv (2 ^ (min (x78).toNat 64))) 1) == 1))
   else
    some false).bind fun x80 =>
  some x80)))

def gv (a0 : Unacked) (a1 : Window) : Option Bool :=
 ((
  bif decide (0 < a0.Tries) then
   ((kS a1 a0.Frame.Head.Seq).bind fun x77 =>
   some x77)
  else
   some false).bind fun x78 =>
 some x78)

def et (a0 : Unacked) (a1 : Window) (a2 : List Int) : Option (Bool × List Int) :=
 ((gv a0 a1).bind fun x77 =>
 bif x77 then
  ((chk (decide ((a2.length + 1) * 8 ≤ 140737488355328))).bind fun x78 =>
  some (x77, (a2 ++ [a0.Frame.Head.Seq])))
 else
  some (x77, a2))

def aX (a1 : List Unacked) (a0 : Window) : Nat → (List Int × Int) → Option (Ex (Int × List Int) (List Int))
 | 0, _ => none
 | n2 + 1, d77 =>
  bif decide (d77.2 < ((a1.length : Nat) : Int)) then
   ((idx a1 d77.2).bind fun x78 =>
   ((et x78 a0 d77.1).bind fun x79 =>
   bif x79.1 then
    some (Ex.ret (d77.2, x79.2))
   else
    aX a1 a0 n2 (x79.2, IntKind.wrap .i64 (d77.2 + 1))))
  else
   some (Ex.go d77.1)

def bT (a0 : Window) (a1 : List Unacked) : Option (Int × List Int) :=
 ((
  aX a1 a0 big ([], 0)).bind fun o76 =>
 (o76.k fun d75 =>
 some ((-1), d75)))

def aT (a0 : Window) : Nat → (List Unacked × List Int × Int × Int) → Option ((List Unacked × Int × List Int))
 | 0, _ => none
 | n3 + 1, d77 =>
  bif decide (d77.2.2.2 < ((d77.1.length : Nat) : Int)) then
   ((idx d77.1 d77.2.2.2).bind fun x78 =>
   ((et x78 a0 d77.2.1).bind fun x79 =>
   bif (!x79.1) then
    ((idx d77.1 d77.2.2.1).bind fun x80 =>
    aT a0 n3 ((d77.1.set ((d77.2.2.1).toNat) x78), x79.2, IntKind.wrap .i64 (d77.2.2.1 + 1), IntKind.wrap .i64 (d77.2.2.2 + 1)))
   else
    aT a0 n3 (d77.1, x79.2, d77.2.2.1, IntKind.wrap .i64 (d77.2.2.2 + 1))))
  else
   some (d77.1, d77.2.2.1, d77.2.1)

def bD (a0 : Window) (a1 : List Unacked) : Option (List Unacked × List Int) :=
 ((bT a0 a1).bind fun x75 =>
 bif (x75.1 == (-1)) then
  some (a1, x75.2)
 else
  ((
   aT a0 big (a1, x75.2, x75.1, IntKind.wrap .i64 (x75.1 + 1))).bind fun d76 =>
  ((chk (decide (0 ≤ d76.2.1) && decide (d76.2.1 ≤ (d76.1.length : Int)))).bind fun x81 =>
  ((chk (decide (0 ≤ d76.2.1) && decide (d76.2.1 ≤ (d76.1.length : Int)))).bind fun x82 =>
  some ((List.take ((d76.2.1).toNat) d76.1), d76.2.2)))))

def fP (a0 : Sender) (a1 : Window) : Option (List Int × List Unacked) :=
 ((bD a1 a0.Out).bind fun x75 =>
 some (x75.2, x75.1))

def fI (a0 : Sender) (a1 : Window) : Option ((List Int) × Sender × Int) :=
 ((eD a1).bind fun x73 =>
 ((dN a0 (x73 == 0)).bind fun x74 =>
 bif (x74.2 != 0) then
  some ([], Sender.z, x74.2)
 else
  ((fP x74.1 a1).bind fun x75 =>
  ((iS { x74.1 with Out := x75.2 }).bind fun x76 =>
  some (x75.1, { x74.1 with Out := x76 }, 0)))))

def cI (a0 : Session_session) (a1 : (List Bool)) : Option (Session_session × List Bool × List Int) :=
 ((fc a1).bind fun x65 =>
 bif x65.1 then
  ((gr a0.sides.Sender).bind fun x66 =>
  ((aW x66.2 a0 x65.2).bind fun x67 =>
  some ({ x67 with sides.Sender := x66.1 }, x65.2, a0.out.Acked)))
 else
  ((fy a0.sides.Reorder).bind fun x68 =>
  ((aW x68.2 a0 x65.2).bind fun x69 =>
  ((fI x69.sides.Sender x68.1).bind fun x70 =>
  ((aW x70.2.2 { x69 with out.Acked := a0.out.Acked, out.Delivered := a0.out.Delivered, out.Dropped := a0.out.Dropped } x65.2).bind fun x71 =>
  ((cd { x71 with out.Acked := a0.out.Acked, out.Delivered := a0.out.Delivered, out.Dropped := a0.out.Dropped, sides.Sender := x70.2.1 } x65.2 x70.1).bind fun x72 =>
  ((chk (decide ((a0.out.Acked.length + x72.length) * 8 ≤ 140737488355328))).bind fun x73 =>
  some ({ x71 with sides.Sender := x70.2.1 }, x65.2, (a0.out.Acked ++ x72)))))))))

def cR (b : Reorder) (now : Int) (l : List HeldSeq) : Nat → Option (Ex (List Frame × Reorder × Int) Unit)
 | 0 => some (Ex.go ())
 | c + 1 =>
  ((l[c]?).bind fun x =>
  bif decide ((IntKind.wrap .i64 (x.At + b.Hold)) ≤ now) then
   ((eL x.Frame.Head.Seq 1).bind fun y =>
   ((eC { b with Held := l } y).bind fun z =>
   some (Ex.ret (z.1, { z.2.1 with Held := z.2.2 }, 0))))
  else
   cR b now l c)

def dI (a0 : Reorder) (a1 : Int) : Option ((List Frame) × Reorder × Int) :=
 ((ee a0).bind fun x67 =>
 bif (x67 != 0) then
  some ([], Reorder.z, x67)
 else
  ((eo a1).bind fun x68 =>
  bif (!x68) then
   some ([], Reorder.z, 2)
  else
   ((eE a0.Held).bind fun x69 =>
   ((chk (decide (x69.length < 4611686018427387904))).bind fun x70 =>
   ((cR a0 a1 x69 x69.length).bind fun o71 =>
   (o71.k fun d72 =>
   some ([], { a0 with Held := x69 }, 0)))))))

def de (a0 : Session_session) (a1 : (List Bool)) : Option (Session_session × List Bool × List Int × List Int × List Int) :=
 ((fe a0.sides.Sender (IntKind.wrap .i64 (a0.out.Rounds * a0.plan.Round))).bind fun x35 =>
 ((aW x35.2.2 a0 a1).bind fun x36 =>
 ((cd { x36 with out.Acked := a0.out.Acked, out.Delivered := a0.out.Delivered, out.Dropped := a0.out.Dropped, sides.Sender := x35.2.1 } a1 x35.1).bind fun x37 =>
 ((chk (decide ((a0.out.Dropped.length + x37.length) * 8 ≤ 140737488355328))).bind fun x38 =>
 bif x35.2.1.Bar then
  ((fc a1).bind fun x39 =>
  ((
   bif (!x39.1) then
    ((gH x35.2.1).bind fun x41 =>
    ((cp x41 { x36 with out.Acked := a0.out.Acked, out.Delivered := a0.out.Delivered, out.Dropped := (a0.out.Dropped ++ x37), sides.Sender := x35.2.1 } x39.2).bind fun x42 =>
    ((eG x42.1.sides.Sender).bind fun x43 =>
    ((aW x43.2 { x42.1 with out.Acked := a0.out.Acked, out.Delivered := x42.2, out.Dropped := (a0.out.Dropped ++ x37), sides.Sender := x43.1 } x39.2).bind fun x44 =>
    some (x44, x42.2)))))
   else
    some ({ x36 with sides.Sender := x35.2.1 }, a0.out.Delivered)).bind fun d40 =>
  ((cQ (IntKind.wrap .i64 (a0.out.Rounds * a0.plan.Round)) { d40.1 with out.Acked := a0.out.Acked, out.Delivered := d40.2, out.Dropped := (a0.out.Dropped ++ x37) } x39.2).bind fun x45 =>
  ((c4 (IntKind.wrap .i64 (a0.out.Rounds * a0.plan.Round)) { x45 with out.Acked := a0.out.Acked, out.Delivered := d40.2, out.Dropped := (a0.out.Dropped ++ x37) } x39.2).bind fun x46 =>
  ((
   bif decide (0 < x46.1) then
    ((cI { x46.2.1 with out.Acked := a0.out.Acked, out.Delivered := x46.2.2.2, out.Dropped := (a0.out.Dropped ++ x37) } x46.2.2.1).bind fun x48 =>
    some (x48.1, x48.2.1, x48.2.2))
   else
    some (x46.2.1, x46.2.2.1, a0.out.Acked)).bind fun d47 =>
  ((dI d47.1.sides.Reorder (IntKind.wrap .i64 (a0.out.Rounds * a0.plan.Round))).bind fun x49 =>
  ((aW x49.2.2 { d47.1 with out.Acked := d47.2.2, out.Delivered := x46.2.2.2, out.Dropped := (a0.out.Dropped ++ x37) } d47.2.1).bind fun x50 =>
  ((bI x49.1 { x50 with out.Acked := d47.2.2, out.Delivered := x46.2.2.2, out.Dropped := (a0.out.Dropped ++ x37), sides.Reorder := x49.2.1 } d47.2.1).bind fun x51 =>
  some ({ x50 with out.Acked := d47.2.2, out.Delivered := x46.2.2.2, out.Dropped := (a0.out.Dropped ++ x37), out.Rounds := IntKind.wrap .i64 (x50.out.Rounds + 1), sides.Reorder := x49.2.1 }, d47.2.1, x51, d47.2.2, (a0.out.Dropped ++ x37))))))))))
 else
  ((cQ (IntKind.wrap .i64 (a0.out.Rounds * a0.plan.Round)) { x36 with out.Acked := a0.out.Acked, out.Delivered := a0.out.Delivered, out.Dropped := (a0.out.Dropped ++ x37), sides.Sender := x35.2.1 } a1).bind fun x52 =>
  ((c4 (IntKind.wrap .i64 (a0.out.Rounds * a0.plan.Round)) { x52 with out.Acked := a0.out.Acked, out.Delivered := a0.out.Delivered, out.Dropped := (a0.out.Dropped ++ x37) } a1).bind fun x53 =>
  ((
   bif decide (0 < x53.1) then
    ((cI { x53.2.1 with out.Acked := a0.out.Acked, out.Delivered := x53.2.2.2, out.Dropped := (a0.out.Dropped ++ x37) } x53.2.2.1).bind fun x55 =>
    some (x55.1, x55.2.1, x55.2.2))
   else
    some (x53.2.1, x53.2.2.1, a0.out.Acked)).bind fun d54 =>
  ((dI d54.1.sides.Reorder (IntKind.wrap .i64 (a0.out.Rounds * a0.plan.Round))).bind fun x56 =>
  ((aW x56.2.2 { d54.1 with out.Acked := d54.2.2, out.Delivered := x53.2.2.2, out.Dropped := (a0.out.Dropped ++ x37) } d54.2.1).bind fun x57 =>
  ((bI x56.1 { x57 with out.Acked := d54.2.2, out.Delivered := x53.2.2.2, out.Dropped := (a0.out.Dropped ++ x37), sides.Reorder := x56.2.1 } d54.2.1).bind fun x58 =>
  some ({ x57 with out.Acked := d54.2.2, out.Delivered := x53.2.2.2, out.Dropped := (a0.out.Dropped ++ x37), out.Rounds := IntKind.wrap .i64 (x57.out.Rounds + 1), sides.Reorder := x56.2.1 }, d54.2.1, x58, d54.2.2, (a0.out.Dropped ++ x37))))))))))))

def ej (a1 : Int) : Nat → (Session_session × List Bool × List Int × List Int × List Int) → Option ((Session_session × List Bool × List Int × List Int × List Int))
 | 0, _ => none
 | n4 + 1, d6 =>
  bif ((d6.1.err == 0) && (((decide (d6.1.accepted < a1)) || (decide (0 < (d6.1.sides.Sender.Out.length : Int)))) || d6.1.sides.Sender.Bar)) then
   bif (d6.1.out.Rounds == 2000) then
    ((dU { d6.1 with out.Acked := d6.2.2.2.1, out.Delivered := d6.2.2.1, out.Dropped := d6.2.2.2.2 } d6.2.1).bind fun x7 =>
    some (x7.1, d6.2.1, x7.2.1, d6.2.2.2.1, x7.2.2))
   else
    ((de { d6.1 with out.Acked := d6.2.2.2.1, out.Delivered := d6.2.2.1, out.Dropped := d6.2.2.2.2 } d6.2.1).bind fun x8 =>
    ej a1 n4 (x8.1, x8.2.1, x8.2.2.1, x8.2.2.2.1, x8.2.2.2.2))
  else
   some (d6.1, d6.2.1, d6.2.2.1, d6.2.2.2.1, d6.2.2.2.2)

def gz (a0 : SessionPlan) (a1 : Int) (a2 : (List Bool)) : Option (SessionResult × Int) :=
 ((ii a0).bind fun x2 =>
 bif (x2 != 0) then
  some (SessionResult.z, x2)
 else
  ((cL a1 0 200).bind fun x3 =>
  bif (!x3) then
   some (SessionResult.z, 4)
  else
   ((dW { Session_session.z with many := a1, out.Acked := ([] : List Int), out.Delivered := ([] : List Int), out.Dropped := ([] : List Int), plan := a0 } a2).bind fun x4 =>
   ((
    ej a1 big (x4, a2, ([] : List Int), ([] : List Int), ([] : List Int))).bind fun d5 =>
   bif (d5.1.err != 0) then
    some (SessionResult.z, d5.1.err)
   else
    some ({ d5.1.out with Acked := d5.2.2.2.1, Delivered := d5.2.2.1, Dropped := d5.2.2.2.2 }, 0)))))

def dj (a0 : (List Int)) (a1 : (List Int)) : Nat → Int → Option (Ex Bool Unit)
 | 0, _ => none
 | n3 + 1, d26 =>
  bif decide (d26 < (a0.length : Int)) then
   ((idx a0 d26).bind fun x27 =>
   ((idx a1 d26).bind fun x28 =>
   bif (x27 != x28) then
    some (Ex.ret false)
   else
    dj a0 a1 n3 (IntKind.wrap .i64 (d26 + 1))))
  else
   some (Ex.go ())

def dV (a0 : (List Int)) (a1 : (List Int)) : Option Bool :=
 bif ((a0.length : Int) != (a1.length : Int)) then
  some false
 else
  ((
   dj a0 a1 big 0).bind fun o25 =>
  (o25.k fun d24 =>
  some true))

def eW (a0 : (List Bool)) (a1 : (List Int)) (a2 : (List Int)) (a3 : (List Int)) : Option (Int × Bool) :=
 (gu.bind fun x22 =>
 ((gz x22 3 a0).bind fun x23 =>
 ((
  bif (x23.2 == 0) then
   ((dV x23.1.Delivered a1).bind fun x24 =>
   some x24)
  else
   some false).bind fun x25 =>
 ((
  bif x25 then
   ((dV x23.1.Acked a2).bind fun x26 =>
   some x26)
  else
   some false).bind fun x27 =>
 ((
  bif x27 then
   ((dV x23.1.Dropped a3).bind fun x28 =>
   some x28)
  else
   some false).bind fun x29 =>
 some (x23.1.Rounds, x29))))))

def fG : Option Bool :=
 ((eW [] [0, 1, 2] [0, 1, 2] []).bind fun x22 =>
 ((eW [true] [0, 1, 2] [1, 0, 2] []).bind fun x23 =>
 ((eW [true, false, false, true] [1, 2] [1, 2] [0]).bind fun x24 =>
 some ((((x22.2 && (x22.1 == 2)) && x23.2) && (x23.1 == 3)) && x24.2))))

def cA (a0 : (List Int)) (a1 : Int) : Nat → (Int × Int) → Option (Int)
 | 0, _ => none
 | n2 + 1, d33 =>
  bif decide (d33.2 < (a0.length : Int)) then
   ((idx a0 d33.2).bind fun x34 =>
   bif (x34 == a1) then
    cA a0 a1 n2 (IntKind.wrap .i64 (d33.1 + 1), IntKind.wrap .i64 (d33.2 + 1))
   else
    cA a0 a1 n2 (d33.1, IntKind.wrap .i64 (d33.2 + 1)))
  else
   some d33.1

def dz (a0 : (List Int)) (a1 : Int) : Option Int :=
 ((
  cA a0 a1 big (0, 0)).bind fun d32 =>
 some d32)

def bM (a1 : Int) (x38 : (SessionResult × Int)) : Nat → Int → Option (Ex Bool Unit)
 | 0, _ => none
 | n5 + 1, d41 =>
  bif decide (d41 < a1) then
   ((dz x38.1.Acked d41).bind fun x42 =>
   ((dz x38.1.Dropped d41).bind fun x43 =>
   ((
    bif ((IntKind.wrap .i64 (x42 + x43)) != 1) then
     some true
    else
     ((dz x38.1.Acked d41).bind fun x44 =>
     ((
      bif (x44 == 1) then
       ((dz x38.1.Delivered d41).bind fun x45 =>
       some (x45 != 1))
      else
       some false).bind fun x46 =>
     some x46))).bind fun x47 =>
   bif x47 then
    some (Ex.ret false)
   else
    bM a1 x38 n5 (IntKind.wrap .i64 (d41 + 1)))))
  else
   some (Ex.go ())

def d9 (a0 : SessionPlan) (a1 : Int) (a2 : (List Bool)) : Option Bool :=
 (fG.bind fun x37 =>
 bif ((decide (5000 < (a2.length : Int))) || (!x37)) then
  some x37
 else
  ((gz a0 a1 a2).bind fun x38 =>
  bif (x38.2 != 0) then
   some x37
  else
   ((
    bM a1 x38 big 0).bind fun o40 =>
   (o40.k fun d39 =>
   some (((x37 && ((IntKind.wrap .i64 ((x38.1.Acked.length : Int) + (x38.1.Dropped.length : Int))) == a1)) && (decide (x38.1.Rounds ≤ 2000))) && ((decide (0 < a1)) == (decide (0 < x38.1.Rounds))))))))

def ku (a0 : Int) : Option Bool :=
 some ((decide (0 ≤ a0)) && (decide (a0 ≤ 4095)))

end Go.AX.Z.TN

/-! (TNF) -/

namespace Go.AX.Z.TN
open Go.AX Go.Proofs

def tab : List (TypeId × List (Option IntKind)) :=
 []

noncomputable def K : Ctx := ⟨Try.prog, fun _ => none, Jj tab⟩

theorem Kn : agB K.P 113 = some true := by kernel_rfl
theorem M6 : agB K.P 23 = some true := by kernel_rfl
theorem L1 : agB K.P 25 = some false := by kernel_rfl
theorem MD : agB K.P 27 = some true := by kernel_rfl
theorem MJ : agB K.P 28 = some false := by kernel_rfl
theorem ag3 : agB K.P 3 = some false := by kernel_rfl
theorem La : agB K.P 31 = some false := by kernel_rfl
theorem Lb : agB K.P 34 = some false := by kernel_rfl
theorem ag4 : agB K.P 4 = some false := by kernel_rfl
theorem Lh : agB K.P 43 = some false := by kernel_rfl
theorem MR : agB K.P 45 = some true := by kernel_rfl
theorem MB : agB K.P 46 = some false := by kernel_rfl
theorem Mt : agB K.P 47 = some false := by kernel_rfl
theorem Mf : agB K.P 49 = some true := by kernel_rfl
theorem ag5 : agB K.P 5 = some false := by kernel_rfl
theorem LH : agB K.P 51 = some true := by kernel_rfl
theorem Mb : agB K.P 53 = some true := by kernel_rfl
theorem LM : agB K.P 63 = some true := by kernel_rfl
theorem Md : agB K.P 79 = some false := by kernel_rfl
theorem Mj : agB K.P 89 = some true := by kernel_rfl
theorem K8 : agB K.P 90 = some false := by kernel_rfl
theorem Mm : agB K.P 92 = some true := by kernel_rfl
theorem Ml : agB K.P 94 = some true := by kernel_rfl
theorem LV : agB K.P 99 = some false := by kernel_rfl
theorem J4 : ta K.P 113 = some [(0, 1), (1, 41)] := by kernel_rfl
theorem LI : ta K.P 23 = some [(0, 1), (1, 1), (2, 1), (3, 1), (4, 1), (5, 1), (6, 1)] := by kernel_rfl
theorem Mr : ta K.P 27 = some [(0, 1), (1, 1), (2, 1), (3, 1)] := by kernel_rfl
theorem M7 : ta K.P 45 = some [(0, 1), (1, 1), (2, 1), (3, 1), (4, 1), (5, 1), (6, 1), (7, 1), (8, 1)] := by kernel_rfl
theorem Lc : ta K.P 49 = some [(0, 1), (1, 1)] := by kernel_rfl
theorem MK : ta K.P 51 = some [(0, 1), (1, 1), (2, 1), (3, 1), (4, 2)] := by kernel_rfl
theorem Lx : ta K.P 55 = some [(0, 15), (15, 7), (22, 1), (23, 1), (24, 1), (25, 4), (29, 1)] := by kernel_rfl
theorem Mk : ta K.P 63 = some [(0, 1), (1, 1), (2, 1), (3, 1)] := by kernel_rfl
theorem LX : ta K.P 68 = some [(0, 1), (1, 1), (2, 1), (3, 1)] := by kernel_rfl
theorem MU : ta K.P 92 = some [(0, 40), (40, 1)] := by kernel_rfl
theorem MG : ta K.P 94 = some [(0, 1), (1, 1), (2, 1), (3, 41)] := by kernel_rfl
theorem Kb : rm K.P 113 = some 112 := by kernel_rfl
theorem Mq : rm K.P 23 = some 56 := by kernel_rfl
theorem by3 : rm K.P 3 = some 8 := by kernel_rfl
theorem by4 : rm K.P 4 = some 1 := by kernel_rfl
theorem by5 : rm K.P 5 = some 1 := by kernel_rfl
theorem Mg : rm K.P 92 = some 104 := by kernel_rfl
theorem MZ : rm K.P 94 = some 128 := by kernel_rfl
theorem LA : elS K.P 25 = some 3 := by kernel_rfl
theorem LU : elS K.P 31 = some 4 := by kernel_rfl
theorem MI : elS K.P 32 = some 23 := by kernel_rfl
theorem Mp : elS K.P 43 = some 94 := by kernel_rfl
theorem Kg : elS K.P 46 = some 113 := by kernel_rfl
theorem Mi : elS K.P 79 = some 92 := by kernel_rfl
theorem MX : elS K.P 90 = some 5 := by kernel_rfl
theorem L8 : elS K.P 3 = none := by kernel_rfl
theorem FM : flE K.P 113 0 = some (0, 3) := by kernel_rfl
theorem Gr : flE K.P 113 1 = some (1, 92) := by kernel_rfl
theorem Io : flE K.P 23 0 = some (0, 3) := by kernel_rfl
theorem Ih : flE K.P 23 1 = some (1, 3) := by kernel_rfl
theorem IE : flE K.P 23 2 = some (2, 3) := by kernel_rfl
theorem Jg : flE K.P 23 3 = some (3, 3) := by kernel_rfl
theorem H8 : flE K.P 23 4 = some (4, 3) := by kernel_rfl
theorem JP : flE K.P 23 5 = some (5, 3) := by kernel_rfl
theorem I9 : flE K.P 23 6 = some (6, 3) := by kernel_rfl
theorem H3 : flE K.P 27 0 = some (0, 25) := by kernel_rfl
theorem IF : flE K.P 27 1 = some (1, 25) := by kernel_rfl
theorem Hp : flE K.P 27 2 = some (2, 25) := by kernel_rfl
theorem HI : flE K.P 27 3 = some (3, 3) := by kernel_rfl
theorem HA : flE K.P 45 0 = some (0, 3) := by kernel_rfl
theorem Hz : flE K.P 45 1 = some (1, 5) := by kernel_rfl
theorem IQ : flE K.P 45 2 = some (2, 3) := by kernel_rfl
theorem Jc : flE K.P 45 3 = some (3, 3) := by kernel_rfl
theorem G3 : flE K.P 45 4 = some (4, 3) := by kernel_rfl
theorem Ja : flE K.P 45 5 = some (5, 3) := by kernel_rfl
theorem IU : flE K.P 45 6 = some (6, 3) := by kernel_rfl
theorem Jt : flE K.P 45 7 = some (7, 43) := by kernel_rfl
theorem IX : flE K.P 45 8 = some (8, 4) := by kernel_rfl
theorem HQ : flE K.P 49 0 = some (0, 3) := by kernel_rfl
theorem IB : flE K.P 49 1 = some (1, 47) := by kernel_rfl
theorem Jh : flE K.P 51 0 = some (0, 3) := by kernel_rfl
theorem Il : flE K.P 51 1 = some (1, 3) := by kernel_rfl
theorem IS : flE K.P 51 2 = some (2, 3) := by kernel_rfl
theorem I7 : flE K.P 51 3 = some (3, 46) := by kernel_rfl
theorem Hr : flE K.P 51 4 = some (4, 49) := by kernel_rfl
theorem Jk : flE K.P 53 0 = some (0, 45) := by kernel_rfl
theorem ID : flE K.P 53 1 = some (9, 51) := by kernel_rfl
theorem Jn : flE K.P 55 0 = some (0, 53) := by kernel_rfl
theorem Jw : flE K.P 55 1 = some (15, 23) := by kernel_rfl
theorem HT : flE K.P 55 2 = some (22, 3) := by kernel_rfl
theorem HF : flE K.P 55 3 = some (23, 3) := by kernel_rfl
theorem Id : flE K.P 55 4 = some (24, 34) := by kernel_rfl
theorem Ir : flE K.P 55 5 = some (25, 27) := by kernel_rfl
theorem HK : flE K.P 55 6 = some (29, 28) := by kernel_rfl
theorem G5 : flE K.P 63 0 = some (0, 3) := by kernel_rfl
theorem Jf : flE K.P 68 0 = some (0, 3) := by kernel_rfl
theorem HN : flE K.P 68 1 = some (1, 3) := by kernel_rfl
theorem IJ : flE K.P 68 2 = some (2, 3) := by kernel_rfl
theorem I4 : flE K.P 68 3 = some (3, 3) := by kernel_rfl
theorem GE : flE K.P 89 14 = some (34, 3) := by kernel_rfl
theorem Fb : flE K.P 89 16 = some (36, 3) := by kernel_rfl
theorem Ip : flE K.P 89 5 = some (5, 4) := by kernel_rfl
theorem Hn : flE K.P 92 0 = some (0, 89) := by kernel_rfl
theorem JK : flE K.P 92 1 = some (40, 90) := by kernel_rfl
theorem Iw : flE K.P 94 0 = some (0, 3) := by kernel_rfl
theorem HX : flE K.P 94 1 = some (1, 3) := by kernel_rfl
theorem IH : flE K.P 94 2 = some (2, 4) := by kernel_rfl
theorem Ie : flE K.P 94 3 = some (3, 92) := by kernel_rfl
theorem Kt : inK K.P 133 = some .u64 := by kernel_rfl
theorem in3 : inK K.P 3 = some .i64 := by kernel_rfl
theorem LQ : inK K.P 47 = some .u64 := by kernel_rfl
theorem MW : Gz K.P 4 = true := by kernel_rfl
theorem GX : cw K.P 113 = some 42 := by kernel_rfl
theorem ML : cw K.P 23 = some 7 := by kernel_rfl
theorem LO : cw K.P 25 = some 1 := by kernel_rfl
theorem K7 : cw K.P 27 = some 4 := by kernel_rfl
theorem M2 : cw K.P 28 = some 1 := by kernel_rfl
theorem sz3 : cw K.P 3 = some 1 := by kernel_rfl
theorem MP : cw K.P 31 = some 1 := by kernel_rfl
theorem L5 : cw K.P 34 = some 1 := by kernel_rfl
theorem sz4 : cw K.P 4 = some 1 := by kernel_rfl
theorem LL : cw K.P 43 = some 1 := by kernel_rfl
theorem MA : cw K.P 45 = some 9 := by kernel_rfl
theorem LD : cw K.P 46 = some 1 := by kernel_rfl
theorem L7 : cw K.P 47 = some 1 := by kernel_rfl
theorem L9 : cw K.P 49 = some 2 := by kernel_rfl
theorem sz5 : cw K.P 5 = some 1 := by kernel_rfl
theorem LC : cw K.P 51 = some 6 := by kernel_rfl
theorem Mh : cw K.P 53 = some 15 := by kernel_rfl
theorem LK : cw K.P 63 = some 4 := by kernel_rfl
theorem Mx : cw K.P 79 = some 1 := by kernel_rfl
theorem LP : cw K.P 89 = some 40 := by kernel_rfl
theorem Le : cw K.P 90 = some 1 := by kernel_rfl
theorem My : cw K.P 92 = some 41 := by kernel_rfl
theorem LT : cw K.P 94 = some 44 := by kernel_rfl
theorem LW : cw K.P 99 = some 1 := by kernel_rfl
theorem KY : K.P.underlying 133 = some (.int .u64) := by kernel_rfl
theorem MO : K.P.underlying 25 = some (.slice 3) := by kernel_rfl
theorem un3 : K.P.underlying 3 = some (.int .i64) := by kernel_rfl
theorem Lq : K.P.underlying 31 = some (.slice 4) := by kernel_rfl
theorem M0 : K.P.underlying 32 = some (.slice 23) := by kernel_rfl
theorem Lk : K.P.underlying 43 = some (.slice 94) := by kernel_rfl
theorem Lu : K.P.underlying 46 = some (.slice 113) := by kernel_rfl
theorem MV : K.P.underlying 47 = some (.int .u64) := by kernel_rfl
theorem K4 : K.P.underlying 79 = some (.slice 92) := by kernel_rfl
theorem Lt : K.P.underlying 90 = some (.slice 5) := by kernel_rfl
theorem KA : zer K.P 113 = some (bS HeldSeq.z cG) := by kernel_rfl
theorem MT : zer K.P 23 = some (am SessionPlan.z) := by kernel_rfl
theorem Lv : zer K.P 25 = some [.v (.slice none 0 0)] := by kernel_rfl
theorem M8 : zer K.P 27 = some (az SessionResult.z cG cG cG) := by kernel_rfl
theorem Lw : zer K.P 28 = some [.v (.int .i64 0)] := by kernel_rfl
theorem ze3 : zer K.P 3 = some [.v (.int .i64 0)] := by kernel_rfl
theorem ze4 : zer K.P 4 = some [.v (.bool false)] := by kernel_rfl
theorem L3 : zer K.P 45 = some (av Sender.z cG) := by kernel_rfl
theorem L4 : zer K.P 49 = some (aU Window.z) := by kernel_rfl
theorem ze5 : zer K.P 5 = some [.v (.int .u8 0)] := by kernel_rfl
theorem LF : zer K.P 51 = some (aB Reorder.z cG) := by kernel_rfl
theorem Ld : zer K.P 55 = some (ae Session_session.z cG cG (.v .nilFunc) cG cG cG) := by kernel_rfl
theorem Lj : zer K.P 63 = some (bu BlockAsk.z) := by kernel_rfl
theorem L6 : zer K.P 68 = some (bf BlockAnswer.z) := by kernel_rfl
theorem M5 : zer K.P 79 = some [.v (.slice none 0 0)] := by kernel_rfl
theorem Mu : zer K.P 92 = some (bm Frame.z cG) := by kernel_rfl
theorem Ms : zer K.P 94 = some (bh Unacked.z cG) := by kernel_rfl
attribute [go_sem] Kn M6 L1 MD MJ ag3 La Lb ag4 Lh MR MB Mt Mf ag5 LH Mb LM Md Mj K8 Mm Ml LV J4 LI Mr M7 Lc MK Lx Mk LX MU MG Kb Mq by3 by4 by5 Mg MZ LA LU MI Mp Kg Mi MX L8 FM Gr Io Ih IE Jg H8 JP I9 H3 IF Hp HI HA Hz IQ Jc G3 Ja IU Jt IX HQ IB Jh Il IS I7 Hr Jk ID Jn Jw HT HF Id Ir HK G5 Jf HN IJ I4 GE Fb Ip Hn JK Iw HX IH Ie Kt in3 LQ MW GX ML LO K7 M2 sz3 MP L5 sz4 LL MA LD L7 L9 sz5 LC Mh LK Mx LP Le My LT LW KY MO un3 Lq M0 Lk Lu MV K4 Lt KA MT Lv M8 Lw ze3 ze4 L3 L4 ze5 LF Ld Lj L6 M5 Mu Ms
theorem mixed : K.P.follows .mixedOrders = true := by kernel_rfl
theorem hC : COk K := ⟨F0.of_tab (tab := tab) rfl (by kernel_rfl), mixed⟩
theorem rs9 : Try.f9.results = #[.cell 0 23] := rfl
theorem LB : Try.f16.results = #[.tmp 6] := rfl
theorem Kj : Try.f11.results = #[.tmp 2] := rfl
theorem MN : Try.f40.results = #[.tmp 6] := rfl
theorem JZ : Try.f48.results = #[.tmp 2] := rfl
theorem Lm : Try.f43.results = #[.tmp 4] := rfl
theorem Gj : Try.f39.results = #[.tmp 2] := rfl
theorem J6 : Try.f23.results = #[.cell 8 45, .tmp 9] := rfl
theorem KH : Try.f24.results = #[] := rfl
theorem Mc : Try.f60.results = #[.cell 2 92] := rfl
theorem Ly : Try.f41.results = #[.cell 2 45] := rfl
theorem FN : Try.f25.results = #[.cell 4 63, .cell 5 45, .tmp 6] := rfl
theorem De : Try.f26.results = #[.cell 4 45, .tmp 5] := rfl
theorem M4 : Try.f61.results = #[.tmp 2] := rfl
theorem K6 : Try.f72.results = #[.tmp 2] := rfl
theorem Kq : Try.f62.results = #[.tmp 2] := rfl
theorem Me : Try.f55.results = #[.tmp 2] := rfl
theorem Iv : Try.f42.results = #[.tmp 2] := rfl
theorem Ku : Try.f27.results = #[.cell 6 51, .tmp 7] := rfl
theorem Mn : Try.f18.results = #[] := rfl
theorem Kf : Try.f28.results = #[.tmp 2, .cell 3 45, .tmp 4] := rfl
theorem LS : Try.f29.results = #[.tmp 4] := rfl
theorem Ln : Try.f56.results = #[.tmp 2] := rfl
theorem LE : Try.f75.results = #[.tmp 5] := rfl
theorem KR : Try.f74.results = #[.tmp 6, .tmp 7] := rfl
theorem LZ : Try.f65.results = #[.tmp 4, .tmp 5] := rfl
theorem MM : Try.f59.results = #[.tmp 4] := rfl
theorem M1 : Try.f58.results = #[.tmp 4, .cell 5 51] := rfl
theorem EQ : Try.f44.results = #[.tmp 4, .cell 5 51, .tmp 6] := rfl
theorem MY : Try.f38.results = #[] := rfl
theorem Lf : Try.f30.results = #[] := rfl
theorem MH : Try.f19.results = #[] := rfl
theorem Gh : Try.f45.results = #[.cell 4 45, .tmp 5] := rfl
theorem L2 : Try.f47.results = #[.tmp 4] := rfl
theorem EP : Try.f64.results = #[.tmp 4] := rfl
theorem FH : Try.f73.results = #[.tmp 4] := rfl
theorem E8 : Try.f63.results = #[.tmp 4] := rfl
theorem KO : Try.f46.results = #[.cell 4 25] := rfl
theorem Ks : Try.f31.results = #[.tmp 4, .cell 5 45, .tmp 6] := rfl
theorem KN : Try.f17.results = #[.tmp 1] := rfl
theorem Kk : Try.f32.results = #[.tmp 2] := rfl
theorem Hq : Try.f33.results = #[.cell 2 45, .tmp 3] := rfl
theorem ED : Try.f49.results = #[.cell 6 92, .cell 7 45, .tmp 8] := rfl
theorem KJ : Try.f34.results = #[] := rfl
theorem Kd : Try.f50.results = #[.tmp 4, .cell 5 45, .tmp 6] := rfl
theorem I5 : Try.f80.results = #[.tmp 4] := rfl
theorem I0 : Try.f76.results = #[.cell 4 49, .tmp 5] := rfl
theorem JG : Try.f77.results = #[.cell 4 49, .tmp 5] := rfl
theorem KV : Try.f66.results = #[.cell 4 49] := rfl
theorem Gm : Try.f67.results = #[.tmp 6] := rfl
theorem F2 : Try.f51.results = #[.tmp 6, .cell 7 51, .tmp 8] := rfl
theorem LY : Try.f35.results = #[.tmp 4] := rfl
theorem LG : Try.f68.results = #[] := rfl
theorem KG : Try.f52.results = #[.cell 2 45, .tmp 3] := rfl
theorem J3 : Try.f53.results = #[.cell 2 49, .tmp 3] := rfl
theorem KI : Try.f70.results = #[.tmp 4] := rfl
theorem Li : Try.f69.results = #[.tmp 3] := rfl
theorem Kw : Try.f54.results = #[.tmp 4, .cell 5 45, .tmp 6] := rfl
theorem KB : Try.f36.results = #[] := rfl
theorem Kv : Try.f37.results = #[.cell 4 79, .cell 5 51, .cell 6 28] := rfl
theorem KX : Try.f20.results = #[] := rfl
theorem Fe : Try.f10.results = #[.cell 6 27, .tmp 7] := rfl
theorem Jz : Try.f22.results = #[.tmp 4] := rfl
theorem MQ : Try.f21.results = #[.tmp 8, .tmp 9] := rfl
theorem LN : Try.f12.results = #[.tmp 0] := rfl
theorem Lg : Try.f14.results = #[.tmp 4] := rfl
theorem rs5 : Try.f5.results = #[.tmp 6] := rfl
end Go.AX.Z.TN

/-! (TNI) -/

set_option linter.unusedSimpArgs false
set_option linter.unusedVariables false
set_option maxHeartbeats 1000000
namespace Go.AX.Z.TN
open Go.AX Go.Proofs

/-- What slices.Backward hands out. -/
def rP (l : List HeldSeq) : List (List AV) := (List.range l.length).map fun i => [vi ((l.length - 1 - i : Nat) : Int), match l[l.length - 1 - i]? with | some x => .agg (ai x) | none => .unk]
theorem sE (l : List HeldSeq) : (rP l).length = l.length := by simp [rP]
theorem xC {l : List HeldSeq} {k i : Nat} {x : HeldSeq} (hk : k + i + 1 = l.length) (hx : l[i]? = some x) : (rP l)[k]? = some [vi (i : Int), .agg (ai x)] := by
 have e : l.length - 1 - k = i := by omega
 have h : (List.range l.length)[k]? = some k := by rw [List.getElem?_range (by omega)]
 unfold rP
 rw [List.getElem?_map, h]
 simp only [Option.map_some, e, hx]
theorem xI {l : List HeldSeq} {k : Nat} {x : List AV} (h : (rP l)[k]? = some x) : ∃ i e, k + i + 1 = l.length ∧ l[i]? = some e ∧ x = [vi (i : Int), .agg (ai e)] := by
 have hk : k < l.length := by rw [← sE l]; exact (List.getElem?_eq_some_iff.1 h).1
 have hi : l.length - 1 - k < l.length := by omega
 have := xC (k := k) (i := l.length - 1 - k) (by omega) (List.getElem?_eq_getElem hi)
 rw [h] at this
 cases this
 exact ⟨_, _, by omega, List.getElem?_eq_getElem hi, rfl⟩

def tB (y : Value) (q : Nat) : Nat → AV := upd (upd (fun _ => .unk) 1 (.ptr q 0)) 0 (.v y)

theorem CG (l : List HeldSeq) (hL : l.length < 4611686018427387904) (p q : Nat) : J5 K 71 [.ptr p 0] (fun hs => hs.objs p = .live [.ref q 0 l.length 42] ∧ hs.objs q = .live (List.flatMap ai l)) (rP l) := by
 intro lo lb ρ0 V0 J Jx hlb hJ hJx hJc hJxc hy ρ V hs W h0
 have hAb : ∀ i, Abides K (J i) := fun i => ⟨fun ρ V hs W h => ⟨(hJ i ρ V hs W h).2.1, (hJ i ρ V hs W h).2.2.1⟩, hJc i⟩
 have hAx : Abides K Jx := ⟨hJx, hJxc⟩
 obtain ⟨loc, hloc, rfl⟩ : ∃ loc, ρ0 p = some loc ∧ lb = #[.pointer (some ⟨loc.b, loc.base + 0, none⟩)] := by
  obtain ⟨e1, e2⟩ := hlb
  obtain ⟨lb⟩ := lb
  match lb, e1, e2 with
  | [y], _, e2 =>
   have := e2 0 _ y rfl rfl
   cases this with
   | ptr _ _ loc h => exact ⟨loc, h, rfl⟩
 obtain ⟨Y, hY⟩ : ∃ Y, Value.func (.yield lo) #[] #[] = Y := ⟨_, rfl⟩
 refine callsIn_of_wp (fn := Try.f71) Try.func71 rfl trivial ?_ rfl
 have hst0 := StJ.start (N := Try.f71.ntmps) (t := tB Y p) (J := J 0) (args := #[.func (.yield lo) #[] #[]] ++ #[.pointer (some ⟨loc.b, loc.base + 0, none⟩)]) (by show 2 ≤ 19; decide) h0 (fun i y hy => by
  match i, hy with
  | 0, hy => cases hy; rw [hY]; exact .v _
  | 1, hy => cases hy; exact .ptr p 0 loc ((hJ 0 _ _ _ _ h0).1.rho _ _ hloc)) (fun i hi => by
  have hi : 2 ≤ i := hi
  unfold tB
  rw [ba _ _ (by omega), ba _ _ (by omega)])
 have hRd : ∀ i ρ V hs W, J i ρ V hs W → hs.objs p = .live [.ref q 0 l.length 42] ∧ hs.objs q = .live (List.flatMap ai l) := fun i ρ V hs W h => (hJ i ρ V hs W h).2.2.2
 refine wpIn_seq ?_
 obtain ⟨r1, r2⟩ := hRd _ _ _ _ _ hst0.j
 refine pL hC (hAb 0) (by decide +kernel) (by decide +kernel) (K := fun t => t 0 = .v Y ∧ t 1 = .ptr p 0 ∧ t 3 = vi ((l.length : Int) - 1)) hst0 ?_ ?_
 ·
  unfold tB
  simp only [go_sem, Nat.reduceEqDiff, reduceIte, Nat.reduceAdd, Nat.reduceMul, Nat.reduceSub, Nat.reduceLT, Nat.reduceLeDiff, Int.reduceToNat, Int.reduceBEq, Int.reduceBNe, Int.reduceLT, Int.reduceLE, Int.reduceAdd, Int.reduceSub, Int.reduceMul, Int.reduceNeg, Int.reduceEq, Int.reduceNe, r1, kw (show -4611686018427387904 ≤ (l.length : Int) - 1 by omega) (show (l.length : Int) - 1 < 4611686018427387904 by omega)]
  try exact ⟨rfl, rfl, rfl, rfl⟩
 intro ρ1 V1 hs1 a1 W1 t1 ⟨e0, e1, e3⟩ _ hst1
 refine wpIn_block ?_
 refine wpIn_loop (I := fun a w => ∃ (k c : Nat) (ρ : Rho) (V : bv) (hs : HS) (t : Nat → AV), k + c = l.length ∧ t 0 = .v Y ∧ t 1 = .ptr p 0 ∧ t 3 = vi ((c : Int) - 1) ∧ StJ Try.f71.ntmps t (J k) ρ V hs a w)
  (fun a _ => (match a.tmps.getD 3 undef with | .int _ n => (n + 1).toNat | _ => 0)) ⟨0, l.length, ρ1, V1, hs1, t1, by omega, e0, e1, e3, hst1⟩ ?_
 rintro a w ⟨k, c, ρ2, V2, hs2, t2, hk, e0, e1, e3, hst2⟩
 have hk3 : a.tmps.getD 3 undef = .int .i64 ((c : Int) - 1) := by
  have := hst2.tm 3
  rw [e3] at this
  exact Rel.v_inv this
 refine wpIn_seq ?_
 refine wpIn_seq ?_
 refine pL hC (hAb _) (by decide +kernel) (by decide +kernel) (K := fun t => t 0 = .v Y ∧ t 1 = .ptr p 0 ∧ t 3 = vi ((c : Int) - 1) ∧ t 8 = vb (decide (0 ≤ (c : Int) - 1))) hst2 ?_ ?_
 ·
  simp only [go_sem, Nat.reduceEqDiff, reduceIte, Nat.reduceAdd, Nat.reduceMul, Nat.reduceSub, Nat.reduceLT, Nat.reduceLeDiff, Int.reduceToNat, Int.reduceBEq, Int.reduceBNe, Int.reduceLT, Int.reduceLE, Int.reduceAdd, Int.reduceSub, Int.reduceMul, Int.reduceNeg, Int.reduceEq, Int.reduceNe, e0, e1, e3]
  try exact ⟨rfl, rfl, rfl, rfl, rfl⟩
 intro ρ3 V3 hs3 a3 W3 t3 ⟨e0, e1, e3, e8⟩ _ hst3
 have hc8 : a3.eval (.tmp 8) = .bool (decide (0 ≤ (c : Int) - 1)) := by
  have := jy (C := K) (s := { toHS := hs3, tmps := t3 }) hst3.tm ((hAb _).inv _ _ _ _ hst3.j).2 (.tmp 8)
  rw [show ev K { toHS := hs3, tmps := t3 } (.tmp 8) = t3 8 from rfl, e8] at this
  exact Rel.v_inv this
 refine wpIn_cond_split hc8 (fun hlt => ?_) (fun hge => ?_)
 ·
  obtain ⟨i, rfl⟩ : ∃ i, c = i + 1 := ⟨c - 1, by have := of_decide_eq_true hlt; omega⟩
  have e3 : t3 3 = vi (i : Int) := by rw [e3]; congr 2; omega
  have hil : i < l.length := by omega
  obtain ⟨x, hx⟩ : ∃ x, l[i]? = some x := ⟨_, List.getElem?_eq_getElem hil⟩
  refine wpIn_skip ?_
  refine wpIn_seq ?_
  refine wpIn_block ?_
  refine wpIn_seq ?_
  obtain ⟨r1, r2⟩ := hRd _ _ _ _ _ hst3.j
  obtain ⟨f0, f1, f2, f3⟩ := ct (show idx l (i : Int) = some x by rw [mq]; exact hx)
  rw [Int.toNat_natCast] at f2
  refine AI hC (hAb _) (hAb (k + 1)) hAx (by decide +kernel) (by decide +kernel) 6 _ rfl (l := lo) rfl rfl rfl (x := [vi (i : Int), .agg (ai x)]) (b := true) hst3
   (K1 := fun t => t 0 = .v Y ∧ t 1 = .ptr p 0 ∧ t 3 = vi (i : Int) ∧ t 11 = .v Y ∧ t 12 = vi (i : Int) ∧ t 16 = .agg (ai x))
   (K2 := fun r t => t 0 = .v Y ∧ t 1 = .ptr p 0 ∧ t 3 = vi (i : Int) ∧ t 18 = vb (match r with | some false => true | _ => false)) ?_ ?_ ?_ ?_ ?_ ?_ ?_ ?_
  ·
   simp only [go_sem, Nat.reduceEqDiff, reduceIte, Nat.reduceAdd, Nat.reduceMul, Nat.reduceSub, Nat.reduceLT, Nat.reduceLeDiff, Int.reduceToNat, Int.reduceBEq, Int.reduceBNe, Int.reduceLT, Int.reduceLE, Int.reduceAdd, Int.reduceSub, Int.reduceMul, Int.reduceNeg, Int.reduceEq, Int.reduceNe, e0, e1, e3, r1, r2, f0, f1, f2, Int.toNat_natCast]
   try exact ⟨rfl, rfl, rfl, rfl, rfl, rfl⟩
  ·
   rintro t1 _
   exact .inl ⟨rfl, rfl⟩
  ·
   rintro _ t1 hs' ⟨_, _, _, h11, h12, h16⟩
   exact ⟨by rw [hY]; exact h11, by show [t1 12, t1 16] = _; rw [h12, h16]⟩
  ·
   intro _ ρ' V' hs' W' args' _ hj hargs
   exact hy _ _ _ _ _ _ _ hj (xC (by omega) hx) hargs
  ·
   rintro r t1 hs' ⟨e0, e1, e3, _⟩ hr
   cases r with
   | none => cases hr
   | some r =>
    cases r <;> simp only [go_sem, Nat.reduceEqDiff, reduceIte, Nat.reduceAdd, Nat.reduceMul, Nat.reduceSub, Nat.reduceLT, Nat.reduceLeDiff, Int.reduceToNat, Int.reduceBEq, Int.reduceBNe, Int.reduceLT, Int.reduceLE, Int.reduceAdd, Int.reduceSub, Int.reduceMul, Int.reduceNeg, Int.reduceEq, Int.reduceNe, e0, e1, e3] <;> first | rfl | exact ⟨rfl, rfl, rfl, rfl, rfl⟩
  ·
   intro h; cases h
  ·
   rintro _ ρ5 V5 hs5 a5 W5 t5 ⟨e0, e1, e3, e18⟩ _ hst5
   have hc : a5.eval (.tmp 18) = .bool false := by
    have := jy (C := K) (s := { toHS := hs5, tmps := t5 }) hst5.tm ((hAb _).inv _ _ _ _ hst5.j).2 (.tmp 18)
    rw [show ev K { toHS := hs5, tmps := t5 } (.tmp 18) = t5 18 from rfl, e18] at this
    exact Rel.v_inv this
   refine wpIn_cond_false hc (wpIn_skip ?_)
   refine pL hC (hAb _) (by decide +kernel) (by decide +kernel) (K := fun t => t 0 = .v Y ∧ t 1 = .ptr p 0 ∧ t 3 = vi ((i : Int) - 1)) hst5 ?_ ?_
   ·
    simp only [go_sem, Nat.reduceEqDiff, reduceIte, Nat.reduceAdd, Nat.reduceMul, Nat.reduceSub, Nat.reduceLT, Nat.reduceLeDiff, Int.reduceToNat, Int.reduceBEq, Int.reduceBNe, Int.reduceLT, Int.reduceLE, Int.reduceAdd, Int.reduceSub, Int.reduceMul, Int.reduceNeg, Int.reduceEq, Int.reduceNe, e0, e1, e3, kw (show -4611686018427387904 ≤ (i : Int) - 1 by omega) (show (i : Int) - 1 < 4611686018427387904 by omega)]
    try exact ⟨rfl, rfl, rfl, rfl⟩
   rintro ρ6 V6 hs6 a6 W6 t6 ⟨e0, e1, e3⟩ _ hst6
   refine ⟨⟨k + 1, i, ρ6, V6, hs6, t6, by omega, e0, e1, e3, hst6⟩, ?_⟩
   have h3 : a6.tmps.getD 3 undef = .int .i64 ((i : Int) - 1) := by
    have := hst6.tm 3
    rw [e3] at this
    exact Rel.v_inv this
   show (match a6.tmps.getD 3 undef with | .int _ n => (n + 1).toNat | _ => 0) < (match a.tmps.getD 3 undef with | .int _ n => (n + 1).toNat | _ => 0)
   rw [h3, hk3]
   show ((i : Int) - 1 + 1).toNat < (((i + 1 : Nat) : Int) - 1 + 1).toNat
   omega
  ·
   rintro _ ρ5 V5 hs5 a5 W5 t5 ⟨e0, e1, e3, e18⟩ _ hst5
   have hc : a5.eval (.tmp 18) = .bool true := by
    have := jy (C := K) (s := { toHS := hs5, tmps := t5 }) hst5.tm (hAx.inv _ _ _ _ hst5.j).2 (.tmp 18)
    rw [show ev K { toHS := hs5, tmps := t5 } (.tmp 18) = t5 18 from rfl, e18] at this
    exact Rel.v_inv this
   refine wpIn_cond_true hc (wpIn_ret ?_)
   exact zw (R := fun e W' => (∃ v, e = .returned v) ∧ ∃ ρ' V' hs', J (rP l).length ρ' V' hs' W' ∨ Jx ρ' V' hs' W') hst5 rfl (fun v h => ⟨⟨v, rfl⟩, _, _, _, .inr h⟩)
 ·
  have hc0 : c = 0 := by have := of_decide_eq_false hge; omega
  subst hc0
  refine wpIn_exit ?_
  exact zw (R := fun e W' => (∃ v, e = .returned v) ∧ ∃ ρ' V' hs', J (rP l).length ρ' V' hs' W' ∨ Jx ρ' V' hs' W') hst3 rfl (fun v h => ⟨⟨v, rfl⟩, _, _, _, .inl (by rw [sE, ← hk]; exact h)⟩)

theorem Es (n q : Nat) (hs : HS) : Snd K 57 [.ref q 0 n 42] hs (fun r hs' => r = .clo 71 [] [.ptr hs.next 0] ∧ hs'.objs = upd hs.objs hs.next (.live [.ref q 0 n 42]) ∧ hs.next < hs'.next) := by
 obtain ⟨objs, nx⟩ := hs
 refine uR hC (fn := Try.f57) Try.func57 rfl rfl (by decide +kernel) (Nat.le_of_ble_eq_true rfl) ?_
 refine rR fun KK hKK => ?_
 refine aq ?_
 simp only [gb, List.getD_cons_zero, go_sem, Nat.reduceEqDiff, reduceIte, Nat.reduceAdd]
 refine hKK _ ?_; clear hKK KK
 refine rR fun KK hKK => ?_
 refine aq ?_
 simp only [go_sem, Nat.reduceEqDiff, reduceIte, Nat.reduceAdd]
 refine hKK _ ?_; clear hKK KK
 refine aM ?_
 refine ax (fn := Try.f57) (rs := #[.tmp 2]) rfl (by simp only [go_sem, sH, kO, rQ, vH, Nat.reduceEqDiff, reduceIte, Nat.reduceAdd]; rfl) ?_
 exact ⟨rfl, rfl, by show nx < nx + 2 + 2; omega⟩

end Go.AX.Z.TN
