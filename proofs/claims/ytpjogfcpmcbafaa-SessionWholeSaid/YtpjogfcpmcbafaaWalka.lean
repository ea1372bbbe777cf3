/- A part of the proof: walks through the functions that the statement reaches. -/
import Derived.Test.YtpjogfcpmcbafaaPrea
set_option linter.unusedVariables false
set_option linter.unusedSimpArgs false

/-! (walks) -/

set_option linter.unusedSimpArgs false
set_option linter.unusedVariables false
set_option maxHeartbeats 4000000
set_option maxRecDepth 20000
namespace Go.AX.Z.TN
open Go.AX Go.Proofs
attribute [local irreducible] awp xw xop kh gsp ob xd gJ jc kz mQ ki wI
attribute [local go_sem ↓] yR Ba yU uM
attribute [local go_sem] Nat.reduceAdd
theorem dF (a0 : Int) (a1 : Int) (a2 : Int) {r : Bool} (h0 : cR a0 a1 a2 = some r) : SndP K 16 [(vi a0), (vi a1), (vi a2)] (vb r) := by
 refine SndP.of_walkW hC cv (ag cv (ag cv (ag cv aG))) (show K.P.funcs[16]? = some Try.f16 from Try.func16) rfl rfl (by decide +kernel) (qB2 rfl) ?_; unfold cR at h0; refine ac [0,1,2] fun tz U u => ?_; (try simp only [go_sem]); refine qU u ?_; clear u U; refine ac [0,1,2] fun tz U u => ?_; refine bq 4 qS qS (by rfl) fun V v => ?_; refine av ?_; (try simp only [go_sem]); refine v _ ?_; clear v V; refine bK 4 [(14, (vb ((decide (a1 ≤ a0)) && (decide (a0 ≤ a2)))))] qS qS (by rfl) (fun V v => ?_) fun tz => ?_
 ·
  refine av ?_; rcases bE (decide (a1 ≤ a0)) with h1 | h1
  ·
   (try simp only [go_sem, h1]); exact v _ ⟨rfl, (qB h1), trivial⟩
  ·
   (try simp only [go_sem, h1]); exact v _ ⟨rfl, (qB h1), trivial⟩
 ·
  refine av ?_; (try simp only [go_sem]); refine qU u ?_; clear u U; refine aS ?_; obtain rfl := aq h0; refine aL ?_; refine aC M3 (rfl) ?_; exact qF
def mr (a0 : al) (x8 : Bool) : AS :=
 { objs := (upd (fun _ => .dead) 0 (.live (ar a0))), next := 1, tmps := (upd (upd (fun _ => .unk) 1 (.ptr 0 0)) 3 (vb x8)) }

theorem uj (a0 : al) {r : Int} (h0 : gq a0 = some r) : SndP K 11 [(.agg (ar a0))] (vi r) := by
 refine SndP.of_walkW hC cv (ag (aB.agg (b9 _)) aG) (show K.P.funcs[11]? = some Try.f11 from Try.func11) rfl rfl (by decide +kernel) (qB2 rfl) ?_; unfold gq at h0; refine ac [0] fun tz U u => ?_; (try simp only [go_sem]); refine qU u ?_; clear u U; refine ac [1] fun tz U u => ?_; obtain ⟨x2, bx2, h0⟩ := bnd h0; (try simp only [go_sem]); (refine aZ (dF a0.Start 0 4095 bx2) ?_; try dsimp only); (try refine av ?_); refine bq 1 qS qS (by rfl) fun V v => ?_; refine av ?_; (try simp only [go_sem]); refine v _ ?_; clear v V; obtain ⟨x4, hvh1, h0⟩ := bnd h0; refine bK 4 [(1, (.ptr 0 0)), (12, (vb x4))] qS qS (by rfl) (fun V v => ?_) fun tz => ?_
 ·
  refine av ?_; rcases bE x2 with h1 | h1
  ·
   have hvh1 := cT hvh1 h1; obtain ⟨x3, bx3, hvh1⟩ := bnd hvh1; (try simp only [go_sem, h1]); (refine aZ (dF a0.Size 1 64 bx3) ?_; try dsimp only); (try refine av ?_); (try simp only [go_sem, h1]); obtain rfl := aq hvh1; exact v _ ⟨rfl, rfl, (qB h1), trivial⟩
  ·
   have hvh1 := cF hvh1 h1; (try simp only [go_sem, h1]); obtain rfl := aq hvh1; exact v _ ⟨rfl, rfl, (qB h1), trivial⟩
 ·
  refine av ?_; refine bq 1 qS qS (by rfl) fun V v => ?_; refine av ?_; (try simp only [go_sem]); refine v _ ?_; clear v V; obtain ⟨x6, hvh2, h0⟩ := bnd h0; refine bK 4 [(1, (.ptr 0 0)), (17, (vb x6))] qS qS (by rfl) (fun V v => ?_) fun tz => ?_
  ·
   refine av ?_; rcases bE x4 with h2 | h2
   ·
    have hvh2 := cT hvh2 h2; obtain ⟨x5, bx5, hvh2⟩ := bnd hvh2; (try simp only [go_sem, h2]); (refine aZ (dF a0.Limit 1 16 bx5) ?_; try dsimp only); (try refine av ?_); (try simp only [go_sem, h2]); obtain rfl := aq hvh2; exact v _ ⟨rfl, rfl, (qB h2), trivial⟩
   ·
    have hvh2 := cF hvh2 h2; (try simp only [go_sem, h2]); obtain rfl := aq hvh2; exact v _ ⟨rfl, rfl, (qB h2), trivial⟩
  ·
   refine av ?_; refine bq 1 qS qS (by rfl) fun V v => ?_; refine av ?_; (try simp only [go_sem]); refine v _ ?_; clear v V; obtain ⟨x8, hvh3, h0⟩ := bnd h0; refine bK 4 [(1, (.ptr 0 0)), (22, (vb x8))] qS qS (by rfl) (fun V v => ?_) fun tz => ?_
   ·
    refine av ?_; rcases bE x6 with h3 | h3
    ·
     have hvh3 := cT hvh3 h3; obtain ⟨x7, bx7, hvh3⟩ := bnd hvh3; (try simp only [go_sem, h3]); (refine aZ (dF a0.Burst 1 64 bx7) ?_; try dsimp only); (try refine av ?_); (try simp only [go_sem, h3]); obtain rfl := aq hvh3; exact v _ ⟨rfl, rfl, (qB h3), trivial⟩
    ·
     have hvh3 := cF hvh3 h3; (try simp only [go_sem, h3]); obtain rfl := aq hvh3; exact v _ ⟨rfl, rfl, (qB h3), trivial⟩
   ·
    refine av ?_; (try simp only [go_sem]); refine u _ (mr a0 x8) (Wk.canonD [] [] [some 0] rfl trivial rfl (aw 0 bv rfl qM rfl (TmL.clean (b9 _))) (tA 3 (tA 1 aO tp) tv)) ?_; clear u U; unfold mr; refine ac [1,3] fun tz U u => ?_; obtain ⟨x9, bx9, h0⟩ := bnd h0; (try simp only [go_sem]); (refine aZ (dF a0.Life 1 1073741824 bx9) ?_; try dsimp only); (try refine av ?_); refine bq 1 qS qS (by rfl) fun V v => ?_; refine av ?_; (try simp only [go_sem]); refine v _ ?_; clear v V; obtain ⟨x11, hvh4, h0⟩ := bnd h0; refine bK 4 [(1, (.ptr 0 0)), (3, (vb x8)), (30, (vb x11))] qS qS (by rfl) (fun V v => ?_) fun tz => ?_
    ·
     refine av ?_; rcases bE x9 with h4 | h4
     ·
      have hvh4 := cT hvh4 h4; obtain ⟨x10, bx10, hvh4⟩ := bnd hvh4; (try simp only [go_sem, h4]); (refine aZ (dF a0.Hold 0 16777216 bx10) ?_; try dsimp only); (try refine av ?_); (try simp only [go_sem, h4]); obtain rfl := aq hvh4; exact v _ ⟨rfl, rfl, rfl, (qB h4), trivial⟩
     ·
      have hvh4 := cF hvh4 h4; (try simp only [go_sem, h4]); obtain rfl := aq hvh4; exact v _ ⟨rfl, rfl, rfl, (qB h4), trivial⟩
    ·
     refine av ?_; refine bq 1 qS qS (by rfl) fun V v => ?_; refine av ?_; (try simp only [go_sem]); refine v _ ?_; clear v V; obtain ⟨x13, hvh5, h0⟩ := bnd h0; refine bK 4 [(3, (vb x8)), (35, (vb x13))] qS qS (by rfl) (fun V v => ?_) fun tz => ?_
     ·
      refine av ?_; rcases bE x11 with h5 | h5
      ·
       have hvh5 := cT hvh5 h5; obtain ⟨x12, bx12, hvh5⟩ := bnd hvh5; (try simp only [go_sem, h5]); (refine aZ (dF a0.Round 1 1000000 bx12) ?_; try dsimp only); (try refine av ?_); (try simp only [go_sem, h5]); obtain rfl := aq hvh5; exact v _ ⟨rfl, rfl, (qB h5), trivial⟩
      ·
       have hvh5 := cF hvh5 h5; (try simp only [go_sem, h5]); obtain rfl := aq hvh5; exact v _ ⟨rfl, rfl, (qB h5), trivial⟩
     ·
      refine av ?_; (try simp only [go_sem]); refine qU u ?_; clear u U; refine ap ?_; refine ac [3,4] fun tz U u => ?_; refine bq 3 qS qS (by rfl) fun V v => ?_; refine av ?_; (try simp only [go_sem]); refine v _ ?_; clear v V; refine bK 3 [(41, (vb ((!x8) || (!x13))))] qS qS (by rfl) (fun V v => ?_) fun tz => ?_
      ·
       refine av ?_; rcases bE (!x8) with h6 | h6
       ·
        (try simp only [go_sem, h6]); exact v _ ⟨rfl, (qB h6), trivial⟩
       ·
        (try simp only [go_sem, h6]); exact v _ ⟨rfl, (qB h6), trivial⟩
      ·
       refine av ?_; (try simp only [go_sem]); refine qU u ?_; clear u U; refine aT (b := ((!x8) || (!x13))) rfl (fun h7 => ?_) (fun h7 => ?_)
       ·
        have h0 := cT h0 h7; refine ap ?_; refine ac [] fun tz U u => ?_; (try simp only [go_sem]); refine qU u ?_; clear u U; refine bH ?_; obtain rfl := aq h0; refine aL ?_; refine aC KJ (rfl) ?_; exact qF
       ·
        have h0 := cF h0 h7; refine aV ?_; refine ac [] fun tz U u => ?_; (try simp only [go_sem]); refine qU u ?_; clear u U; refine aS ?_; obtain rfl := aq h0; refine aL ?_; refine aC KJ (rfl) ?_; exact qF
theorem cy (a0 : Int) (a1 : Int) (a2 : Int) {r : Bool} (h0 : bP a0 a1 a2 = some r) : SndP K 40 [(vi a0), (vi a1), (vi a2)] (vb r) := by
 refine SndP.of_walkW hC cv (ag cv (ag cv (ag cv aG))) (show K.P.funcs[40]? = some Try.f40 from Try.func40) rfl rfl (by decide +kernel) (qB2 rfl) ?_; unfold bP at h0; refine ac [0,1,2] fun tz U u => ?_; (try simp only [go_sem]); refine qU u ?_; clear u U; refine ac [0,1,2] fun tz U u => ?_; refine bq 4 qS qS (by rfl) fun V v => ?_; refine av ?_; (try simp only [go_sem]); refine v _ ?_; clear v V; refine bK 4 [(14, (vb ((decide (a1 ≤ a0)) && (decide (a0 ≤ a2)))))] qS qS (by rfl) (fun V v => ?_) fun tz => ?_
 ·
  refine av ?_; rcases bE (decide (a1 ≤ a0)) with h1 | h1
  ·
   (try simp only [go_sem, h1]); exact v _ ⟨rfl, (qB h1), trivial⟩
  ·
   (try simp only [go_sem, h1]); exact v _ ⟨rfl, (qB h1), trivial⟩
 ·
  refine av ?_; (try simp only [go_sem]); refine qU u ?_; clear u U; refine aS ?_; obtain rfl := aq h0; refine aL ?_; refine aC Lp (rfl) ?_; exact qF
theorem lD (a0 : Sender) {r : Int} (h0 : fQ a0 = some r) : SndP K 48 [(.agg (bA a0))] (vi r) := by
 refine SndP.of_walkW hC cv (ag (aB.agg (aY _)) aG) (show K.P.funcs[48]? = some Try.f48 from Try.func48) rfl rfl (by decide +kernel) (qB2 rfl) ?_; unfold fQ at h0; refine ac [0] fun tz U u => ?_; (try simp only [go_sem]); refine qU u ?_; clear u U; refine ap ?_; refine ac [1] fun tz U u => ?_; (try simp only [go_sem]); refine qU u ?_; clear u U; refine aT (b := (decide (0 < (a0.Out.length : Int)))) rfl (fun h1 => ?_) (fun h1 => ?_)
 ·
  have h0 := cT h0 h1; refine ap ?_; refine ac [1] fun tz U u => ?_; obtain ⟨x27, bx27, h0⟩ := bnd h0; obtain ⟨fx27_0, fx27_1, fx27_2, fx27_3⟩ := cz bx27; simp only [Int.reduceToNat] at fx27_2 fx27_3; (try simp only [go_sem, fx27_0, fx27_1, fx27_2, wm, vW, Nat.reduceDiv, Nat.reduceMod]); refine qU u ?_; clear u U; refine bH ?_; obtain rfl := aq h0; refine aL ?_; refine aC KV (rfl) ?_; exact qF
 ·
  have h0 := cF h0 h1; refine aV ?_; refine ac [1] fun tz U u => ?_; (try simp only [go_sem]); refine qU u ?_; clear u U; refine aS ?_; obtain rfl := aq h0; refine aL ?_; refine aC KV (rfl) ?_; exact qF
theorem cN (a0 : Int) (a1 : Int) {r : Int} (h0 : cG a0 a1 = some r) : SndP K 43 [(vi a0), (vi a1)] (vi r) := by
 refine SndP.of_walkW hC cv (ag cv (ag cv aG)) (show K.P.funcs[43]? = some Try.f43 from Try.func43) rfl rfl (by decide +kernel) (qB2 rfl) ?_; unfold cG at h0; refine ac [0,1] fun tz U u => ?_; (try simp only [go_sem]); refine qU u ?_; clear u U; refine ac [0,1] fun tz U u => ?_; (try simp only [go_sem]); refine qU u ?_; clear u U; refine aS ?_; obtain rfl := aq h0; refine aL ?_; refine aC Mk (rfl) ?_; exact qF
def nW (a0 : Sender) (x24 : Bool) : AS :=
 { objs := (upd (fun _ => .dead) 0 (.live (aA a0 (.imm (List.flatMap ah a0.Out) a0.Out.length)))), next := 1, tmps := (upd (upd (fun _ => .unk) 1 (.ptr 0 0)) 3 (vb x24)) }

def nB (a0 : Sender) (x24 : Bool) (d26 : Bool) : AS :=
 { objs := (upd (fun _ => .dead) 0 (.live (aA a0 (.imm (List.flatMap ah a0.Out) a0.Out.length)))), next := 1, tmps := (upd (upd (upd (fun _ => .unk) 1 (.ptr 0 0)) 3 (vb x24)) 4 (vb d26)) }

def nR (d29 : Unit) : AS :=
 { objs := (fun _ => .dead), next := 0, tmps := (fun _ => .unk) }

def nV (a0 : Sender) (x27 : Int) (x28 : Int) (d31 : (Int × Int × Int)) : AS :=
 { objs := (upd (fun _ => .dead) 0 (.live (aA a0 (.imm (List.flatMap ah a0.Out) a0.Out.length)))), next := 1, tmps := (upd (upd (upd (upd (upd (upd (upd (upd (fun _ => .unk) 1 (.ptr 0 0)) 5 (vi x27)) 6 (vi x28)) 7 (vi d31.1)) 8 (vi d31.2.1)) 82 (.imm (List.flatMap ah a0.Out) a0.Out.length)) 83 (vi (a0.Out.length : Int))) 84 (vi d31.2.2)) }

def nF (a0 : Sender) (x32 : ax) (x27 : Int) (x28 : Int) (x33 : Int) (d31 : (Int × Int × Int)) (x38 : Bool) : AS :=
 { objs := (upd (upd (fun _ => .dead) 0 (.live (aA a0 (.imm (List.flatMap ah a0.Out) a0.Out.length)))) 1 (.live (br x32 (.imm (List.map vu x32.Frame.Body) x32.Frame.Body.length)))), next := 2, tmps := (upd (upd (upd (upd (upd (upd (upd (upd (upd (fun _ => .unk) 1 (.ptr 0 0)) 5 (vi x27)) 6 (vi x28)) 10 (.ptr 1 0)) 12 (vi x33)) 82 (.imm (List.flatMap ah a0.Out) a0.Out.length)) 83 (vi (a0.Out.length : Int))) 84 (vi d31.2.2)) 131 (vb (x38 || (x32.Flying && (x32.Tries == 0))))) }

theorem fx (a0 : Sender) {r : Int} (h0 : ej a0 = some r) : SndP K 39 [(.agg (bA a0))] (vi r) := by
 refine SndP.of_walkW hC cv (ag (aB.agg (aY _)) aG) (show K.P.funcs[39]? = some Try.f39 from Try.func39) rfl rfl (by decide +kernel) (qB2 rfl) ?_; unfold ej at h0; refine ac [0] fun tz U u => ?_; (try simp only [go_sem]); refine qU u ?_; clear u U; refine ac [1] fun tz U u => ?_; obtain ⟨x16, bx16, h0⟩ := bnd h0; (try simp only [go_sem]); (refine aZ (cy a0.Tid 0 7 bx16) ?_; try dsimp only); (try refine av ?_); refine bq 1 qS qS (by rfl) fun V v => ?_; refine av ?_; (try simp only [go_sem]); refine v _ ?_; clear v V; refine bK 4 [(1, (.ptr 0 0)), (20, (vb (x16 && (decide (a0.Phase ≤ 2)))))] qS qS (by rfl) (fun V v => ?_) fun tz => ?_
 ·
  refine av ?_; rcases bE x16 with h1 | h1
  ·
   (try simp only [go_sem, h1]); exact v _ ⟨rfl, rfl, (qB h1), trivial⟩
  ·
   (try simp only [go_sem, h1]); exact v _ ⟨rfl, rfl, (qB h1), trivial⟩
 ·
  refine av ?_; refine bq 1 qS qS (by rfl) fun V v => ?_; refine av ?_; (try simp only [go_sem]); refine v _ ?_; clear v V; obtain ⟨x18, hvh2, h0⟩ := bnd h0; refine bK 4 [(1, (.ptr 0 0)), (25, (vb x18))] qS qS (by rfl) (fun V v => ?_) fun tz => ?_
  ·
   refine av ?_; rcases bE (x16 && (decide (a0.Phase ≤ 2))) with h2 | h2
   ·
    have hvh2 := cT hvh2 h2; (have h2_0 : (x16) = true := by simp only [Bool.and_eq_true] at h2; exact h2.1); (have h2_1 : (decide (a0.Phase ≤ 2)) = true := by simp only [Bool.and_eq_true] at h2; exact h2.2); obtain ⟨x17, bx17, hvh2⟩ := bnd hvh2; (try simp only [go_sem, h2, h2_0, h2_1]); (refine aZ (cy a0.Token 0 255 bx17) ?_; try dsimp only); (try refine av ?_); (try simp only [go_sem, h2, h2_0, h2_1]); obtain rfl := aq hvh2; exact v _ ⟨rfl, rfl, (qB h2), trivial⟩
   ·
    have hvh2 := cF hvh2 h2; (try simp only [go_sem, h2]); obtain rfl := aq hvh2; exact v _ ⟨rfl, rfl, (qB h2), trivial⟩
  ·
   refine av ?_; refine bq 1 qS qS (by rfl) fun V v => ?_; refine av ?_; (try simp only [go_sem]); refine v _ ?_; clear v V; obtain ⟨x20, hvh3, h0⟩ := bnd h0; refine bK 4 [(1, (.ptr 0 0)), (30, (vb x20))] qS qS (by rfl) (fun V v => ?_) fun tz => ?_
   ·
    refine av ?_; rcases bE x18 with h3 | h3
    ·
     have hvh3 := cT hvh3 h3; obtain ⟨x19, bx19, hvh3⟩ := bnd hvh3; (try simp only [go_sem, h3]); (refine aZ (cy a0.Next 0 4095 bx19) ?_; try dsimp only); (try refine av ?_); (try simp only [go_sem, h3]); obtain rfl := aq hvh3; exact v _ ⟨rfl, rfl, (qB h3), trivial⟩
    ·
     have hvh3 := cF hvh3 h3; (try simp only [go_sem, h3]); obtain rfl := aq hvh3; exact v _ ⟨rfl, rfl, (qB h3), trivial⟩
   ·
    refine av ?_; refine bq 1 qS qS (by rfl) fun V v => ?_; refine av ?_; (try simp only [go_sem]); refine v _ ?_; clear v V; obtain ⟨x22, hvh4, h0⟩ := bnd h0; refine bK 4 [(1, (.ptr 0 0)), (35, (vb x22))] qS qS (by rfl) (fun V v => ?_) fun tz => ?_
    ·
     refine av ?_; rcases bE x20 with h4 | h4
     ·
      have hvh4 := cT hvh4 h4; obtain ⟨x21, bx21, hvh4⟩ := bnd hvh4; (try simp only [go_sem, h4]); (refine aZ (cy a0.Limit 1 16 bx21) ?_; try dsimp only); (try refine av ?_); (try simp only [go_sem, h4]); obtain rfl := aq hvh4; exact v _ ⟨rfl, rfl, (qB h4), trivial⟩
     ·
      have hvh4 := cF hvh4 h4; (try simp only [go_sem, h4]); obtain rfl := aq hvh4; exact v _ ⟨rfl, rfl, (qB h4), trivial⟩
    ·
     refine av ?_; refine bq 1 qS qS (by rfl) fun V v => ?_; refine av ?_; (try simp only [go_sem]); refine v _ ?_; clear v V; obtain ⟨x24, hvh5, h0⟩ := bnd h0; refine bK 4 [(1, (.ptr 0 0)), (40, (vb x24))] qS qS (by rfl) (fun V v => ?_) fun tz => ?_
     ·
      refine av ?_; rcases bE x22 with h5 | h5
      ·
       have hvh5 := cT hvh5 h5; obtain ⟨x23, bx23, hvh5⟩ := bnd hvh5; (try simp only [go_sem, h5]); (refine aZ (cy a0.Life 1 1073741824 bx23) ?_; try dsimp only); (try refine av ?_); (try simp only [go_sem, h5]); obtain rfl := aq hvh5; exact v _ ⟨rfl, rfl, (qB h5), trivial⟩
      ·
       have hvh5 := cF hvh5 h5; (try simp only [go_sem, h5]); obtain rfl := aq hvh5; exact v _ ⟨rfl, rfl, (qB h5), trivial⟩
     ·
      refine av ?_; (try simp only [go_sem]); refine u _ (nW a0 x24) (Wk.canonD [] [] [some 0] rfl trivial rfl (aw 0 bv rfl qM rfl (ak (by rfl) (tI (ai _)))) (tA 3 (tA 1 aO tp) tv)) ?_; clear u U; unfold nW; refine ac [1,3] fun tz U u => ?_; obtain ⟨x25, bx25, h0⟩ := bnd h0; (try simp only [go_sem]); (refine aZ (cy a0.Size 1 64 bx25) ?_; try dsimp only); (try refine av ?_); (try simp only [go_sem]); refine qU u ?_; clear u U; refine ap ?_; refine ac [1,3,4] fun tz U u => ?_; (try simp only [go_sem]); refine qU u ?_; clear u U; obtain ⟨d26, hi6, h0⟩ := bnd h0; refine dk (fun z => d26 = z) (fun d26 : Bool => nB a0 x24 d26) ?_ ?_
      ·
       refine bR (b := (a0.Phase == 0)) rfl (fun h7 => ?_) (fun h7 => ?_)
       ·
        have hi6 := cT hi6 h7; refine bI [1,3] fun tz U u => ?_; (try simp only [go_sem]); refine u _ ?_; clear u U; refine gc ?_; obtain rfl := aq hi6; exact ⟨_, rfl, (Wk.canonD [] [] [some 0] rfl trivial rfl (aw 0 bv rfl qM rfl (ak (by rfl) (tI (ai _)))) (tA 4 (tA 3 (tA 1 aO tp) tv) tv))⟩
       ·
        have hi6 := cF hi6 h7; refine de ?_; refine gc ?_; obtain rfl := aq hi6; exact ⟨_, rfl, (Wk.canonD [] [] [some 0] rfl trivial rfl (aw 0 bv rfl qM rfl (ak (by rfl) (tI (ai _)))) (tA 4 (tA 3 (tA 1 aO tp) tv) tv))⟩
      ·
       rintro _ rfl; clear hi6; unfold nB; refine ap ?_; refine ac [1,3,4] fun tz U u => ?_; refine bq 3 qS qS (by rfl) fun V v => ?_; refine av ?_; (try simp only [go_sem]); refine v _ ?_; clear v V; refine bK 3 [(1, (.ptr 0 0)), (55, (vb ((!x24) || (!d26))))] qS qS (by rfl) (fun V v => ?_) fun tz => ?_
       ·
        refine av ?_; rcases bE (!x24) with h8 | h8
        ·
         (try simp only [go_sem, h8]); exact v _ ⟨rfl, rfl, (qB h8), trivial⟩
        ·
         (try simp only [go_sem, h8]); exact v _ ⟨rfl, rfl, (qB h8), trivial⟩
       ·
        refine av ?_; refine bq 1 qS qS (by rfl) fun V v => ?_; refine av ?_; (try simp only [go_sem]); refine v _ ?_; clear v V; refine bK 14 [(1, (.ptr 0 0)), (70, (vb (((!x24) || (!d26)) || ((a0.Phase != 2) && ((decide (0 < (a0.Out.length : Int))) || a0.Bar)))))] qS qS (by rfl) (fun V v => ?_) fun tz => ?_
        ·
         refine av ?_; rcases bE ((!x24) || (!d26)) with h9 | h9
         ·
          (try simp only [go_sem, h9]); exact v _ ⟨rfl, rfl, (qB h9), trivial⟩
         ·
          refine bq 4 qS qS (by rfl) fun V v => ?_; refine av ?_; (try simp only [go_sem, h9]); refine v _ ?_; clear v V; refine bK 9 [(1, (.ptr 0 0)), (56, (vb false)), (69, (vb ((a0.Phase != 2) && ((decide (0 < (a0.Out.length : Int))) || a0.Bar))))] qS qS (by rfl) (fun V v => ?_) fun tz => ?_
          ·
           refine av ?_; rcases bE (a0.Phase != 2) with h10 | h10
           ·
            refine bq 5 qS qS (by rfl) fun V v => ?_; refine av ?_; (try simp only [go_sem, h9, h10]); refine v _ ?_; clear v V; refine bK 3 [(1, (.ptr 0 0)), (56, (vb false)), (60, (vb true)), (68, (vb ((decide (0 < (a0.Out.length : Int))) || a0.Bar)))] qS qS (by rfl) (fun V v => ?_) fun tz => ?_
            ·
             refine av ?_; rcases bE (decide (0 < (a0.Out.length : Int))) with h11 | h11
             ·
              (try simp only [go_sem, h9, h10, h11]); exact v _ ⟨rfl, rfl, rfl, rfl, (qB h11), trivial⟩
             ·
              (try simp only [go_sem, h9, h10, h11]); exact v _ ⟨rfl, rfl, rfl, rfl, (qB h11), trivial⟩
            ·
             refine av ?_; (try simp only [go_sem, h9, h10]); exact v _ ⟨rfl, rfl, rfl, (qB h10), trivial⟩
           ·
            (try simp only [go_sem, h9, h10]); exact v _ ⟨rfl, rfl, rfl, (qB h10), trivial⟩
          ·
           refine av ?_; (try simp only [go_sem, h9]); exact v _ ⟨rfl, rfl, (qB h9), trivial⟩
        ·
         refine av ?_; (try simp only [go_sem]); refine qU u ?_; clear u U; refine aT (b := (((!x24) || (!d26)) || ((a0.Phase != 2) && ((decide (0 < (a0.Out.length : Int))) || a0.Bar)))) rfl (fun h12 => ?_) (fun h12 => ?_)
         ·
          have h0 := cT h0 h12; refine ap ?_; refine ac [] fun tz U u => ?_; (try simp only [go_sem]); refine qU u ?_; clear u U; refine bH ?_; obtain rfl := aq h0; refine aL ?_; refine aC Fy (rfl) ?_; exact qF
         ·
          have h0 := cF h0 h12; refine aV ?_; refine ac [1] fun tz U u => ?_; obtain ⟨x27, bx27, h0⟩ := bnd h0; (try simp only [go_sem]); (refine aZ (lD a0 bx27) ?_; try dsimp only); (try refine av ?_); (try simp only [go_sem]); refine qU u ?_; clear u U; refine ac [1,5] fun tz U u => ?_; obtain ⟨x28, bx28, h0⟩ := bnd h0; (try simp only [go_sem]); (refine aZ (cN x27 a0.Next bx28) ?_; try dsimp only); (try refine av ?_); (try simp only [go_sem]); refine qU u ?_; clear u U; refine ap ?_; refine ac [1,5,6,7,8] fun tz U u => ?_; (try simp only [go_sem]); refine qU u ?_; clear u U; refine aT (b := (decide (a0.Size < x28))) rfl (fun h13 => ?_) (fun h13 => ?_)
          ·
           have h0 := cT h0 h13; refine ap ?_; refine ac [] fun tz U u => ?_; (try simp only [go_sem]); refine qU u ?_; clear u U; refine bH ?_; obtain rfl := aq h0; refine aL ?_; refine aC Fy (rfl) ?_; exact qF
          ·
           have h0 := cF h0 h13; refine aV ?_; refine ap ?_; refine ac [1,5,6,7,8] fun tz U u => ?_; (try simp only [go_sem]); refine qU u ?_; clear u U; obtain ⟨o30, hi14, h0⟩ := bnd h0; refine dk (fun d29 : Unit => o30 = Ex.go d29) (fun d29 : Unit => nR d29) ?_ ?_
           ·
            refine bB ?_; refine cO (fun n (d31 : (Int × Int × Int)) => dQ a0 x27 x28 n d31 = some o30) (fun d31 : (Int × Int × Int) => nV a0 x27 x28 d31) big ((-1), 0, 0) (Wk.canonD [] [] [some 0] rfl trivial rfl (aw 0 bv rfl qM rfl (ak (by rfl) (tI (ai _)))) (tA 84 (tA 83 (tA 82 (tA 8 (tA 7 (tA 6 (tA 5 (tA 1 aO tp) tv) tv) tv) tv) (tI (ai _))) tv) tv)) hi14 ?_; clear hi14; rintro n d31 hl16; rcases n with _ | n15
            ·
             (rw [dQ] at hl16; cases hl16)
            ·
             rw [dQ] at hl16; unfold nV; refine ac [1,5,6,7,8,82,83,84] fun tz U u => ?_; (try simp only [go_sem]); refine qU u ?_; clear u U; refine aT (b := (decide (d31.2.2 < (a0.Out.length : Int)))) rfl (fun h17 => ?_) (fun h17 => ?_)
             ·
              have hl16 := cT hl16 h17; refine aV ?_; refine cC ?_; refine ac [1,5,6,7,8,82,83,84] fun tz U u => ?_; obtain ⟨x32, bx32, hl16⟩ := bnd hl16; obtain ⟨fx32_0, fx32_1, fx32_2, fx32_3⟩ := cz bx32; (try simp only [go_sem, fx32_0, fx32_1, fx32_2]); refine qU u ?_; clear u U; refine ac [1,5,6,7,8,10,82,83,84] fun tz U u => ?_; (try simp only [go_sem, fx32_0, fx32_1, fx32_2]); refine qU u ?_; clear u U; refine ac [1,5,6,7,8,10,11,82,83,84] fun tz U u => ?_; obtain ⟨x33, bx33, hl16⟩ := bnd hl16; (try simp only [go_sem, fx32_0, fx32_1, fx32_2]); (refine aZ (cN x27 x32.Frame.Head.Seq bx33) ?_; try dsimp only); (try refine av ?_); (try simp only [go_sem, fx32_0, fx32_1, fx32_2]); refine qU u ?_; clear u U; refine ap ?_; refine ac [1,5,6,7,8,10,11,12,82,83,84] fun tz U u => ?_; (try simp only [List.append_eq, Array.toList_append, List.append_toArray, List.toList_toArray, List.cons_append, List.nil_append]); obtain ⟨x34, bx34, hl16⟩ := bnd hl16; (try simp only [go_sem, fx32_0, fx32_1, fx32_2]); (refine aZ (cy x32.Frame.Head.Seq 0 4095 bx34) ?_; try dsimp only); (try refine av ?_); refine bq 2 qS qS (by rfl) fun V v => ?_; refine av ?_; (try simp only [go_sem, fx32_0, fx32_1, fx32_2]); refine v _ ?_; clear v V; refine bK 4 [(1, (.ptr 0 0)), (5, (vi x27)), (6, (vi x28)), (8, (vi d31.2.1)), (10, (.ptr 4 0)), (12, (vi x33)), (82, (.imm (List.flatMap ah a0.Out) a0.Out.length)), (83, (vi (a0.Out.length : Int))), (84, (vi d31.2.2)), (102, (vb ((!x34) || (decide (x33 ≤ d31.1)))))] qS qS (by rfl) (fun V v => ?_) fun tz => ?_
              ·
               refine av ?_; rcases bE (!x34) with h18 | h18
               ·
                (try simp only [go_sem, fx32_0, fx32_1, fx32_2, h18]); exact v _ ⟨rfl, rfl, rfl, rfl, rfl, rfl, rfl, rfl, rfl, rfl, (qB h18), trivial⟩
               ·
                (try simp only [go_sem, fx32_0, fx32_1, fx32_2, h18]); exact v _ ⟨rfl, rfl, rfl, rfl, rfl, rfl, rfl, rfl, rfl, rfl, (qB h18), trivial⟩
              ·
               refine av ?_; refine bq 1 qS qS (by rfl) fun V v => ?_; refine av ?_; (try simp only [go_sem, fx32_0, fx32_1, fx32_2]); refine v _ ?_; clear v V; refine bK 4 [(1, (.ptr 0 0)), (5, (vi x27)), (6, (vi x28)), (8, (vi d31.2.1)), (10, (.ptr 4 0)), (12, (vi x33)), (82, (.imm (List.flatMap ah a0.Out) a0.Out.length)), (83, (vi (a0.Out.length : Int))), (84, (vi d31.2.2)), (107, (vb (((!x34) || (decide (x33 ≤ d31.1))) || (decide (x28 ≤ x33)))))] qS qS (by rfl) (fun V v => ?_) fun tz => ?_
               ·
                refine av ?_; rcases bE ((!x34) || (decide (x33 ≤ d31.1))) with h19 | h19
                ·
                 (try simp only [go_sem, fx32_0, fx32_1, fx32_2, h19]); exact v _ ⟨rfl, rfl, rfl, rfl, rfl, rfl, rfl, rfl, rfl, rfl, (qB h19), trivial⟩
                ·
                 (try simp only [go_sem, fx32_0, fx32_1, fx32_2, h19]); exact v _ ⟨rfl, rfl, rfl, rfl, rfl, rfl, rfl, rfl, rfl, rfl, (qB h19), trivial⟩
               ·
                refine av ?_; refine bq 1 qS qS (by rfl) fun V v => ?_; refine av ?_; (try simp only [go_sem, fx32_0, fx32_1, fx32_2]); refine v _ ?_; clear v V; obtain ⟨x36, hvh20, hl16⟩ := bnd hl16; refine bK 6 [(1, (.ptr 0 0)), (5, (vi x27)), (6, (vi x28)), (10, (.ptr 4 0)), (12, (vi x33)), (82, (.imm (List.flatMap ah a0.Out) a0.Out.length)), (83, (vi (a0.Out.length : Int))), (84, (vi d31.2.2)), (114, (vb x36))] qS qS (by rfl) (fun V v => ?_) fun tz => ?_
                ·
                 refine av ?_; rcases bE (((!x34) || (decide (x33 ≤ d31.1))) || (decide (x28 ≤ x33))) with h20 | h20
                 ·
                  have hvh20 := cT hvh20 h20; (try simp only [go_sem, fx32_0, fx32_1, fx32_2, h20]); obtain rfl := aq hvh20; exact v _ ⟨rfl, rfl, rfl, rfl, rfl, rfl, rfl, rfl, rfl, (qB h20), trivial⟩
                 ·
                  have hvh20 := cF hvh20 h20; obtain ⟨x35, bx35, hvh20⟩ := bnd hvh20; (try simp only [go_sem, fx32_0, fx32_1, fx32_2, h20]); (refine aZ (cy x32.At d31.2.1 1099511627776 bx35) ?_; try dsimp only); (try refine av ?_); (try simp only [go_sem, fx32_0, fx32_1, fx32_2, h20]); obtain rfl := aq hvh20; exact v _ ⟨rfl, rfl, rfl, rfl, rfl, rfl, rfl, rfl, rfl, (qB h20), trivial⟩
                ·
                 refine av ?_; refine bq 1 qS qS (by rfl) fun V v => ?_; refine av ?_; (try simp only [go_sem, fx32_0, fx32_1, fx32_2]); refine v _ ?_; clear v V; obtain ⟨x38, hvh21, hl16⟩ := bnd hl16; refine bK 7 [(1, (.ptr 0 0)), (5, (vi x27)), (6, (vi x28)), (10, (.ptr 4 0)), (12, (vi x33)), (82, (.imm (List.flatMap ah a0.Out) a0.Out.length)), (83, (vi (a0.Out.length : Int))), (84, (vi d31.2.2)), (122, (vb x38))] qS qS (by rfl) (fun V v => ?_) fun tz => ?_
                 ·
                  refine av ?_; rcases bE x36 with h21 | h21
                  ·
                   have hvh21 := cT hvh21 h21; (try simp only [go_sem, fx32_0, fx32_1, fx32_2, h21]); obtain rfl := aq hvh21; exact v _ ⟨rfl, rfl, rfl, rfl, rfl, rfl, rfl, rfl, rfl, (qB h21), trivial⟩
                  ·
                   have hvh21 := cF hvh21 h21; obtain ⟨x37, bx37, hvh21⟩ := bnd hvh21; (try simp only [go_sem, fx32_0, fx32_1, fx32_2, h21]); (refine aZ (cy x32.Tries 0 a0.Limit bx37) ?_; try dsimp only); (try refine av ?_); (try simp only [go_sem, fx32_0, fx32_1, fx32_2, h21]); obtain rfl := aq hvh21; exact v _ ⟨rfl, rfl, rfl, rfl, rfl, rfl, rfl, rfl, rfl, (qB h21), trivial⟩
                 ·
                  refine av ?_; refine bq 1 qS qS (by rfl) fun V v => ?_; refine av ?_; (try simp only [go_sem, fx32_0, fx32_1, fx32_2]); refine v _ ?_; clear v V; refine bK 8 [(1, (.ptr 0 0)), (5, (vi x27)), (6, (vi x28)), (10, (.ptr 4 0)), (12, (vi x33)), (82, (.imm (List.flatMap ah a0.Out) a0.Out.length)), (83, (vi (a0.Out.length : Int))), (84, (vi d31.2.2)), (131, (vb (x38 || (x32.Flying && (x32.Tries == 0)))))] qS qS (by rfl) (fun V v => ?_) fun tz => ?_
                  ·
                   refine av ?_; rcases bE x38 with h22 | h22
                   ·
                    (try simp only [go_sem, fx32_0, fx32_1, fx32_2, h22]); exact v _ ⟨rfl, rfl, rfl, rfl, rfl, rfl, rfl, rfl, rfl, (qB h22), trivial⟩
                   ·
                    refine bq 3 qS qS (by rfl) fun V v => ?_; refine av ?_; (try simp only [go_sem, fx32_0, fx32_1, fx32_2, h22]); refine v _ ?_; clear v V; refine bK 4 [(1, (.ptr 0 0)), (5, (vi x27)), (6, (vi x28)), (10, (.ptr 4 0)), (12, (vi x33)), (82, (.imm (List.flatMap ah a0.Out) a0.Out.length)), (83, (vi (a0.Out.length : Int))), (84, (vi d31.2.2)), (123, (vb false)), (130, (vb (x32.Flying && (x32.Tries == 0))))] qS qS (by rfl) (fun V v => ?_) fun tz => ?_
                    ·
                     refine av ?_; rcases bE x32.Flying with h23 | h23
                     ·
                      (try simp only [go_sem, fx32_0, fx32_1, fx32_2, h22, h23]); exact v _ ⟨(by first | rfl | (simp only [h23]; done)), rfl, rfl, rfl, rfl, rfl, rfl, rfl, rfl, rfl, (qB h23), trivial⟩
                     ·
                      (try simp only [go_sem, fx32_0, fx32_1, fx32_2, h22, h23]); exact v _ ⟨(by first | rfl | (simp only [h23]; done)), rfl, rfl, rfl, rfl, rfl, rfl, rfl, rfl, rfl, (qB h23), trivial⟩
                    ·
                     refine av ?_; (try simp only [go_sem, fx32_0, fx32_1, fx32_2, h22]); exact v _ ⟨rfl, rfl, rfl, rfl, rfl, rfl, rfl, rfl, rfl, (qB h22), trivial⟩
                  ·
                   refine av ?_; (try simp only [go_sem, fx32_0, fx32_1, fx32_2]); refine u _ (nF a0 x32 x27 x28 x33 d31 x38) (Wk.canonD [] [] [some 0, some 4] rfl trivial rfl (aw 1 (aw 0 bv rfl qM rfl (ak (by rfl) (tI (ai _)))) rfl qM rfl (ql (by rfl) (tI (fD _)))) (tA 131 (tA 84 (tA 83 (tA 82 (tA 12 (tA 10 (tA 6 (tA 5 (tA 1 aO tp) tv) tv) tp) tv) (tI (ai _))) tv) tv) tv)) ?_; clear u U; unfold nF; refine aT (b := (x38 || (x32.Flying && (x32.Tries == 0)))) rfl (fun h24 => ?_) (fun h24 => ?_)
                   ·
                    have hl16 := cT hl16 h24; refine ap ?_; refine ac [] fun tz U u => ?_; (try simp only [go_sem, fx32_0, fx32_1, fx32_2]); refine qU u ?_; clear u U; refine bH ?_; refine jk ?_; refine jS ?_; refine Bo ?_; refine jk ?_; refine jS ?_; obtain rfl := aq hl16; obtain rfl := Ex.k_ret h0; refine aL ?_; refine aC Fy (rfl) ?_; exact qF
                   ·
                    have hl16 := cF hl16 h24; refine aV ?_; refine bI [1,5,6,10,12,82,83,84] fun tz U u => ?_; (try simp only [go_sem, fx32_0, fx32_1, fx32_2]); refine u _ ?_; clear u U; refine iF ?_; refine et ?_; refine bI [1,5,6,7,8,82,83,84] fun tz U u => ?_; (try simp only [go_sem, fx32_0, fx32_1, fx32_2]); refine u _ ?_; clear u U; refine jw ?_; exact ⟨n15, (x33, x32.At, IntKind.wrap .i64 (d31.2.2 + 1)), rfl, hl16, (Wk.canonD [] [] [some 0] rfl trivial rfl (aw 0 bv rfl qM rfl (ak (by rfl) (tI (ai _)))) (tA 84 (tA 83 (tA 82 (tA 8 (tA 7 (tA 6 (tA 5 (tA 1 aO tp) tv) tv) tv) tv) (tI (ai _))) tv) tv))⟩
             ·
              have hl16 := cF hl16 h17; refine cL ?_; refine kW ?_; refine jX ?_; refine gc ?_; obtain rfl := aq hl16; exact ⟨_, rfl, (Wk.canonD [] [] [] rfl trivial rfl bv aO)⟩
           ·
            rintro d29 rfl; have h0 := Ex.k_go h0; clear hi14; unfold nR; refine ac [] fun tz U u => ?_; (try simp only [go_sem]); refine qU u ?_; clear u U; refine aS ?_; obtain rfl := aq h0; refine aL ?_; refine aC Fy (rfl) ?_; exact qF
def qC (a3 : Int) (a2 : Int) (a1 : Int) (a0 : Int) (x16 : Int) : AS :=
 { objs := (upd (upd (fun _ => .dead) 0 (.live (aA Sender.z cM))) 1 (.live (aA { Sender.z with Life := a3, Limit := a2, Next := a1, Tid := a0 } cM))), next := 2, tmps := (upd (upd (upd (fun _ => .unk) 8 (.ptr 0 0)) 10 (.ptr 1 0)) 18 (vb (x16 != 0))) }

theorem y8 (a0 : Int) (a1 : Int) (a2 : Int) (a3 : Int) {r : (Sender × Int)} (h0 : lp a0 a1 a2 a3 = some r) : SndP K 23 [(vi a0), (vi a1), (vi a2), (vi a3)] (.tup [(.agg (bA r.1)), (vi r.2)]) := by
 refine SndP.of_walkW hC (aB.tup (ag (aB.agg (aY _)) (ag cv aG))) (ag cv (ag cv (ag cv (ag cv aG)))) (show K.P.funcs[23]? = some Try.f23 from Try.func23) rfl rfl (by decide +kernel) (qB2 rfl) ?_; unfold lp at h0; refine ac [0,1,2,3] fun tz U u => ?_; (try simp only [go_sem]); refine qU u ?_; clear u U; refine ac [0,1,2,3,8] fun tz U u => ?_; (try simp only [go_sem]); refine qU u ?_; clear u U; refine ap ?_; refine ac [8,10] fun tz U u => ?_; obtain ⟨x16, bx16, h0⟩ := bnd h0; (try simp only [go_sem]); (refine uK (by first | (simp only [go_sem, fz, lw, cond_true, cond_false] <;> rfl)) (fx { Sender.z with Life := a3, Limit := a2, Next := a1, Tid := a0 } bx16) ?_; try dsimp only); (try refine av ?_); (try simp only [go_sem]); refine u _ (qC a3 a2 a1 a0 x16) (Wk.canonD [] [] [some 0, some 7] rfl trivial rfl (aw 1 (aw 0 bv rfl qM rfl (ak (by rfl) tv)) rfl qM rfl (ak (by rfl) tv)) (tA 18 (tA 10 (tA 8 aO tp) tp) tv)) ?_; clear u U; unfold qC; refine aT (b := (x16 != 0)) rfl (fun h1 => ?_) (fun h1 => ?_)
 ·
  have h0 := cT h0 h1; refine ap ?_; refine ac [8] fun tz U u => ?_; (try simp only [go_sem]); refine qU u ?_; clear u U; refine bH ?_; obtain rfl := aq h0; refine aL ?_; refine aC J9 qR ?_; exact qF
 ·
  have h0 := cF h0 h1; refine aV ?_; refine ac [8,10] fun tz U u => ?_; (try simp only [go_sem]); refine qU u ?_; clear u U; refine aS ?_; obtain rfl := aq h0; refine aL ?_; refine aC J9 qR ?_; exact qF
theorem bo (a0 : Int) (a1 : aa) (a2 : (List Bool)) {r : aa} (h0 : be a0 a1 a2 = some r) : cQ K 24 5 (fun q => [(.ptr (q 0) 0), (vi a0)]) [(fun q => (af a1 (.imm (List.flatMap ah a1.sides.Sender.Out) a1.sides.Sender.Out.length) (.imm (List.flatMap aj a1.sides.Reorder.Held) a1.sides.Reorder.Held.length) (.clo 17 [] [(.ptr (q 1) 0)]) (.ref (q 2) 0 a1.out.Delivered.length 1) (.ref (q 3) 0 a1.out.Acked.length 1) (.ref (q 4) 0 a1.out.Dropped.length 1))), (fun q => [(.imm (List.map vb a2) a2.length)]), (fun q => (List.map vi a1.out.Delivered)), (fun q => (List.map vi a1.out.Acked)), (fun q => (List.map vi a1.out.Dropped))] (fun q => (.tup [])) [(some (fun q => (af r (.imm (List.flatMap ah r.sides.Sender.Out) r.sides.Sender.Out.length) (.imm (List.flatMap aj r.sides.Reorder.Held) r.sides.Reorder.Held.length) (.clo 17 [] [(.ptr (q 1) 0)]) (.ref (q 2) 0 a1.out.Delivered.length 1) (.ref (q 3) 0 a1.out.Acked.length 1) (.ref (q 4) 0 a1.out.Dropped.length 1)))), (some (fun q => [(.imm (List.map vb a2) a2.length)])), (some (fun q => (List.map vi a1.out.Delivered))), (some (fun q => (List.map vi a1.out.Acked))), (some (fun q => (List.map vi a1.out.Dropped)))] := by
 refine cQ.of_walkW hC (RenML.cons (aK.ptr 0 0) (RenML.cons rv RenML.nil)) (aQ (bm _ (rI (ai _)) (rI (ay _)) (aK.clo RenML.nil (RenML.cons (aK.ptr 1 0) RenML.nil)) (aK.ref 2 0 _ _) (aK.ref 3 0 _ _) (aK.ref 4 0 _ _)) (aQ (RenML.cons (rI (aU _)) RenML.nil) (aQ (RenML.const (ae _)) (aQ (RenML.const (ae _)) (aQ (RenML.const (ae _)) dZ))))) (aJ (bm _ (rI (ai _)) (rI (ay _)) (aK.clo RenML.nil (RenML.cons (aK.ptr 1 0) RenML.nil)) (aK.ref 2 0 _ _) (aK.ref 3 0 _ _) (aK.ref 4 0 _ _)) (aJ (RenML.cons (rI (aU _)) RenML.nil) (aJ (RenML.const (ae _)) (aJ (RenML.const (ae _)) (aJ (RenML.const (ae _)) dg))))) (aK.tup RenML.nil) rfl (qB2 rfl) (show K.P.funcs[24]? = some Try.f24 from Try.func24) rfl rfl (by decide +kernel) (qB2 rfl) ?_; unfold be at h0; refine ac [0,1] fun tz U u => ?_; (try simp only [go_sem]); refine qU u ?_; clear u U; refine bR (b := (a1.err == 0)) rfl (fun h1 => ?_) (fun h1 => ?_)
 ·
  have h0 := cT h0 h1; refine bI [0,1] fun tz U u => ?_; (try simp only [go_sem]); refine u _ ?_; clear u U; obtain rfl := aq h0; refine aL ?_; refine ep KE (rfl) ?_; refine dn.mk [] [some 0, some 1, some 2, some 3, some 4] rfl (aX qM rfl (au (by rfl) (tI (ai _)) (tI (ay _)) (Tm.clo tn (tc tp tn)) tr tr tr) (aX qM rfl (tc (tI (aU _)) tn) (aX qM rfl (TmL.of_eq qL (ae _)) (aX qM rfl (TmL.of_eq qL (ae _)) (aX qM rfl (TmL.of_eq qL (ae _)) er))))) (Tm.tup tn); (all_goals exact qN)
 ·
  have h0 := cF h0 h1; refine de ?_; obtain rfl := aq h0; refine aL ?_; refine ep KE (rfl) ?_; refine dn.mk [] [some 0, some 1, some 2, some 3, some 4] rfl (aX qM rfl (au (by rfl) (tI (ai _)) (tI (ay _)) (Tm.clo tn (tc tp tn)) tr tr tr) (aX qM rfl (tc (tI (aU _)) tn) (aX qM rfl (TmL.of_eq qL (ae _)) (aX qM rfl (TmL.of_eq qL (ae _)) (aX qM rfl (TmL.of_eq qL (ae _)) er))))) (Tm.tup tn); (all_goals exact qN)
theorem gn (a0 : Frame) {r : Frame} (h0 : dT a0 = some r) : SndP K 60 [(.agg (bg a0))] (.agg (bg r)) := by
 refine SndP.of_walkW hC (aB.agg (dJ _)) (ag (aB.agg (dJ _)) aG) (show K.P.funcs[60]? = some Try.f60 from Try.func60) rfl rfl (by decide +kernel) (qB2 rfl) ?_; unfold dT at h0; refine ac [0] fun tz U u => ?_; (try simp only [go_sem]); refine qU u ?_; clear u U; refine ac [1,2] fun tz U u => ?_; obtain ⟨x23, bx23, h0⟩ := bnd h0; have bx23 := bW bx23; simp only [Bool.and_eq_true, decide_eq_true_eq] at bx23; have gx23_0 := bx23; (try simp only [go_sem, gx23_0]); refine qU u ?_; clear u U; refine ac [1,2] fun tz U u => ?_; (try simp only [go_sem]); refine qU u ?_; clear u U; refine aS ?_; obtain rfl := aq h0; refine aL ?_; refine aC K7 qR ?_; exact qF
def oW (a0 : Sender) (d21 : (List ax)) : AS :=
 { objs := (upd (upd (upd (fun _ => .dead) 0 (.live (aA a0 (.imm (List.flatMap ah a0.Out) a0.Out.length)))) 1 (.live (aA Sender.z cM))) 2 (.live (List.flatMap ah d21))), next := 3, tmps := (upd (upd (upd (fun _ => .unk) 1 (.ptr 0 0)) 2 (.ptr 1 0)) 3 (.ref 2 0 d21.length 44)) }

def pS (a0 : Sender) (d22 : (List ax × Int)) : AS :=
 { objs := (upd (upd (upd (fun _ => .dead) 0 (.live (aA a0 (.imm (List.flatMap ah a0.Out) a0.Out.length)))) 1 (.live (aA Sender.z cM))) 2 (.live (List.flatMap ah d22.1))), next := 3, tmps := (upd (upd (upd (upd (upd (upd (fun _ => .unk) 1 (.ptr 0 0)) 2 (.ptr 1 0)) 3 (.ref 2 0 d22.1.length 44)) 7 (.imm (List.flatMap ah a0.Out) a0.Out.length)) 8 (vi (a0.Out.length : Int))) 9 (vi d22.2)) }

def pP (a0 : Sender) (d22 : (List ax × Int)) (x23 : ax) (x24 : Frame) : AS :=
 { objs := (upd (upd (upd (upd (fun _ => .dead) 0 (.live (aA a0 (.imm (List.flatMap ah a0.Out) a0.Out.length)))) 1 (.live (aA Sender.z cM))) 2 (.live (List.flatMap ah d22.1))) 3 (.live (br { x23 with Frame := x24 } (.imm (List.map vu x24.Body) x24.Body.length)))), next := 4, tmps := (upd (upd (upd (upd (upd (upd (upd (fun _ => .unk) 1 (.ptr 0 0)) 2 (.ptr 1 0)) 3 (.ref 2 0 d22.1.length 44)) 5 (.ptr 3 0)) 7 (.imm (List.flatMap ah a0.Out) a0.Out.length)) 8 (vi (a0.Out.length : Int))) 9 (vi d22.2)) }

theorem qn (a0 : Sender) {r : Sender} (h0 : fc a0 = some r) : gv K 41 [(.agg (bA a0))] (fun q => (.agg (aA r (.ref (q 0) 0 r.Out.length 44)))) [(List.flatMap ah r.Out)] := by
 refine gv.of_walkW hC (show K.P.funcs[41]? = some Try.f41 from Try.func41) rfl rfl (by decide +kernel) (qB2 rfl) ?_; unfold fc at h0; refine ac [0] fun tz U u => ?_; (try simp only [go_sem]); refine qU u ?_; clear u U; refine ac [1,2] fun tz U u => ?_; (try simp only [go_sem]); refine qU u ?_; clear u U; refine ap ?_; refine ac [1,2,3] fun tz U u => ?_; (try simp only [go_sem]); refine qU u ?_; clear u U; obtain ⟨d21, hi1, h0⟩ := bnd h0; refine dk (fun z => d21 = z) (fun d21 : (List ax) => oW a0 d21) ?_ ?_
 ·
  refine bB ?_; refine cO (fun n (d22 : (List ax × Int)) => eC a0 n d22 = some d21) (fun d22 : (List ax × Int) => pS a0 d22) big ([], 0) (Wk.canonD [] [] [some 0, some 1, none] rfl trivial rfl (vH 2 (aw 1 (aw 0 bv rfl qM rfl (ak (by rfl) (tI (ai _)))) rfl qM rfl (ak (by rfl) tv)) rfl) (tA 9 (tA 8 (tA 7 (tA 3 (tA 2 (tA 1 aO tp) tp) tT) (tI (ai _))) tv) tv)) hi1 ?_; clear hi1; rintro n d22 hl3; rcases n with _ | n2
  ·
   (rw [eC] at hl3; cases hl3)
  ·
   rw [eC] at hl3; unfold pS; refine ac [1,2,3,7,8,9] fun tz U u => ?_; (try simp only [go_sem]); refine qU u ?_; clear u U; refine aT (b := (decide (d22.2 < (a0.Out.length : Int)))) rfl (fun h4 => ?_) (fun h4 => ?_)
   ·
    have hl3 := cT hl3 h4; refine aV ?_; refine cC ?_; refine ac [1,2,3,7,8,9] fun tz U u => ?_; obtain ⟨x23, bx23, hl3⟩ := bnd hl3; obtain ⟨fx23_0, fx23_1, fx23_2, fx23_3⟩ := cz bx23; (try simp only [go_sem, fx23_0, fx23_1, fx23_2]); refine qU u ?_; clear u U; refine ac [1,2,3,5,7,8,9] fun tz U u => ?_; obtain ⟨x24, bx24, hl3⟩ := bnd hl3; (try simp only [go_sem, fx23_0, fx23_1, fx23_2]); (refine aZ (gn x23.Frame bx24) ?_; try dsimp only); (try refine av ?_); (try simp only [go_sem, fx23_0, fx23_1, fx23_2]); refine u _ (pP a0 d22 x23 x24) (by refine Wk.canonD [] [] [some 0, some 1, some 2, some 6] rfl trivial rfl (aw 3 (aw 2 (aw 1 (aw 0 bv rfl qM rfl (ak (by rfl) (tI (ai _)))) rfl qM rfl (ak (by rfl) tv)) rfl qM rfl (TmL.of_eq qL (ai _))) rfl qM rfl (ql (by rfl) (tI (fD _)))) (tA 9 (tA 8 (tA 7 (tA 5 (tA 3 (tA 2 (tA 1 aO tp) tp) tr) tp) (tI (ai _))) tv) tv); all_goals exact qN) ?_; clear u U; unfold pP; refine bI [1,2,3,5,7,8,9] fun tz U u => ?_; obtain ⟨x25, bx25, hl3⟩ := bnd hl3; have bx25 := bW bx25; simp only [Bool.and_eq_true, decide_eq_true_eq] at bx25; have gx25_0 := bx25; (try simp only [go_sem, fx23_0, fx23_1, fx23_2, gx25_0]); refine u _ ?_; clear u U; refine iF ?_; refine et ?_; refine bI [1,2,3,7,8,9] fun tz U u => ?_; (try simp only [go_sem, fx23_0, fx23_1, fx23_2]); refine u _ ?_; clear u U; refine jw ?_; exact ⟨n2, ((d22.1 ++ [{ x23 with Frame := x24 }]), IntKind.wrap .i64 (d22.2 + 1)), rfl, hl3, (by refine Wk.canonD [] [] [some 0, some 1, some 7] rfl trivial rfl (aw 2 (aw 1 (aw 0 bv rfl qM rfl (ak (by rfl) (tI (ai _)))) rfl qM rfl (ak (by rfl) tv)) rfl qM rfl (TmL.of_eq qL (ai _))) (tA 9 (tA 8 (tA 7 (tA 3 (tA 2 (tA 1 aO tp) tp) tr) (tI (ai _))) tv) tv); all_goals exact qN)⟩
   ·
    have hl3 := cF hl3 h4; refine cL ?_; refine kW ?_; refine jX ?_; refine gc ?_; obtain rfl := aq hl3; exact ⟨_, rfl, (by refine Wk.canonD [] [] [some 0, some 1, some 2] rfl trivial rfl (aw 2 (aw 1 (aw 0 bv rfl qM rfl (ak (by rfl) (tI (ai _)))) rfl qM rfl (ak (by rfl) tv)) rfl qM rfl (TmL.of_eq qL (ai _))) (tA 3 (tA 2 (tA 1 aO tp) tp) tr); all_goals exact qN)⟩
 ·
  rintro _ rfl; clear hi1; unfold oW; refine ac [1,2,3] fun tz U u => ?_; (try simp only [go_sem]); refine qU u ?_; clear u U; refine ac [1,2] fun tz U u => ?_; (try simp only [go_sem]); refine qU u ?_; clear u U; refine aS ?_; obtain rfl := aq h0; refine aL ?_; refine aC K6 qR ?_; refine Res.mk [] [some 2] rfl (fB qM rfl (TmL.of_eq qL (ai _)) cZ) (Tm.agg (ak (by rfl) tr)); (all_goals exact qN)

theorem qp (a0 : Sender) {r : Sender} (h0 : fc a0 = some r) : lK K 41 [(.agg (bA a0))] (fun q => (.agg (aA r (.ref (q 0) 0 r.Out.length 44)))) [(List.flatMap ah r.Out)] :=
 fun hs => Snd.of_newM (aK.agg (bL _ (aK.ref 0 0 _ _))) (bw (ai _) cK) (ag (aB.agg (aY _)) aG) (qn a0 h0) hs

theorem xx (a0 : Sender) {r : Sender} (h0 : fc a0 = some r) (fr : Nat) (hs : HS) : kl K 41 [(.agg (bA a0))] hs fr ⟨(fun q : Nat → Nat => (.agg (aA r (.ref (q 0) 0 r.Out.length 44)))) fun _ => fr, .new (List.flatMap ah r.Out)⟩ :=
 kl.of_res (aK.agg (bL _ (aK.ref 0 0 _ _))) (ai _) (ag (aB.agg (aY _)) aG) (fun a b h => by simp only [h]) (qn a0 h0) hs fr
def qx (a0 : Sender) (a1 : Int) (x19 : Int) : AS :=
 { objs := (upd (upd (upd (fun _ => .dead) 0 (.live (aA a0 (.imm (List.flatMap ah a0.Out) a0.Out.length)))) 1 (.live (bC b8.z))) 2 (.live (aA Sender.z cM))), next := 3, tmps := (upd (upd (upd (upd (upd (fun _ => .unk) 1 (vi a1)) 2 (.ptr 0 0)) 4 (.ptr 1 0)) 5 (.ptr 2 0)) 7 (vi x19)) }

def qk (a0 : Sender) (a1 : Int) : AS :=
 { objs := (upd (upd (upd (fun _ => .dead) 0 (.live (aA { a0 with Phase := 1, Size := a1, Token := IntKind.wrap .i64 ((a0.Token.tmod 255) + 1) } (.imm (List.flatMap ah a0.Out) a0.Out.length)))) 1 (.live (bC b8.z))) 2 (.live (aA Sender.z cM))), next := 3, tmps := (upd (upd (upd (upd (fun _ => .unk) 1 (vi a1)) 2 (.ptr 0 0)) 4 (.ptr 1 0)) 5 (.ptr 2 0)) }

theorem y6 (a0 : Sender) (a1 : Int) {r : (b8 × Sender × Int)} (h0 : jT a0 a1 = some r) : gv K 25 [(.agg (bA a0)), (vi a1)] (fun q => (.tup [(.agg (bC r.1)), (.agg (aA r.2.1 (.ref (q 0) 0 r.2.1.Out.length 44))), (vi r.2.2)])) [(List.flatMap ah r.2.1.Out)] := by
 refine gv.of_walkW hC (show K.P.funcs[25]? = some Try.f25 from Try.func25) rfl rfl (by decide +kernel) (qB2 rfl) ?_; unfold jT at h0; refine ac [0,1] fun tz U u => ?_; (try simp only [go_sem]); refine qU u ?_; clear u U; refine ac [1,2,4,5] fun tz U u => ?_; obtain ⟨x19, bx19, h0⟩ := bnd h0; (try simp only [go_sem]); (refine aZ (fx a0 bx19) ?_; try dsimp only); (try refine av ?_); (try simp only [go_sem]); refine u _ (qx a0 a1 x19) (Wk.canonD [] [] [some 0, some 1, some 2] rfl trivial rfl (aw 2 (aw 1 (aw 0 bv rfl qM rfl (ak (by rfl) (tI (ai _)))) rfl qM rfl (TmL.clean (dc _))) rfl qM rfl (ak (by rfl) tv)) (tA 7 (tA 5 (tA 4 (tA 2 (tA 1 aO tv) tp) tp) tp) tv)) ?_; clear u U; unfold qx; refine cC ?_; refine ac [1,2,4,5,7] fun tz U u => ?_; (try simp only [go_sem]); refine qU u ?_; clear u U; refine bR (b := (x19 != 0)) rfl (fun h1 => ?_) (fun h1 => ?_)
 ·
  have h0 := cT h0 h1; refine ac [4,5,7] fun tz U u => ?_; (try simp only [go_sem]); refine qU u ?_; clear u U; refine aS ?_; refine jk ?_; refine jS ?_; obtain rfl := aq h0; refine aL ?_; refine aC EU qR ?_; refine Res.mk [] [none] rfl (c5 cZ) (Tm.tup (tc (Tm.clean (aB.agg (dc _))) (tc (Tm.agg (ak (by rfl) tT)) (tc tv tn))))
 ·
  have h0 := cF h0 h1; refine ac [1,2,4,5] fun tz U u => ?_; obtain ⟨x20, bx20, h0⟩ := bnd h0; (try simp only [go_sem]); (refine aZ (cy a1 1 64 bx20) ?_; try dsimp only); (try refine av ?_); (try simp only [go_sem]); refine qU u ?_; clear u U; refine bR (b := (!x20)) rfl (fun h2 => ?_) (fun h2 => ?_)
  ·
   have h0 := cT h0 h2; refine ac [4,5] fun tz U u => ?_; (try simp only [go_sem]); refine qU u ?_; clear u U; refine aS ?_; refine jk ?_; refine jS ?_; obtain rfl := aq h0; refine aL ?_; refine aC EU qR ?_; refine Res.mk [] [none] rfl (c5 cZ) (Tm.tup (tc (Tm.clean (aB.agg (dc _))) (tc (Tm.agg (ak (by rfl) tT)) (tc tv tn))))
  ·
   have h0 := cF h0 h2; refine ac [1,2,4,5] fun tz U u => ?_; (try simp only [go_sem]); refine qU u ?_; clear u U; refine bR (b := (a0.Phase == 2)) rfl (fun h3 => ?_) (fun h3 => ?_)
   ·
    have h0 := cT h0 h3; refine ac [4,5] fun tz U u => ?_; (try simp only [go_sem]); refine qU u ?_; clear u U; refine aS ?_; refine jk ?_; refine jS ?_; obtain rfl := aq h0; refine aL ?_; refine aC EU qR ?_; refine Res.mk [] [none] rfl (c5 cZ) (Tm.tup (tc (Tm.clean (aB.agg (dc _))) (tc (Tm.agg (ak (by rfl) tT)) (tc tv tn))))
   ·
    have h0 := cF h0 h3; refine de ?_; refine iF ?_; refine et ?_; refine ac [1,2,4,5] fun tz U u => ?_; (try simp only [go_sem, Int.reduceEq]); refine u _ (qk a0 a1) (Wk.canonD [] [] [some 0, some 1, some 2] rfl trivial rfl (aw 2 (aw 1 (aw 0 bv rfl qM rfl (ak (by rfl) (tI (ai _)))) rfl qM rfl (TmL.clean (dc _))) rfl qM rfl (ak (by rfl) tv)) (tA 5 (tA 4 (tA 2 (tA 1 aO tv) tp) tp) tp)) ?_; clear u U; unfold qk; refine ef [1,2,4,5] (fun _ => rfl) fun tz => ?_; refine cx fun U u all hall => ?_; refine cA ?_; (try simp only [List.toList_toArray, List.map_cons, List.map_nil, List.size_toArray, List.length_cons, List.length_nil, Nat.zero_add]); (try simp only [Nat.reduceAdd]); obtain ⟨x21, bx21, h0⟩ := bnd h0; (iterate 3 ((try simp only [go_sem, -Nat.reduceAdd]); try simp only [Nat.reduceAdd])); (refine o6 (xx { a0 with Phase := 1, Size := a1, Token := IntKind.wrap .i64 ((a0.Token.tmod 255) + 1) } bx21 _) ?_; try dsimp only); (try refine cA ?_); (iterate 3 ((try simp only [go_sem, -Nat.reduceAdd]); try simp only [Nat.reduceAdd])); refine And.intro ?_ (u _ _ (Wk.refl _ _ _) ?_)
    ·
     subst hall; clear u U; exact qP
    ·
     clear u U hall all; refine aS ?_; obtain rfl := aq h0; refine aL ?_; refine aC EU qR ?_; refine Res.mk [] [some 12] rfl (fB qM rfl (TmL.of_eq qL (ai _)) cZ) (Tm.tup (tc (Tm.clean (aB.agg (dc _))) (tc (Tm.agg (ak (by rfl) tr)) (tc tv tn)))); (all_goals exact qN)


theorem yO (a0 : Sender) (a1 : Int) {r : (b8 × Sender × Int)} (h0 : jT a0 a1 = some r) : SndP K 25 [(.agg (bA a0)), (vi a1)] (.tup [(.agg (bC r.1)), (.agg (bA r.2.1)), (vi r.2.2)]) :=
 lK.pure (rM (y6 a0 a1 h0) (aK.tup (RenML.cons (aK.const (aB.agg (dc _))) (RenML.cons (aK.agg (bL _ (aK.ref 0 0 _ _))) (RenML.cons rv RenML.nil)))) (bw (ai _) cK) (ag (aB.agg (aY _)) (ag cv aG))) (aB.tup (ag (aB.agg (dc _)) (ag (aB.agg (aY _)) (ag cv aG)))) (ag (aB.agg (aY _)) (ag cv aG)) qV
def mm (a0 : Sender) (a1 : bx) (x24 : Int) : AS :=
 { objs := (upd (upd (upd (fun _ => .dead) 0 (.live (aA a0 (.imm (List.flatMap ah a0.Out) a0.Out.length)))) 1 (.live (bp a1))) 2 (.live (aA Sender.z cM))), next := 3, tmps := (upd (upd (upd (upd (fun _ => .unk) 2 (.ptr 0 0)) 3 (.ptr 1 0)) 4 (.ptr 2 0)) 6 (vi x24)) }

def mG (d25 : Sender) : AS :=
 { objs := (upd (upd (fun _ => .dead) 0 (.live (aA d25 (.imm (List.flatMap ah d25.Out) d25.Out.length)))) 1 (.live (aA Sender.z cM))), next := 2, tmps := (upd (upd (fun _ => .unk) 2 (.ptr 0 0)) 4 (.ptr 1 0)) }

theorem t8 (a0 : Sender) (a1 : bx) {r : (Sender × Int)} (h0 : gp a0 a1 = some r) : gv K 26 [(.agg (bA a0)), (.agg (bp a1))] (fun q => (.tup [(.agg (aA r.1 (.ref (q 0) 0 r.1.Out.length 44))), (vi r.2)])) [(List.flatMap ah r.1.Out)] := by
 refine gv.of_walkW hC (show K.P.funcs[26]? = some Try.f26 from Try.func26) rfl rfl (by decide +kernel) (qB2 rfl) ?_; unfold gp at h0; refine ac [0,1] fun tz U u => ?_; (try simp only [go_sem]); refine qU u ?_; clear u U; refine ac [2,3,4] fun tz U u => ?_; obtain ⟨x24, bx24, h0⟩ := bnd h0; (try simp only [go_sem]); (refine aZ (fx a0 bx24) ?_; try dsimp only); (try refine av ?_); (try simp only [go_sem]); refine u _ (mm a0 a1 x24) (Wk.canonD [] [] [some 0, some 1, some 2] rfl trivial rfl (aw 2 (aw 1 (aw 0 bv rfl qM rfl (ak (by rfl) (tI (ai _)))) rfl qM rfl (TmL.clean (g8 _))) rfl qM rfl (ak (by rfl) tv)) (tA 6 (tA 4 (tA 3 (tA 2 aO tp) tp) tp) tv)) ?_; clear u U; unfold mm; obtain ⟨o26, hi1, h0⟩ := bnd h0; refine dk (fun d25 : Sender => o26 = Ex.go d25) (fun d25 : Sender => mG d25) ?_ ?_
 ·
  refine bB ?_; refine ac [2,3,4,6] fun tz U u => ?_; (try simp only [go_sem]); refine qU u ?_; clear u U; refine bR (b := (x24 != 0)) rfl (fun h2 => ?_) (fun h2 => ?_)
  ·
   have hi1 := cT hi1 h2; refine ac [4,6] fun tz U u => ?_; (try simp only [go_sem]); refine qU u ?_; clear u U; refine aS ?_; refine jk ?_; refine jS ?_; obtain rfl := aq hi1; obtain rfl := Ex.k_ret h0; refine aL ?_; refine aC DR qR ?_; refine Res.mk [] [none] rfl (c5 cZ) (Tm.tup (tc (Tm.agg (ak (by rfl) tT)) (tc tv tn)))
  ·
   have hi1 := cF hi1 h2; refine ac [2,3,4] fun tz U u => ?_; (try simp only [go_sem]); refine qU u ?_; clear u U; refine bR (b := (a0.Phase != 1)) rfl (fun h3 => ?_) (fun h3 => ?_)
   ·
    have hi1 := cT hi1 h3; refine ac [4] fun tz U u => ?_; (try simp only [go_sem]); refine qU u ?_; clear u U; refine aS ?_; refine jk ?_; refine jS ?_; obtain rfl := aq hi1; obtain rfl := Ex.k_ret h0; refine aL ?_; refine aC DR qR ?_; refine Res.mk [] [none] rfl (c5 cZ) (Tm.tup (tc (Tm.agg (ak (by rfl) tT)) (tc tv tn)))
   ·
    have hi1 := cF hi1 h3; refine ac [2,3,4] fun tz U u => ?_; refine bq 6 qS qS (by rfl) fun V v => ?_; refine av ?_; (try simp only [go_sem]); refine v _ ?_; clear v V; refine bK 6 [(2, (.ptr 0 0)), (3, (.ptr 1 0)), (4, (.ptr 2 0)), (35, (vb ((a1.Token != a0.Token) || (a1.Tid != a0.Tid))))] qS qS (by rfl) (fun V v => ?_) fun tz => ?_
    ·
     refine av ?_; rcases bE (a1.Token != a0.Token) with h4 | h4
     ·
      (try simp only [go_sem, h4]); exact v _ ⟨rfl, rfl, rfl, rfl, (qB h4), trivial⟩
     ·
      (try simp only [go_sem, h4]); exact v _ ⟨rfl, rfl, rfl, rfl, (qB h4), trivial⟩
    ·
     refine av ?_; (try simp only [go_sem]); refine qU u ?_; clear u U; refine bR (b := ((a1.Token != a0.Token) || (a1.Tid != a0.Tid))) rfl (fun h5 => ?_) (fun h5 => ?_)
     ·
      have hi1 := cT hi1 h5; refine ac [4] fun tz U u => ?_; (try simp only [go_sem]); refine qU u ?_; clear u U; refine aS ?_; refine jk ?_; refine jS ?_; obtain rfl := aq hi1; obtain rfl := Ex.k_ret h0; refine aL ?_; refine aC DR qR ?_; refine Res.mk [] [none] rfl (c5 cZ) (Tm.tup (tc (Tm.agg (ak (by rfl) tT)) (tc tv tn)))
     ·
      have hi1 := cF hi1 h5; refine ac [2,3,4] fun tz U u => ?_; (try simp only [go_sem]); refine qU u ?_; clear u U; refine bR (b := (a1.Status != 0)) rfl (fun h6 => ?_) (fun h6 => ?_)
      ·
       have hi1 := cT hi1 h6; refine bI [2,4] fun tz U u => ?_; (try simp only [go_sem]); refine u _ ?_; clear u U; refine iF ?_; refine gc ?_; obtain rfl := aq hi1; exact ⟨_, rfl, (Wk.canonD [] [] [some 0, some 2] rfl trivial rfl (aw 1 (aw 0 bv rfl qM rfl (ak (by rfl) (tI (ai _)))) rfl qM rfl (ak (by rfl) tv)) (tA 4 (tA 2 aO tp) tp))⟩
      ·
       have hi1 := cF hi1 h6; refine ac [2,3,4] fun tz U u => ?_; obtain ⟨x27, bx27, hi1⟩ := bnd hi1; (try simp only [go_sem]); (refine aZ (cy a1.Size 1 a0.Size bx27) ?_; try dsimp only); (try refine av ?_); (try simp only [go_sem]); refine qU u ?_; clear u U; refine bR (b := (!x27)) rfl (fun h7 => ?_) (fun h7 => ?_)
       ·
        have hi1 := cT hi1 h7; refine ac [4] fun tz U u => ?_; (try simp only [go_sem]); refine qU u ?_; clear u U; refine aS ?_; refine jk ?_; refine jS ?_; obtain rfl := aq hi1; obtain rfl := Ex.k_ret h0; refine aL ?_; refine aC DR qR ?_; refine Res.mk [] [none] rfl (c5 cZ) (Tm.tup (tc (Tm.agg (ak (by rfl) tT)) (tc tv tn)))
       ·
        have hi1 := cF hi1 h7; refine kQ [2,3,4] (fun _ => rfl) fun tz => ?_; refine iS fun U u all hall => ?_; refine cA ?_; (try simp only [List.toList_toArray, List.map_cons, List.map_nil, List.size_toArray, List.length_cons, List.length_nil, Nat.zero_add]); (try simp only [Nat.reduceAdd]); (iterate 3 ((try simp only [go_sem, -Nat.reduceAdd]); try simp only [Nat.reduceAdd])); refine And.intro ?_ (u _ ?_)
        ·
         subst hall; clear u U; exact qP
        ·
         clear u U hall all; refine iF ?_; refine gc ?_; obtain rfl := aq hi1; exact ⟨_, rfl, (Wk.canonD [] [] [some 0, some 2] rfl trivial rfl (aw 1 (aw 0 bv rfl qM rfl (ak (by rfl) (tI (ai _)))) rfl qM rfl (ak (by rfl) tv)) (tA 4 (tA 2 aO tp) tp))⟩
 ·
  rintro d25 rfl; have h0 := Ex.k_go h0; clear hi1; unfold mG; refine ac [2,4] fun tz U u => ?_; obtain ⟨x28, bx28, h0⟩ := bnd h0; (try simp only [go_sem]); (refine lO (qp d25 bx28) ?_; try dsimp only); (try refine av ?_); (try simp only [go_sem]); refine qU u ?_; clear u U; refine aS ?_; obtain rfl := aq h0; refine aL ?_; refine aC DR qR ?_; refine Res.mk [] [some 6] rfl (fB qM rfl (TmL.of_eq qL (ai _)) cZ) (Tm.tup (tc (Tm.agg (ak (by rfl) tr)) (tc tv tn))); (all_goals exact qN)


theorem ur (a0 : Sender) (a1 : bx) {r : (Sender × Int)} (h0 : gp a0 a1 = some r) : SndP K 26 [(.agg (bA a0)), (.agg (bp a1))] (.tup [(.agg (bA r.1)), (vi r.2)]) :=
 lK.pure (rM (t8 a0 a1 h0) (aK.tup (RenML.cons (aK.agg (bL _ (aK.ref 0 0 _ _))) (RenML.cons rv RenML.nil))) (bw (ai _) cK) (ag (aB.agg (aY _)) (ag (aB.agg (g8 _)) aG))) (aB.tup (ag (aB.agg (aY _)) (ag cv aG))) (ag (aB.agg (aY _)) (ag (aB.agg (g8 _)) aG)) qV
theorem gO (a0 : Int) {r : Bool} (h0 : dp a0 = some r) : SndP K 61 [(vi a0)] (vb r) := by
 refine SndP.of_walkW hC cv (ag cv aG) (show K.P.funcs[61]? = some Try.f61 from Try.func61) rfl rfl (by decide +kernel) (qB2 rfl) ?_; unfold dp at h0; refine ac [0] fun tz U u => ?_; (try simp only [go_sem]); refine qU u ?_; clear u U; refine ac [0] fun tz U u => ?_; refine bq 3 qS qS (by rfl) fun V v => ?_; refine av ?_; (try simp only [go_sem]); refine v _ ?_; clear v V; refine bK 3 [(8, (vb ((decide (0 ≤ a0)) && (decide (a0 < 4096)))))] qS qS (by rfl) (fun V v => ?_) fun tz => ?_
 ·
  refine av ?_; rcases bE (decide (0 ≤ a0)) with h1 | h1
  ·
   (try simp only [go_sem, h1]); exact v _ ⟨rfl, (qB h1), trivial⟩
  ·
   (try simp only [go_sem, h1]); exact v _ ⟨rfl, (qB h1), trivial⟩
 ·
  refine av ?_; (try simp only [go_sem]); refine qU u ?_; clear u U; refine aS ?_; obtain rfl := aq h0; refine aL ?_; refine aC Lq (rfl) ?_; exact qF
theorem nC (a0 : Int) {r : Bool} (h0 : en a0 = some r) : SndP K 72 [(vi a0)] (vb r) := by
 refine SndP.of_walkW hC cv (ag cv aG) (show K.P.funcs[72]? = some Try.f72 from Try.func72) rfl rfl (by decide +kernel) (qB2 rfl) ?_; unfold en at h0; refine ac [0] fun tz U u => ?_; (try simp only [go_sem]); refine qU u ?_; clear u U; refine ac [0] fun tz U u => ?_; refine bq 3 qS qS (by rfl) fun V v => ?_; refine av ?_; (try simp only [go_sem]); refine v _ ?_; clear v V; refine bK 3 [(8, (vb ((decide (0 ≤ a0)) && (decide (a0 < 4096)))))] qS qS (by rfl) (fun V v => ?_) fun tz => ?_
 ·
  refine av ?_; rcases bE (decide (0 ≤ a0)) with h1 | h1
  ·
   (try simp only [go_sem, h1]); exact v _ ⟨rfl, (qB h1), trivial⟩
  ·
   (try simp only [go_sem, h1]); exact v _ ⟨rfl, (qB h1), trivial⟩
 ·
  refine av ?_; (try simp only [go_sem]); refine qU u ?_; clear u U; refine aS ?_; obtain rfl := aq h0; refine aL ?_; refine aC Lu (rfl) ?_; exact qF
theorem lf (a0 : aW) {r : Int} (h0 : eO a0 = some r) : SndP K 62 [(.agg (bb a0))] (vi r) := by
 refine SndP.of_walkW hC cv (ag (aB.agg (aM _)) aG) (show K.P.funcs[62]? = some Try.f62 from Try.func62) rfl rfl (by decide +kernel) (qB2 rfl) ?_; unfold eO at h0; refine ac [0] fun tz U u => ?_; (try simp only [go_sem]); refine qU u ?_; clear u U; refine ap ?_; refine ac [1] fun tz U u => ?_; obtain ⟨x32, bx32, h0⟩ := bnd h0; (try simp only [go_sem]); (refine aZ (nC a0.Start bx32) ?_; try dsimp only); (try refine av ?_); (try simp only [go_sem]); refine qU u ?_; clear u U; refine aT (b := (!x32)) rfl (fun h1 => ?_) (fun h1 => ?_)
 ·
  have h0 := cT h0 h1; refine ap ?_; refine ac [] fun tz U u => ?_; (try simp only [go_sem]); refine qU u ?_; clear u U; refine bH ?_; obtain rfl := aq h0; refine aL ?_; refine aC KB (rfl) ?_; exact qF
 ·
  have h0 := cF h0 h1; refine aV ?_; refine ac [] fun tz U u => ?_; (try simp only [go_sem]); refine qU u ?_; clear u U; refine aS ?_; obtain rfl := aq h0; refine aL ?_; refine aC KB (rfl) ?_; exact qF
theorem jQ (a0 : Int) {r : Bool} (h0 : ez a0 = some r) : SndP K 55 [(vi a0)] (vb r) := by
 refine SndP.of_walkW hC cv (ag cv aG) (show K.P.funcs[55]? = some Try.f55 from Try.func55) rfl rfl (by decide +kernel) (qB2 rfl) ?_; unfold ez at h0; refine ac [0] fun tz U u => ?_; (try simp only [go_sem]); refine qU u ?_; clear u U; refine ac [0] fun tz U u => ?_; refine bq 3 qS qS (by rfl) fun V v => ?_; refine av ?_; (try simp only [go_sem]); refine v _ ?_; clear v V; refine bK 3 [(8, (vb ((decide (0 ≤ a0)) && (decide (a0 ≤ 1099511627776)))))] qS qS (by rfl) (fun V v => ?_) fun tz => ?_
 ·
  refine av ?_; rcases bE (decide (0 ≤ a0)) with h1 | h1
  ·
   (try simp only [go_sem, h1]); exact v _ ⟨rfl, (qB h1), trivial⟩
  ·
   (try simp only [go_sem, h1]); exact v _ ⟨rfl, (qB h1), trivial⟩
 ·
  refine av ?_; (try simp only [go_sem]); refine qU u ?_; clear u U; refine aS ?_; obtain rfl := aq h0; refine aL ?_; refine aC Mf (rfl) ?_; exact qF
def mR (d34 : Unit) : AS :=
 { objs := (fun _ => .dead), next := 0, tmps := (fun _ => .unk) }

def mn (a0 : Reorder) (d36 : (Int × Int)) : AS :=
 { objs := (upd (fun _ => .dead) 0 (.live (aF a0 (.imm (List.flatMap aj a0.Held) a0.Held.length)))), next := 1, tmps := (upd (upd (upd (upd (upd (fun _ => .unk) 1 (.ptr 0 0)) 3 (vi d36.1)) 38 (.imm (List.flatMap aj a0.Held) a0.Held.length)) 39 (vi (a0.Held.length : Int))) 40 (vi d36.2)) }

def mI (a0 : Reorder) (x38 : Int) (d36 : (Int × Int)) (x41 : Bool) : AS :=
 { objs := (upd (fun _ => .dead) 0 (.live (aF a0 (.imm (List.flatMap aj a0.Held) a0.Held.length)))), next := 1, tmps := (upd (upd (upd (upd (upd (upd (fun _ => .unk) 1 (.ptr 0 0)) 6 (vi x38)) 38 (.imm (List.flatMap aj a0.Held) a0.Held.length)) 39 (vi (a0.Held.length : Int))) 40 (vi d36.2)) 73 (vb ((x41 || (decide (x38 ≤ d36.1))) || (decide (a0.Size ≤ x38))))) }

theorem fV (a0 : Reorder) {r : Int} (h0 : ei a0 = some r) : SndP K 42 [(.agg (c7 a0))] (vi r) := by
 refine SndP.of_walkW hC cv (ag (aB.agg (bF _)) aG) (show K.P.funcs[42]? = some Try.f42 from Try.func42) rfl rfl (by decide +kernel) (qB2 rfl) ?_; unfold ei at h0; refine ac [0] fun tz U u => ?_; (try simp only [go_sem]); refine qU u ?_; clear u U; refine ap ?_; refine ac [1] fun tz U u => ?_; obtain ⟨x31, bx31, h0⟩ := bnd h0; (try simp only [go_sem]); (refine aZ (gO a0.Start bx31) ?_; try dsimp only); (try refine av ?_); refine bq 2 qS qS (by rfl) fun V v => ?_; refine av ?_; (try simp only [go_sem]); refine v _ ?_; clear v V; refine bK 4 [(1, (.ptr 0 0)), (15, (vb ((!x31) || (decide (a0.Size < 1)))))] qS qS (by rfl) (fun V v => ?_) fun tz => ?_
 ·
  refine av ?_; rcases bE (!x31) with h1 | h1
  ·
   (try simp only [go_sem, h1]); exact v _ ⟨rfl, rfl, (qB h1), trivial⟩
  ·
   (try simp only [go_sem, h1]); exact v _ ⟨rfl, rfl, (qB h1), trivial⟩
 ·
  refine av ?_; refine bq 1 qS qS (by rfl) fun V v => ?_; refine av ?_; (try simp only [go_sem]); refine v _ ?_; clear v V; refine bK 4 [(1, (.ptr 0 0)), (20, (vb (((!x31) || (decide (a0.Size < 1))) || (decide (64 < a0.Size)))))] qS qS (by rfl) (fun V v => ?_) fun tz => ?_
  ·
   refine av ?_; rcases bE ((!x31) || (decide (a0.Size < 1))) with h2 | h2
   ·
    (try simp only [go_sem, h2]); exact v _ ⟨rfl, rfl, (qB h2), trivial⟩
   ·
    (try simp only [go_sem, h2]); exact v _ ⟨rfl, rfl, (qB h2), trivial⟩
  ·
   refine av ?_; refine bq 1 qS qS (by rfl) fun V v => ?_; refine av ?_; (try simp only [go_sem]); refine v _ ?_; clear v V; refine bK 4 [(1, (.ptr 0 0)), (25, (vb ((((!x31) || (decide (a0.Size < 1))) || (decide (64 < a0.Size))) || (decide (a0.Hold < 0)))))] qS qS (by rfl) (fun V v => ?_) fun tz => ?_
   ·
    refine av ?_; rcases bE (((!x31) || (decide (a0.Size < 1))) || (decide (64 < a0.Size))) with h3 | h3
    ·
     (try simp only [go_sem, h3]); exact v _ ⟨rfl, rfl, (qB h3), trivial⟩
    ·
     (try simp only [go_sem, h3]); exact v _ ⟨rfl, rfl, (qB h3), trivial⟩
   ·
    refine av ?_; refine bq 1 qS qS (by rfl) fun V v => ?_; refine av ?_; (try simp only [go_sem]); refine v _ ?_; clear v V; refine bK 4 [(1, (.ptr 0 0)), (30, (vb (((((!x31) || (decide (a0.Size < 1))) || (decide (64 < a0.Size))) || (decide (a0.Hold < 0))) || (decide (16777216 < a0.Hold)))))] qS qS (by rfl) (fun V v => ?_) fun tz => ?_
    ·
     refine av ?_; rcases bE ((((!x31) || (decide (a0.Size < 1))) || (decide (64 < a0.Size))) || (decide (a0.Hold < 0))) with h4 | h4
     ·
      (try simp only [go_sem, h4]); exact v _ ⟨rfl, rfl, (qB h4), trivial⟩
     ·
      (try simp only [go_sem, h4]); exact v _ ⟨rfl, rfl, (qB h4), trivial⟩
    ·
     refine av ?_; refine bq 1 qS qS (by rfl) fun V v => ?_; refine av ?_; (try simp only [go_sem]); refine v _ ?_; clear v V; obtain ⟨x33, hvh5, h0⟩ := bnd h0; refine bK 5 [(1, (.ptr 0 0)), (36, (vb x33))] qS qS (by rfl) (fun V v => ?_) fun tz => ?_
     ·
      refine av ?_; rcases bE (((((!x31) || (decide (a0.Size < 1))) || (decide (64 < a0.Size))) || (decide (a0.Hold < 0))) || (decide (16777216 < a0.Hold))) with h5 | h5
      ·
       have hvh5 := cT hvh5 h5; (try simp only [go_sem, h5]); obtain rfl := aq hvh5; exact v _ ⟨rfl, rfl, (qB h5), trivial⟩
      ·
       have hvh5 := cF hvh5 h5; obtain ⟨x32, bx32, hvh5⟩ := bnd hvh5; (try simp only [go_sem, h5]); (refine aZ (lf a0.Seen bx32) ?_; try dsimp only); (try refine av ?_); (try simp only [go_sem, h5]); obtain rfl := aq hvh5; exact v _ ⟨rfl, rfl, (qB h5), trivial⟩
     ·
      refine av ?_; (try simp only [go_sem]); refine qU u ?_; clear u U; refine aT (b := x33) rfl (fun h6 => ?_) (fun h6 => ?_)
      ·
       have h0 := cT h0 h6; refine ap ?_; refine ac [] fun tz U u => ?_; (try simp only [go_sem]); refine qU u ?_; clear u U; refine bH ?_; obtain rfl := aq h0; refine aL ?_; refine aC It (rfl) ?_; exact qF
      ·
       have h0 := cF h0 h6; refine aV ?_; refine ac [1] fun tz U u => ?_; (try simp only [go_sem]); refine qU u ?_; clear u U; refine ap ?_; refine ac [1,3] fun tz U u => ?_; (try simp only [go_sem]); refine qU u ?_; clear u U; obtain ⟨o35, hi7, h0⟩ := bnd h0; refine dk (fun d34 : Unit => o35 = Ex.go d34) (fun d34 : Unit => mR d34) ?_ ?_
       ·
        refine bB ?_; refine cO (fun n (d36 : (Int × Int)) => cW a0 n d36 = some o35) (fun d36 : (Int × Int) => mn a0 d36) big (0, 0) (Wk.canonD [] [] [some 0] rfl trivial rfl (aw 0 bv rfl qM rfl (aN (by rfl) (tI (ay _)))) (tA 40 (tA 39 (tA 38 (tA 3 (tA 1 aO tp) tv) (tI (ay _))) tv) tv)) hi7 ?_; clear hi7; rintro n d36 hl9; rcases n with _ | n8
        ·
         (rw [cW] at hl9; cases hl9)
        ·
         rw [cW] at hl9; unfold mn; refine ac [1,3,38,39,40] fun tz U u => ?_; (try simp only [go_sem]); refine qU u ?_; clear u U; refine aT (b := (decide (d36.2 < (a0.Held.length : Int)))) rfl (fun h10 => ?_) (fun h10 => ?_)
         ·
          have hl9 := cT hl9 h10; refine aV ?_; refine cC ?_; refine ac [1,3,38,39,40] fun tz U u => ?_; obtain ⟨x37, bx37, hl9⟩ := bnd hl9; obtain ⟨fx37_0, fx37_1, fx37_2, fx37_3⟩ := cz bx37; (try simp only [go_sem, fx37_0, fx37_1, fx37_2]); refine qU u ?_; clear u U; refine ac [1,3,5,38,39,40] fun tz U u => ?_; obtain ⟨x38, bx38, hl9⟩ := bnd hl9; (try simp only [go_sem, fx37_0, fx37_1, fx37_2]); (refine aZ (cN a0.Start x37.Frame.Head.Seq bx38) ?_; try dsimp only); (try refine av ?_); (try simp only [go_sem, fx37_0, fx37_1, fx37_2]); refine qU u ?_; clear u U; refine ap ?_; refine ac [1,3,5,6,38,39,40] fun tz U u => ?_; obtain ⟨x39, bx39, hl9⟩ := bnd hl9; (try simp only [go_sem, fx37_0, fx37_1, fx37_2]); (refine aZ (gO x37.Frame.Head.Seq bx39) ?_; try dsimp only); (try refine av ?_); refine bq 2 qS qS (by rfl) fun V v => ?_; refine av ?_; (try simp only [go_sem, fx37_0, fx37_1, fx37_2]); refine v _ ?_; clear v V; obtain ⟨x41, hvh11, hl9⟩ := bnd hl9; refine bK 5 [(1, (.ptr 0 0)), (3, (vi d36.1)), (6, (vi x38)), (38, (.imm (List.flatMap aj a0.Held) a0.Held.length)), (39, (vi (a0.Held.length : Int))), (40, (vi d36.2)), (62, (vb x41))] qS qS (by rfl) (fun V v => ?_) fun tz => ?_
          ·
           refine av ?_; rcases bE (!x39) with h11 | h11
           ·
            have hvh11 := cT hvh11 h11; (try simp only [go_sem, fx37_0, fx37_1, fx37_2, h11]); obtain rfl := aq hvh11; exact v _ ⟨rfl, rfl, rfl, rfl, rfl, rfl, rfl, (qB h11), trivial⟩
           ·
            have hvh11 := cF hvh11 h11; obtain ⟨x40, bx40, hvh11⟩ := bnd hvh11; (try simp only [go_sem, fx37_0, fx37_1, fx37_2, h11]); (refine aZ (jQ x37.At bx40) ?_; try dsimp only); (try refine av ?_); (try simp only [go_sem, fx37_0, fx37_1, fx37_2, h11]); obtain rfl := aq hvh11; exact v _ ⟨rfl, rfl, rfl, rfl, rfl, rfl, rfl, (qB h11), trivial⟩
          ·
           refine av ?_; refine bq 1 qS qS (by rfl) fun V v => ?_; refine av ?_; (try simp only [go_sem, fx37_0, fx37_1, fx37_2]); refine v _ ?_; clear v V; refine bK 4 [(1, (.ptr 0 0)), (6, (vi x38)), (38, (.imm (List.flatMap aj a0.Held) a0.Held.length)), (39, (vi (a0.Held.length : Int))), (40, (vi d36.2)), (67, (vb (x41 || (decide (x38 ≤ d36.1)))))] qS qS (by rfl) (fun V v => ?_) fun tz => ?_
           ·
            refine av ?_; rcases bE x41 with h12 | h12
            ·
             (try simp only [go_sem, fx37_0, fx37_1, fx37_2, h12]); exact v _ ⟨rfl, rfl, rfl, rfl, rfl, rfl, (qB h12), trivial⟩
            ·
             (try simp only [go_sem, fx37_0, fx37_1, fx37_2, h12]); exact v _ ⟨rfl, rfl, rfl, rfl, rfl, rfl, (qB h12), trivial⟩
           ·
            refine av ?_; refine bq 1 qS qS (by rfl) fun V v => ?_; refine av ?_; (try simp only [go_sem, fx37_0, fx37_1, fx37_2]); refine v _ ?_; clear v V; refine bK 5 [(1, (.ptr 0 0)), (6, (vi x38)), (38, (.imm (List.flatMap aj a0.Held) a0.Held.length)), (39, (vi (a0.Held.length : Int))), (40, (vi d36.2)), (73, (vb ((x41 || (decide (x38 ≤ d36.1))) || (decide (a0.Size ≤ x38)))))] qS qS (by rfl) (fun V v => ?_) fun tz => ?_
            ·
             refine av ?_; rcases bE (x41 || (decide (x38 ≤ d36.1))) with h13 | h13
             ·
              (try simp only [go_sem, fx37_0, fx37_1, fx37_2, h13]); exact v _ ⟨rfl, rfl, rfl, rfl, rfl, rfl, (qB h13), trivial⟩
             ·
              (try simp only [go_sem, fx37_0, fx37_1, fx37_2, h13]); exact v _ ⟨rfl, rfl, rfl, rfl, rfl, rfl, (qB h13), trivial⟩
            ·
             refine av ?_; (try simp only [go_sem, fx37_0, fx37_1, fx37_2]); refine u _ (mI a0 x38 d36 x41) (Wk.canonD [] [] [some 0] rfl trivial rfl (aw 0 bv rfl qM rfl (aN (by rfl) (tI (ay _)))) (tA 73 (tA 40 (tA 39 (tA 38 (tA 6 (tA 1 aO tp) tv) (tI (ay _))) tv) tv) tv)) ?_; clear u U; unfold mI; refine aT (b := ((x41 || (decide (x38 ≤ d36.1))) || (decide (a0.Size ≤ x38)))) rfl (fun h14 => ?_) (fun h14 => ?_)
             ·
              have hl9 := cT hl9 h14; refine ap ?_; refine ac [] fun tz U u => ?_; (try simp only [go_sem, fx37_0, fx37_1, fx37_2]); refine qU u ?_; clear u U; refine bH ?_; refine jk ?_; refine jS ?_; refine Bo ?_; refine jk ?_; refine jS ?_; obtain rfl := aq hl9; obtain rfl := Ex.k_ret h0; refine aL ?_; refine aC It (rfl) ?_; exact qF
             ·
              have hl9 := cF hl9 h14; refine aV ?_; refine bI [1,6,38,39,40] fun tz U u => ?_; (try simp only [go_sem, fx37_0, fx37_1, fx37_2]); refine u _ ?_; clear u U; refine iF ?_; refine et ?_; refine bI [1,3,38,39,40] fun tz U u => ?_; (try simp only [go_sem, fx37_0, fx37_1, fx37_2]); refine u _ ?_; clear u U; refine jw ?_; exact ⟨n8, (x38, IntKind.wrap .i64 (d36.2 + 1)), rfl, hl9, (Wk.canonD [] [] [some 0] rfl trivial rfl (aw 0 bv rfl qM rfl (aN (by rfl) (tI (ay _)))) (tA 40 (tA 39 (tA 38 (tA 3 (tA 1 aO tp) tv) (tI (ay _))) tv) tv))⟩
         ·
          have hl9 := cF hl9 h10; refine cL ?_; refine kW ?_; refine jX ?_; refine gc ?_; obtain rfl := aq hl9; exact ⟨_, rfl, (Wk.canonD [] [] [] rfl trivial rfl bv aO)⟩
       ·
        rintro d34 rfl; have h0 := Ex.k_go h0; clear hi7; unfold mR; refine ac [] fun tz U u => ?_; (try simp only [go_sem]); refine qU u ?_; clear u U; refine aS ?_; obtain rfl := aq h0; refine aL ?_; refine aC It (rfl) ?_; exact qF
def pu (a2 : Int) (a0 : Int) (a1 : Int) (x31 : Int) : AS :=
 { objs := (upd (upd (fun _ => .dead) 0 (.live (aF Reorder.z cM))) 1 (.live (aF { Reorder.z with Hold := a2, Seen := { aW.z with Start := a0 }, Size := a1, Start := a0 } cM))), next := 2, tmps := (upd (upd (upd (fun _ => .unk) 6 (.ptr 0 0)) 8 (.ptr 1 0)) 17 (vb (x31 != 0))) }

theorem xq (a0 : Int) (a1 : Int) (a2 : Int) {r : (Reorder × Int)} (h0 : lN a0 a1 a2 = some r) : SndP K 27 [(vi a0), (vi a1), (vi a2)] (.tup [(.agg (c7 r.1)), (vi r.2)]) := by
 refine SndP.of_walkW hC (aB.tup (ag (aB.agg (bF _)) (ag cv aG))) (ag cv (ag cv (ag cv aG))) (show K.P.funcs[27]? = some Try.f27 from Try.func27) rfl rfl (by decide +kernel) (qB2 rfl) ?_; unfold lN at h0; refine ac [0,1,2] fun tz U u => ?_; (try simp only [go_sem]); refine qU u ?_; clear u U; refine ac [0,1,2,6] fun tz U u => ?_; (try simp only [go_sem]); refine qU u ?_; clear u U; refine ap ?_; refine ac [6,8] fun tz U u => ?_; obtain ⟨x31, bx31, h0⟩ := bnd h0; (try simp only [go_sem]); (refine uK (by first | (simp only [go_sem, fz, lw, cond_true, cond_false] <;> rfl)) (fV { Reorder.z with Hold := a2, Seen := { aW.z with Start := a0 }, Size := a1, Start := a0 } bx31) ?_; try dsimp only); (try refine av ?_); (try simp only [go_sem]); refine u _ (pu a2 a0 a1 x31) (Wk.canonD [] [] [some 0, some 8] rfl trivial rfl (aw 1 (aw 0 bv rfl qM rfl (aN (by rfl) tv)) rfl qM rfl (aN (by rfl) tv)) (tA 17 (tA 8 (tA 6 aO tp) tp) tv)) ?_; clear u U; unfold pu; refine aT (b := (x31 != 0)) rfl (fun h1 => ?_) (fun h1 => ?_)
 ·
  have h0 := cT h0 h1; refine ap ?_; refine ac [6] fun tz U u => ?_; (try simp only [go_sem]); refine qU u ?_; clear u U; refine bH ?_; obtain rfl := aq h0; refine aL ?_; refine aC KN qR ?_; exact qF
 ·
  have h0 := cF h0 h1; refine aV ?_; refine ac [6,8] fun tz U u => ?_; (try simp only [go_sem]); refine qU u ?_; clear u U; refine aS ?_; obtain rfl := aq h0; refine aL ?_; refine aC KN qR ?_; exact qF
def iB (a0 : aa) (a1 : (List Bool)) (x16 : (Sender × Int)) : AS :=
 { objs := (upd (upd (upd (upd (upd (upd (upd (fun _ => .dead) 0 (.live (af a0 (.imm (List.flatMap ah a0.sides.Sender.Out) a0.sides.Sender.Out.length) (.imm (List.flatMap aj a0.sides.Reorder.Held) a0.sides.Reorder.Held.length) (.clo 17 [] [(.ptr 1 0)]) (.ref 2 0 a0.out.Delivered.length 1) (.ref 3 0 a0.out.Acked.length 1) (.ref 4 0 a0.out.Dropped.length 1)))) 1 (.live [(.imm (List.map vb a1) a1.length)])) 2 (.live (List.map vi a0.out.Delivered))) 3 (.live (List.map vi a0.out.Acked))) 4 (.live (List.map vi a0.out.Dropped))) 5 (.live (ar a0.plan))) 6 (.live (aA x16.1 (.imm (List.flatMap ah x16.1.Out) x16.1.Out.length)))), next := 7, tmps := (upd (upd (upd (upd (fun _ => .unk) 0 (.ptr 0 0)) 2 (.ptr 5 0)) 3 (.ptr 6 0)) 4 (vi x16.2)) }

def io (x17 : aa) (a0 : aa) (a1 : (List Bool)) (x18 : (b8 × Sender × Int)) : AS :=
 { objs := (upd (upd (upd (upd (upd (upd (upd (upd (fun _ => .dead) 0 (.live (af x17 (.imm (List.flatMap ah x17.sides.Sender.Out) x17.sides.Sender.Out.length) (.imm (List.flatMap aj x17.sides.Reorder.Held) x17.sides.Reorder.Held.length) (.clo 17 [] [(.ptr 1 0)]) (.ref 2 0 a0.out.Delivered.length 1) (.ref 3 0 a0.out.Acked.length 1) (.ref 4 0 a0.out.Dropped.length 1)))) 1 (.live [(.imm (List.map vb a1) a1.length)])) 2 (.live (List.map vi a0.out.Delivered))) 3 (.live (List.map vi a0.out.Acked))) 4 (.live (List.map vi a0.out.Dropped))) 5 (.live (ar a0.plan))) 6 (.live (aA x18.2.1 (.imm (List.flatMap ah x18.2.1.Out) x18.2.1.Out.length)))) 7 (.live (bC x18.1))), next := 8, tmps := (upd (upd (upd (upd (upd (fun _ => .unk) 0 (.ptr 0 0)) 2 (.ptr 5 0)) 3 (.ptr 6 0)) 4 (vi x18.2.2)) 5 (.ptr 7 0)) }

def iw (x21 : aa) (a0 : aa) (a1 : (List Bool)) : AS :=
 { objs := (upd (upd (upd (upd (upd (upd (fun _ => .dead) 0 (.live (af x21 (.imm (List.flatMap ah x21.sides.Sender.Out) x21.sides.Sender.Out.length) (.imm (List.flatMap aj x21.sides.Reorder.Held) x21.sides.Reorder.Held.length) (.clo 17 [] [(.ptr 1 0)]) (.ref 2 0 a0.out.Delivered.length 1) (.ref 3 0 a0.out.Acked.length 1) (.ref 4 0 a0.out.Dropped.length 1)))) 1 (.live [(.imm (List.map vb a1) a1.length)])) 2 (.live (List.map vi a0.out.Delivered))) 3 (.live (List.map vi a0.out.Acked))) 4 (.live (List.map vi a0.out.Dropped))) 5 (.live (ar a0.plan))), next := 6, tmps := (upd (upd (fun _ => .unk) 0 (.ptr 0 0)) 2 (.ptr 5 0)) }

theorem mg (a0 : aa) (a1 : (List Bool)) {r : aa} (h0 : d4 a0 a1 = some r) : cQ K 18 5 (fun q => [(.ptr (q 0) 0)]) [(fun q => (af a0 (.imm (List.flatMap ah a0.sides.Sender.Out) a0.sides.Sender.Out.length) (.imm (List.flatMap aj a0.sides.Reorder.Held) a0.sides.Reorder.Held.length) (.clo 17 [] [(.ptr (q 1) 0)]) (.ref (q 2) 0 a0.out.Delivered.length 1) (.ref (q 3) 0 a0.out.Acked.length 1) (.ref (q 4) 0 a0.out.Dropped.length 1))), (fun q => [(.imm (List.map vb a1) a1.length)]), (fun q => (List.map vi a0.out.Delivered)), (fun q => (List.map vi a0.out.Acked)), (fun q => (List.map vi a0.out.Dropped))] (fun q => (.tup [])) [(some (fun q => (af r (.imm (List.flatMap ah r.sides.Sender.Out) r.sides.Sender.Out.length) (.imm (List.flatMap aj r.sides.Reorder.Held) r.sides.Reorder.Held.length) (.clo 17 [] [(.ptr (q 1) 0)]) (.ref (q 2) 0 a0.out.Delivered.length 1) (.ref (q 3) 0 a0.out.Acked.length 1) (.ref (q 4) 0 a0.out.Dropped.length 1)))), (some (fun q => [(.imm (List.map vb a1) a1.length)])), (some (fun q => (List.map vi a0.out.Delivered))), (some (fun q => (List.map vi a0.out.Acked))), (some (fun q => (List.map vi a0.out.Dropped)))] := by
 refine cQ.of_walkW hC (RenML.cons (aK.ptr 0 0) RenML.nil) (aQ (bm _ (rI (ai _)) (rI (ay _)) (aK.clo RenML.nil (RenML.cons (aK.ptr 1 0) RenML.nil)) (aK.ref 2 0 _ _) (aK.ref 3 0 _ _) (aK.ref 4 0 _ _)) (aQ (RenML.cons (rI (aU _)) RenML.nil) (aQ (RenML.const (ae _)) (aQ (RenML.const (ae _)) (aQ (RenML.const (ae _)) dZ))))) (aJ (bm _ (rI (ai _)) (rI (ay _)) (aK.clo RenML.nil (RenML.cons (aK.ptr 1 0) RenML.nil)) (aK.ref 2 0 _ _) (aK.ref 3 0 _ _) (aK.ref 4 0 _ _)) (aJ (RenML.cons (rI (aU _)) RenML.nil) (aJ (RenML.const (ae _)) (aJ (RenML.const (ae _)) (aJ (RenML.const (ae _)) dg))))) (aK.tup RenML.nil) rfl (qB2 rfl) (show K.P.funcs[18]? = some Try.f18 from Try.func18) rfl rfl (by decide +kernel) (qB2 rfl) ?_; unfold d4 at h0; refine ac [0] fun tz U u => ?_; (try simp only [go_sem]); refine qU u ?_; clear u U; refine ac [0,2] fun tz U u => ?_; obtain ⟨x16, bx16, h0⟩ := bnd h0; (try simp only [go_sem]); (refine aZ (y8 0 a0.plan.Start a0.plan.Limit a0.plan.Life bx16) ?_; try dsimp only); (try refine av ?_); (try simp only [go_sem]); refine u _ (iB a0 a1 x16) (by refine Wk.canonD [] [] [some 0, some 1, some 2, some 3, some 4, some 9, some 21] rfl trivial rfl (aw 6 (aw 5 (aw 4 (aw 3 (aw 2 (aw 1 (aw 0 bv rfl qM rfl (au (by rfl) (tI (ai _)) (tI (ay _)) (Tm.clo tn (tc tp tn)) tr tr tr)) rfl qM rfl (tc (tI (aU _)) tn)) rfl qM rfl (TmL.of_eq qL (ae _))) rfl qM rfl (TmL.of_eq qL (ae _))) rfl qM rfl (TmL.of_eq qL (ae _))) rfl qM rfl (TmL.clean (b9 _))) rfl qM rfl (ak (by rfl) (tI (ai _)))) (tA 4 (tA 3 (tA 2 (tA 0 aO tp) tp) tp) tv); all_goals exact qN) ?_; clear u U; unfold iB; refine ac [0,2,3,4] fun tz U u => ?_; obtain ⟨x17, bx17, h0⟩ := bnd h0; (try simp only [go_sem]); (refine bQ [0, 1, 2, 3, 4] (bo x16.2 a0 a1 bx17) (by decide) (by decide) ⟨qG, qG, qG, qG, qG, trivial⟩ qG ?_; try dsimp only); (try refine av ?_); (try simp only [go_sem, lc, ln]); refine qU u ?_; clear u U; refine ac [0,2,3] fun tz U u => ?_; obtain ⟨x18, bx18, h0⟩ := bnd h0; (try simp only [go_sem]); (refine aZ (yO x16.1 a0.plan.Size bx18) ?_; try dsimp only); (try refine av ?_); (try simp only [go_sem]); refine u _ (io x17 a0 a1 x18) (by refine Wk.canonD [] [] [some 0, some 1, some 2, some 3, some 4, some 5, some 6, some 18] rfl trivial rfl (aw 7 (aw 6 (aw 5 (aw 4 (aw 3 (aw 2 (aw 1 (aw 0 bv rfl qM rfl (au (by rfl) (tI (ai _)) (tI (ay _)) (Tm.clo tn (tc tp tn)) tr tr tr)) rfl qM rfl (tc (tI (aU _)) tn)) rfl qM rfl (TmL.of_eq qL (ae _))) rfl qM rfl (TmL.of_eq qL (ae _))) rfl qM rfl (TmL.of_eq qL (ae _))) rfl qM rfl (TmL.clean (b9 _))) rfl qM rfl (ak (by rfl) (tI (ai _)))) rfl qM rfl (TmL.clean (dc _))) (tA 5 (tA 4 (tA 3 (tA 2 (tA 0 aO tp) tp) tp) tv) tp); all_goals exact qN) ?_; clear u U
 unfold io; refine ac [0,2,3,4,5] fun tz U u => ?_; obtain ⟨x19, bx19, h0⟩ := bnd h0; (try simp only [go_sem]); (refine bQ [0, 1, 2, 3, 4] (bo x18.2.2 { x17 with out.Acked := a0.out.Acked, out.Delivered := a0.out.Delivered, out.Dropped := a0.out.Dropped } a1 bx19) (by decide) (by decide) ⟨qG, qG, qG, qG, qG, trivial⟩ qG ?_; try dsimp only); (try refine av ?_); (try simp only [go_sem, lc, ln]); refine qU u ?_; clear u U; refine ac [0,2,3,5] fun tz U u => ?_; obtain ⟨x20, bx20, h0⟩ := bnd h0; (try simp only [go_sem]); (refine aZ (ur x18.2.1 { bx.z with Size := a0.plan.Size, Token := x18.1.Token } bx20) ?_; try dsimp only); (try refine av ?_); (try simp only [go_sem]); refine qU u ?_; clear u U; refine ac [0,2,4] fun tz U u => ?_; obtain ⟨x21, bx21, h0⟩ := bnd h0; (try simp only [go_sem]); (refine bQ [0, 1, 2, 3, 4] (bo x20.2 { x19 with out.Acked := a0.out.Acked, out.Delivered := a0.out.Delivered, out.Dropped := a0.out.Dropped, sides.Sender := x20.1 } a1 bx21) (by decide) (by decide) ⟨qG, qG, qG, qG, qG, trivial⟩ qG ?_; try dsimp only); (try refine av ?_); (try simp only [go_sem, lc, ln]); refine u _ (iw x21 a0 a1) (by refine Wk.canonD [] [] [some 0, some 1, some 2, some 3, some 4, some 5] rfl trivial rfl (aw 5 (aw 4 (aw 3 (aw 2 (aw 1 (aw 0 bv rfl qM rfl (au (by rfl) (tI (ai _)) (tI (ay _)) (Tm.clo tn (tc tp tn)) tr tr tr)) rfl qM rfl (tc (tI (aU _)) tn)) rfl qM rfl (TmL.of_eq qL (ae _))) rfl qM rfl (TmL.of_eq qL (ae _))) rfl qM rfl (TmL.of_eq qL (ae _))) rfl qM rfl (TmL.clean (b9 _))) (tA 2 (tA 0 aO tp) tp); all_goals exact qN) ?_; clear u U; unfold iw; refine ac [0,2] fun tz U u => ?_; obtain ⟨x22, bx22, h0⟩ := bnd h0; (try simp only [go_sem]); (refine aZ (xq a0.plan.Start a0.plan.Size a0.plan.Hold bx22) ?_; try dsimp only); (try refine av ?_); (try simp only [go_sem]); refine qU u ?_; clear u U; refine bI [0,4] fun tz U u => ?_; obtain ⟨x23, bx23, h0⟩ := bnd h0; (try simp only [go_sem]); (refine bQ [0, 1, 2, 3, 4] (bo x22.2 { x21 with out.Acked := a0.out.Acked, out.Delivered := a0.out.Delivered, out.Dropped := a0.out.Dropped, sides.Reorder := x22.1 } a1 bx23) (by decide) (by decide) ⟨qG, qG, qG, qG, qG, trivial⟩ qG ?_; try dsimp only); (try refine av ?_); (try simp only [go_sem, lc, ln]); refine u _ ?_; clear u U; obtain rfl := aq h0; refine aL ?_; refine ep Mn (rfl) ?_; refine dn.mk [] [some 0, some 1, some 2, some 3, some 4] rfl (aX qM rfl (au (by rfl) (tI (ai _)) (tI (ay _)) (Tm.clo tn (tc tp tn)) tr tr tr) (aX qM rfl (tc (tI (aU _)) tn) (aX qM rfl (TmL.of_eq qL (ae _)) (aX qM rfl (TmL.of_eq qL (ae _)) (aX qM rfl (TmL.of_eq qL (ae _)) er))))) (Tm.tup tn)
 all_goals exact qN
def nJ (a0 : Sender) (d27 : (List Int)) : AS :=
 { objs := (upd (upd (upd (fun _ => .dead) 0 (.live (aA a0 (.imm (List.flatMap ah a0.Out) a0.Out.length)))) 1 (.live (List.map vi d27))) 2 (.live (aA Sender.z cM))), next := 3, tmps := (upd (upd (upd (fun _ => .unk) 1 (.ptr 0 0)) 2 (.ref 1 0 d27.length 1)) 3 (.ptr 2 0)) }

def nG (a0 : Sender) (d28 : (List Int × Int)) : AS :=
 { objs := (upd (upd (upd (fun _ => .dead) 0 (.live (aA a0 (.imm (List.flatMap ah a0.Out) a0.Out.length)))) 1 (.live (List.map vi d28.1))) 2 (.live (aA Sender.z cM))), next := 3, tmps := (upd (upd (upd (upd (upd (upd (fun _ => .unk) 1 (.ptr 0 0)) 2 (.ref 1 0 d28.1.length 1)) 3 (.ptr 2 0)) 15 (.imm (List.flatMap ah a0.Out) a0.Out.length)) 16 (vi (a0.Out.length : Int))) 17 (vi d28.2)) }

theorem vL (a0 : Sender) {r : ((List Int) × Sender × Int)} (h0 : fR a0 = some r) : gv K 28 [(.agg (bA a0))] (fun q => (.tup [(.ref (q 0) 0 r.1.length 1), (.agg (bA r.2.1)), (vi r.2.2)])) [(List.map vi r.1)] := by
 refine gv.of_walkW hC (show K.P.funcs[28]? = some Try.f28 from Try.func28) rfl rfl (by decide +kernel) (qB2 rfl) ?_; unfold fR at h0; refine ac [0] fun tz U u => ?_; (try simp only [go_sem]); refine qU u ?_; clear u U; refine ap ?_; refine ac [1,2,3] fun tz U u => ?_; obtain ⟨x26, bx26, h0⟩ := bnd h0; (try simp only [go_sem]); (refine aZ (fx a0 bx26) ?_; try dsimp only); (try refine av ?_); (try simp only [go_sem]); refine qU u ?_; clear u U; refine ap ?_; refine ac [1,2,3,5] fun tz U u => ?_; (try simp only [go_sem]); refine qU u ?_; clear u U; refine aT (b := (x26 != 0)) rfl (fun h1 => ?_) (fun h1 => ?_)
 ·
  have h0 := cT h0 h1; refine ap ?_; refine ac [3,5] fun tz U u => ?_; (try simp only [go_sem]); refine qU u ?_; clear u U; refine bH ?_; obtain rfl := aq h0; refine aL ?_; refine aC Kr qR ?_; refine Res.mk [] [none] rfl (c5 cZ) (Tm.tup (tc tT (tc (Tm.agg (ak (by rfl) (Tm.nil))) (tc tv tn))))
 ·
  have h0 := cF h0 h1; refine aV ?_; refine ap ?_; refine ac [1,2,3] fun tz U u => ?_; (try simp only [go_sem]); refine qU u ?_; clear u U; obtain ⟨d27, hi2, h0⟩ := bnd h0; refine dk (fun z => d27 = z) (fun d27 : (List Int) => nJ a0 d27) ?_ ?_
  ·
   refine bB ?_; refine cO (fun n (d28 : (List Int × Int)) => dR a0 n d28 = some d27) (fun d28 : (List Int × Int) => nG a0 d28) big ([], 0) (Wk.canonD [] [] [some 0, none, some 2] rfl trivial rfl (aw 2 (vH 1 (aw 0 bv rfl qM rfl (ak (by rfl) (tI (ai _)))) rfl) rfl qM rfl (ak (by rfl) tv)) (tA 17 (tA 16 (tA 15 (tA 3 (tA 2 (tA 1 aO tp) tT) tp) (tI (ai _))) tv) tv)) hi2 ?_; clear hi2; rintro n d28 hl4; rcases n with _ | n3
   ·
    (rw [dR] at hl4; cases hl4)
   ·
    rw [dR] at hl4; unfold nG; refine ac [1,2,3,15,16,17] fun tz U u => ?_; (try simp only [go_sem]); refine qU u ?_; clear u U; refine aT (b := (decide (d28.2 < (a0.Out.length : Int)))) rfl (fun h5 => ?_) (fun h5 => ?_)
    ·
     have hl4 := cT hl4 h5; refine aV ?_; refine cC ?_; refine ac [1,2,3,15,16,17] fun tz U u => ?_; obtain ⟨x29, bx29, hl4⟩ := bnd hl4; obtain ⟨fx29_0, fx29_1, fx29_2, fx29_3⟩ := cz bx29; (try simp only [go_sem, fx29_0, fx29_1, fx29_2]); refine qU u ?_; clear u U; refine bI [1,2,3,7,15,16,17] fun tz U u => ?_; obtain ⟨x30, bx30, hl4⟩ := bnd hl4; have bx30 := bW bx30; simp only [Bool.and_eq_true, decide_eq_true_eq] at bx30; have gx30_0 := bx30; (try simp only [go_sem, fx29_0, fx29_1, fx29_2, gx30_0]); refine u _ ?_; clear u U; refine iF ?_; refine et ?_; refine bI [1,2,3,15,16,17] fun tz U u => ?_; (try simp only [go_sem, fx29_0, fx29_1, fx29_2]); refine u _ ?_; clear u U; refine jw ?_; exact ⟨n3, ((d28.1 ++ [x29.Frame.Head.Seq]), IntKind.wrap .i64 (d28.2 + 1)), rfl, hl4, (by refine Wk.canonD [] [] [some 0, some 14, some 2] rfl trivial rfl (aw 2 (aw 1 (aw 0 bv rfl qM rfl (ak (by rfl) (tI (ai _)))) rfl qM rfl (TmL.of_eq qL (ae _))) rfl qM rfl (ak (by rfl) tv)) (tA 17 (tA 16 (tA 15 (tA 3 (tA 2 (tA 1 aO tp) tr) tp) (tI (ai _))) tv) tv); all_goals exact qN)⟩
    ·
     have hl4 := cF hl4 h5; refine cL ?_; refine kW ?_; refine jX ?_; refine gc ?_; obtain rfl := aq hl4; exact ⟨_, rfl, (by refine Wk.canonD [] [] [some 0, some 1, some 2] rfl trivial rfl (aw 2 (aw 1 (aw 0 bv rfl qM rfl (ak (by rfl) (tI (ai _)))) rfl qM rfl (TmL.of_eq qL (ae _))) rfl qM rfl (ak (by rfl) tv)) (tA 3 (tA 2 (tA 1 aO tp) tr) tp); all_goals exact qN)⟩
  ·
   rintro _ rfl; clear hi2; unfold nJ; refine ac [1,2,3] fun tz U u => ?_; (try simp only [go_sem]); refine qU u ?_; clear u U; refine ef [1,2,3] (fun _ => rfl) fun tz => ?_; refine cx fun U u all hall => ?_; refine cA ?_; (try simp only [List.toList_toArray, List.map_cons, List.map_nil, List.size_toArray, List.length_cons, List.length_nil, Nat.zero_add]); (try simp only [Nat.reduceAdd]); (iterate 3 ((try simp only [go_sem, -Nat.reduceAdd]); try simp only [Nat.reduceAdd])); refine And.intro ?_ (u _ _ (Wk.refl _ _ _) ?_)
   ·
    subst hall; clear u U; exact qP
   ·
    clear u U hall all; refine aS ?_; obtain rfl := aq h0; refine aL ?_; refine aC Kr qR ?_; refine Res.mk [] [some 1] rfl (fB qM rfl (TmL.of_eq qL (ae _)) cZ) (Tm.tup (tc tr (tc (Tm.agg (ak (by rfl) (Tm.nil))) (tc tv tn)))); (all_goals exact qN)


theorem vM (a0 : Sender) {r : ((List Int) × Sender × Int)} (h0 : fR a0 = some r) : SndP K 28 [(.agg (bA a0))] (.tup [(l3 r.1), (.agg (bA r.2.1)), (vi r.2.2)]) :=
 lK.pure (rM (vL a0 h0) (aK.tup (RenML.cons (aK.ref 0 0 _ _) (RenML.cons (aK.const (aB.agg (aY _))) (RenML.cons rv RenML.nil)))) (bw (ae _) cK) (ag (aB.agg (aY _)) aG)) (aB.tup (ag (dA _) (ag (aB.agg (aY _)) (ag cv aG)))) (ag (aB.agg (aY _)) aG) qV
def gH (d33 : (List Int)) : AS :=
 { objs := (upd (fun _ => .dead) 0 (.live (List.map vi d33))), next := 1, tmps := (upd (fun _ => .unk) 4 (.ref 0 0 d33.length 1)) }

def gG (a0 : aa) (a1 : (List Bool)) (a2 : (List Int)) (d34 : (List Int × Int)) : AS :=
 { objs := (upd (fun _ => .dead) 0 (.live (List.map vi d34.1))), next := 1, tmps := (upd (upd (upd (upd (upd (fun _ => .unk) 0 (.iptr (af a0 (.imm (List.flatMap ah a0.sides.Sender.Out) a0.sides.Sender.Out.length) (.imm (List.flatMap aj a0.sides.Reorder.Held) a0.sides.Reorder.Held.length) (.clo 17 [] [(.iptr [(.imm (List.map vb a1) a1.length)] 0)]) (.imm (List.map vi a0.out.Delivered) a0.out.Delivered.length) (.imm (List.map vi a0.out.Acked) a0.out.Acked.length) (.imm (List.map vi a0.out.Dropped) a0.out.Dropped.length)) 0)) 4 (.ref 0 0 d34.1.length 1)) 7 (.imm (List.map vi a2) a2.length)) 8 (vi (a2.length : Int))) 9 (vi d34.2)) }

theorem lH (a0 : aa) (a1 : (List Bool)) (a2 : (List Int)) {r : (List Int)} (h0 : cr a0 a1 a2 = some r) : gv K 29 [(.iptr (af a0 (.imm (List.flatMap ah a0.sides.Sender.Out) a0.sides.Sender.Out.length) (.imm (List.flatMap aj a0.sides.Reorder.Held) a0.sides.Reorder.Held.length) (.clo 17 [] [(.iptr [(.imm (List.map vb a1) a1.length)] 0)]) (.imm (List.map vi a0.out.Delivered) a0.out.Delivered.length) (.imm (List.map vi a0.out.Acked) a0.out.Acked.length) (.imm (List.map vi a0.out.Dropped) a0.out.Dropped.length)) 0), (l3 a2)] (fun q => (.ref (q 0) 0 r.length 1)) [(List.map vi r)] := by
 refine gv.of_walkW hC (show K.P.funcs[29]? = some Try.f29 from Try.func29) rfl rfl (by decide +kernel) (qB2 rfl) ?_; unfold cr at h0; refine ac [0,1] fun tz U u => ?_; (try simp only [go_sem]); refine qU u ?_; clear u U; refine ap ?_; refine ac [0,1,4] fun tz U u => ?_; (try simp only [go_sem]); refine qU u ?_; clear u U; obtain ⟨d33, hi1, h0⟩ := bnd h0; refine dk (fun z => d33 = z) (fun d33 : (List Int) => gH d33) ?_ ?_
 ·
  refine bB ?_; refine cO (fun n (d34 : (List Int × Int)) => bX a2 a0 n d34 = some d33) (fun d34 : (List Int × Int) => gG a0 a1 a2 d34) big ([], 0) (Wk.canonD [] [] [none] rfl trivial rfl (vH 0 bv rfl) (tA 9 (tA 8 (tA 7 (tA 4 (tA 0 aO (Tm.clean (aB.iptr (fG _ _ _ _ _ _ _ (aB.imm (ai _)) (aB.imm (ay _)) (aB.clo aG (ag (aB.iptr (ag (aB.imm (aU _)) aG)) aG)) (aB.imm (ae _)) (aB.imm (ae _)) (aB.imm (ae _)))))) tT) (tI (ae _))) tv) tv)) hi1 ?_; clear hi1; rintro n d34 hl3; rcases n with _ | n2
  ·
   (rw [bX] at hl3; cases hl3)
  ·
   rw [bX] at hl3; unfold gG; refine ac [0,4,7,8,9] fun tz U u => ?_; (try simp only [go_sem]); refine qU u ?_; clear u U; refine aT (b := (decide (d34.2 < (a2.length : Int)))) rfl (fun h4 => ?_) (fun h4 => ?_)
   ·
    have hl3 := cT hl3 h4; refine aV ?_; refine cC ?_; refine ac [0,4,7,8,9] fun tz U u => ?_; obtain ⟨x35, bx35, hl3⟩ := bnd hl3; obtain ⟨fx35_0, fx35_1, fx35_2, fx35_3⟩ := cz bx35; (try simp only [go_sem, fx35_0, fx35_1, fx35_2]); refine qU u ?_; clear u U; refine bI [0,4,6,7,8,9] fun tz U u => ?_; obtain ⟨x36, bx36, hl3⟩ := bnd hl3; (try simp only [go_sem, fx35_0, fx35_1, fx35_2]); (refine aZ (cN a0.plan.Start x35 bx36) ?_; try dsimp only); (try refine av ?_); obtain ⟨x37, bx37, hl3⟩ := bnd hl3; have bx37 := bW bx37; simp only [Bool.and_eq_true, decide_eq_true_eq] at bx37; have gx37_0 := bx37; (try simp only [go_sem, fx35_0, fx35_1, fx35_2, gx37_0]); refine u _ ?_; clear u U; refine iF ?_; refine et ?_; refine bI [0,4,7,8,9] fun tz U u => ?_; (try simp only [go_sem, fx35_0, fx35_1, fx35_2]); refine u _ ?_; clear u U; refine jw ?_; exact ⟨n2, ((d34.1 ++ [x36]), IntKind.wrap .i64 (d34.2 + 1)), rfl, hl3, (by refine Wk.canonD [] [] [some 14] rfl trivial rfl (aw 0 bv rfl qM rfl (TmL.of_eq qL (ae _))) (tA 9 (tA 8 (tA 7 (tA 4 (tA 0 aO (Tm.clean (aB.iptr (fG _ _ _ _ _ _ _ (aB.imm (ai _)) (aB.imm (ay _)) (aB.clo aG (ag (aB.iptr (ag (aB.imm (aU _)) aG)) aG)) (aB.imm (ae _)) (aB.imm (ae _)) (aB.imm (ae _)))))) tr) (tI (ae _))) tv) tv); all_goals exact qN)⟩
   ·
    have hl3 := cF hl3 h4; refine cL ?_; refine kW ?_; refine jX ?_; refine gc ?_; obtain rfl := aq hl3; exact ⟨_, rfl, (by refine Wk.canonD [] [] [some 0] rfl trivial rfl (aw 0 bv rfl qM rfl (TmL.of_eq qL (ae _))) (tA 4 aO tr); all_goals exact qN)⟩
 ·
  rintro _ rfl; clear hi1; unfold gH; refine ac [4] fun tz U u => ?_; (try simp only [go_sem]); refine qU u ?_; clear u U; refine aS ?_; obtain rfl := aq h0; refine aL ?_; refine aC MJ (rfl) ?_; refine Res.mk [] [some 0] rfl (fB qM rfl (TmL.of_eq qL (ae _)) cZ) tr; (all_goals exact qN)


theorem eZ (a0 : aa) (a1 : (List Bool)) (a2 : (List Int)) {r : (List Int)} (h0 : cr a0 a1 a2 = some r) (fr : Nat) (hs : HS) : kl K 29 [(.iptr (af a0 (.imm (List.flatMap ah a0.sides.Sender.Out) a0.sides.Sender.Out.length) (.imm (List.flatMap aj a0.sides.Reorder.Held) a0.sides.Reorder.Held.length) (.clo 17 [] [(.iptr [(.imm (List.map vb a1) a1.length)] 0)]) (.imm (List.map vi a0.out.Delivered) a0.out.Delivered.length) (.imm (List.map vi a0.out.Acked) a0.out.Acked.length) (.imm (List.map vi a0.out.Dropped) a0.out.Dropped.length)) 0), (l3 a2)] hs fr ⟨(fun q : Nat → Nat => (.ref (q 0) 0 r.length 1)) fun _ => fr, .new (List.map vi r)⟩ :=
 kl.of_res (aK.ref 0 0 _ _) (ae _) (ag (aB.iptr (fG _ _ _ _ _ _ _ (nN _) (ge _) (aB.clo aG (ag (aB.iptr (ag (nu _) aG)) aG)) (dA _) (dA _) (dA _))) (ag (dA _) aG)) (fun a b h => by simp only [h]) (lH a0 a1 a2 h0) hs fr
def nz (d45 : (List az)) : AS :=
 { objs := (upd (fun _ => .dead) 0 (.live (List.flatMap aj d45))), next := 1, tmps := (upd (fun _ => .unk) 2 (.ref 0 0 d45.length 42)) }

def nO (a0 : (List az)) (d46 : (List az × Int)) : AS :=
 { objs := (upd (fun _ => .dead) 0 (.live (List.flatMap aj d46.1))), next := 1, tmps := (upd (upd (upd (upd (fun _ => .unk) 2 (.ref 0 0 d46.1.length 42)) 5 (.imm (List.flatMap aj a0) a0.length)) 6 (vi (a0.length : Int))) 7 (vi d46.2)) }

theorem oT (a0 : (List az)) {r : (List az)} (h0 : eN a0 = some r) : gv K 56 [(eT a0)] (fun q => (.ref (q 0) 0 r.length 42)) [(List.flatMap aj r)] := by
 refine gv.of_walkW hC (show K.P.funcs[56]? = some Try.f56 from Try.func56) rfl rfl (by decide +kernel) (qB2 rfl) ?_; unfold eN at h0; refine ac [0] fun tz U u => ?_; (try simp only [go_sem]); refine qU u ?_; clear u U; refine ap ?_; refine ac [0,2] fun tz U u => ?_; (try simp only [go_sem]); refine qU u ?_; clear u U; obtain ⟨d45, hi1, h0⟩ := bnd h0; refine dk (fun z => d45 = z) (fun d45 : (List az) => nz d45) ?_ ?_
 ·
  refine bB ?_; refine cO (fun n (d46 : (List az × Int)) => dU a0 n d46 = some d45) (fun d46 : (List az × Int) => nO a0 d46) big ([], 0) (Wk.canonD [] [] [none] rfl trivial rfl (vH 0 bv rfl) (tA 7 (tA 6 (tA 5 (tA 2 aO tT) (tI (ay _))) tv) tv)) hi1 ?_; clear hi1; rintro n d46 hl3; rcases n with _ | n2
  ·
   (rw [dU] at hl3; cases hl3)
  ·
   rw [dU] at hl3; unfold nO; refine ac [2,5,6,7] fun tz U u => ?_; (try simp only [go_sem]); refine qU u ?_; clear u U; refine aT (b := (decide (d46.2 < (a0.length : Int)))) rfl (fun h4 => ?_) (fun h4 => ?_)
   ·
    have hl3 := cT hl3 h4; refine aV ?_; refine cC ?_; refine ac [2,5,6,7] fun tz U u => ?_; obtain ⟨x47, bx47, hl3⟩ := bnd hl3; obtain ⟨fx47_0, fx47_1, fx47_2, fx47_3⟩ := cz bx47; (try simp only [go_sem, fx47_0, fx47_1, fx47_2]); refine qU u ?_; clear u U; refine kQ [2,4,5,6,7] (fun _ => rfl) fun tz => ?_; refine iS fun U u all hall => ?_; refine cA ?_; (try simp only [List.toList_toArray, List.map_cons, List.map_nil, List.size_toArray, List.length_cons, List.length_nil, Nat.zero_add]); (try simp only [Nat.reduceAdd]); obtain ⟨x48, bx48, hl3⟩ := bnd hl3; (iterate 3 ((try simp only [go_sem, -Nat.reduceAdd, fx47_0, fx47_1, fx47_2]); try simp only [Nat.reduceAdd])); (refine fk (gn x47.Frame bx48) ?_; try dsimp only); (try refine cA ?_); obtain ⟨x49, bx49, hl3⟩ := bnd hl3; have bx49 := bW bx49; simp only [Bool.and_eq_true, decide_eq_true_eq] at bx49; have gx49_0 := bx49; (iterate 3 ((try simp only [go_sem, -Nat.reduceAdd, fx47_0, fx47_1, fx47_2, gx49_0]); try simp only [Nat.reduceAdd])); refine And.intro ?_ (u _ ?_)
    ·
     subst hall; clear u U; exact qP
    ·
     clear u U hall all; refine iF ?_; refine et ?_; refine bI [2,5,6,7] fun tz U u => ?_; (try simp only [go_sem, fx47_0, fx47_1, fx47_2]); refine u _ ?_; clear u U; refine jw ?_; exact ⟨n2, ((d46.1 ++ [{ az.z with At := x47.At, Frame := x48 }]), IntKind.wrap .i64 (d46.2 + 1)), rfl, hl3, (by refine Wk.canonD [] [] [some 14] rfl trivial rfl (aw 0 bv rfl qM rfl (TmL.of_eq qL (ay _))) (tA 7 (tA 6 (tA 5 (tA 2 aO tr) (tI (ay _))) tv) tv); all_goals exact qN)⟩
   ·
    have hl3 := cF hl3 h4; refine cL ?_; refine kW ?_; refine jX ?_; refine gc ?_; obtain rfl := aq hl3; exact ⟨_, rfl, (by refine Wk.canonD [] [] [some 0] rfl trivial rfl (aw 0 bv rfl qM rfl (TmL.of_eq qL (ay _))) (tA 2 aO tr); all_goals exact qN)⟩
 ·
  rintro _ rfl; clear hi1; unfold nz; refine ac [2] fun tz U u => ?_; (try simp only [go_sem]); refine qU u ?_; clear u U; refine aS ?_; obtain rfl := aq h0; refine aL ?_; refine aC LP (rfl) ?_; refine Res.mk [] [some 0] rfl (fB qM rfl (TmL.of_eq qL (ay _)) cZ) tr; (all_goals exact qN)

theorem pI (a0 : (List az)) {r : (List az)} (h0 : eN a0 = some r) : lK K 56 [(eT a0)] (fun q => (.ref (q 0) 0 r.length 42)) [(List.flatMap aj r)] :=
 fun hs => Snd.of_newM (aK.ref 0 0 _ _) (bw (ay _) cK) (ag (ge _) aG) (oT a0 h0) hs

theorem u9 (a0 : (List az)) {r : (List az)} (h0 : eN a0 = some r) (fr : Nat) (hs : HS) : kl K 56 [(eT a0)] hs fr ⟨(fun q : Nat → Nat => (.ref (q 0) 0 r.length 42)) fun _ => fr, .new (List.flatMap aj r)⟩ :=
 kl.of_res (aK.ref 0 0 _ _) (ay _) (ag (ge _) aG) (fun a b h => by simp only [h]) (oT a0 h0) hs fr
theorem lS (a0 : az) (a1 : Int) (a2 : Reorder) {r : Int} (h0 : fb a0 a1 a2 = some r) : SndP K 75 [(.agg (aj a0)), (vi a1), (.iptr (c7 a2) 0)] (vi r) := by
 refine SndP.of_walkW hC cv (ag (aB.agg (ku _)) (ag cv (ag (aB.iptr (bF _)) aG))) (show K.P.funcs[75]? = some Try.f75 from Try.func75) rfl rfl (by decide +kernel) (qB2 rfl) ?_; unfold fb at h0; refine ac [0,1,2] fun tz U u => ?_; (try simp only [go_sem]); refine qU u ?_; clear u U; refine ac [1,2,3] fun tz U u => ?_; obtain ⟨x55, bx55, h0⟩ := bnd h0; (try simp only [go_sem]); (refine aZ (cN a2.Start a0.Frame.Head.Seq bx55) ?_; try dsimp only); (try refine av ?_); (try simp only [go_sem]); refine qU u ?_; clear u U; refine aS ?_; obtain rfl := aq h0; refine aL ?_; refine aC MP (rfl) ?_; exact qF
def cV (a0 : (List az)) (a1 : Int) (a2 : Reorder) (d53 : Int) : AS :=
 { objs := (fun _ => .dead), next := 0, tmps := (upd (upd (upd (upd (upd (fun _ => .unk) 0 (.imm (List.flatMap aj a0) a0.length)) 1 (vi a1)) 2 (.clo 75 [] [(.iptr (aF a2 (.imm (List.flatMap aj a2.Held) a2.Held.length)) 0)])) 8 (vi (a0.length : Int))) 9 (vi d53)) }

def cU (a0 : (List az)) (a1 : Int) (a2 : Reorder) (d54 : (Int × Int)) : AS :=
 { objs := (fun _ => .dead), next := 0, tmps := (upd (upd (upd (upd (upd (upd (fun _ => .unk) 0 (.imm (List.flatMap aj a0) a0.length)) 1 (vi a1)) 2 (.clo 75 [] [(.iptr (aF a2 (.imm (List.flatMap aj a2.Held) a2.Held.length)) 0)])) 8 (vi (a0.length : Int))) 9 (vi d54.1)) 10 (vi d54.2)) }

theorem eJ (a0 : (List az)) (a1 : Int) (a2 : Reorder) {r : (Int × Bool)} (h0 : bN a0 a1 a2 = some r) : SndP K 74 [(eT a0), (vi a1), (.clo 75 [] [(.iptr (c7 a2) 0)])] (.tup [(vi r.1), (vb r.2)]) := by
 refine SndP.of_walkW hC (aB.tup (ag cv (ag cv aG))) (ag (ge _) (ag cv (ag (aB.clo aG (ag (aB.iptr (bF _)) aG)) aG))) (show K.P.funcs[74]? = some Try.f74 from Try.func74) rfl rfl (by decide +kernel) (qB2 rfl) ?_; unfold bN at h0; refine ac [0,1,2] fun tz U u => ?_; (try simp only [go_sem]); refine qU u ?_; clear u U; refine ac [0,1,2] fun tz U u => ?_; (try simp only [go_sem]); refine qU u ?_; clear u U; refine ac [0,1,2,8] fun tz U u => ?_; (try simp only [go_sem]); refine qU u ?_; clear u U; obtain ⟨d53, hi1, h0⟩ := bnd h0; refine dk (fun z => d53 = z) (fun d53 : Int => cV a0 a1 a2 d53) ?_ ?_
 ·
  refine bB ?_; refine cO (fun n (d54 : (Int × Int)) => aR a0 a1 a2 n d54 = some d53) (fun d54 : (Int × Int) => cU a0 a1 a2 d54) big (0, (a0.length : Int)) (Wk.canonD [] [] [] rfl trivial rfl bv (tA 10 (tA 9 (tA 8 (tA 2 (tA 1 (tA 0 aO (tI (ay _))) tv) (Tm.clo tn (tc (Tm.clean (aB.iptr (bF _))) tn))) tv) tv) tv)) hi1 ?_; clear hi1; rintro n d54 hl3; rcases n with _ | n2
  ·
   (rw [aR] at hl3; cases hl3)
  ·
   rw [aR] at hl3; unfold cU; refine ap ?_; refine ac [0,1,2,8,9,10] fun tz U u => ?_; (try simp only [go_sem]); refine qU u ?_; clear u U; refine aT (b := (decide (d54.1 < d54.2))) rfl (fun h4 => ?_) (fun h4 => ?_)
   ·
    have hl3 := cT hl3 h4; refine aV ?_; refine bB ?_; refine ac [0,1,2,8,9,10] fun tz U u => ?_; (try simp only [go_sem]); refine qU u ?_; clear u U; refine ac [0,1,2,8,9,10,11] fun tz U u => ?_; obtain ⟨x55, bx55, hl3⟩ := bnd hl3; obtain ⟨fx55_0, fx55_1, fx55_2, fx55_3⟩ := cz bx55; obtain ⟨x56, bx56, hl3⟩ := bnd hl3; (try simp only [go_sem, fx55_0, fx55_1, fx55_2]); (refine aZ (lS x55 a1 a2 bx56) ?_; try dsimp only); (try refine av ?_); (try simp only [go_sem, fx55_0, fx55_1, fx55_2]); refine qU u ?_; clear u U; refine bR (b := (decide (x56 < 0))) rfl (fun h5 => ?_) (fun h5 => ?_)
    ·
     have hl3 := cT hl3 h5; refine bI [0,1,2,8,10,11] fun tz U u => ?_; (try simp only [go_sem, fx55_0, fx55_1, fx55_2]); refine u _ ?_; clear u U; refine iF ?_; refine jw ?_; exact ⟨n2, (IntKind.wrap .i64 ((IntKind.wrap .i64 (((IntKind.wrap .u64 (IntKind.wrap .i64 (d54.1 + d54.2)))).fdiv (2 ^ (min 1 64)))) + 1), d54.2), rfl, hl3, (Wk.canonD [] [] [] rfl trivial rfl bv (tA 10 (tA 9 (tA 8 (tA 2 (tA 1 (tA 0 aO (tI (ay _))) tv) (Tm.clo tn (tc (Tm.clean (aB.iptr (bF _))) tn))) tv) tv) tv))⟩
    ·
     have hl3 := cF hl3 h5; refine bI [0,1,2,8,9,11] fun tz U u => ?_; (try simp only [go_sem, fx55_0, fx55_1, fx55_2]); refine u _ ?_; clear u U; refine iF ?_; refine jw ?_; exact ⟨n2, (d54.1, IntKind.wrap .i64 (((IntKind.wrap .u64 (IntKind.wrap .i64 (d54.1 + d54.2)))).fdiv (2 ^ (min 1 64)))), rfl, hl3, (Wk.canonD [] [] [] rfl trivial rfl bv (tA 10 (tA 9 (tA 8 (tA 2 (tA 1 (tA 0 aO (tI (ay _))) tv) (Tm.clo tn (tc (Tm.clean (aB.iptr (bF _))) tn))) tv) tv) tv))⟩
   ·
    have hl3 := cF hl3 h4; refine cL ?_; refine kW ?_; refine jX ?_; refine gc ?_; obtain rfl := aq hl3; exact ⟨_, rfl, (Wk.canonD [] [] [] rfl trivial rfl bv (tA 9 (tA 8 (tA 2 (tA 1 (tA 0 aO (tI (ay _))) tv) (Tm.clo tn (tc (Tm.clean (aB.iptr (bF _))) tn))) tv) tv))⟩
 ·
  rintro _ rfl; clear hi1; unfold cV; refine ac [0,1,2,8,9] fun tz U u => ?_; rcases bE (decide (d53 < (a0.length : Int))) with h6 | h6
  ·
   have h0 := cT h0 h6; obtain ⟨x57, bx57, h0⟩ := bnd h0; obtain ⟨fx57_0, fx57_1, fx57_2, fx57_3⟩ := cz bx57; obtain ⟨x58, bx58, h0⟩ := bnd h0; (try simp only [go_sem, h6, fx57_0, fx57_1, fx57_2]); (refine aZ (lS x57 a1 a2 bx58) ?_; try dsimp only); (try refine av ?_); (try simp only [go_sem, h6, fx57_0, fx57_1, fx57_2]); refine qU u ?_; clear u U; refine aS ?_; obtain rfl := aq h0; refine aL ?_; refine aC Ko (rfl) ?_; exact qF
  ·
   have h0 := cF h0 h6; (try simp only [go_sem, h6]); refine qU u ?_; clear u U; refine aS ?_; obtain rfl := aq h0; refine aL ?_; refine aC Ko (rfl) ?_; exact qF
theorem nM (a0 : Reorder) (a1 : Int) {r : (Int × Bool)} (h0 : gl a0 a1 = some r) : SndP K 65 [(.agg (c7 a0)), (vi a1)] (.tup [(vi r.1), (vb r.2)]) := by
 refine SndP.of_walkW hC (aB.tup (ag cv (ag cv aG))) (ag (aB.agg (bF _)) (ag cv aG)) (show K.P.funcs[65]? = some Try.f65 from Try.func65) rfl rfl (by decide +kernel) (qB2 rfl) ?_; unfold gl at h0; refine ac [0,1] fun tz U u => ?_; (try simp only [go_sem]); refine qU u ?_; clear u U; refine ac [1,2] fun tz U u => ?_; obtain ⟨x52, bx52, h0⟩ := bnd h0; (try simp only [go_sem]); (refine aZ (cN a0.Start a1 bx52) ?_; try dsimp only); (try refine av ?_); obtain ⟨x53, bx53, h0⟩ := bnd h0; (try simp only [go_sem]); (refine lT (by first | (simp only [go_sem, fz] <;> rfl) | (simp only [go_sem, fz, List.length_set, eV, gF, cond_true, cond_false] <;> rfl)) (eJ a0.Held x52 a0 bx53) (sy (by rfl)) ?_; try dsimp only); (try refine av ?_); (try simp only [go_sem]); refine qU u ?_; clear u U; refine aS ?_; obtain rfl := aq h0; refine aL ?_; refine aC L3 (rfl) ?_; exact qF
theorem jb (a0 : Int) (a1 : Int) {r : Int} (h0 : eU a0 a1 = some r) : SndP K 59 [(vi a0), (vi a1)] (vi r) := by
 refine SndP.of_walkW hC cv (ag cv (ag cv aG)) (show K.P.funcs[59]? = some Try.f59 from Try.func59) rfl rfl (by decide +kernel) (qB2 rfl) ?_; unfold eU at h0; refine ac [0,1] fun tz U u => ?_; (try simp only [go_sem]); refine qU u ?_; clear u U; refine ac [0,1] fun tz U u => ?_; (try simp only [go_sem]); refine qU u ?_; clear u U; refine aS ?_; obtain rfl := aq h0; refine aL ?_; refine aC Lt (rfl) ?_; exact qF
def nP (a0 : Reorder) (a1 : Int) (x52 : (Int × Bool)) (d54 : (List Frame)) : AS :=
 { objs := (upd (upd (upd (upd (fun _ => .dead) 0 (.live (List.flatMap aj a0.Held))) 1 (.live (aF a0 (.ref 0 0 a0.Held.length 42)))) 2 (.live (List.flatMap bg d54))) 3 (.live (aF Reorder.z cM))), next := 4, tmps := (upd (upd (upd (upd (upd (fun _ => .unk) 1 (vi a1)) 2 (.ptr 1 0)) 4 (.ref 2 0 d54.length 41)) 5 (.ptr 3 0)) 6 (vi x52.1)) }

def nA (a0 : Reorder) (a1 : Int) (x52 : (Int × Bool)) (d55 : (List Frame × Nat × Int × Int)) : AS :=
 { objs := (upd (upd (upd (upd (fun _ => .dead) 0 (.live (List.flatMap aj a0.Held))) 1 (.live (aF a0 (.ref 0 0 a0.Held.length 42)))) 2 (.live (List.flatMap bg d55.1))) 3 (.live (aF Reorder.z cM))), next := 4, tmps := (upd (upd (upd (upd (upd (upd (upd (upd (fun _ => .unk) 1 (vi a1)) 2 (.ptr 1 0)) 4 (.ref 2 0 d55.1.length 41)) 5 (.ptr 3 0)) 6 (vi x52.1)) 19 (.ref 0 0 d55.2.1 42)) 20 (vi d55.2.2.1)) 21 (vi d55.2.2.2)) }

def nE (d60 : (Reorder × List az × List Frame)) : AS :=
 { objs := (upd (upd (upd (upd (fun _ => .dead) 1 (.live (aF d60.1 (.ref 2 0 d60.2.1.length 42)))) 2 (.live (List.flatMap aj d60.2.1))) 3 (.live (List.flatMap bg d60.2.2))) 4 (.live (aF Reorder.z cM))), next := 5, tmps := (upd (upd (upd (fun _ => .unk) 2 (.ptr 1 0)) 4 (.ref 3 0 d60.2.2.length 41)) 5 (.ptr 4 0)) }

def nD (d61 : (Reorder × List az × List Frame)) : AS :=
 { objs := (upd (upd (upd (upd (fun _ => .dead) 1 (.live (aF d61.1 (.ref 2 0 d61.2.1.length 42)))) 2 (.live (List.flatMap aj d61.2.1))) 3 (.live (List.flatMap bg d61.2.2))) 4 (.live (aF Reorder.z cM))), next := 5, tmps := (upd (upd (upd (fun _ => .unk) 2 (.ptr 1 0)) 4 (.ref 3 0 d61.2.2.length 41)) 5 (.ptr 4 0)) }

theorem kw (a0 : Reorder) (a1 : Int) {r : (List Frame × Reorder × List az)} (h0 : eK a0 a1 = some r) : cQ K 58 1 (fun q => [(.agg (aF a0 (.ref (q 0) 0 a0.Held.length 42))), (vi a1)]) [(fun q => (List.flatMap aj a0.Held))] (fun q => (.tup [(.ref (q 1) 0 r.1.length 41), (.agg (aF r.2.1 (.ref (q 2) 0 r.2.2.length 42)))])) [none, (some (fun q => (List.flatMap bg r.1))), (some (fun q => (List.flatMap aj r.2.2)))] := by
 refine cQ.of_walkW hC (RenML.cons (aK.agg (iA _ (aK.ref 0 0 _ _))) (RenML.cons rv RenML.nil)) (aQ (RenML.const (ay _)) dZ) (eE (aJ (RenML.const (ce _)) (aJ (RenML.const (ay _)) dg))) (aK.tup (RenML.cons (aK.ref 1 0 _ _) (RenML.cons (aK.agg (iA _ (aK.ref 2 0 _ _))) RenML.nil))) rfl (qB2 rfl) (show K.P.funcs[58]? = some Try.f58 from Try.func58) rfl rfl (by decide +kernel) (qB2 rfl) ?_; unfold eK at h0; refine ac [0,1] fun tz U u => ?_; (try simp only [go_sem]); refine qU u ?_; clear u U; refine ac [1,2,4,5] fun tz U u => ?_; obtain ⟨x52, bx52, h0⟩ := bnd h0; (try simp only [go_sem]); (refine lT (by first | (simp only [go_sem, fz] <;> rfl) | (simp only [go_sem, fz, List.length_set, eV, gF, cond_true, cond_false] <;> rfl)) (nM a0 a1 bx52) (sy (by rfl)) ?_; try dsimp only); (try refine av ?_); (try simp only [go_sem]); refine qU u ?_; clear u U; refine ap ?_; refine ac [1,2,4,5,6] fun tz U u => ?_; obtain ⟨x53, bx53, h0⟩ := bnd h0; have bx53 := bW bx53; simp only [Bool.and_eq_true, decide_eq_true_eq] at bx53; obtain ⟨gx53_0, gx53_1⟩ := bx53; (try simp only [go_sem, gx53_0, gx53_1, Int.sub_zero]); refine qU u ?_; clear u U; obtain ⟨d54, hi1, h0⟩ := bnd h0; refine dk (fun z => d54 = z) (fun d54 : (List Frame) => nP a0 a1 x52 d54) ?_ ?_
 ·
  refine bB ?_; refine cO (fun n (d55 : (List Frame × Nat × Int × Int)) => dX a0 n d55 = some d54) (fun d55 : (List Frame × Nat × Int × Int) => nA a0 a1 x52 d55) big ([], (x52.1).toNat, (((x52.1).toNat : Nat) : Int), 0) (by refine Wk.canonD [] [] [some 0, some 1, none, some 3] rfl trivial rfl (aw 3 (vH 2 (aw 1 (aw 0 bv rfl qM rfl (TmL.of_eq qL (ay _))) rfl qM rfl (aN (by rfl) tr)) rfl) rfl qM rfl (aN (by rfl) tv)) (tA 21 (tA 20 (tA 19 (tA 6 (tA 5 (tA 4 (tA 2 (tA 1 aO tv) tp) tT) tp) tv) tr) tv) tv); all_goals exact qN) hi1 ?_; clear hi1; rintro n d55 hl3; rcases n with _ | n2
  ·
   (rw [dX] at hl3; cases hl3)
  ·
   rw [dX] at hl3; unfold nA; refine ac [1,2,4,5,6,19,20,21] fun tz U u => ?_; (try simp only [go_sem]); refine qU u ?_; clear u U; refine aT (b := (decide (d55.2.2.2 < d55.2.2.1))) rfl (fun h4 => ?_) (fun h4 => ?_)
   ·
    have hl3 := cT hl3 h4; refine aV ?_; refine cC ?_; refine ac [1,2,4,5,6,19,20,21] fun tz U u => ?_; obtain ⟨x56, bx56, hl3⟩ := bnd hl3; have bx56 := bW bx56; simp only [Bool.and_eq_true, decide_eq_true_eq] at bx56; have gx56_0 := bx56; obtain ⟨x57, bx57, hl3⟩ := bnd hl3; obtain ⟨fx57_0, fx57_1, fx57_2, fx57_3⟩ := cz bx57; (have fx57_5 : ((d55.2.2.2 : Int) < ((d55.2.1 : Nat) : Int)) = True := by first | exact fx57_1 | (simp [List.length_modify, List.length_set]; omega)); (try simp only [go_sem, gx56_0, fx57_0, fx57_1, fx57_2, fx57_5]); refine qU u ?_; clear u U; refine bI [1,2,4,5,6,9,19,20,21] fun tz U u => ?_; obtain ⟨x58, bx58, hl3⟩ := bnd hl3; have bx58 := bW bx58; simp only [Bool.and_eq_true, decide_eq_true_eq] at bx58; have gx58_0 := bx58; (try simp only [go_sem, fx57_0, fx57_1, fx57_2, fx57_5, gx58_0]); refine u _ ?_; clear u U; refine iF ?_; refine et ?_; refine bI [1,2,4,5,6,19,20,21] fun tz U u => ?_; (try simp only [go_sem, fx57_0, fx57_1, fx57_2, fx57_5]); refine u _ ?_; clear u U; refine jw ?_; exact ⟨n2, ((d55.1 ++ [x57.Frame]), d55.2.1, d55.2.2.1, IntKind.wrap .i64 (d55.2.2.2 + 1)), rfl, hl3, (by refine Wk.canonD [] [] [some 0, some 1, some 13, some 3] rfl trivial rfl (aw 3 (aw 2 (aw 1 (aw 0 bv rfl qM rfl (TmL.of_eq qL (ay _))) rfl qM rfl (aN (by rfl) tr)) rfl qM rfl (TmL.of_eq qL (ce _))) rfl qM rfl (aN (by rfl) tv)) (tA 21 (tA 20 (tA 19 (tA 6 (tA 5 (tA 4 (tA 2 (tA 1 aO tv) tp) tr) tp) tv) tr) tv) tv); all_goals exact qN)⟩
   ·
    have hl3 := cF hl3 h4; refine cL ?_; refine kW ?_; refine jX ?_; refine gc ?_; obtain rfl := aq hl3; exact ⟨_, rfl, (by refine Wk.canonD [] [] [some 0, some 1, some 2, some 3] rfl trivial rfl (aw 3 (aw 2 (aw 1 (aw 0 bv rfl qM rfl (TmL.of_eq qL (ay _))) rfl qM rfl (aN (by rfl) tr)) rfl qM rfl (TmL.of_eq qL (ce _))) rfl qM rfl (aN (by rfl) tv)) (tA 6 (tA 5 (tA 4 (tA 2 (tA 1 aO tv) tp) tr) tp) tv); all_goals exact qN)⟩
 ·
  rintro _ rfl; clear hi1; unfold nP; refine ef [1,2,4,5,6] (fun _ => rfl) fun tz => ?_; refine cx fun U u all hall => ?_; refine cA ?_; (try simp only [List.toList_toArray, List.map_cons, List.map_nil, List.size_toArray, List.length_cons, List.length_nil, Nat.zero_add]); (try simp only [Nat.reduceAdd]); obtain ⟨x59, bx59, h0⟩ := bnd h0; have bx59 := bW bx59; simp only [Bool.and_eq_true, decide_eq_true_eq] at bx59; obtain ⟨gx59_0, gx59_1⟩ := bx59; (have g5 : (((a0.Held.length : Nat) : Int) - x52.1).toNat = a0.Held.length - (x52.1).toNat := by omega); (iterate 3 ((try simp only [go_sem, -Nat.reduceAdd, gx59_0, gx59_1, g5]); try simp only [Nat.reduceAdd])); refine And.intro ?_ (u _ _ (Wk.front 0 (((x52.1).toNat) * 42) [] [(1, (aF { a0 with Start := a1 } (.ref 13 0 (a0.Held.length - (x52.1).toNat) 42)))] (by decide) rfl (zP _ ((x52.1).toNat) a0.Held) (by rw [gm, List.length_take]; omega) trivial ⟨⟨by decide, by decide, _, rfl, (qv _ (Fr.ref _ _ _ (by first | rfl | omega | (simp; done) | (simp; omega))))⟩, trivial⟩) ?_)
  ·
   subst hall; clear u U; exact qP
  ·
   clear u U hall all; obtain ⟨d60, hi6, h0⟩ := bnd h0; refine dk (fun z => d60 = z) (fun d60 : (Reorder × List az × List Frame) => nE d60) ?_ ?_
   ·
    refine bB ?_; refine cO (fun n (d61 : (Reorder × List az × List Frame)) => dS n d61 = some d60) (fun d61 : (Reorder × List az × List Frame) => nD d61) big ({ a0 with Start := a1 }, (List.drop ((x52.1).toNat) a0.Held), d54) (by refine Wk.canonD [] [0] [some 0, some 1, some 13, some 2, some 3] rfl ⟨rfl, trivial⟩ rfl (aw 4 (aw 3 (aw 2 (aw 1 bv rfl qM rfl (aN (by rfl) tr)) rfl qM rfl (TmL.of_eq qL (ay _))) rfl qM rfl (TmL.of_eq qL (ce _))) rfl qM rfl (aN (by rfl) tv)) (tA 5 (tA 4 (tA 2 aO tp) tr) tp); all_goals exact qN) hi6 ?_; clear hi6; rintro n d61 hl8; rcases n with _ | n7
    ·
     (rw [dS] at hl8; cases hl8)
    ·
     rw [dS] at hl8; unfold nD; refine ap ?_; refine ac [2,4,5] fun tz U u => ?_; refine bq 5 qS qS (by rfl) fun V v => ?_; refine av ?_; (try simp only [go_sem]); refine v _ ?_; clear v V; obtain ⟨x63, hvh9, hl8⟩ := bnd hl8; refine bK 11 [(2, (.ptr 1 0)), (4, (.ref 3 0 d61.2.2.length 41)), (5, (.ptr 4 0)), (53, (vb x63))] qS qS (by rfl) (fun V v => ?_) fun tz => ?_
     ·
      refine av ?_; rcases bE (decide (0 < ((d61.2.1.length : Nat) : Int))) with h9 | h9
      ·
       have hvh9 := cT hvh9 h9; obtain ⟨x62, bx62, hvh9⟩ := bnd hvh9; obtain ⟨fx62_0, fx62_1, fx62_2, fx62_3⟩ := cz bx62; (have fx62_5 : ((0 : Int) < ((d61.2.1.length : Nat) : Int)) = True := by first | exact fx62_1 | (simp [List.length_modify, List.length_set]; omega)); simp only [Int.reduceToNat] at fx62_2 fx62_3; (try simp only [go_sem, h9, fx62_0, fx62_1, fx62_2, pd, pz, Nat.reduceDiv, Nat.reduceMod, fx62_5]); obtain rfl := aq hvh9; exact v _ ⟨rfl, rfl, rfl, rfl, (qB h9), trivial⟩
      ·
       have hvh9 := cF hvh9 h9; (try simp only [go_sem, h9]); obtain rfl := aq hvh9; exact v _ ⟨rfl, rfl, rfl, rfl, (qB h9), trivial⟩
     ·
      refine av ?_; (try simp only [go_sem]); refine qU u ?_; clear u U; refine aT (b := x63) rfl (fun h10 => ?_) (fun h10 => ?_)
      ·
       have hl8 := cT hl8 h10; refine aV ?_; refine bB ?_; refine ac [2,4,5] fun tz U u => ?_; obtain ⟨x64, bx64, hl8⟩ := bnd hl8; obtain ⟨fx64_0, fx64_1, fx64_2, fx64_3⟩ := cz bx64; (have fx64_5 : ((0 : Int) < ((d61.2.1.length : Nat) : Int)) = True := by first | exact fx64_1 | (simp [List.length_modify, List.length_set]; omega)); simp only [Int.reduceToNat] at fx64_2 fx64_3; obtain ⟨x65, bx65, hl8⟩ := bnd hl8; have bx65 := bW bx65; simp only [Bool.and_eq_true, decide_eq_true_eq] at bx65; have gx65_0 := bx65; (try simp only [go_sem, fx64_0, fx64_1, fx64_2, pd, pz, Nat.reduceDiv, Nat.reduceMod, fx64_5, gx65_0]); refine qU u ?_; clear u U; refine kQ [2,4,5] (fun _ => rfl) fun tz => ?_; refine iS fun U u all hall => ?_; refine cA ?_; (try simp only [List.toList_toArray, List.map_cons, List.map_nil, List.size_toArray, List.length_cons, List.length_nil, Nat.zero_add]); (try simp only [Nat.reduceAdd]); obtain ⟨x66, bx66, hl8⟩ := bnd hl8; (iterate 3 ((try simp only [go_sem, -Nat.reduceAdd, fx64_0, fx64_1, fx64_2, fx64_5]); try simp only [Nat.reduceAdd])); (refine fk (jb d61.1.Start 1 bx66) ?_; try dsimp only); (try refine cA ?_); obtain ⟨x67, bx67, hl8⟩ := bnd hl8; have bx67 := bW bx67; simp only [Bool.and_eq_true, decide_eq_true_eq] at bx67; have gx67_0 := bx67; (have g11 : (((d61.2.1.length : Nat) : Int) - 1).toNat = d61.2.1.length - 1 := by omega); (iterate 3 ((try simp only [go_sem, -Nat.reduceAdd, fx64_0, fx64_1, fx64_2, fx64_5, gx67_0, g11]); try simp only [Nat.reduceAdd])); refine And.intro ?_ (u _ ((Ga C6) _ _ (Wk.front 2 (1 * 42) [] [(1, (aF { d61.1 with Start := x66 } (.ref 40 0 (d61.2.1.length - 1) 42)))] (by decide) rfl (zP _ 1 d61.2.1) (by rw [gm, List.length_take]; omega) trivial ⟨⟨by decide, by decide, _, rfl, (qv _ (Fr.ref _ _ _ (by first | rfl | omega | (simp; done) | (simp; omega))))⟩, trivial⟩) ?_))
       ·
        subst hall; clear u U; exact qP
       ·
        clear u U hall all; refine iF ?_; refine jw ?_; exact ⟨n7, ({ d61.1 with Start := x66 }, (List.drop 1 d61.2.1), (d61.2.2 ++ [x64.Frame])), rfl, hl8, (by refine Wk.canonD [] [0] [some 0, some 1, some 40, some 28, some 4] rfl ⟨rfl, trivial⟩ rfl (aw 4 (aw 3 (aw 2 (aw 1 bv rfl qM rfl (aN (by rfl) tr)) rfl qM rfl (TmL.of_eq qL (ay _))) rfl qM rfl (TmL.of_eq qL (ce _))) rfl qM rfl (aN (by rfl) tv)) (tA 5 (tA 4 (tA 2 aO tp) tr) tp); all_goals exact qN)⟩
      ·
       have hl8 := cF hl8 h10; refine cL ?_; refine kW ?_; refine jX ?_; refine gc ?_; obtain rfl := aq hl8; exact ⟨_, rfl, (by refine Wk.canonD [] [0] [some 0, some 1, some 2, some 3, some 4] rfl ⟨rfl, trivial⟩ rfl (aw 4 (aw 3 (aw 2 (aw 1 bv rfl qM rfl (aN (by rfl) tr)) rfl qM rfl (TmL.of_eq qL (ay _))) rfl qM rfl (TmL.of_eq qL (ce _))) rfl qM rfl (aN (by rfl) tv)) (tA 5 (tA 4 (tA 2 aO tp) tr) tp); all_goals exact qN)⟩
   ·
    rintro _ rfl; clear hi6; unfold nE; refine ef [2,4,5] (fun _ => rfl) fun tz => ?_; refine cx fun U u all hall => ?_; refine cA ?_; (try simp only [List.toList_toArray, List.map_cons, List.map_nil, List.size_toArray, List.length_cons, List.length_nil, Nat.zero_add]); (try simp only [Nat.reduceAdd]); (iterate 3 ((try simp only [go_sem, -Nat.reduceAdd]); try simp only [Nat.reduceAdd])); refine And.intro ?_ (u _ _ (Wk.refl _ _ _) ?_)
    ·
     subst hall; clear u U; exact qP
    ·
     clear u U hall all; refine aS ?_; obtain rfl := aq h0; refine aL ?_; refine aC K5 qR ?_; refine dn.mk [] [some 0, some 3, some 2] rfl (gV (aX qM rfl (TmL.of_eq qL (ce _)) (aX qM rfl (TmL.of_eq qL (ay _)) er))) (Tm.tup (tc tr (tc (Tm.agg (aN (by rfl) tr)) tn))); (all_goals exact qN)
def oE (a0 : Reorder) (a1 : Int) (x44 : Bool) : AS :=
 { objs := (upd (upd (fun _ => .dead) 0 (.live (aF a0 (.imm (List.flatMap aj a0.Held) a0.Held.length)))) 1 (.live (aF Reorder.z cM))), next := 2, tmps := (upd (upd (upd (upd (fun _ => .unk) 1 (vi a1)) 2 (.ptr 0 0)) 5 (.ptr 1 0)) 16 (vb (!x44))) }

theorem wO (a0 : Reorder) (a1 : Int) {r : ((List Frame) × Reorder × Int)} (h0 : iZ a0 a1 = some r) : gv K 44 [(.agg (c7 a0)), (vi a1)] (fun q => (.tup [(.ref (q 0) 0 r.1.length 41), (.agg (aF r.2.1 (.ref (q 1) 0 r.2.1.Held.length 42))), (vi r.2.2)])) [(List.flatMap bg r.1), (List.flatMap aj r.2.1.Held)] := by
 refine gv.of_walkW hC (show K.P.funcs[44]? = some Try.f44 from Try.func44) rfl rfl (by decide +kernel) (qB2 rfl) ?_; unfold iZ at h0; refine ac [0,1] fun tz U u => ?_; (try simp only [go_sem]); refine qU u ?_; clear u U; refine ap ?_; refine ac [1,2,5] fun tz U u => ?_; obtain ⟨x43, bx43, h0⟩ := bnd h0; (try simp only [go_sem]); (refine aZ (fV a0 bx43) ?_; try dsimp only); (try refine av ?_); (try simp only [go_sem]); refine qU u ?_; clear u U; refine ap ?_; refine ac [1,2,5,7] fun tz U u => ?_; (try simp only [go_sem]); refine qU u ?_; clear u U; refine aT (b := (x43 != 0)) rfl (fun h1 => ?_) (fun h1 => ?_)
 ·
  have h0 := cT h0 h1; refine ap ?_; refine ac [5,7] fun tz U u => ?_; (try simp only [go_sem]); refine qU u ?_; clear u U; refine bH ?_; obtain rfl := aq h0; refine aL ?_; refine aC EV qR ?_; refine Res.mk [] [none, none] rfl (c5 (c5 cZ)) (Tm.tup (tc tT (tc (Tm.agg (aN (by rfl) tT)) (tc tv tn))))
 ·
  have h0 := cF h0 h1; refine aV ?_; refine ap ?_; refine ac [1,2,5] fun tz U u => ?_; obtain ⟨x44, bx44, h0⟩ := bnd h0; (try simp only [go_sem]); (refine aZ (gO a1 bx44) ?_; try dsimp only); (try refine av ?_); (try simp only [go_sem]); refine u _ (oE a0 a1 x44) (Wk.canonD [] [] [some 0, some 2] rfl trivial rfl (aw 1 (aw 0 bv rfl qM rfl (aN (by rfl) (tI (ay _)))) rfl qM rfl (aN (by rfl) tv)) (tA 16 (tA 5 (tA 2 (tA 1 aO tv) tp) tp) tv)) ?_; clear u U; unfold oE; refine aT (b := (!x44)) rfl (fun h2 => ?_) (fun h2 => ?_)
  ·
   have h0 := cT h0 h2; refine ap ?_; refine ac [5] fun tz U u => ?_; (try simp only [go_sem]); refine qU u ?_; clear u U; refine bH ?_; obtain rfl := aq h0; refine aL ?_; refine aC EV qR ?_; refine Res.mk [] [none, none] rfl (c5 (c5 cZ)) (Tm.tup (tc tT (tc (Tm.agg (aN (by rfl) tT)) (tc tv tn))))
  ·
   have h0 := cF h0 h2; refine aV ?_; refine ac [1,2,5] fun tz U u => ?_; obtain ⟨x45, bx45, h0⟩ := bnd h0; (try simp only [go_sem]); (refine lO (pI a0.Held bx45) ?_; try dsimp only); (try refine av ?_); (try simp only [go_sem]); refine qU u ?_; clear u U; refine ap ?_; refine ac [1,2,5] fun tz U u => ?_; obtain ⟨x46, bx46, h0⟩ := bnd h0; (try simp only [go_sem]); (refine aZ (cN a0.Start a1 bx46) ?_; try dsimp only); (try refine av ?_); (try simp only [go_sem]); refine qU u ?_; clear u U; refine aT (b := (decide (2048 ≤ x46))) rfl (fun h3 => ?_) (fun h3 => ?_)
   ·
    have h0 := cT h0 h3; refine ap ?_; refine ef [2,5] (fun _ => rfl) fun tz => ?_; refine cx fun U u all hall => ?_; refine cA ?_; (try simp only [List.toList_toArray, List.map_cons, List.map_nil, List.size_toArray, List.length_cons, List.length_nil, Nat.zero_add]); (try simp only [Nat.reduceAdd]); (iterate 3 ((try simp only [go_sem, -Nat.reduceAdd]); try simp only [Nat.reduceAdd])); refine And.intro ?_ (u _ _ (Wk.refl _ _ _) ?_)
    ·
     subst hall; clear u U; exact qP
    ·
     clear u U hall all; refine bH ?_; obtain rfl := aq h0; refine aL ?_; refine aC EV qR ?_; refine Res.mk [] [none, some 7] rfl (c5 (fB qM rfl (TmL.of_eq qL (ay _)) cZ)) (Tm.tup (tc tT (tc (Tm.agg (aN (by rfl) tr)) (tc tv tn)))); (all_goals exact qN)
   ·
    have h0 := cF h0 h3; refine aV ?_; refine ac [1,2,5] fun tz U u => ?_; obtain ⟨x47, bx47, h0⟩ := bnd h0; (try simp only [go_sem]); (refine bQ [7] (kw { a0 with Held := x45 } a1 bx47) (by decide) (by decide) ⟨qG, trivial⟩ qG ?_; try dsimp only); (try refine av ?_); (try simp only [go_sem, lc, ln]); refine qU u ?_; clear u U; refine ef [4,5] (fun _ => rfl) fun tz => ?_; refine cx fun U u all hall => ?_; refine cA ?_; (try simp only [List.toList_toArray, List.map_cons, List.map_nil, List.size_toArray, List.length_cons, List.length_nil, Nat.zero_add]); (try simp only [Nat.reduceAdd]); (iterate 3 ((try simp only [go_sem, -Nat.reduceAdd]); try simp only [Nat.reduceAdd])); refine And.intro ?_ (u _ _ (Wk.refl _ _ _) ?_)
    ·
     subst hall; clear u U; exact qP
    ·
     clear u U hall all; refine aS ?_; obtain rfl := aq h0; refine aL ?_; refine aC EV qR ?_; refine Res.mk [] [some 21, some 22] rfl (fB qM rfl (TmL.of_eq qL (ce _)) (fB qM rfl (TmL.of_eq qL (ay _)) cZ)) (Tm.tup (tc tr (tc (Tm.agg (aN (by rfl) tr)) (tc tv tn)))); (all_goals exact qN)


theorem w7 (a0 : Reorder) (a1 : Int) {r : ((List Frame) × Reorder × Int)} (h0 : iZ a0 a1 = some r) : SndP K 44 [(.agg (c7 a0)), (vi a1)] (.tup [(kM r.1), (.agg (c7 r.2.1)), (vi r.2.2)]) :=
 lK.pure (rM (wO a0 a1 h0) (aK.tup (RenML.cons (aK.ref 0 0 _ _) (RenML.cons (aK.agg (iA _ (aK.ref 1 0 _ _))) (RenML.cons rv RenML.nil)))) (bw (ce _) (bw (ay _) cK)) (ag (aB.agg (bF _)) (ag cv aG))) (aB.tup (ag (jU _) (ag (aB.agg (bF _)) (ag cv aG)))) (ag (aB.agg (bF _)) (ag cv aG)) qV
def gB (a1 : aa) (a2 : (List Bool)) (d50 : (List Int)) : AS :=
 { objs := (upd (upd (upd (upd (upd (fun _ => .dead) 0 (.live (af a1 (.imm (List.flatMap ah a1.sides.Sender.Out) a1.sides.Sender.Out.length) (.imm (List.flatMap aj a1.sides.Reorder.Held) a1.sides.Reorder.Held.length) (.clo 17 [] [(.ptr 1 0)]) (.ref 5 0 d50.length 1) (.ref 3 0 a1.out.Acked.length 1) (.ref 4 0 a1.out.Dropped.length 1)))) 1 (.live [(.imm (List.map vb a2) a2.length)])) 3 (.live (List.map vi a1.out.Acked))) 4 (.live (List.map vi a1.out.Dropped))) 5 (.live (List.map vi d50))), next := 6, tmps := (fun _ => .unk) }

def gy (a1 : aa) (a2 : (List Bool)) (a0 : (List Frame)) (d51 : (List Int × Int)) : AS :=
 { objs := (upd (upd (upd (upd (upd (fun _ => .dead) 0 (.live (af a1 (.imm (List.flatMap ah a1.sides.Sender.Out) a1.sides.Sender.Out.length) (.imm (List.flatMap aj a1.sides.Reorder.Held) a1.sides.Reorder.Held.length) (.clo 17 [] [(.ptr 1 0)]) (.ref 5 0 d51.1.length 1) (.ref 3 0 a1.out.Acked.length 1) (.ref 4 0 a1.out.Dropped.length 1)))) 1 (.live [(.imm (List.map vb a2) a2.length)])) 3 (.live (List.map vi a1.out.Acked))) 4 (.live (List.map vi a1.out.Dropped))) 5 (.live (List.map vi d51.1))), next := 6, tmps := (upd (upd (upd (upd (fun _ => .unk) 0 (.ptr 0 0)) 6 (.imm (List.flatMap bg a0) a0.length)) 7 (vi (a0.length : Int))) 8 (vi d51.2)) }

theorem dG (a0 : (List Frame)) (a1 : aa) (a2 : (List Bool)) {r : (List Int)} (h0 : bO a0 a1 a2 = some r) : cQ K 38 5 (fun q => [(.ptr (q 0) 0), (.imm (List.flatMap bg a0) a0.length)]) [(fun q => (af a1 (.imm (List.flatMap ah a1.sides.Sender.Out) a1.sides.Sender.Out.length) (.imm (List.flatMap aj a1.sides.Reorder.Held) a1.sides.Reorder.Held.length) (.clo 17 [] [(.ptr (q 1) 0)]) (.ref (q 2) 0 a1.out.Delivered.length 1) (.ref (q 3) 0 a1.out.Acked.length 1) (.ref (q 4) 0 a1.out.Dropped.length 1))), (fun q => [(.imm (List.map vb a2) a2.length)]), (fun q => (List.map vi a1.out.Delivered)), (fun q => (List.map vi a1.out.Acked)), (fun q => (List.map vi a1.out.Dropped))] (fun q => (.tup [])) [(some (fun q => (af a1 (.imm (List.flatMap ah a1.sides.Sender.Out) a1.sides.Sender.Out.length) (.imm (List.flatMap aj a1.sides.Reorder.Held) a1.sides.Reorder.Held.length) (.clo 17 [] [(.ptr (q 1) 0)]) (.ref (q 5) 0 r.length 1) (.ref (q 3) 0 a1.out.Acked.length 1) (.ref (q 4) 0 a1.out.Dropped.length 1)))), (some (fun q => [(.imm (List.map vb a2) a2.length)])), none, (some (fun q => (List.map vi a1.out.Acked))), (some (fun q => (List.map vi a1.out.Dropped))), (some (fun q => (List.map vi r)))] := by
 refine cQ.of_walkW hC (RenML.cons (aK.ptr 0 0) (RenML.cons (rI (ce _)) RenML.nil)) (aQ (bm _ (rI (ai _)) (rI (ay _)) (aK.clo RenML.nil (RenML.cons (aK.ptr 1 0) RenML.nil)) (aK.ref 2 0 _ _) (aK.ref 3 0 _ _) (aK.ref 4 0 _ _)) (aQ (RenML.cons (rI (aU _)) RenML.nil) (aQ (RenML.const (ae _)) (aQ (RenML.const (ae _)) (aQ (RenML.const (ae _)) dZ))))) (aJ (bm _ (rI (ai _)) (rI (ay _)) (aK.clo RenML.nil (RenML.cons (aK.ptr 1 0) RenML.nil)) (aK.ref 5 0 _ _) (aK.ref 3 0 _ _) (aK.ref 4 0 _ _)) (aJ (RenML.cons (rI (aU _)) RenML.nil) (eE (aJ (RenML.const (ae _)) (aJ (RenML.const (ae _)) (aJ (RenML.const (ae _)) dg)))))) (aK.tup RenML.nil) rfl (qB2 rfl) (show K.P.funcs[38]? = some Try.f38 from Try.func38) rfl rfl (by decide +kernel) (qB2 rfl) ?_; unfold bO at h0; refine ac [0,1] fun tz U u => ?_; (try simp only [go_sem]); refine qU u ?_; clear u U; obtain ⟨d50, hi1, h0⟩ := bnd h0; refine vn (fun z => d50 = z) (fun d50 : (List Int) => gB a1 a2 d50) yB ?_ ?_
 ·
  refine bB ?_; refine cO (fun n (d51 : (List Int × Int)) => bV a0 a1 n d51 = some d50) (fun d51 : (List Int × Int) => gy a1 a2 a0 d51) big (a1.out.Delivered, 0) (by refine Wk.canonD [] [2] [some 0, some 1, some 2, some 3, some 4, some 2] rfl ⟨rfl, trivial⟩ rfl (aw 5 (aw 4 (aw 3 (aw 1 (aw 0 bv rfl qM rfl (au (by rfl) (tI (ai _)) (tI (ay _)) (Tm.clo tn (tc tp tn)) tr tr tr)) rfl qM rfl (tc (tI (aU _)) tn)) rfl qM rfl (TmL.of_eq qL (ae _))) rfl qM rfl (TmL.of_eq qL (ae _))) rfl qM rfl (TmL.of_eq qL (ae _))) (tA 8 (tA 7 (tA 6 (tA 0 aO tp) (tI (ce _))) tv) tv); all_goals exact qN) hi1 ?_; clear hi1; rintro n d51 hl3; rcases n with _ | n2
  ·
   (rw [bV] at hl3; cases hl3)
  ·
   rw [bV] at hl3; unfold gy; refine ac [0,6,7,8] fun tz U u => ?_; (try simp only [go_sem]); refine qU u ?_; clear u U; refine aT (b := (decide (d51.2 < (a0.length : Int)))) rfl (fun h4 => ?_) (fun h4 => ?_)
   ·
    have hl3 := cT hl3 h4; refine aV ?_; refine cC ?_; refine ac [0,6,7,8] fun tz U u => ?_; obtain ⟨x52, bx52, hl3⟩ := bnd hl3; obtain ⟨fx52_0, fx52_1, fx52_2, fx52_3⟩ := cz bx52; (try simp only [go_sem, fx52_0, fx52_1, fx52_2]); refine qU u ?_; clear u U; refine kQ [0,5,6,7,8] (fun _ => rfl) fun tz => ?_; refine iS fun U u all hall => ?_; refine cA ?_; (try simp only [List.toList_toArray, List.map_cons, List.map_nil, List.size_toArray, List.length_cons, List.length_nil, Nat.zero_add]); (try simp only [Nat.reduceAdd]); obtain ⟨x53, bx53, hl3⟩ := bnd hl3; (iterate 3 ((try simp only [go_sem, -Nat.reduceAdd, fx52_0, fx52_1, fx52_2]); try simp only [Nat.reduceAdd])); (refine fk (cN a1.plan.Start x52.Head.Seq bx53) ?_; try dsimp only); (try refine cA ?_); obtain ⟨x54, bx54, hl3⟩ := bnd hl3; have bx54 := bW bx54; simp only [Bool.and_eq_true, decide_eq_true_eq] at bx54; have gx54_0 := bx54; (iterate 3 ((try simp only [go_sem, -Nat.reduceAdd, fx52_0, fx52_1, fx52_2, gx54_0]); try simp only [Nat.reduceAdd])); refine And.intro ?_ (u _ ?_)
    ·
     subst hall; clear u U; exact qP
    ·
     clear u U hall all; refine iF ?_; refine et ?_; refine bI [0,6,7,8] fun tz U u => ?_; (try simp only [go_sem, fx52_0, fx52_1, fx52_2]); refine u _ ?_; clear u U; refine jw ?_; exact ⟨n2, ((d51.1 ++ [x53]), IntKind.wrap .i64 (d51.2 + 1)), rfl, hl3, (by refine Wk.canonD [] [2] [some 0, some 1, some 2, some 3, some 4, some 27] rfl ⟨rfl, trivial⟩ rfl (aw 5 (aw 4 (aw 3 (aw 1 (aw 0 bv rfl qM rfl (au (by rfl) (tI (ai _)) (tI (ay _)) (Tm.clo tn (tc tp tn)) tr tr tr)) rfl qM rfl (tc (tI (aU _)) tn)) rfl qM rfl (TmL.of_eq qL (ae _))) rfl qM rfl (TmL.of_eq qL (ae _))) rfl qM rfl (TmL.of_eq qL (ae _))) (tA 8 (tA 7 (tA 6 (tA 0 aO tp) (tI (ce _))) tv) tv); all_goals exact qN)⟩
   ·
    have hl3 := cF hl3 h4; refine cL ?_; refine kW ?_; refine jX ?_; refine gc ?_; obtain rfl := aq hl3; exact ⟨_, rfl, (by refine Wk.canonD [] [2] [some 0, some 1, some 2, some 3, some 4, some 5] rfl ⟨rfl, trivial⟩ rfl (aw 5 (aw 4 (aw 3 (aw 1 (aw 0 bv rfl qM rfl (au (by rfl) (tI (ai _)) (tI (ay _)) (Tm.clo tn (tc tp tn)) tr tr tr)) rfl qM rfl (tc (tI (aU _)) tn)) rfl qM rfl (TmL.of_eq qL (ae _))) rfl qM rfl (TmL.of_eq qL (ae _))) rfl qM rfl (TmL.of_eq qL (ae _))) aO; all_goals exact qN)⟩
 ·
  rintro _ rfl; clear hi1; unfold gB; obtain rfl := aq h0; refine aL ?_; refine ep LV (rfl) ?_; refine dn.mk [] [some 0, some 1, some 2, some 3, some 4, some 5] rfl (aX qM rfl (au (by rfl) (tI (ai _)) (tI (ay _)) (Tm.clo tn (tc tp tn)) tr tr tr) (aX qM rfl (tc (tI (aU _)) tn) (gV (aX qM rfl (TmL.of_eq qL (ae _)) (aX qM rfl (TmL.of_eq qL (ae _)) (aX qM rfl (TmL.of_eq qL (ae _)) er)))))) (Tm.tup tn); (all_goals exact qN)
def iO (x44 : aa) (a1 : aa) (a2 : (List Bool)) (x43 : ((List Frame) × Reorder × Int)) : AS :=
 { objs := (upd (upd (upd (upd (upd (upd (fun _ => .dead) 0 (.live (af x44 (.imm (List.flatMap ah x44.sides.Sender.Out) x44.sides.Sender.Out.length) (.imm (List.flatMap aj x44.sides.Reorder.Held) x44.sides.Reorder.Held.length) (.clo 17 [] [(.ptr 1 0)]) (.ref 2 0 a1.out.Delivered.length 1) (.ref 3 0 a1.out.Acked.length 1) (.ref 4 0 a1.out.Dropped.length 1)))) 1 (.live [(.imm (List.map vb a2) a2.length)])) 2 (.live (List.map vi a1.out.Delivered))) 3 (.live (List.map vi a1.out.Acked))) 4 (.live (List.map vi a1.out.Dropped))) 5 (.live (aF x43.2.1 (.imm (List.flatMap aj x43.2.1.Held) x43.2.1.Held.length)))), next := 6, tmps := (upd (upd (upd (fun _ => .unk) 0 (.ptr 0 0)) 4 (.imm (List.flatMap bg x43.1) x43.1.length)) 5 (.ptr 5 0)) }

theorem iR (a0 : Int) (a1 : aa) (a2 : (List Bool)) {r : (aa × List Int)} (h0 : cB a0 a1 a2 = some r) : cQ K 30 5 (fun q => [(.ptr (q 0) 0), (vi a0)]) [(fun q => (af a1 (.imm (List.flatMap ah a1.sides.Sender.Out) a1.sides.Sender.Out.length) (.imm (List.flatMap aj a1.sides.Reorder.Held) a1.sides.Reorder.Held.length) (.clo 17 [] [(.ptr (q 1) 0)]) (.ref (q 2) 0 a1.out.Delivered.length 1) (.ref (q 3) 0 a1.out.Acked.length 1) (.ref (q 4) 0 a1.out.Dropped.length 1))), (fun q => [(.imm (List.map vb a2) a2.length)]), (fun q => (List.map vi a1.out.Delivered)), (fun q => (List.map vi a1.out.Acked)), (fun q => (List.map vi a1.out.Dropped))] (fun q => (.tup [])) [(some (fun q => (af r.1 (.imm (List.flatMap ah r.1.sides.Sender.Out) r.1.sides.Sender.Out.length) (.imm (List.flatMap aj r.1.sides.Reorder.Held) r.1.sides.Reorder.Held.length) (.clo 17 [] [(.ptr (q 1) 0)]) (.ref (q 5) 0 r.2.length 1) (.ref (q 3) 0 a1.out.Acked.length 1) (.ref (q 4) 0 a1.out.Dropped.length 1)))), (some (fun q => [(.imm (List.map vb a2) a2.length)])), none, (some (fun q => (List.map vi a1.out.Acked))), (some (fun q => (List.map vi a1.out.Dropped))), (some (fun q => (List.map vi r.2)))] := by
 refine cQ.of_walkW hC (RenML.cons (aK.ptr 0 0) (RenML.cons rv RenML.nil)) (aQ (bm _ (rI (ai _)) (rI (ay _)) (aK.clo RenML.nil (RenML.cons (aK.ptr 1 0) RenML.nil)) (aK.ref 2 0 _ _) (aK.ref 3 0 _ _) (aK.ref 4 0 _ _)) (aQ (RenML.cons (rI (aU _)) RenML.nil) (aQ (RenML.const (ae _)) (aQ (RenML.const (ae _)) (aQ (RenML.const (ae _)) dZ))))) (aJ (bm _ (rI (ai _)) (rI (ay _)) (aK.clo RenML.nil (RenML.cons (aK.ptr 1 0) RenML.nil)) (aK.ref 5 0 _ _) (aK.ref 3 0 _ _) (aK.ref 4 0 _ _)) (aJ (RenML.cons (rI (aU _)) RenML.nil) (eE (aJ (RenML.const (ae _)) (aJ (RenML.const (ae _)) (aJ (RenML.const (ae _)) dg)))))) (aK.tup RenML.nil) rfl (qB2 rfl) (show K.P.funcs[30]? = some Try.f30 from Try.func30) rfl rfl (by decide +kernel) (qB2 rfl) ?_; unfold cB at h0; refine ac [0,1] fun tz U u => ?_; obtain ⟨x43, bx43, h0⟩ := bnd h0; (try simp only [go_sem]); (refine aZ (w7 a1.sides.Reorder a0 bx43) ?_; try dsimp only); (try refine av ?_); (try simp only [go_sem]); refine qU u ?_; clear u U; refine ac [0,4,5,6] fun tz U u => ?_; obtain ⟨x44, bx44, h0⟩ := bnd h0; (try simp only [go_sem]); (refine bQ [0, 1, 2, 3, 4] (bo x43.2.2 a1 a2 bx44) (by decide) (by decide) ⟨qG, qG, qG, qG, qG, trivial⟩ qG ?_; try dsimp only); (try refine av ?_); (try simp only [go_sem, lc, ln]); refine u _ (iO x44 a1 a2 x43) (by refine Wk.canonD [] [] [some 0, some 1, some 2, some 3, some 4, some 16] rfl trivial rfl (aw 5 (aw 4 (aw 3 (aw 2 (aw 1 (aw 0 bv rfl qM rfl (au (by rfl) (tI (ai _)) (tI (ay _)) (Tm.clo tn (tc tp tn)) tr tr tr)) rfl qM rfl (tc (tI (aU _)) tn)) rfl qM rfl (TmL.of_eq qL (ae _))) rfl qM rfl (TmL.of_eq qL (ae _))) rfl qM rfl (TmL.of_eq qL (ae _))) rfl qM rfl (aN (by rfl) (tI (ay _)))) (tA 5 (tA 4 (tA 0 aO tp) (tI (ce _))) tp); all_goals exact qN) ?_; clear u U; unfold iO; refine ac [0,4,5] fun tz U u => ?_; (try simp only [go_sem]); refine qU u ?_; clear u U; refine bI [0,4] fun tz U u => ?_; obtain ⟨x45, bx45, h0⟩ := bnd h0; (try simp only [go_sem]); (refine bQ [0, 1, 2, 3, 4] (dG x43.1 { x44 with out.Acked := a1.out.Acked, out.Delivered := a1.out.Delivered, out.Dropped := a1.out.Dropped, sides.Reorder := x43.2.1 } a2 bx45) (by decide) (by decide) ⟨qG, qG, qG, qG, qG, trivial⟩ qG ?_; try dsimp only); (try refine av ?_); (try simp only [go_sem, lc, ln]); refine u _ ?_; clear u U; obtain rfl := aq h0; refine aL ?_; refine ep MU (rfl) ?_; refine dn.mk [] [some 0, some 1, some 2, some 3, some 4, some 15] rfl (aX qM rfl (au (by rfl) (tI (ai _)) (tI (ay _)) (Tm.clo tn (tc tp tn)) tr tr tr) (aX qM rfl (tc (tI (aU _)) tn) (gV (aX qM rfl (TmL.of_eq qL (ae _)) (aX qM rfl (TmL.of_eq qL (ae _)) (aX qM rfl (TmL.of_eq qL (ae _)) er)))))) (Tm.tup tn)
 all_goals exact qN
def ir (x27 : aa) (a0 : aa) (a1 : (List Bool)) (x26 : ((List Int) × Sender × Int)) : AS :=
 { objs := (upd (upd (upd (upd (upd (upd (fun _ => .dead) 0 (.live (af x27 (.imm (List.flatMap ah x27.sides.Sender.Out) x27.sides.Sender.Out.length) (.imm (List.flatMap aj x27.sides.Reorder.Held) x27.sides.Reorder.Held.length) (.clo 17 [] [(.ptr 1 0)]) (.ref 2 0 a0.out.Delivered.length 1) (.ref 3 0 a0.out.Acked.length 1) (.ref 4 0 a0.out.Dropped.length 1)))) 1 (.live [(.imm (List.map vb a1) a1.length)])) 2 (.live (List.map vi a0.out.Delivered))) 3 (.live (List.map vi a0.out.Acked))) 4 (.live (List.map vi a0.out.Dropped))) 5 (.live (aA x26.2.1 (.imm (List.flatMap ah x26.2.1.Out) x26.2.1.Out.length)))), next := 6, tmps := (upd (upd (upd (fun _ => .unk) 0 (.ptr 0 0)) 2 (.imm (List.map vi x26.1) x26.1.length)) 3 (.ptr 5 0)) }

def ik (x27 : aa) (x26 : ((List Int) × Sender × Int)) (a0 : aa) (x28 : (List Int)) (a1 : (List Bool)) : AS :=
 { objs := (upd (upd (upd (upd (upd (fun _ => .dead) 0 (.live (af { x27 with sides.Sender := x26.2.1 } (.imm (List.flatMap ah x26.2.1.Out) x26.2.1.Out.length) (.imm (List.flatMap aj x27.sides.Reorder.Held) x27.sides.Reorder.Held.length) (.clo 17 [] [(.ptr 1 0)]) (.ref 2 0 a0.out.Delivered.length 1) (.ref 3 0 a0.out.Acked.length 1) (.ref 5 0 ((a0.out.Dropped ++ x28).length) 1)))) 1 (.live [(.imm (List.map vb a1) a1.length)])) 2 (.live (List.map vi a0.out.Delivered))) 3 (.live (List.map vi a0.out.Acked))) 5 (.live (List.map vi (a0.out.Dropped ++ x28)))), next := 6, tmps := (upd (fun _ => .unk) 0 (.ptr 0 0)) }

def ic (x27 : aa) (x26 : ((List Int) × Sender × Int)) (a0 : aa) (a1 : (List Bool)) (d30 : (List Int)) : AS :=
 { objs := (upd (upd (upd (upd (upd (fun _ => .dead) 0 (.live (af { x27 with sides.Sender := x26.2.1 } (.imm (List.flatMap ah x26.2.1.Out) x26.2.1.Out.length) (.imm (List.flatMap aj x27.sides.Reorder.Held) x27.sides.Reorder.Held.length) (.clo 17 [] [(.ptr 1 0)]) (.ref 2 0 a0.out.Delivered.length 1) (.ref 3 0 a0.out.Acked.length 1) (.ref 5 0 d30.length 1)))) 1 (.live [(.imm (List.map vb a1) a1.length)])) 2 (.live (List.map vi a0.out.Delivered))) 3 (.live (List.map vi a0.out.Acked))) 5 (.live (List.map vi d30))), next := 6, tmps := (upd (fun _ => .unk) 0 (.ptr 0 0)) }

def iz (x27 : aa) (x26 : ((List Int) × Sender × Int)) (a0 : aa) (a1 : (List Bool)) (d31 : (List Int × Int)) : AS :=
 { objs := (upd (upd (upd (upd (upd (fun _ => .dead) 0 (.live (af { x27 with sides.Sender := x26.2.1 } (.imm (List.flatMap ah x26.2.1.Out) x26.2.1.Out.length) (.imm (List.flatMap aj x27.sides.Reorder.Held) x27.sides.Reorder.Held.length) (.clo 17 [] [(.ptr 1 0)]) (.ref 2 0 a0.out.Delivered.length 1) (.ref 3 0 a0.out.Acked.length 1) (.ref 5 0 d31.1.length 1)))) 1 (.live [(.imm (List.map vb a1) a1.length)])) 2 (.live (List.map vi a0.out.Delivered))) 3 (.live (List.map vi a0.out.Acked))) 5 (.live (List.map vi d31.1))), next := 6, tmps := (upd (upd (fun _ => .unk) 0 (.ptr 0 0)) 5 (vi d31.2)) }

theorem lX (a0 : aa) (a1 : (List Bool)) {r : (aa × List Int × List Int)} (h0 : d9 a0 a1 = some r) : cQ K 19 5 (fun q => [(.ptr (q 0) 0)]) [(fun q => (af a0 (.imm (List.flatMap ah a0.sides.Sender.Out) a0.sides.Sender.Out.length) (.imm (List.flatMap aj a0.sides.Reorder.Held) a0.sides.Reorder.Held.length) (.clo 17 [] [(.ptr (q 1) 0)]) (.ref (q 2) 0 a0.out.Delivered.length 1) (.ref (q 3) 0 a0.out.Acked.length 1) (.ref (q 4) 0 a0.out.Dropped.length 1))), (fun q => [(.imm (List.map vb a1) a1.length)]), (fun q => (List.map vi a0.out.Delivered)), (fun q => (List.map vi a0.out.Acked)), (fun q => (List.map vi a0.out.Dropped))] (fun q => (.tup [])) [(some (fun q => (af r.1 (.imm (List.flatMap ah r.1.sides.Sender.Out) r.1.sides.Sender.Out.length) (.imm (List.flatMap aj r.1.sides.Reorder.Held) r.1.sides.Reorder.Held.length) (.clo 17 [] [(.ptr (q 1) 0)]) (.ref (q 5) 0 r.2.1.length 1) (.ref (q 3) 0 a0.out.Acked.length 1) (.ref (q 6) 0 r.2.2.length 1)))), (some (fun q => [(.imm (List.map vb a1) a1.length)])), none, (some (fun q => (List.map vi a0.out.Acked))), none, (some (fun q => (List.map vi r.2.1))), (some (fun q => (List.map vi r.2.2)))] := by
 refine cQ.of_walkW hC (RenML.cons (aK.ptr 0 0) RenML.nil) (aQ (bm _ (rI (ai _)) (rI (ay _)) (aK.clo RenML.nil (RenML.cons (aK.ptr 1 0) RenML.nil)) (aK.ref 2 0 _ _) (aK.ref 3 0 _ _) (aK.ref 4 0 _ _)) (aQ (RenML.cons (rI (aU _)) RenML.nil) (aQ (RenML.const (ae _)) (aQ (RenML.const (ae _)) (aQ (RenML.const (ae _)) dZ))))) (aJ (bm _ (rI (ai _)) (rI (ay _)) (aK.clo RenML.nil (RenML.cons (aK.ptr 1 0) RenML.nil)) (aK.ref 5 0 _ _) (aK.ref 3 0 _ _) (aK.ref 6 0 _ _)) (aJ (RenML.cons (rI (aU _)) RenML.nil) (eE (aJ (RenML.const (ae _)) (eE (aJ (RenML.const (ae _)) (aJ (RenML.const (ae _)) dg))))))) (aK.tup RenML.nil) rfl (qB2 rfl) (show K.P.funcs[19]? = some Try.f19 from Try.func19) rfl rfl (by decide +kernel) (qB2 rfl) ?_; unfold d9 at h0; refine ac [0] fun tz U u => ?_; obtain ⟨x26, bx26, h0⟩ := bnd h0; (try simp only [go_sem]); (refine aZ (vM a0.sides.Sender bx26) ?_; try dsimp only); (try refine av ?_); (try simp only [go_sem]); refine qU u ?_; clear u U; refine ac [0,2,3,4] fun tz U u => ?_; obtain ⟨x27, bx27, h0⟩ := bnd h0; (try simp only [go_sem]); (refine bQ [0, 1, 2, 3, 4] (bo x26.2.2 a0 a1 bx27) (by decide) (by decide) ⟨qG, qG, qG, qG, qG, trivial⟩ qG ?_; try dsimp only); (try refine av ?_); (try simp only [go_sem, lc, ln]); refine u _ (ir x27 a0 a1 x26) (by refine Wk.canonD [] [] [some 0, some 1, some 2, some 3, some 4, some 15] rfl trivial rfl (aw 5 (aw 4 (aw 3 (aw 2 (aw 1 (aw 0 bv rfl qM rfl (au (by rfl) (tI (ai _)) (tI (ay _)) (Tm.clo tn (tc tp tn)) tr tr tr)) rfl qM rfl (tc (tI (aU _)) tn)) rfl qM rfl (TmL.of_eq qL (ae _))) rfl qM rfl (TmL.of_eq qL (ae _))) rfl qM rfl (TmL.of_eq qL (ae _))) rfl qM rfl (ak (by rfl) (tI (ai _)))) (tA 3 (tA 2 (tA 0 aO tp) (tI (ae _))) tp); all_goals exact qN) ?_; clear u U; unfold ir; refine ac [0,2,3] fun tz U u => ?_; (try simp only [go_sem]); refine qU u ?_; clear u U; refine ef [0,2] (fun _ => rfl) fun tz => ?_; refine cx fun U u all hall => ?_; refine cA ?_; (try simp only [List.toList_toArray, List.map_cons, List.map_nil, List.size_toArray, List.length_cons, List.length_nil, Nat.zero_add]); (try simp only [Nat.reduceAdd]); obtain ⟨x28, bx28, h0⟩ := bnd h0; (iterate 3 ((try simp only [go_sem, -Nat.reduceAdd]); try simp only [Nat.reduceAdd])); (refine sQ (by first | (simp only [go_sem, fz, lw, cond_true, cond_false] <;> rfl) | (simp only [go_sem, fz, List.length_set, eV, gF, cond_true, cond_false] <;> rfl)) (by first | (simp only [go_sem, bn] <;> rfl)) (eZ { x27 with out.Acked := a0.out.Acked, out.Delivered := a0.out.Delivered, out.Dropped := a0.out.Dropped, sides.Sender := x26.2.1 } a1 x26.1 bx28 _) (by repeat' (first | exact NoV.v _ | exact NoV.ref _ _ _ _ | exact NoV.onil | refine NoV.ocons ?_ ?_ | exact NoV.nil | refine NoV.tup ?_ | refine NoV.agg ?_ | refine NoV.rows (fun _ => ?_) _ | refine NoV.maps (fun _ => ?_) _ | refine NoV.cons ?_ ?_)) (by repeat' (first | exact NoV.v _ | exact NoV.ref _ _ _ _ | exact NoV.onil | refine NoV.ocons ?_ ?_ | exact NoV.nil | refine NoV.tup ?_ | refine NoV.agg ?_ | refine NoV.rows (fun _ => ?_) _ | refine NoV.maps (fun _ => ?_) _ | refine NoV.cons ?_ ?_)) ?_; try dsimp only); (try refine cA ?_); obtain ⟨x29, bx29, h0⟩ := bnd h0; have bx29 := bW bx29; simp only [Bool.and_eq_true, decide_eq_true_eq] at bx29; have gx29_0 := bx29; (iterate 3 ((try simp only [go_sem, -Nat.reduceAdd, gx29_0]); try simp only [Nat.reduceAdd])); refine And.intro ?_ (u _ (ik x27 x26 a0 x28 a1) (by refine Wk.canonD [] [4] [some 0, some 1, some 2, some 3, some 4, some 21] rfl ⟨rfl, trivial⟩ rfl (aw 5 (aw 3 (aw 2 (aw 1 (aw 0 bv rfl qM rfl (au (by rfl) (tI (ai _)) (tI (ay _)) (Tm.clo tn (tc tp tn)) tr tr tr)) rfl qM rfl (tc (tI (aU _)) tn)) rfl qM rfl (TmL.of_eq qL (ae _))) rfl qM rfl (TmL.of_eq qL (ae _))) rfl qM rfl (TmL.of_eq qL (ae _))) (tA 0 aO tp); all_goals exact qN) ?_)
 ·
  subst hall; clear u U; exact qP
 ·
  clear u U hall all; unfold ik; refine ap ?_; refine ac [0] fun tz U u => ?_; (try simp only [go_sem]); refine qU u ?_; clear u U; obtain ⟨d30, hi1, h0⟩ := bnd h0; refine dk (fun z => d30 = z) (fun d30 : (List Int) => ic x27 x26 a0 a1 d30) ?_ ?_
  ·
   refine bB ?_; refine cO (fun n (d31 : (List Int × Int)) => cm x27 n d31 = some d30) (fun d31 : (List Int × Int) => iz x27 x26 a0 a1 d31) big ((a0.out.Dropped ++ x28), x27.accepted) (by refine Wk.canonD [] [4] [some 0, some 1, some 2, some 3, some 4, some 5] rfl ⟨rfl, trivial⟩ rfl (aw 5 (aw 3 (aw 2 (aw 1 (aw 0 bv rfl qM rfl (au (by rfl) (tI (ai _)) (tI (ay _)) (Tm.clo tn (tc tp tn)) tr tr tr)) rfl qM rfl (tc (tI (aU _)) tn)) rfl qM rfl (TmL.of_eq qL (ae _))) rfl qM rfl (TmL.of_eq qL (ae _))) rfl qM rfl (TmL.of_eq qL (ae _))) (tA 5 (tA 0 aO tp) tv); all_goals exact qN) hi1 ?_; clear hi1; rintro n d31 hl3; rcases n with _ | n2
   ·
    (rw [cm] at hl3; cases hl3)
   ·
    rw [cm] at hl3; unfold iz; refine ap ?_; refine ac [0,5] fun tz U u => ?_; (try simp only [go_sem]); refine qU u ?_; clear u U; refine aT (b := (decide (d31.2 < x27.many))) rfl (fun h4 => ?_) (fun h4 => ?_)
    ·
     have hl3 := cT hl3 h4; refine aV ?_; refine cC ?_; refine bI [0,5] fun tz U u => ?_; obtain ⟨x32, bx32, hl3⟩ := bnd hl3; have bx32 := bW bx32; simp only [Bool.and_eq_true, decide_eq_true_eq] at bx32; have gx32_0 := bx32; (try simp only [go_sem, gx32_0]); refine u _ ?_; clear u U; refine iF ?_; refine et ?_; refine bI [0,5] fun tz U u => ?_; (try simp only [go_sem]); refine u _ ?_; clear u U; refine jw ?_; exact ⟨n2, ((d31.1 ++ [d31.2]), IntKind.wrap .i64 (d31.2 + 1)), rfl, hl3, (by refine Wk.canonD [] [4] [some 0, some 1, some 2, some 3, some 4, some 20] rfl ⟨rfl, trivial⟩ rfl (aw 5 (aw 3 (aw 2 (aw 1 (aw 0 bv rfl qM rfl (au (by rfl) (tI (ai _)) (tI (ay _)) (Tm.clo tn (tc tp tn)) tr tr tr)) rfl qM rfl (tc (tI (aU _)) tn)) rfl qM rfl (TmL.of_eq qL (ae _))) rfl qM rfl (TmL.of_eq qL (ae _))) rfl qM rfl (TmL.of_eq qL (ae _))) (tA 5 (tA 0 aO tp) tv); all_goals exact qN)⟩
    ·
     have hl3 := cF hl3 h4; refine cL ?_; refine kW ?_; refine jX ?_; refine gc ?_; obtain rfl := aq hl3; exact ⟨_, rfl, (by refine Wk.canonD [] [4] [some 0, some 1, some 2, some 3, some 4, some 5] rfl ⟨rfl, trivial⟩ rfl (aw 5 (aw 3 (aw 2 (aw 1 (aw 0 bv rfl qM rfl (au (by rfl) (tI (ai _)) (tI (ay _)) (Tm.clo tn (tc tp tn)) tr tr tr)) rfl qM rfl (tc (tI (aU _)) tn)) rfl qM rfl (TmL.of_eq qL (ae _))) rfl qM rfl (TmL.of_eq qL (ae _))) rfl qM rfl (TmL.of_eq qL (ae _))) (tA 0 aO tp); all_goals exact qN)⟩
  ·
   rintro _ rfl; clear hi1; unfold ic; refine bI [0] fun tz U u => ?_; obtain ⟨x33, bx33, h0⟩ := bnd h0; (try simp only [go_sem]); (refine bQ [0, 1, 2, 3, 5] (iR x26.2.1.Next { x27 with out.Acked := a0.out.Acked, out.Delivered := a0.out.Delivered, out.Dropped := d30, sides.Sender := x26.2.1 } a1 bx33) (by decide) (by decide) ⟨qG, qG, qG, qG, qG, trivial⟩ qG ?_; try dsimp only); (try refine av ?_); (try simp only [go_sem, lc, ln]); refine u _ ?_; clear u U; obtain rfl := aq h0; refine aL ?_; refine ep MY (rfl) ?_; refine dn.mk [] [some 0, some 1, some 2, some 3, some 4, some 14, some 5] rfl (aX qM rfl (au (by rfl) (tI (ai _)) (tI (ay _)) (Tm.clo tn (tc tp tn)) tr tr tr) (aX qM rfl (tc (tI (aU _)) tn) (gV (aX qM rfl (TmL.of_eq qL (ae _)) (gV (aX qM rfl (TmL.of_eq qL (ae _)) (aX qM rfl (TmL.of_eq qL (ae _)) er))))))) (Tm.tup tn); (all_goals exact qN)
theorem qD (a0 : Sender) (a1 : Bool) {r : (Sender × Int)} (h0 : dW a0 a1 = some r) : gv K 45 [(.agg (bA a0)), (vb a1)] (fun q => (.tup [(.agg (aA r.1 (.ref (q 0) 0 r.1.Out.length 44))), (vi r.2)])) [(List.flatMap ah r.1.Out)] := by
 refine gv.of_walkW hC (show K.P.funcs[45]? = some Try.f45 from Try.func45) rfl rfl (by decide +kernel) (qB2 rfl) ?_; unfold dW at h0; refine ac [0,1] fun tz U u => ?_; (try simp only [go_sem]); refine qU u ?_; clear u U; refine ac [1,2,4] fun tz U u => ?_; obtain ⟨x36, bx36, h0⟩ := bnd h0; (try simp only [go_sem]); (refine aZ (fx a0 bx36) ?_; try dsimp only); (try refine av ?_); (try simp only [go_sem]); refine qU u ?_; clear u U; refine cC ?_; refine ac [1,2,4,6] fun tz U u => ?_; (try simp only [go_sem]); refine qU u ?_; clear u U; refine bR (b := (x36 != 0)) rfl (fun h1 => ?_) (fun h1 => ?_)
 ·
  have h0 := cT h0 h1; refine ac [4,6] fun tz U u => ?_; (try simp only [go_sem]); refine qU u ?_; clear u U; refine aS ?_; refine jk ?_; refine jS ?_; obtain rfl := aq h0; refine aL ?_; refine aC E3 qR ?_; refine Res.mk [] [none] rfl (c5 cZ) (Tm.tup (tc (Tm.agg (ak (by rfl) tT)) (tc tv tn)))
 ·
  have h0 := cF h0 h1; refine ac [1,2,4] fun tz U u => ?_; (try simp only [go_sem]); refine qU u ?_; clear u U; refine bR (b := (!a1)) rfl (fun h2 => ?_) (fun h2 => ?_)
  ·
   have h0 := cT h0 h2; refine ac [4] fun tz U u => ?_; (try simp only [go_sem]); refine qU u ?_; clear u U; refine aS ?_; refine jk ?_; refine jS ?_; obtain rfl := aq h0; refine aL ?_; refine aC E3 qR ?_; refine Res.mk [] [none] rfl (c5 cZ) (Tm.tup (tc (Tm.agg (ak (by rfl) tT)) (tc tv tn)))
  ·
   have h0 := cF h0 h2; refine ac [2,4] fun tz U u => ?_; (try simp only [go_sem]); refine qU u ?_; clear u U; refine bR (b := (a0.Phase != 2)) rfl (fun h3 => ?_) (fun h3 => ?_)
   ·
    have h0 := cT h0 h3; refine ac [4] fun tz U u => ?_; (try simp only [go_sem]); refine qU u ?_; clear u U; refine aS ?_; refine jk ?_; refine jS ?_; obtain rfl := aq h0; refine aL ?_; refine aC E3 qR ?_; refine Res.mk [] [none] rfl (c5 cZ) (Tm.tup (tc (Tm.agg (ak (by rfl) tT)) (tc tv tn)))
   ·
    have h0 := cF h0 h3; refine de ?_; refine iF ?_; refine et ?_; refine ac [2,4] fun tz U u => ?_; obtain ⟨x37, bx37, h0⟩ := bnd h0; (try simp only [go_sem]); (refine lO (qp a0 bx37) ?_; try dsimp only); (try refine av ?_); (try simp only [go_sem]); refine qU u ?_; clear u U; refine aS ?_; obtain rfl := aq h0; refine aL ?_; refine aC E3 qR ?_; refine Res.mk [] [some 20] rfl (fB qM rfl (TmL.of_eq qL (ai _)) cZ) (Tm.tup (tc (Tm.agg (ak (by rfl) tr)) (tc tv tn))); (all_goals exact qN)

theorem lZ (a0 : Sender) (a1 : Bool) {r : (Sender × Int)} (h0 : dW a0 a1 = some r) : lK K 45 [(.agg (bA a0)), (vb a1)] (fun q => (.tup [(.agg (aA r.1 (.ref (q 0) 0 r.1.Out.length 44))), (vi r.2)])) [(List.flatMap ah r.1.Out)] :=
 fun hs => Snd.of_newM (aK.tup (RenML.cons (aK.agg (bL _ (aK.ref 0 0 _ _))) (RenML.cons rv RenML.nil))) (bw (ai _) cK) (ag (aB.agg (aY _)) (ag cv aG)) (qD a0 a1 h0) hs

theorem mi (a0 : Sender) (a1 : Bool) {r : (Sender × Int)} (h0 : dW a0 a1 = some r) (fr : Nat) (hs : HS) : kl K 45 [(.agg (bA a0)), (vb a1)] hs fr ⟨(fun q : Nat → Nat => (.tup [(.agg (aA r.1 (.ref (q 0) 0 r.1.Out.length 44))), (vi r.2)])) fun _ => fr, .new (List.flatMap ah r.1.Out)⟩ :=
 kl.of_res (aK.tup (RenML.cons (aK.agg (bL _ (aK.ref 0 0 _ _))) (RenML.cons rv RenML.nil))) (ai _) (ag (aB.agg (aY _)) (ag cv aG)) (fun a b h => by simp only [h]) (qD a0 a1 h0) hs fr
theorem sx (a0 : ax) (a1 : Sender) (a2 : Int) {r : Bool} (h0 : iD a0 a1 a2 = some r) : SndP K 47 [(.agg (ah a0)), (.iptr (bA a1) 0), (.iptr [(vi a2)] 0)] (vb r) := by
 refine SndP.of_walkW hC cv (ag (aB.agg (iC _)) (ag (aB.iptr (aY _)) (ag (aB.iptr (ag cv aG)) aG))) (show K.P.funcs[47]? = some Try.f47 from Try.func47) rfl rfl (by decide +kernel) (qB2 rfl) ?_; unfold iD at h0; refine ac [0,1,2] fun tz U u => ?_; (try simp only [go_sem]); refine qU u ?_; clear u U; refine ac [1,2,3] fun tz U u => ?_; refine bq 4 qS qS (by rfl) fun V v => ?_; refine av ?_; (try simp only [go_sem]); refine v _ ?_; clear v V; refine bK 15 [(23, (vb ((!a0.Flying) && ((a0.Tries == a1.Limit) || (decide ((IntKind.wrap .i64 (a0.At + a1.Life)) ≤ a2))))))] qS qS (by rfl) (fun V v => ?_) fun tz => ?_
 ·
  refine av ?_; rcases bE (!a0.Flying) with h1 | h1
  ·
   refine bq 6 qS qS (by rfl) fun V v => ?_; refine av ?_; (try simp only [go_sem, h1]); refine v _ ?_; clear v V; refine bK 8 [(8, (vb true)), (22, (vb ((a0.Tries == a1.Limit) || (decide ((IntKind.wrap .i64 (a0.At + a1.Life)) ≤ a2)))))] qS qS (by rfl) (fun V v => ?_) fun tz => ?_
   ·
    refine av ?_; rcases bE (a0.Tries == a1.Limit) with h2 | h2
    ·
     (try simp only [go_sem, h1, h2]); exact v _ ⟨rfl, rfl, (qB h2), trivial⟩
    ·
     (try simp only [go_sem, h1, h2]); exact v _ ⟨rfl, rfl, (qB h2), trivial⟩
   ·
    refine av ?_; (try simp only [go_sem, h1]); exact v _ ⟨rfl, (qB h1), trivial⟩
  ·
   (try simp only [go_sem, h1]); exact v _ ⟨rfl, (qB h1), trivial⟩
 ·
  refine av ?_; (try simp only [go_sem]); refine qU u ?_; clear u U; refine aS ?_; obtain rfl := aq h0; refine aL ?_; refine aC ML (rfl) ?_; exact qF
theorem kd (a0 : ax) (a1 : Sender) (a2 : Int) (a3 : List Int) {r : (Bool × List Int)} (h0 : eF a0 a1 a2 a3 = some r) : cQ K 64 6 (fun q => [(.agg (br a0 (.imm (List.map vu a0.Frame.Body) a0.Frame.Body.length))), (.ptr (q 0) 0), (.ptr (q 1) 0)]) [(fun q => [(.clo 47 [] [(.ptr (q 2) 0), (.ptr (q 3) 0)])]), (fun q => [(.ref (q 4) 0 a3.length 1)]), (fun q => (aA a1 (.ref (q 5) 0 a1.Out.length 44))), (fun q => [(vi a2)]), (fun q => (List.map vi a3)), (fun q => (List.flatMap ah a1.Out))] (fun q => (vb r.1)) [(some (fun q => [(.clo 47 [] [(.ptr (q 2) 0), (.ptr (q 3) 0)])])), (some (fun q => [(.ref (q 6) 0 r.2.length 1)])), (some (fun q => (aA a1 (.ref (q 5) 0 a1.Out.length 44)))), (some (fun q => [(vi a2)])), none, (some (fun q => (List.flatMap ah a1.Out))), (some (fun q => (List.map vi r.2)))] := by
 refine cQ.of_walkW hC (RenML.cons (aK.agg (qr _ (rI (fD _)))) (RenML.cons (aK.ptr 0 0) (RenML.cons (aK.ptr 1 0) RenML.nil))) (aQ (RenML.cons (aK.clo RenML.nil (RenML.cons (aK.ptr 2 0) (RenML.cons (aK.ptr 3 0) RenML.nil))) RenML.nil) (aQ (RenML.cons (aK.ref 4 0 _ _) RenML.nil) (aQ (bL _ (aK.ref 5 0 _ _)) (aQ (RenML.cons rv RenML.nil) (aQ (RenML.const (ae _)) (aQ (RenML.const (ai _)) dZ)))))) (aJ (RenML.cons (aK.clo RenML.nil (RenML.cons (aK.ptr 2 0) (RenML.cons (aK.ptr 3 0) RenML.nil))) RenML.nil) (aJ (RenML.cons (aK.ref 6 0 _ _) RenML.nil) (aJ (bL _ (aK.ref 5 0 _ _)) (aJ (RenML.cons rv RenML.nil) (eE (aJ (RenML.const (ai _)) (aJ (RenML.const (ae _)) dg))))))) rv rfl (qB2 rfl) (show K.P.funcs[64]? = some Try.f64 from Try.func64) rfl rfl (by decide +kernel) (qB2 rfl) ?_; unfold eF at h0; refine ac [0,1,2] fun tz U u => ?_; (try simp only [go_sem]); refine qU u ?_; clear u U; refine ac [1,2,3] fun tz U u => ?_; obtain ⟨x41, bx41, h0⟩ := bnd h0; (try simp only [go_sem]); (refine lT (by first | (simp only [go_sem, fz] <;> rfl) | (simp only [go_sem, fz, List.length_set, eV, gF, cond_true, cond_false] <;> rfl)) (sx a0 a1 a2 bx41) (kT.v _) ?_; try dsimp only); (try refine av ?_); (try simp only [go_sem]); refine qU u ?_; clear u U; refine ap ?_; refine ac [2,3,5] fun tz U u => ?_; (try simp only [go_sem]); refine qU u ?_; clear u U; refine aT (b := x41) rfl (fun h1 => ?_) (fun h1 => ?_)
 ·
  have h0 := cT h0 h1; refine ac [2,3,5] fun tz U u => ?_; obtain ⟨x42, bx42, h0⟩ := bnd h0; have bx42 := bW bx42; simp only [Bool.and_eq_true, decide_eq_true_eq] at bx42; have gx42_0 := bx42; (try simp only [go_sem, gx42_0]); refine qU u ?_; clear u U; refine ac [5] fun tz U u => ?_; (try simp only [go_sem]); refine qU u ?_; clear u U; refine aS ?_; obtain rfl := aq h0; refine aL ?_; refine aC FE (rfl) ?_; refine dn.mk [] [some 0, some 1, some 2, some 3, some 4, some 5, some 19] rfl (aX qM rfl (tc (Tm.clo tn (tc tp (tc tp tn))) tn) (aX qM rfl (tc tr tn) (aX qM rfl (ak (by rfl) tr) (aX qM rfl (tc tv tn) (gV (aX qM rfl (TmL.of_eq qL (ai _)) (aX qM rfl (TmL.of_eq qL (ae _)) er))))))) tv; (all_goals exact qN)
 ·
  have h0 := cF h0 h1; refine aV ?_; refine ac [5] fun tz U u => ?_; (try simp only [go_sem]); refine qU u ?_; clear u U; refine aS ?_; obtain rfl := aq h0; refine aL ?_; refine aC FE (rfl) ?_; refine dn.mk [] [some 0, some 1, some 2, some 3, some 4, some 5, some 4] rfl (aX qM rfl (tc (Tm.clo tn (tc tp (tc tp tn))) tn) (aX qM rfl (tc tr tn) (aX qM rfl (ak (by rfl) tr) (aX qM rfl (tc tv tn) (gV (aX qM rfl (TmL.of_eq qL (ai _)) (aX qM rfl (TmL.of_eq qL (ae _)) er))))))) tv; (all_goals exact qN)
def dI (a0 : Sender) (a1 : Int) (d39 : (List Int)) : AS :=
 { objs := (upd (upd (upd (upd (upd (upd (fun _ => .dead) 0 (.live (List.flatMap ah a0.Out))) 1 (.live [(.clo 47 [] [(.ptr 3 0), (.ptr 4 0)])])) 2 (.live [(.ref 5 0 d39.length 1)])) 3 (.live (aA a0 (.ref 0 0 a0.Out.length 44)))) 4 (.live [(vi a1)])) 5 (.live (List.map vi d39))), next := 6, tmps := (fun _ => .unk) }

def dH (a0 : Sender) (a1 : Int) (d41 : (List Int × Int)) : AS :=
 { objs := (upd (upd (upd (upd (upd (upd (fun _ => .dead) 0 (.live (List.flatMap ah a0.Out))) 1 (.live [(.clo 47 [] [(.ptr 3 0), (.ptr 4 0)])])) 2 (.live [(.ref 5 0 d41.1.length 1)])) 3 (.live (aA a0 (.ref 0 0 a0.Out.length 44)))) 4 (.live [(vi a1)])) 5 (.live (List.map vi d41.1))), next := 6, tmps := (upd (upd (upd (upd (fun _ => .unk) 0 (.ref 0 0 a0.Out.length 44)) 1 (.clo 64 [] [(.ptr 1 0), (.ptr 2 0)])) 7 (vi ((a0.Out.length : Nat) : Int))) 8 (vi d41.2)) }

theorem fH (a0 : Sender) (a1 : Int) {r : (Int × List Int)} (h0 : cp a0 a1 = some r) : cQ K 73 5 (fun q => [(.ref (q 0) 0 a0.Out.length 44), (.clo 64 [] [(.ptr (q 1) 0), (.ptr (q 2) 0)])]) [(fun q => (List.flatMap ah a0.Out)), (fun q => [(.clo 47 [] [(.ptr (q 3) 0), (.ptr (q 4) 0)])]), (fun q => [cM]), (fun q => (aA a0 (.ref (q 0) 0 a0.Out.length 44))), (fun q => [(vi a1)])] (fun q => (vi r.1)) [(some (fun q => (List.flatMap ah a0.Out))), (some (fun q => [(.clo 47 [] [(.ptr (q 3) 0), (.ptr (q 4) 0)])])), (some (fun q => [(.ref (q 5) 0 r.2.length 1)])), (some (fun q => (aA a0 (.ref (q 0) 0 a0.Out.length 44)))), (some (fun q => [(vi a1)])), (some (fun q => (List.map vi r.2)))] := by
 refine cQ.of_walkW hC (RenML.cons (aK.ref 0 0 _ _) (RenML.cons (aK.clo RenML.nil (RenML.cons (aK.ptr 1 0) (RenML.cons (aK.ptr 2 0) RenML.nil))) RenML.nil)) (aQ (RenML.const (ai _)) (aQ (RenML.cons (aK.clo RenML.nil (RenML.cons (aK.ptr 3 0) (RenML.cons (aK.ptr 4 0) RenML.nil))) RenML.nil) (aQ (RenML.cons rv RenML.nil) (aQ (bL _ (aK.ref 0 0 _ _)) (aQ (RenML.cons rv RenML.nil) dZ))))) (aJ (RenML.const (ai _)) (aJ (RenML.cons (aK.clo RenML.nil (RenML.cons (aK.ptr 3 0) (RenML.cons (aK.ptr 4 0) RenML.nil))) RenML.nil) (aJ (RenML.cons (aK.ref 5 0 _ _) RenML.nil) (aJ (bL _ (aK.ref 0 0 _ _)) (aJ (RenML.cons rv RenML.nil) (aJ (RenML.const (ae _)) dg)))))) rv rfl (qB2 rfl) (show K.P.funcs[73]? = some Try.f73 from Try.func73) rfl rfl (by decide +kernel) (qB2 rfl) ?_; unfold cp at h0; refine ac [0,1] fun tz U u => ?_; (try simp only [go_sem]); refine qU u ?_; clear u U; refine ap ?_; refine ac [0,1] fun tz U u => ?_; (try simp only [go_sem]); refine qU u ?_; clear u U; obtain ⟨o40, hi1, h0⟩ := bnd h0; refine dk (fun d39 : (List Int) => o40 = Ex.go d39) (fun d39 : (List Int) => dI a0 a1 d39) ?_ ?_
 ·
  refine bB ?_; refine cO (fun n (d41 : (List Int × Int)) => bh a0 a1 n d41 = some o40) (fun d41 : (List Int × Int) => dH a0 a1 d41) big ([], 0) (by refine Wk.canonD [] [] [some 0, some 1, some 2, some 3, some 4, none] rfl trivial rfl (vH 5 (aw 4 (aw 3 (aw 2 (aw 1 (aw 0 bv rfl qM rfl (TmL.of_eq qL (ai _))) rfl qM rfl (tc (Tm.clo tn (tc tp (tc tp tn))) tn)) rfl qM rfl (tc tT tn)) rfl qM rfl (ak (by rfl) tr)) rfl qM rfl (tc tv tn)) rfl) (tA 8 (tA 7 (tA 1 (tA 0 aO tr) (Tm.clo tn (tc tp (tc tp tn)))) tv) tv); all_goals exact qN) hi1 ?_; clear hi1; rintro n d41 hl3; rcases n with _ | n2
  ·
   (rw [bh] at hl3; cases hl3)
  ·
   rw [bh] at hl3; unfold dH; refine ac [0,1,7,8] fun tz U u => ?_; (try simp only [go_sem]); refine qU u ?_; clear u U; refine aT (b := (decide (d41.2 < ((a0.Out.length : Nat) : Int)))) rfl (fun h4 => ?_) (fun h4 => ?_)
   ·
    have hl3 := cT hl3 h4; refine aV ?_; refine cC ?_; refine ac [0,1,7,8] fun tz U u => ?_; (try simp only [go_sem]); refine qU u ?_; clear u U; refine ac [0,1,5,7,8] fun tz U u => ?_; obtain ⟨x42, bx42, hl3⟩ := bnd hl3; obtain ⟨fx42_0, fx42_1, fx42_2, fx42_3⟩ := cz bx42; (have fx42_5 : ((d41.2 : Int) < ((a0.Out.length : Nat) : Int)) = True := by first | exact fx42_1 | (simp [List.length_modify, List.length_set]; omega)); obtain ⟨x43, bx43, hl3⟩ := bnd hl3; (try simp only [go_sem, fx42_0, fx42_1, fx42_2, fx42_5]); (refine bQ [1, 2, 3, 4, 5, 0] (kd x42 a0 a1 d41.1 bx43) (by decide) (by decide) ⟨(by first | rfl | (simp only [go_sem, fx42_0, fx42_1, fx42_2, fx42_5] <;> rfl)), (by first | rfl | (simp only [go_sem, fx42_0, fx42_1, fx42_2, fx42_5] <;> rfl)), (by first | rfl | (simp only [go_sem, fx42_0, fx42_1, fx42_2, fx42_5] <;> rfl)), (by first | rfl | (simp only [go_sem, fx42_0, fx42_1, fx42_2, fx42_5] <;> rfl)), (by first | rfl | (simp only [go_sem, fx42_0, fx42_1, fx42_2, fx42_5] <;> rfl)), (by first | rfl | (simp only [go_sem, fx42_0, fx42_1, fx42_2, fx42_5] <;> rfl)), trivial⟩ (by first | rfl | (simp only [go_sem, fx42_0, fx42_1, fx42_2, fx42_5] <;> rfl)) ?_; try dsimp only); (try refine av ?_); (try simp only [go_sem, fx42_0, fx42_1, fx42_2, fx42_5, lc, ln]); refine qU u ?_; clear u U; refine bR (b := x43.1) rfl (fun h5 => ?_) (fun h5 => ?_)
    ·
     have hl3 := cT hl3 h5; refine ac [5] fun tz U u => ?_; (try simp only [go_sem, fx42_0, fx42_1, fx42_2, fx42_5]); refine qU u ?_; clear u U; refine aS ?_; refine jk ?_; refine jS ?_; refine Bo ?_; refine jk ?_; refine jS ?_; obtain rfl := aq hl3; obtain rfl := Ex.k_ret h0; refine aL ?_; refine aC Fw (rfl) ?_; refine dn.mk [] [some 0, some 1, some 2, some 3, some 4, some 15] rfl (aX qM rfl (TmL.of_eq qL (ai _)) (aX qM rfl (tc (Tm.clo tn (tc tp (tc tp tn))) tn) (aX qM rfl (tc tr tn) (aX qM rfl (ak (by rfl) tr) (aX qM rfl (tc tv tn) (aX qM rfl (TmL.of_eq qL (ae _)) er)))))) tv; (all_goals exact qN)
    ·
     have hl3 := cF hl3 h5; refine de ?_; refine iF ?_; refine et ?_; refine bI [0,1,7,8] fun tz U u => ?_; (try simp only [go_sem, fx42_0, fx42_1, fx42_2, fx42_5]); refine u _ ?_; clear u U; refine jw ?_; exact ⟨n2, (x43.2, IntKind.wrap .i64 (d41.2 + 1)), rfl, hl3, (by refine Wk.canonD [] [] [some 0, some 1, some 2, some 3, some 4, some 15] rfl trivial rfl (aw 5 (aw 4 (aw 3 (aw 2 (aw 1 (aw 0 bv rfl qM rfl (TmL.of_eq qL (ai _))) rfl qM rfl (tc (Tm.clo tn (tc tp (tc tp tn))) tn)) rfl qM rfl (tc tr tn)) rfl qM rfl (ak (by rfl) tr)) rfl qM rfl (tc tv tn)) rfl qM rfl (TmL.of_eq qL (ae _))) (tA 8 (tA 7 (tA 1 (tA 0 aO tr) (Tm.clo tn (tc tp (tc tp tn)))) tv) tv); all_goals exact qN)⟩
   ·
    have hl3 := cF hl3 h4; refine cL ?_; refine kW ?_; refine jX ?_; refine gc ?_; obtain rfl := aq hl3; exact ⟨_, rfl, (by refine Wk.canonD [] [] [some 0, some 1, some 2, some 3, some 4, some 5] rfl trivial rfl (aw 5 (aw 4 (aw 3 (aw 2 (aw 1 (aw 0 bv rfl qM rfl (TmL.of_eq qL (ai _))) rfl qM rfl (tc (Tm.clo tn (tc tp (tc tp tn))) tn)) rfl qM rfl (tc tr tn)) rfl qM rfl (ak (by rfl) tr)) rfl qM rfl (tc tv tn)) rfl qM rfl (TmL.of_eq qL (ae _))) aO; all_goals exact qN)⟩
 ·
  rintro d39 rfl; have h0 := Ex.k_go h0; clear hi1; unfold dI; refine ac [] fun tz U u => ?_; (try simp only [go_sem]); refine qU u ?_; clear u U; refine aS ?_; obtain rfl := aq h0; refine aL ?_; refine aC Fw (rfl) ?_; refine dn.mk [] [some 0, some 1, some 2, some 3, some 4, some 5] rfl (aX qM rfl (TmL.of_eq qL (ai _)) (aX qM rfl (tc (Tm.clo tn (tc tp (tc tp tn))) tn) (aX qM rfl (tc tr tn) (aX qM rfl (ak (by rfl) tr) (aX qM rfl (tc tv tn) (aX qM rfl (TmL.of_eq qL (ae _)) er)))))) tv; (all_goals exact qN)
def dC (a1 : Int) (d40 : (List ax × Int × Sender × List Int)) : AS :=
 { objs := (upd (upd (upd (upd (upd (upd (fun _ => .dead) 0 (.live (List.flatMap ah d40.1))) 1 (.live [(.clo 47 [] [(.ptr 3 0), (.ptr 4 0)])])) 2 (.live [(.ref 5 0 d40.2.2.2.length 1)])) 3 (.live (aA d40.2.2.1 (.ref 0 0 d40.1.length 44)))) 4 (.live [(vi a1)])) 5 (.live (List.map vi d40.2.2.2))), next := 6, tmps := (upd (upd (fun _ => .unk) 0 (.ref 0 0 d40.1.length 44)) 5 (vi d40.2.1)) }

def dB (a1 : Int) (d41 : (List ax × Sender × List Int × Int × Int)) : AS :=
 { objs := (upd (upd (upd (upd (upd (upd (fun _ => .dead) 0 (.live (List.flatMap ah d41.1))) 1 (.live [(.clo 47 [] [(.ptr 3 0), (.ptr 4 0)])])) 2 (.live [(.ref 5 0 d41.2.2.1.length 1)])) 3 (.live (aA d41.2.1 (.ref 0 0 d41.1.length 44)))) 4 (.live [(vi a1)])) 5 (.live (List.map vi d41.2.2.1))), next := 6, tmps := (upd (upd (upd (upd (fun _ => .unk) 0 (.ref 0 0 d41.1.length 44)) 1 (.clo 64 [] [(.ptr 1 0), (.ptr 2 0)])) 5 (vi d41.2.2.2.1)) 6 (vi d41.2.2.2.2)) }

theorem fF (a0 : Sender) (a1 : Int) {r : (List ax × Sender × List Int)} (h0 : bT a0 a1 = some r) : cQ K 63 5 (fun q => [(.ref (q 0) 0 a0.Out.length 44), (.clo 64 [] [(.ptr (q 1) 0), (.ptr (q 2) 0)])]) [(fun q => (List.flatMap ah a0.Out)), (fun q => [(.clo 47 [] [(.ptr (q 3) 0), (.ptr (q 4) 0)])]), (fun q => [cM]), (fun q => (aA a0 (.ref (q 0) 0 a0.Out.length 44))), (fun q => [(vi a1)])] (fun q => (.ref (q 0) 0 r.1.length 44)) [(some (fun q => (List.flatMap ah r.1))), (some (fun q => [(.clo 47 [] [(.ptr (q 3) 0), (.ptr (q 4) 0)])])), (some (fun q => [(.ref (q 5) 0 r.2.2.length 1)])), (some (fun q => (aA r.2.1 .unk))), (some (fun q => [(vi a1)])), (some (fun q => (List.map vi r.2.2)))] := by
 refine cQ.of_walkW hC (RenML.cons (aK.ref 0 0 _ _) (RenML.cons (aK.clo RenML.nil (RenML.cons (aK.ptr 1 0) (RenML.cons (aK.ptr 2 0) RenML.nil))) RenML.nil)) (aQ (RenML.const (ai _)) (aQ (RenML.cons (aK.clo RenML.nil (RenML.cons (aK.ptr 3 0) (RenML.cons (aK.ptr 4 0) RenML.nil))) RenML.nil) (aQ (RenML.cons rv RenML.nil) (aQ (bL _ (aK.ref 0 0 _ _)) (aQ (RenML.cons rv RenML.nil) dZ))))) (aJ (RenML.const (ai _)) (aJ (RenML.cons (aK.clo RenML.nil (RenML.cons (aK.ptr 3 0) (RenML.cons (aK.ptr 4 0) RenML.nil))) RenML.nil) (aJ (RenML.cons (aK.ref 5 0 _ _) RenML.nil) (aJ (bL _ (aK.const aB.unk)) (aJ (RenML.cons rv RenML.nil) (aJ (RenML.const (ae _)) dg)))))) (aK.ref 0 0 _ _) rfl (qB2 rfl) (show K.P.funcs[63]? = some Try.f63 from Try.func63) rfl rfl (by decide +kernel) (qB2 rfl) ?_; unfold bT at h0; refine ac [0,1] fun tz U u => ?_; (try simp only [go_sem]); refine qU u ?_; clear u U; refine ac [0,1] fun tz U u => ?_; obtain ⟨x39, bx39, h0⟩ := bnd h0; (try simp only [go_sem]); (refine bQ [0, 1, 2, 3, 4] (fH a0 a1 bx39) (by decide) (by decide) ⟨qG, qG, qG, qG, qG, trivial⟩ qG ?_; try dsimp only); (try refine av ?_); (try simp only [go_sem, lc, ln]); refine qU u ?_; clear u U; refine ap ?_; refine ac [0,1,5] fun tz U u => ?_; (try simp only [go_sem, Int.reduceNeg]); refine qU u ?_; clear u U; refine aT (b := (x39.1 == (-1))) rfl (fun h1 => ?_) (fun h1 => ?_)
 ·
  have h0 := cT h0 h1; refine ap ?_; refine ac [0] fun tz U u => ?_; (try simp only [go_sem]); refine qU u ?_; clear u U; refine bH ?_; obtain rfl := aq h0; refine aL ?_; refine aC E7 (rfl) ?_; refine dn.mk [] [some 0, some 1, some 2, some 3, some 4, some 10] rfl (aX qM rfl (TmL.of_eq qL (ai _)) (aX qM rfl (tc (Tm.clo tn (tc tp (tc tp tn))) tn) (aX qM rfl (tc tr tn) (aX qM rfl (ak (by rfl) (Tm.unk _)) (aX qM rfl (tc tv tn) (aX qM rfl (TmL.of_eq qL (ae _)) er)))))) tr; (all_goals exact qN)
 ·
  have h0 := cF h0 h1; refine aV ?_; refine ap ?_; refine ac [0,1,5] fun tz U u => ?_; (try simp only [go_sem]); refine qU u ?_; clear u U; obtain ⟨d40, hi2, h0⟩ := bnd h0; refine dk (fun z => d40 = z) (fun d40 : (List ax × Int × Sender × List Int) => dC a1 d40) ?_ ?_
  ·
   refine bB ?_; refine cO (fun n (d41 : (List ax × Sender × List Int × Int × Int)) => bc a1 n d41 = some d40) (fun d41 : (List ax × Sender × List Int × Int × Int) => dB a1 d41) big (a0.Out, a0, x39.2, x39.1, IntKind.wrap .i64 (x39.1 + 1)) (by refine Wk.canonD [] [] [some 0, some 1, some 2, some 3, some 4, some 10] rfl trivial rfl (aw 5 (aw 4 (aw 3 (aw 2 (aw 1 (aw 0 bv rfl qM rfl (TmL.of_eq qL (ai _))) rfl qM rfl (tc (Tm.clo tn (tc tp (tc tp tn))) tn)) rfl qM rfl (tc tr tn)) rfl qM rfl (ak (by rfl) tr)) rfl qM rfl (tc tv tn)) rfl qM rfl (TmL.of_eq qL (ae _))) (tA 6 (tA 5 (tA 1 (tA 0 aO tr) (Tm.clo tn (tc tp (tc tp tn)))) tv) tv); all_goals exact qN) hi2 ?_; clear hi2; rintro n d41 hl4; rcases n with _ | n3
   ·
    (rw [bc] at hl4; cases hl4)
   ·
    rw [bc] at hl4; unfold dB; refine ap ?_; refine ac [0,1,5,6] fun tz U u => ?_; (try simp only [go_sem]); refine qU u ?_; clear u U; refine aT (b := (decide (d41.2.2.2.2 < ((d41.1.length : Nat) : Int)))) rfl (fun h5 => ?_) (fun h5 => ?_)
    ·
     have hl4 := cT hl4 h5; refine aV ?_; refine cC ?_; refine ac [0,1,5,6] fun tz U u => ?_; obtain ⟨x42, bx42, hl4⟩ := bnd hl4; obtain ⟨fx42_0, fx42_1, fx42_2, fx42_3⟩ := cz bx42; (have fx42_5 : ((d41.2.2.2.2 : Int) < ((d41.1.length : Nat) : Int)) = True := by first | exact fx42_1 | (simp [List.length_modify, List.length_set]; omega)); (try simp only [go_sem, fx42_0, fx42_1, fx42_2, fx42_5]); refine qU u ?_; clear u U; refine ac [0,1,5,6,7] fun tz U u => ?_; obtain ⟨x43, bx43, hl4⟩ := bnd hl4; (try simp only [go_sem, fx42_0, fx42_1, fx42_2, fx42_5]); (refine bQ [1, 2, 3, 4, 5, 0] (kd x42 { d41.2.1 with Out := d41.1 } a1 d41.2.2.1 bx43) (by decide) (by decide) ⟨(by first | rfl | (simp only [go_sem, fx42_0, fx42_1, fx42_2, fx42_5] <;> rfl)), (by first | rfl | (simp only [go_sem, fx42_0, fx42_1, fx42_2, fx42_5] <;> rfl)), (by first | rfl | (simp only [go_sem, fx42_0, fx42_1, fx42_2, fx42_5] <;> rfl)), (by first | rfl | (simp only [go_sem, fx42_0, fx42_1, fx42_2, fx42_5] <;> rfl)), (by first | rfl | (simp only [go_sem, fx42_0, fx42_1, fx42_2, fx42_5] <;> rfl)), (by first | rfl | (simp only [go_sem, fx42_0, fx42_1, fx42_2, fx42_5] <;> rfl)), trivial⟩ (by first | rfl | (simp only [go_sem, fx42_0, fx42_1, fx42_2, fx42_5] <;> rfl)) ?_; try dsimp only); (try refine av ?_); (try simp only [go_sem, fx42_0, fx42_1, fx42_2, fx42_5, lc, ln]); refine qU u ?_; clear u U; refine bR (b := (!x43.1)) rfl (fun h6 => ?_) (fun h6 => ?_)
     ·
      have hl4 := cT hl4 h6; refine ac [0,1,5,6,7] fun tz U u => ?_; obtain ⟨x44, bx44, hl4⟩ := bnd hl4; obtain ⟨fx44_0, fx44_1, fx44_2, fx44_3⟩ := cz bx44; (have fx44_5 : ((d41.2.2.2.1 : Int) < ((d41.1.length : Nat) : Int)) = True := by first | exact fx44_1 | (simp [List.length_modify, List.length_set]; omega)); have gs7 : ((d41.2.2.2.1).toNat * 44 + 44 ≤ d41.1.length * 44) = True := eq_true (by (try simp only [List.length_modify, List.length_set]); omega); have gm8 : (d41.1.set ((d41.2.2.2.1).toNat) x42)[(d41.2.2.2.1).toNat]? = some x42 := ED _ fx44_2; (try simp only [go_sem, fx42_0, fx42_1, fx42_2, fx42_5, fx44_0, fx44_1, fx44_2, fx44_5, gs7, gm8]); refine qU u ?_; clear u U; refine bI [0,1,5,6] fun tz U u => ?_; (try simp only [go_sem, gm8, fx44_0, fx44_1, fx44_2, fx44_5]); refine u _ ?_; clear u U; refine iF ?_; refine et ?_; refine bI [0,1,5,6] fun tz U u => ?_; (try simp only [go_sem, gm8, fx44_0, fx44_1, fx44_2, fx44_5]); refine u _ ?_; clear u U; refine jw ?_; exact ⟨n3, ((d41.1.set ((d41.2.2.2.1).toNat) x42), { d41.2.1 with Out := d41.1 }, x43.2, IntKind.wrap .i64 (d41.2.2.2.1 + 1), IntKind.wrap .i64 (d41.2.2.2.2 + 1)), rfl, hl4, (by refine Wk.canonD [] [] [some 0, some 1, some 2, some 3, some 4, some 20] rfl trivial rfl (aw 5 (aw 4 (aw 3 (aw 2 (aw 1 (aw 0 bv rfl qM rfl (TmL.of_eq qL (ai _))) rfl qM rfl (tc (Tm.clo tn (tc tp (tc tp tn))) tn)) rfl qM rfl (tc tr tn)) rfl qM rfl (ak (by rfl) tr)) rfl qM rfl (tc tv tn)) rfl qM rfl (TmL.of_eq qL (ae _))) (tA 6 (tA 5 (tA 1 (tA 0 aO tr) (Tm.clo tn (tc tp (tc tp tn)))) tv) tv); all_goals exact qN)⟩
     ·
      have hl4 := cF hl4 h6; refine de ?_; refine iF ?_; refine et ?_; refine bI [0,1,5,6] fun tz U u => ?_; (try simp only [go_sem, fx42_0, fx42_1, fx42_2, fx42_5]); refine u _ ?_; clear u U; refine jw ?_; exact ⟨n3, (d41.1, { d41.2.1 with Out := d41.1 }, x43.2, d41.2.2.2.1, IntKind.wrap .i64 (d41.2.2.2.2 + 1)), rfl, hl4, (by refine Wk.canonD [] [] [some 0, some 1, some 2, some 3, some 4, some 20] rfl trivial rfl (aw 5 (aw 4 (aw 3 (aw 2 (aw 1 (aw 0 bv rfl qM rfl (TmL.of_eq qL (ai _))) rfl qM rfl (tc (Tm.clo tn (tc tp (tc tp tn))) tn)) rfl qM rfl (tc tr tn)) rfl qM rfl (ak (by rfl) tr)) rfl qM rfl (tc tv tn)) rfl qM rfl (TmL.of_eq qL (ae _))) (tA 6 (tA 5 (tA 1 (tA 0 aO tr) (Tm.clo tn (tc tp (tc tp tn)))) tv) tv); all_goals exact qN)⟩
    ·
     have hl4 := cF hl4 h5; refine cL ?_; refine kW ?_; refine jX ?_; refine gc ?_; obtain rfl := aq hl4; exact ⟨_, rfl, (by refine Wk.canonD [] [] [some 0, some 1, some 2, some 3, some 4, some 5] rfl trivial rfl (aw 5 (aw 4 (aw 3 (aw 2 (aw 1 (aw 0 bv rfl qM rfl (TmL.of_eq qL (ai _))) rfl qM rfl (tc (Tm.clo tn (tc tp (tc tp tn))) tn)) rfl qM rfl (tc tr tn)) rfl qM rfl (ak (by rfl) tr)) rfl qM rfl (tc tv tn)) rfl qM rfl (TmL.of_eq qL (ae _))) (tA 5 (tA 0 aO tr) tv); all_goals exact qN)⟩
  ·
   rintro _ rfl; clear hi2; unfold dC; refine ac [0,5] fun tz U u => ?_; obtain ⟨x45, bx45, h0⟩ := bnd h0; have bx45 := bW bx45; simp only [Bool.and_eq_true, decide_eq_true_eq] at bx45; obtain ⟨gx45_0, gx45_1⟩ := bx45; (have g9 : (((d40.1.length : Nat) : Int) - d40.2.1).toNat = d40.1.length - (d40.2.1).toNat := by omega); have gs10 : ((d40.2.1).toNat * 44 + (d40.1.length - (d40.2.1).toNat) * 44 ≤ d40.1.length * 44) = True := eq_true (by omega); (try simp only [go_sem, gx45_0, gx45_1, g9, gs10]); have ht : cH (List.flatMap ah d40.1) ((d40.2.1).toNat * 44) (rep (d40.1.length - (d40.2.1).toNat) (br ax.z cM)) = (List.flatMap ah (List.take ((d40.2.1).toNat) d40.1)) ++ _ := vC c4 _ _ _ (by rw [dK]; exact of_eq_true gs10); refine u _ _ (Wk.trim 0 ?_ ht) ?_
   ·
    simp only [eI, Nat.reduceEqDiff, reduceIte, if_true, if_false] <;> rfl
   clear u U ht; refine ac [0,5] fun tz U u => ?_; obtain ⟨x46, bx46, h0⟩ := bnd h0; have bx46 := bW bx46; simp only [Bool.and_eq_true, decide_eq_true_eq] at bx46; obtain ⟨gx46_0, gx46_1⟩ := bx46; (try simp only [go_sem, gx46_0, gx46_1, Int.sub_zero]); refine qU u ?_; clear u U; refine aS ?_; obtain rfl := aq h0; refine aL ?_; refine aC E7 (rfl) ?_; refine dn.mk [] [some 0, some 1, some 2, some 3, some 4, some 5] rfl (aX qM rfl (TmL.of_eq qL (ai _)) (aX qM rfl (tc (Tm.clo tn (tc tp (tc tp tn))) tn) (aX qM rfl (tc tr tn) (aX qM rfl (ak (by rfl) (Tm.unk _)) (aX qM rfl (tc tv tn) (aX qM rfl (TmL.of_eq qL (ae _)) er)))))) tr; (all_goals exact qN)
theorem tH (a0 : Sender) (a1 : Int) {r : (List Int × Sender × List ax)} (h0 : jV a0 a1 = some r) : cQ K 46 3 (fun q => [(.ptr (q 0) 0), (.clo 47 [] [(.ptr (q 0) 0), (.ptr (q 1) 0)])]) [(fun q => (aA a0 (.ref (q 2) 0 a0.Out.length 44))), (fun q => [(vi a1)]), (fun q => (List.flatMap ah a0.Out))] (fun q => (.ref (q 3) 0 r.1.length 1)) [(some (fun q => (aA r.2.1 (.ref (q 2) 0 r.2.2.length 44)))), (some (fun q => [(vi a1)])), (some (fun q => (List.flatMap ah r.2.2))), (some (fun q => (List.map vi r.1)))] := by
 refine cQ.of_walkW hC (RenML.cons (aK.ptr 0 0) (RenML.cons (aK.clo RenML.nil (RenML.cons (aK.ptr 0 0) (RenML.cons (aK.ptr 1 0) RenML.nil))) RenML.nil)) (aQ (bL _ (aK.ref 2 0 _ _)) (aQ (RenML.cons rv RenML.nil) (aQ (RenML.const (ai _)) dZ))) (aJ (bL _ (aK.ref 2 0 _ _)) (aJ (RenML.cons rv RenML.nil) (aJ (RenML.const (ai _)) (aJ (RenML.const (ae _)) dg)))) (aK.ref 3 0 _ _) rfl (qB2 rfl) (show K.P.funcs[46]? = some Try.f46 from Try.func46) rfl rfl (by decide +kernel) (qB2 rfl) ?_; unfold jV at h0; refine ac [0,1] fun tz U u => ?_; (try simp only [go_sem]); refine qU u ?_; clear u U; refine ac [0,3,4] fun tz U u => ?_; obtain ⟨x39, bx39, h0⟩ := bnd h0; (try simp only [go_sem]); (refine bQ [2, 3, 4, 0, 1] (fF a0 a1 bx39) (by decide) (by decide) ⟨qG, qG, qG, qG, qG, trivial⟩ qG ?_; try dsimp only); (try refine av ?_); (try simp only [go_sem, lc, ln]); refine qU u ?_; clear u U; refine ac [4] fun tz U u => ?_; (try simp only [go_sem]); refine qU u ?_; clear u U; refine aS ?_; obtain rfl := aq h0; refine aL ?_; refine aC KD qR ?_; refine dn.mk [] [some 0, some 1, some 2, some 15] rfl (aX qM rfl (ak (by rfl) tr) (aX qM rfl (tc tv tn) (aX qM rfl (TmL.of_eq qL (ai _)) (aX qM rfl (TmL.of_eq qL (ae _)) er)))) tr; (all_goals exact qN)
def mo (x36 : (Sender × Int)) (a1 : Int) : AS :=
 { objs := (upd (upd (upd (upd (fun _ => .dead) 0 (.live (aA x36.1 (.ref 1 0 x36.1.Out.length 44)))) 1 (.live (List.flatMap ah x36.1.Out))) 2 (.live [(vi a1)])) 3 (.live (aA Sender.z cM))), next := 4, tmps := (upd (upd (upd (upd (fun _ => .unk) 2 (.ptr 0 0)) 3 (.ptr 2 0)) 5 (.ptr 3 0)) 6 (vi x36.2)) }

theorem uz (a0 : Sender) (a1 : Int) {r : ((List Int) × Sender × Int)} (h0 : fu a0 a1 = some r) : gv K 31 [(.agg (bA a0)), (vi a1)] (fun q => (.tup [(.ref (q 0) 0 r.1.length 1), (.agg (aA r.2.1 (.ref (q 1) 0 r.2.1.Out.length 44))), (vi r.2.2)])) [(List.map vi r.1), (List.flatMap ah r.2.1.Out)] := by
 refine gv.of_walkW hC (show K.P.funcs[31]? = some Try.f31 from Try.func31) rfl rfl (by decide +kernel) (qB2 rfl) ?_; unfold fu at h0; refine ac [0,1] fun tz U u => ?_; (try simp only [go_sem]); refine qU u ?_; clear u U; refine ef [2,3,5] (fun _ => rfl) fun tz => ?_; refine cx fun U u all hall => ?_; refine cA ?_; (try simp only [List.toList_toArray, List.map_cons, List.map_nil, List.size_toArray, List.length_cons, List.length_nil, Nat.zero_add]); (try simp only [Nat.reduceAdd]); obtain ⟨x35, bx35, h0⟩ := bnd h0; (iterate 3 ((try simp only [go_sem, -Nat.reduceAdd]); try simp only [Nat.reduceAdd])); (refine fk (cy a1 0 1099511627776 bx35) ?_; try dsimp only); (try refine cA ?_); obtain ⟨x36, bx36, h0⟩ := bnd h0; (iterate 3 ((try simp only [go_sem, -Nat.reduceAdd]); try simp only [Nat.reduceAdd])); (refine o6 (mi a0 x35 bx36 _) ?_; try dsimp only); (try refine cA ?_); (iterate 3 ((try simp only [go_sem, -Nat.reduceAdd]); try simp only [Nat.reduceAdd])); refine And.intro ?_ (u _ (mo x36 a1) (by refine Wk.canonD [] [] [some 0, some 8, some 1, some 3] rfl trivial rfl (aw 3 (aw 2 (aw 1 (aw 0 bv rfl qM rfl (ak (by rfl) tr)) rfl qM rfl (TmL.of_eq qL (ai _))) rfl qM rfl (tc tv tn)) rfl qM rfl (ak (by rfl) tv)) (tA 6 (tA 5 (tA 3 (tA 2 aO tp) tp) tp) tv); all_goals exact qN) ?_)
 ·
  subst hall; clear u U; exact qP
 ·
  clear u U hall all; unfold mo; refine ap ?_; refine ac [2,3,5,6] fun tz U u => ?_; (try simp only [go_sem]); refine qU u ?_; clear u U; refine aT (b := (x36.2 != 0)) rfl (fun h1 => ?_) (fun h1 => ?_)
  ·
   have h0 := cT h0 h1; refine ap ?_; refine ac [5,6] fun tz U u => ?_; (try simp only [go_sem]); refine qU u ?_; clear u U; refine bH ?_; obtain rfl := aq h0; refine aL ?_; refine aC Ky qR ?_; refine Res.mk [] [none, none] rfl (c5 (c5 cZ)) (Tm.tup (tc tT (tc (Tm.agg (ak (by rfl) tT)) (tc tv tn))))
  ·
   have h0 := cF h0 h1; refine aV ?_; refine ac [2,3,5] fun tz U u => ?_; obtain ⟨x37, bx37, h0⟩ := bnd h0; (try simp only [go_sem]); (refine bQ [0, 2, 1] (tH x36.1 a1 bx37) (by decide) (by decide) ⟨qG, qG, qG, trivial⟩ qG ?_; try dsimp only); (try refine av ?_); (try simp only [go_sem, lc, ln]); refine qU u ?_; clear u U; refine ac [2,4,5] fun tz U u => ?_; refine bq 3 qS qS (by rfl) fun V v => ?_; refine av ?_; (try simp only [go_sem]); refine v _ ?_; clear v V; refine bK 4 [(2, (.ptr 0 0)), (4, (.ref 9 0 x37.1.length 1)), (5, (.ptr 3 0)), (26, (vb (x37.2.1.Bar || (decide (0 < ((x37.1.length : Nat) : Int))))))] qS qS (by rfl) (fun V v => ?_) fun tz => ?_
   ·
    refine av ?_; rcases bE x37.2.1.Bar with h2 | h2
    ·
     (try simp only [go_sem, h2]); exact v _ ⟨(by first | rfl | (simp only [h2]; done)), rfl, rfl, rfl, (qB h2), trivial⟩
    ·
     (try simp only [go_sem, h2]); exact v _ ⟨(by first | rfl | (simp only [h2]; done)), rfl, rfl, rfl, (qB h2), trivial⟩
   ·
    refine av ?_; (try simp only [go_sem]); refine qU u ?_; clear u U; refine ef [2,4,5] (fun _ => rfl) fun tz => ?_; refine cx fun U u all hall => ?_; refine cA ?_; (try simp only [List.toList_toArray, List.map_cons, List.map_nil, List.size_toArray, List.length_cons, List.length_nil, Nat.zero_add]); (try simp only [Nat.reduceAdd]); (iterate 3 ((try simp only [go_sem, -Nat.reduceAdd]); try simp only [Nat.reduceAdd])); refine And.intro ?_ (u _ _ (Wk.refl _ _ _) ?_)
    ·
     subst hall; clear u U; exact qP
    ·
     clear u U hall all; refine aS ?_; obtain rfl := aq h0; refine aL ?_; refine aC Ky qR ?_; refine Res.mk [] [some 9, some 1] rfl (fB qM rfl (TmL.of_eq qL (ae _)) (fB qM rfl (TmL.of_eq qL (ai _)) cZ)) (Tm.tup (tc tr (tc (Tm.agg (ak (by rfl) tr)) (tc tv tn)))); (all_goals exact qN)


theorem up (a0 : Sender) (a1 : Int) {r : ((List Int) × Sender × Int)} (h0 : fu a0 a1 = some r) : SndP K 31 [(.agg (bA a0)), (vi a1)] (.tup [(l3 r.1), (.agg (bA r.2.1)), (vi r.2.2)]) :=
 lK.pure (rM (uz a0 a1 h0) (aK.tup (RenML.cons (aK.ref 0 0 _ _) (RenML.cons (aK.agg (bL _ (aK.ref 1 0 _ _))) (RenML.cons rv RenML.nil)))) (bw (ae _) (bw (ai _) cK)) (ag (aB.agg (aY _)) (ag cv aG))) (aB.tup (ag (dA _) (ag (aB.agg (aY _)) (ag cv aG)))) (ag (aB.agg (aY _)) (ag cv aG)) qV
theorem jO (a0 : (List Bool)) {r : (Bool × List Bool)} (h0 : fm a0 = some r) : cQ K 17 1 (fun q => [(.ptr (q 0) 0)]) [(fun q => [(.imm (List.map vb a0) a0.length)])] (fun q => (vb r.1)) [(some (fun q => [(.imm (List.map vb r.2) r.2.length)]))] := by
 refine cQ.of_walkW hC (RenML.cons (aK.ptr 0 0) RenML.nil) (aQ (RenML.cons (rI (aU _)) RenML.nil) dZ) (aJ (RenML.cons (rI (aU _)) RenML.nil) dg) rv rfl (qB2 rfl) (show K.P.funcs[17]? = some Try.f17 from Try.func17) rfl rfl (by decide +kernel) (qB2 rfl) ?_; unfold fm at h0; refine ac [0] fun tz U u => ?_; (try simp only [go_sem]); refine qU u ?_; clear u U; refine ap ?_; refine ac [0] fun tz U u => ?_; (try simp only [go_sem]); refine qU u ?_; clear u U; refine aT (b := ((a0.length : Int) == 0)) rfl (fun h1 => ?_) (fun h1 => ?_)
 ·
  have h0 := cT h0 h1; refine ap ?_; refine ac [] fun tz U u => ?_; (try simp only [go_sem]); refine qU u ?_; clear u U; refine bH ?_; obtain rfl := aq h0; refine aL ?_; refine aC Kb (rfl) ?_; refine dn.mk [] [some 0] rfl (aX qM rfl (tc (tI (aU _)) tn) er) tv
 ·
  have h0 := cF h0 h1; refine aV ?_; refine ac [0] fun tz U u => ?_; obtain ⟨x42, bx42, h0⟩ := bnd h0; obtain ⟨fx42_0, fx42_1, fx42_2, fx42_3⟩ := cz bx42; simp only [Int.reduceToNat] at fx42_2 fx42_3; (try simp only [go_sem, fx42_0, fx42_1, fx42_2]); refine qU u ?_; clear u U; refine ac [0,2] fun tz U u => ?_; obtain ⟨x43, bx43, h0⟩ := bnd h0; have bx43 := bW bx43; simp only [Bool.and_eq_true, decide_eq_true_eq] at bx43; have gx43_0 := bx43; (have g2 : ((a0.length : Int) - 1).toNat = (List.drop 1 a0).length := by simp only [List.length_take, List.length_drop]; omega); (try simp only [Int.sub_zero] at g2); (try simp only [go_sem, fx42_0, fx42_1, fx42_2, gx43_0, g2, Int.sub_zero]); refine qU u ?_; clear u U; refine ac [2] fun tz U u => ?_; (try simp only [go_sem, fx42_0, fx42_1, fx42_2]); refine qU u ?_; clear u U; refine aS ?_; obtain rfl := aq h0; refine aL ?_; refine aC Kb (rfl) ?_; refine dn.mk [] [some 0] rfl (aX qM rfl (tc (tI (aU _)) tn) er) tv
theorem wz (a0 : Sender) {r : Int} (h0 : gN a0 = some r) : SndP K 32 [(.agg (bA a0))] (vi r) := by
 refine SndP.of_walkW hC cv (ag (aB.agg (aY _)) aG) (show K.P.funcs[32]? = some Try.f32 from Try.func32) rfl rfl (by decide +kernel) (qB2 rfl) ?_; unfold gN at h0; refine ac [0] fun tz U u => ?_; (try simp only [go_sem]); refine qU u ?_; clear u U; refine ap ?_; refine ac [1] fun tz U u => ?_; obtain ⟨x45, bx45, h0⟩ := bnd h0; (try simp only [go_sem]); (refine aZ (fx a0 bx45) ?_; try dsimp only); (try refine av ?_); (try simp only [go_sem]); refine qU u ?_; clear u U; refine aT (b := (x45 != 0)) rfl (fun h1 => ?_) (fun h1 => ?_)
 ·
  have h0 := cT h0 h1; refine ap ?_; refine ac [] fun tz U u => ?_; (try simp only [go_sem]); refine qU u ?_; clear u U; refine bH ?_; obtain rfl := aq h0; refine aL ?_; refine aC J8 (rfl) ?_; exact qF
 ·
  have h0 := cF h0 h1; refine aV ?_; refine ac [1] fun tz U u => ?_; obtain ⟨x46, bx46, h0⟩ := bnd h0; (try simp only [go_sem]); (refine aZ (lD a0 bx46) ?_; try dsimp only); (try refine av ?_); (try simp only [go_sem]); refine qU u ?_; clear u U; refine aS ?_; obtain rfl := aq h0; refine aL ?_; refine aC J8 (rfl) ?_; exact qF
def ml (x49 : (Sender × Int)) : AS :=
 { objs := (upd (upd (upd (fun _ => .dead) 0 (.live (aA x49.1 (.ref 1 0 x49.1.Out.length 44)))) 1 (.live (List.flatMap ah x49.1.Out))) 2 (.live (aA Sender.z cM))), next := 3, tmps := (upd (upd (upd (fun _ => .unk) 1 (.ptr 0 0)) 2 (.ptr 2 0)) 4 (vi x49.2)) }

theorem ue (a0 : Sender) {r : (Sender × Int)} (h0 : eP a0 = some r) : gv K 33 [(.agg (bA a0))] (fun q => (.tup [(.agg (aA r.1 (.ref (q 0) 0 r.1.Out.length 44))), (vi r.2)])) [(List.flatMap ah r.1.Out)] := by
 refine gv.of_walkW hC (show K.P.funcs[33]? = some Try.f33 from Try.func33) rfl rfl (by decide +kernel) (qB2 rfl) ?_; unfold eP at h0; refine ac [0] fun tz U u => ?_; (try simp only [go_sem]); refine qU u ?_; clear u U; refine ac [1,2] fun tz U u => ?_; obtain ⟨x49, bx49, h0⟩ := bnd h0; (try simp only [go_sem]); (refine lO (lZ a0 true bx49) ?_; try dsimp only); (try refine av ?_); (try simp only [go_sem]); refine u _ (ml x49) (by refine Wk.canonD [] [] [some 0, some 10, some 1] rfl trivial rfl (aw 2 (aw 1 (aw 0 bv rfl qM rfl (ak (by rfl) tr)) rfl qM rfl (TmL.of_eq qL (ai _))) rfl qM rfl (ak (by rfl) tv)) (tA 4 (tA 2 (tA 1 aO tp) tp) tv); all_goals exact qN) ?_; clear u U; unfold ml; refine ap ?_; refine ac [1,2,4] fun tz U u => ?_; (try simp only [go_sem]); refine qU u ?_; clear u U; refine aT (b := (x49.2 != 0)) rfl (fun h1 => ?_) (fun h1 => ?_)
 ·
  have h0 := cT h0 h1; refine ap ?_; refine ac [2,4] fun tz U u => ?_; (try simp only [go_sem]); refine qU u ?_; clear u U; refine bH ?_; obtain rfl := aq h0; refine aL ?_; refine aC Jh qR ?_; refine Res.mk [] [none] rfl (c5 cZ) (Tm.tup (tc (Tm.agg (ak (by rfl) tT)) (tc tv tn)))
 ·
  have h0 := cF h0 h1; refine aV ?_; refine ap ?_; refine ac [1,2] fun tz U u => ?_; (try simp only [go_sem]); refine qU u ?_; clear u U; refine aT (b := (!x49.1.Bar)) rfl (fun h2 => ?_) (fun h2 => ?_)
  ·
   have h0 := cT h0 h2; refine ap ?_; refine ac [2] fun tz U u => ?_; (try simp only [go_sem]); refine qU u ?_; clear u U; refine bH ?_; obtain rfl := aq h0; refine aL ?_; refine aC Jh qR ?_; refine Res.mk [] [none] rfl (c5 cZ) (Tm.tup (tc (Tm.agg (ak (by rfl) tT)) (tc tv tn)))
  ·
   have h0 := cF h0 h2; refine aV ?_; refine ac [1,2] fun tz U u => ?_; (try simp only [go_sem]); refine qU u ?_; clear u U; refine ac [1,2] fun tz U u => ?_; (try simp only [go_sem]); refine qU u ?_; clear u U; refine aS ?_; obtain rfl := aq h0; refine aL ?_; refine aC Jh qR ?_; refine Res.mk [] [some 1] rfl (fB qM rfl (TmL.of_eq qL (ai _)) cZ) (Tm.tup (tc (Tm.agg (ak (by rfl) tr)) (tc tv tn))); (all_goals exact qN)


theorem t9 (a0 : Sender) {r : (Sender × Int)} (h0 : eP a0 = some r) : SndP K 33 [(.agg (bA a0))] (.tup [(.agg (bA r.1)), (vi r.2)]) :=
 lK.pure (rM (ue a0 h0) (aK.tup (RenML.cons (aK.agg (bL _ (aK.ref 0 0 _ _))) (RenML.cons rv RenML.nil))) (bw (ai _) cK) (ag (aB.agg (aY _)) aG)) (aB.tup (ag (aB.agg (aY _)) (ag cv aG))) (ag (aB.agg (aY _)) aG) qV
def nH (a0 : Sender) (a1 : Frame) (a2 : Int) : AS :=
 { objs := (upd (upd (upd (upd (fun _ => .dead) 0 (.live (aA a0 (.imm (List.flatMap ah a0.Out) a0.Out.length)))) 1 (.live (bu a1 (.imm (List.map vu a1.Body) a1.Body.length)))) 2 (.live (bu Frame.z cM))) 3 (.live (aA Sender.z cM))), next := 4, tmps := (upd (upd (upd (upd (upd (fun _ => .unk) 2 (vi a2)) 3 (.ptr 0 0)) 4 (.ptr 1 0)) 6 (.ptr 2 0)) 7 (.ptr 3 0)) }

def nQ (x52 : (Sender × Int)) (a1 : Frame) (a2 : Int) (x56 : Int) : AS :=
 { objs := (upd (upd (upd (upd (upd (fun _ => .dead) 0 (.live (aA x52.1 (.ref 1 0 x52.1.Out.length 44)))) 1 (.live (List.flatMap ah x52.1.Out))) 2 (.live (bu a1 (.imm (List.map vu a1.Body) a1.Body.length)))) 3 (.live (bu Frame.z cM))) 4 (.live (aA Sender.z cM))), next := 5, tmps := (upd (upd (upd (upd (upd (upd (fun _ => .unk) 2 (vi a2)) 3 (.ptr 0 0)) 4 (.ptr 2 0)) 6 (.ptr 3 0)) 7 (.ptr 4 0)) 43 (vb (decide (x52.1.Size ≤ x56)))) }

def nT (x52 : (Sender × Int)) (x57 : Frame) (a2 : Int) : AS :=
 { objs := (upd (upd (upd (upd (upd (fun _ => .dead) 0 (.live (aA x52.1 (.ref 1 0 x52.1.Out.length 44)))) 1 (.live (List.flatMap ah x52.1.Out))) 2 (.live (bu { x57 with Head.Retry := false, Head.Seq := x52.1.Next, Head.Tid := x52.1.Tid } (.imm (List.map vu x57.Body) x57.Body.length)))) 3 (.live (bu Frame.z cM))) 4 (.live (aA Sender.z cM))), next := 5, tmps := (upd (upd (upd (upd (upd (fun _ => .unk) 2 (vi a2)) 3 (.ptr 0 0)) 4 (.ptr 2 0)) 6 (.ptr 3 0)) 7 (.ptr 4 0)) }

def nS (x52 : (Sender × Int)) (x59 : Int) (a2 : Int) (x57 : Frame) : AS :=
 { objs := (upd (upd (upd (upd (upd (fun _ => .dead) 0 (.live (aA { x52.1 with Next := x59 } (.ref 1 0 ((x52.1.Out ++ [{ ax.z with At := a2, Frame := { x57 with Head.Retry := false, Head.Seq := x52.1.Next, Head.Tid := x52.1.Tid } }]).length) 44)))) 1 (.live (List.flatMap ah (x52.1.Out ++ [{ ax.z with At := a2, Frame := { x57 with Head.Retry := false, Head.Seq := x52.1.Next, Head.Tid := x52.1.Tid } }])))) 2 (.live (bu { x57 with Head.Retry := false, Head.Seq := x52.1.Next, Head.Tid := x52.1.Tid } (.imm (List.map vu x57.Body) x57.Body.length)))) 3 (.live (bu Frame.z cM))) 4 (.live (aA Sender.z cM))), next := 5, tmps := (upd (upd (upd (upd (fun _ => .unk) 3 (.ptr 0 0)) 4 (.ptr 2 0)) 6 (.ptr 3 0)) 7 (.ptr 4 0)) }

theorem wk (a0 : Sender) (a1 : Frame) (a2 : Int) {r : (Frame × Sender × Int)} (h0 : fM a0 a1 a2 = some r) : gv K 49 [(.agg (bA a0)), (.agg (bg a1)), (vi a2)] (fun q => (.tup [(.agg (bg r.1)), (.agg (aA r.2.1 (.ref (q 0) 0 r.2.1.Out.length 44))), (vi r.2.2)])) [(List.flatMap ah r.2.1.Out)] := by
 refine gv.of_walkW hC (show K.P.funcs[49]? = some Try.f49 from Try.func49) rfl rfl (by decide +kernel) (qB2 rfl) ?_; unfold fM at h0; refine ac [0,1,2] fun tz U u => ?_; (try simp only [go_sem]); refine u _ (nH a0 a1 a2) (Wk.canonD [] [] [some 0, some 1, some 2, some 3] rfl trivial rfl (aw 3 (aw 2 (aw 1 (aw 0 bv rfl qM rfl (ak (by rfl) (tI (ai _)))) rfl qM rfl (db (by rfl) (tI (fD _)))) rfl qM rfl (db (by rfl) tv)) rfl qM rfl (ak (by rfl) tv)) (tA 7 (tA 6 (tA 4 (tA 3 (tA 2 aO tv) tp) tp) tp) tp)) ?_; clear u U; unfold nH; refine ef [2,3,4,6,7] (fun _ => rfl) fun tz => ?_; refine cx fun U u all hall => ?_; refine cA ?_; (try simp only [List.toList_toArray, List.map_cons, List.map_nil, List.size_toArray, List.length_cons, List.length_nil, Nat.zero_add]); (try simp only [Nat.reduceAdd]); obtain ⟨x51, bx51, h0⟩ := bnd h0; (iterate 3 ((try simp only [go_sem, -Nat.reduceAdd]); try simp only [Nat.reduceAdd])); (refine fk (cy a2 0 1099511627776 bx51) ?_; try dsimp only); (try refine cA ?_); obtain ⟨x52, bx52, h0⟩ := bnd h0; (iterate 3 ((try simp only [go_sem, -Nat.reduceAdd]); try simp only [Nat.reduceAdd])); (refine o6 (mi a0 x51 bx52 _) ?_; try dsimp only); (try refine cA ?_); (iterate 3 ((try simp only [go_sem, -Nat.reduceAdd]); try simp only [Nat.reduceAdd])); refine And.intro ?_ (u _ _ (Wk.refl _ _ _) ?_)
 ·
  subst hall; clear u U; exact qP
 ·
  clear u U hall all; refine ac [2,3,4,6,7,9] fun tz U u => ?_; (try simp only [go_sem]); refine qU u ?_; clear u U; refine cC ?_; refine ac [2,3,4,6,7,9,10] fun tz U u => ?_; (try simp only [go_sem]); refine qU u ?_; clear u U; refine bR (b := (x52.2 != 0)) rfl (fun h1 => ?_) (fun h1 => ?_)
  ·
   have h0 := cT h0 h1; refine ac [6,7,9] fun tz U u => ?_; (try simp only [go_sem]); refine qU u ?_; clear u U; refine aS ?_; refine jk ?_; refine jS ?_; obtain rfl := aq h0; refine aL ?_; refine aC EI qR ?_; refine Res.mk [] [none] rfl (c5 cZ) (Tm.tup (tc (Tm.agg (db (by rfl) (Tm.nil))) (tc (Tm.agg (ak (by rfl) tT)) (tc tv tn))))
  ·
   have h0 := cF h0 h1; refine ac [2,3,4,6,7,10] fun tz U u => ?_; refine bq 3 qS qS (by rfl) fun V v => ?_; refine av ?_; (try simp only [go_sem]); refine v _ ?_; clear v V; obtain ⟨x54, hvh2, h0⟩ := bnd h0; refine bK 10 [(2, (vi a2)), (3, (.ptr 0 0)), (4, (.ptr 1 0)), (6, (.ptr 2 0)), (7, (.ptr 3 0)), (40, (vb x54))] qS qS (by rfl) (fun V v => ?_) fun tz => ?_
   ·
    refine av ?_; rcases bE (decide (0 < ((x52.1.Out.length : Nat) : Int))) with h2 | h2
    ·
     have hvh2 := cT hvh2 h2; obtain ⟨x53, bx53, hvh2⟩ := bnd hvh2; obtain ⟨fx53_0, fx53_1, fx53_2, fx53_3⟩ := cz bx53; (have fx53_5 : ((IntKind.wrap .i64 (((x52.1.Out.length : Nat) : Int) - 1) : Int) < ((x52.1.Out.length : Nat) : Int)) = True := by first | exact fx53_1 | (simp [List.length_modify, List.length_set]; omega)); (try simp only [go_sem, h2, fx53_0, fx53_1, fx53_2, fx53_5]); obtain rfl := aq hvh2; exact v _ ⟨rfl, rfl, rfl, rfl, rfl, rfl, (qB h2), trivial⟩
    ·
     have hvh2 := cF hvh2 h2; (try simp only [go_sem, h2]); obtain rfl := aq hvh2; exact v _ ⟨rfl, rfl, rfl, rfl, rfl, rfl, (qB h2), trivial⟩
   ·
    refine av ?_; (try simp only [go_sem]); refine qU u ?_; clear u U; refine bR (b := x54) rfl (fun h3 => ?_) (fun h3 => ?_)
    ·
     have h0 := cT h0 h3; refine ac [6,7] fun tz U u => ?_; (try simp only [go_sem]); refine qU u ?_; clear u U; refine aS ?_; refine jk ?_; refine jS ?_; obtain rfl := aq h0; refine aL ?_; refine aC EI qR ?_; refine Res.mk [] [none] rfl (c5 cZ) (Tm.tup (tc (Tm.agg (db (by rfl) (Tm.nil))) (tc (Tm.agg (ak (by rfl) tT)) (tc tv tn))))
    ·
     have h0 := cF h0 h3; refine ac [2,3,4,6,7] fun tz U u => ?_; obtain ⟨x55, bx55, h0⟩ := bnd h0; (try simp only [go_sem]); (refine lT (by first | (simp only [go_sem, fz] <;> rfl) | (simp only [go_sem, fz, List.length_set, eV, gF, cond_true, cond_false] <;> rfl)) (lD x52.1 bx55) (kT.v _) ?_; try dsimp only); (try refine av ?_); obtain ⟨x56, bx56, h0⟩ := bnd h0; (try simp only [go_sem]); (refine aZ (cN x55 x52.1.Next bx56) ?_; try dsimp only); (try refine av ?_); (try simp only [go_sem]); refine u _ (nQ x52 a1 a2 x56) (by refine Wk.canonD [] [] [some 0, some 7, some 1, some 2, some 3] rfl trivial rfl (aw 4 (aw 3 (aw 2 (aw 1 (aw 0 bv rfl qM rfl (ak (by rfl) tr)) rfl qM rfl (TmL.of_eq qL (ai _))) rfl qM rfl (db (by rfl) (tI (fD _)))) rfl qM rfl (db (by rfl) tv)) rfl qM rfl (ak (by rfl) tv)) (tA 43 (tA 7 (tA 6 (tA 4 (tA 3 (tA 2 aO tv) tp) tp) tp) tp) tv); all_goals exact qN) ?_; clear u U; unfold nQ; refine bR (b := (decide (x52.1.Size ≤ x56))) rfl (fun h4 => ?_) (fun h4 => ?_)
     ·
      have h0 := cT h0 h4; refine ac [6,7] fun tz U u => ?_; (try simp only [go_sem]); refine qU u ?_; clear u U; refine aS ?_; refine jk ?_; refine jS ?_; obtain rfl := aq h0; refine aL ?_; refine aC EI qR ?_; refine Res.mk [] [none] rfl (c5 cZ) (Tm.tup (tc (Tm.agg (db (by rfl) (Tm.nil))) (tc (Tm.agg (ak (by rfl) tT)) (tc tv tn))))
     ·
      have h0 := cF h0 h4; refine de ?_; refine iF ?_; refine et ?_; refine ac [2,3,4,6,7] fun tz U u => ?_; obtain ⟨x57, bx57, h0⟩ := bnd h0; (try simp only [go_sem]); (refine aZ (gn a1 bx57) ?_; try dsimp only); (try refine av ?_); (try simp only [go_sem]); refine qU u ?_; clear u U; refine ef [2,3,4,6,7] (fun _ => rfl) fun tz => ?_; refine cx fun U u all hall => ?_; refine cA ?_; (try simp only [List.toList_toArray, List.map_cons, List.map_nil, List.size_toArray, List.length_cons, List.length_nil, Nat.zero_add]); (try simp only [Nat.reduceAdd]); (iterate 3 ((try simp only [go_sem, -Nat.reduceAdd]); try simp only [Nat.reduceAdd])); refine And.intro ?_ (u _ (nT x52 x57 a2) (by refine Wk.canonD [] [] [some 0, some 1, some 2, some 3, some 4] rfl trivial rfl (aw 4 (aw 3 (aw 2 (aw 1 (aw 0 bv rfl qM rfl (ak (by rfl) tr)) rfl qM rfl (TmL.of_eq qL (ai _))) rfl qM rfl (db (by rfl) (tI (fD _)))) rfl qM rfl (db (by rfl) tv)) rfl qM rfl (ak (by rfl) tv)) (tA 7 (tA 6 (tA 4 (tA 3 (tA 2 aO tv) tp) tp) tp) tp); all_goals exact qN) ?_)
      ·
       subst hall; clear u U; exact qP
      ·
       clear u U hall all; unfold nT; refine ac [2,3,4,6,7] fun tz U u => ?_; obtain ⟨x58, bx58, h0⟩ := bnd h0; have bx58 := bW bx58; simp only [Bool.and_eq_true, decide_eq_true_eq] at bx58; have gx58_0 := bx58; (try simp only [go_sem, gx58_0]); refine qU u ?_; clear u U; refine ac [3,4,6,7] fun tz U u => ?_; obtain ⟨x59, bx59, h0⟩ := bnd h0; (try simp only [go_sem]); (refine aZ (jb x52.1.Next 1 bx59) ?_; try dsimp only); (try refine av ?_); (try simp only [go_sem]); refine u _ (nS x52 x59 a2 x57) (by refine Wk.canonD [] [] [some 0, some 11, some 2, some 3, some 4] rfl trivial rfl (aw 4 (aw 3 (aw 2 (aw 1 (aw 0 bv rfl qM rfl (ak (by rfl) tr)) rfl qM rfl (TmL.of_eq qL (ai _))) rfl qM rfl (db (by rfl) (tI (fD _)))) rfl qM rfl (db (by rfl) tv)) rfl qM rfl (ak (by rfl) tv)) (tA 7 (tA 6 (tA 4 (tA 3 aO tp) tp) tp) tp); all_goals exact qN) ?_; clear u U; unfold nS; refine ef [3,4,6,7] (fun _ => rfl) fun tz => ?_; refine cx fun U u all hall => ?_; refine cA ?_; (try simp only [List.toList_toArray, List.map_cons, List.map_nil, List.size_toArray, List.length_cons, List.length_nil, Nat.zero_add]); (try simp only [Nat.reduceAdd]); obtain ⟨x60, bx60, h0⟩ := bnd h0; (iterate 3 ((try simp only [go_sem, -Nat.reduceAdd]); try simp only [Nat.reduceAdd])); (refine fk (gn { x57 with Head.Retry := false, Head.Seq := x52.1.Next, Head.Tid := x52.1.Tid } bx60) ?_; try dsimp only); (try refine cA ?_); (iterate 3 ((try simp only [go_sem, -Nat.reduceAdd]); try simp only [Nat.reduceAdd])); refine And.intro ?_ (u _ _ (Wk.refl _ _ _) ?_)
       ·
        subst hall; clear u U; exact qP
       ·
        clear u U hall all; refine aS ?_; obtain rfl := aq h0; refine aL ?_; refine aC EI qR ?_; refine Res.mk [] [some 1] rfl (fB qM rfl (TmL.of_eq qL (ai _)) cZ) (Tm.tup (tc (Tm.agg (db (by rfl) (tI (fD _)))) (tc (Tm.agg (ak (by rfl) tr)) (tc tv tn)))); (all_goals exact qN)


theorem vQ (a0 : Sender) (a1 : Frame) (a2 : Int) {r : (Frame × Sender × Int)} (h0 : fM a0 a1 a2 = some r) : SndP K 49 [(.agg (bA a0)), (.agg (bg a1)), (vi a2)] (.tup [(.agg (bg r.1)), (.agg (bA r.2.1)), (vi r.2.2)]) :=
 lK.pure (rM (wk a0 a1 a2 h0) (aK.tup (RenML.cons (aK.const (aB.agg (dJ _))) (RenML.cons (aK.agg (bL _ (aK.ref 0 0 _ _))) (RenML.cons rv RenML.nil)))) (bw (ai _) cK) (ag (aB.agg (aY _)) (ag (aB.agg (dJ _)) (ag cv aG)))) (aB.tup (ag (aB.agg (dJ _)) (ag (aB.agg (aY _)) (ag cv aG)))) (ag (aB.agg (aY _)) (ag (aB.agg (dJ _)) (ag cv aG))) qV
def il (a1 : aa) (a2 : (List Bool)) (d50 : aa) : AS :=
 { objs := (upd (upd (upd (upd (upd (fun _ => .dead) 0 (.live (af d50 (.imm (List.flatMap ah d50.sides.Sender.Out) d50.sides.Sender.Out.length) (.imm (List.flatMap aj d50.sides.Reorder.Held) d50.sides.Reorder.Held.length) (.clo 17 [] [(.ptr 1 0)]) (.ref 2 0 a1.out.Delivered.length 1) (.ref 3 0 a1.out.Acked.length 1) (.ref 4 0 a1.out.Dropped.length 1)))) 1 (.live [(.imm (List.map vb a2) a2.length)])) 2 (.live (List.map vi a1.out.Delivered))) 3 (.live (List.map vi a1.out.Acked))) 4 (.live (List.map vi a1.out.Dropped))), next := 5, tmps := (fun _ => .unk) }

def iy (a1 : aa) (a2 : (List Bool)) (a0 : Int) (d52 : aa) : AS :=
 { objs := (upd (upd (upd (upd (upd (fun _ => .dead) 0 (.live (af d52 (.imm (List.flatMap ah d52.sides.Sender.Out) d52.sides.Sender.Out.length) (.imm (List.flatMap aj d52.sides.Reorder.Held) d52.sides.Reorder.Held.length) (.clo 17 [] [(.ptr 1 0)]) (.ref 2 0 a1.out.Delivered.length 1) (.ref 3 0 a1.out.Acked.length 1) (.ref 4 0 a1.out.Dropped.length 1)))) 1 (.live [(.imm (List.map vb a2) a2.length)])) 2 (.live (List.map vi a1.out.Delivered))) 3 (.live (List.map vi a1.out.Acked))) 4 (.live (List.map vi a1.out.Dropped))), next := 5, tmps := (upd (upd (fun _ => .unk) 0 (.ptr 0 0)) 1 (vi a0)) }

def iv (d52 : aa) (a1 : aa) (a2 : (List Bool)) (x53 : (Frame × Sender × Int)) (a0 : Int) : AS :=
 { objs := (upd (upd (upd (upd (upd (upd (fun _ => .dead) 0 (.live (af d52 (.imm (List.flatMap ah d52.sides.Sender.Out) d52.sides.Sender.Out.length) (.imm (List.flatMap aj d52.sides.Reorder.Held) d52.sides.Reorder.Held.length) (.clo 17 [] [(.ptr 1 0)]) (.ref 2 0 a1.out.Delivered.length 1) (.ref 3 0 a1.out.Acked.length 1) (.ref 4 0 a1.out.Dropped.length 1)))) 1 (.live [(.imm (List.map vb a2) a2.length)])) 2 (.live (List.map vi a1.out.Delivered))) 3 (.live (List.map vi a1.out.Acked))) 4 (.live (List.map vi a1.out.Dropped))) 5 (.live (aA x53.2.1 (.imm (List.flatMap ah x53.2.1.Out) x53.2.1.Out.length)))), next := 6, tmps := (upd (upd (upd (upd (fun _ => .unk) 0 (.ptr 0 0)) 1 (vi a0)) 5 (.ptr 5 0)) 6 (vi x53.2.2)) }

theorem iq (a0 : Int) (a1 : aa) (a2 : (List Bool)) {r : aa} (h0 : cX a0 a1 a2 = some r) : cQ K 34 5 (fun q => [(.ptr (q 0) 0), (vi a0)]) [(fun q => (af a1 (.imm (List.flatMap ah a1.sides.Sender.Out) a1.sides.Sender.Out.length) (.imm (List.flatMap aj a1.sides.Reorder.Held) a1.sides.Reorder.Held.length) (.clo 17 [] [(.ptr (q 1) 0)]) (.ref (q 2) 0 a1.out.Delivered.length 1) (.ref (q 3) 0 a1.out.Acked.length 1) (.ref (q 4) 0 a1.out.Dropped.length 1))), (fun q => [(.imm (List.map vb a2) a2.length)]), (fun q => (List.map vi a1.out.Delivered)), (fun q => (List.map vi a1.out.Acked)), (fun q => (List.map vi a1.out.Dropped))] (fun q => (.tup [])) [(some (fun q => (af r (.imm (List.flatMap ah r.sides.Sender.Out) r.sides.Sender.Out.length) (.imm (List.flatMap aj r.sides.Reorder.Held) r.sides.Reorder.Held.length) (.clo 17 [] [(.ptr (q 1) 0)]) (.ref (q 2) 0 a1.out.Delivered.length 1) (.ref (q 3) 0 a1.out.Acked.length 1) (.ref (q 4) 0 a1.out.Dropped.length 1)))), (some (fun q => [(.imm (List.map vb a2) a2.length)])), (some (fun q => (List.map vi a1.out.Delivered))), (some (fun q => (List.map vi a1.out.Acked))), (some (fun q => (List.map vi a1.out.Dropped)))] := by
 refine cQ.of_walkW hC (RenML.cons (aK.ptr 0 0) (RenML.cons rv RenML.nil)) (aQ (bm _ (rI (ai _)) (rI (ay _)) (aK.clo RenML.nil (RenML.cons (aK.ptr 1 0) RenML.nil)) (aK.ref 2 0 _ _) (aK.ref 3 0 _ _) (aK.ref 4 0 _ _)) (aQ (RenML.cons (rI (aU _)) RenML.nil) (aQ (RenML.const (ae _)) (aQ (RenML.const (ae _)) (aQ (RenML.const (ae _)) dZ))))) (aJ (bm _ (rI (ai _)) (rI (ay _)) (aK.clo RenML.nil (RenML.cons (aK.ptr 1 0) RenML.nil)) (aK.ref 2 0 _ _) (aK.ref 3 0 _ _) (aK.ref 4 0 _ _)) (aJ (RenML.cons (rI (aU _)) RenML.nil) (aJ (RenML.const (ae _)) (aJ (RenML.const (ae _)) (aJ (RenML.const (ae _)) dg))))) (aK.tup RenML.nil) rfl (qB2 rfl) (show K.P.funcs[34]? = some Try.f34 from Try.func34) rfl rfl (by decide +kernel) (qB2 rfl) ?_; unfold cX at h0; obtain ⟨o51, hi1, h0⟩ := bnd h0; refine vn (fun d50 : aa => o51 = Ex.go d50) (fun d50 : aa => il a1 a2 d50) yB ?_ ?_
 ·
  refine bB ?_; refine cO (fun n (d52 : aa) => cg a0 a1 a2 n d52 = some o51) (fun d52 : aa => iy a1 a2 a0 d52) big a1 (by refine Wk.canonD [] [] [some 0, some 1, some 2, some 3, some 4] rfl trivial rfl (aw 4 (aw 3 (aw 2 (aw 1 (aw 0 bv rfl qM rfl (au (by rfl) (tI (ai _)) (tI (ay _)) (Tm.clo tn (tc tp tn)) tr tr tr)) rfl qM rfl (tc (tI (aU _)) tn)) rfl qM rfl (TmL.of_eq qL (ae _))) rfl qM rfl (TmL.of_eq qL (ae _))) rfl qM rfl (TmL.of_eq qL (ae _))) (tA 1 (tA 0 aO tp) tv); all_goals exact qN) hi1 ?_; clear hi1; rintro n d52 hl3; rcases n with _ | n2
  ·
   (rw [cg] at hl3; cases hl3)
  ·
   rw [cg] at hl3; unfold iy; refine ap ?_; refine ac [0,1] fun tz U u => ?_; refine bq 10 qS qS (by rfl) fun V v => ?_; refine av ?_; (try simp only [go_sem]); refine v _ ?_; clear v V; refine bK 6 [(0, (.ptr 0 0)), (1, (vi a0)), (22, (vb ((decide (d52.accepted < d52.many)) && (d52.err == 0))))] qS qS (by rfl) (fun V v => ?_) fun tz => ?_
   ·
    refine av ?_; rcases bE (decide (d52.accepted < d52.many)) with h4 | h4
    ·
     (try simp only [go_sem, h4]); exact v _ ⟨rfl, rfl, rfl, (qB h4), trivial⟩
    ·
     (try simp only [go_sem, h4]); exact v _ ⟨rfl, rfl, rfl, (qB h4), trivial⟩
   ·
    refine av ?_; (try simp only [go_sem]); refine qU u ?_; clear u U; refine aT (b := ((decide (d52.accepted < d52.many)) && (d52.err == 0))) rfl (fun h5 => ?_) (fun h5 => ?_)
    ·
     have hl3 := cT hl3 h5; refine aV ?_; refine bB ?_; refine ac [0,1] fun tz U u => ?_; obtain ⟨x53, bx53, hl3⟩ := bnd hl3; (try simp only [go_sem]); (refine uK (by first | (simp only [go_sem, fz, lw, cond_true, cond_false] <;> rfl)) (vQ d52.sides.Sender Frame.z a0 bx53) ?_; try dsimp only); (try refine av ?_); (try simp only [go_sem]); refine u _ (iv d52 a1 a2 x53 a0) (by refine Wk.canonD [] [] [some 0, some 1, some 2, some 3, some 4, some 34] rfl trivial rfl (aw 5 (aw 4 (aw 3 (aw 2 (aw 1 (aw 0 bv rfl qM rfl (au (by rfl) (tI (ai _)) (tI (ay _)) (Tm.clo tn (tc tp tn)) tr tr tr)) rfl qM rfl (tc (tI (aU _)) tn)) rfl qM rfl (TmL.of_eq qL (ae _))) rfl qM rfl (TmL.of_eq qL (ae _))) rfl qM rfl (TmL.of_eq qL (ae _))) rfl qM rfl (ak (by rfl) (tI (ai _)))) (tA 6 (tA 5 (tA 1 (tA 0 aO tp) tv) tp) tv); all_goals exact qN) ?_; clear u U; unfold iv; refine ap ?_; refine ac [0,1,5,6] fun tz U u => ?_; (try simp only [go_sem]); refine qU u ?_; clear u U; refine aT (b := (x53.2.2 == 22)) rfl (fun h6 => ?_) (fun h6 => ?_)
     ·
      have hl3 := cT hl3 h6; refine bH ?_; refine jk ?_; refine Bo ?_; refine jk ?_; refine jS ?_; obtain rfl := aq hl3; obtain rfl := Ex.k_ret h0; refine aL ?_; refine aC KM (rfl) ?_; refine dn.mk [] [some 0, some 1, some 2, some 3, some 4] rfl (aX qM rfl (au (by rfl) (tI (ai _)) (tI (ay _)) (Tm.clo tn (tc tp tn)) tr tr tr) (aX qM rfl (tc (tI (aU _)) tn) (aX qM rfl (TmL.of_eq qL (ae _)) (aX qM rfl (TmL.of_eq qL (ae _)) (aX qM rfl (TmL.of_eq qL (ae _)) er))))) (Tm.tup tn); (all_goals exact qN)
     ·
      have hl3 := cF hl3 h6; refine aV ?_; refine ac [0,1,5,6] fun tz U u => ?_; obtain ⟨x54, bx54, hl3⟩ := bnd hl3; (try simp only [go_sem]); (refine bQ [0, 1, 2, 3, 4] (bo x53.2.2 { d52 with out.Acked := a1.out.Acked, out.Delivered := a1.out.Delivered, out.Dropped := a1.out.Dropped } a2 bx54) (by decide) (by decide) ⟨qG, qG, qG, qG, qG, trivial⟩ qG ?_; try dsimp only); (try refine av ?_); (try simp only [go_sem, lc, ln]); refine qU u ?_; clear u U; refine kQ [0,1,5] (fun _ => rfl) fun tz => ?_; refine iS fun U u all hall => ?_; refine cA ?_; (try simp only [List.toList_toArray, List.map_cons, List.map_nil, List.size_toArray, List.length_cons, List.length_nil, Nat.zero_add]); (try simp only [Nat.reduceAdd]); (iterate 3 ((try simp only [go_sem, -Nat.reduceAdd]); try simp only [Nat.reduceAdd])); refine And.intro ?_ (u _ ?_)
      ·
       subst hall; clear u U; exact qP
      ·
       clear u U hall all; refine iF ?_; refine jw ?_; exact ⟨n2, { x54 with accepted := IntKind.wrap .i64 (x54.accepted + 1), sides.Sender := x53.2.1 }, rfl, hl3, (by refine Wk.canonD [] [] [some 0, some 1, some 2, some 3, some 4] rfl trivial rfl (aw 4 (aw 3 (aw 2 (aw 1 (aw 0 bv rfl qM rfl (au (by rfl) (tI (ai _)) (tI (ay _)) (Tm.clo tn (tc tp tn)) tr tr tr)) rfl qM rfl (tc (tI (aU _)) tn)) rfl qM rfl (TmL.of_eq qL (ae _))) rfl qM rfl (TmL.of_eq qL (ae _))) rfl qM rfl (TmL.of_eq qL (ae _))) (tA 1 (tA 0 aO tp) tv); all_goals exact qN)⟩
    ·
     have hl3 := cF hl3 h5; refine cL ?_; refine kW ?_; refine jX ?_; refine gc ?_; obtain rfl := aq hl3; exact ⟨_, rfl, (by refine Wk.canonD [] [] [some 0, some 1, some 2, some 3, some 4] rfl trivial rfl (aw 4 (aw 3 (aw 2 (aw 1 (aw 0 bv rfl qM rfl (au (by rfl) (tI (ai _)) (tI (ay _)) (Tm.clo tn (tc tp tn)) tr tr tr)) rfl qM rfl (tc (tI (aU _)) tn)) rfl qM rfl (TmL.of_eq qL (ae _))) rfl qM rfl (TmL.of_eq qL (ae _))) rfl qM rfl (TmL.of_eq qL (ae _))) aO; all_goals exact qN)⟩
 ·
  rintro d50 rfl; have h0 := Ex.k_go h0; clear hi1; unfold il; obtain rfl := aq h0; refine aL ?_; refine ep KM (rfl) ?_; refine dn.mk [] [some 0, some 1, some 2, some 3, some 4] rfl (aX qM rfl (au (by rfl) (tI (ai _)) (tI (ay _)) (Tm.clo tn (tc tp tn)) tr tr tr) (aX qM rfl (tc (tI (aU _)) tn) (aX qM rfl (TmL.of_eq qL (ae _)) (aX qM rfl (TmL.of_eq qL (ae _)) (aX qM rfl (TmL.of_eq qL (ae _)) er))))) (Tm.tup tn); (all_goals exact qN)
def oZ (x56 : (Sender × Int)) (a1 : Int) : AS :=
 { objs := (upd (upd (upd (fun _ => .dead) 0 (.live (aA x56.1 (.ref 1 0 x56.1.Out.length 44)))) 1 (.live (List.flatMap ah x56.1.Out))) 2 (.live (aA Sender.z cM))), next := 3, tmps := (upd (upd (upd (upd (upd (fun _ => .unk) 1 (vi a1)) 2 (.ptr 0 0)) 4 cM) 5 (.ptr 2 0)) 6 (vi x56.2)) }

def pa (x56 : (Sender × Int)) (d57 : (List ax × List Frame)) : AS :=
 { objs := (upd (upd (upd (upd (fun _ => .dead) 0 (.live (aA x56.1 (.ref 1 0 d57.1.length 44)))) 1 (.live (List.flatMap ah d57.1))) 2 (.live (List.flatMap bg d57.2))) 3 (.live (aA Sender.z cM))), next := 4, tmps := (upd (upd (upd (fun _ => .unk) 2 (.ptr 0 0)) 4 (.ref 2 0 d57.2.length 41)) 5 (.ptr 3 0)) }

def oC (x56 : (Sender × Int)) (a1 : Int) (d58 : (List ax × List Frame × Int)) : AS :=
 { objs := (upd (upd (upd (upd (fun _ => .dead) 0 (.live (aA x56.1 (.ref 1 0 d58.1.length 44)))) 1 (.live (List.flatMap ah d58.1))) 2 (.live (List.flatMap bg d58.2.1))) 3 (.live (aA Sender.z cM))), next := 4, tmps := (upd (upd (upd (upd (upd (upd (fun _ => .unk) 1 (vi a1)) 2 (.ptr 0 0)) 4 (.ref 2 0 d58.2.1.length 41)) 5 (.ptr 3 0)) 23 (vi ((x56.1.Out.length : Nat) : Int))) 24 (vi d58.2.2)) }

def oQ (x56 : (Sender × Int)) (d58 : (List ax × List Frame × Int)) (x59 : ax) (x60 : Frame) (a1 : Int) : AS :=
 { objs := (upd (upd (upd (upd (upd (fun _ => .dead) 0 (.live (aA x56.1 (.ref 1 0 (((d58.1.modify (d58.2.2.toNat) fun y => { y with Tries := IntKind.wrap .i64 (x59.Tries + 1) }).modify (d58.2.2.toNat) fun y => { y with Flying := true }).length) 44)))) 1 (.live (List.flatMap ah ((d58.1.modify (d58.2.2.toNat) fun y => { y with Tries := IntKind.wrap .i64 (x59.Tries + 1) }).modify (d58.2.2.toNat) fun y => { y with Flying := true })))) 2 (.live (List.flatMap bg d58.2.1))) 3 (.live (aA Sender.z cM))) 4 (.live (bu { x60 with Head.Retry := decide (0 < x59.Tries) } (.imm (List.map vu x60.Body) x60.Body.length)))), next := 5, tmps := (upd (upd (upd (upd (upd (upd (upd (fun _ => .unk) 1 (vi a1)) 2 (.ptr 0 0)) 4 (.ref 2 0 d58.2.1.length 41)) 5 (.ptr 3 0)) 9 (.ptr 4 0)) 23 (vi ((x56.1.Out.length : Nat) : Int))) 24 (vi d58.2.2)) }

theorem wZ (a0 : Sender) (a1 : Int) {r : ((List Frame) × Sender × Int)} (h0 : gE a0 a1 = some r) : gv K 50 [(.agg (bA a0)), (vi a1)] (fun q => (.tup [(.ref (q 0) 0 r.1.length 41), (.agg (aA r.2.1 (.ref (q 1) 0 r.2.1.Out.length 44))), (vi r.2.2)])) [(List.flatMap bg r.1), (List.flatMap ah r.2.1.Out)] := by
 refine gv.of_walkW hC (show K.P.funcs[50]? = some Try.f50 from Try.func50) rfl rfl (by decide +kernel) (qB2 rfl) ?_; unfold gE at h0; refine ac [0,1] fun tz U u => ?_; (try simp only [go_sem]); refine qU u ?_; clear u U; refine ac [1,2,4,5] fun tz U u => ?_; obtain ⟨x56, bx56, h0⟩ := bnd h0; (try simp only [go_sem]); (refine lO (lZ a0 (decide (0 ≤ a1)) bx56) ?_; try dsimp only); (try refine av ?_); (try simp only [go_sem]); refine u _ (oZ x56 a1) (by refine Wk.canonD [] [] [some 0, some 13, some 2] rfl trivial rfl (aw 2 (aw 1 (aw 0 bv rfl qM rfl (ak (by rfl) tr)) rfl qM rfl (TmL.of_eq qL (ai _))) rfl qM rfl (ak (by rfl) tv)) (tA 6 (tA 5 (tA 4 (tA 2 (tA 1 aO tv) tp) tv) tp) tv); all_goals exact qN) ?_; clear u U; unfold oZ; refine ap ?_; refine ac [1,2,4,5,6] fun tz U u => ?_; (try simp only [go_sem]); refine qU u ?_; clear u U; refine aT (b := (x56.2 != 0)) rfl (fun h1 => ?_) (fun h1 => ?_)
 ·
  have h0 := cT h0 h1; refine ap ?_; refine ac [5,6] fun tz U u => ?_; (try simp only [go_sem]); refine qU u ?_; clear u U; refine bH ?_; obtain rfl := aq h0; refine aL ?_; refine aC Ki qR ?_; refine Res.mk [] [none, none] rfl (c5 (c5 cZ)) (Tm.tup (tc tT (tc (Tm.agg (ak (by rfl) tT)) (tc tv tn))))
 ·
  have h0 := cF h0 h1; refine aV ?_; refine ap ?_; refine ac [1,2,4,5] fun tz U u => ?_; (try simp only [go_sem]); refine qU u ?_; clear u U; obtain ⟨d57, hi2, h0⟩ := bnd h0; refine dk (fun z => d57 = z) (fun d57 : (List ax × List Frame) => pa x56 d57) ?_ ?_
  ·
   refine bB ?_; refine cO (fun n (d58 : (List ax × List Frame × Int)) => dN x56 a1 n d58 = some d57) (fun d58 : (List ax × List Frame × Int) => oC x56 a1 d58) big (x56.1.Out, [], 0) (by refine Wk.canonD [] [] [some 0, some 1, none, some 2] rfl trivial rfl (aw 3 (vH 2 (aw 1 (aw 0 bv rfl qM rfl (ak (by rfl) tr)) rfl qM rfl (TmL.of_eq qL (ai _))) rfl) rfl qM rfl (ak (by rfl) tv)) (tA 24 (tA 23 (tA 5 (tA 4 (tA 2 (tA 1 aO tv) tp) tT) tp) tv) tv); all_goals exact qN) hi2 ?_; clear hi2; rintro n d58 hl4; rcases n with _ | n3
   ·
    (rw [dN] at hl4; cases hl4)
   ·
    rw [dN] at hl4; unfold oC; refine ac [1,2,4,5,23,24] fun tz U u => ?_; (try simp only [go_sem]); refine qU u ?_; clear u U; refine aT (b := (decide (d58.2.2 < ((x56.1.Out.length : Nat) : Int)))) rfl (fun h5 => ?_) (fun h5 => ?_)
    ·
     have hl4 := cT hl4 h5; refine aV ?_; refine cC ?_; refine ac [1,2,4,5,23,24] fun tz U u => ?_; (try simp only [go_sem]); refine qU u ?_; clear u U; refine ac [1,2,4,5,7,23,24] fun tz U u => ?_; obtain ⟨x59, bx59, hl4⟩ := bnd hl4; obtain ⟨fx59_0, fx59_1, fx59_2, fx59_3⟩ := cz bx59; (have fx59_5 : ((d58.2.2 : Int) < ((d58.1.length : Nat) : Int)) = True := by first | exact fx59_1 | (simp [List.length_modify, List.length_set]; omega)); (try simp only [go_sem, fx59_0, fx59_1, fx59_2, fx59_5]); refine qU u ?_; clear u U; refine ap ?_; refine ac [1,2,4,5,8,23,24] fun tz U u => ?_; (try simp only [go_sem, fx59_0, fx59_1, fx59_2, fx59_5]); refine qU u ?_; clear u U; refine aT (b := (((d58.2.1.length : Nat) : Int) == a1)) rfl (fun h6 => ?_) (fun h6 => ?_)
     ·
      have hl4 := cT hl4 h6; refine cL ?_; refine Kh rfl ?_; refine K9 ?_; refine kW ?_; refine jX ?_; refine gc ?_; obtain rfl := aq hl4; exact ⟨_, rfl, (by refine Wk.canonD [] [] [some 0, some 1, some 2, some 3] rfl trivial rfl (aw 3 (aw 2 (aw 1 (aw 0 bv rfl qM rfl (ak (by rfl) tr)) rfl qM rfl (TmL.of_eq qL (ai _))) rfl qM rfl (TmL.of_eq qL (ce _))) rfl qM rfl (ak (by rfl) tv)) (tA 5 (tA 4 (tA 2 aO tp) tr) tp); all_goals exact qN)⟩
     ·
      have hl4 := cF hl4 h6; refine aV ?_; refine ap ?_; refine ac [1,2,4,5,8,23,24] fun tz U u => ?_; refine bq 5 qS qS (by rfl) fun V v => ?_; refine av ?_; (try simp only [go_sem, fx59_0, fx59_1, fx59_2, fx59_5]); refine v _ ?_; clear v V; refine bK 8 [(1, (vi a1)), (2, (.ptr 0 0)), (4, (.ref 2 0 d58.2.1.length 41)), (5, (.ptr 3 0)), (8, (.ptr 1 ((d58.2.2).toNat * 44))), (23, (vi ((x56.1.Out.length : Nat) : Int))), (24, (vi d58.2.2)), (47, (vb (x59.Flying || (x59.Tries == x56.1.Limit))))] qS qS (by rfl) (fun V v => ?_) fun tz => ?_
      ·
       refine av ?_; rcases bE x59.Flying with h7 | h7
       ·
        (try simp only [go_sem, fx59_0, fx59_1, fx59_2, fx59_5, h7]); exact v _ ⟨(by first | rfl | (simp only [h7]; done)), rfl, rfl, rfl, rfl, rfl, rfl, rfl, (qB h7), trivial⟩
       ·
        (try simp only [go_sem, fx59_0, fx59_1, fx59_2, fx59_5, h7]); exact v _ ⟨(by first | rfl | (simp only [h7]; done)), rfl, rfl, rfl, rfl, rfl, rfl, rfl, (qB h7), trivial⟩
      ·
       refine av ?_; (try simp only [go_sem, fx59_0, fx59_1, fx59_2, fx59_5]); refine qU u ?_; clear u U; refine aT (b := (x59.Flying || (x59.Tries == x56.1.Limit))) rfl (fun h8 => ?_) (fun h8 => ?_)
       ·
        have hl4 := cT hl4 h8; refine cL ?_; refine jX ?_; refine et ?_; refine bI [1,2,4,5,23,24] fun tz U u => ?_; (try simp only [go_sem, fx59_0, fx59_1, fx59_2, fx59_5]); refine u _ ?_; clear u U; refine jw ?_; exact ⟨n3, (d58.1, d58.2.1, IntKind.wrap .i64 (d58.2.2 + 1)), rfl, hl4, (by refine Wk.canonD [] [] [some 0, some 1, some 2, some 3] rfl trivial rfl (aw 3 (aw 2 (aw 1 (aw 0 bv rfl qM rfl (ak (by rfl) tr)) rfl qM rfl (TmL.of_eq qL (ai _))) rfl qM rfl (TmL.of_eq qL (ce _))) rfl qM rfl (ak (by rfl) tv)) (tA 24 (tA 23 (tA 5 (tA 4 (tA 2 (tA 1 aO tv) tp) tr) tp) tv) tv); all_goals exact qN)⟩
       ·
        have hl4 := cF hl4 h8; refine aV ?_; refine ac [1,2,4,5,8,23,24] fun tz U u => ?_; obtain ⟨x60, bx60, hl4⟩ := bnd hl4; (try simp only [go_sem, fx59_0, fx59_1, fx59_2, fx59_5]); (refine aZ (gn x59.Frame bx60) ?_; try dsimp only); (try refine av ?_); (try simp only [go_sem, fx59_0, fx59_1, fx59_2, fx59_5]); refine qU u ?_; clear u U; refine ac [1,2,4,5,8,9,23,24] fun tz U u => ?_; (try simp only [go_sem, fx59_0, fx59_1, fx59_2, fx59_5]); refine qU u ?_; clear u U; refine ac [1,2,4,5,8,9,23,24] fun tz U u => ?_; have gs9 : ((d58.2.2).toNat * 44 + 2 ≤ d58.1.length * 44) = True := eq_true (by (try simp only [List.length_modify, List.length_set]); omega); have gm10 : (d58.1.modify ((d58.2.2).toNat) fun y => { y with Tries := IntKind.wrap .i64 (x59.Tries + 1) })[(d58.2.2).toNat]? = some ({ x59 with Tries := IntKind.wrap .i64 (x59.Tries + 1) }) := A9 _ fx59_2; have gs11 : ((d58.2.2).toNat * 44 + 3 ≤ (d58.1.modify ((d58.2.2).toNat) fun y => { y with Tries := IntKind.wrap .i64 (x59.Tries + 1) }).length * 44) = True := eq_true (by (try simp only [List.length_modify, List.length_set]); omega); have gm12 : ((d58.1.modify ((d58.2.2).toNat) fun y => { y with Tries := IntKind.wrap .i64 (x59.Tries + 1) }).modify ((d58.2.2).toNat) fun y => { y with Flying := true })[(d58.2.2).toNat]? = some ({ ({ x59 with Tries := IntKind.wrap .i64 (x59.Tries + 1) }) with Flying := true }) := A9 _ gm10; (try simp only [go_sem, fx59_0, fx59_1, fx59_2, fx59_5, gs9, gm10, gs11, gm12]); refine u _ (oQ x56 d58 x59 x60 a1) (by refine Wk.canonD [] [] [some 0, some 1, some 2, some 3, some 34] rfl trivial rfl (aw 4 (aw 3 (aw 2 (aw 1 (aw 0 bv rfl qM rfl (ak (by rfl) tr)) rfl qM rfl (TmL.of_eq qL (ai _))) rfl qM rfl (TmL.of_eq qL (ce _))) rfl qM rfl (ak (by rfl) tv)) rfl qM rfl (db (by rfl) (tI (fD _)))) (tA 24 (tA 23 (tA 9 (tA 5 (tA 4 (tA 2 (tA 1 aO tv) tp) tr) tp) tp) tv) tv); all_goals exact qN) ?_; clear u U; unfold oQ; refine bI [1,2,4,5,9,23,24] fun tz U u => ?_; obtain ⟨x61, bx61, hl4⟩ := bnd hl4; have bx61 := bW bx61; simp only [Bool.and_eq_true, decide_eq_true_eq] at bx61; have gx61_0 := bx61; (try simp only [go_sem, fx59_0, fx59_1, fx59_2, fx59_5, gm10, gm12, gx61_0]); refine u _ ?_; clear u U; refine iF ?_; refine et ?_; refine bI [1,2,4,5,23,24] fun tz U u => ?_; (try simp only [go_sem, fx59_0, fx59_1, fx59_2, fx59_5, gm10, gm12]); refine u _ ?_; clear u U; refine jw ?_; exact ⟨n3, (((d58.1.modify (d58.2.2.toNat) fun y => { y with Tries := IntKind.wrap .i64 (x59.Tries + 1) }).modify (d58.2.2.toNat) fun y => { y with Flying := true }), (d58.2.1 ++ [{ x60 with Head.Retry := decide (0 < x59.Tries) }]), IntKind.wrap .i64 (d58.2.2 + 1)), rfl, hl4, (by refine Wk.canonD [] [] [some 0, some 1, some 8, some 3] rfl trivial rfl (aw 3 (aw 2 (aw 1 (aw 0 bv rfl qM rfl (ak (by rfl) tr)) rfl qM rfl (TmL.of_eq qL (ai _))) rfl qM rfl (TmL.of_eq qL (ce _))) rfl qM rfl (ak (by rfl) tv)) (tA 24 (tA 23 (tA 5 (tA 4 (tA 2 (tA 1 aO tv) tp) tr) tp) tv) tv); all_goals exact qN)⟩
    ·
     have hl4 := cF hl4 h5; refine cL ?_; refine kW ?_; refine jX ?_; refine gc ?_; obtain rfl := aq hl4; exact ⟨_, rfl, (by refine Wk.canonD [] [] [some 0, some 1, some 2, some 3] rfl trivial rfl (aw 3 (aw 2 (aw 1 (aw 0 bv rfl qM rfl (ak (by rfl) tr)) rfl qM rfl (TmL.of_eq qL (ai _))) rfl qM rfl (TmL.of_eq qL (ce _))) rfl qM rfl (ak (by rfl) tv)) (tA 5 (tA 4 (tA 2 aO tp) tr) tp); all_goals exact qN)⟩
  ·
   rintro _ rfl; clear hi2; unfold pa; refine ef [2,4,5] (fun _ => rfl) fun tz => ?_; refine cx fun U u all hall => ?_; refine cA ?_; (try simp only [List.toList_toArray, List.map_cons, List.map_nil, List.size_toArray, List.length_cons, List.length_nil, Nat.zero_add]); (try simp only [Nat.reduceAdd]); (iterate 3 ((try simp only [go_sem, -Nat.reduceAdd]); try simp only [Nat.reduceAdd])); refine And.intro ?_ (u _ _ (Wk.refl _ _ _) ?_)
   ·
    subst hall; clear u U; exact qP
   ·
    clear u U hall all; refine aS ?_; obtain rfl := aq h0; refine aL ?_; refine aC Ki qR ?_; refine Res.mk [] [some 2, some 1] rfl (fB qM rfl (TmL.of_eq qL (ce _)) (fB qM rfl (TmL.of_eq qL (ai _)) cZ)) (Tm.tup (tc tr (tc (Tm.agg (ak (by rfl) tr)) (tc tv tn)))); (all_goals exact qN)


theorem xD (a0 : Sender) (a1 : Int) {r : ((List Frame) × Sender × Int)} (h0 : gE a0 a1 = some r) : SndP K 50 [(.agg (bA a0)), (vi a1)] (.tup [(kM r.1), (.agg (bA r.2.1)), (vi r.2.2)]) :=
 lK.pure (rM (wZ a0 a1 h0) (aK.tup (RenML.cons (aK.ref 0 0 _ _) (RenML.cons (aK.agg (bL _ (aK.ref 1 0 _ _))) (RenML.cons rv RenML.nil)))) (bw (ce _) (bw (ai _) cK)) (ag (aB.agg (aY _)) (ag cv aG))) (aB.tup (ag (jU _) (ag (aB.agg (aY _)) (ag cv aG)))) (ag (aB.agg (aY _)) (ag cv aG)) qV
theorem lB (a0 : aW) (a1 : Int) {r : Int} (h0 : fh a0 a1 = some r) : SndP K 80 [(.agg (bb a0)), (vi a1)] (vi r) := by
 refine SndP.of_walkW hC cv (ag (aB.agg (aM _)) (ag cv aG)) (show K.P.funcs[80]? = some Try.f80 from Try.func80) rfl rfl (by decide +kernel) (qB2 rfl) ?_; unfold fh at h0; refine ac [0,1] fun tz U u => ?_; (try simp only [go_sem]); refine qU u ?_; clear u U; refine ap ?_; refine ac [1,2] fun tz U u => ?_; obtain ⟨x75, bx75, h0⟩ := bnd h0; (try simp only [go_sem]); (refine aZ (lf a0 bx75) ?_; try dsimp only); (try refine av ?_); (try simp only [go_sem]); refine qU u ?_; clear u U; refine ap ?_; refine ac [1,5] fun tz U u => ?_; (try simp only [go_sem]); refine qU u ?_; clear u U; refine aT (b := (x75 != 0)) rfl (fun h1 => ?_) (fun h1 => ?_)
 ·
  have h0 := cT h0 h1; refine ap ?_; refine ac [5] fun tz U u => ?_; (try simp only [go_sem]); refine qU u ?_; clear u U; refine bH ?_; obtain rfl := aq h0; refine aL ?_; refine aC G3 (rfl) ?_; exact qF
 ·
  have h0 := cF h0 h1; refine aV ?_; refine ap ?_; refine ac [1] fun tz U u => ?_; obtain ⟨x76, bx76, h0⟩ := bnd h0; (try simp only [go_sem]); (refine aZ (nC a1 bx76) ?_; try dsimp only); (try refine av ?_); (try simp only [go_sem]); refine qU u ?_; clear u U; refine aT (b := (!x76)) rfl (fun h2 => ?_) (fun h2 => ?_)
  ·
   have h0 := cT h0 h2; refine ap ?_; refine ac [] fun tz U u => ?_; (try simp only [go_sem]); refine qU u ?_; clear u U; refine bH ?_; obtain rfl := aq h0; refine aL ?_; refine aC G3 (rfl) ?_; exact qF
  ·
   have h0 := cF h0 h2; refine aV ?_; refine ac [] fun tz U u => ?_; (try simp only [go_sem]); refine qU u ?_; clear u U; refine aS ?_; obtain rfl := aq h0; refine aL ?_; refine aC G3 (rfl) ?_; exact qF
def oX (a0 : aW) (a1 : Int) : AS :=
 { objs := (upd (upd (upd (fun _ => .dead) 0 (.live (bb a0))) 1 (.live (bb aW.z))) 2 (.live (bb { aW.z with Start := a1 }))), next := 3, tmps := (upd (upd (upd (upd (fun _ => .unk) 1 (vi a1)) 2 (.ptr 0 0)) 4 (.ptr 1 0)) 7 (.ptr 2 0)) }

theorem wT (a0 : aW) (a1 : Int) {r : (aW × Int)} (h0 : kf a0 a1 = some r) : SndP K 76 [(.agg (bb a0)), (vi a1)] (.tup [(.agg (bb r.1)), (vi r.2)]) := by
 refine SndP.of_walkW hC (aB.tup (ag (aB.agg (aM _)) (ag cv aG))) (ag (aB.agg (aM _)) (ag cv aG)) (show K.P.funcs[76]? = some Try.f76 from Try.func76) rfl rfl (by decide +kernel) (qB2 rfl) ?_; unfold kf at h0; refine ac [0,1] fun tz U u => ?_; (try simp only [go_sem]); refine qU u ?_; clear u U; refine ap ?_; refine ac [1,2,4] fun tz U u => ?_; obtain ⟨x75, bx75, h0⟩ := bnd h0; (try simp only [go_sem]); (refine aZ (lB a0 a1 bx75) ?_; try dsimp only); (try refine av ?_); (try simp only [go_sem]); refine qU u ?_; clear u U; refine ap ?_; refine ac [1,2,4,6] fun tz U u => ?_; (try simp only [go_sem]); refine qU u ?_; clear u U; refine aT (b := (x75 != 0)) rfl (fun h1 => ?_) (fun h1 => ?_)
 ·
  have h0 := cT h0 h1; refine ap ?_; refine ac [4,6] fun tz U u => ?_; (try simp only [go_sem]); refine qU u ?_; clear u U; refine bH ?_; obtain rfl := aq h0; refine aL ?_; refine aC Ha qR ?_; exact qF
 ·
  have h0 := cF h0 h1; refine aV ?_; refine ac [1,2,4] fun tz U u => ?_; (try simp only [go_sem]); refine u _ (oX a0 a1) (Wk.canonD [] [] [some 0, some 1, some 11] rfl trivial rfl (aw 2 (aw 1 (aw 0 bv rfl qM rfl (TmL.clean (aM _))) rfl qM rfl (TmL.clean (aM _))) rfl qM rfl (TmL.clean (aM _))) (tA 7 (tA 4 (tA 2 (tA 1 aO tv) tp) tp) tp)) ?_; clear u U; unfold oX; refine ap ?_; refine ac [1,2,4,7] fun tz U u => ?_; obtain ⟨x76, bx76, h0⟩ := bnd h0; (try simp only [go_sem]); (refine aZ (cN a0.Start a1 bx76) ?_; try dsimp only); (try refine av ?_); (try simp only [go_sem]); refine qU u ?_; clear u U; refine ap ?_; refine ac [2,4,7,8] fun tz U u => ?_; (try simp only [go_sem]); refine qU u ?_; clear u U; refine aT (b := (decide (x76 < 2048))) rfl (fun h2 => ?_) (fun h2 => ?_)
  ·
   have h0 := cT h0 h2; refine ac [2,4,7,8] fun tz U u => ?_; obtain ⟨x77, bx77, h0⟩ := bnd h0; have bx77 := bW bx77; simp only [Bool.and_eq_true, decide_eq_true_eq] at bx77; have gx77_0 := bx77; (try simp only [go_sem, gx77_0]); refine qU u ?_; clear u U; refine ac [4,7] fun tz U u => ?_; (try simp only [go_sem]); refine qU u ?_; clear u U; refine aS ?_; obtain rfl := aq h0; refine aL ?_; refine aC Ha qR ?_; exact qF
  ·
   have h0 := cF h0 h2; refine ac [2,4,7,8] fun tz U u => ?_; obtain ⟨x78, bx78, h0⟩ := bnd h0; have bx78 := bW bx78; simp only [Bool.and_eq_true, decide_eq_true_eq] at bx78; have gx78_0 := bx78; (try simp only [go_sem, gx78_0]); refine qU u ?_; clear u U; refine ac [4,7] fun tz U u => ?_; (try simp only [go_sem]); refine qU u ?_; clear u U; refine aS ?_; obtain rfl := aq h0; refine aL ?_; refine aC Ha qR ?_; exact qF
def o4 (a0 : aW) (x78 : Int) : AS :=
 { objs := (upd (upd (fun _ => .dead) 0 (.live (bb a0))) 1 (.live (bb aW.z))), next := 2, tmps := (upd (upd (upd (fun _ => .unk) 2 (.ptr 0 0)) 4 (.ptr 1 0)) 7 (vi x78)) }

theorem wR (a0 : aW) (a1 : Int) {r : (aW × Int)} (h0 : kg a0 a1 = some r) : SndP K 77 [(.agg (bb a0)), (vi a1)] (.tup [(.agg (bb r.1)), (vi r.2)]) := by
 refine SndP.of_walkW hC (aB.tup (ag (aB.agg (aM _)) (ag cv aG))) (ag (aB.agg (aM _)) (ag cv aG)) (show K.P.funcs[77]? = some Try.f77 from Try.func77) rfl rfl (by decide +kernel) (qB2 rfl) ?_; unfold kg at h0; refine ac [0,1] fun tz U u => ?_; (try simp only [go_sem]); refine qU u ?_; clear u U; refine ap ?_; refine ac [1,2,4] fun tz U u => ?_; obtain ⟨x77, bx77, h0⟩ := bnd h0; (try simp only [go_sem]); (refine aZ (lB a0 a1 bx77) ?_; try dsimp only); (try refine av ?_); (try simp only [go_sem]); refine qU u ?_; clear u U; refine ap ?_; refine ac [1,2,4,6] fun tz U u => ?_; (try simp only [go_sem]); refine qU u ?_; clear u U; refine aT (b := (x77 != 0)) rfl (fun h1 => ?_) (fun h1 => ?_)
 ·
  have h0 := cT h0 h1; refine ap ?_; refine ac [4,6] fun tz U u => ?_; (try simp only [go_sem]); refine qU u ?_; clear u U; refine bH ?_; obtain rfl := aq h0; refine aL ?_; refine aC Jt qR ?_; exact qF
 ·
  have h0 := cF h0 h1; refine aV ?_; refine ac [1,2,4] fun tz U u => ?_; obtain ⟨x78, bx78, h0⟩ := bnd h0; (try simp only [go_sem]); (refine aZ (cN a0.Start a1 bx78) ?_; try dsimp only); (try refine av ?_); (try simp only [go_sem]); refine u _ (o4 a0 x78) (Wk.canonD [] [] [some 0, some 1] rfl trivial rfl (aw 1 (aw 0 bv rfl qM rfl (TmL.clean (aM _))) rfl qM rfl (TmL.clean (aM _))) (tA 7 (tA 4 (tA 2 aO tp) tp) tv)) ?_; clear u U; unfold o4; refine ap ?_; refine ac [2,4,7] fun tz U u => ?_; (try simp only [go_sem]); refine qU u ?_; clear u U; refine aT (b := (decide (64 ≤ x78))) rfl (fun h2 => ?_) (fun h2 => ?_)
  ·
   have h0 := cT h0 h2; refine ap ?_; refine ac [4] fun tz U u => ?_; (try simp only [go_sem]); refine qU u ?_; clear u U; refine bH ?_; obtain rfl := aq h0; refine aL ?_; refine aC Jt qR ?_; exact qF
  ·
   have h0 := cF h0 h2; refine aV ?_; refine ef [2,4,7] (fun _ => rfl) fun tz => ?_; refine cx fun U u all hall => ?_; refine cA ?_; (try simp only [List.toList_toArray, List.map_cons, List.map_nil, List.size_toArray, List.length_cons, List.length_nil, Nat.zero_add]); (try simp only [Nat.reduceAdd]); obtain ⟨x79, bx79, h0⟩ := bnd h0; have bx79 := bW bx79; simp only [Bool.and_eq_true, decide_eq_true_eq] at bx79; have gx79_0 := bx79; (iterate 3 ((try simp only [go_sem, -Nat.reduceAdd, gx79_0]); try simp only [Nat.reduceAdd])); refine And.intro ?_ (u _ _ (Wk.refl _ _ _) ?_)
   ·
    subst hall; clear u U; exact qP
   ·
    clear u U hall all; refine ac [2,4] fun tz U u => ?_; (try simp only [go_sem]); refine qU u ?_; clear u U; refine aS ?_; obtain rfl := aq h0; refine aL ?_; refine aC Jt qR ?_; exact qF
def nK (a1 : Int) (d74 : aW) : AS :=
 { objs := (upd (upd (fun _ => .dead) 0 (.live (bb d74))) 1 (.live (bb aW.z))), next := 2, tmps := (upd (upd (upd (fun _ => .unk) 1 (vi a1)) 2 (.ptr 0 0)) 4 (.ptr 1 0)) }

theorem wl (a0 : aW) (a1 : Int) {r : aW} (h0 : jl a0 a1 = some r) : SndP K 66 [(.agg (bb a0)), (vi a1)] (.agg (bb r)) := by
 refine SndP.of_walkW hC (aB.agg (aM _)) (ag (aB.agg (aM _)) (ag cv aG)) (show K.P.funcs[66]? = some Try.f66 from Try.func66) rfl rfl (by decide +kernel) (qB2 rfl) ?_; unfold jl at h0; refine ac [0,1] fun tz U u => ?_; (try simp only [go_sem]); refine qU u ?_; clear u U; refine ac [1,2,4] fun tz U u => ?_; obtain ⟨x73, bx73, h0⟩ := bnd h0; (try simp only [go_sem]); (refine aZ (cN a0.Start a1 bx73) ?_; try dsimp only); (try refine av ?_); (try simp only [go_sem]); refine qU u ?_; clear u U; refine ap ?_; refine ac [1,2,4,5] fun tz U u => ?_; (try simp only [go_sem]); refine qU u ?_; clear u U; refine aT (b := (decide (2048 ≤ x73))) rfl (fun h1 => ?_) (fun h1 => ?_)
 ·
  have h0 := cT h0 h1; refine ap ?_; refine ac [2,4] fun tz U u => ?_; (try simp only [go_sem]); refine qU u ?_; clear u U; refine bH ?_; obtain rfl := aq h0; refine aL ?_; refine aC J0 qR ?_; exact qF
 ·
  have h0 := cF h0 h1; refine aV ?_; refine ap ?_; refine ac [1,2,4,5] fun tz U u => ?_; (try simp only [go_sem]); refine qU u ?_; clear u U; obtain ⟨d74, hi2, h0⟩ := bnd h0; refine dk (fun z => d74 = z) (fun d74 : aW => nK a1 d74) ?_ ?_
  ·
   refine bR (b := (decide (64 ≤ x73))) rfl (fun h3 => ?_) (fun h3 => ?_)
   ·
    have hi2 := cT hi2 h3; refine kQ [1,2,4] (fun _ => rfl) fun tz => ?_; refine iS fun U u all hall => ?_; refine cA ?_; (try simp only [List.toList_toArray, List.map_cons, List.map_nil, List.size_toArray, List.length_cons, List.length_nil, Nat.zero_add]); (try simp only [Nat.reduceAdd]); obtain ⟨x75, bx75, hi2⟩ := bnd hi2; (iterate 3 ((try simp only [go_sem, -Nat.reduceAdd]); try simp only [Nat.reduceAdd])); (refine fk (jb a1 (-63) bx75) ?_; try dsimp only); (try refine cA ?_); obtain ⟨x76, bx76, hi2⟩ := bnd hi2; (iterate 3 ((try simp only [go_sem, -Nat.reduceAdd]); try simp only [Nat.reduceAdd])); (refine fk (wT a0 x75 bx76) ?_; try dsimp only); (try refine cA ?_); (iterate 3 ((try simp only [go_sem, -Nat.reduceAdd]); try simp only [Nat.reduceAdd])); refine And.intro ?_ (u _ ?_)
    ·
     subst hall; clear u U; exact qP
    ·
     clear u U hall all; refine gc ?_; obtain rfl := aq hi2; exact ⟨_, rfl, (Wk.canonD [] [] [some 0, some 1] rfl trivial rfl (aw 1 (aw 0 bv rfl qM rfl (TmL.clean (aM _))) rfl qM rfl (TmL.clean (aM _))) (tA 4 (tA 2 (tA 1 aO tv) tp) tp))⟩
   ·
    have hi2 := cF hi2 h3; refine de ?_; refine gc ?_; obtain rfl := aq hi2; exact ⟨_, rfl, (Wk.canonD [] [] [some 0, some 1] rfl trivial rfl (aw 1 (aw 0 bv rfl qM rfl (TmL.clean (aM _))) rfl qM rfl (TmL.clean (aM _))) (tA 4 (tA 2 (tA 1 aO tv) tp) tp))⟩
  ·
   rintro _ rfl; clear hi2; unfold nK; refine ac [1,2,4] fun tz U u => ?_; obtain ⟨x77, bx77, h0⟩ := bnd h0; (try simp only [go_sem]); (refine aZ (wR d74 a1 bx77) ?_; try dsimp only); (try refine av ?_); (try simp only [go_sem]); refine qU u ?_; clear u U; refine ac [2,4] fun tz U u => ?_; (try simp only [go_sem]); refine qU u ?_; clear u U; refine aS ?_; obtain rfl := aq h0; refine aL ?_; refine aC J0 qR ?_; exact qF
end Go.AX.Z.TN
