/- A part of the proof: walks through the functions that the statement reaches. -/
import Derived.Test.YtpjogfcpmcbafaaPrea
set_option linter.unusedVariables false
set_option linter.unusedSimpArgs false

/-! (walks) -/

set_option linter.unusedSimpArgs false
set_option linter.unusedVariables false
set_option maxHeartbeats 4000000
set_option maxRecDepth 20000
namespace Go.AX.Z.TN
open Go.AX Go.Proofs
attribute [local irreducible] awp xw xop jB gsp ob xd gk iY kw mr jG wS
attribute [local go_sem ↓] xS A8 yr vx
attribute [local go_sem] Nat.reduceAdd
theorem dk (a0 : Int) (a1 : Int) (a2 : Int) {r : Bool} (h0 : cH a0 a1 a2 = some r) : SndP K 16 [(vi a0), (vi a1), (vi a2)] (vb r) := by
 refine SndP.of_walkW hC cv (af cv (af cv (af cv az))) (show K.P.funcs[16]? = some Try.f16 from Try.func16) rfl rfl (by decide +kernel) (qB2 rfl) ?_; unfold cH at h0; refine aa [0,1,2] fun tz U u => ?_; (try simp only [go_sem]); refine qU u ?_; clear u U; refine aa [0,1,2] fun tz U u => ?_; refine bg 4 qS qS (by rfl) fun V v => ?_; refine ap ?_; (try simp only [go_sem]); refine v _ ?_; clear v V; refine bt 4 [(14, (vb ((decide (a1 ≤ a0)) && (decide (a0 ≤ a2)))))] qS qS (by rfl) (fun V v => ?_) fun tz => ?_
 ·
  refine ap ?_; rcases bE (decide (a1 ≤ a0)) with h1 | h1
  ·
   (try simp only [go_sem, h1]); exact v _ ⟨rfl, (qB h1), trivial⟩
  ·
   (try simp only [go_sem, h1]); exact v _ ⟨rfl, (qB h1), trivial⟩
 ·
  refine ap ?_; (try simp only [go_sem]); refine qU u ?_; clear u U; refine aM ?_; obtain rfl := al h0; refine aF ?_; refine ax Mr (rfl) ?_; exact qF
def ms (a0 : SessionPlan) (x8 : Bool) : AS :=
 { objs := (upd (fun _ => .dead) 0 (.live (am a0))), next := 1, tmps := (upd (upd (fun _ => .unk) 1 (.ptr 0 0)) 3 (vb x8)) }

theorem tF (a0 : SessionPlan) {r : Int} (h0 : ik a0 = some r) : SndP K 11 [(.agg (am a0))] (vi r) := by
 refine SndP.of_walkW hC cv (af (aw.agg (bS _)) az) (show K.P.funcs[11]? = some Try.f11 from Try.func11) rfl rfl (by decide +kernel) (qB2 rfl) ?_; unfold ik at h0; refine aa [0] fun tz U u => ?_; (try simp only [go_sem]); refine qU u ?_; clear u U; refine aa [1] fun tz U u => ?_; obtain ⟨x2, bx2, h0⟩ := bnd h0; (try simp only [go_sem]); (refine aP (dk a0.Start 0 4095 bx2) ?_; try dsimp only); (try refine ap ?_); refine bg 1 qS qS (by rfl) fun V v => ?_; refine ap ?_; (try simp only [go_sem]); refine v _ ?_; clear v V; obtain ⟨x4, hvh1, h0⟩ := bnd h0; refine bt 4 [(1, (.ptr 0 0)), (12, (vb x4))] qS qS (by rfl) (fun V v => ?_) fun tz => ?_
 ·
  refine ap ?_; rcases bE x2 with h1 | h1
  ·
   have hvh1 := cT hvh1 h1; obtain ⟨x3, bx3, hvh1⟩ := bnd hvh1; (try simp only [go_sem, h1]); (refine aP (dk a0.Size 1 64 bx3) ?_; try dsimp only); (try refine ap ?_); (try simp only [go_sem, h1]); obtain rfl := al hvh1; exact v _ ⟨rfl, rfl, (qB h1), trivial⟩
  ·
   have hvh1 := cF hvh1 h1; (try simp only [go_sem, h1]); obtain rfl := al hvh1; exact v _ ⟨rfl, rfl, (qB h1), trivial⟩
 ·
  refine ap ?_; refine bg 1 qS qS (by rfl) fun V v => ?_; refine ap ?_; (try simp only [go_sem]); refine v _ ?_; clear v V; obtain ⟨x6, hvh2, h0⟩ := bnd h0; refine bt 4 [(1, (.ptr 0 0)), (17, (vb x6))] qS qS (by rfl) (fun V v => ?_) fun tz => ?_
  ·
   refine ap ?_; rcases bE x4 with h2 | h2
   ·
    have hvh2 := cT hvh2 h2; obtain ⟨x5, bx5, hvh2⟩ := bnd hvh2; (try simp only [go_sem, h2]); (refine aP (dk a0.Limit 1 16 bx5) ?_; try dsimp only); (try refine ap ?_); (try simp only [go_sem, h2]); obtain rfl := al hvh2; exact v _ ⟨rfl, rfl, (qB h2), trivial⟩
   ·
    have hvh2 := cF hvh2 h2; (try simp only [go_sem, h2]); obtain rfl := al hvh2; exact v _ ⟨rfl, rfl, (qB h2), trivial⟩
  ·
   refine ap ?_; refine bg 1 qS qS (by rfl) fun V v => ?_; refine ap ?_; (try simp only [go_sem]); refine v _ ?_; clear v V; obtain ⟨x8, hvh3, h0⟩ := bnd h0; refine bt 4 [(1, (.ptr 0 0)), (22, (vb x8))] qS qS (by rfl) (fun V v => ?_) fun tz => ?_
   ·
    refine ap ?_; rcases bE x6 with h3 | h3
    ·
     have hvh3 := cT hvh3 h3; obtain ⟨x7, bx7, hvh3⟩ := bnd hvh3; (try simp only [go_sem, h3]); (refine aP (dk a0.Burst 1 64 bx7) ?_; try dsimp only); (try refine ap ?_); (try simp only [go_sem, h3]); obtain rfl := al hvh3; exact v _ ⟨rfl, rfl, (qB h3), trivial⟩
    ·
     have hvh3 := cF hvh3 h3; (try simp only [go_sem, h3]); obtain rfl := al hvh3; exact v _ ⟨rfl, rfl, (qB h3), trivial⟩
   ·
    refine ap ?_; (try simp only [go_sem]); refine u _ (ms a0 x8) (Wk.canonD [] [] [some 0] rfl trivial rfl (ar 0 bn rfl qM rfl (TmL.clean (bS _))) (tA 3 (tA 1 aI tp) tv)) ?_; clear u U; unfold ms; refine aa [1,3] fun tz U u => ?_; obtain ⟨x9, bx9, h0⟩ := bnd h0; (try simp only [go_sem]); (refine aP (dk a0.Life 1 1073741824 bx9) ?_; try dsimp only); (try refine ap ?_); refine bg 1 qS qS (by rfl) fun V v => ?_; refine ap ?_; (try simp only [go_sem]); refine v _ ?_; clear v V; obtain ⟨x11, hvh4, h0⟩ := bnd h0; refine bt 4 [(1, (.ptr 0 0)), (3, (vb x8)), (30, (vb x11))] qS qS (by rfl) (fun V v => ?_) fun tz => ?_
    ·
     refine ap ?_; rcases bE x9 with h4 | h4
     ·
      have hvh4 := cT hvh4 h4; obtain ⟨x10, bx10, hvh4⟩ := bnd hvh4; (try simp only [go_sem, h4]); (refine aP (dk a0.Hold 0 16777216 bx10) ?_; try dsimp only); (try refine ap ?_); (try simp only [go_sem, h4]); obtain rfl := al hvh4; exact v _ ⟨rfl, rfl, rfl, (qB h4), trivial⟩
     ·
      have hvh4 := cF hvh4 h4; (try simp only [go_sem, h4]); obtain rfl := al hvh4; exact v _ ⟨rfl, rfl, rfl, (qB h4), trivial⟩
    ·
     refine ap ?_; refine bg 1 qS qS (by rfl) fun V v => ?_; refine ap ?_; (try simp only [go_sem]); refine v _ ?_; clear v V; obtain ⟨x13, hvh5, h0⟩ := bnd h0; refine bt 4 [(3, (vb x8)), (35, (vb x13))] qS qS (by rfl) (fun V v => ?_) fun tz => ?_
     ·
      refine ap ?_; rcases bE x11 with h5 | h5
      ·
       have hvh5 := cT hvh5 h5; obtain ⟨x12, bx12, hvh5⟩ := bnd hvh5; (try simp only [go_sem, h5]); (refine aP (dk a0.Round 1 1000000 bx12) ?_; try dsimp only); (try refine ap ?_); (try simp only [go_sem, h5]); obtain rfl := al hvh5; exact v _ ⟨rfl, rfl, (qB h5), trivial⟩
      ·
       have hvh5 := cF hvh5 h5; (try simp only [go_sem, h5]); obtain rfl := al hvh5; exact v _ ⟨rfl, rfl, (qB h5), trivial⟩
     ·
      refine ap ?_; (try simp only [go_sem]); refine qU u ?_; clear u U; refine ak ?_; refine aa [3,4] fun tz U u => ?_; refine bg 3 qS qS (by rfl) fun V v => ?_; refine ap ?_; (try simp only [go_sem]); refine v _ ?_; clear v V; refine bt 3 [(41, (vb ((!x8) || (!x13))))] qS qS (by rfl) (fun V v => ?_) fun tz => ?_
      ·
       refine ap ?_; rcases bE (!x8) with h6 | h6
       ·
        (try simp only [go_sem, h6]); exact v _ ⟨rfl, (qB h6), trivial⟩
       ·
        (try simp only [go_sem, h6]); exact v _ ⟨rfl, (qB h6), trivial⟩
      ·
       refine ap ?_; (try simp only [go_sem]); refine qU u ?_; clear u U; refine aN (b := ((!x8) || (!x13))) rfl (fun h7 => ?_) (fun h7 => ?_)
       ·
        have h0 := cT h0 h7; refine ak ?_; refine aa [] fun tz U u => ?_; (try simp only [go_sem]); refine qU u ?_; clear u U; refine bA ?_; obtain rfl := al h0; refine aF ?_; refine ax Jq (rfl) ?_; exact qF
       ·
        have h0 := cF h0 h7; refine aQ ?_; refine aa [] fun tz U u => ?_; (try simp only [go_sem]); refine qU u ?_; clear u U; refine aM ?_; obtain rfl := al h0; refine aF ?_; refine ax Jq (rfl) ?_; exact qF
theorem cn (a0 : Int) (a1 : Int) (a2 : Int) {r : Bool} (h0 : bG a0 a1 a2 = some r) : SndP K 40 [(vi a0), (vi a1), (vi a2)] (vb r) := by
 refine SndP.of_walkW hC cv (af cv (af cv (af cv az))) (show K.P.funcs[40]? = some Try.f40 from Try.func40) rfl rfl (by decide +kernel) (qB2 rfl) ?_; unfold bG at h0; refine aa [0,1,2] fun tz U u => ?_; (try simp only [go_sem]); refine qU u ?_; clear u U; refine aa [0,1,2] fun tz U u => ?_; refine bg 4 qS qS (by rfl) fun V v => ?_; refine ap ?_; (try simp only [go_sem]); refine v _ ?_; clear v V; refine bt 4 [(14, (vb ((decide (a1 ≤ a0)) && (decide (a0 ≤ a2)))))] qS qS (by rfl) (fun V v => ?_) fun tz => ?_
 ·
  refine ap ?_; rcases bE (decide (a1 ≤ a0)) with h1 | h1
  ·
   (try simp only [go_sem, h1]); exact v _ ⟨rfl, (qB h1), trivial⟩
  ·
   (try simp only [go_sem, h1]); exact v _ ⟨rfl, (qB h1), trivial⟩
 ·
  refine ap ?_; (try simp only [go_sem]); refine qU u ?_; clear u U; refine aM ?_; obtain rfl := al h0; refine aF ?_; refine ax KX (rfl) ?_; exact qF
theorem kT (a0 : Sender) {r : Int} (h0 : fF a0 = some r) : SndP K 48 [(.agg (bp a0))] (vi r) := by
 refine SndP.of_walkW hC cv (af (aw.agg (aR _)) az) (show K.P.funcs[48]? = some Try.f48 from Try.func48) rfl rfl (by decide +kernel) (qB2 rfl) ?_; unfold fF at h0; refine aa [0] fun tz U u => ?_; (try simp only [go_sem]); refine qU u ?_; clear u U; refine ak ?_; refine aa [1] fun tz U u => ?_; (try simp only [go_sem]); refine qU u ?_; clear u U; refine aN (b := (decide (0 < (a0.Out.length : Int)))) rfl (fun h1 => ?_) (fun h1 => ?_)
 ·
  have h0 := cT h0 h1; refine ak ?_; refine aa [1] fun tz U u => ?_; obtain ⟨x27, bx27, h0⟩ := bnd h0; obtain ⟨fx27_0, fx27_1, fx27_2, fx27_3⟩ := cz bx27; simp only [Int.reduceToNat] at fx27_2 fx27_3; (try simp only [go_sem, fx27_0, fx27_1, fx27_2, vR, vU, Nat.reduceDiv, Nat.reduceMod]); refine qU u ?_; clear u U; refine bA ?_; obtain rfl := al h0; refine aF ?_; refine ax Kl (rfl) ?_; exact qF
 ·
  have h0 := cF h0 h1; refine aQ ?_; refine aa [1] fun tz U u => ?_; (try simp only [go_sem]); refine qU u ?_; clear u U; refine aM ?_; obtain rfl := al h0; refine aF ?_; refine ax Kl (rfl) ?_; exact qF
theorem cB (a0 : Int) (a1 : Int) {r : Int} (h0 : cu a0 a1 = some r) : SndP K 43 [(vi a0), (vi a1)] (vi r) := by
 refine SndP.of_walkW hC cv (af cv (af cv az)) (show K.P.funcs[43]? = some Try.f43 from Try.func43) rfl rfl (by decide +kernel) (qB2 rfl) ?_; unfold cu at h0; refine aa [0,1] fun tz U u => ?_; (try simp only [go_sem]); refine qU u ?_; clear u U; refine aa [0,1] fun tz U u => ?_; (try simp only [go_sem]); refine qU u ?_; clear u U; refine aM ?_; obtain rfl := al h0; refine aF ?_; refine ax Mm (rfl) ?_; exact qF
def ns (a0 : Sender) (x24 : Bool) : AS :=
 { objs := (upd (fun _ => .dead) 0 (.live (av a0 (.imm (List.flatMap ag a0.Out) a0.Out.length)))), next := 1, tmps := (upd (upd (fun _ => .unk) 1 (.ptr 0 0)) 3 (vb x24)) }

def mZ (a0 : Sender) (x24 : Bool) (d26 : Bool) : AS :=
 { objs := (upd (fun _ => .dead) 0 (.live (av a0 (.imm (List.flatMap ag a0.Out) a0.Out.length)))), next := 1, tmps := (upd (upd (upd (fun _ => .unk) 1 (.ptr 0 0)) 3 (vb x24)) 4 (vb d26)) }

def nf (d29 : Unit) : AS :=
 { objs := (fun _ => .dead), next := 0, tmps := (fun _ => .unk) }

def nv (a0 : Sender) (x27 : Int) (x28 : Int) (d31 : (Int × Int × Int)) : AS :=
 { objs := (upd (fun _ => .dead) 0 (.live (av a0 (.imm (List.flatMap ag a0.Out) a0.Out.length)))), next := 1, tmps := (upd (upd (upd (upd (upd (upd (upd (upd (fun _ => .unk) 1 (.ptr 0 0)) 5 (vi x27)) 6 (vi x28)) 7 (vi d31.1)) 8 (vi d31.2.1)) 82 (.imm (List.flatMap ag a0.Out) a0.Out.length)) 83 (vi (a0.Out.length : Int))) 84 (vi d31.2.2)) }

def m8 (a0 : Sender) (x32 : Unacked) (x27 : Int) (x28 : Int) (x33 : Int) (d31 : (Int × Int × Int)) (x38 : Bool) : AS :=
 { objs := (upd (upd (fun _ => .dead) 0 (.live (av a0 (.imm (List.flatMap ag a0.Out) a0.Out.length)))) 1 (.live (bh x32 (.imm (List.map vu x32.Frame.Body) x32.Frame.Body.length)))), next := 2, tmps := (upd (upd (upd (upd (upd (upd (upd (upd (upd (fun _ => .unk) 1 (.ptr 0 0)) 5 (vi x27)) 6 (vi x28)) 10 (.ptr 1 0)) 12 (vi x33)) 82 (.imm (List.flatMap ag a0.Out) a0.Out.length)) 83 (vi (a0.Out.length : Int))) 84 (vi d31.2.2)) 131 (vb (x38 || (x32.Flying && (x32.Tries == 0))))) }

theorem fi (a0 : Sender) {r : Int} (h0 : dY a0 = some r) : SndP K 39 [(.agg (bp a0))] (vi r) := by
 refine SndP.of_walkW hC cv (af (aw.agg (aR _)) az) (show K.P.funcs[39]? = some Try.f39 from Try.func39) rfl rfl (by decide +kernel) (qB2 rfl) ?_; unfold dY at h0; refine aa [0] fun tz U u => ?_; (try simp only [go_sem]); refine qU u ?_; clear u U; refine aa [1] fun tz U u => ?_; obtain ⟨x16, bx16, h0⟩ := bnd h0; (try simp only [go_sem]); (refine aP (cn a0.Tid 0 7 bx16) ?_; try dsimp only); (try refine ap ?_); refine bg 1 qS qS (by rfl) fun V v => ?_; refine ap ?_; (try simp only [go_sem]); refine v _ ?_; clear v V; refine bt 4 [(1, (.ptr 0 0)), (20, (vb (x16 && (decide (a0.Phase ≤ 2)))))] qS qS (by rfl) (fun V v => ?_) fun tz => ?_
 ·
  refine ap ?_; rcases bE x16 with h1 | h1
  ·
   (try simp only [go_sem, h1]); exact v _ ⟨rfl, rfl, (qB h1), trivial⟩
  ·
   (try simp only [go_sem, h1]); exact v _ ⟨rfl, rfl, (qB h1), trivial⟩
 ·
  refine ap ?_; refine bg 1 qS qS (by rfl) fun V v => ?_; refine ap ?_; (try simp only [go_sem]); refine v _ ?_; clear v V; obtain ⟨x18, hvh2, h0⟩ := bnd h0; refine bt 4 [(1, (.ptr 0 0)), (25, (vb x18))] qS qS (by rfl) (fun V v => ?_) fun tz => ?_
  ·
   refine ap ?_; rcases bE (x16 && (decide (a0.Phase ≤ 2))) with h2 | h2
   ·
    have hvh2 := cT hvh2 h2; (have h2_0 : (x16) = true := by simp only [Bool.and_eq_true] at h2; exact h2.1); (have h2_1 : (decide (a0.Phase ≤ 2)) = true := by simp only [Bool.and_eq_true] at h2; exact h2.2); obtain ⟨x17, bx17, hvh2⟩ := bnd hvh2; (try simp only [go_sem, h2, h2_0, h2_1]); (refine aP (cn a0.Token 0 255 bx17) ?_; try dsimp only); (try refine ap ?_); (try simp only [go_sem, h2, h2_0, h2_1]); obtain rfl := al hvh2; exact v _ ⟨rfl, rfl, (qB h2), trivial⟩
   ·
    have hvh2 := cF hvh2 h2; (try simp only [go_sem, h2]); obtain rfl := al hvh2; exact v _ ⟨rfl, rfl, (qB h2), trivial⟩
  ·
   refine ap ?_; refine bg 1 qS qS (by rfl) fun V v => ?_; refine ap ?_; (try simp only [go_sem]); refine v _ ?_; clear v V; obtain ⟨x20, hvh3, h0⟩ := bnd h0; refine bt 4 [(1, (.ptr 0 0)), (30, (vb x20))] qS qS (by rfl) (fun V v => ?_) fun tz => ?_
   ·
    refine ap ?_; rcases bE x18 with h3 | h3
    ·
     have hvh3 := cT hvh3 h3; obtain ⟨x19, bx19, hvh3⟩ := bnd hvh3; (try simp only [go_sem, h3]); (refine aP (cn a0.Next 0 4095 bx19) ?_; try dsimp only); (try refine ap ?_); (try simp only [go_sem, h3]); obtain rfl := al hvh3; exact v _ ⟨rfl, rfl, (qB h3), trivial⟩
    ·
     have hvh3 := cF hvh3 h3; (try simp only [go_sem, h3]); obtain rfl := al hvh3; exact v _ ⟨rfl, rfl, (qB h3), trivial⟩
   ·
    refine ap ?_; refine bg 1 qS qS (by rfl) fun V v => ?_; refine ap ?_; (try simp only [go_sem]); refine v _ ?_; clear v V; obtain ⟨x22, hvh4, h0⟩ := bnd h0; refine bt 4 [(1, (.ptr 0 0)), (35, (vb x22))] qS qS (by rfl) (fun V v => ?_) fun tz => ?_
    ·
     refine ap ?_; rcases bE x20 with h4 | h4
     ·
      have hvh4 := cT hvh4 h4; obtain ⟨x21, bx21, hvh4⟩ := bnd hvh4; (try simp only [go_sem, h4]); (refine aP (cn a0.Limit 1 16 bx21) ?_; try dsimp only); (try refine ap ?_); (try simp only [go_sem, h4]); obtain rfl := al hvh4; exact v _ ⟨rfl, rfl, (qB h4), trivial⟩
     ·
      have hvh4 := cF hvh4 h4; (try simp only [go_sem, h4]); obtain rfl := al hvh4; exact v _ ⟨rfl, rfl, (qB h4), trivial⟩
    ·
     refine ap ?_; refine bg 1 qS qS (by rfl) fun V v => ?_; refine ap ?_; (try simp only [go_sem]); refine v _ ?_; clear v V; obtain ⟨x24, hvh5, h0⟩ := bnd h0; refine bt 4 [(1, (.ptr 0 0)), (40, (vb x24))] qS qS (by rfl) (fun V v => ?_) fun tz => ?_
     ·
      refine ap ?_; rcases bE x22 with h5 | h5
      ·
       have hvh5 := cT hvh5 h5; obtain ⟨x23, bx23, hvh5⟩ := bnd hvh5; (try simp only [go_sem, h5]); (refine aP (cn a0.Life 1 1073741824 bx23) ?_; try dsimp only); (try refine ap ?_); (try simp only [go_sem, h5]); obtain rfl := al hvh5; exact v _ ⟨rfl, rfl, (qB h5), trivial⟩
      ·
       have hvh5 := cF hvh5 h5; (try simp only [go_sem, h5]); obtain rfl := al hvh5; exact v _ ⟨rfl, rfl, (qB h5), trivial⟩
     ·
      refine ap ?_; (try simp only [go_sem]); refine u _ (ns a0 x24) (Wk.canonD [] [] [some 0] rfl trivial rfl (ar 0 bn rfl qM rfl (aj (by rfl) (tI (ah _)))) (tA 3 (tA 1 aI tp) tv)) ?_; clear u U; unfold ns; refine aa [1,3] fun tz U u => ?_; obtain ⟨x25, bx25, h0⟩ := bnd h0; (try simp only [go_sem]); (refine aP (cn a0.Size 1 64 bx25) ?_; try dsimp only); (try refine ap ?_); (try simp only [go_sem]); refine qU u ?_; clear u U; refine ak ?_; refine aa [1,3,4] fun tz U u => ?_; (try simp only [go_sem]); refine qU u ?_; clear u U; obtain ⟨d26, hi6, h0⟩ := bnd h0; refine dc (fun z => d26 = z) (fun d26 : Bool => mZ a0 x24 d26) ?_ ?_
      ·
       refine bK (b := (a0.Phase == 0)) rfl (fun h7 => ?_) (fun h7 => ?_)
       ·
        have hi6 := cT hi6 h7; refine bC [1,3] fun tz U u => ?_; (try simp only [go_sem]); refine u _ ?_; clear u U; refine fU ?_; obtain rfl := al hi6; exact ⟨_, rfl, (Wk.canonD [] [] [some 0] rfl trivial rfl (ar 0 bn rfl qM rfl (aj (by rfl) (tI (ah _)))) (tA 4 (tA 3 (tA 1 aI tp) tv) tv))⟩
       ·
        have hi6 := cF hi6 h7; refine c6 ?_; refine fU ?_; obtain rfl := al hi6; exact ⟨_, rfl, (Wk.canonD [] [] [some 0] rfl trivial rfl (ar 0 bn rfl qM rfl (aj (by rfl) (tI (ah _)))) (tA 4 (tA 3 (tA 1 aI tp) tv) tv))⟩
      ·
       rintro _ rfl; clear hi6; unfold mZ; refine ak ?_; refine aa [1,3,4] fun tz U u => ?_; refine bg 3 qS qS (by rfl) fun V v => ?_; refine ap ?_; (try simp only [go_sem]); refine v _ ?_; clear v V; refine bt 3 [(1, (.ptr 0 0)), (55, (vb ((!x24) || (!d26))))] qS qS (by rfl) (fun V v => ?_) fun tz => ?_
       ·
        refine ap ?_; rcases bE (!x24) with h8 | h8
        ·
         (try simp only [go_sem, h8]); exact v _ ⟨rfl, rfl, (qB h8), trivial⟩
        ·
         (try simp only [go_sem, h8]); exact v _ ⟨rfl, rfl, (qB h8), trivial⟩
       ·
        refine ap ?_; refine bg 1 qS qS (by rfl) fun V v => ?_; refine ap ?_; (try simp only [go_sem]); refine v _ ?_; clear v V; refine bt 14 [(1, (.ptr 0 0)), (70, (vb (((!x24) || (!d26)) || ((a0.Phase != 2) && ((decide (0 < (a0.Out.length : Int))) || a0.Bar)))))] qS qS (by rfl) (fun V v => ?_) fun tz => ?_
        ·
         refine ap ?_; rcases bE ((!x24) || (!d26)) with h9 | h9
         ·
          (try simp only [go_sem, h9]); exact v _ ⟨rfl, rfl, (qB h9), trivial⟩
         ·
          refine bg 4 qS qS (by rfl) fun V v => ?_; refine ap ?_; (try simp only [go_sem, h9]); refine v _ ?_; clear v V; refine bt 9 [(1, (.ptr 0 0)), (56, (vb false)), (69, (vb ((a0.Phase != 2) && ((decide (0 < (a0.Out.length : Int))) || a0.Bar))))] qS qS (by rfl) (fun V v => ?_) fun tz => ?_
          ·
           refine ap ?_; rcases bE (a0.Phase != 2) with h10 | h10
           ·
            refine bg 5 qS qS (by rfl) fun V v => ?_; refine ap ?_; (try simp only [go_sem, h9, h10]); refine v _ ?_; clear v V; refine bt 3 [(1, (.ptr 0 0)), (56, (vb false)), (60, (vb true)), (68, (vb ((decide (0 < (a0.Out.length : Int))) || a0.Bar)))] qS qS (by rfl) (fun V v => ?_) fun tz => ?_
            ·
             refine ap ?_; rcases bE (decide (0 < (a0.Out.length : Int))) with h11 | h11
             ·
              (try simp only [go_sem, h9, h10, h11]); exact v _ ⟨rfl, rfl, rfl, rfl, (qB h11), trivial⟩
             ·
              (try simp only [go_sem, h9, h10, h11]); exact v _ ⟨rfl, rfl, rfl, rfl, (qB h11), trivial⟩
            ·
             refine ap ?_; (try simp only [go_sem, h9, h10]); exact v _ ⟨rfl, rfl, rfl, (qB h10), trivial⟩
           ·
            (try simp only [go_sem, h9, h10]); exact v _ ⟨rfl, rfl, rfl, (qB h10), trivial⟩
          ·
           refine ap ?_; (try simp only [go_sem, h9]); exact v _ ⟨rfl, rfl, (qB h9), trivial⟩
        ·
         refine ap ?_; (try simp only [go_sem]); refine qU u ?_; clear u U; refine aN (b := (((!x24) || (!d26)) || ((a0.Phase != 2) && ((decide (0 < (a0.Out.length : Int))) || a0.Bar)))) rfl (fun h12 => ?_) (fun h12 => ?_)
         ·
          have h0 := cT h0 h12; refine ak ?_; refine aa [] fun tz U u => ?_; (try simp only [go_sem]); refine qU u ?_; clear u U; refine bA ?_; obtain rfl := al h0; refine aF ?_; refine ax FC (rfl) ?_; exact qF
         ·
          have h0 := cF h0 h12; refine aQ ?_; refine aa [1] fun tz U u => ?_; obtain ⟨x27, bx27, h0⟩ := bnd h0; (try simp only [go_sem]); (refine aP (kT a0 bx27) ?_; try dsimp only); (try refine ap ?_); (try simp only [go_sem]); refine qU u ?_; clear u U; refine aa [1,5] fun tz U u => ?_; obtain ⟨x28, bx28, h0⟩ := bnd h0; (try simp only [go_sem]); (refine aP (cB x27 a0.Next bx28) ?_; try dsimp only); (try refine ap ?_); (try simp only [go_sem]); refine qU u ?_; clear u U; refine ak ?_; refine aa [1,5,6,7,8] fun tz U u => ?_; (try simp only [go_sem]); refine qU u ?_; clear u U; refine aN (b := (decide (a0.Size < x28))) rfl (fun h13 => ?_) (fun h13 => ?_)
          ·
           have h0 := cT h0 h13; refine ak ?_; refine aa [] fun tz U u => ?_; (try simp only [go_sem]); refine qU u ?_; clear u U; refine bA ?_; obtain rfl := al h0; refine aF ?_; refine ax FC (rfl) ?_; exact qF
          ·
           have h0 := cF h0 h13; refine aQ ?_; refine ak ?_; refine aa [1,5,6,7,8] fun tz U u => ?_; (try simp only [go_sem]); refine qU u ?_; clear u U; obtain ⟨o30, hi14, h0⟩ := bnd h0; refine dc (fun d29 : Unit => o30 = Ex.go d29) (fun d29 : Unit => nf d29) ?_ ?_
           ·
            refine bw ?_; refine cL (fun n (d31 : (Int × Int × Int)) => dG a0 x27 x28 n d31 = some o30) (fun d31 : (Int × Int × Int) => nv a0 x27 x28 d31) big ((-1), 0, 0) (Wk.canonD [] [] [some 0] rfl trivial rfl (ar 0 bn rfl qM rfl (aj (by rfl) (tI (ah _)))) (tA 84 (tA 83 (tA 82 (tA 8 (tA 7 (tA 6 (tA 5 (tA 1 aI tp) tv) tv) tv) tv) (tI (ah _))) tv) tv)) hi14 ?_; clear hi14; rintro n d31 hl16; rcases n with _ | n15
            ·
             (rw [dG] at hl16; cases hl16)
            ·
             rw [dG] at hl16; unfold nv; refine aa [1,5,6,7,8,82,83,84] fun tz U u => ?_; (try simp only [go_sem]); refine qU u ?_; clear u U; refine aN (b := (decide (d31.2.2 < (a0.Out.length : Int)))) rfl (fun h17 => ?_) (fun h17 => ?_)
             ·
              have hl16 := cT hl16 h17; refine aQ ?_; refine cy ?_; refine aa [1,5,6,7,8,82,83,84] fun tz U u => ?_; obtain ⟨x32, bx32, hl16⟩ := bnd hl16; obtain ⟨fx32_0, fx32_1, fx32_2, fx32_3⟩ := cz bx32; (try simp only [go_sem, fx32_0, fx32_1, fx32_2]); refine qU u ?_; clear u U; refine aa [1,5,6,7,8,10,82,83,84] fun tz U u => ?_; (try simp only [go_sem, fx32_0, fx32_1, fx32_2]); refine qU u ?_; clear u U; refine aa [1,5,6,7,8,10,11,82,83,84] fun tz U u => ?_; obtain ⟨x33, bx33, hl16⟩ := bnd hl16; (try simp only [go_sem, fx32_0, fx32_1, fx32_2]); (refine aP (cB x27 x32.Frame.Head.Seq bx33) ?_; try dsimp only); (try refine ap ?_); (try simp only [go_sem, fx32_0, fx32_1, fx32_2]); refine qU u ?_; clear u U; refine ak ?_; refine aa [1,5,6,7,8,10,11,12,82,83,84] fun tz U u => ?_; (try simp only [List.append_eq, Array.toList_append, List.append_toArray, List.toList_toArray, List.cons_append, List.nil_append]); obtain ⟨x34, bx34, hl16⟩ := bnd hl16; (try simp only [go_sem, fx32_0, fx32_1, fx32_2]); (refine aP (cn x32.Frame.Head.Seq 0 4095 bx34) ?_; try dsimp only); (try refine ap ?_); refine bg 2 qS qS (by rfl) fun V v => ?_; refine ap ?_; (try simp only [go_sem, fx32_0, fx32_1, fx32_2]); refine v _ ?_; clear v V; refine bt 4 [(1, (.ptr 0 0)), (5, (vi x27)), (6, (vi x28)), (8, (vi d31.2.1)), (10, (.ptr 4 0)), (12, (vi x33)), (82, (.imm (List.flatMap ag a0.Out) a0.Out.length)), (83, (vi (a0.Out.length : Int))), (84, (vi d31.2.2)), (102, (vb ((!x34) || (decide (x33 ≤ d31.1)))))] qS qS (by rfl) (fun V v => ?_) fun tz => ?_
              ·
               refine ap ?_; rcases bE (!x34) with h18 | h18
               ·
                (try simp only [go_sem, fx32_0, fx32_1, fx32_2, h18]); exact v _ ⟨rfl, rfl, rfl, rfl, rfl, rfl, rfl, rfl, rfl, rfl, (qB h18), trivial⟩
               ·
                (try simp only [go_sem, fx32_0, fx32_1, fx32_2, h18]); exact v _ ⟨rfl, rfl, rfl, rfl, rfl, rfl, rfl, rfl, rfl, rfl, (qB h18), trivial⟩
              ·
               refine ap ?_; refine bg 1 qS qS (by rfl) fun V v => ?_; refine ap ?_; (try simp only [go_sem, fx32_0, fx32_1, fx32_2]); refine v _ ?_; clear v V; refine bt 4 [(1, (.ptr 0 0)), (5, (vi x27)), (6, (vi x28)), (8, (vi d31.2.1)), (10, (.ptr 4 0)), (12, (vi x33)), (82, (.imm (List.flatMap ag a0.Out) a0.Out.length)), (83, (vi (a0.Out.length : Int))), (84, (vi d31.2.2)), (107, (vb (((!x34) || (decide (x33 ≤ d31.1))) || (decide (x28 ≤ x33)))))] qS qS (by rfl) (fun V v => ?_) fun tz => ?_
               ·
                refine ap ?_; rcases bE ((!x34) || (decide (x33 ≤ d31.1))) with h19 | h19
                ·
                 (try simp only [go_sem, fx32_0, fx32_1, fx32_2, h19]); exact v _ ⟨rfl, rfl, rfl, rfl, rfl, rfl, rfl, rfl, rfl, rfl, (qB h19), trivial⟩
                ·
                 (try simp only [go_sem, fx32_0, fx32_1, fx32_2, h19]); exact v _ ⟨rfl, rfl, rfl, rfl, rfl, rfl, rfl, rfl, rfl, rfl, (qB h19), trivial⟩
               ·
                refine ap ?_; refine bg 1 qS qS (by rfl) fun V v => ?_; refine ap ?_; (try simp only [go_sem, fx32_0, fx32_1, fx32_2]); refine v _ ?_; clear v V; obtain ⟨x36, hvh20, hl16⟩ := bnd hl16; refine bt 6 [(1, (.ptr 0 0)), (5, (vi x27)), (6, (vi x28)), (10, (.ptr 4 0)), (12, (vi x33)), (82, (.imm (List.flatMap ag a0.Out) a0.Out.length)), (83, (vi (a0.Out.length : Int))), (84, (vi d31.2.2)), (114, (vb x36))] qS qS (by rfl) (fun V v => ?_) fun tz => ?_
                ·
                 refine ap ?_; rcases bE (((!x34) || (decide (x33 ≤ d31.1))) || (decide (x28 ≤ x33))) with h20 | h20
                 ·
                  have hvh20 := cT hvh20 h20; (try simp only [go_sem, fx32_0, fx32_1, fx32_2, h20]); obtain rfl := al hvh20; exact v _ ⟨rfl, rfl, rfl, rfl, rfl, rfl, rfl, rfl, rfl, (qB h20), trivial⟩
                 ·
                  have hvh20 := cF hvh20 h20; obtain ⟨x35, bx35, hvh20⟩ := bnd hvh20; (try simp only [go_sem, fx32_0, fx32_1, fx32_2, h20]); (refine aP (cn x32.At d31.2.1 1099511627776 bx35) ?_; try dsimp only); (try refine ap ?_); (try simp only [go_sem, fx32_0, fx32_1, fx32_2, h20]); obtain rfl := al hvh20; exact v _ ⟨rfl, rfl, rfl, rfl, rfl, rfl, rfl, rfl, rfl, (qB h20), trivial⟩
                ·
                 refine ap ?_; refine bg 1 qS qS (by rfl) fun V v => ?_; refine ap ?_; (try simp only [go_sem, fx32_0, fx32_1, fx32_2]); refine v _ ?_; clear v V; obtain ⟨x38, hvh21, hl16⟩ := bnd hl16; refine bt 7 [(1, (.ptr 0 0)), (5, (vi x27)), (6, (vi x28)), (10, (.ptr 4 0)), (12, (vi x33)), (82, (.imm (List.flatMap ag a0.Out) a0.Out.length)), (83, (vi (a0.Out.length : Int))), (84, (vi d31.2.2)), (122, (vb x38))] qS qS (by rfl) (fun V v => ?_) fun tz => ?_
                 ·
                  refine ap ?_; rcases bE x36 with h21 | h21
                  ·
                   have hvh21 := cT hvh21 h21; (try simp only [go_sem, fx32_0, fx32_1, fx32_2, h21]); obtain rfl := al hvh21; exact v _ ⟨rfl, rfl, rfl, rfl, rfl, rfl, rfl, rfl, rfl, (qB h21), trivial⟩
                  ·
                   have hvh21 := cF hvh21 h21; obtain ⟨x37, bx37, hvh21⟩ := bnd hvh21; (try simp only [go_sem, fx32_0, fx32_1, fx32_2, h21]); (refine aP (cn x32.Tries 0 a0.Limit bx37) ?_; try dsimp only); (try refine ap ?_); (try simp only [go_sem, fx32_0, fx32_1, fx32_2, h21]); obtain rfl := al hvh21; exact v _ ⟨rfl, rfl, rfl, rfl, rfl, rfl, rfl, rfl, rfl, (qB h21), trivial⟩
                 ·
                  refine ap ?_; refine bg 1 qS qS (by rfl) fun V v => ?_; refine ap ?_; (try simp only [go_sem, fx32_0, fx32_1, fx32_2]); refine v _ ?_; clear v V; refine bt 8 [(1, (.ptr 0 0)), (5, (vi x27)), (6, (vi x28)), (10, (.ptr 4 0)), (12, (vi x33)), (82, (.imm (List.flatMap ag a0.Out) a0.Out.length)), (83, (vi (a0.Out.length : Int))), (84, (vi d31.2.2)), (131, (vb (x38 || (x32.Flying && (x32.Tries == 0)))))] qS qS (by rfl) (fun V v => ?_) fun tz => ?_
                  ·
                   refine ap ?_; rcases bE x38 with h22 | h22
                   ·
                    (try simp only [go_sem, fx32_0, fx32_1, fx32_2, h22]); exact v _ ⟨rfl, rfl, rfl, rfl, rfl, rfl, rfl, rfl, rfl, (qB h22), trivial⟩
                   ·
                    refine bg 3 qS qS (by rfl) fun V v => ?_; refine ap ?_; (try simp only [go_sem, fx32_0, fx32_1, fx32_2, h22]); refine v _ ?_; clear v V; refine bt 4 [(1, (.ptr 0 0)), (5, (vi x27)), (6, (vi x28)), (10, (.ptr 4 0)), (12, (vi x33)), (82, (.imm (List.flatMap ag a0.Out) a0.Out.length)), (83, (vi (a0.Out.length : Int))), (84, (vi d31.2.2)), (123, (vb false)), (130, (vb (x32.Flying && (x32.Tries == 0))))] qS qS (by rfl) (fun V v => ?_) fun tz => ?_
                    ·
                     refine ap ?_; rcases bE x32.Flying with h23 | h23
                     ·
                      (try simp only [go_sem, fx32_0, fx32_1, fx32_2, h22, h23]); exact v _ ⟨(by first | rfl | (simp only [h23]; done)), rfl, rfl, rfl, rfl, rfl, rfl, rfl, rfl, rfl, (qB h23), trivial⟩
                     ·
                      (try simp only [go_sem, fx32_0, fx32_1, fx32_2, h22, h23]); exact v _ ⟨(by first | rfl | (simp only [h23]; done)), rfl, rfl, rfl, rfl, rfl, rfl, rfl, rfl, rfl, (qB h23), trivial⟩
                    ·
                     refine ap ?_; (try simp only [go_sem, fx32_0, fx32_1, fx32_2, h22]); exact v _ ⟨rfl, rfl, rfl, rfl, rfl, rfl, rfl, rfl, rfl, (qB h22), trivial⟩
                  ·
                   refine ap ?_; (try simp only [go_sem, fx32_0, fx32_1, fx32_2]); refine u _ (m8 a0 x32 x27 x28 x33 d31 x38) (Wk.canonD [] [] [some 0, some 4] rfl trivial rfl (ar 1 (ar 0 bn rfl qM rfl (aj (by rfl) (tI (ah _)))) rfl qM rfl (pZ (by rfl) (tI (fg _)))) (tA 131 (tA 84 (tA 83 (tA 82 (tA 12 (tA 10 (tA 6 (tA 5 (tA 1 aI tp) tv) tv) tp) tv) (tI (ah _))) tv) tv) tv)) ?_; clear u U; unfold m8; refine aN (b := (x38 || (x32.Flying && (x32.Tries == 0)))) rfl (fun h24 => ?_) (fun h24 => ?_)
                   ·
                    have hl16 := cT hl16 h24; refine ak ?_; refine aa [] fun tz U u => ?_; (try simp only [go_sem, fx32_0, fx32_1, fx32_2]); refine qU u ?_; clear u U; refine bA ?_; refine jq ?_; refine jO ?_; refine Cj ?_; refine jq ?_; refine jO ?_; obtain rfl := al hl16; obtain rfl := Ex.k_ret h0; refine aF ?_; refine ax FC (rfl) ?_; exact qF
                   ·
                    have hl16 := cF hl16 h24; refine aQ ?_; refine bC [1,5,6,10,12,82,83,84] fun tz U u => ?_; (try simp only [go_sem, fx32_0, fx32_1, fx32_2]); refine u _ ?_; clear u U; refine iM ?_; refine ep ?_; refine bC [1,5,6,7,8,82,83,84] fun tz U u => ?_; (try simp only [go_sem, fx32_0, fx32_1, fx32_2]); refine u _ ?_; clear u U; refine jd ?_; exact ⟨n15, (x33, x32.At, IntKind.wrap .i64 (d31.2.2 + 1)), rfl, hl16, (Wk.canonD [] [] [some 0] rfl trivial rfl (ar 0 bn rfl qM rfl (aj (by rfl) (tI (ah _)))) (tA 84 (tA 83 (tA 82 (tA 8 (tA 7 (tA 6 (tA 5 (tA 1 aI tp) tv) tv) tv) tv) (tI (ah _))) tv) tv))⟩
             ·
              have hl16 := cF hl16 h17; refine cC ?_; refine kS ?_; refine jS ?_; refine fU ?_; obtain rfl := al hl16; exact ⟨_, rfl, (Wk.canonD [] [] [] rfl trivial rfl bn aI)⟩
           ·
            rintro d29 rfl; have h0 := Ex.k_go h0; clear hi14; unfold nf; refine aa [] fun tz U u => ?_; (try simp only [go_sem]); refine qU u ?_; clear u U; refine aM ?_; obtain rfl := al h0; refine aF ?_; refine ax FC (rfl) ?_; exact qF
def p9 (a3 : Int) (a2 : Int) (a1 : Int) (a0 : Int) (x16 : Int) : AS :=
 { objs := (upd (upd (fun _ => .dead) 0 (.live (av Sender.z cA))) 1 (.live (av { Sender.z with Life := a3, Limit := a2, Next := a1, Tid := a0 } cA))), next := 2, tmps := (upd (upd (upd (fun _ => .unk) 8 (.ptr 0 0)) 10 (.ptr 1 0)) 18 (vb (x16 != 0))) }

theorem yc (a0 : Int) (a1 : Int) (a2 : Int) (a3 : Int) {r : (Sender × Int)} (h0 : kE a0 a1 a2 a3 = some r) : SndP K 23 [(vi a0), (vi a1), (vi a2), (vi a3)] (.tup [(.agg (bp r.1)), (vi r.2)]) := by
 refine SndP.of_walkW hC (aw.tup (af (aw.agg (aR _)) (af cv az))) (af cv (af cv (af cv (af cv az)))) (show K.P.funcs[23]? = some Try.f23 from Try.func23) rfl rfl (by decide +kernel) (qB2 rfl) ?_; unfold kE at h0; refine aa [0,1,2,3] fun tz U u => ?_; (try simp only [go_sem]); refine qU u ?_; clear u U; refine aa [0,1,2,3,8] fun tz U u => ?_; (try simp only [go_sem]); refine qU u ?_; clear u U; refine ak ?_; refine aa [8,10] fun tz U u => ?_; obtain ⟨x16, bx16, h0⟩ := bnd h0; (try simp only [go_sem]); (refine ya (by first | (simp only [go_sem, fz, kX, cond_true, cond_false] <;> rfl)) (fi { Sender.z with Life := a3, Limit := a2, Next := a1, Tid := a0 } bx16) ?_; try dsimp only); (try refine ap ?_); (try simp only [go_sem]); refine u _ (p9 a3 a2 a1 a0 x16) (Wk.canonD [] [] [some 0, some 7] rfl trivial rfl (ar 1 (ar 0 bn rfl qM rfl (aj (by rfl) tv)) rfl qM rfl (aj (by rfl) tv)) (tA 18 (tA 10 (tA 8 aI tp) tp) tv)) ?_; clear u U; unfold p9; refine aN (b := (x16 != 0)) rfl (fun h1 => ?_) (fun h1 => ?_)
 ·
  have h0 := cT h0 h1; refine ak ?_; refine aa [8] fun tz U u => ?_; (try simp only [go_sem]); refine qU u ?_; clear u U; refine bA ?_; obtain rfl := al h0; refine aF ?_; refine ax JI qR ?_; exact qF
 ·
  have h0 := cF h0 h1; refine aQ ?_; refine aa [8,10] fun tz U u => ?_; (try simp only [go_sem]); refine qU u ?_; clear u U; refine aM ?_; obtain rfl := al h0; refine aF ?_; refine ax JI qR ?_; exact qF
theorem be (a0 : Int) (a1 : Session_session) (a2 : (List Bool)) {r : Session_session} (h0 : aW a0 a1 a2 = some r) : cI K 24 5 (fun q => [(.ptr (q 0) 0), (vi a0)]) [(fun q => (ae a1 (.imm (List.flatMap ag a1.sides.Sender.Out) a1.sides.Sender.Out.length) (.imm (List.flatMap ai a1.sides.Reorder.Held) a1.sides.Reorder.Held.length) (.clo 17 [] [(.ptr (q 1) 0)]) (.ref (q 2) 0 a1.out.Delivered.length 1) (.ref (q 3) 0 a1.out.Acked.length 1) (.ref (q 4) 0 a1.out.Dropped.length 1))), (fun q => [(.imm (List.map vb a2) a2.length)]), (fun q => (List.map vi a1.out.Delivered)), (fun q => (List.map vi a1.out.Acked)), (fun q => (List.map vi a1.out.Dropped))] (fun q => (.tup [])) [(some (fun q => (ae r (.imm (List.flatMap ag r.sides.Sender.Out) r.sides.Sender.Out.length) (.imm (List.flatMap ai r.sides.Reorder.Held) r.sides.Reorder.Held.length) (.clo 17 [] [(.ptr (q 1) 0)]) (.ref (q 2) 0 a1.out.Delivered.length 1) (.ref (q 3) 0 a1.out.Acked.length 1) (.ref (q 4) 0 a1.out.Dropped.length 1)))), (some (fun q => [(.imm (List.map vb a2) a2.length)])), (some (fun q => (List.map vi a1.out.Delivered))), (some (fun q => (List.map vi a1.out.Acked))), (some (fun q => (List.map vi a1.out.Dropped)))] := by
 refine cI.of_walkW hC (RenML.cons (aE.ptr 0 0) (RenML.cons rv RenML.nil)) (aK (bb _ (rI (ah _)) (rI (au _)) (aE.clo RenML.nil (RenML.cons (aE.ptr 1 0) RenML.nil)) (aE.ref 2 0 _ _) (aE.ref 3 0 _ _) (aE.ref 4 0 _ _)) (aK (RenML.cons (rI (aO _)) RenML.nil) (aK (RenML.const (ac _)) (aK (RenML.const (ac _)) (aK (RenML.const (ac _)) dO))))) (aD (bb _ (rI (ah _)) (rI (au _)) (aE.clo RenML.nil (RenML.cons (aE.ptr 1 0) RenML.nil)) (aE.ref 2 0 _ _) (aE.ref 3 0 _ _) (aE.ref 4 0 _ _)) (aD (RenML.cons (rI (aO _)) RenML.nil) (aD (RenML.const (ac _)) (aD (RenML.const (ac _)) (aD (RenML.const (ac _)) c4))))) (aE.tup RenML.nil) rfl (qB2 rfl) (show K.P.funcs[24]? = some Try.f24 from Try.func24) rfl rfl (by decide +kernel) (qB2 rfl) ?_; unfold aW at h0; refine aa [0,1] fun tz U u => ?_; (try simp only [go_sem]); refine qU u ?_; clear u U; refine bK (b := (a1.err == 0)) rfl (fun h1 => ?_) (fun h1 => ?_)
 ·
  have h0 := cT h0 h1; refine bC [0,1] fun tz U u => ?_; (try simp only [go_sem]); refine u _ ?_; clear u U; obtain rfl := al h0; refine aF ?_; refine d9 JP (rfl) ?_; refine dh.mk [] [some 0, some 1, some 2, some 3, some 4] rfl (aS qM rfl (aq (by rfl) (tI (ah _)) (tI (au _)) (Tm.clo tn (tc tp tn)) tr tr tr) (aS qM rfl (tc (tI (aO _)) tn) (aS qM rfl (TmL.of_eq qL (ac _)) (aS qM rfl (TmL.of_eq qL (ac _)) (aS qM rfl (TmL.of_eq qL (ac _)) ea))))) (Tm.tup tn); (all_goals exact qN)
 ·
  have h0 := cF h0 h1; refine c6 ?_; obtain rfl := al h0; refine aF ?_; refine d9 JP (rfl) ?_; refine dh.mk [] [some 0, some 1, some 2, some 3, some 4] rfl (aS qM rfl (aq (by rfl) (tI (ah _)) (tI (au _)) (Tm.clo tn (tc tp tn)) tr tr tr) (aS qM rfl (tc (tI (aO _)) tn) (aS qM rfl (TmL.of_eq qL (ac _)) (aS qM rfl (TmL.of_eq qL (ac _)) (aS qM rfl (TmL.of_eq qL (ac _)) ea))))) (Tm.tup tn); (all_goals exact qN)
theorem fP (a0 : Frame) {r : Frame} (h0 : dJ a0 = some r) : SndP K 60 [(.agg (aY a0))] (.agg (aY r)) := by
 refine SndP.of_walkW hC (aw.agg (dx _)) (af (aw.agg (dx _)) az) (show K.P.funcs[60]? = some Try.f60 from Try.func60) rfl rfl (by decide +kernel) (qB2 rfl) ?_; unfold dJ at h0; refine aa [0] fun tz U u => ?_; (try simp only [go_sem]); refine qU u ?_; clear u U; refine aa [1,2] fun tz U u => ?_; obtain ⟨x23, bx23, h0⟩ := bnd h0; have bx23 := bP bx23; simp only [Bool.and_eq_true, decide_eq_true_eq] at bx23; have gx23_0 := bx23; (try simp only [go_sem, gx23_0]); refine qU u ?_; clear u U; refine aa [1,2] fun tz U u => ?_; (try simp only [go_sem]); refine qU u ?_; clear u U; refine aM ?_; obtain rfl := al h0; refine aF ?_; refine ax LK qR ?_; exact qF
def oe (a0 : Sender) (d21 : (List Unacked)) : AS :=
 { objs := (upd (upd (upd (fun _ => .dead) 0 (.live (av a0 (.imm (List.flatMap ag a0.Out) a0.Out.length)))) 1 (.live (av Sender.z cA))) 2 (.live (List.flatMap ag d21))), next := 3, tmps := (upd (upd (upd (fun _ => .unk) 1 (.ptr 0 0)) 2 (.ptr 1 0)) 3 (.ref 2 0 d21.length 44)) }

def ox (a0 : Sender) (d22 : (List Unacked × Int)) : AS :=
 { objs := (upd (upd (upd (fun _ => .dead) 0 (.live (av a0 (.imm (List.flatMap ag a0.Out) a0.Out.length)))) 1 (.live (av Sender.z cA))) 2 (.live (List.flatMap ag d22.1))), next := 3, tmps := (upd (upd (upd (upd (upd (upd (fun _ => .unk) 1 (.ptr 0 0)) 2 (.ptr 1 0)) 3 (.ref 2 0 d22.1.length 44)) 7 (.imm (List.flatMap ag a0.Out) a0.Out.length)) 8 (vi (a0.Out.length : Int))) 9 (vi d22.2)) }

def pq (a0 : Sender) (d22 : (List Unacked × Int)) (x23 : Unacked) (x24 : Frame) : AS :=
 { objs := (upd (upd (upd (upd (fun _ => .dead) 0 (.live (av a0 (.imm (List.flatMap ag a0.Out) a0.Out.length)))) 1 (.live (av Sender.z cA))) 2 (.live (List.flatMap ag d22.1))) 3 (.live (bh { x23 with Frame := x24 } (.imm (List.map vu x24.Body) x24.Body.length)))), next := 4, tmps := (upd (upd (upd (upd (upd (upd (upd (fun _ => .unk) 1 (.ptr 0 0)) 2 (.ptr 1 0)) 3 (.ref 2 0 d22.1.length 44)) 5 (.ptr 3 0)) 7 (.imm (List.flatMap ag a0.Out) a0.Out.length)) 8 (vi (a0.Out.length : Int))) 9 (vi d22.2)) }

theorem qb (a0 : Sender) {r : Sender} (h0 : eS a0 = some r) : fT K 41 [(.agg (bp a0))] (fun q => (.agg (av r (.ref (q 0) 0 r.Out.length 44)))) [(List.flatMap ag r.Out)] := by
 refine fT.of_walkW hC (show K.P.funcs[41]? = some Try.f41 from Try.func41) rfl rfl (by decide +kernel) (qB2 rfl) ?_; unfold eS at h0; refine aa [0] fun tz U u => ?_; (try simp only [go_sem]); refine qU u ?_; clear u U; refine aa [1,2] fun tz U u => ?_; (try simp only [go_sem]); refine qU u ?_; clear u U; refine ak ?_; refine aa [1,2,3] fun tz U u => ?_; (try simp only [go_sem]); refine qU u ?_; clear u U; obtain ⟨d21, hi1, h0⟩ := bnd h0; refine dc (fun z => d21 = z) (fun d21 : (List Unacked) => oe a0 d21) ?_ ?_
 ·
  refine bw ?_; refine cL (fun n (d22 : (List Unacked × Int)) => d8 a0 n d22 = some d21) (fun d22 : (List Unacked × Int) => ox a0 d22) big ([], 0) (Wk.canonD [] [] [some 0, some 1, none] rfl trivial rfl (vd 2 (ar 1 (ar 0 bn rfl qM rfl (aj (by rfl) (tI (ah _)))) rfl qM rfl (aj (by rfl) tv)) rfl) (tA 9 (tA 8 (tA 7 (tA 3 (tA 2 (tA 1 aI tp) tp) tT) (tI (ah _))) tv) tv)) hi1 ?_; clear hi1; rintro n d22 hl3; rcases n with _ | n2
  ·
   (rw [d8] at hl3; cases hl3)
  ·
   rw [d8] at hl3; unfold ox; refine aa [1,2,3,7,8,9] fun tz U u => ?_; (try simp only [go_sem]); refine qU u ?_; clear u U; refine aN (b := (decide (d22.2 < (a0.Out.length : Int)))) rfl (fun h4 => ?_) (fun h4 => ?_)
   ·
    have hl3 := cT hl3 h4; refine aQ ?_; refine cy ?_; refine aa [1,2,3,7,8,9] fun tz U u => ?_; obtain ⟨x23, bx23, hl3⟩ := bnd hl3; obtain ⟨fx23_0, fx23_1, fx23_2, fx23_3⟩ := cz bx23; (try simp only [go_sem, fx23_0, fx23_1, fx23_2]); refine qU u ?_; clear u U; refine aa [1,2,3,5,7,8,9] fun tz U u => ?_; obtain ⟨x24, bx24, hl3⟩ := bnd hl3; (try simp only [go_sem, fx23_0, fx23_1, fx23_2]); (refine aP (fP x23.Frame bx24) ?_; try dsimp only); (try refine ap ?_); (try simp only [go_sem, fx23_0, fx23_1, fx23_2]); refine u _ (pq a0 d22 x23 x24) (by refine Wk.canonD [] [] [some 0, some 1, some 2, some 6] rfl trivial rfl (ar 3 (ar 2 (ar 1 (ar 0 bn rfl qM rfl (aj (by rfl) (tI (ah _)))) rfl qM rfl (aj (by rfl) tv)) rfl qM rfl (TmL.of_eq qL (ah _))) rfl qM rfl (pZ (by rfl) (tI (fg _)))) (tA 9 (tA 8 (tA 7 (tA 5 (tA 3 (tA 2 (tA 1 aI tp) tp) tr) tp) (tI (ah _))) tv) tv); all_goals exact qN) ?_; clear u U; unfold pq; refine bC [1,2,3,5,7,8,9] fun tz U u => ?_; obtain ⟨x25, bx25, hl3⟩ := bnd hl3; have bx25 := bP bx25; simp only [Bool.and_eq_true, decide_eq_true_eq] at bx25; have gx25_0 := bx25; (try simp only [go_sem, fx23_0, fx23_1, fx23_2, gx25_0]); refine u _ ?_; clear u U; refine iM ?_; refine ep ?_; refine bC [1,2,3,7,8,9] fun tz U u => ?_; (try simp only [go_sem, fx23_0, fx23_1, fx23_2]); refine u _ ?_; clear u U; refine jd ?_; exact ⟨n2, ((d22.1 ++ [{ x23 with Frame := x24 }]), IntKind.wrap .i64 (d22.2 + 1)), rfl, hl3, (by refine Wk.canonD [] [] [some 0, some 1, some 7] rfl trivial rfl (ar 2 (ar 1 (ar 0 bn rfl qM rfl (aj (by rfl) (tI (ah _)))) rfl qM rfl (aj (by rfl) tv)) rfl qM rfl (TmL.of_eq qL (ah _))) (tA 9 (tA 8 (tA 7 (tA 3 (tA 2 (tA 1 aI tp) tp) tr) (tI (ah _))) tv) tv); all_goals exact qN)⟩
   ·
    have hl3 := cF hl3 h4; refine cC ?_; refine kS ?_; refine jS ?_; refine fU ?_; obtain rfl := al hl3; exact ⟨_, rfl, (by refine Wk.canonD [] [] [some 0, some 1, some 2] rfl trivial rfl (ar 2 (ar 1 (ar 0 bn rfl qM rfl (aj (by rfl) (tI (ah _)))) rfl qM rfl (aj (by rfl) tv)) rfl qM rfl (TmL.of_eq qL (ah _))) (tA 3 (tA 2 (tA 1 aI tp) tp) tr); all_goals exact qN)⟩
 ·
  rintro _ rfl; clear hi1; unfold oe; refine aa [1,2,3] fun tz U u => ?_; (try simp only [go_sem]); refine qU u ?_; clear u U; refine aa [1,2] fun tz U u => ?_; (try simp only [go_sem]); refine qU u ?_; clear u U; refine aM ?_; obtain rfl := al h0; refine aF ?_; refine ax Kr qR ?_; refine Res.mk [] [some 2] rfl (fh qM rfl (TmL.of_eq qL (ah _)) cO) (Tm.agg (aj (by rfl) tr)); (all_goals exact qN)

theorem p4 (a0 : Sender) {r : Sender} (h0 : eS a0 = some r) : la K 41 [(.agg (bp a0))] (fun q => (.agg (av r (.ref (q 0) 0 r.Out.length 44)))) [(List.flatMap ag r.Out)] :=
 fun hs => Snd.of_newM (aE.agg (bB _ (aE.ref 0 0 _ _))) (bo (ah _) cx) (af (aw.agg (aR _)) az) (qb a0 h0) hs

theorem ws (a0 : Sender) {r : Sender} (h0 : eS a0 = some r) (fr : Nat) (hs : HS) : jt K 41 [(.agg (bp a0))] hs fr ⟨(fun q : Nat → Nat => (.agg (av r (.ref (q 0) 0 r.Out.length 44)))) fun _ => fr, .new (List.flatMap ag r.Out)⟩ :=
 jt.of_res (aE.agg (bB _ (aE.ref 0 0 _ _))) (ah _) (af (aw.agg (aR _)) az) (fun a b h => by simp only [h]) (qb a0 h0) hs fr
def pU (a0 : Sender) (a1 : Int) (x19 : Int) : AS :=
 { objs := (upd (upd (upd (fun _ => .dead) 0 (.live (av a0 (.imm (List.flatMap ag a0.Out) a0.Out.length)))) 1 (.live (bq BlockAsk.z))) 2 (.live (av Sender.z cA))), next := 3, tmps := (upd (upd (upd (upd (upd (fun _ => .unk) 1 (vi a1)) 2 (.ptr 0 0)) 4 (.ptr 1 0)) 5 (.ptr 2 0)) 7 (vi x19)) }

def pY (a0 : Sender) (a1 : Int) : AS :=
 { objs := (upd (upd (upd (fun _ => .dead) 0 (.live (av { a0 with Phase := 1, Size := a1, Token := IntKind.wrap .i64 ((a0.Token.tmod 255) + 1) } (.imm (List.flatMap ag a0.Out) a0.Out.length)))) 1 (.live (bq BlockAsk.z))) 2 (.live (av Sender.z cA))), next := 3, tmps := (upd (upd (upd (upd (fun _ => .unk) 1 (vi a1)) 2 (.ptr 0 0)) 4 (.ptr 1 0)) 5 (.ptr 2 0)) }

theorem yv (a0 : Sender) (a1 : Int) {r : (BlockAsk × Sender × Int)} (h0 : jx a0 a1 = some r) : fT K 25 [(.agg (bp a0)), (vi a1)] (fun q => (.tup [(.agg (bq r.1)), (.agg (av r.2.1 (.ref (q 0) 0 r.2.1.Out.length 44))), (vi r.2.2)])) [(List.flatMap ag r.2.1.Out)] := by
 refine fT.of_walkW hC (show K.P.funcs[25]? = some Try.f25 from Try.func25) rfl rfl (by decide +kernel) (qB2 rfl) ?_; unfold jx at h0; refine aa [0,1] fun tz U u => ?_; (try simp only [go_sem]); refine qU u ?_; clear u U; refine aa [1,2,4,5] fun tz U u => ?_; obtain ⟨x19, bx19, h0⟩ := bnd h0; (try simp only [go_sem]); (refine aP (fi a0 bx19) ?_; try dsimp only); (try refine ap ?_); (try simp only [go_sem]); refine u _ (pU a0 a1 x19) (Wk.canonD [] [] [some 0, some 1, some 2] rfl trivial rfl (ar 2 (ar 1 (ar 0 bn rfl qM rfl (aj (by rfl) (tI (ah _)))) rfl qM rfl (TmL.clean (cZ _))) rfl qM rfl (aj (by rfl) tv)) (tA 7 (tA 5 (tA 4 (tA 2 (tA 1 aI tv) tp) tp) tp) tv)) ?_; clear u U; unfold pU; refine cy ?_; refine aa [1,2,4,5,7] fun tz U u => ?_; (try simp only [go_sem]); refine qU u ?_; clear u U; refine bK (b := (x19 != 0)) rfl (fun h1 => ?_) (fun h1 => ?_)
 ·
  have h0 := cT h0 h1; refine aa [4,5,7] fun tz U u => ?_; (try simp only [go_sem]); refine qU u ?_; clear u U; refine aM ?_; refine jq ?_; refine jO ?_; obtain rfl := al h0; refine aF ?_; refine ax F7s qR ?_; refine Res.mk [] [none] rfl (cP cO) (Tm.tup (tc (Tm.clean (aw.agg (cZ _))) (tc (Tm.agg (aj (by rfl) tT)) (tc tv tn))))
 ·
  have h0 := cF h0 h1; refine aa [1,2,4,5] fun tz U u => ?_; obtain ⟨x20, bx20, h0⟩ := bnd h0; (try simp only [go_sem]); (refine aP (cn a1 1 64 bx20) ?_; try dsimp only); (try refine ap ?_); (try simp only [go_sem]); refine qU u ?_; clear u U; refine bK (b := (!x20)) rfl (fun h2 => ?_) (fun h2 => ?_)
  ·
   have h0 := cT h0 h2; refine aa [4,5] fun tz U u => ?_; (try simp only [go_sem]); refine qU u ?_; clear u U; refine aM ?_; refine jq ?_; refine jO ?_; obtain rfl := al h0; refine aF ?_; refine ax F7s qR ?_; refine Res.mk [] [none] rfl (cP cO) (Tm.tup (tc (Tm.clean (aw.agg (cZ _))) (tc (Tm.agg (aj (by rfl) tT)) (tc tv tn))))
  ·
   have h0 := cF h0 h2; refine aa [1,2,4,5] fun tz U u => ?_; (try simp only [go_sem]); refine qU u ?_; clear u U; refine bK (b := (a0.Phase == 2)) rfl (fun h3 => ?_) (fun h3 => ?_)
   ·
    have h0 := cT h0 h3; refine aa [4,5] fun tz U u => ?_; (try simp only [go_sem]); refine qU u ?_; clear u U; refine aM ?_; refine jq ?_; refine jO ?_; obtain rfl := al h0; refine aF ?_; refine ax F7s qR ?_; refine Res.mk [] [none] rfl (cP cO) (Tm.tup (tc (Tm.clean (aw.agg (cZ _))) (tc (Tm.agg (aj (by rfl) tT)) (tc tv tn))))
   ·
    have h0 := cF h0 h3; refine c6 ?_; refine iM ?_; refine ep ?_; refine aa [1,2,4,5] fun tz U u => ?_; (try simp only [go_sem, Int.reduceEq]); refine u _ (pY a0 a1) (Wk.canonD [] [] [some 0, some 1, some 2] rfl trivial rfl (ar 2 (ar 1 (ar 0 bn rfl qM rfl (aj (by rfl) (tI (ah _)))) rfl qM rfl (TmL.clean (cZ _))) rfl qM rfl (aj (by rfl) tv)) (tA 5 (tA 4 (tA 2 (tA 1 aI tv) tp) tp) tp)) ?_; clear u U; unfold pY; refine dV [1,2,4,5] (fun _ => rfl) fun tz => ?_; refine cm fun U u all hall => ?_; refine cp ?_; (try simp only [List.toList_toArray, List.map_cons, List.map_nil, List.size_toArray, List.length_cons, List.length_nil, Nat.zero_add]); (try simp only [Nat.reduceAdd]); obtain ⟨x21, bx21, h0⟩ := bnd h0; (iterate 3 ((try simp only [go_sem, -Nat.reduceAdd]); try simp only [Nat.reduceAdd])); (refine pp (ws { a0 with Phase := 1, Size := a1, Token := IntKind.wrap .i64 ((a0.Token.tmod 255) + 1) } bx21 _) ?_; try dsimp only); (try refine cp ?_); (iterate 3 ((try simp only [go_sem, -Nat.reduceAdd]); try simp only [Nat.reduceAdd])); refine And.intro ?_ (u _ _ (Wk.refl _ _ _) ?_)
    ·
     subst hall; clear u U; exact qP
    ·
     clear u U hall all; refine aM ?_; obtain rfl := al h0; refine aF ?_; refine ax F7s qR ?_; refine Res.mk [] [some 12] rfl (fh qM rfl (TmL.of_eq qL (ah _)) cO) (Tm.tup (tc (Tm.clean (aw.agg (cZ _))) (tc (Tm.agg (aj (by rfl) tr)) (tc tv tn)))); (all_goals exact qN)


theorem yK (a0 : Sender) (a1 : Int) {r : (BlockAsk × Sender × Int)} (h0 : jx a0 a1 = some r) : SndP K 25 [(.agg (bp a0)), (vi a1)] (.tup [(.agg (bq r.1)), (.agg (bp r.2.1)), (vi r.2.2)]) :=
 la.pure (rM (yv a0 a1 h0) (aE.tup (RenML.cons (aE.const (aw.agg (cZ _))) (RenML.cons (aE.agg (bB _ (aE.ref 0 0 _ _))) (RenML.cons rv RenML.nil)))) (bo (ah _) cx) (af (aw.agg (aR _)) (af cv az))) (aw.tup (af (aw.agg (cZ _)) (af (aw.agg (aR _)) (af cv az)))) (af (aw.agg (aR _)) (af cv az)) qV
def lU (a0 : Sender) (a1 : BlockAnswer) (x24 : Int) : AS :=
 { objs := (upd (upd (upd (fun _ => .dead) 0 (.live (av a0 (.imm (List.flatMap ag a0.Out) a0.Out.length)))) 1 (.live (bf a1))) 2 (.live (av Sender.z cA))), next := 3, tmps := (upd (upd (upd (upd (fun _ => .unk) 2 (.ptr 0 0)) 3 (.ptr 1 0)) 4 (.ptr 2 0)) 6 (vi x24)) }

def l3 (d25 : Sender) : AS :=
 { objs := (upd (upd (fun _ => .dead) 0 (.live (av d25 (.imm (List.flatMap ag d25.Out) d25.Out.length)))) 1 (.live (av Sender.z cA))), next := 2, tmps := (upd (upd (fun _ => .unk) 2 (.ptr 0 0)) 4 (.ptr 1 0)) }

theorem t4 (a0 : Sender) (a1 : BlockAnswer) {r : (Sender × Int)} (h0 : fO a0 a1 = some r) : fT K 26 [(.agg (bp a0)), (.agg (bf a1))] (fun q => (.tup [(.agg (av r.1 (.ref (q 0) 0 r.1.Out.length 44))), (vi r.2)])) [(List.flatMap ag r.1.Out)] := by
 refine fT.of_walkW hC (show K.P.funcs[26]? = some Try.f26 from Try.func26) rfl rfl (by decide +kernel) (qB2 rfl) ?_; unfold fO at h0; refine aa [0,1] fun tz U u => ?_; (try simp only [go_sem]); refine qU u ?_; clear u U; refine aa [2,3,4] fun tz U u => ?_; obtain ⟨x24, bx24, h0⟩ := bnd h0; (try simp only [go_sem]); (refine aP (fi a0 bx24) ?_; try dsimp only); (try refine ap ?_); (try simp only [go_sem]); refine u _ (lU a0 a1 x24) (Wk.canonD [] [] [some 0, some 1, some 2] rfl trivial rfl (ar 2 (ar 1 (ar 0 bn rfl qM rfl (aj (by rfl) (tI (ah _)))) rfl qM rfl (TmL.clean (gI _))) rfl qM rfl (aj (by rfl) tv)) (tA 6 (tA 4 (tA 3 (tA 2 aI tp) tp) tp) tv)) ?_; clear u U; unfold lU; obtain ⟨o26, hi1, h0⟩ := bnd h0; refine dc (fun d25 : Sender => o26 = Ex.go d25) (fun d25 : Sender => l3 d25) ?_ ?_
 ·
  refine bw ?_; refine aa [2,3,4,6] fun tz U u => ?_; (try simp only [go_sem]); refine qU u ?_; clear u U; refine bK (b := (x24 != 0)) rfl (fun h2 => ?_) (fun h2 => ?_)
  ·
   have hi1 := cT hi1 h2; refine aa [4,6] fun tz U u => ?_; (try simp only [go_sem]); refine qU u ?_; clear u U; refine aM ?_; refine jq ?_; refine jO ?_; obtain rfl := al hi1; obtain rfl := Ex.k_ret h0; refine aF ?_; refine ax Cr qR ?_; refine Res.mk [] [none] rfl (cP cO) (Tm.tup (tc (Tm.agg (aj (by rfl) tT)) (tc tv tn)))
  ·
   have hi1 := cF hi1 h2; refine aa [2,3,4] fun tz U u => ?_; (try simp only [go_sem]); refine qU u ?_; clear u U; refine bK (b := (a0.Phase != 1)) rfl (fun h3 => ?_) (fun h3 => ?_)
   ·
    have hi1 := cT hi1 h3; refine aa [4] fun tz U u => ?_; (try simp only [go_sem]); refine qU u ?_; clear u U; refine aM ?_; refine jq ?_; refine jO ?_; obtain rfl := al hi1; obtain rfl := Ex.k_ret h0; refine aF ?_; refine ax Cr qR ?_; refine Res.mk [] [none] rfl (cP cO) (Tm.tup (tc (Tm.agg (aj (by rfl) tT)) (tc tv tn)))
   ·
    have hi1 := cF hi1 h3; refine aa [2,3,4] fun tz U u => ?_; refine bg 6 qS qS (by rfl) fun V v => ?_; refine ap ?_; (try simp only [go_sem]); refine v _ ?_; clear v V; refine bt 6 [(2, (.ptr 0 0)), (3, (.ptr 1 0)), (4, (.ptr 2 0)), (35, (vb ((a1.Token != a0.Token) || (a1.Tid != a0.Tid))))] qS qS (by rfl) (fun V v => ?_) fun tz => ?_
    ·
     refine ap ?_; rcases bE (a1.Token != a0.Token) with h4 | h4
     ·
      (try simp only [go_sem, h4]); exact v _ ⟨rfl, rfl, rfl, rfl, (qB h4), trivial⟩
     ·
      (try simp only [go_sem, h4]); exact v _ ⟨rfl, rfl, rfl, rfl, (qB h4), trivial⟩
    ·
     refine ap ?_; (try simp only [go_sem]); refine qU u ?_; clear u U; refine bK (b := ((a1.Token != a0.Token) || (a1.Tid != a0.Tid))) rfl (fun h5 => ?_) (fun h5 => ?_)
     ·
      have hi1 := cT hi1 h5; refine aa [4] fun tz U u => ?_; (try simp only [go_sem]); refine qU u ?_; clear u U; refine aM ?_; refine jq ?_; refine jO ?_; obtain rfl := al hi1; obtain rfl := Ex.k_ret h0; refine aF ?_; refine ax Cr qR ?_; refine Res.mk [] [none] rfl (cP cO) (Tm.tup (tc (Tm.agg (aj (by rfl) tT)) (tc tv tn)))
     ·
      have hi1 := cF hi1 h5; refine aa [2,3,4] fun tz U u => ?_; (try simp only [go_sem]); refine qU u ?_; clear u U; refine bK (b := (a1.Status != 0)) rfl (fun h6 => ?_) (fun h6 => ?_)
      ·
       have hi1 := cT hi1 h6; refine bC [2,4] fun tz U u => ?_; (try simp only [go_sem]); refine u _ ?_; clear u U; refine iM ?_; refine fU ?_; obtain rfl := al hi1; exact ⟨_, rfl, (Wk.canonD [] [] [some 0, some 2] rfl trivial rfl (ar 1 (ar 0 bn rfl qM rfl (aj (by rfl) (tI (ah _)))) rfl qM rfl (aj (by rfl) tv)) (tA 4 (tA 2 aI tp) tp))⟩
      ·
       have hi1 := cF hi1 h6; refine aa [2,3,4] fun tz U u => ?_; obtain ⟨x27, bx27, hi1⟩ := bnd hi1; (try simp only [go_sem]); (refine aP (cn a1.Size 1 a0.Size bx27) ?_; try dsimp only); (try refine ap ?_); (try simp only [go_sem]); refine qU u ?_; clear u U; refine bK (b := (!x27)) rfl (fun h7 => ?_) (fun h7 => ?_)
       ·
        have hi1 := cT hi1 h7; refine aa [4] fun tz U u => ?_; (try simp only [go_sem]); refine qU u ?_; clear u U; refine aM ?_; refine jq ?_; refine jO ?_; obtain rfl := al hi1; obtain rfl := Ex.k_ret h0; refine aF ?_; refine ax Cr qR ?_; refine Res.mk [] [none] rfl (cP cO) (Tm.tup (tc (Tm.agg (aj (by rfl) tT)) (tc tv tn)))
       ·
        have hi1 := cF hi1 h7; refine kp [2,3,4] (fun _ => rfl) fun tz => ?_; refine iH fun U u all hall => ?_; refine cp ?_; (try simp only [List.toList_toArray, List.map_cons, List.map_nil, List.size_toArray, List.length_cons, List.length_nil, Nat.zero_add]); (try simp only [Nat.reduceAdd]); (iterate 3 ((try simp only [go_sem, -Nat.reduceAdd]); try simp only [Nat.reduceAdd])); refine And.intro ?_ (u _ ?_)
        ·
         subst hall; clear u U; exact qP
        ·
         clear u U hall all; refine iM ?_; refine fU ?_; obtain rfl := al hi1; exact ⟨_, rfl, (Wk.canonD [] [] [some 0, some 2] rfl trivial rfl (ar 1 (ar 0 bn rfl qM rfl (aj (by rfl) (tI (ah _)))) rfl qM rfl (aj (by rfl) tv)) (tA 4 (tA 2 aI tp) tp))⟩
 ·
  rintro d25 rfl; have h0 := Ex.k_go h0; clear hi1; unfold l3; refine aa [2,4] fun tz U u => ?_; obtain ⟨x28, bx28, h0⟩ := bnd h0; (try simp only [go_sem]); (refine lq (p4 d25 bx28) ?_; try dsimp only); (try refine ap ?_); (try simp only [go_sem]); refine qU u ?_; clear u U; refine aM ?_; obtain rfl := al h0; refine aF ?_; refine ax Cr qR ?_; refine Res.mk [] [some 6] rfl (fh qM rfl (TmL.of_eq qL (ah _)) cO) (Tm.tup (tc (Tm.agg (aj (by rfl) tr)) (tc tv tn))); (all_goals exact qN)


theorem tY (a0 : Sender) (a1 : BlockAnswer) {r : (Sender × Int)} (h0 : fO a0 a1 = some r) : SndP K 26 [(.agg (bp a0)), (.agg (bf a1))] (.tup [(.agg (bp r.1)), (vi r.2)]) :=
 la.pure (rM (t4 a0 a1 h0) (aE.tup (RenML.cons (aE.agg (bB _ (aE.ref 0 0 _ _))) (RenML.cons rv RenML.nil))) (bo (ah _) cx) (af (aw.agg (aR _)) (af (aw.agg (gI _)) az))) (aw.tup (af (aw.agg (aR _)) (af cv az))) (af (aw.agg (aR _)) (af (aw.agg (gI _)) az)) qV
theorem gy (a0 : Int) {r : Bool} (h0 : c9 a0 = some r) : SndP K 61 [(vi a0)] (vb r) := by
 refine SndP.of_walkW hC cv (af cv az) (show K.P.funcs[61]? = some Try.f61 from Try.func61) rfl rfl (by decide +kernel) (qB2 rfl) ?_; unfold c9 at h0; refine aa [0] fun tz U u => ?_; (try simp only [go_sem]); refine qU u ?_; clear u U; refine aa [0] fun tz U u => ?_; refine bg 3 qS qS (by rfl) fun V v => ?_; refine ap ?_; (try simp only [go_sem]); refine v _ ?_; clear v V; refine bt 3 [(8, (vb ((decide (0 ≤ a0)) && (decide (a0 < 4096)))))] qS qS (by rfl) (fun V v => ?_) fun tz => ?_
 ·
  refine ap ?_; rcases bE (decide (0 ≤ a0)) with h1 | h1
  ·
   (try simp only [go_sem, h1]); exact v _ ⟨rfl, (qB h1), trivial⟩
  ·
   (try simp only [go_sem, h1]); exact v _ ⟨rfl, (qB h1), trivial⟩
 ·
  refine ap ?_; (try simp only [go_sem]); refine qU u ?_; clear u U; refine aM ?_; obtain rfl := al h0; refine aF ?_; refine ax Kt (rfl) ?_; exact qF
theorem mV (a0 : Int) {r : Bool} (h0 : dZ a0 = some r) : SndP K 72 [(vi a0)] (vb r) := by
 refine SndP.of_walkW hC cv (af cv az) (show K.P.funcs[72]? = some Try.f72 from Try.func72) rfl rfl (by decide +kernel) (qB2 rfl) ?_; unfold dZ at h0; refine aa [0] fun tz U u => ?_; (try simp only [go_sem]); refine qU u ?_; clear u U; refine aa [0] fun tz U u => ?_; refine bg 3 qS qS (by rfl) fun V v => ?_; refine ap ?_; (try simp only [go_sem]); refine v _ ?_; clear v V; refine bt 3 [(8, (vb ((decide (0 ≤ a0)) && (decide (a0 < 4096)))))] qS qS (by rfl) (fun V v => ?_) fun tz => ?_
 ·
  refine ap ?_; rcases bE (decide (0 ≤ a0)) with h1 | h1
  ·
   (try simp only [go_sem, h1]); exact v _ ⟨rfl, (qB h1), trivial⟩
  ·
   (try simp only [go_sem, h1]); exact v _ ⟨rfl, (qB h1), trivial⟩
 ·
  refine ap ?_; (try simp only [go_sem]); refine qU u ?_; clear u U; refine aM ?_; obtain rfl := al h0; refine aF ?_; refine ax L4 (rfl) ?_; exact qF
theorem kA (a0 : Window) {r : Int} (h0 : eC a0 = some r) : SndP K 62 [(.agg (aU a0))] (vi r) := by
 refine SndP.of_walkW hC cv (af (aw.agg (aG _)) az) (show K.P.funcs[62]? = some Try.f62 from Try.func62) rfl rfl (by decide +kernel) (qB2 rfl) ?_; unfold eC at h0; refine aa [0] fun tz U u => ?_; (try simp only [go_sem]); refine qU u ?_; clear u U; refine ak ?_; refine aa [1] fun tz U u => ?_; obtain ⟨x32, bx32, h0⟩ := bnd h0; (try simp only [go_sem]); (refine aP (mV a0.Start bx32) ?_; try dsimp only); (try refine ap ?_); (try simp only [go_sem]); refine qU u ?_; clear u U; refine aN (b := (!x32)) rfl (fun h1 => ?_) (fun h1 => ?_)
 ·
  have h0 := cT h0 h1; refine ak ?_; refine aa [] fun tz U u => ?_; (try simp only [go_sem]); refine qU u ?_; clear u U; refine bA ?_; obtain rfl := al h0; refine aF ?_; refine ax Kj (rfl) ?_; exact qF
 ·
  have h0 := cF h0 h1; refine aQ ?_; refine aa [] fun tz U u => ?_; (try simp only [go_sem]); refine qU u ?_; clear u U; refine aM ?_; obtain rfl := al h0; refine aF ?_; refine ax Kj (rfl) ?_; exact qF
theorem jn (a0 : Int) {r : Bool} (h0 : ee a0 = some r) : SndP K 55 [(vi a0)] (vb r) := by
 refine SndP.of_walkW hC cv (af cv az) (show K.P.funcs[55]? = some Try.f55 from Try.func55) rfl rfl (by decide +kernel) (qB2 rfl) ?_; unfold ee at h0; refine aa [0] fun tz U u => ?_; (try simp only [go_sem]); refine qU u ?_; clear u U; refine aa [0] fun tz U u => ?_; refine bg 3 qS qS (by rfl) fun V v => ?_; refine ap ?_; (try simp only [go_sem]); refine v _ ?_; clear v V; refine bt 3 [(8, (vb ((decide (0 ≤ a0)) && (decide (a0 ≤ 1099511627776)))))] qS qS (by rfl) (fun V v => ?_) fun tz => ?_
 ·
  refine ap ?_; rcases bE (decide (0 ≤ a0)) with h1 | h1
  ·
   (try simp only [go_sem, h1]); exact v _ ⟨rfl, (qB h1), trivial⟩
  ·
   (try simp only [go_sem, h1]); exact v _ ⟨rfl, (qB h1), trivial⟩
 ·
  refine ap ?_; (try simp only [go_sem]); refine qU u ?_; clear u U; refine aM ?_; obtain rfl := al h0; refine aF ?_; refine ax Mw (rfl) ?_; exact qF
def l5 (d34 : Unit) : AS :=
 { objs := (fun _ => .dead), next := 0, tmps := (fun _ => .unk) }

def lS (a0 : Reorder) (d36 : (Int × Int)) : AS :=
 { objs := (upd (fun _ => .dead) 0 (.live (aB a0 (.imm (List.flatMap ai a0.Held) a0.Held.length)))), next := 1, tmps := (upd (upd (upd (upd (upd (fun _ => .unk) 1 (.ptr 0 0)) 3 (vi d36.1)) 38 (.imm (List.flatMap ai a0.Held) a0.Held.length)) 39 (vi (a0.Held.length : Int))) 40 (vi d36.2)) }

def ma (a0 : Reorder) (x38 : Int) (d36 : (Int × Int)) (x41 : Bool) : AS :=
 { objs := (upd (fun _ => .dead) 0 (.live (aB a0 (.imm (List.flatMap ai a0.Held) a0.Held.length)))), next := 1, tmps := (upd (upd (upd (upd (upd (upd (fun _ => .unk) 1 (.ptr 0 0)) 6 (vi x38)) 38 (.imm (List.flatMap ai a0.Held) a0.Held.length)) 39 (vi (a0.Held.length : Int))) 40 (vi d36.2)) 73 (vb ((x41 || (decide (x38 ≤ d36.1))) || (decide (a0.Size ≤ x38))))) }

theorem fJ (a0 : Reorder) {r : Int} (h0 : dX a0 = some r) : SndP K 42 [(.agg (cQ a0))] (vi r) := by
 refine SndP.of_walkW hC cv (af (aw.agg (bv _)) az) (show K.P.funcs[42]? = some Try.f42 from Try.func42) rfl rfl (by decide +kernel) (qB2 rfl) ?_; unfold dX at h0; refine aa [0] fun tz U u => ?_; (try simp only [go_sem]); refine qU u ?_; clear u U; refine ak ?_; refine aa [1] fun tz U u => ?_; obtain ⟨x31, bx31, h0⟩ := bnd h0; (try simp only [go_sem]); (refine aP (gy a0.Start bx31) ?_; try dsimp only); (try refine ap ?_); refine bg 2 qS qS (by rfl) fun V v => ?_; refine ap ?_; (try simp only [go_sem]); refine v _ ?_; clear v V; refine bt 4 [(1, (.ptr 0 0)), (15, (vb ((!x31) || (decide (a0.Size < 1)))))] qS qS (by rfl) (fun V v => ?_) fun tz => ?_
 ·
  refine ap ?_; rcases bE (!x31) with h1 | h1
  ·
   (try simp only [go_sem, h1]); exact v _ ⟨rfl, rfl, (qB h1), trivial⟩
  ·
   (try simp only [go_sem, h1]); exact v _ ⟨rfl, rfl, (qB h1), trivial⟩
 ·
  refine ap ?_; refine bg 1 qS qS (by rfl) fun V v => ?_; refine ap ?_; (try simp only [go_sem]); refine v _ ?_; clear v V; refine bt 4 [(1, (.ptr 0 0)), (20, (vb (((!x31) || (decide (a0.Size < 1))) || (decide (64 < a0.Size)))))] qS qS (by rfl) (fun V v => ?_) fun tz => ?_
  ·
   refine ap ?_; rcases bE ((!x31) || (decide (a0.Size < 1))) with h2 | h2
   ·
    (try simp only [go_sem, h2]); exact v _ ⟨rfl, rfl, (qB h2), trivial⟩
   ·
    (try simp only [go_sem, h2]); exact v _ ⟨rfl, rfl, (qB h2), trivial⟩
  ·
   refine ap ?_; refine bg 1 qS qS (by rfl) fun V v => ?_; refine ap ?_; (try simp only [go_sem]); refine v _ ?_; clear v V; refine bt 4 [(1, (.ptr 0 0)), (25, (vb ((((!x31) || (decide (a0.Size < 1))) || (decide (64 < a0.Size))) || (decide (a0.Hold < 0)))))] qS qS (by rfl) (fun V v => ?_) fun tz => ?_
   ·
    refine ap ?_; rcases bE (((!x31) || (decide (a0.Size < 1))) || (decide (64 < a0.Size))) with h3 | h3
    ·
     (try simp only [go_sem, h3]); exact v _ ⟨rfl, rfl, (qB h3), trivial⟩
    ·
     (try simp only [go_sem, h3]); exact v _ ⟨rfl, rfl, (qB h3), trivial⟩
   ·
    refine ap ?_; refine bg 1 qS qS (by rfl) fun V v => ?_; refine ap ?_; (try simp only [go_sem]); refine v _ ?_; clear v V; refine bt 4 [(1, (.ptr 0 0)), (30, (vb (((((!x31) || (decide (a0.Size < 1))) || (decide (64 < a0.Size))) || (decide (a0.Hold < 0))) || (decide (16777216 < a0.Hold)))))] qS qS (by rfl) (fun V v => ?_) fun tz => ?_
    ·
     refine ap ?_; rcases bE ((((!x31) || (decide (a0.Size < 1))) || (decide (64 < a0.Size))) || (decide (a0.Hold < 0))) with h4 | h4
     ·
      (try simp only [go_sem, h4]); exact v _ ⟨rfl, rfl, (qB h4), trivial⟩
     ·
      (try simp only [go_sem, h4]); exact v _ ⟨rfl, rfl, (qB h4), trivial⟩
    ·
     refine ap ?_; refine bg 1 qS qS (by rfl) fun V v => ?_; refine ap ?_; (try simp only [go_sem]); refine v _ ?_; clear v V; obtain ⟨x33, hvh5, h0⟩ := bnd h0; refine bt 5 [(1, (.ptr 0 0)), (36, (vb x33))] qS qS (by rfl) (fun V v => ?_) fun tz => ?_
     ·
      refine ap ?_; rcases bE (((((!x31) || (decide (a0.Size < 1))) || (decide (64 < a0.Size))) || (decide (a0.Hold < 0))) || (decide (16777216 < a0.Hold))) with h5 | h5
      ·
       have hvh5 := cT hvh5 h5; (try simp only [go_sem, h5]); obtain rfl := al hvh5; exact v _ ⟨rfl, rfl, (qB h5), trivial⟩
      ·
       have hvh5 := cF hvh5 h5; obtain ⟨x32, bx32, hvh5⟩ := bnd hvh5; (try simp only [go_sem, h5]); (refine aP (kA a0.Seen bx32) ?_; try dsimp only); (try refine ap ?_); (try simp only [go_sem, h5]); obtain rfl := al hvh5; exact v _ ⟨rfl, rfl, (qB h5), trivial⟩
     ·
      refine ap ?_; (try simp only [go_sem]); refine qU u ?_; clear u U; refine aN (b := x33) rfl (fun h6 => ?_) (fun h6 => ?_)
      ·
       have h0 := cT h0 h6; refine ak ?_; refine aa [] fun tz U u => ?_; (try simp only [go_sem]); refine qU u ?_; clear u U; refine bA ?_; obtain rfl := al h0; refine aF ?_; refine ax HY (rfl) ?_; exact qF
      ·
       have h0 := cF h0 h6; refine aQ ?_; refine aa [1] fun tz U u => ?_; (try simp only [go_sem]); refine qU u ?_; clear u U; refine ak ?_; refine aa [1,3] fun tz U u => ?_; (try simp only [go_sem]); refine qU u ?_; clear u U; obtain ⟨o35, hi7, h0⟩ := bnd h0; refine dc (fun d34 : Unit => o35 = Ex.go d34) (fun d34 : Unit => l5 d34) ?_ ?_
       ·
        refine bw ?_; refine cL (fun n (d36 : (Int × Int)) => cK a0 n d36 = some o35) (fun d36 : (Int × Int) => lS a0 d36) big (0, 0) (Wk.canonD [] [] [some 0] rfl trivial rfl (ar 0 bn rfl qM rfl (aH (by rfl) (tI (au _)))) (tA 40 (tA 39 (tA 38 (tA 3 (tA 1 aI tp) tv) (tI (au _))) tv) tv)) hi7 ?_; clear hi7; rintro n d36 hl9; rcases n with _ | n8
        ·
         (rw [cK] at hl9; cases hl9)
        ·
         rw [cK] at hl9; unfold lS; refine aa [1,3,38,39,40] fun tz U u => ?_; (try simp only [go_sem]); refine qU u ?_; clear u U; refine aN (b := (decide (d36.2 < (a0.Held.length : Int)))) rfl (fun h10 => ?_) (fun h10 => ?_)
         ·
          have hl9 := cT hl9 h10; refine aQ ?_; refine cy ?_; refine aa [1,3,38,39,40] fun tz U u => ?_; obtain ⟨x37, bx37, hl9⟩ := bnd hl9; obtain ⟨fx37_0, fx37_1, fx37_2, fx37_3⟩ := cz bx37; (try simp only [go_sem, fx37_0, fx37_1, fx37_2]); refine qU u ?_; clear u U; refine aa [1,3,5,38,39,40] fun tz U u => ?_; obtain ⟨x38, bx38, hl9⟩ := bnd hl9; (try simp only [go_sem, fx37_0, fx37_1, fx37_2]); (refine aP (cB a0.Start x37.Frame.Head.Seq bx38) ?_; try dsimp only); (try refine ap ?_); (try simp only [go_sem, fx37_0, fx37_1, fx37_2]); refine qU u ?_; clear u U; refine ak ?_; refine aa [1,3,5,6,38,39,40] fun tz U u => ?_; obtain ⟨x39, bx39, hl9⟩ := bnd hl9; (try simp only [go_sem, fx37_0, fx37_1, fx37_2]); (refine aP (gy x37.Frame.Head.Seq bx39) ?_; try dsimp only); (try refine ap ?_); refine bg 2 qS qS (by rfl) fun V v => ?_; refine ap ?_; (try simp only [go_sem, fx37_0, fx37_1, fx37_2]); refine v _ ?_; clear v V; obtain ⟨x41, hvh11, hl9⟩ := bnd hl9; refine bt 5 [(1, (.ptr 0 0)), (3, (vi d36.1)), (6, (vi x38)), (38, (.imm (List.flatMap ai a0.Held) a0.Held.length)), (39, (vi (a0.Held.length : Int))), (40, (vi d36.2)), (62, (vb x41))] qS qS (by rfl) (fun V v => ?_) fun tz => ?_
          ·
           refine ap ?_; rcases bE (!x39) with h11 | h11
           ·
            have hvh11 := cT hvh11 h11; (try simp only [go_sem, fx37_0, fx37_1, fx37_2, h11]); obtain rfl := al hvh11; exact v _ ⟨rfl, rfl, rfl, rfl, rfl, rfl, rfl, (qB h11), trivial⟩
           ·
            have hvh11 := cF hvh11 h11; obtain ⟨x40, bx40, hvh11⟩ := bnd hvh11; (try simp only [go_sem, fx37_0, fx37_1, fx37_2, h11]); (refine aP (jn x37.At bx40) ?_; try dsimp only); (try refine ap ?_); (try simp only [go_sem, fx37_0, fx37_1, fx37_2, h11]); obtain rfl := al hvh11; exact v _ ⟨rfl, rfl, rfl, rfl, rfl, rfl, rfl, (qB h11), trivial⟩
          ·
           refine ap ?_; refine bg 1 qS qS (by rfl) fun V v => ?_; refine ap ?_; (try simp only [go_sem, fx37_0, fx37_1, fx37_2]); refine v _ ?_; clear v V; refine bt 4 [(1, (.ptr 0 0)), (6, (vi x38)), (38, (.imm (List.flatMap ai a0.Held) a0.Held.length)), (39, (vi (a0.Held.length : Int))), (40, (vi d36.2)), (67, (vb (x41 || (decide (x38 ≤ d36.1)))))] qS qS (by rfl) (fun V v => ?_) fun tz => ?_
           ·
            refine ap ?_; rcases bE x41 with h12 | h12
            ·
             (try simp only [go_sem, fx37_0, fx37_1, fx37_2, h12]); exact v _ ⟨rfl, rfl, rfl, rfl, rfl, rfl, (qB h12), trivial⟩
            ·
             (try simp only [go_sem, fx37_0, fx37_1, fx37_2, h12]); exact v _ ⟨rfl, rfl, rfl, rfl, rfl, rfl, (qB h12), trivial⟩
           ·
            refine ap ?_; refine bg 1 qS qS (by rfl) fun V v => ?_; refine ap ?_; (try simp only [go_sem, fx37_0, fx37_1, fx37_2]); refine v _ ?_; clear v V; refine bt 5 [(1, (.ptr 0 0)), (6, (vi x38)), (38, (.imm (List.flatMap ai a0.Held) a0.Held.length)), (39, (vi (a0.Held.length : Int))), (40, (vi d36.2)), (73, (vb ((x41 || (decide (x38 ≤ d36.1))) || (decide (a0.Size ≤ x38)))))] qS qS (by rfl) (fun V v => ?_) fun tz => ?_
            ·
             refine ap ?_; rcases bE (x41 || (decide (x38 ≤ d36.1))) with h13 | h13
             ·
              (try simp only [go_sem, fx37_0, fx37_1, fx37_2, h13]); exact v _ ⟨rfl, rfl, rfl, rfl, rfl, rfl, (qB h13), trivial⟩
             ·
              (try simp only [go_sem, fx37_0, fx37_1, fx37_2, h13]); exact v _ ⟨rfl, rfl, rfl, rfl, rfl, rfl, (qB h13), trivial⟩
            ·
             refine ap ?_; (try simp only [go_sem, fx37_0, fx37_1, fx37_2]); refine u _ (ma a0 x38 d36 x41) (Wk.canonD [] [] [some 0] rfl trivial rfl (ar 0 bn rfl qM rfl (aH (by rfl) (tI (au _)))) (tA 73 (tA 40 (tA 39 (tA 38 (tA 6 (tA 1 aI tp) tv) (tI (au _))) tv) tv) tv)) ?_; clear u U; unfold ma; refine aN (b := ((x41 || (decide (x38 ≤ d36.1))) || (decide (a0.Size ≤ x38)))) rfl (fun h14 => ?_) (fun h14 => ?_)
             ·
              have hl9 := cT hl9 h14; refine ak ?_; refine aa [] fun tz U u => ?_; (try simp only [go_sem, fx37_0, fx37_1, fx37_2]); refine qU u ?_; clear u U; refine bA ?_; refine jq ?_; refine jO ?_; refine Cj ?_; refine jq ?_; refine jO ?_; obtain rfl := al hl9; obtain rfl := Ex.k_ret h0; refine aF ?_; refine ax HY (rfl) ?_; exact qF
             ·
              have hl9 := cF hl9 h14; refine aQ ?_; refine bC [1,6,38,39,40] fun tz U u => ?_; (try simp only [go_sem, fx37_0, fx37_1, fx37_2]); refine u _ ?_; clear u U; refine iM ?_; refine ep ?_; refine bC [1,3,38,39,40] fun tz U u => ?_; (try simp only [go_sem, fx37_0, fx37_1, fx37_2]); refine u _ ?_; clear u U; refine jd ?_; exact ⟨n8, (x38, IntKind.wrap .i64 (d36.2 + 1)), rfl, hl9, (Wk.canonD [] [] [some 0] rfl trivial rfl (ar 0 bn rfl qM rfl (aH (by rfl) (tI (au _)))) (tA 40 (tA 39 (tA 38 (tA 3 (tA 1 aI tp) tv) (tI (au _))) tv) tv))⟩
         ·
          have hl9 := cF hl9 h10; refine cC ?_; refine kS ?_; refine jS ?_; refine fU ?_; obtain rfl := al hl9; exact ⟨_, rfl, (Wk.canonD [] [] [] rfl trivial rfl bn aI)⟩
       ·
        rintro d34 rfl; have h0 := Ex.k_go h0; clear hi7; unfold l5; refine aa [] fun tz U u => ?_; (try simp only [go_sem]); refine qU u ?_; clear u U; refine aM ?_; obtain rfl := al h0; refine aF ?_; refine ax HY (rfl) ?_; exact qF
def o5 (a2 : Int) (a0 : Int) (a1 : Int) (x31 : Int) : AS :=
 { objs := (upd (upd (fun _ => .dead) 0 (.live (aB Reorder.z cA))) 1 (.live (aB { Reorder.z with Hold := a2, Seen := { Window.z with Start := a0 }, Size := a1, Start := a0 } cA))), next := 2, tmps := (upd (upd (upd (fun _ => .unk) 6 (.ptr 0 0)) 8 (.ptr 1 0)) 17 (vb (x31 != 0))) }

theorem wA (a0 : Int) (a1 : Int) (a2 : Int) {r : (Reorder × Int)} (h0 : lz a0 a1 a2 = some r) : SndP K 27 [(vi a0), (vi a1), (vi a2)] (.tup [(.agg (cQ r.1)), (vi r.2)]) := by
 refine SndP.of_walkW hC (aw.tup (af (aw.agg (bv _)) (af cv az))) (af cv (af cv (af cv az))) (show K.P.funcs[27]? = some Try.f27 from Try.func27) rfl rfl (by decide +kernel) (qB2 rfl) ?_; unfold lz at h0; refine aa [0,1,2] fun tz U u => ?_; (try simp only [go_sem]); refine qU u ?_; clear u U; refine aa [0,1,2,6] fun tz U u => ?_; (try simp only [go_sem]); refine qU u ?_; clear u U; refine ak ?_; refine aa [6,8] fun tz U u => ?_; obtain ⟨x31, bx31, h0⟩ := bnd h0; (try simp only [go_sem]); (refine ya (by first | (simp only [go_sem, fz, kX, cond_true, cond_false] <;> rfl)) (fJ { Reorder.z with Hold := a2, Seen := { Window.z with Start := a0 }, Size := a1, Start := a0 } bx31) ?_; try dsimp only); (try refine ap ?_); (try simp only [go_sem]); refine u _ (o5 a2 a0 a1 x31) (Wk.canonD [] [] [some 0, some 8] rfl trivial rfl (ar 1 (ar 0 bn rfl qM rfl (aH (by rfl) tv)) rfl qM rfl (aH (by rfl) tv)) (tA 17 (tA 8 (tA 6 aI tp) tp) tv)) ?_; clear u U; unfold o5; refine aN (b := (x31 != 0)) rfl (fun h1 => ?_) (fun h1 => ?_)
 ·
  have h0 := cT h0 h1; refine ak ?_; refine aa [6] fun tz U u => ?_; (try simp only [go_sem]); refine qU u ?_; clear u U; refine bA ?_; obtain rfl := al h0; refine aF ?_; refine ax Jz qR ?_; exact qF
 ·
  have h0 := cF h0 h1; refine aQ ?_; refine aa [6,8] fun tz U u => ?_; (try simp only [go_sem]); refine qU u ?_; clear u U; refine aM ?_; obtain rfl := al h0; refine aF ?_; refine ax Jz qR ?_; exact qF
def hZ (a0 : Session_session) (a1 : (List Bool)) (x16 : (Sender × Int)) : AS :=
 { objs := (upd (upd (upd (upd (upd (upd (upd (fun _ => .dead) 0 (.live (ae a0 (.imm (List.flatMap ag a0.sides.Sender.Out) a0.sides.Sender.Out.length) (.imm (List.flatMap ai a0.sides.Reorder.Held) a0.sides.Reorder.Held.length) (.clo 17 [] [(.ptr 1 0)]) (.ref 2 0 a0.out.Delivered.length 1) (.ref 3 0 a0.out.Acked.length 1) (.ref 4 0 a0.out.Dropped.length 1)))) 1 (.live [(.imm (List.map vb a1) a1.length)])) 2 (.live (List.map vi a0.out.Delivered))) 3 (.live (List.map vi a0.out.Acked))) 4 (.live (List.map vi a0.out.Dropped))) 5 (.live (am a0.plan))) 6 (.live (av x16.1 (.imm (List.flatMap ag x16.1.Out) x16.1.Out.length)))), next := 7, tmps := (upd (upd (upd (upd (fun _ => .unk) 0 (.ptr 0 0)) 2 (.ptr 5 0)) 3 (.ptr 6 0)) 4 (vi x16.2)) }

def gR (x17 : Session_session) (a0 : Session_session) (a1 : (List Bool)) (x18 : (BlockAsk × Sender × Int)) : AS :=
 { objs := (upd (upd (upd (upd (upd (upd (upd (upd (fun _ => .dead) 0 (.live (ae x17 (.imm (List.flatMap ag x17.sides.Sender.Out) x17.sides.Sender.Out.length) (.imm (List.flatMap ai x17.sides.Reorder.Held) x17.sides.Reorder.Held.length) (.clo 17 [] [(.ptr 1 0)]) (.ref 2 0 a0.out.Delivered.length 1) (.ref 3 0 a0.out.Acked.length 1) (.ref 4 0 a0.out.Dropped.length 1)))) 1 (.live [(.imm (List.map vb a1) a1.length)])) 2 (.live (List.map vi a0.out.Delivered))) 3 (.live (List.map vi a0.out.Acked))) 4 (.live (List.map vi a0.out.Dropped))) 5 (.live (am a0.plan))) 6 (.live (av x18.2.1 (.imm (List.flatMap ag x18.2.1.Out) x18.2.1.Out.length)))) 7 (.live (bq x18.1))), next := 8, tmps := (upd (upd (upd (upd (upd (fun _ => .unk) 0 (.ptr 0 0)) 2 (.ptr 5 0)) 3 (.ptr 6 0)) 4 (vi x18.2.2)) 5 (.ptr 7 0)) }

def gZ (x21 : Session_session) (a0 : Session_session) (a1 : (List Bool)) : AS :=
 { objs := (upd (upd (upd (upd (upd (upd (fun _ => .dead) 0 (.live (ae x21 (.imm (List.flatMap ag x21.sides.Sender.Out) x21.sides.Sender.Out.length) (.imm (List.flatMap ai x21.sides.Reorder.Held) x21.sides.Reorder.Held.length) (.clo 17 [] [(.ptr 1 0)]) (.ref 2 0 a0.out.Delivered.length 1) (.ref 3 0 a0.out.Acked.length 1) (.ref 4 0 a0.out.Dropped.length 1)))) 1 (.live [(.imm (List.map vb a1) a1.length)])) 2 (.live (List.map vi a0.out.Delivered))) 3 (.live (List.map vi a0.out.Acked))) 4 (.live (List.map vi a0.out.Dropped))) 5 (.live (am a0.plan))), next := 6, tmps := (upd (upd (fun _ => .unk) 0 (.ptr 0 0)) 2 (.ptr 5 0)) }

theorem lH (a0 : Session_session) (a1 : (List Bool)) {r : Session_session} (h0 : dP a0 a1 = some r) : cI K 18 5 (fun q => [(.ptr (q 0) 0)]) [(fun q => (ae a0 (.imm (List.flatMap ag a0.sides.Sender.Out) a0.sides.Sender.Out.length) (.imm (List.flatMap ai a0.sides.Reorder.Held) a0.sides.Reorder.Held.length) (.clo 17 [] [(.ptr (q 1) 0)]) (.ref (q 2) 0 a0.out.Delivered.length 1) (.ref (q 3) 0 a0.out.Acked.length 1) (.ref (q 4) 0 a0.out.Dropped.length 1))), (fun q => [(.imm (List.map vb a1) a1.length)]), (fun q => (List.map vi a0.out.Delivered)), (fun q => (List.map vi a0.out.Acked)), (fun q => (List.map vi a0.out.Dropped))] (fun q => (.tup [])) [(some (fun q => (ae r (.imm (List.flatMap ag r.sides.Sender.Out) r.sides.Sender.Out.length) (.imm (List.flatMap ai r.sides.Reorder.Held) r.sides.Reorder.Held.length) (.clo 17 [] [(.ptr (q 1) 0)]) (.ref (q 2) 0 a0.out.Delivered.length 1) (.ref (q 3) 0 a0.out.Acked.length 1) (.ref (q 4) 0 a0.out.Dropped.length 1)))), (some (fun q => [(.imm (List.map vb a1) a1.length)])), (some (fun q => (List.map vi a0.out.Delivered))), (some (fun q => (List.map vi a0.out.Acked))), (some (fun q => (List.map vi a0.out.Dropped)))] := by
 refine cI.of_walkW hC (RenML.cons (aE.ptr 0 0) RenML.nil) (aK (bb _ (rI (ah _)) (rI (au _)) (aE.clo RenML.nil (RenML.cons (aE.ptr 1 0) RenML.nil)) (aE.ref 2 0 _ _) (aE.ref 3 0 _ _) (aE.ref 4 0 _ _)) (aK (RenML.cons (rI (aO _)) RenML.nil) (aK (RenML.const (ac _)) (aK (RenML.const (ac _)) (aK (RenML.const (ac _)) dO))))) (aD (bb _ (rI (ah _)) (rI (au _)) (aE.clo RenML.nil (RenML.cons (aE.ptr 1 0) RenML.nil)) (aE.ref 2 0 _ _) (aE.ref 3 0 _ _) (aE.ref 4 0 _ _)) (aD (RenML.cons (rI (aO _)) RenML.nil) (aD (RenML.const (ac _)) (aD (RenML.const (ac _)) (aD (RenML.const (ac _)) c4))))) (aE.tup RenML.nil) rfl (qB2 rfl) (show K.P.funcs[18]? = some Try.f18 from Try.func18) rfl rfl (by decide +kernel) (qB2 rfl) ?_; unfold dP at h0; refine aa [0] fun tz U u => ?_; (try simp only [go_sem]); refine qU u ?_; clear u U; refine aa [0,2] fun tz U u => ?_; obtain ⟨x16, bx16, h0⟩ := bnd h0; (try simp only [go_sem]); (refine aP (yc 0 a0.plan.Start a0.plan.Limit a0.plan.Life bx16) ?_; try dsimp only); (try refine ap ?_); (try simp only [go_sem]); refine u _ (hZ a0 a1 x16) (by refine Wk.canonD [] [] [some 0, some 1, some 2, some 3, some 4, some 9, some 21] rfl trivial rfl (ar 6 (ar 5 (ar 4 (ar 3 (ar 2 (ar 1 (ar 0 bn rfl qM rfl (aq (by rfl) (tI (ah _)) (tI (au _)) (Tm.clo tn (tc tp tn)) tr tr tr)) rfl qM rfl (tc (tI (aO _)) tn)) rfl qM rfl (TmL.of_eq qL (ac _))) rfl qM rfl (TmL.of_eq qL (ac _))) rfl qM rfl (TmL.of_eq qL (ac _))) rfl qM rfl (TmL.clean (bS _))) rfl qM rfl (aj (by rfl) (tI (ah _)))) (tA 4 (tA 3 (tA 2 (tA 0 aI tp) tp) tp) tv); all_goals exact qN) ?_; clear u U; unfold hZ; refine aa [0,2,3,4] fun tz U u => ?_; obtain ⟨x17, bx17, h0⟩ := bnd h0; (try simp only [go_sem]); (refine bI [0, 1, 2, 3, 4] (be x16.2 a0 a1 bx17) (by decide) (by decide) ⟨qG, qG, qG, qG, qG, trivial⟩ qG ?_; try dsimp only); (try refine ap ?_); (try simp only [go_sem, lc, ln]); refine qU u ?_; clear u U; refine aa [0,2,3] fun tz U u => ?_; obtain ⟨x18, bx18, h0⟩ := bnd h0; (try simp only [go_sem]); (refine aP (yK x16.1 a0.plan.Size bx18) ?_; try dsimp only); (try refine ap ?_); (try simp only [go_sem]); refine u _ (gR x17 a0 a1 x18) (by refine Wk.canonD [] [] [some 0, some 1, some 2, some 3, some 4, some 5, some 6, some 18] rfl trivial rfl (ar 7 (ar 6 (ar 5 (ar 4 (ar 3 (ar 2 (ar 1 (ar 0 bn rfl qM rfl (aq (by rfl) (tI (ah _)) (tI (au _)) (Tm.clo tn (tc tp tn)) tr tr tr)) rfl qM rfl (tc (tI (aO _)) tn)) rfl qM rfl (TmL.of_eq qL (ac _))) rfl qM rfl (TmL.of_eq qL (ac _))) rfl qM rfl (TmL.of_eq qL (ac _))) rfl qM rfl (TmL.clean (bS _))) rfl qM rfl (aj (by rfl) (tI (ah _)))) rfl qM rfl (TmL.clean (cZ _))) (tA 5 (tA 4 (tA 3 (tA 2 (tA 0 aI tp) tp) tp) tv) tp); all_goals exact qN) ?_; clear u U
 unfold gR; refine aa [0,2,3,4,5] fun tz U u => ?_; obtain ⟨x19, bx19, h0⟩ := bnd h0; (try simp only [go_sem]); (refine bI [0, 1, 2, 3, 4] (be x18.2.2 { x17 with out.Acked := a0.out.Acked, out.Delivered := a0.out.Delivered, out.Dropped := a0.out.Dropped } a1 bx19) (by decide) (by decide) ⟨qG, qG, qG, qG, qG, trivial⟩ qG ?_; try dsimp only); (try refine ap ?_); (try simp only [go_sem, lc, ln]); refine qU u ?_; clear u U; refine aa [0,2,3,5] fun tz U u => ?_; obtain ⟨x20, bx20, h0⟩ := bnd h0; (try simp only [go_sem]); (refine aP (tY x18.2.1 { BlockAnswer.z with Size := a0.plan.Size, Token := x18.1.Token } bx20) ?_; try dsimp only); (try refine ap ?_); (try simp only [go_sem]); refine qU u ?_; clear u U; refine aa [0,2,4] fun tz U u => ?_; obtain ⟨x21, bx21, h0⟩ := bnd h0; (try simp only [go_sem]); (refine bI [0, 1, 2, 3, 4] (be x20.2 { x19 with out.Acked := a0.out.Acked, out.Delivered := a0.out.Delivered, out.Dropped := a0.out.Dropped, sides.Sender := x20.1 } a1 bx21) (by decide) (by decide) ⟨qG, qG, qG, qG, qG, trivial⟩ qG ?_; try dsimp only); (try refine ap ?_); (try simp only [go_sem, lc, ln]); refine u _ (gZ x21 a0 a1) (by refine Wk.canonD [] [] [some 0, some 1, some 2, some 3, some 4, some 5] rfl trivial rfl (ar 5 (ar 4 (ar 3 (ar 2 (ar 1 (ar 0 bn rfl qM rfl (aq (by rfl) (tI (ah _)) (tI (au _)) (Tm.clo tn (tc tp tn)) tr tr tr)) rfl qM rfl (tc (tI (aO _)) tn)) rfl qM rfl (TmL.of_eq qL (ac _))) rfl qM rfl (TmL.of_eq qL (ac _))) rfl qM rfl (TmL.of_eq qL (ac _))) rfl qM rfl (TmL.clean (bS _))) (tA 2 (tA 0 aI tp) tp); all_goals exact qN) ?_; clear u U; unfold gZ; refine aa [0,2] fun tz U u => ?_; obtain ⟨x22, bx22, h0⟩ := bnd h0; (try simp only [go_sem]); (refine aP (wA a0.plan.Start a0.plan.Size a0.plan.Hold bx22) ?_; try dsimp only); (try refine ap ?_); (try simp only [go_sem]); refine qU u ?_; clear u U; refine bC [0,4] fun tz U u => ?_; obtain ⟨x23, bx23, h0⟩ := bnd h0; (try simp only [go_sem]); (refine bI [0, 1, 2, 3, 4] (be x22.2 { x21 with out.Acked := a0.out.Acked, out.Delivered := a0.out.Delivered, out.Dropped := a0.out.Dropped, sides.Reorder := x22.1 } a1 bx23) (by decide) (by decide) ⟨qG, qG, qG, qG, qG, trivial⟩ qG ?_; try dsimp only); (try refine ap ?_); (try simp only [go_sem, lc, ln]); refine u _ ?_; clear u U; obtain rfl := al h0; refine aF ?_; refine d9 LH (rfl) ?_; refine dh.mk [] [some 0, some 1, some 2, some 3, some 4] rfl (aS qM rfl (aq (by rfl) (tI (ah _)) (tI (au _)) (Tm.clo tn (tc tp tn)) tr tr tr) (aS qM rfl (tc (tI (aO _)) tn) (aS qM rfl (TmL.of_eq qL (ac _)) (aS qM rfl (TmL.of_eq qL (ac _)) (aS qM rfl (TmL.of_eq qL (ac _)) ea))))) (Tm.tup tn)
 all_goals exact qN
def ne (a0 : Sender) (d27 : (List Int)) : AS :=
 { objs := (upd (upd (upd (fun _ => .dead) 0 (.live (av a0 (.imm (List.flatMap ag a0.Out) a0.Out.length)))) 1 (.live (List.map vi d27))) 2 (.live (av Sender.z cA))), next := 3, tmps := (upd (upd (upd (fun _ => .unk) 1 (.ptr 0 0)) 2 (.ref 1 0 d27.length 1)) 3 (.ptr 2 0)) }

def nt (a0 : Sender) (d28 : (List Int × Int)) : AS :=
 { objs := (upd (upd (upd (fun _ => .dead) 0 (.live (av a0 (.imm (List.flatMap ag a0.Out) a0.Out.length)))) 1 (.live (List.map vi d28.1))) 2 (.live (av Sender.z cA))), next := 3, tmps := (upd (upd (upd (upd (upd (upd (fun _ => .unk) 1 (.ptr 0 0)) 2 (.ref 1 0 d28.1.length 1)) 3 (.ptr 2 0)) 15 (.imm (List.flatMap ag a0.Out) a0.Out.length)) 16 (vi (a0.Out.length : Int))) 17 (vi d28.2)) }

theorem vy (a0 : Sender) {r : ((List Int) × Sender × Int)} (h0 : fA a0 = some r) : fT K 28 [(.agg (bp a0))] (fun q => (.tup [(.ref (q 0) 0 r.1.length 1), (.agg (bp r.2.1)), (vi r.2.2)])) [(List.map vi r.1)] := by
 refine fT.of_walkW hC (show K.P.funcs[28]? = some Try.f28 from Try.func28) rfl rfl (by decide +kernel) (qB2 rfl) ?_; unfold fA at h0; refine aa [0] fun tz U u => ?_; (try simp only [go_sem]); refine qU u ?_; clear u U; refine ak ?_; refine aa [1,2,3] fun tz U u => ?_; obtain ⟨x26, bx26, h0⟩ := bnd h0; (try simp only [go_sem]); (refine aP (fi a0 bx26) ?_; try dsimp only); (try refine ap ?_); (try simp only [go_sem]); refine qU u ?_; clear u U; refine ak ?_; refine aa [1,2,3,5] fun tz U u => ?_; (try simp only [go_sem]); refine qU u ?_; clear u U; refine aN (b := (x26 != 0)) rfl (fun h1 => ?_) (fun h1 => ?_)
 ·
  have h0 := cT h0 h1; refine ak ?_; refine aa [3,5] fun tz U u => ?_; (try simp only [go_sem]); refine qU u ?_; clear u U; refine bA ?_; obtain rfl := al h0; refine aF ?_; refine ax Ju qR ?_; refine Res.mk [] [none] rfl (cP cO) (Tm.tup (tc tT (tc (Tm.agg (aj (by rfl) (Tm.nil))) (tc tv tn))))
 ·
  have h0 := cF h0 h1; refine aQ ?_; refine ak ?_; refine aa [1,2,3] fun tz U u => ?_; (try simp only [go_sem]); refine qU u ?_; clear u U; obtain ⟨d27, hi2, h0⟩ := bnd h0; refine dc (fun z => d27 = z) (fun d27 : (List Int) => ne a0 d27) ?_ ?_
  ·
   refine bw ?_; refine cL (fun n (d28 : (List Int × Int)) => dI a0 n d28 = some d27) (fun d28 : (List Int × Int) => nt a0 d28) big ([], 0) (Wk.canonD [] [] [some 0, none, some 2] rfl trivial rfl (ar 2 (vd 1 (ar 0 bn rfl qM rfl (aj (by rfl) (tI (ah _)))) rfl) rfl qM rfl (aj (by rfl) tv)) (tA 17 (tA 16 (tA 15 (tA 3 (tA 2 (tA 1 aI tp) tT) tp) (tI (ah _))) tv) tv)) hi2 ?_; clear hi2; rintro n d28 hl4; rcases n with _ | n3
   ·
    (rw [dI] at hl4; cases hl4)
   ·
    rw [dI] at hl4; unfold nt; refine aa [1,2,3,15,16,17] fun tz U u => ?_; (try simp only [go_sem]); refine qU u ?_; clear u U; refine aN (b := (decide (d28.2 < (a0.Out.length : Int)))) rfl (fun h5 => ?_) (fun h5 => ?_)
    ·
     have hl4 := cT hl4 h5; refine aQ ?_; refine cy ?_; refine aa [1,2,3,15,16,17] fun tz U u => ?_; obtain ⟨x29, bx29, hl4⟩ := bnd hl4; obtain ⟨fx29_0, fx29_1, fx29_2, fx29_3⟩ := cz bx29; (try simp only [go_sem, fx29_0, fx29_1, fx29_2]); refine qU u ?_; clear u U; refine bC [1,2,3,7,15,16,17] fun tz U u => ?_; obtain ⟨x30, bx30, hl4⟩ := bnd hl4; have bx30 := bP bx30; simp only [Bool.and_eq_true, decide_eq_true_eq] at bx30; have gx30_0 := bx30; (try simp only [go_sem, fx29_0, fx29_1, fx29_2, gx30_0]); refine u _ ?_; clear u U; refine iM ?_; refine ep ?_; refine bC [1,2,3,15,16,17] fun tz U u => ?_; (try simp only [go_sem, fx29_0, fx29_1, fx29_2]); refine u _ ?_; clear u U; refine jd ?_; exact ⟨n3, ((d28.1 ++ [x29.Frame.Head.Seq]), IntKind.wrap .i64 (d28.2 + 1)), rfl, hl4, (by refine Wk.canonD [] [] [some 0, some 14, some 2] rfl trivial rfl (ar 2 (ar 1 (ar 0 bn rfl qM rfl (aj (by rfl) (tI (ah _)))) rfl qM rfl (TmL.of_eq qL (ac _))) rfl qM rfl (aj (by rfl) tv)) (tA 17 (tA 16 (tA 15 (tA 3 (tA 2 (tA 1 aI tp) tr) tp) (tI (ah _))) tv) tv); all_goals exact qN)⟩
    ·
     have hl4 := cF hl4 h5; refine cC ?_; refine kS ?_; refine jS ?_; refine fU ?_; obtain rfl := al hl4; exact ⟨_, rfl, (by refine Wk.canonD [] [] [some 0, some 1, some 2] rfl trivial rfl (ar 2 (ar 1 (ar 0 bn rfl qM rfl (aj (by rfl) (tI (ah _)))) rfl qM rfl (TmL.of_eq qL (ac _))) rfl qM rfl (aj (by rfl) tv)) (tA 3 (tA 2 (tA 1 aI tp) tr) tp); all_goals exact qN)⟩
  ·
   rintro _ rfl; clear hi2; unfold ne; refine aa [1,2,3] fun tz U u => ?_; (try simp only [go_sem]); refine qU u ?_; clear u U; refine dV [1,2,3] (fun _ => rfl) fun tz => ?_; refine cm fun U u all hall => ?_; refine cp ?_; (try simp only [List.toList_toArray, List.map_cons, List.map_nil, List.size_toArray, List.length_cons, List.length_nil, Nat.zero_add]); (try simp only [Nat.reduceAdd]); (iterate 3 ((try simp only [go_sem, -Nat.reduceAdd]); try simp only [Nat.reduceAdd])); refine And.intro ?_ (u _ _ (Wk.refl _ _ _) ?_)
   ·
    subst hall; clear u U; exact qP
   ·
    clear u U hall all; refine aM ?_; obtain rfl := al h0; refine aF ?_; refine ax Ju qR ?_; refine Res.mk [] [some 1] rfl (fh qM rfl (TmL.of_eq qL (ac _)) cO) (Tm.tup (tc tr (tc (Tm.agg (aj (by rfl) (Tm.nil))) (tc tv tn)))); (all_goals exact qN)


theorem wa (a0 : Sender) {r : ((List Int) × Sender × Int)} (h0 : fA a0 = some r) : SndP K 28 [(.agg (bp a0))] (.tup [(lM r.1), (.agg (bp r.2.1)), (vi r.2.2)]) :=
 la.pure (rM (vy a0 h0) (aE.tup (RenML.cons (aE.ref 0 0 _ _) (RenML.cons (aE.const (aw.agg (aR _))) (RenML.cons rv RenML.nil)))) (bo (ac _) cx) (af (aw.agg (aR _)) az)) (aw.tup (af (dj _) (af (aw.agg (aR _)) (af cv az)))) (af (aw.agg (aR _)) az) qV
def gm (d33 : (List Int)) : AS :=
 { objs := (upd (fun _ => .dead) 0 (.live (List.map vi d33))), next := 1, tmps := (upd (fun _ => .unk) 4 (.ref 0 0 d33.length 1)) }

def gh (a0 : Session_session) (a1 : (List Bool)) (a2 : (List Int)) (d34 : (List Int × Int)) : AS :=
 { objs := (upd (fun _ => .dead) 0 (.live (List.map vi d34.1))), next := 1, tmps := (upd (upd (upd (upd (upd (fun _ => .unk) 0 (.iptr (ae a0 (.imm (List.flatMap ag a0.sides.Sender.Out) a0.sides.Sender.Out.length) (.imm (List.flatMap ai a0.sides.Reorder.Held) a0.sides.Reorder.Held.length) (.clo 17 [] [(.iptr [(.imm (List.map vb a1) a1.length)] 0)]) (.imm (List.map vi a0.out.Delivered) a0.out.Delivered.length) (.imm (List.map vi a0.out.Acked) a0.out.Acked.length) (.imm (List.map vi a0.out.Dropped) a0.out.Dropped.length)) 0)) 4 (.ref 0 0 d34.1.length 1)) 7 (.imm (List.map vi a2) a2.length)) 8 (vi (a2.length : Int))) 9 (vi d34.2)) }

theorem k8 (a0 : Session_session) (a1 : (List Bool)) (a2 : (List Int)) {r : (List Int)} (h0 : ce a0 a1 a2 = some r) : fT K 29 [(.iptr (ae a0 (.imm (List.flatMap ag a0.sides.Sender.Out) a0.sides.Sender.Out.length) (.imm (List.flatMap ai a0.sides.Reorder.Held) a0.sides.Reorder.Held.length) (.clo 17 [] [(.iptr [(.imm (List.map vb a1) a1.length)] 0)]) (.imm (List.map vi a0.out.Delivered) a0.out.Delivered.length) (.imm (List.map vi a0.out.Acked) a0.out.Acked.length) (.imm (List.map vi a0.out.Dropped) a0.out.Dropped.length)) 0), (lM a2)] (fun q => (.ref (q 0) 0 r.length 1)) [(List.map vi r)] := by
 refine fT.of_walkW hC (show K.P.funcs[29]? = some Try.f29 from Try.func29) rfl rfl (by decide +kernel) (qB2 rfl) ?_; unfold ce at h0; refine aa [0,1] fun tz U u => ?_; (try simp only [go_sem]); refine qU u ?_; clear u U; refine ak ?_; refine aa [0,1,4] fun tz U u => ?_; (try simp only [go_sem]); refine qU u ?_; clear u U; obtain ⟨d33, hi1, h0⟩ := bnd h0; refine dc (fun z => d33 = z) (fun d33 : (List Int) => gm d33) ?_ ?_
 ·
  refine bw ?_; refine cL (fun n (d34 : (List Int × Int)) => bN a2 a0 n d34 = some d33) (fun d34 : (List Int × Int) => gh a0 a1 a2 d34) big ([], 0) (Wk.canonD [] [] [none] rfl trivial rfl (vd 0 bn rfl) (tA 9 (tA 8 (tA 7 (tA 4 (tA 0 aI (Tm.clean (aw.iptr (fe _ _ _ _ _ _ _ (aw.imm (ah _)) (aw.imm (au _)) (aw.clo az (af (aw.iptr (af (aw.imm (aO _)) az)) az)) (aw.imm (ac _)) (aw.imm (ac _)) (aw.imm (ac _)))))) tT) (tI (ac _))) tv) tv)) hi1 ?_; clear hi1; rintro n d34 hl3; rcases n with _ | n2
  ·
   (rw [bN] at hl3; cases hl3)
  ·
   rw [bN] at hl3; unfold gh; refine aa [0,4,7,8,9] fun tz U u => ?_; (try simp only [go_sem]); refine qU u ?_; clear u U; refine aN (b := (decide (d34.2 < (a2.length : Int)))) rfl (fun h4 => ?_) (fun h4 => ?_)
   ·
    have hl3 := cT hl3 h4; refine aQ ?_; refine cy ?_; refine aa [0,4,7,8,9] fun tz U u => ?_; obtain ⟨x35, bx35, hl3⟩ := bnd hl3; obtain ⟨fx35_0, fx35_1, fx35_2, fx35_3⟩ := cz bx35; (try simp only [go_sem, fx35_0, fx35_1, fx35_2]); refine qU u ?_; clear u U; refine bC [0,4,6,7,8,9] fun tz U u => ?_; obtain ⟨x36, bx36, hl3⟩ := bnd hl3; (try simp only [go_sem, fx35_0, fx35_1, fx35_2]); (refine aP (cB a0.plan.Start x35 bx36) ?_; try dsimp only); (try refine ap ?_); obtain ⟨x37, bx37, hl3⟩ := bnd hl3; have bx37 := bP bx37; simp only [Bool.and_eq_true, decide_eq_true_eq] at bx37; have gx37_0 := bx37; (try simp only [go_sem, fx35_0, fx35_1, fx35_2, gx37_0]); refine u _ ?_; clear u U; refine iM ?_; refine ep ?_; refine bC [0,4,7,8,9] fun tz U u => ?_; (try simp only [go_sem, fx35_0, fx35_1, fx35_2]); refine u _ ?_; clear u U; refine jd ?_; exact ⟨n2, ((d34.1 ++ [x36]), IntKind.wrap .i64 (d34.2 + 1)), rfl, hl3, (by refine Wk.canonD [] [] [some 14] rfl trivial rfl (ar 0 bn rfl qM rfl (TmL.of_eq qL (ac _))) (tA 9 (tA 8 (tA 7 (tA 4 (tA 0 aI (Tm.clean (aw.iptr (fe _ _ _ _ _ _ _ (aw.imm (ah _)) (aw.imm (au _)) (aw.clo az (af (aw.iptr (af (aw.imm (aO _)) az)) az)) (aw.imm (ac _)) (aw.imm (ac _)) (aw.imm (ac _)))))) tr) (tI (ac _))) tv) tv); all_goals exact qN)⟩
   ·
    have hl3 := cF hl3 h4; refine cC ?_; refine kS ?_; refine jS ?_; refine fU ?_; obtain rfl := al hl3; exact ⟨_, rfl, (by refine Wk.canonD [] [] [some 0] rfl trivial rfl (ar 0 bn rfl qM rfl (TmL.of_eq qL (ac _))) (tA 4 aI tr); all_goals exact qN)⟩
 ·
  rintro _ rfl; clear hi1; unfold gm; refine aa [4] fun tz U u => ?_; (try simp only [go_sem]); refine qU u ?_; clear u U; refine aM ?_; obtain rfl := al h0; refine aF ?_; refine ax LR (rfl) ?_; refine Res.mk [] [some 0] rfl (fh qM rfl (TmL.of_eq qL (ac _)) cO) tr; (all_goals exact qN)


theorem eL (a0 : Session_session) (a1 : (List Bool)) (a2 : (List Int)) {r : (List Int)} (h0 : ce a0 a1 a2 = some r) (fr : Nat) (hs : HS) : jt K 29 [(.iptr (ae a0 (.imm (List.flatMap ag a0.sides.Sender.Out) a0.sides.Sender.Out.length) (.imm (List.flatMap ai a0.sides.Reorder.Held) a0.sides.Reorder.Held.length) (.clo 17 [] [(.iptr [(.imm (List.map vb a1) a1.length)] 0)]) (.imm (List.map vi a0.out.Delivered) a0.out.Delivered.length) (.imm (List.map vi a0.out.Acked) a0.out.Acked.length) (.imm (List.map vi a0.out.Dropped) a0.out.Dropped.length)) 0), (lM a2)] hs fr ⟨(fun q : Nat → Nat => (.ref (q 0) 0 r.length 1)) fun _ => fr, .new (List.map vi r)⟩ :=
 jt.of_res (aE.ref 0 0 _ _) (ac _) (af (aw.iptr (fe _ _ _ _ _ _ _ (np _) (fL _) (aw.clo az (af (aw.iptr (af (kN _) az)) az)) (dj _) (dj _) (dj _))) (af (dj _) az)) (fun a b h => by simp only [h]) (k8 a0 a1 a2 h0) hs fr
def mY (d45 : (List HeldSeq)) : AS :=
 { objs := (upd (fun _ => .dead) 0 (.live (List.flatMap ai d45))), next := 1, tmps := (upd (fun _ => .unk) 2 (.ref 0 0 d45.length 42)) }

def mX (a0 : (List HeldSeq)) (d46 : (List HeldSeq × Int)) : AS :=
 { objs := (upd (fun _ => .dead) 0 (.live (List.flatMap ai d46.1))), next := 1, tmps := (upd (upd (upd (upd (fun _ => .unk) 2 (.ref 0 0 d46.1.length 42)) 5 (.imm (List.flatMap ai a0) a0.length)) 6 (vi (a0.length : Int))) 7 (vi d46.2)) }

theorem oD (a0 : (List HeldSeq)) {r : (List HeldSeq)} (h0 : ey a0 = some r) : fT K 56 [(eF a0)] (fun q => (.ref (q 0) 0 r.length 42)) [(List.flatMap ai r)] := by
 refine fT.of_walkW hC (show K.P.funcs[56]? = some Try.f56 from Try.func56) rfl rfl (by decide +kernel) (qB2 rfl) ?_; unfold ey at h0; refine aa [0] fun tz U u => ?_; (try simp only [go_sem]); refine qU u ?_; clear u U; refine ak ?_; refine aa [0,2] fun tz U u => ?_; (try simp only [go_sem]); refine qU u ?_; clear u U; obtain ⟨d45, hi1, h0⟩ := bnd h0; refine dc (fun z => d45 = z) (fun d45 : (List HeldSeq) => mY d45) ?_ ?_
 ·
  refine bw ?_; refine cL (fun n (d46 : (List HeldSeq × Int)) => dK a0 n d46 = some d45) (fun d46 : (List HeldSeq × Int) => mX a0 d46) big ([], 0) (Wk.canonD [] [] [none] rfl trivial rfl (vd 0 bn rfl) (tA 7 (tA 6 (tA 5 (tA 2 aI tT) (tI (au _))) tv) tv)) hi1 ?_; clear hi1; rintro n d46 hl3; rcases n with _ | n2
  ·
   (rw [dK] at hl3; cases hl3)
  ·
   rw [dK] at hl3; unfold mX; refine aa [2,5,6,7] fun tz U u => ?_; (try simp only [go_sem]); refine qU u ?_; clear u U; refine aN (b := (decide (d46.2 < (a0.length : Int)))) rfl (fun h4 => ?_) (fun h4 => ?_)
   ·
    have hl3 := cT hl3 h4; refine aQ ?_; refine cy ?_; refine aa [2,5,6,7] fun tz U u => ?_; obtain ⟨x47, bx47, hl3⟩ := bnd hl3; obtain ⟨fx47_0, fx47_1, fx47_2, fx47_3⟩ := cz bx47; (try simp only [go_sem, fx47_0, fx47_1, fx47_2]); refine qU u ?_; clear u U; refine kp [2,4,5,6,7] (fun _ => rfl) fun tz => ?_; refine iH fun U u all hall => ?_; refine cp ?_; (try simp only [List.toList_toArray, List.map_cons, List.map_nil, List.size_toArray, List.length_cons, List.length_nil, Nat.zero_add]); (try simp only [Nat.reduceAdd]); obtain ⟨x48, bx48, hl3⟩ := bnd hl3; (iterate 3 ((try simp only [go_sem, -Nat.reduceAdd, fx47_0, fx47_1, fx47_2]); try simp only [Nat.reduceAdd])); (refine eO (fP x47.Frame bx48) ?_; try dsimp only); (try refine cp ?_); obtain ⟨x49, bx49, hl3⟩ := bnd hl3; have bx49 := bP bx49; simp only [Bool.and_eq_true, decide_eq_true_eq] at bx49; have gx49_0 := bx49; (iterate 3 ((try simp only [go_sem, -Nat.reduceAdd, fx47_0, fx47_1, fx47_2, gx49_0]); try simp only [Nat.reduceAdd])); refine And.intro ?_ (u _ ?_)
    ·
     subst hall; clear u U; exact qP
    ·
     clear u U hall all; refine iM ?_; refine ep ?_; refine bC [2,5,6,7] fun tz U u => ?_; (try simp only [go_sem, fx47_0, fx47_1, fx47_2]); refine u _ ?_; clear u U; refine jd ?_; exact ⟨n2, ((d46.1 ++ [{ HeldSeq.z with At := x47.At, Frame := x48 }]), IntKind.wrap .i64 (d46.2 + 1)), rfl, hl3, (by refine Wk.canonD [] [] [some 14] rfl trivial rfl (ar 0 bn rfl qM rfl (TmL.of_eq qL (au _))) (tA 7 (tA 6 (tA 5 (tA 2 aI tr) (tI (au _))) tv) tv); all_goals exact qN)⟩
   ·
    have hl3 := cF hl3 h4; refine cC ?_; refine kS ?_; refine jS ?_; refine fU ?_; obtain rfl := al hl3; exact ⟨_, rfl, (by refine Wk.canonD [] [] [some 0] rfl trivial rfl (ar 0 bn rfl qM rfl (TmL.of_eq qL (au _))) (tA 2 aI tr); all_goals exact qN)⟩
 ·
  rintro _ rfl; clear hi1; unfold mY; refine aa [2] fun tz U u => ?_; (try simp only [go_sem]); refine qU u ?_; clear u U; refine aM ?_; obtain rfl := al h0; refine aF ?_; refine ax K4 (rfl) ?_; refine Res.mk [] [some 0] rfl (fh qM rfl (TmL.of_eq qL (au _)) cO) tr; (all_goals exact qN)

theorem o9 (a0 : (List HeldSeq)) {r : (List HeldSeq)} (h0 : ey a0 = some r) : la K 56 [(eF a0)] (fun q => (.ref (q 0) 0 r.length 42)) [(List.flatMap ai r)] :=
 fun hs => Snd.of_newM (aE.ref 0 0 _ _) (bo (au _) cx) (af (fL _) az) (oD a0 h0) hs

theorem vt (a0 : (List HeldSeq)) {r : (List HeldSeq)} (h0 : ey a0 = some r) (fr : Nat) (hs : HS) : jt K 56 [(eF a0)] hs fr ⟨(fun q : Nat → Nat => (.ref (q 0) 0 r.length 42)) fun _ => fr, .new (List.flatMap ai r)⟩ :=
 jt.of_res (aE.ref 0 0 _ _) (au _) (af (fL _) az) (fun a b h => by simp only [h]) (oD a0 h0) hs fr
theorem lu (a0 : HeldSeq) (a1 : Int) (a2 : Reorder) {r : Int} (h0 : eN a0 a1 a2 = some r) : SndP K 75 [(.agg (ai a0)), (vi a1), (.iptr (cQ a2) 0)] (vi r) := by
 refine SndP.of_walkW hC cv (af (aw.agg (jR _)) (af cv (af (aw.iptr (bv _)) az))) (show K.P.funcs[75]? = some Try.f75 from Try.func75) rfl rfl (by decide +kernel) (qB2 rfl) ?_; unfold eN at h0; refine aa [0,1,2] fun tz U u => ?_; (try simp only [go_sem]); refine qU u ?_; clear u U; refine aa [1,2,3] fun tz U u => ?_; obtain ⟨x55, bx55, h0⟩ := bnd h0; (try simp only [go_sem]); (refine aP (cB a2.Start a0.Frame.Head.Seq bx55) ?_; try dsimp only); (try refine ap ?_); (try simp only [go_sem]); refine qU u ?_; clear u U; refine aM ?_; obtain rfl := al h0; refine aF ?_; refine ax LB (rfl) ?_; exact qF
def cJ (a0 : (List HeldSeq)) (a1 : Int) (a2 : Reorder) (d53 : Int) : AS :=
 { objs := (fun _ => .dead), next := 0, tmps := (upd (upd (upd (upd (upd (fun _ => .unk) 0 (.imm (List.flatMap ai a0) a0.length)) 1 (vi a1)) 2 (.clo 75 [] [(.iptr (aB a2 (.imm (List.flatMap ai a2.Held) a2.Held.length)) 0)])) 8 (vi (a0.length : Int))) 9 (vi d53)) }

def cE (a0 : (List HeldSeq)) (a1 : Int) (a2 : Reorder) (d54 : (Int × Int)) : AS :=
 { objs := (fun _ => .dead), next := 0, tmps := (upd (upd (upd (upd (upd (upd (fun _ => .unk) 0 (.imm (List.flatMap ai a0) a0.length)) 1 (vi a1)) 2 (.clo 75 [] [(.iptr (aB a2 (.imm (List.flatMap ai a2.Held) a2.Held.length)) 0)])) 8 (vi (a0.length : Int))) 9 (vi d54.1)) 10 (vi d54.2)) }

theorem eu (a0 : (List HeldSeq)) (a1 : Int) (a2 : Reorder) {r : (Int × Bool)} (h0 : bF a0 a1 a2 = some r) : SndP K 74 [(eF a0), (vi a1), (.clo 75 [] [(.iptr (cQ a2) 0)])] (.tup [(vi r.1), (vb r.2)]) := by
 refine SndP.of_walkW hC (aw.tup (af cv (af cv az))) (af (fL _) (af cv (af (aw.clo az (af (aw.iptr (bv _)) az)) az))) (show K.P.funcs[74]? = some Try.f74 from Try.func74) rfl rfl (by decide +kernel) (qB2 rfl) ?_; unfold bF at h0; refine aa [0,1,2] fun tz U u => ?_; (try simp only [go_sem]); refine qU u ?_; clear u U; refine aa [0,1,2] fun tz U u => ?_; (try simp only [go_sem]); refine qU u ?_; clear u U; refine aa [0,1,2,8] fun tz U u => ?_; (try simp only [go_sem]); refine qU u ?_; clear u U; obtain ⟨d53, hi1, h0⟩ := bnd h0; refine dc (fun z => d53 = z) (fun d53 : Int => cJ a0 a1 a2 d53) ?_ ?_
 ·
  refine bw ?_; refine cL (fun n (d54 : (Int × Int)) => aL a0 a1 a2 n d54 = some d53) (fun d54 : (Int × Int) => cE a0 a1 a2 d54) big (0, (a0.length : Int)) (Wk.canonD [] [] [] rfl trivial rfl bn (tA 10 (tA 9 (tA 8 (tA 2 (tA 1 (tA 0 aI (tI (au _))) tv) (Tm.clo tn (tc (Tm.clean (aw.iptr (bv _))) tn))) tv) tv) tv)) hi1 ?_; clear hi1; rintro n d54 hl3; rcases n with _ | n2
  ·
   (rw [aL] at hl3; cases hl3)
  ·
   rw [aL] at hl3; unfold cE; refine ak ?_; refine aa [0,1,2,8,9,10] fun tz U u => ?_; (try simp only [go_sem]); refine qU u ?_; clear u U; refine aN (b := (decide (d54.1 < d54.2))) rfl (fun h4 => ?_) (fun h4 => ?_)
   ·
    have hl3 := cT hl3 h4; refine aQ ?_; refine bw ?_; refine aa [0,1,2,8,9,10] fun tz U u => ?_; (try simp only [go_sem]); refine qU u ?_; clear u U; refine aa [0,1,2,8,9,10,11] fun tz U u => ?_; obtain ⟨x55, bx55, hl3⟩ := bnd hl3; obtain ⟨fx55_0, fx55_1, fx55_2, fx55_3⟩ := cz bx55; obtain ⟨x56, bx56, hl3⟩ := bnd hl3; (try simp only [go_sem, fx55_0, fx55_1, fx55_2]); (refine aP (lu x55 a1 a2 bx56) ?_; try dsimp only); (try refine ap ?_); (try simp only [go_sem, fx55_0, fx55_1, fx55_2]); refine qU u ?_; clear u U; refine bK (b := (decide (x56 < 0))) rfl (fun h5 => ?_) (fun h5 => ?_)
    ·
     have hl3 := cT hl3 h5; refine bC [0,1,2,8,10,11] fun tz U u => ?_; (try simp only [go_sem, fx55_0, fx55_1, fx55_2]); refine u _ ?_; clear u U; refine iM ?_; refine jd ?_; exact ⟨n2, (IntKind.wrap .i64 ((IntKind.wrap .i64 (((IntKind.wrap .u64 (IntKind.wrap .i64 (d54.1 + d54.2)))).fdiv (2 ^ (min 1 64)))) + 1), d54.2), rfl, hl3, (Wk.canonD [] [] [] rfl trivial rfl bn (tA 10 (tA 9 (tA 8 (tA 2 (tA 1 (tA 0 aI (tI (au _))) tv) (Tm.clo tn (tc (Tm.clean (aw.iptr (bv _))) tn))) tv) tv) tv))⟩
    ·
     have hl3 := cF hl3 h5; refine bC [0,1,2,8,9,11] fun tz U u => ?_; (try simp only [go_sem, fx55_0, fx55_1, fx55_2]); refine u _ ?_; clear u U; refine iM ?_; refine jd ?_; exact ⟨n2, (d54.1, IntKind.wrap .i64 (((IntKind.wrap .u64 (IntKind.wrap .i64 (d54.1 + d54.2)))).fdiv (2 ^ (min 1 64)))), rfl, hl3, (Wk.canonD [] [] [] rfl trivial rfl bn (tA 10 (tA 9 (tA 8 (tA 2 (tA 1 (tA 0 aI (tI (au _))) tv) (Tm.clo tn (tc (Tm.clean (aw.iptr (bv _))) tn))) tv) tv) tv))⟩
   ·
    have hl3 := cF hl3 h4; refine cC ?_; refine kS ?_; refine jS ?_; refine fU ?_; obtain rfl := al hl3; exact ⟨_, rfl, (Wk.canonD [] [] [] rfl trivial rfl bn (tA 9 (tA 8 (tA 2 (tA 1 (tA 0 aI (tI (au _))) tv) (Tm.clo tn (tc (Tm.clean (aw.iptr (bv _))) tn))) tv) tv))⟩
 ·
  rintro _ rfl; clear hi1; unfold cJ; refine aa [0,1,2,8,9] fun tz U u => ?_; rcases bE (decide (d53 < (a0.length : Int))) with h6 | h6
  ·
   have h0 := cT h0 h6; obtain ⟨x57, bx57, h0⟩ := bnd h0; obtain ⟨fx57_0, fx57_1, fx57_2, fx57_3⟩ := cz bx57; obtain ⟨x58, bx58, h0⟩ := bnd h0; (try simp only [go_sem, h6, fx57_0, fx57_1, fx57_2]); (refine aP (lu x57 a1 a2 bx58) ?_; try dsimp only); (try refine ap ?_); (try simp only [go_sem, h6, fx57_0, fx57_1, fx57_2]); refine qU u ?_; clear u U; refine aM ?_; obtain rfl := al h0; refine aF ?_; refine ax J6 (rfl) ?_; exact qF
  ·
   have h0 := cF h0 h6; (try simp only [go_sem, h6]); refine qU u ?_; clear u U; refine aM ?_; obtain rfl := al h0; refine aF ?_; refine ax J6 (rfl) ?_; exact qF
theorem nr (a0 : Reorder) (a1 : Int) {r : (Int × Bool)} (h0 : fM a0 a1 = some r) : SndP K 65 [(.agg (cQ a0)), (vi a1)] (.tup [(vi r.1), (vb r.2)]) := by
 refine SndP.of_walkW hC (aw.tup (af cv (af cv az))) (af (aw.agg (bv _)) (af cv az)) (show K.P.funcs[65]? = some Try.f65 from Try.func65) rfl rfl (by decide +kernel) (qB2 rfl) ?_; unfold fM at h0; refine aa [0,1] fun tz U u => ?_; (try simp only [go_sem]); refine qU u ?_; clear u U; refine aa [1,2] fun tz U u => ?_; obtain ⟨x52, bx52, h0⟩ := bnd h0; (try simp only [go_sem]); (refine aP (cB a0.Start a1 bx52) ?_; try dsimp only); (try refine ap ?_); obtain ⟨x53, bx53, h0⟩ := bnd h0; (try simp only [go_sem]); (refine lk (by first | (simp only [go_sem, fz] <;> rfl) | (simp only [go_sem, fz, List.length_set, eG, ge, cond_true, cond_false] <;> rfl)) (eu a0.Held x52 a0 bx53) (rT (by rfl)) ?_; try dsimp only); (try refine ap ?_); (try simp only [go_sem]); refine qU u ?_; clear u U; refine aM ?_; obtain rfl := al h0; refine aF ?_; refine ax Ml (rfl) ?_; exact qF
theorem iU (a0 : Int) (a1 : Int) {r : Int} (h0 : eH a0 a1 = some r) : SndP K 59 [(vi a0), (vi a1)] (vi r) := by
 refine SndP.of_walkW hC cv (af cv (af cv az)) (show K.P.funcs[59]? = some Try.f59 from Try.func59) rfl rfl (by decide +kernel) (qB2 rfl) ?_; unfold eH at h0; refine aa [0,1] fun tz U u => ?_; (try simp only [go_sem]); refine qU u ?_; clear u U; refine aa [0,1] fun tz U u => ?_; (try simp only [go_sem]); refine qU u ?_; clear u U; refine aM ?_; obtain rfl := al h0; refine aF ?_; refine ax KZ (rfl) ?_; exact qF
def nh (a0 : Reorder) (a1 : Int) (x52 : (Int × Bool)) (d54 : (List Frame)) : AS :=
 { objs := (upd (upd (upd (upd (fun _ => .dead) 0 (.live (List.flatMap ai a0.Held))) 1 (.live (aB a0 (.ref 0 0 a0.Held.length 42)))) 2 (.live (List.flatMap aY d54))) 3 (.live (aB Reorder.z cA))), next := 4, tmps := (upd (upd (upd (upd (upd (fun _ => .unk) 1 (vi a1)) 2 (.ptr 1 0)) 4 (.ref 2 0 d54.length 41)) 5 (.ptr 3 0)) 6 (vi x52.1)) }

def na (a0 : Reorder) (a1 : Int) (x52 : (Int × Bool)) (d55 : (List Frame × Nat × Int × Int)) : AS :=
 { objs := (upd (upd (upd (upd (fun _ => .dead) 0 (.live (List.flatMap ai a0.Held))) 1 (.live (aB a0 (.ref 0 0 a0.Held.length 42)))) 2 (.live (List.flatMap aY d55.1))) 3 (.live (aB Reorder.z cA))), next := 4, tmps := (upd (upd (upd (upd (upd (upd (upd (upd (fun _ => .unk) 1 (vi a1)) 2 (.ptr 1 0)) 4 (.ref 2 0 d55.1.length 41)) 5 (.ptr 3 0)) 6 (vi x52.1)) 19 (.ref 0 0 d55.2.1 42)) 20 (vi d55.2.2.1)) 21 (vi d55.2.2.2)) }

def nq (d60 : (Reorder × List HeldSeq × List Frame)) : AS :=
 { objs := (upd (upd (upd (upd (fun _ => .dead) 1 (.live (aB d60.1 (.ref 2 0 d60.2.1.length 42)))) 2 (.live (List.flatMap ai d60.2.1))) 3 (.live (List.flatMap aY d60.2.2))) 4 (.live (aB Reorder.z cA))), next := 5, tmps := (upd (upd (upd (fun _ => .unk) 2 (.ptr 1 0)) 4 (.ref 3 0 d60.2.2.length 41)) 5 (.ptr 4 0)) }

def m9 (d61 : (Reorder × List HeldSeq × List Frame)) : AS :=
 { objs := (upd (upd (upd (upd (fun _ => .dead) 1 (.live (aB d61.1 (.ref 2 0 d61.2.1.length 42)))) 2 (.live (List.flatMap ai d61.2.1))) 3 (.live (List.flatMap aY d61.2.2))) 4 (.live (aB Reorder.z cA))), next := 5, tmps := (upd (upd (upd (fun _ => .unk) 2 (.ptr 1 0)) 4 (.ref 3 0 d61.2.2.length 41)) 5 (.ptr 4 0)) }

theorem jT (a0 : Reorder) (a1 : Int) {r : (List Frame × Reorder × List HeldSeq)} (h0 : eB a0 a1 = some r) : cI K 58 1 (fun q => [(.agg (aB a0 (.ref (q 0) 0 a0.Held.length 42))), (vi a1)]) [(fun q => (List.flatMap ai a0.Held))] (fun q => (.tup [(.ref (q 1) 0 r.1.length 41), (.agg (aB r.2.1 (.ref (q 2) 0 r.2.2.length 42)))])) [none, (some (fun q => (List.flatMap aY r.1))), (some (fun q => (List.flatMap ai r.2.2)))] := by
 refine cI.of_walkW hC (RenML.cons (aE.agg (ig _ (aE.ref 0 0 _ _))) (RenML.cons rv RenML.nil)) (aK (RenML.const (au _)) dO) (eo (aD (RenML.const (bU _)) (aD (RenML.const (au _)) c4))) (aE.tup (RenML.cons (aE.ref 1 0 _ _) (RenML.cons (aE.agg (ig _ (aE.ref 2 0 _ _))) RenML.nil))) rfl (qB2 rfl) (show K.P.funcs[58]? = some Try.f58 from Try.func58) rfl rfl (by decide +kernel) (qB2 rfl) ?_; unfold eB at h0; refine aa [0,1] fun tz U u => ?_; (try simp only [go_sem]); refine qU u ?_; clear u U; refine aa [1,2,4,5] fun tz U u => ?_; obtain ⟨x52, bx52, h0⟩ := bnd h0; (try simp only [go_sem]); (refine lk (by first | (simp only [go_sem, fz] <;> rfl) | (simp only [go_sem, fz, List.length_set, eG, ge, cond_true, cond_false] <;> rfl)) (nr a0 a1 bx52) (rT (by rfl)) ?_; try dsimp only); (try refine ap ?_); (try simp only [go_sem]); refine qU u ?_; clear u U; refine ak ?_; refine aa [1,2,4,5,6] fun tz U u => ?_; obtain ⟨x53, bx53, h0⟩ := bnd h0; have bx53 := bP bx53; simp only [Bool.and_eq_true, decide_eq_true_eq] at bx53; obtain ⟨gx53_0, gx53_1⟩ := bx53; (try simp only [go_sem, gx53_0, gx53_1, Int.sub_zero]); refine qU u ?_; clear u U; obtain ⟨d54, hi1, h0⟩ := bnd h0; refine dc (fun z => d54 = z) (fun d54 : (List Frame) => nh a0 a1 x52 d54) ?_ ?_
 ·
  refine bw ?_; refine cL (fun n (d55 : (List Frame × Nat × Int × Int)) => dF a0 n d55 = some d54) (fun d55 : (List Frame × Nat × Int × Int) => na a0 a1 x52 d55) big ([], (x52.1).toNat, (((x52.1).toNat : Nat) : Int), 0) (by refine Wk.canonD [] [] [some 0, some 1, none, some 3] rfl trivial rfl (ar 3 (vd 2 (ar 1 (ar 0 bn rfl qM rfl (TmL.of_eq qL (au _))) rfl qM rfl (aH (by rfl) tr)) rfl) rfl qM rfl (aH (by rfl) tv)) (tA 21 (tA 20 (tA 19 (tA 6 (tA 5 (tA 4 (tA 2 (tA 1 aI tv) tp) tT) tp) tv) tr) tv) tv); all_goals exact qN) hi1 ?_; clear hi1; rintro n d55 hl3; rcases n with _ | n2
  ·
   (rw [dF] at hl3; cases hl3)
  ·
   rw [dF] at hl3; unfold na; refine aa [1,2,4,5,6,19,20,21] fun tz U u => ?_; (try simp only [go_sem]); refine qU u ?_; clear u U; refine aN (b := (decide (d55.2.2.2 < d55.2.2.1))) rfl (fun h4 => ?_) (fun h4 => ?_)
   ·
    have hl3 := cT hl3 h4; refine aQ ?_; refine cy ?_; refine aa [1,2,4,5,6,19,20,21] fun tz U u => ?_; obtain ⟨x56, bx56, hl3⟩ := bnd hl3; have bx56 := bP bx56; simp only [Bool.and_eq_true, decide_eq_true_eq] at bx56; have gx56_0 := bx56; obtain ⟨x57, bx57, hl3⟩ := bnd hl3; obtain ⟨fx57_0, fx57_1, fx57_2, fx57_3⟩ := cz bx57; (have fx57_5 : ((d55.2.2.2 : Int) < ((d55.2.1 : Nat) : Int)) = True := by first | exact fx57_1 | (simp [List.length_modify, List.length_set]; omega)); (try simp only [go_sem, gx56_0, fx57_0, fx57_1, fx57_2, fx57_5]); refine qU u ?_; clear u U; refine bC [1,2,4,5,6,9,19,20,21] fun tz U u => ?_; obtain ⟨x58, bx58, hl3⟩ := bnd hl3; have bx58 := bP bx58; simp only [Bool.and_eq_true, decide_eq_true_eq] at bx58; have gx58_0 := bx58; (try simp only [go_sem, fx57_0, fx57_1, fx57_2, fx57_5, gx58_0]); refine u _ ?_; clear u U; refine iM ?_; refine ep ?_; refine bC [1,2,4,5,6,19,20,21] fun tz U u => ?_; (try simp only [go_sem, fx57_0, fx57_1, fx57_2, fx57_5]); refine u _ ?_; clear u U; refine jd ?_; exact ⟨n2, ((d55.1 ++ [x57.Frame]), d55.2.1, d55.2.2.1, IntKind.wrap .i64 (d55.2.2.2 + 1)), rfl, hl3, (by refine Wk.canonD [] [] [some 0, some 1, some 13, some 3] rfl trivial rfl (ar 3 (ar 2 (ar 1 (ar 0 bn rfl qM rfl (TmL.of_eq qL (au _))) rfl qM rfl (aH (by rfl) tr)) rfl qM rfl (TmL.of_eq qL (bU _))) rfl qM rfl (aH (by rfl) tv)) (tA 21 (tA 20 (tA 19 (tA 6 (tA 5 (tA 4 (tA 2 (tA 1 aI tv) tp) tr) tp) tv) tr) tv) tv); all_goals exact qN)⟩
   ·
    have hl3 := cF hl3 h4; refine cC ?_; refine kS ?_; refine jS ?_; refine fU ?_; obtain rfl := al hl3; exact ⟨_, rfl, (by refine Wk.canonD [] [] [some 0, some 1, some 2, some 3] rfl trivial rfl (ar 3 (ar 2 (ar 1 (ar 0 bn rfl qM rfl (TmL.of_eq qL (au _))) rfl qM rfl (aH (by rfl) tr)) rfl qM rfl (TmL.of_eq qL (bU _))) rfl qM rfl (aH (by rfl) tv)) (tA 6 (tA 5 (tA 4 (tA 2 (tA 1 aI tv) tp) tr) tp) tv); all_goals exact qN)⟩
 ·
  rintro _ rfl; clear hi1; unfold nh; refine dV [1,2,4,5,6] (fun _ => rfl) fun tz => ?_; refine cm fun U u all hall => ?_; refine cp ?_; (try simp only [List.toList_toArray, List.map_cons, List.map_nil, List.size_toArray, List.length_cons, List.length_nil, Nat.zero_add]); (try simp only [Nat.reduceAdd]); obtain ⟨x59, bx59, h0⟩ := bnd h0; have bx59 := bP bx59; simp only [Bool.and_eq_true, decide_eq_true_eq] at bx59; obtain ⟨gx59_0, gx59_1⟩ := bx59; (have g5 : (((a0.Held.length : Nat) : Int) - x52.1).toNat = a0.Held.length - (x52.1).toNat := by omega); (iterate 3 ((try simp only [go_sem, -Nat.reduceAdd, gx59_0, gx59_1, g5]); try simp only [Nat.reduceAdd])); refine And.intro ?_ (u _ _ (Wk.front 0 (((x52.1).toNat) * 42) [] [(1, (aB { a0 with Start := a1 } (.ref 13 0 (a0.Held.length - (x52.1).toNat) 42)))] (by decide) rfl (zJ _ ((x52.1).toNat) a0.Held) (by rw [fN, List.length_take]; omega) trivial ⟨⟨by decide, by decide, _, rfl, (p6 _ (Fr.ref _ _ _ (by first | rfl | omega | (simp; done) | (simp; omega))))⟩, trivial⟩) ?_)
  ·
   subst hall; clear u U; exact qP
  ·
   clear u U hall all; obtain ⟨d60, hi6, h0⟩ := bnd h0; refine dc (fun z => d60 = z) (fun d60 : (Reorder × List HeldSeq × List Frame) => nq d60) ?_ ?_
   ·
    refine bw ?_; refine cL (fun n (d61 : (Reorder × List HeldSeq × List Frame)) => dH n d61 = some d60) (fun d61 : (Reorder × List HeldSeq × List Frame) => m9 d61) big ({ a0 with Start := a1 }, (List.drop ((x52.1).toNat) a0.Held), d54) (by refine Wk.canonD [] [0] [some 0, some 1, some 13, some 2, some 3] rfl ⟨rfl, trivial⟩ rfl (ar 4 (ar 3 (ar 2 (ar 1 bn rfl qM rfl (aH (by rfl) tr)) rfl qM rfl (TmL.of_eq qL (au _))) rfl qM rfl (TmL.of_eq qL (bU _))) rfl qM rfl (aH (by rfl) tv)) (tA 5 (tA 4 (tA 2 aI tp) tr) tp); all_goals exact qN) hi6 ?_; clear hi6; rintro n d61 hl8; rcases n with _ | n7
    ·
     (rw [dH] at hl8; cases hl8)
    ·
     rw [dH] at hl8; unfold m9; refine ak ?_; refine aa [2,4,5] fun tz U u => ?_; refine bg 5 qS qS (by rfl) fun V v => ?_; refine ap ?_; (try simp only [go_sem]); refine v _ ?_; clear v V; obtain ⟨x63, hvh9, hl8⟩ := bnd hl8; refine bt 11 [(2, (.ptr 1 0)), (4, (.ref 3 0 d61.2.2.length 41)), (5, (.ptr 4 0)), (53, (vb x63))] qS qS (by rfl) (fun V v => ?_) fun tz => ?_
     ·
      refine ap ?_; rcases bE (decide (0 < ((d61.2.1.length : Nat) : Int))) with h9 | h9
      ·
       have hvh9 := cT hvh9 h9; obtain ⟨x62, bx62, hvh9⟩ := bnd hvh9; obtain ⟨fx62_0, fx62_1, fx62_2, fx62_3⟩ := cz bx62; (have fx62_5 : ((0 : Int) < ((d61.2.1.length : Nat) : Int)) = True := by first | exact fx62_1 | (simp [List.length_modify, List.length_set]; omega)); simp only [Int.reduceToNat] at fx62_2 fx62_3; (try simp only [go_sem, h9, fx62_0, fx62_1, fx62_2, pf, oC, Nat.reduceDiv, Nat.reduceMod, fx62_5]); obtain rfl := al hvh9; exact v _ ⟨rfl, rfl, rfl, rfl, (qB h9), trivial⟩
      ·
       have hvh9 := cF hvh9 h9; (try simp only [go_sem, h9]); obtain rfl := al hvh9; exact v _ ⟨rfl, rfl, rfl, rfl, (qB h9), trivial⟩
     ·
      refine ap ?_; (try simp only [go_sem]); refine qU u ?_; clear u U; refine aN (b := x63) rfl (fun h10 => ?_) (fun h10 => ?_)
      ·
       have hl8 := cT hl8 h10; refine aQ ?_; refine bw ?_; refine aa [2,4,5] fun tz U u => ?_; obtain ⟨x64, bx64, hl8⟩ := bnd hl8; obtain ⟨fx64_0, fx64_1, fx64_2, fx64_3⟩ := cz bx64; (have fx64_5 : ((0 : Int) < ((d61.2.1.length : Nat) : Int)) = True := by first | exact fx64_1 | (simp [List.length_modify, List.length_set]; omega)); simp only [Int.reduceToNat] at fx64_2 fx64_3; obtain ⟨x65, bx65, hl8⟩ := bnd hl8; have bx65 := bP bx65; simp only [Bool.and_eq_true, decide_eq_true_eq] at bx65; have gx65_0 := bx65; (try simp only [go_sem, fx64_0, fx64_1, fx64_2, pf, oC, Nat.reduceDiv, Nat.reduceMod, fx64_5, gx65_0]); refine qU u ?_; clear u U; refine kp [2,4,5] (fun _ => rfl) fun tz => ?_; refine iH fun U u all hall => ?_; refine cp ?_; (try simp only [List.toList_toArray, List.map_cons, List.map_nil, List.size_toArray, List.length_cons, List.length_nil, Nat.zero_add]); (try simp only [Nat.reduceAdd]); obtain ⟨x66, bx66, hl8⟩ := bnd hl8; (iterate 3 ((try simp only [go_sem, -Nat.reduceAdd, fx64_0, fx64_1, fx64_2, fx64_5]); try simp only [Nat.reduceAdd])); (refine eO (iU d61.1.Start 1 bx66) ?_; try dsimp only); (try refine cp ?_); obtain ⟨x67, bx67, hl8⟩ := bnd hl8; have bx67 := bP bx67; simp only [Bool.and_eq_true, decide_eq_true_eq] at bx67; have gx67_0 := bx67; (have g11 : (((d61.2.1.length : Nat) : Int) - 1).toNat = d61.2.1.length - 1 := by omega); (iterate 3 ((try simp only [go_sem, -Nat.reduceAdd, fx64_0, fx64_1, fx64_2, fx64_5, gx67_0, g11]); try simp only [Nat.reduceAdd])); refine And.intro ?_ (u _ ((FA CN) _ _ (Wk.front 2 (1 * 42) [] [(1, (aB { d61.1 with Start := x66 } (.ref 40 0 (d61.2.1.length - 1) 42)))] (by decide) rfl (zJ _ 1 d61.2.1) (by rw [fN, List.length_take]; omega) trivial ⟨⟨by decide, by decide, _, rfl, (p6 _ (Fr.ref _ _ _ (by first | rfl | omega | (simp; done) | (simp; omega))))⟩, trivial⟩) ?_))
       ·
        subst hall; clear u U; exact qP
       ·
        clear u U hall all; refine iM ?_; refine jd ?_; exact ⟨n7, ({ d61.1 with Start := x66 }, (List.drop 1 d61.2.1), (d61.2.2 ++ [x64.Frame])), rfl, hl8, (by refine Wk.canonD [] [0] [some 0, some 1, some 40, some 28, some 4] rfl ⟨rfl, trivial⟩ rfl (ar 4 (ar 3 (ar 2 (ar 1 bn rfl qM rfl (aH (by rfl) tr)) rfl qM rfl (TmL.of_eq qL (au _))) rfl qM rfl (TmL.of_eq qL (bU _))) rfl qM rfl (aH (by rfl) tv)) (tA 5 (tA 4 (tA 2 aI tp) tr) tp); all_goals exact qN)⟩
      ·
       have hl8 := cF hl8 h10; refine cC ?_; refine kS ?_; refine jS ?_; refine fU ?_; obtain rfl := al hl8; exact ⟨_, rfl, (by refine Wk.canonD [] [0] [some 0, some 1, some 2, some 3, some 4] rfl ⟨rfl, trivial⟩ rfl (ar 4 (ar 3 (ar 2 (ar 1 bn rfl qM rfl (aH (by rfl) tr)) rfl qM rfl (TmL.of_eq qL (au _))) rfl qM rfl (TmL.of_eq qL (bU _))) rfl qM rfl (aH (by rfl) tv)) (tA 5 (tA 4 (tA 2 aI tp) tr) tp); all_goals exact qN)⟩
   ·
    rintro _ rfl; clear hi6; unfold nq; refine dV [2,4,5] (fun _ => rfl) fun tz => ?_; refine cm fun U u all hall => ?_; refine cp ?_; (try simp only [List.toList_toArray, List.map_cons, List.map_nil, List.size_toArray, List.length_cons, List.length_nil, Nat.zero_add]); (try simp only [Nat.reduceAdd]); (iterate 3 ((try simp only [go_sem, -Nat.reduceAdd]); try simp only [Nat.reduceAdd])); refine And.intro ?_ (u _ _ (Wk.refl _ _ _) ?_)
    ·
     subst hall; clear u U; exact qP
    ·
     clear u U hall all; refine aM ?_; obtain rfl := al h0; refine aF ?_; refine ax Lf qR ?_; refine dh.mk [] [some 0, some 3, some 2] rfl (gC (aS qM rfl (TmL.of_eq qL (bU _)) (aS qM rfl (TmL.of_eq qL (au _)) ea))) (Tm.tup (tc tr (tc (Tm.agg (aH (by rfl) tr)) tn))); (all_goals exact qN)
def o6 (a0 : Reorder) (a1 : Int) (x44 : Bool) : AS :=
 { objs := (upd (upd (fun _ => .dead) 0 (.live (aB a0 (.imm (List.flatMap ai a0.Held) a0.Held.length)))) 1 (.live (aB Reorder.z cA))), next := 2, tmps := (upd (upd (upd (upd (fun _ => .unk) 1 (vi a1)) 2 (.ptr 0 0)) 5 (.ptr 1 0)) 16 (vb (!x44))) }

theorem wP (a0 : Reorder) (a1 : Int) {r : ((List Frame) × Reorder × Int)} (h0 : iB a0 a1 = some r) : fT K 44 [(.agg (cQ a0)), (vi a1)] (fun q => (.tup [(.ref (q 0) 0 r.1.length 41), (.agg (aB r.2.1 (.ref (q 1) 0 r.2.1.Held.length 42))), (vi r.2.2)])) [(List.flatMap aY r.1), (List.flatMap ai r.2.1.Held)] := by
 refine fT.of_walkW hC (show K.P.funcs[44]? = some Try.f44 from Try.func44) rfl rfl (by decide +kernel) (qB2 rfl) ?_; unfold iB at h0; refine aa [0,1] fun tz U u => ?_; (try simp only [go_sem]); refine qU u ?_; clear u U; refine ak ?_; refine aa [1,2,5] fun tz U u => ?_; obtain ⟨x43, bx43, h0⟩ := bnd h0; (try simp only [go_sem]); (refine aP (fJ a0 bx43) ?_; try dsimp only); (try refine ap ?_); (try simp only [go_sem]); refine qU u ?_; clear u U; refine ak ?_; refine aa [1,2,5,7] fun tz U u => ?_; (try simp only [go_sem]); refine qU u ?_; clear u U; refine aN (b := (x43 != 0)) rfl (fun h1 => ?_) (fun h1 => ?_)
 ·
  have h0 := cT h0 h1; refine ak ?_; refine aa [5,7] fun tz U u => ?_; (try simp only [go_sem]); refine qU u ?_; clear u U; refine bA ?_; obtain rfl := al h0; refine aF ?_; refine ax Ek qR ?_; refine Res.mk [] [none, none] rfl (cP (cP cO)) (Tm.tup (tc tT (tc (Tm.agg (aH (by rfl) tT)) (tc tv tn))))
 ·
  have h0 := cF h0 h1; refine aQ ?_; refine ak ?_; refine aa [1,2,5] fun tz U u => ?_; obtain ⟨x44, bx44, h0⟩ := bnd h0; (try simp only [go_sem]); (refine aP (gy a1 bx44) ?_; try dsimp only); (try refine ap ?_); (try simp only [go_sem]); refine u _ (o6 a0 a1 x44) (Wk.canonD [] [] [some 0, some 2] rfl trivial rfl (ar 1 (ar 0 bn rfl qM rfl (aH (by rfl) (tI (au _)))) rfl qM rfl (aH (by rfl) tv)) (tA 16 (tA 5 (tA 2 (tA 1 aI tv) tp) tp) tv)) ?_; clear u U; unfold o6; refine aN (b := (!x44)) rfl (fun h2 => ?_) (fun h2 => ?_)
  ·
   have h0 := cT h0 h2; refine ak ?_; refine aa [5] fun tz U u => ?_; (try simp only [go_sem]); refine qU u ?_; clear u U; refine bA ?_; obtain rfl := al h0; refine aF ?_; refine ax Ek qR ?_; refine Res.mk [] [none, none] rfl (cP (cP cO)) (Tm.tup (tc tT (tc (Tm.agg (aH (by rfl) tT)) (tc tv tn))))
  ·
   have h0 := cF h0 h2; refine aQ ?_; refine aa [1,2,5] fun tz U u => ?_; obtain ⟨x45, bx45, h0⟩ := bnd h0; (try simp only [go_sem]); (refine lq (o9 a0.Held bx45) ?_; try dsimp only); (try refine ap ?_); (try simp only [go_sem]); refine qU u ?_; clear u U; refine ak ?_; refine aa [1,2,5] fun tz U u => ?_; obtain ⟨x46, bx46, h0⟩ := bnd h0; (try simp only [go_sem]); (refine aP (cB a0.Start a1 bx46) ?_; try dsimp only); (try refine ap ?_); (try simp only [go_sem]); refine qU u ?_; clear u U; refine aN (b := (decide (2048 ≤ x46))) rfl (fun h3 => ?_) (fun h3 => ?_)
   ·
    have h0 := cT h0 h3; refine ak ?_; refine dV [2,5] (fun _ => rfl) fun tz => ?_; refine cm fun U u all hall => ?_; refine cp ?_; (try simp only [List.toList_toArray, List.map_cons, List.map_nil, List.size_toArray, List.length_cons, List.length_nil, Nat.zero_add]); (try simp only [Nat.reduceAdd]); (iterate 3 ((try simp only [go_sem, -Nat.reduceAdd]); try simp only [Nat.reduceAdd])); refine And.intro ?_ (u _ _ (Wk.refl _ _ _) ?_)
    ·
     subst hall; clear u U; exact qP
    ·
     clear u U hall all; refine bA ?_; obtain rfl := al h0; refine aF ?_; refine ax Ek qR ?_; refine Res.mk [] [none, some 7] rfl (cP (fh qM rfl (TmL.of_eq qL (au _)) cO)) (Tm.tup (tc tT (tc (Tm.agg (aH (by rfl) tr)) (tc tv tn)))); (all_goals exact qN)
   ·
    have h0 := cF h0 h3; refine aQ ?_; refine aa [1,2,5] fun tz U u => ?_; obtain ⟨x47, bx47, h0⟩ := bnd h0; (try simp only [go_sem]); (refine bI [7] (jT { a0 with Held := x45 } a1 bx47) (by decide) (by decide) ⟨qG, trivial⟩ qG ?_; try dsimp only); (try refine ap ?_); (try simp only [go_sem, lc, ln]); refine qU u ?_; clear u U; refine dV [4,5] (fun _ => rfl) fun tz => ?_; refine cm fun U u all hall => ?_; refine cp ?_; (try simp only [List.toList_toArray, List.map_cons, List.map_nil, List.size_toArray, List.length_cons, List.length_nil, Nat.zero_add]); (try simp only [Nat.reduceAdd]); (iterate 3 ((try simp only [go_sem, -Nat.reduceAdd]); try simp only [Nat.reduceAdd])); refine And.intro ?_ (u _ _ (Wk.refl _ _ _) ?_)
    ·
     subst hall; clear u U; exact qP
    ·
     clear u U hall all; refine aM ?_; obtain rfl := al h0; refine aF ?_; refine ax Ek qR ?_; refine Res.mk [] [some 21, some 22] rfl (fh qM rfl (TmL.of_eq qL (bU _)) (fh qM rfl (TmL.of_eq qL (au _)) cO)) (Tm.tup (tc tr (tc (Tm.agg (aH (by rfl) tr)) (tc tv tn)))); (all_goals exact qN)


theorem wj (a0 : Reorder) (a1 : Int) {r : ((List Frame) × Reorder × Int)} (h0 : iB a0 a1 = some r) : SndP K 44 [(.agg (cQ a0)), (vi a1)] (.tup [(kr r.1), (.agg (cQ r.2.1)), (vi r.2.2)]) :=
 la.pure (rM (wP a0 a1 h0) (aE.tup (RenML.cons (aE.ref 0 0 _ _) (RenML.cons (aE.agg (ig _ (aE.ref 1 0 _ _))) (RenML.cons rv RenML.nil)))) (bo (bU _) (bo (au _) cx)) (af (aw.agg (bv _)) (af cv az))) (aw.tup (af (jz _) (af (aw.agg (bv _)) (af cv az)))) (af (aw.agg (bv _)) (af cv az)) qV
def fZ (a1 : Session_session) (a2 : (List Bool)) (d50 : (List Int)) : AS :=
 { objs := (upd (upd (upd (upd (upd (fun _ => .dead) 0 (.live (ae a1 (.imm (List.flatMap ag a1.sides.Sender.Out) a1.sides.Sender.Out.length) (.imm (List.flatMap ai a1.sides.Reorder.Held) a1.sides.Reorder.Held.length) (.clo 17 [] [(.ptr 1 0)]) (.ref 5 0 d50.length 1) (.ref 3 0 a1.out.Acked.length 1) (.ref 4 0 a1.out.Dropped.length 1)))) 1 (.live [(.imm (List.map vb a2) a2.length)])) 3 (.live (List.map vi a1.out.Acked))) 4 (.live (List.map vi a1.out.Dropped))) 5 (.live (List.map vi d50))), next := 6, tmps := (fun _ => .unk) }

def fY (a1 : Session_session) (a2 : (List Bool)) (a0 : (List Frame)) (d51 : (List Int × Int)) : AS :=
 { objs := (upd (upd (upd (upd (upd (fun _ => .dead) 0 (.live (ae a1 (.imm (List.flatMap ag a1.sides.Sender.Out) a1.sides.Sender.Out.length) (.imm (List.flatMap ai a1.sides.Reorder.Held) a1.sides.Reorder.Held.length) (.clo 17 [] [(.ptr 1 0)]) (.ref 5 0 d51.1.length 1) (.ref 3 0 a1.out.Acked.length 1) (.ref 4 0 a1.out.Dropped.length 1)))) 1 (.live [(.imm (List.map vb a2) a2.length)])) 3 (.live (List.map vi a1.out.Acked))) 4 (.live (List.map vi a1.out.Dropped))) 5 (.live (List.map vi d51.1))), next := 6, tmps := (upd (upd (upd (upd (fun _ => .unk) 0 (.ptr 0 0)) 6 (.imm (List.flatMap aY a0) a0.length)) 7 (vi (a0.length : Int))) 8 (vi d51.2)) }

theorem du (a0 : (List Frame)) (a1 : Session_session) (a2 : (List Bool)) {r : (List Int)} (h0 : bH a0 a1 a2 = some r) : cI K 38 5 (fun q => [(.ptr (q 0) 0), (.imm (List.flatMap aY a0) a0.length)]) [(fun q => (ae a1 (.imm (List.flatMap ag a1.sides.Sender.Out) a1.sides.Sender.Out.length) (.imm (List.flatMap ai a1.sides.Reorder.Held) a1.sides.Reorder.Held.length) (.clo 17 [] [(.ptr (q 1) 0)]) (.ref (q 2) 0 a1.out.Delivered.length 1) (.ref (q 3) 0 a1.out.Acked.length 1) (.ref (q 4) 0 a1.out.Dropped.length 1))), (fun q => [(.imm (List.map vb a2) a2.length)]), (fun q => (List.map vi a1.out.Delivered)), (fun q => (List.map vi a1.out.Acked)), (fun q => (List.map vi a1.out.Dropped))] (fun q => (.tup [])) [(some (fun q => (ae a1 (.imm (List.flatMap ag a1.sides.Sender.Out) a1.sides.Sender.Out.length) (.imm (List.flatMap ai a1.sides.Reorder.Held) a1.sides.Reorder.Held.length) (.clo 17 [] [(.ptr (q 1) 0)]) (.ref (q 5) 0 r.length 1) (.ref (q 3) 0 a1.out.Acked.length 1) (.ref (q 4) 0 a1.out.Dropped.length 1)))), (some (fun q => [(.imm (List.map vb a2) a2.length)])), none, (some (fun q => (List.map vi a1.out.Acked))), (some (fun q => (List.map vi a1.out.Dropped))), (some (fun q => (List.map vi r)))] := by
 refine cI.of_walkW hC (RenML.cons (aE.ptr 0 0) (RenML.cons (rI (bU _)) RenML.nil)) (aK (bb _ (rI (ah _)) (rI (au _)) (aE.clo RenML.nil (RenML.cons (aE.ptr 1 0) RenML.nil)) (aE.ref 2 0 _ _) (aE.ref 3 0 _ _) (aE.ref 4 0 _ _)) (aK (RenML.cons (rI (aO _)) RenML.nil) (aK (RenML.const (ac _)) (aK (RenML.const (ac _)) (aK (RenML.const (ac _)) dO))))) (aD (bb _ (rI (ah _)) (rI (au _)) (aE.clo RenML.nil (RenML.cons (aE.ptr 1 0) RenML.nil)) (aE.ref 5 0 _ _) (aE.ref 3 0 _ _) (aE.ref 4 0 _ _)) (aD (RenML.cons (rI (aO _)) RenML.nil) (eo (aD (RenML.const (ac _)) (aD (RenML.const (ac _)) (aD (RenML.const (ac _)) c4)))))) (aE.tup RenML.nil) rfl (qB2 rfl) (show K.P.funcs[38]? = some Try.f38 from Try.func38) rfl rfl (by decide +kernel) (qB2 rfl) ?_; unfold bH at h0; refine aa [0,1] fun tz U u => ?_; (try simp only [go_sem]); refine qU u ?_; clear u U; obtain ⟨d50, hi1, h0⟩ := bnd h0; refine uu (fun z => d50 = z) (fun d50 : (List Int) => fZ a1 a2 d50) yz ?_ ?_
 ·
  refine bw ?_; refine cL (fun n (d51 : (List Int × Int)) => bM a0 a1 n d51 = some d50) (fun d51 : (List Int × Int) => fY a1 a2 a0 d51) big (a1.out.Delivered, 0) (by refine Wk.canonD [] [2] [some 0, some 1, some 2, some 3, some 4, some 2] rfl ⟨rfl, trivial⟩ rfl (ar 5 (ar 4 (ar 3 (ar 1 (ar 0 bn rfl qM rfl (aq (by rfl) (tI (ah _)) (tI (au _)) (Tm.clo tn (tc tp tn)) tr tr tr)) rfl qM rfl (tc (tI (aO _)) tn)) rfl qM rfl (TmL.of_eq qL (ac _))) rfl qM rfl (TmL.of_eq qL (ac _))) rfl qM rfl (TmL.of_eq qL (ac _))) (tA 8 (tA 7 (tA 6 (tA 0 aI tp) (tI (bU _))) tv) tv); all_goals exact qN) hi1 ?_; clear hi1; rintro n d51 hl3; rcases n with _ | n2
  ·
   (rw [bM] at hl3; cases hl3)
  ·
   rw [bM] at hl3; unfold fY; refine aa [0,6,7,8] fun tz U u => ?_; (try simp only [go_sem]); refine qU u ?_; clear u U; refine aN (b := (decide (d51.2 < (a0.length : Int)))) rfl (fun h4 => ?_) (fun h4 => ?_)
   ·
    have hl3 := cT hl3 h4; refine aQ ?_; refine cy ?_; refine aa [0,6,7,8] fun tz U u => ?_; obtain ⟨x52, bx52, hl3⟩ := bnd hl3; obtain ⟨fx52_0, fx52_1, fx52_2, fx52_3⟩ := cz bx52; (try simp only [go_sem, fx52_0, fx52_1, fx52_2]); refine qU u ?_; clear u U; refine kp [0,5,6,7,8] (fun _ => rfl) fun tz => ?_; refine iH fun U u all hall => ?_; refine cp ?_; (try simp only [List.toList_toArray, List.map_cons, List.map_nil, List.size_toArray, List.length_cons, List.length_nil, Nat.zero_add]); (try simp only [Nat.reduceAdd]); obtain ⟨x53, bx53, hl3⟩ := bnd hl3; (iterate 3 ((try simp only [go_sem, -Nat.reduceAdd, fx52_0, fx52_1, fx52_2]); try simp only [Nat.reduceAdd])); (refine eO (cB a1.plan.Start x52.Head.Seq bx53) ?_; try dsimp only); (try refine cp ?_); obtain ⟨x54, bx54, hl3⟩ := bnd hl3; have bx54 := bP bx54; simp only [Bool.and_eq_true, decide_eq_true_eq] at bx54; have gx54_0 := bx54; (iterate 3 ((try simp only [go_sem, -Nat.reduceAdd, fx52_0, fx52_1, fx52_2, gx54_0]); try simp only [Nat.reduceAdd])); refine And.intro ?_ (u _ ?_)
    ·
     subst hall; clear u U; exact qP
    ·
     clear u U hall all; refine iM ?_; refine ep ?_; refine bC [0,6,7,8] fun tz U u => ?_; (try simp only [go_sem, fx52_0, fx52_1, fx52_2]); refine u _ ?_; clear u U; refine jd ?_; exact ⟨n2, ((d51.1 ++ [x53]), IntKind.wrap .i64 (d51.2 + 1)), rfl, hl3, (by refine Wk.canonD [] [2] [some 0, some 1, some 2, some 3, some 4, some 27] rfl ⟨rfl, trivial⟩ rfl (ar 5 (ar 4 (ar 3 (ar 1 (ar 0 bn rfl qM rfl (aq (by rfl) (tI (ah _)) (tI (au _)) (Tm.clo tn (tc tp tn)) tr tr tr)) rfl qM rfl (tc (tI (aO _)) tn)) rfl qM rfl (TmL.of_eq qL (ac _))) rfl qM rfl (TmL.of_eq qL (ac _))) rfl qM rfl (TmL.of_eq qL (ac _))) (tA 8 (tA 7 (tA 6 (tA 0 aI tp) (tI (bU _))) tv) tv); all_goals exact qN)⟩
   ·
    have hl3 := cF hl3 h4; refine cC ?_; refine kS ?_; refine jS ?_; refine fU ?_; obtain rfl := al hl3; exact ⟨_, rfl, (by refine Wk.canonD [] [2] [some 0, some 1, some 2, some 3, some 4, some 5] rfl ⟨rfl, trivial⟩ rfl (ar 5 (ar 4 (ar 3 (ar 1 (ar 0 bn rfl qM rfl (aq (by rfl) (tI (ah _)) (tI (au _)) (Tm.clo tn (tc tp tn)) tr tr tr)) rfl qM rfl (tc (tI (aO _)) tn)) rfl qM rfl (TmL.of_eq qL (ac _))) rfl qM rfl (TmL.of_eq qL (ac _))) rfl qM rfl (TmL.of_eq qL (ac _))) aI; all_goals exact qN)⟩
 ·
  rintro _ rfl; clear hi1; unfold fZ; obtain rfl := al h0; refine aF ?_; refine d9 Mj (rfl) ?_; refine dh.mk [] [some 0, some 1, some 2, some 3, some 4, some 5] rfl (aS qM rfl (aq (by rfl) (tI (ah _)) (tI (au _)) (Tm.clo tn (tc tp tn)) tr tr tr) (aS qM rfl (tc (tI (aO _)) tn) (gC (aS qM rfl (TmL.of_eq qL (ac _)) (aS qM rfl (TmL.of_eq qL (ac _)) (aS qM rfl (TmL.of_eq qL (ac _)) ea)))))) (Tm.tup tn); (all_goals exact qN)
def iy (x44 : Session_session) (a1 : Session_session) (a2 : (List Bool)) (x43 : ((List Frame) × Reorder × Int)) : AS :=
 { objs := (upd (upd (upd (upd (upd (upd (fun _ => .dead) 0 (.live (ae x44 (.imm (List.flatMap ag x44.sides.Sender.Out) x44.sides.Sender.Out.length) (.imm (List.flatMap ai x44.sides.Reorder.Held) x44.sides.Reorder.Held.length) (.clo 17 [] [(.ptr 1 0)]) (.ref 2 0 a1.out.Delivered.length 1) (.ref 3 0 a1.out.Acked.length 1) (.ref 4 0 a1.out.Dropped.length 1)))) 1 (.live [(.imm (List.map vb a2) a2.length)])) 2 (.live (List.map vi a1.out.Delivered))) 3 (.live (List.map vi a1.out.Acked))) 4 (.live (List.map vi a1.out.Dropped))) 5 (.live (aB x43.2.1 (.imm (List.flatMap ai x43.2.1.Held) x43.2.1.Held.length)))), next := 6, tmps := (upd (upd (upd (fun _ => .unk) 0 (.ptr 0 0)) 4 (.imm (List.flatMap aY x43.1) x43.1.length)) 5 (.ptr 5 0)) }

theorem iD (a0 : Int) (a1 : Session_session) (a2 : (List Bool)) {r : (Session_session × List Int)} (h0 : co a0 a1 a2 = some r) : cI K 30 5 (fun q => [(.ptr (q 0) 0), (vi a0)]) [(fun q => (ae a1 (.imm (List.flatMap ag a1.sides.Sender.Out) a1.sides.Sender.Out.length) (.imm (List.flatMap ai a1.sides.Reorder.Held) a1.sides.Reorder.Held.length) (.clo 17 [] [(.ptr (q 1) 0)]) (.ref (q 2) 0 a1.out.Delivered.length 1) (.ref (q 3) 0 a1.out.Acked.length 1) (.ref (q 4) 0 a1.out.Dropped.length 1))), (fun q => [(.imm (List.map vb a2) a2.length)]), (fun q => (List.map vi a1.out.Delivered)), (fun q => (List.map vi a1.out.Acked)), (fun q => (List.map vi a1.out.Dropped))] (fun q => (.tup [])) [(some (fun q => (ae r.1 (.imm (List.flatMap ag r.1.sides.Sender.Out) r.1.sides.Sender.Out.length) (.imm (List.flatMap ai r.1.sides.Reorder.Held) r.1.sides.Reorder.Held.length) (.clo 17 [] [(.ptr (q 1) 0)]) (.ref (q 5) 0 r.2.length 1) (.ref (q 3) 0 a1.out.Acked.length 1) (.ref (q 4) 0 a1.out.Dropped.length 1)))), (some (fun q => [(.imm (List.map vb a2) a2.length)])), none, (some (fun q => (List.map vi a1.out.Acked))), (some (fun q => (List.map vi a1.out.Dropped))), (some (fun q => (List.map vi r.2)))] := by
 refine cI.of_walkW hC (RenML.cons (aE.ptr 0 0) (RenML.cons rv RenML.nil)) (aK (bb _ (rI (ah _)) (rI (au _)) (aE.clo RenML.nil (RenML.cons (aE.ptr 1 0) RenML.nil)) (aE.ref 2 0 _ _) (aE.ref 3 0 _ _) (aE.ref 4 0 _ _)) (aK (RenML.cons (rI (aO _)) RenML.nil) (aK (RenML.const (ac _)) (aK (RenML.const (ac _)) (aK (RenML.const (ac _)) dO))))) (aD (bb _ (rI (ah _)) (rI (au _)) (aE.clo RenML.nil (RenML.cons (aE.ptr 1 0) RenML.nil)) (aE.ref 5 0 _ _) (aE.ref 3 0 _ _) (aE.ref 4 0 _ _)) (aD (RenML.cons (rI (aO _)) RenML.nil) (eo (aD (RenML.const (ac _)) (aD (RenML.const (ac _)) (aD (RenML.const (ac _)) c4)))))) (aE.tup RenML.nil) rfl (qB2 rfl) (show K.P.funcs[30]? = some Try.f30 from Try.func30) rfl rfl (by decide +kernel) (qB2 rfl) ?_; unfold co at h0; refine aa [0,1] fun tz U u => ?_; obtain ⟨x43, bx43, h0⟩ := bnd h0; (try simp only [go_sem]); (refine aP (wj a1.sides.Reorder a0 bx43) ?_; try dsimp only); (try refine ap ?_); (try simp only [go_sem]); refine qU u ?_; clear u U; refine aa [0,4,5,6] fun tz U u => ?_; obtain ⟨x44, bx44, h0⟩ := bnd h0; (try simp only [go_sem]); (refine bI [0, 1, 2, 3, 4] (be x43.2.2 a1 a2 bx44) (by decide) (by decide) ⟨qG, qG, qG, qG, qG, trivial⟩ qG ?_; try dsimp only); (try refine ap ?_); (try simp only [go_sem, lc, ln]); refine u _ (iy x44 a1 a2 x43) (by refine Wk.canonD [] [] [some 0, some 1, some 2, some 3, some 4, some 16] rfl trivial rfl (ar 5 (ar 4 (ar 3 (ar 2 (ar 1 (ar 0 bn rfl qM rfl (aq (by rfl) (tI (ah _)) (tI (au _)) (Tm.clo tn (tc tp tn)) tr tr tr)) rfl qM rfl (tc (tI (aO _)) tn)) rfl qM rfl (TmL.of_eq qL (ac _))) rfl qM rfl (TmL.of_eq qL (ac _))) rfl qM rfl (TmL.of_eq qL (ac _))) rfl qM rfl (aH (by rfl) (tI (au _)))) (tA 5 (tA 4 (tA 0 aI tp) (tI (bU _))) tp); all_goals exact qN) ?_; clear u U; unfold iy; refine aa [0,4,5] fun tz U u => ?_; (try simp only [go_sem]); refine qU u ?_; clear u U; refine bC [0,4] fun tz U u => ?_; obtain ⟨x45, bx45, h0⟩ := bnd h0; (try simp only [go_sem]); (refine bI [0, 1, 2, 3, 4] (du x43.1 { x44 with out.Acked := a1.out.Acked, out.Delivered := a1.out.Delivered, out.Dropped := a1.out.Dropped, sides.Reorder := x43.2.1 } a2 bx45) (by decide) (by decide) ⟨qG, qG, qG, qG, qG, trivial⟩ qG ?_; try dsimp only); (try refine ap ?_); (try simp only [go_sem, lc, ln]); refine u _ ?_; clear u U; obtain rfl := al h0; refine aF ?_; refine d9 Lr (rfl) ?_; refine dh.mk [] [some 0, some 1, some 2, some 3, some 4, some 15] rfl (aS qM rfl (aq (by rfl) (tI (ah _)) (tI (au _)) (Tm.clo tn (tc tp tn)) tr tr tr) (aS qM rfl (tc (tI (aO _)) tn) (gC (aS qM rfl (TmL.of_eq qL (ac _)) (aS qM rfl (TmL.of_eq qL (ac _)) (aS qM rfl (TmL.of_eq qL (ac _)) ea)))))) (Tm.tup tn)
 all_goals exact qN
def gU (x27 : Session_session) (a0 : Session_session) (a1 : (List Bool)) (x26 : ((List Int) × Sender × Int)) : AS :=
 { objs := (upd (upd (upd (upd (upd (upd (fun _ => .dead) 0 (.live (ae x27 (.imm (List.flatMap ag x27.sides.Sender.Out) x27.sides.Sender.Out.length) (.imm (List.flatMap ai x27.sides.Reorder.Held) x27.sides.Reorder.Held.length) (.clo 17 [] [(.ptr 1 0)]) (.ref 2 0 a0.out.Delivered.length 1) (.ref 3 0 a0.out.Acked.length 1) (.ref 4 0 a0.out.Dropped.length 1)))) 1 (.live [(.imm (List.map vb a1) a1.length)])) 2 (.live (List.map vi a0.out.Delivered))) 3 (.live (List.map vi a0.out.Acked))) 4 (.live (List.map vi a0.out.Dropped))) 5 (.live (av x26.2.1 (.imm (List.flatMap ag x26.2.1.Out) x26.2.1.Out.length)))), next := 6, tmps := (upd (upd (upd (fun _ => .unk) 0 (.ptr 0 0)) 2 (.imm (List.map vi x26.1) x26.1.length)) 3 (.ptr 5 0)) }

def il (x27 : Session_session) (x26 : ((List Int) × Sender × Int)) (a0 : Session_session) (x28 : (List Int)) (a1 : (List Bool)) : AS :=
 { objs := (upd (upd (upd (upd (upd (fun _ => .dead) 0 (.live (ae { x27 with sides.Sender := x26.2.1 } (.imm (List.flatMap ag x26.2.1.Out) x26.2.1.Out.length) (.imm (List.flatMap ai x27.sides.Reorder.Held) x27.sides.Reorder.Held.length) (.clo 17 [] [(.ptr 1 0)]) (.ref 2 0 a0.out.Delivered.length 1) (.ref 3 0 a0.out.Acked.length 1) (.ref 5 0 ((a0.out.Dropped ++ x28).length) 1)))) 1 (.live [(.imm (List.map vb a1) a1.length)])) 2 (.live (List.map vi a0.out.Delivered))) 3 (.live (List.map vi a0.out.Acked))) 5 (.live (List.map vi (a0.out.Dropped ++ x28)))), next := 6, tmps := (upd (fun _ => .unk) 0 (.ptr 0 0)) }

def gQ (x27 : Session_session) (x26 : ((List Int) × Sender × Int)) (a0 : Session_session) (a1 : (List Bool)) (d30 : (List Int)) : AS :=
 { objs := (upd (upd (upd (upd (upd (fun _ => .dead) 0 (.live (ae { x27 with sides.Sender := x26.2.1 } (.imm (List.flatMap ag x26.2.1.Out) x26.2.1.Out.length) (.imm (List.flatMap ai x27.sides.Reorder.Held) x27.sides.Reorder.Held.length) (.clo 17 [] [(.ptr 1 0)]) (.ref 2 0 a0.out.Delivered.length 1) (.ref 3 0 a0.out.Acked.length 1) (.ref 5 0 d30.length 1)))) 1 (.live [(.imm (List.map vb a1) a1.length)])) 2 (.live (List.map vi a0.out.Delivered))) 3 (.live (List.map vi a0.out.Acked))) 5 (.live (List.map vi d30))), next := 6, tmps := (upd (fun _ => .unk) 0 (.ptr 0 0)) }

def gS (x27 : Session_session) (x26 : ((List Int) × Sender × Int)) (a0 : Session_session) (a1 : (List Bool)) (d31 : (List Int × Int)) : AS :=
 { objs := (upd (upd (upd (upd (upd (fun _ => .dead) 0 (.live (ae { x27 with sides.Sender := x26.2.1 } (.imm (List.flatMap ag x26.2.1.Out) x26.2.1.Out.length) (.imm (List.flatMap ai x27.sides.Reorder.Held) x27.sides.Reorder.Held.length) (.clo 17 [] [(.ptr 1 0)]) (.ref 2 0 a0.out.Delivered.length 1) (.ref 3 0 a0.out.Acked.length 1) (.ref 5 0 d31.1.length 1)))) 1 (.live [(.imm (List.map vb a1) a1.length)])) 2 (.live (List.map vi a0.out.Delivered))) 3 (.live (List.map vi a0.out.Acked))) 5 (.live (List.map vi d31.1))), next := 6, tmps := (upd (upd (fun _ => .unk) 0 (.ptr 0 0)) 5 (vi d31.2)) }

theorem lC (a0 : Session_session) (a1 : (List Bool)) {r : (Session_session × List Int × List Int)} (h0 : dQ a0 a1 = some r) : cI K 19 5 (fun q => [(.ptr (q 0) 0)]) [(fun q => (ae a0 (.imm (List.flatMap ag a0.sides.Sender.Out) a0.sides.Sender.Out.length) (.imm (List.flatMap ai a0.sides.Reorder.Held) a0.sides.Reorder.Held.length) (.clo 17 [] [(.ptr (q 1) 0)]) (.ref (q 2) 0 a0.out.Delivered.length 1) (.ref (q 3) 0 a0.out.Acked.length 1) (.ref (q 4) 0 a0.out.Dropped.length 1))), (fun q => [(.imm (List.map vb a1) a1.length)]), (fun q => (List.map vi a0.out.Delivered)), (fun q => (List.map vi a0.out.Acked)), (fun q => (List.map vi a0.out.Dropped))] (fun q => (.tup [])) [(some (fun q => (ae r.1 (.imm (List.flatMap ag r.1.sides.Sender.Out) r.1.sides.Sender.Out.length) (.imm (List.flatMap ai r.1.sides.Reorder.Held) r.1.sides.Reorder.Held.length) (.clo 17 [] [(.ptr (q 1) 0)]) (.ref (q 5) 0 r.2.1.length 1) (.ref (q 3) 0 a0.out.Acked.length 1) (.ref (q 6) 0 r.2.2.length 1)))), (some (fun q => [(.imm (List.map vb a1) a1.length)])), none, (some (fun q => (List.map vi a0.out.Acked))), none, (some (fun q => (List.map vi r.2.1))), (some (fun q => (List.map vi r.2.2)))] := by
 refine cI.of_walkW hC (RenML.cons (aE.ptr 0 0) RenML.nil) (aK (bb _ (rI (ah _)) (rI (au _)) (aE.clo RenML.nil (RenML.cons (aE.ptr 1 0) RenML.nil)) (aE.ref 2 0 _ _) (aE.ref 3 0 _ _) (aE.ref 4 0 _ _)) (aK (RenML.cons (rI (aO _)) RenML.nil) (aK (RenML.const (ac _)) (aK (RenML.const (ac _)) (aK (RenML.const (ac _)) dO))))) (aD (bb _ (rI (ah _)) (rI (au _)) (aE.clo RenML.nil (RenML.cons (aE.ptr 1 0) RenML.nil)) (aE.ref 5 0 _ _) (aE.ref 3 0 _ _) (aE.ref 6 0 _ _)) (aD (RenML.cons (rI (aO _)) RenML.nil) (eo (aD (RenML.const (ac _)) (eo (aD (RenML.const (ac _)) (aD (RenML.const (ac _)) c4))))))) (aE.tup RenML.nil) rfl (qB2 rfl) (show K.P.funcs[19]? = some Try.f19 from Try.func19) rfl rfl (by decide +kernel) (qB2 rfl) ?_; unfold dQ at h0; refine aa [0] fun tz U u => ?_; obtain ⟨x26, bx26, h0⟩ := bnd h0; (try simp only [go_sem]); (refine aP (wa a0.sides.Sender bx26) ?_; try dsimp only); (try refine ap ?_); (try simp only [go_sem]); refine qU u ?_; clear u U; refine aa [0,2,3,4] fun tz U u => ?_; obtain ⟨x27, bx27, h0⟩ := bnd h0; (try simp only [go_sem]); (refine bI [0, 1, 2, 3, 4] (be x26.2.2 a0 a1 bx27) (by decide) (by decide) ⟨qG, qG, qG, qG, qG, trivial⟩ qG ?_; try dsimp only); (try refine ap ?_); (try simp only [go_sem, lc, ln]); refine u _ (gU x27 a0 a1 x26) (by refine Wk.canonD [] [] [some 0, some 1, some 2, some 3, some 4, some 15] rfl trivial rfl (ar 5 (ar 4 (ar 3 (ar 2 (ar 1 (ar 0 bn rfl qM rfl (aq (by rfl) (tI (ah _)) (tI (au _)) (Tm.clo tn (tc tp tn)) tr tr tr)) rfl qM rfl (tc (tI (aO _)) tn)) rfl qM rfl (TmL.of_eq qL (ac _))) rfl qM rfl (TmL.of_eq qL (ac _))) rfl qM rfl (TmL.of_eq qL (ac _))) rfl qM rfl (aj (by rfl) (tI (ah _)))) (tA 3 (tA 2 (tA 0 aI tp) (tI (ac _))) tp); all_goals exact qN) ?_; clear u U; unfold gU; refine aa [0,2,3] fun tz U u => ?_; (try simp only [go_sem]); refine qU u ?_; clear u U; refine dV [0,2] (fun _ => rfl) fun tz => ?_; refine cm fun U u all hall => ?_; refine cp ?_; (try simp only [List.toList_toArray, List.map_cons, List.map_nil, List.size_toArray, List.length_cons, List.length_nil, Nat.zero_add]); (try simp only [Nat.reduceAdd]); obtain ⟨x28, bx28, h0⟩ := bnd h0; (iterate 3 ((try simp only [go_sem, -Nat.reduceAdd]); try simp only [Nat.reduceAdd])); (refine sP (by first | (simp only [go_sem, fz, kX, cond_true, cond_false] <;> rfl) | (simp only [go_sem, fz, List.length_set, eG, ge, cond_true, cond_false] <;> rfl)) (by first | (simp only [go_sem, bc] <;> rfl)) (eL { x27 with out.Acked := a0.out.Acked, out.Delivered := a0.out.Delivered, out.Dropped := a0.out.Dropped, sides.Sender := x26.2.1 } a1 x26.1 bx28 _) (by repeat' (first | exact NoV.v _ | exact NoV.ref _ _ _ _ | exact NoV.onil | refine NoV.ocons ?_ ?_ | exact NoV.nil | refine NoV.tup ?_ | refine NoV.agg ?_ | refine NoV.rows (fun _ => ?_) _ | refine NoV.maps (fun _ => ?_) _ | refine NoV.cons ?_ ?_)) (by repeat' (first | exact NoV.v _ | exact NoV.ref _ _ _ _ | exact NoV.onil | refine NoV.ocons ?_ ?_ | exact NoV.nil | refine NoV.tup ?_ | refine NoV.agg ?_ | refine NoV.rows (fun _ => ?_) _ | refine NoV.maps (fun _ => ?_) _ | refine NoV.cons ?_ ?_)) ?_; try dsimp only); (try refine cp ?_); obtain ⟨x29, bx29, h0⟩ := bnd h0; have bx29 := bP bx29; simp only [Bool.and_eq_true, decide_eq_true_eq] at bx29; have gx29_0 := bx29; (iterate 3 ((try simp only [go_sem, -Nat.reduceAdd, gx29_0]); try simp only [Nat.reduceAdd])); refine And.intro ?_ (u _ (il x27 x26 a0 x28 a1) (by refine Wk.canonD [] [4] [some 0, some 1, some 2, some 3, some 4, some 21] rfl ⟨rfl, trivial⟩ rfl (ar 5 (ar 3 (ar 2 (ar 1 (ar 0 bn rfl qM rfl (aq (by rfl) (tI (ah _)) (tI (au _)) (Tm.clo tn (tc tp tn)) tr tr tr)) rfl qM rfl (tc (tI (aO _)) tn)) rfl qM rfl (TmL.of_eq qL (ac _))) rfl qM rfl (TmL.of_eq qL (ac _))) rfl qM rfl (TmL.of_eq qL (ac _))) (tA 0 aI tp); all_goals exact qN) ?_)
 ·
  subst hall; clear u U; exact qP
 ·
  clear u U hall all; unfold il; refine ak ?_; refine aa [0] fun tz U u => ?_; (try simp only [go_sem]); refine qU u ?_; clear u U; obtain ⟨d30, hi1, h0⟩ := bnd h0; refine dc (fun z => d30 = z) (fun d30 : (List Int) => gQ x27 x26 a0 a1 d30) ?_ ?_
  ·
   refine bw ?_; refine cL (fun n (d31 : (List Int × Int)) => bZ x27 n d31 = some d30) (fun d31 : (List Int × Int) => gS x27 x26 a0 a1 d31) big ((a0.out.Dropped ++ x28), x27.accepted) (by refine Wk.canonD [] [4] [some 0, some 1, some 2, some 3, some 4, some 5] rfl ⟨rfl, trivial⟩ rfl (ar 5 (ar 3 (ar 2 (ar 1 (ar 0 bn rfl qM rfl (aq (by rfl) (tI (ah _)) (tI (au _)) (Tm.clo tn (tc tp tn)) tr tr tr)) rfl qM rfl (tc (tI (aO _)) tn)) rfl qM rfl (TmL.of_eq qL (ac _))) rfl qM rfl (TmL.of_eq qL (ac _))) rfl qM rfl (TmL.of_eq qL (ac _))) (tA 5 (tA 0 aI tp) tv); all_goals exact qN) hi1 ?_; clear hi1; rintro n d31 hl3; rcases n with _ | n2
   ·
    (rw [bZ] at hl3; cases hl3)
   ·
    rw [bZ] at hl3; unfold gS; refine ak ?_; refine aa [0,5] fun tz U u => ?_; (try simp only [go_sem]); refine qU u ?_; clear u U; refine aN (b := (decide (d31.2 < x27.many))) rfl (fun h4 => ?_) (fun h4 => ?_)
    ·
     have hl3 := cT hl3 h4; refine aQ ?_; refine cy ?_; refine bC [0,5] fun tz U u => ?_; obtain ⟨x32, bx32, hl3⟩ := bnd hl3; have bx32 := bP bx32; simp only [Bool.and_eq_true, decide_eq_true_eq] at bx32; have gx32_0 := bx32; (try simp only [go_sem, gx32_0]); refine u _ ?_; clear u U; refine iM ?_; refine ep ?_; refine bC [0,5] fun tz U u => ?_; (try simp only [go_sem]); refine u _ ?_; clear u U; refine jd ?_; exact ⟨n2, ((d31.1 ++ [d31.2]), IntKind.wrap .i64 (d31.2 + 1)), rfl, hl3, (by refine Wk.canonD [] [4] [some 0, some 1, some 2, some 3, some 4, some 20] rfl ⟨rfl, trivial⟩ rfl (ar 5 (ar 3 (ar 2 (ar 1 (ar 0 bn rfl qM rfl (aq (by rfl) (tI (ah _)) (tI (au _)) (Tm.clo tn (tc tp tn)) tr tr tr)) rfl qM rfl (tc (tI (aO _)) tn)) rfl qM rfl (TmL.of_eq qL (ac _))) rfl qM rfl (TmL.of_eq qL (ac _))) rfl qM rfl (TmL.of_eq qL (ac _))) (tA 5 (tA 0 aI tp) tv); all_goals exact qN)⟩
    ·
     have hl3 := cF hl3 h4; refine cC ?_; refine kS ?_; refine jS ?_; refine fU ?_; obtain rfl := al hl3; exact ⟨_, rfl, (by refine Wk.canonD [] [4] [some 0, some 1, some 2, some 3, some 4, some 5] rfl ⟨rfl, trivial⟩ rfl (ar 5 (ar 3 (ar 2 (ar 1 (ar 0 bn rfl qM rfl (aq (by rfl) (tI (ah _)) (tI (au _)) (Tm.clo tn (tc tp tn)) tr tr tr)) rfl qM rfl (tc (tI (aO _)) tn)) rfl qM rfl (TmL.of_eq qL (ac _))) rfl qM rfl (TmL.of_eq qL (ac _))) rfl qM rfl (TmL.of_eq qL (ac _))) (tA 0 aI tp); all_goals exact qN)⟩
  ·
   rintro _ rfl; clear hi1; unfold gQ; refine bC [0] fun tz U u => ?_; obtain ⟨x33, bx33, h0⟩ := bnd h0; (try simp only [go_sem]); (refine bI [0, 1, 2, 3, 5] (iD x26.2.1.Next { x27 with out.Acked := a0.out.Acked, out.Delivered := a0.out.Delivered, out.Dropped := d30, sides.Sender := x26.2.1 } a1 bx33) (by decide) (by decide) ⟨qG, qG, qG, qG, qG, trivial⟩ qG ?_; try dsimp only); (try refine ap ?_); (try simp only [go_sem, lc, ln]); refine u _ ?_; clear u U; obtain rfl := al h0; refine aF ?_; refine d9 KT (rfl) ?_; refine dh.mk [] [some 0, some 1, some 2, some 3, some 4, some 14, some 5] rfl (aS qM rfl (aq (by rfl) (tI (ah _)) (tI (au _)) (Tm.clo tn (tc tp tn)) tr tr tr) (aS qM rfl (tc (tI (aO _)) tn) (gC (aS qM rfl (TmL.of_eq qL (ac _)) (gC (aS qM rfl (TmL.of_eq qL (ac _)) (aS qM rfl (TmL.of_eq qL (ac _)) ea))))))) (Tm.tup tn); (all_goals exact qN)
theorem p7 (a0 : Sender) (a1 : Bool) {r : (Sender × Int)} (h0 : dL a0 a1 = some r) : fT K 45 [(.agg (bp a0)), (vb a1)] (fun q => (.tup [(.agg (av r.1 (.ref (q 0) 0 r.1.Out.length 44))), (vi r.2)])) [(List.flatMap ag r.1.Out)] := by
 refine fT.of_walkW hC (show K.P.funcs[45]? = some Try.f45 from Try.func45) rfl rfl (by decide +kernel) (qB2 rfl) ?_; unfold dL at h0; refine aa [0,1] fun tz U u => ?_; (try simp only [go_sem]); refine qU u ?_; clear u U; refine aa [1,2,4] fun tz U u => ?_; obtain ⟨x36, bx36, h0⟩ := bnd h0; (try simp only [go_sem]); (refine aP (fi a0 bx36) ?_; try dsimp only); (try refine ap ?_); (try simp only [go_sem]); refine qU u ?_; clear u U; refine cy ?_; refine aa [1,2,4,6] fun tz U u => ?_; (try simp only [go_sem]); refine qU u ?_; clear u U; refine bK (b := (x36 != 0)) rfl (fun h1 => ?_) (fun h1 => ?_)
 ·
  have h0 := cT h0 h1; refine aa [4,6] fun tz U u => ?_; (try simp only [go_sem]); refine qU u ?_; clear u U; refine aM ?_; refine jq ?_; refine jO ?_; obtain rfl := al h0; refine aF ?_; refine ax EQ qR ?_; refine Res.mk [] [none] rfl (cP cO) (Tm.tup (tc (Tm.agg (aj (by rfl) tT)) (tc tv tn)))
 ·
  have h0 := cF h0 h1; refine aa [1,2,4] fun tz U u => ?_; (try simp only [go_sem]); refine qU u ?_; clear u U; refine bK (b := (!a1)) rfl (fun h2 => ?_) (fun h2 => ?_)
  ·
   have h0 := cT h0 h2; refine aa [4] fun tz U u => ?_; (try simp only [go_sem]); refine qU u ?_; clear u U; refine aM ?_; refine jq ?_; refine jO ?_; obtain rfl := al h0; refine aF ?_; refine ax EQ qR ?_; refine Res.mk [] [none] rfl (cP cO) (Tm.tup (tc (Tm.agg (aj (by rfl) tT)) (tc tv tn)))
  ·
   have h0 := cF h0 h2; refine aa [2,4] fun tz U u => ?_; (try simp only [go_sem]); refine qU u ?_; clear u U; refine bK (b := (a0.Phase != 2)) rfl (fun h3 => ?_) (fun h3 => ?_)
   ·
    have h0 := cT h0 h3; refine aa [4] fun tz U u => ?_; (try simp only [go_sem]); refine qU u ?_; clear u U; refine aM ?_; refine jq ?_; refine jO ?_; obtain rfl := al h0; refine aF ?_; refine ax EQ qR ?_; refine Res.mk [] [none] rfl (cP cO) (Tm.tup (tc (Tm.agg (aj (by rfl) tT)) (tc tv tn)))
   ·
    have h0 := cF h0 h3; refine c6 ?_; refine iM ?_; refine ep ?_; refine aa [2,4] fun tz U u => ?_; obtain ⟨x37, bx37, h0⟩ := bnd h0; (try simp only [go_sem]); (refine lq (p4 a0 bx37) ?_; try dsimp only); (try refine ap ?_); (try simp only [go_sem]); refine qU u ?_; clear u U; refine aM ?_; obtain rfl := al h0; refine aF ?_; refine ax EQ qR ?_; refine Res.mk [] [some 20] rfl (fh qM rfl (TmL.of_eq qL (ah _)) cO) (Tm.tup (tc (Tm.agg (aj (by rfl) tr)) (tc tv tn))); (all_goals exact qN)

theorem lL (a0 : Sender) (a1 : Bool) {r : (Sender × Int)} (h0 : dL a0 a1 = some r) : la K 45 [(.agg (bp a0)), (vb a1)] (fun q => (.tup [(.agg (av r.1 (.ref (q 0) 0 r.1.Out.length 44))), (vi r.2)])) [(List.flatMap ag r.1.Out)] :=
 fun hs => Snd.of_newM (aE.tup (RenML.cons (aE.agg (bB _ (aE.ref 0 0 _ _))) (RenML.cons rv RenML.nil))) (bo (ah _) cx) (af (aw.agg (aR _)) (af cv az)) (p7 a0 a1 h0) hs

theorem lB (a0 : Sender) (a1 : Bool) {r : (Sender × Int)} (h0 : dL a0 a1 = some r) (fr : Nat) (hs : HS) : jt K 45 [(.agg (bp a0)), (vb a1)] hs fr ⟨(fun q : Nat → Nat => (.tup [(.agg (av r.1 (.ref (q 0) 0 r.1.Out.length 44))), (vi r.2)])) fun _ => fr, .new (List.flatMap ag r.1.Out)⟩ :=
 jt.of_res (aE.tup (RenML.cons (aE.agg (bB _ (aE.ref 0 0 _ _))) (RenML.cons rv RenML.nil))) (ah _) (af (aw.agg (aR _)) (af cv az)) (fun a b h => by simp only [h]) (p7 a0 a1 h0) hs fr
theorem rq (a0 : Unacked) (a1 : Sender) (a2 : Int) {r : Bool} (h0 : io a0 a1 a2 = some r) : SndP K 47 [(.agg (ag a0)), (.iptr (bp a1) 0), (.iptr [(vi a2)] 0)] (vb r) := by
 refine SndP.of_walkW hC cv (af (aw.agg (iq _)) (af (aw.iptr (aR _)) (af (aw.iptr (af cv az)) az))) (show K.P.funcs[47]? = some Try.f47 from Try.func47) rfl rfl (by decide +kernel) (qB2 rfl) ?_; unfold io at h0; refine aa [0,1,2] fun tz U u => ?_; (try simp only [go_sem]); refine qU u ?_; clear u U; refine aa [1,2,3] fun tz U u => ?_; refine bg 4 qS qS (by rfl) fun V v => ?_; refine ap ?_; (try simp only [go_sem]); refine v _ ?_; clear v V; refine bt 15 [(23, (vb ((!a0.Flying) && ((a0.Tries == a1.Limit) || (decide ((IntKind.wrap .i64 (a0.At + a1.Life)) ≤ a2))))))] qS qS (by rfl) (fun V v => ?_) fun tz => ?_
 ·
  refine ap ?_; rcases bE (!a0.Flying) with h1 | h1
  ·
   refine bg 6 qS qS (by rfl) fun V v => ?_; refine ap ?_; (try simp only [go_sem, h1]); refine v _ ?_; clear v V; refine bt 8 [(8, (vb true)), (22, (vb ((a0.Tries == a1.Limit) || (decide ((IntKind.wrap .i64 (a0.At + a1.Life)) ≤ a2)))))] qS qS (by rfl) (fun V v => ?_) fun tz => ?_
   ·
    refine ap ?_; rcases bE (a0.Tries == a1.Limit) with h2 | h2
    ·
     (try simp only [go_sem, h1, h2]); exact v _ ⟨rfl, rfl, (qB h2), trivial⟩
    ·
     (try simp only [go_sem, h1, h2]); exact v _ ⟨rfl, rfl, (qB h2), trivial⟩
   ·
    refine ap ?_; (try simp only [go_sem, h1]); exact v _ ⟨rfl, (qB h1), trivial⟩
  ·
   (try simp only [go_sem, h1]); exact v _ ⟨rfl, (qB h1), trivial⟩
 ·
  refine ap ?_; (try simp only [go_sem]); refine qU u ?_; clear u U; refine aM ?_; obtain rfl := al h0; refine aF ?_; refine ax L5 (rfl) ?_; exact qF
theorem jD (a0 : Unacked) (a1 : Sender) (a2 : Int) (a3 : List Int) {r : (Bool × List Int)} (h0 : ei a0 a1 a2 a3 = some r) : cI K 64 6 (fun q => [(.agg (bh a0 (.imm (List.map vu a0.Frame.Body) a0.Frame.Body.length))), (.ptr (q 0) 0), (.ptr (q 1) 0)]) [(fun q => [(.clo 47 [] [(.ptr (q 2) 0), (.ptr (q 3) 0)])]), (fun q => [(.ref (q 4) 0 a3.length 1)]), (fun q => (av a1 (.ref (q 5) 0 a1.Out.length 44))), (fun q => [(vi a2)]), (fun q => (List.map vi a3)), (fun q => (List.flatMap ag a1.Out))] (fun q => (vb r.1)) [(some (fun q => [(.clo 47 [] [(.ptr (q 2) 0), (.ptr (q 3) 0)])])), (some (fun q => [(.ref (q 6) 0 r.2.length 1)])), (some (fun q => (av a1 (.ref (q 5) 0 a1.Out.length 44)))), (some (fun q => [(vi a2)])), none, (some (fun q => (List.flatMap ag a1.Out))), (some (fun q => (List.map vi r.2)))] := by
 refine cI.of_walkW hC (RenML.cons (aE.agg (p8 _ (rI (fg _)))) (RenML.cons (aE.ptr 0 0) (RenML.cons (aE.ptr 1 0) RenML.nil))) (aK (RenML.cons (aE.clo RenML.nil (RenML.cons (aE.ptr 2 0) (RenML.cons (aE.ptr 3 0) RenML.nil))) RenML.nil) (aK (RenML.cons (aE.ref 4 0 _ _) RenML.nil) (aK (bB _ (aE.ref 5 0 _ _)) (aK (RenML.cons rv RenML.nil) (aK (RenML.const (ac _)) (aK (RenML.const (ah _)) dO)))))) (aD (RenML.cons (aE.clo RenML.nil (RenML.cons (aE.ptr 2 0) (RenML.cons (aE.ptr 3 0) RenML.nil))) RenML.nil) (aD (RenML.cons (aE.ref 6 0 _ _) RenML.nil) (aD (bB _ (aE.ref 5 0 _ _)) (aD (RenML.cons rv RenML.nil) (eo (aD (RenML.const (ah _)) (aD (RenML.const (ac _)) c4))))))) rv rfl (qB2 rfl) (show K.P.funcs[64]? = some Try.f64 from Try.func64) rfl rfl (by decide +kernel) (qB2 rfl) ?_; unfold ei at h0; refine aa [0,1,2] fun tz U u => ?_; (try simp only [go_sem]); refine qU u ?_; clear u U; refine aa [1,2,3] fun tz U u => ?_; obtain ⟨x41, bx41, h0⟩ := bnd h0; (try simp only [go_sem]); (refine lk (by first | (simp only [go_sem, fz] <;> rfl) | (simp only [go_sem, fz, List.length_set, eG, ge, cond_true, cond_false] <;> rfl)) (rq a0 a1 a2 bx41) (kv.v _) ?_; try dsimp only); (try refine ap ?_); (try simp only [go_sem]); refine qU u ?_; clear u U; refine ak ?_; refine aa [2,3,5] fun tz U u => ?_; (try simp only [go_sem]); refine qU u ?_; clear u U; refine aN (b := x41) rfl (fun h1 => ?_) (fun h1 => ?_)
 ·
  have h0 := cT h0 h1; refine aa [2,3,5] fun tz U u => ?_; obtain ⟨x42, bx42, h0⟩ := bnd h0; have bx42 := bP bx42; simp only [Bool.and_eq_true, decide_eq_true_eq] at bx42; have gx42_0 := bx42; (try simp only [go_sem, gx42_0]); refine qU u ?_; clear u U; refine aa [5] fun tz U u => ?_; (try simp only [go_sem]); refine qU u ?_; clear u U; refine aM ?_; obtain rfl := al h0; refine aF ?_; refine ax ET (rfl) ?_; refine dh.mk [] [some 0, some 1, some 2, some 3, some 4, some 5, some 19] rfl (aS qM rfl (tc (Tm.clo tn (tc tp (tc tp tn))) tn) (aS qM rfl (tc tr tn) (aS qM rfl (aj (by rfl) tr) (aS qM rfl (tc tv tn) (gC (aS qM rfl (TmL.of_eq qL (ah _)) (aS qM rfl (TmL.of_eq qL (ac _)) ea))))))) tv; (all_goals exact qN)
 ·
  have h0 := cF h0 h1; refine aQ ?_; refine aa [5] fun tz U u => ?_; (try simp only [go_sem]); refine qU u ?_; clear u U; refine aM ?_; obtain rfl := al h0; refine aF ?_; refine ax ET (rfl) ?_; refine dh.mk [] [some 0, some 1, some 2, some 3, some 4, some 5, some 4] rfl (aS qM rfl (tc (Tm.clo tn (tc tp (tc tp tn))) tn) (aS qM rfl (tc tr tn) (aS qM rfl (aj (by rfl) tr) (aS qM rfl (tc tv tn) (gC (aS qM rfl (TmL.of_eq qL (ah _)) (aS qM rfl (TmL.of_eq qL (ac _)) ea))))))) tv; (all_goals exact qN)
def dv (a0 : Sender) (a1 : Int) (d39 : (List Int)) : AS :=
 { objs := (upd (upd (upd (upd (upd (upd (fun _ => .dead) 0 (.live (List.flatMap ag a0.Out))) 1 (.live [(.clo 47 [] [(.ptr 3 0), (.ptr 4 0)])])) 2 (.live [(.ref 5 0 d39.length 1)])) 3 (.live (av a0 (.ref 0 0 a0.Out.length 44)))) 4 (.live [(vi a1)])) 5 (.live (List.map vi d39))), next := 6, tmps := (fun _ => .unk) }

def dw (a0 : Sender) (a1 : Int) (d41 : (List Int × Int)) : AS :=
 { objs := (upd (upd (upd (upd (upd (upd (fun _ => .dead) 0 (.live (List.flatMap ag a0.Out))) 1 (.live [(.clo 47 [] [(.ptr 3 0), (.ptr 4 0)])])) 2 (.live [(.ref 5 0 d41.1.length 1)])) 3 (.live (av a0 (.ref 0 0 a0.Out.length 44)))) 4 (.live [(vi a1)])) 5 (.live (List.map vi d41.1))), next := 6, tmps := (upd (upd (upd (upd (fun _ => .unk) 0 (.ref 0 0 a0.Out.length 44)) 1 (.clo 64 [] [(.ptr 1 0), (.ptr 2 0)])) 7 (vi ((a0.Out.length : Nat) : Int))) 8 (vi d41.2)) }

theorem fm (a0 : Sender) (a1 : Int) {r : (Int × List Int)} (h0 : b9 a0 a1 = some r) : cI K 73 5 (fun q => [(.ref (q 0) 0 a0.Out.length 44), (.clo 64 [] [(.ptr (q 1) 0), (.ptr (q 2) 0)])]) [(fun q => (List.flatMap ag a0.Out)), (fun q => [(.clo 47 [] [(.ptr (q 3) 0), (.ptr (q 4) 0)])]), (fun q => [cA]), (fun q => (av a0 (.ref (q 0) 0 a0.Out.length 44))), (fun q => [(vi a1)])] (fun q => (vi r.1)) [(some (fun q => (List.flatMap ag a0.Out))), (some (fun q => [(.clo 47 [] [(.ptr (q 3) 0), (.ptr (q 4) 0)])])), (some (fun q => [(.ref (q 5) 0 r.2.length 1)])), (some (fun q => (av a0 (.ref (q 0) 0 a0.Out.length 44)))), (some (fun q => [(vi a1)])), (some (fun q => (List.map vi r.2)))] := by
 refine cI.of_walkW hC (RenML.cons (aE.ref 0 0 _ _) (RenML.cons (aE.clo RenML.nil (RenML.cons (aE.ptr 1 0) (RenML.cons (aE.ptr 2 0) RenML.nil))) RenML.nil)) (aK (RenML.const (ah _)) (aK (RenML.cons (aE.clo RenML.nil (RenML.cons (aE.ptr 3 0) (RenML.cons (aE.ptr 4 0) RenML.nil))) RenML.nil) (aK (RenML.cons rv RenML.nil) (aK (bB _ (aE.ref 0 0 _ _)) (aK (RenML.cons rv RenML.nil) dO))))) (aD (RenML.const (ah _)) (aD (RenML.cons (aE.clo RenML.nil (RenML.cons (aE.ptr 3 0) (RenML.cons (aE.ptr 4 0) RenML.nil))) RenML.nil) (aD (RenML.cons (aE.ref 5 0 _ _) RenML.nil) (aD (bB _ (aE.ref 0 0 _ _)) (aD (RenML.cons rv RenML.nil) (aD (RenML.const (ac _)) c4)))))) rv rfl (qB2 rfl) (show K.P.funcs[73]? = some Try.f73 from Try.func73) rfl rfl (by decide +kernel) (qB2 rfl) ?_; unfold b9 at h0; refine aa [0,1] fun tz U u => ?_; (try simp only [go_sem]); refine qU u ?_; clear u U; refine ak ?_; refine aa [0,1] fun tz U u => ?_; (try simp only [go_sem]); refine qU u ?_; clear u U; obtain ⟨o40, hi1, h0⟩ := bnd h0; refine dc (fun d39 : (List Int) => o40 = Ex.go d39) (fun d39 : (List Int) => dv a0 a1 d39) ?_ ?_
 ·
  refine bw ?_; refine cL (fun n (d41 : (List Int × Int)) => aZ a0 a1 n d41 = some o40) (fun d41 : (List Int × Int) => dw a0 a1 d41) big ([], 0) (by refine Wk.canonD [] [] [some 0, some 1, some 2, some 3, some 4, none] rfl trivial rfl (vd 5 (ar 4 (ar 3 (ar 2 (ar 1 (ar 0 bn rfl qM rfl (TmL.of_eq qL (ah _))) rfl qM rfl (tc (Tm.clo tn (tc tp (tc tp tn))) tn)) rfl qM rfl (tc tT tn)) rfl qM rfl (aj (by rfl) tr)) rfl qM rfl (tc tv tn)) rfl) (tA 8 (tA 7 (tA 1 (tA 0 aI tr) (Tm.clo tn (tc tp (tc tp tn)))) tv) tv); all_goals exact qN) hi1 ?_; clear hi1; rintro n d41 hl3; rcases n with _ | n2
  ·
   (rw [aZ] at hl3; cases hl3)
  ·
   rw [aZ] at hl3; unfold dw; refine aa [0,1,7,8] fun tz U u => ?_; (try simp only [go_sem]); refine qU u ?_; clear u U; refine aN (b := (decide (d41.2 < ((a0.Out.length : Nat) : Int)))) rfl (fun h4 => ?_) (fun h4 => ?_)
   ·
    have hl3 := cT hl3 h4; refine aQ ?_; refine cy ?_; refine aa [0,1,7,8] fun tz U u => ?_; (try simp only [go_sem]); refine qU u ?_; clear u U; refine aa [0,1,5,7,8] fun tz U u => ?_; obtain ⟨x42, bx42, hl3⟩ := bnd hl3; obtain ⟨fx42_0, fx42_1, fx42_2, fx42_3⟩ := cz bx42; (have fx42_5 : ((d41.2 : Int) < ((a0.Out.length : Nat) : Int)) = True := by first | exact fx42_1 | (simp [List.length_modify, List.length_set]; omega)); obtain ⟨x43, bx43, hl3⟩ := bnd hl3; (try simp only [go_sem, fx42_0, fx42_1, fx42_2, fx42_5]); (refine bI [1, 2, 3, 4, 5, 0] (jD x42 a0 a1 d41.1 bx43) (by decide) (by decide) ⟨(by first | rfl | (simp only [go_sem, fx42_0, fx42_1, fx42_2, fx42_5] <;> rfl)), (by first | rfl | (simp only [go_sem, fx42_0, fx42_1, fx42_2, fx42_5] <;> rfl)), (by first | rfl | (simp only [go_sem, fx42_0, fx42_1, fx42_2, fx42_5] <;> rfl)), (by first | rfl | (simp only [go_sem, fx42_0, fx42_1, fx42_2, fx42_5] <;> rfl)), (by first | rfl | (simp only [go_sem, fx42_0, fx42_1, fx42_2, fx42_5] <;> rfl)), (by first | rfl | (simp only [go_sem, fx42_0, fx42_1, fx42_2, fx42_5] <;> rfl)), trivial⟩ (by first | rfl | (simp only [go_sem, fx42_0, fx42_1, fx42_2, fx42_5] <;> rfl)) ?_; try dsimp only); (try refine ap ?_); (try simp only [go_sem, fx42_0, fx42_1, fx42_2, fx42_5, lc, ln]); refine qU u ?_; clear u U; refine bK (b := x43.1) rfl (fun h5 => ?_) (fun h5 => ?_)
    ·
     have hl3 := cT hl3 h5; refine aa [5] fun tz U u => ?_; (try simp only [go_sem, fx42_0, fx42_1, fx42_2, fx42_5]); refine qU u ?_; clear u U; refine aM ?_; refine jq ?_; refine jO ?_; refine Cj ?_; refine jq ?_; refine jO ?_; obtain rfl := al hl3; obtain rfl := Ex.k_ret h0; refine aF ?_; refine ax En (rfl) ?_; refine dh.mk [] [some 0, some 1, some 2, some 3, some 4, some 15] rfl (aS qM rfl (TmL.of_eq qL (ah _)) (aS qM rfl (tc (Tm.clo tn (tc tp (tc tp tn))) tn) (aS qM rfl (tc tr tn) (aS qM rfl (aj (by rfl) tr) (aS qM rfl (tc tv tn) (aS qM rfl (TmL.of_eq qL (ac _)) ea)))))) tv; (all_goals exact qN)
    ·
     have hl3 := cF hl3 h5; refine c6 ?_; refine iM ?_; refine ep ?_; refine bC [0,1,7,8] fun tz U u => ?_; (try simp only [go_sem, fx42_0, fx42_1, fx42_2, fx42_5]); refine u _ ?_; clear u U; refine jd ?_; exact ⟨n2, (x43.2, IntKind.wrap .i64 (d41.2 + 1)), rfl, hl3, (by refine Wk.canonD [] [] [some 0, some 1, some 2, some 3, some 4, some 15] rfl trivial rfl (ar 5 (ar 4 (ar 3 (ar 2 (ar 1 (ar 0 bn rfl qM rfl (TmL.of_eq qL (ah _))) rfl qM rfl (tc (Tm.clo tn (tc tp (tc tp tn))) tn)) rfl qM rfl (tc tr tn)) rfl qM rfl (aj (by rfl) tr)) rfl qM rfl (tc tv tn)) rfl qM rfl (TmL.of_eq qL (ac _))) (tA 8 (tA 7 (tA 1 (tA 0 aI tr) (Tm.clo tn (tc tp (tc tp tn)))) tv) tv); all_goals exact qN)⟩
   ·
    have hl3 := cF hl3 h4; refine cC ?_; refine kS ?_; refine jS ?_; refine fU ?_; obtain rfl := al hl3; exact ⟨_, rfl, (by refine Wk.canonD [] [] [some 0, some 1, some 2, some 3, some 4, some 5] rfl trivial rfl (ar 5 (ar 4 (ar 3 (ar 2 (ar 1 (ar 0 bn rfl qM rfl (TmL.of_eq qL (ah _))) rfl qM rfl (tc (Tm.clo tn (tc tp (tc tp tn))) tn)) rfl qM rfl (tc tr tn)) rfl qM rfl (aj (by rfl) tr)) rfl qM rfl (tc tv tn)) rfl qM rfl (TmL.of_eq qL (ac _))) aI; all_goals exact qN)⟩
 ·
  rintro d39 rfl; have h0 := Ex.k_go h0; clear hi1; unfold dv; refine aa [] fun tz U u => ?_; (try simp only [go_sem]); refine qU u ?_; clear u U; refine aM ?_; obtain rfl := al h0; refine aF ?_; refine ax En (rfl) ?_; refine dh.mk [] [some 0, some 1, some 2, some 3, some 4, some 5] rfl (aS qM rfl (TmL.of_eq qL (ah _)) (aS qM rfl (tc (Tm.clo tn (tc tp (tc tp tn))) tn) (aS qM rfl (tc tr tn) (aS qM rfl (aj (by rfl) tr) (aS qM rfl (tc tv tn) (aS qM rfl (TmL.of_eq qL (ac _)) ea)))))) tv; (all_goals exact qN)
def dr (a1 : Int) (d40 : (List Unacked × Int × Sender × List Int)) : AS :=
 { objs := (upd (upd (upd (upd (upd (upd (fun _ => .dead) 0 (.live (List.flatMap ag d40.1))) 1 (.live [(.clo 47 [] [(.ptr 3 0), (.ptr 4 0)])])) 2 (.live [(.ref 5 0 d40.2.2.2.length 1)])) 3 (.live (av d40.2.2.1 (.ref 0 0 d40.1.length 44)))) 4 (.live [(vi a1)])) 5 (.live (List.map vi d40.2.2.2))), next := 6, tmps := (upd (upd (fun _ => .unk) 0 (.ref 0 0 d40.1.length 44)) 5 (vi d40.2.1)) }

def dm (a1 : Int) (d41 : (List Unacked × Sender × List Int × Int × Int)) : AS :=
 { objs := (upd (upd (upd (upd (upd (upd (fun _ => .dead) 0 (.live (List.flatMap ag d41.1))) 1 (.live [(.clo 47 [] [(.ptr 3 0), (.ptr 4 0)])])) 2 (.live [(.ref 5 0 d41.2.2.1.length 1)])) 3 (.live (av d41.2.1 (.ref 0 0 d41.1.length 44)))) 4 (.live [(vi a1)])) 5 (.live (List.map vi d41.2.2.1))), next := 6, tmps := (upd (upd (upd (upd (fun _ => .unk) 0 (.ref 0 0 d41.1.length 44)) 1 (.clo 64 [] [(.ptr 1 0), (.ptr 2 0)])) 5 (vi d41.2.2.2.1)) 6 (vi d41.2.2.2.2)) }

theorem fl (a0 : Sender) (a1 : Int) {r : (List Unacked × Sender × List Int)} (h0 : bJ a0 a1 = some r) : cI K 63 5 (fun q => [(.ref (q 0) 0 a0.Out.length 44), (.clo 64 [] [(.ptr (q 1) 0), (.ptr (q 2) 0)])]) [(fun q => (List.flatMap ag a0.Out)), (fun q => [(.clo 47 [] [(.ptr (q 3) 0), (.ptr (q 4) 0)])]), (fun q => [cA]), (fun q => (av a0 (.ref (q 0) 0 a0.Out.length 44))), (fun q => [(vi a1)])] (fun q => (.ref (q 0) 0 r.1.length 44)) [(some (fun q => (List.flatMap ag r.1))), (some (fun q => [(.clo 47 [] [(.ptr (q 3) 0), (.ptr (q 4) 0)])])), (some (fun q => [(.ref (q 5) 0 r.2.2.length 1)])), (some (fun q => (av r.2.1 .unk))), (some (fun q => [(vi a1)])), (some (fun q => (List.map vi r.2.2)))] := by
 refine cI.of_walkW hC (RenML.cons (aE.ref 0 0 _ _) (RenML.cons (aE.clo RenML.nil (RenML.cons (aE.ptr 1 0) (RenML.cons (aE.ptr 2 0) RenML.nil))) RenML.nil)) (aK (RenML.const (ah _)) (aK (RenML.cons (aE.clo RenML.nil (RenML.cons (aE.ptr 3 0) (RenML.cons (aE.ptr 4 0) RenML.nil))) RenML.nil) (aK (RenML.cons rv RenML.nil) (aK (bB _ (aE.ref 0 0 _ _)) (aK (RenML.cons rv RenML.nil) dO))))) (aD (RenML.const (ah _)) (aD (RenML.cons (aE.clo RenML.nil (RenML.cons (aE.ptr 3 0) (RenML.cons (aE.ptr 4 0) RenML.nil))) RenML.nil) (aD (RenML.cons (aE.ref 5 0 _ _) RenML.nil) (aD (bB _ (aE.const aw.unk)) (aD (RenML.cons rv RenML.nil) (aD (RenML.const (ac _)) c4)))))) (aE.ref 0 0 _ _) rfl (qB2 rfl) (show K.P.funcs[63]? = some Try.f63 from Try.func63) rfl rfl (by decide +kernel) (qB2 rfl) ?_; unfold bJ at h0; refine aa [0,1] fun tz U u => ?_; (try simp only [go_sem]); refine qU u ?_; clear u U; refine aa [0,1] fun tz U u => ?_; obtain ⟨x39, bx39, h0⟩ := bnd h0; (try simp only [go_sem]); (refine bI [0, 1, 2, 3, 4] (fm a0 a1 bx39) (by decide) (by decide) ⟨qG, qG, qG, qG, qG, trivial⟩ qG ?_; try dsimp only); (try refine ap ?_); (try simp only [go_sem, lc, ln]); refine qU u ?_; clear u U; refine ak ?_; refine aa [0,1,5] fun tz U u => ?_; (try simp only [go_sem, Int.reduceNeg]); refine qU u ?_; clear u U; refine aN (b := (x39.1 == (-1))) rfl (fun h1 => ?_) (fun h1 => ?_)
 ·
  have h0 := cT h0 h1; refine ak ?_; refine aa [0] fun tz U u => ?_; (try simp only [go_sem]); refine qU u ?_; clear u U; refine bA ?_; obtain rfl := al h0; refine aF ?_; refine ax Es (rfl) ?_; refine dh.mk [] [some 0, some 1, some 2, some 3, some 4, some 10] rfl (aS qM rfl (TmL.of_eq qL (ah _)) (aS qM rfl (tc (Tm.clo tn (tc tp (tc tp tn))) tn) (aS qM rfl (tc tr tn) (aS qM rfl (aj (by rfl) (Tm.unk _)) (aS qM rfl (tc tv tn) (aS qM rfl (TmL.of_eq qL (ac _)) ea)))))) tr; (all_goals exact qN)
 ·
  have h0 := cF h0 h1; refine aQ ?_; refine ak ?_; refine aa [0,1,5] fun tz U u => ?_; (try simp only [go_sem]); refine qU u ?_; clear u U; obtain ⟨d40, hi2, h0⟩ := bnd h0; refine dc (fun z => d40 = z) (fun d40 : (List Unacked × Int × Sender × List Int) => dr a1 d40) ?_ ?_
  ·
   refine bw ?_; refine cL (fun n (d41 : (List Unacked × Sender × List Int × Int × Int)) => aV a1 n d41 = some d40) (fun d41 : (List Unacked × Sender × List Int × Int × Int) => dm a1 d41) big (a0.Out, a0, x39.2, x39.1, IntKind.wrap .i64 (x39.1 + 1)) (by refine Wk.canonD [] [] [some 0, some 1, some 2, some 3, some 4, some 10] rfl trivial rfl (ar 5 (ar 4 (ar 3 (ar 2 (ar 1 (ar 0 bn rfl qM rfl (TmL.of_eq qL (ah _))) rfl qM rfl (tc (Tm.clo tn (tc tp (tc tp tn))) tn)) rfl qM rfl (tc tr tn)) rfl qM rfl (aj (by rfl) tr)) rfl qM rfl (tc tv tn)) rfl qM rfl (TmL.of_eq qL (ac _))) (tA 6 (tA 5 (tA 1 (tA 0 aI tr) (Tm.clo tn (tc tp (tc tp tn)))) tv) tv); all_goals exact qN) hi2 ?_; clear hi2; rintro n d41 hl4; rcases n with _ | n3
   ·
    (rw [aV] at hl4; cases hl4)
   ·
    rw [aV] at hl4; unfold dm; refine ak ?_; refine aa [0,1,5,6] fun tz U u => ?_; (try simp only [go_sem]); refine qU u ?_; clear u U; refine aN (b := (decide (d41.2.2.2.2 < ((d41.1.length : Nat) : Int)))) rfl (fun h5 => ?_) (fun h5 => ?_)
    ·
     have hl4 := cT hl4 h5; refine aQ ?_; refine cy ?_; refine aa [0,1,5,6] fun tz U u => ?_; obtain ⟨x42, bx42, hl4⟩ := bnd hl4; obtain ⟨fx42_0, fx42_1, fx42_2, fx42_3⟩ := cz bx42; (have fx42_5 : ((d41.2.2.2.2 : Int) < ((d41.1.length : Nat) : Int)) = True := by first | exact fx42_1 | (simp [List.length_modify, List.length_set]; omega)); (try simp only [go_sem, fx42_0, fx42_1, fx42_2, fx42_5]); refine qU u ?_; clear u U; refine aa [0,1,5,6,7] fun tz U u => ?_; obtain ⟨x43, bx43, hl4⟩ := bnd hl4; (try simp only [go_sem, fx42_0, fx42_1, fx42_2, fx42_5]); (refine bI [1, 2, 3, 4, 5, 0] (jD x42 { d41.2.1 with Out := d41.1 } a1 d41.2.2.1 bx43) (by decide) (by decide) ⟨(by first | rfl | (simp only [go_sem, fx42_0, fx42_1, fx42_2, fx42_5] <;> rfl)), (by first | rfl | (simp only [go_sem, fx42_0, fx42_1, fx42_2, fx42_5] <;> rfl)), (by first | rfl | (simp only [go_sem, fx42_0, fx42_1, fx42_2, fx42_5] <;> rfl)), (by first | rfl | (simp only [go_sem, fx42_0, fx42_1, fx42_2, fx42_5] <;> rfl)), (by first | rfl | (simp only [go_sem, fx42_0, fx42_1, fx42_2, fx42_5] <;> rfl)), (by first | rfl | (simp only [go_sem, fx42_0, fx42_1, fx42_2, fx42_5] <;> rfl)), trivial⟩ (by first | rfl | (simp only [go_sem, fx42_0, fx42_1, fx42_2, fx42_5] <;> rfl)) ?_; try dsimp only); (try refine ap ?_); (try simp only [go_sem, fx42_0, fx42_1, fx42_2, fx42_5, lc, ln]); refine qU u ?_; clear u U; refine bK (b := (!x43.1)) rfl (fun h6 => ?_) (fun h6 => ?_)
     ·
      have hl4 := cT hl4 h6; refine aa [0,1,5,6,7] fun tz U u => ?_; obtain ⟨x44, bx44, hl4⟩ := bnd hl4; obtain ⟨fx44_0, fx44_1, fx44_2, fx44_3⟩ := cz bx44; (have fx44_5 : ((d41.2.2.2.1 : Int) < ((d41.1.length : Nat) : Int)) = True := by first | exact fx44_1 | (simp [List.length_modify, List.length_set]; omega)); have gs7 : ((d41.2.2.2.1).toNat * 44 + 44 ≤ d41.1.length * 44) = True := eq_true (by (try simp only [List.length_modify, List.length_set]); omega); have gm8 : (d41.1.set ((d41.2.2.2.1).toNat) x42)[(d41.2.2.2.1).toNat]? = some x42 := D7 _ fx44_2; (try simp only [go_sem, fx42_0, fx42_1, fx42_2, fx42_5, fx44_0, fx44_1, fx44_2, fx44_5, gs7, gm8]); refine qU u ?_; clear u U; refine bC [0,1,5,6] fun tz U u => ?_; (try simp only [go_sem, gm8, fx44_0, fx44_1, fx44_2, fx44_5]); refine u _ ?_; clear u U; refine iM ?_; refine ep ?_; refine bC [0,1,5,6] fun tz U u => ?_; (try simp only [go_sem, gm8, fx44_0, fx44_1, fx44_2, fx44_5]); refine u _ ?_; clear u U; refine jd ?_; exact ⟨n3, ((d41.1.set ((d41.2.2.2.1).toNat) x42), { d41.2.1 with Out := d41.1 }, x43.2, IntKind.wrap .i64 (d41.2.2.2.1 + 1), IntKind.wrap .i64 (d41.2.2.2.2 + 1)), rfl, hl4, (by refine Wk.canonD [] [] [some 0, some 1, some 2, some 3, some 4, some 20] rfl trivial rfl (ar 5 (ar 4 (ar 3 (ar 2 (ar 1 (ar 0 bn rfl qM rfl (TmL.of_eq qL (ah _))) rfl qM rfl (tc (Tm.clo tn (tc tp (tc tp tn))) tn)) rfl qM rfl (tc tr tn)) rfl qM rfl (aj (by rfl) tr)) rfl qM rfl (tc tv tn)) rfl qM rfl (TmL.of_eq qL (ac _))) (tA 6 (tA 5 (tA 1 (tA 0 aI tr) (Tm.clo tn (tc tp (tc tp tn)))) tv) tv); all_goals exact qN)⟩
     ·
      have hl4 := cF hl4 h6; refine c6 ?_; refine iM ?_; refine ep ?_; refine bC [0,1,5,6] fun tz U u => ?_; (try simp only [go_sem, fx42_0, fx42_1, fx42_2, fx42_5]); refine u _ ?_; clear u U; refine jd ?_; exact ⟨n3, (d41.1, { d41.2.1 with Out := d41.1 }, x43.2, d41.2.2.2.1, IntKind.wrap .i64 (d41.2.2.2.2 + 1)), rfl, hl4, (by refine Wk.canonD [] [] [some 0, some 1, some 2, some 3, some 4, some 20] rfl trivial rfl (ar 5 (ar 4 (ar 3 (ar 2 (ar 1 (ar 0 bn rfl qM rfl (TmL.of_eq qL (ah _))) rfl qM rfl (tc (Tm.clo tn (tc tp (tc tp tn))) tn)) rfl qM rfl (tc tr tn)) rfl qM rfl (aj (by rfl) tr)) rfl qM rfl (tc tv tn)) rfl qM rfl (TmL.of_eq qL (ac _))) (tA 6 (tA 5 (tA 1 (tA 0 aI tr) (Tm.clo tn (tc tp (tc tp tn)))) tv) tv); all_goals exact qN)⟩
    ·
     have hl4 := cF hl4 h5; refine cC ?_; refine kS ?_; refine jS ?_; refine fU ?_; obtain rfl := al hl4; exact ⟨_, rfl, (by refine Wk.canonD [] [] [some 0, some 1, some 2, some 3, some 4, some 5] rfl trivial rfl (ar 5 (ar 4 (ar 3 (ar 2 (ar 1 (ar 0 bn rfl qM rfl (TmL.of_eq qL (ah _))) rfl qM rfl (tc (Tm.clo tn (tc tp (tc tp tn))) tn)) rfl qM rfl (tc tr tn)) rfl qM rfl (aj (by rfl) tr)) rfl qM rfl (tc tv tn)) rfl qM rfl (TmL.of_eq qL (ac _))) (tA 5 (tA 0 aI tr) tv); all_goals exact qN)⟩
  ·
   rintro _ rfl; clear hi2; unfold dr; refine aa [0,5] fun tz U u => ?_; obtain ⟨x45, bx45, h0⟩ := bnd h0; have bx45 := bP bx45; simp only [Bool.and_eq_true, decide_eq_true_eq] at bx45; obtain ⟨gx45_0, gx45_1⟩ := bx45; (have g9 : (((d40.1.length : Nat) : Int) - d40.2.1).toNat = d40.1.length - (d40.2.1).toNat := by omega); have gs10 : ((d40.2.1).toNat * 44 + (d40.1.length - (d40.2.1).toNat) * 44 ≤ d40.1.length * 44) = True := eq_true (by omega); (try simp only [go_sem, gx45_0, gx45_1, g9, gs10]); have ht : ct (List.flatMap ag d40.1) ((d40.2.1).toNat * 44) (rep (d40.1.length - (d40.2.1).toNat) (bh Unacked.z cA)) = (List.flatMap ag (List.take ((d40.2.1).toNat) d40.1)) ++ _ := vT cR _ _ _ (by rw [dD]; exact of_eq_true gs10); refine u _ _ (Wk.trim 0 ?_ ht) ?_
   ·
    simp only [ek, Nat.reduceEqDiff, reduceIte, if_true, if_false] <;> rfl
   clear u U ht; refine aa [0,5] fun tz U u => ?_; obtain ⟨x46, bx46, h0⟩ := bnd h0; have bx46 := bP bx46; simp only [Bool.and_eq_true, decide_eq_true_eq] at bx46; obtain ⟨gx46_0, gx46_1⟩ := bx46; (try simp only [go_sem, gx46_0, gx46_1, Int.sub_zero]); refine qU u ?_; clear u U; refine aM ?_; obtain rfl := al h0; refine aF ?_; refine ax Es (rfl) ?_; refine dh.mk [] [some 0, some 1, some 2, some 3, some 4, some 5] rfl (aS qM rfl (TmL.of_eq qL (ah _)) (aS qM rfl (tc (Tm.clo tn (tc tp (tc tp tn))) tn) (aS qM rfl (tc tr tn) (aS qM rfl (aj (by rfl) (Tm.unk _)) (aS qM rfl (tc tv tn) (aS qM rfl (TmL.of_eq qL (ac _)) ea)))))) tr; (all_goals exact qN)
theorem sJ (a0 : Sender) (a1 : Int) {r : (List Int × Sender × List Unacked)} (h0 : jy a0 a1 = some r) : cI K 46 3 (fun q => [(.ptr (q 0) 0), (.clo 47 [] [(.ptr (q 0) 0), (.ptr (q 1) 0)])]) [(fun q => (av a0 (.ref (q 2) 0 a0.Out.length 44))), (fun q => [(vi a1)]), (fun q => (List.flatMap ag a0.Out))] (fun q => (.ref (q 3) 0 r.1.length 1)) [(some (fun q => (av r.2.1 (.ref (q 2) 0 r.2.2.length 44)))), (some (fun q => [(vi a1)])), (some (fun q => (List.flatMap ag r.2.2))), (some (fun q => (List.map vi r.1)))] := by
 refine cI.of_walkW hC (RenML.cons (aE.ptr 0 0) (RenML.cons (aE.clo RenML.nil (RenML.cons (aE.ptr 0 0) (RenML.cons (aE.ptr 1 0) RenML.nil))) RenML.nil)) (aK (bB _ (aE.ref 2 0 _ _)) (aK (RenML.cons rv RenML.nil) (aK (RenML.const (ah _)) dO))) (aD (bB _ (aE.ref 2 0 _ _)) (aD (RenML.cons rv RenML.nil) (aD (RenML.const (ah _)) (aD (RenML.const (ac _)) c4)))) (aE.ref 3 0 _ _) rfl (qB2 rfl) (show K.P.funcs[46]? = some Try.f46 from Try.func46) rfl rfl (by decide +kernel) (qB2 rfl) ?_; unfold jy at h0; refine aa [0,1] fun tz U u => ?_; (try simp only [go_sem]); refine qU u ?_; clear u U; refine aa [0,3,4] fun tz U u => ?_; obtain ⟨x39, bx39, h0⟩ := bnd h0; (try simp only [go_sem]); (refine bI [2, 3, 4, 0, 1] (fl a0 a1 bx39) (by decide) (by decide) ⟨qG, qG, qG, qG, qG, trivial⟩ qG ?_; try dsimp only); (try refine ap ?_); (try simp only [go_sem, lc, ln]); refine qU u ?_; clear u U; refine aa [4] fun tz U u => ?_; (try simp only [go_sem]); refine qU u ?_; clear u U; refine aM ?_; obtain rfl := al h0; refine aF ?_; refine ax J4 qR ?_; refine dh.mk [] [some 0, some 1, some 2, some 15] rfl (aS qM rfl (aj (by rfl) tr) (aS qM rfl (tc tv tn) (aS qM rfl (TmL.of_eq qL (ah _)) (aS qM rfl (TmL.of_eq qL (ac _)) ea)))) tr; (all_goals exact qN)
def mn (x36 : (Sender × Int)) (a1 : Int) : AS :=
 { objs := (upd (upd (upd (upd (fun _ => .dead) 0 (.live (av x36.1 (.ref 1 0 x36.1.Out.length 44)))) 1 (.live (List.flatMap ag x36.1.Out))) 2 (.live [(vi a1)])) 3 (.live (av Sender.z cA))), next := 4, tmps := (upd (upd (upd (upd (fun _ => .unk) 2 (.ptr 0 0)) 3 (.ptr 2 0)) 5 (.ptr 3 0)) 6 (vi x36.2)) }

theorem tQ (a0 : Sender) (a1 : Int) {r : ((List Int) × Sender × Int)} (h0 : eW a0 a1 = some r) : fT K 31 [(.agg (bp a0)), (vi a1)] (fun q => (.tup [(.ref (q 0) 0 r.1.length 1), (.agg (av r.2.1 (.ref (q 1) 0 r.2.1.Out.length 44))), (vi r.2.2)])) [(List.map vi r.1), (List.flatMap ag r.2.1.Out)] := by
 refine fT.of_walkW hC (show K.P.funcs[31]? = some Try.f31 from Try.func31) rfl rfl (by decide +kernel) (qB2 rfl) ?_; unfold eW at h0; refine aa [0,1] fun tz U u => ?_; (try simp only [go_sem]); refine qU u ?_; clear u U; refine dV [2,3,5] (fun _ => rfl) fun tz => ?_; refine cm fun U u all hall => ?_; refine cp ?_; (try simp only [List.toList_toArray, List.map_cons, List.map_nil, List.size_toArray, List.length_cons, List.length_nil, Nat.zero_add]); (try simp only [Nat.reduceAdd]); obtain ⟨x35, bx35, h0⟩ := bnd h0; (iterate 3 ((try simp only [go_sem, -Nat.reduceAdd]); try simp only [Nat.reduceAdd])); (refine eO (cn a1 0 1099511627776 bx35) ?_; try dsimp only); (try refine cp ?_); obtain ⟨x36, bx36, h0⟩ := bnd h0; (iterate 3 ((try simp only [go_sem, -Nat.reduceAdd]); try simp only [Nat.reduceAdd])); (refine pp (lB a0 x35 bx36 _) ?_; try dsimp only); (try refine cp ?_); (iterate 3 ((try simp only [go_sem, -Nat.reduceAdd]); try simp only [Nat.reduceAdd])); refine And.intro ?_ (u _ (mn x36 a1) (by refine Wk.canonD [] [] [some 0, some 8, some 1, some 3] rfl trivial rfl (ar 3 (ar 2 (ar 1 (ar 0 bn rfl qM rfl (aj (by rfl) tr)) rfl qM rfl (TmL.of_eq qL (ah _))) rfl qM rfl (tc tv tn)) rfl qM rfl (aj (by rfl) tv)) (tA 6 (tA 5 (tA 3 (tA 2 aI tp) tp) tp) tv); all_goals exact qN) ?_)
 ·
  subst hall; clear u U; exact qP
 ·
  clear u U hall all; unfold mn; refine ak ?_; refine aa [2,3,5,6] fun tz U u => ?_; (try simp only [go_sem]); refine qU u ?_; clear u U; refine aN (b := (x36.2 != 0)) rfl (fun h1 => ?_) (fun h1 => ?_)
  ·
   have h0 := cT h0 h1; refine ak ?_; refine aa [5,6] fun tz U u => ?_; (try simp only [go_sem]); refine qU u ?_; clear u U; refine bA ?_; obtain rfl := al h0; refine aF ?_; refine ax J5 qR ?_; refine Res.mk [] [none, none] rfl (cP (cP cO)) (Tm.tup (tc tT (tc (Tm.agg (aj (by rfl) tT)) (tc tv tn))))
  ·
   have h0 := cF h0 h1; refine aQ ?_; refine aa [2,3,5] fun tz U u => ?_; obtain ⟨x37, bx37, h0⟩ := bnd h0; (try simp only [go_sem]); (refine bI [0, 2, 1] (sJ x36.1 a1 bx37) (by decide) (by decide) ⟨qG, qG, qG, trivial⟩ qG ?_; try dsimp only); (try refine ap ?_); (try simp only [go_sem, lc, ln]); refine qU u ?_; clear u U; refine aa [2,4,5] fun tz U u => ?_; refine bg 3 qS qS (by rfl) fun V v => ?_; refine ap ?_; (try simp only [go_sem]); refine v _ ?_; clear v V; refine bt 4 [(2, (.ptr 0 0)), (4, (.ref 9 0 x37.1.length 1)), (5, (.ptr 3 0)), (26, (vb (x37.2.1.Bar || (decide (0 < ((x37.1.length : Nat) : Int))))))] qS qS (by rfl) (fun V v => ?_) fun tz => ?_
   ·
    refine ap ?_; rcases bE x37.2.1.Bar with h2 | h2
    ·
     (try simp only [go_sem, h2]); exact v _ ⟨(by first | rfl | (simp only [h2]; done)), rfl, rfl, rfl, (qB h2), trivial⟩
    ·
     (try simp only [go_sem, h2]); exact v _ ⟨(by first | rfl | (simp only [h2]; done)), rfl, rfl, rfl, (qB h2), trivial⟩
   ·
    refine ap ?_; (try simp only [go_sem]); refine qU u ?_; clear u U; refine dV [2,4,5] (fun _ => rfl) fun tz => ?_; refine cm fun U u all hall => ?_; refine cp ?_; (try simp only [List.toList_toArray, List.map_cons, List.map_nil, List.size_toArray, List.length_cons, List.length_nil, Nat.zero_add]); (try simp only [Nat.reduceAdd]); (iterate 3 ((try simp only [go_sem, -Nat.reduceAdd]); try simp only [Nat.reduceAdd])); refine And.intro ?_ (u _ _ (Wk.refl _ _ _) ?_)
    ·
     subst hall; clear u U; exact qP
    ·
     clear u U hall all; refine aM ?_; obtain rfl := al h0; refine aF ?_; refine ax J5 qR ?_; refine Res.mk [] [some 9, some 1] rfl (fh qM rfl (TmL.of_eq qL (ac _)) (fh qM rfl (TmL.of_eq qL (ah _)) cO)) (Tm.tup (tc tr (tc (Tm.agg (aj (by rfl) tr)) (tc tv tn)))); (all_goals exact qN)


theorem t7 (a0 : Sender) (a1 : Int) {r : ((List Int) × Sender × Int)} (h0 : eW a0 a1 = some r) : SndP K 31 [(.agg (bp a0)), (vi a1)] (.tup [(lM r.1), (.agg (bp r.2.1)), (vi r.2.2)]) :=
 la.pure (rM (tQ a0 a1 h0) (aE.tup (RenML.cons (aE.ref 0 0 _ _) (RenML.cons (aE.agg (bB _ (aE.ref 1 0 _ _))) (RenML.cons rv RenML.nil)))) (bo (ac _) (bo (ah _) cx)) (af (aw.agg (aR _)) (af cv az))) (aw.tup (af (dj _) (af (aw.agg (aR _)) (af cv az)))) (af (aw.agg (aR _)) (af cv az)) qV
theorem jo (a0 : (List Bool)) {r : (Bool × List Bool)} (h0 : fa a0 = some r) : cI K 17 1 (fun q => [(.ptr (q 0) 0)]) [(fun q => [(.imm (List.map vb a0) a0.length)])] (fun q => (vb r.1)) [(some (fun q => [(.imm (List.map vb r.2) r.2.length)]))] := by
 refine cI.of_walkW hC (RenML.cons (aE.ptr 0 0) RenML.nil) (aK (RenML.cons (rI (aO _)) RenML.nil) dO) (aD (RenML.cons (rI (aO _)) RenML.nil) c4) rv rfl (qB2 rfl) (show K.P.funcs[17]? = some Try.f17 from Try.func17) rfl rfl (by decide +kernel) (qB2 rfl) ?_; unfold fa at h0; refine aa [0] fun tz U u => ?_; (try simp only [go_sem]); refine qU u ?_; clear u U; refine ak ?_; refine aa [0] fun tz U u => ?_; (try simp only [go_sem]); refine qU u ?_; clear u U; refine aN (b := ((a0.length : Int) == 0)) rfl (fun h1 => ?_) (fun h1 => ?_)
 ·
  have h0 := cT h0 h1; refine ak ?_; refine aa [] fun tz U u => ?_; (try simp only [go_sem]); refine qU u ?_; clear u U; refine bA ?_; obtain rfl := al h0; refine aF ?_; refine ax JS (rfl) ?_; refine dh.mk [] [some 0] rfl (aS qM rfl (tc (tI (aO _)) tn) ea) tv
 ·
  have h0 := cF h0 h1; refine aQ ?_; refine aa [0] fun tz U u => ?_; obtain ⟨x42, bx42, h0⟩ := bnd h0; obtain ⟨fx42_0, fx42_1, fx42_2, fx42_3⟩ := cz bx42; simp only [Int.reduceToNat] at fx42_2 fx42_3; (try simp only [go_sem, fx42_0, fx42_1, fx42_2]); refine qU u ?_; clear u U; refine aa [0,2] fun tz U u => ?_; obtain ⟨x43, bx43, h0⟩ := bnd h0; have bx43 := bP bx43; simp only [Bool.and_eq_true, decide_eq_true_eq] at bx43; have gx43_0 := bx43; (have g2 : ((a0.length : Int) - 1).toNat = (List.drop 1 a0).length := by simp only [List.length_take, List.length_drop]; omega); (try simp only [Int.sub_zero] at g2); (try simp only [go_sem, fx42_0, fx42_1, fx42_2, gx43_0, g2, Int.sub_zero]); refine qU u ?_; clear u U; refine aa [2] fun tz U u => ?_; (try simp only [go_sem, fx42_0, fx42_1, fx42_2]); refine qU u ?_; clear u U; refine aM ?_; obtain rfl := al h0; refine aF ?_; refine ax JS (rfl) ?_; refine dh.mk [] [some 0] rfl (aS qM rfl (tc (tI (aO _)) tn) ea) tv
theorem uz (a0 : Sender) {r : Int} (h0 : gA a0 = some r) : SndP K 32 [(.agg (bp a0))] (vi r) := by
 refine SndP.of_walkW hC cv (af (aw.agg (aR _)) az) (show K.P.funcs[32]? = some Try.f32 from Try.func32) rfl rfl (by decide +kernel) (qB2 rfl) ?_; unfold gA at h0; refine aa [0] fun tz U u => ?_; (try simp only [go_sem]); refine qU u ?_; clear u U; refine ak ?_; refine aa [1] fun tz U u => ?_; obtain ⟨x45, bx45, h0⟩ := bnd h0; (try simp only [go_sem]); (refine aP (fi a0 bx45) ?_; try dsimp only); (try refine ap ?_); (try simp only [go_sem]); refine qU u ?_; clear u U; refine aN (b := (x45 != 0)) rfl (fun h1 => ?_) (fun h1 => ?_)
 ·
  have h0 := cT h0 h1; refine ak ?_; refine aa [] fun tz U u => ?_; (try simp only [go_sem]); refine qU u ?_; clear u U; refine bA ?_; obtain rfl := al h0; refine aF ?_; refine ax Kk (rfl) ?_; exact qF
 ·
  have h0 := cF h0 h1; refine aQ ?_; refine aa [1] fun tz U u => ?_; obtain ⟨x46, bx46, h0⟩ := bnd h0; (try simp only [go_sem]); (refine aP (kT a0 bx46) ?_; try dsimp only); (try refine ap ?_); (try simp only [go_sem]); refine qU u ?_; clear u U; refine aM ?_; obtain rfl := al h0; refine aF ?_; refine ax Kk (rfl) ?_; exact qF
def mh (x49 : (Sender × Int)) : AS :=
 { objs := (upd (upd (upd (fun _ => .dead) 0 (.live (av x49.1 (.ref 1 0 x49.1.Out.length 44)))) 1 (.live (List.flatMap ag x49.1.Out))) 2 (.live (av Sender.z cA))), next := 3, tmps := (upd (upd (upd (fun _ => .unk) 1 (.ptr 0 0)) 2 (.ptr 2 0)) 4 (vi x49.2)) }

theorem tx (a0 : Sender) {r : (Sender × Int)} (h0 : eE a0 = some r) : fT K 33 [(.agg (bp a0))] (fun q => (.tup [(.agg (av r.1 (.ref (q 0) 0 r.1.Out.length 44))), (vi r.2)])) [(List.flatMap ag r.1.Out)] := by
 refine fT.of_walkW hC (show K.P.funcs[33]? = some Try.f33 from Try.func33) rfl rfl (by decide +kernel) (qB2 rfl) ?_; unfold eE at h0; refine aa [0] fun tz U u => ?_; (try simp only [go_sem]); refine qU u ?_; clear u U; refine aa [1,2] fun tz U u => ?_; obtain ⟨x49, bx49, h0⟩ := bnd h0; (try simp only [go_sem]); (refine lq (lL a0 true bx49) ?_; try dsimp only); (try refine ap ?_); (try simp only [go_sem]); refine u _ (mh x49) (by refine Wk.canonD [] [] [some 0, some 10, some 1] rfl trivial rfl (ar 2 (ar 1 (ar 0 bn rfl qM rfl (aj (by rfl) tr)) rfl qM rfl (TmL.of_eq qL (ah _))) rfl qM rfl (aj (by rfl) tv)) (tA 4 (tA 2 (tA 1 aI tp) tp) tv); all_goals exact qN) ?_; clear u U; unfold mh; refine ak ?_; refine aa [1,2,4] fun tz U u => ?_; (try simp only [go_sem]); refine qU u ?_; clear u U; refine aN (b := (x49.2 != 0)) rfl (fun h1 => ?_) (fun h1 => ?_)
 ·
  have h0 := cT h0 h1; refine ak ?_; refine aa [2,4] fun tz U u => ?_; (try simp only [go_sem]); refine qU u ?_; clear u U; refine bA ?_; obtain rfl := al h0; refine aF ?_; refine ax Hx qR ?_; refine Res.mk [] [none] rfl (cP cO) (Tm.tup (tc (Tm.agg (aj (by rfl) tT)) (tc tv tn)))
 ·
  have h0 := cF h0 h1; refine aQ ?_; refine ak ?_; refine aa [1,2] fun tz U u => ?_; (try simp only [go_sem]); refine qU u ?_; clear u U; refine aN (b := (!x49.1.Bar)) rfl (fun h2 => ?_) (fun h2 => ?_)
  ·
   have h0 := cT h0 h2; refine ak ?_; refine aa [2] fun tz U u => ?_; (try simp only [go_sem]); refine qU u ?_; clear u U; refine bA ?_; obtain rfl := al h0; refine aF ?_; refine ax Hx qR ?_; refine Res.mk [] [none] rfl (cP cO) (Tm.tup (tc (Tm.agg (aj (by rfl) tT)) (tc tv tn)))
  ·
   have h0 := cF h0 h2; refine aQ ?_; refine aa [1,2] fun tz U u => ?_; (try simp only [go_sem]); refine qU u ?_; clear u U; refine aa [1,2] fun tz U u => ?_; (try simp only [go_sem]); refine qU u ?_; clear u U; refine aM ?_; obtain rfl := al h0; refine aF ?_; refine ax Hx qR ?_; refine Res.mk [] [some 1] rfl (fh qM rfl (TmL.of_eq qL (ah _)) cO) (Tm.tup (tc (Tm.agg (aj (by rfl) tr)) (tc tv tn))); (all_goals exact qN)


theorem t0 (a0 : Sender) {r : (Sender × Int)} (h0 : eE a0 = some r) : SndP K 33 [(.agg (bp a0))] (.tup [(.agg (bp r.1)), (vi r.2)]) :=
 la.pure (rM (tx a0 h0) (aE.tup (RenML.cons (aE.agg (bB _ (aE.ref 0 0 _ _))) (RenML.cons rv RenML.nil))) (bo (ah _) cx) (af (aw.agg (aR _)) az)) (aw.tup (af (aw.agg (aR _)) (af cv az))) (af (aw.agg (aR _)) az) qV
def nu (a0 : Sender) (a1 : Frame) (a2 : Int) : AS :=
 { objs := (upd (upd (upd (upd (fun _ => .dead) 0 (.live (av a0 (.imm (List.flatMap ag a0.Out) a0.Out.length)))) 1 (.live (bm a1 (.imm (List.map vu a1.Body) a1.Body.length)))) 2 (.live (bm Frame.z cA))) 3 (.live (av Sender.z cA))), next := 4, tmps := (upd (upd (upd (upd (upd (fun _ => .unk) 2 (vi a2)) 3 (.ptr 0 0)) 4 (.ptr 1 0)) 6 (.ptr 2 0)) 7 (.ptr 3 0)) }

def nl (x52 : (Sender × Int)) (a1 : Frame) (a2 : Int) (x56 : Int) : AS :=
 { objs := (upd (upd (upd (upd (upd (fun _ => .dead) 0 (.live (av x52.1 (.ref 1 0 x52.1.Out.length 44)))) 1 (.live (List.flatMap ag x52.1.Out))) 2 (.live (bm a1 (.imm (List.map vu a1.Body) a1.Body.length)))) 3 (.live (bm Frame.z cA))) 4 (.live (av Sender.z cA))), next := 5, tmps := (upd (upd (upd (upd (upd (upd (fun _ => .unk) 2 (vi a2)) 3 (.ptr 0 0)) 4 (.ptr 2 0)) 6 (.ptr 3 0)) 7 (.ptr 4 0)) 43 (vb (decide (x52.1.Size ≤ x56)))) }

def nc (x52 : (Sender × Int)) (x57 : Frame) (a2 : Int) : AS :=
 { objs := (upd (upd (upd (upd (upd (fun _ => .dead) 0 (.live (av x52.1 (.ref 1 0 x52.1.Out.length 44)))) 1 (.live (List.flatMap ag x52.1.Out))) 2 (.live (bm { x57 with Head.Retry := false, Head.Seq := x52.1.Next, Head.Tid := x52.1.Tid } (.imm (List.map vu x57.Body) x57.Body.length)))) 3 (.live (bm Frame.z cA))) 4 (.live (av Sender.z cA))), next := 5, tmps := (upd (upd (upd (upd (upd (fun _ => .unk) 2 (vi a2)) 3 (.ptr 0 0)) 4 (.ptr 2 0)) 6 (.ptr 3 0)) 7 (.ptr 4 0)) }

def nk (x52 : (Sender × Int)) (x59 : Int) (a2 : Int) (x57 : Frame) : AS :=
 { objs := (upd (upd (upd (upd (upd (fun _ => .dead) 0 (.live (av { x52.1 with Next := x59 } (.ref 1 0 ((x52.1.Out ++ [{ Unacked.z with At := a2, Frame := { x57 with Head.Retry := false, Head.Seq := x52.1.Next, Head.Tid := x52.1.Tid } }]).length) 44)))) 1 (.live (List.flatMap ag (x52.1.Out ++ [{ Unacked.z with At := a2, Frame := { x57 with Head.Retry := false, Head.Seq := x52.1.Next, Head.Tid := x52.1.Tid } }])))) 2 (.live (bm { x57 with Head.Retry := false, Head.Seq := x52.1.Next, Head.Tid := x52.1.Tid } (.imm (List.map vu x57.Body) x57.Body.length)))) 3 (.live (bm Frame.z cA))) 4 (.live (av Sender.z cA))), next := 5, tmps := (upd (upd (upd (upd (fun _ => .unk) 3 (.ptr 0 0)) 4 (.ptr 2 0)) 6 (.ptr 3 0)) 7 (.ptr 4 0)) }

theorem uM (a0 : Sender) (a1 : Frame) (a2 : Int) {r : (Frame × Sender × Int)} (h0 : fD a0 a1 a2 = some r) : fT K 49 [(.agg (bp a0)), (.agg (aY a1)), (vi a2)] (fun q => (.tup [(.agg (aY r.1)), (.agg (av r.2.1 (.ref (q 0) 0 r.2.1.Out.length 44))), (vi r.2.2)])) [(List.flatMap ag r.2.1.Out)] := by
 refine fT.of_walkW hC (show K.P.funcs[49]? = some Try.f49 from Try.func49) rfl rfl (by decide +kernel) (qB2 rfl) ?_; unfold fD at h0; refine aa [0,1,2] fun tz U u => ?_; (try simp only [go_sem]); refine u _ (nu a0 a1 a2) (Wk.canonD [] [] [some 0, some 1, some 2, some 3] rfl trivial rfl (ar 3 (ar 2 (ar 1 (ar 0 bn rfl qM rfl (aj (by rfl) (tI (ah _)))) rfl qM rfl (cX (by rfl) (tI (fg _)))) rfl qM rfl (cX (by rfl) tv)) rfl qM rfl (aj (by rfl) tv)) (tA 7 (tA 6 (tA 4 (tA 3 (tA 2 aI tv) tp) tp) tp) tp)) ?_; clear u U; unfold nu; refine dV [2,3,4,6,7] (fun _ => rfl) fun tz => ?_; refine cm fun U u all hall => ?_; refine cp ?_; (try simp only [List.toList_toArray, List.map_cons, List.map_nil, List.size_toArray, List.length_cons, List.length_nil, Nat.zero_add]); (try simp only [Nat.reduceAdd]); obtain ⟨x51, bx51, h0⟩ := bnd h0; (iterate 3 ((try simp only [go_sem, -Nat.reduceAdd]); try simp only [Nat.reduceAdd])); (refine eO (cn a2 0 1099511627776 bx51) ?_; try dsimp only); (try refine cp ?_); obtain ⟨x52, bx52, h0⟩ := bnd h0; (iterate 3 ((try simp only [go_sem, -Nat.reduceAdd]); try simp only [Nat.reduceAdd])); (refine pp (lB a0 x51 bx52 _) ?_; try dsimp only); (try refine cp ?_); (iterate 3 ((try simp only [go_sem, -Nat.reduceAdd]); try simp only [Nat.reduceAdd])); refine And.intro ?_ (u _ _ (Wk.refl _ _ _) ?_)
 ·
  subst hall; clear u U; exact qP
 ·
  clear u U hall all; refine aa [2,3,4,6,7,9] fun tz U u => ?_; (try simp only [go_sem]); refine qU u ?_; clear u U; refine cy ?_; refine aa [2,3,4,6,7,9,10] fun tz U u => ?_; (try simp only [go_sem]); refine qU u ?_; clear u U; refine bK (b := (x52.2 != 0)) rfl (fun h1 => ?_) (fun h1 => ?_)
  ·
   have h0 := cT h0 h1; refine aa [6,7,9] fun tz U u => ?_; (try simp only [go_sem]); refine qU u ?_; clear u U; refine aM ?_; refine jq ?_; refine jO ?_; obtain rfl := al h0; refine aF ?_; refine ax Fb qR ?_; refine Res.mk [] [none] rfl (cP cO) (Tm.tup (tc (Tm.agg (cX (by rfl) (Tm.nil))) (tc (Tm.agg (aj (by rfl) tT)) (tc tv tn))))
  ·
   have h0 := cF h0 h1; refine aa [2,3,4,6,7,10] fun tz U u => ?_; refine bg 3 qS qS (by rfl) fun V v => ?_; refine ap ?_; (try simp only [go_sem]); refine v _ ?_; clear v V; obtain ⟨x54, hvh2, h0⟩ := bnd h0; refine bt 10 [(2, (vi a2)), (3, (.ptr 0 0)), (4, (.ptr 1 0)), (6, (.ptr 2 0)), (7, (.ptr 3 0)), (40, (vb x54))] qS qS (by rfl) (fun V v => ?_) fun tz => ?_
   ·
    refine ap ?_; rcases bE (decide (0 < ((x52.1.Out.length : Nat) : Int))) with h2 | h2
    ·
     have hvh2 := cT hvh2 h2; obtain ⟨x53, bx53, hvh2⟩ := bnd hvh2; obtain ⟨fx53_0, fx53_1, fx53_2, fx53_3⟩ := cz bx53; (have fx53_5 : ((IntKind.wrap .i64 (((x52.1.Out.length : Nat) : Int) - 1) : Int) < ((x52.1.Out.length : Nat) : Int)) = True := by first | exact fx53_1 | (simp [List.length_modify, List.length_set]; omega)); (try simp only [go_sem, h2, fx53_0, fx53_1, fx53_2, fx53_5]); obtain rfl := al hvh2; exact v _ ⟨rfl, rfl, rfl, rfl, rfl, rfl, (qB h2), trivial⟩
    ·
     have hvh2 := cF hvh2 h2; (try simp only [go_sem, h2]); obtain rfl := al hvh2; exact v _ ⟨rfl, rfl, rfl, rfl, rfl, rfl, (qB h2), trivial⟩
   ·
    refine ap ?_; (try simp only [go_sem]); refine qU u ?_; clear u U; refine bK (b := x54) rfl (fun h3 => ?_) (fun h3 => ?_)
    ·
     have h0 := cT h0 h3; refine aa [6,7] fun tz U u => ?_; (try simp only [go_sem]); refine qU u ?_; clear u U; refine aM ?_; refine jq ?_; refine jO ?_; obtain rfl := al h0; refine aF ?_; refine ax Fb qR ?_; refine Res.mk [] [none] rfl (cP cO) (Tm.tup (tc (Tm.agg (cX (by rfl) (Tm.nil))) (tc (Tm.agg (aj (by rfl) tT)) (tc tv tn))))
    ·
     have h0 := cF h0 h3; refine aa [2,3,4,6,7] fun tz U u => ?_; obtain ⟨x55, bx55, h0⟩ := bnd h0; (try simp only [go_sem]); (refine lk (by first | (simp only [go_sem, fz] <;> rfl) | (simp only [go_sem, fz, List.length_set, eG, ge, cond_true, cond_false] <;> rfl)) (kT x52.1 bx55) (kv.v _) ?_; try dsimp only); (try refine ap ?_); obtain ⟨x56, bx56, h0⟩ := bnd h0; (try simp only [go_sem]); (refine aP (cB x55 x52.1.Next bx56) ?_; try dsimp only); (try refine ap ?_); (try simp only [go_sem]); refine u _ (nl x52 a1 a2 x56) (by refine Wk.canonD [] [] [some 0, some 7, some 1, some 2, some 3] rfl trivial rfl (ar 4 (ar 3 (ar 2 (ar 1 (ar 0 bn rfl qM rfl (aj (by rfl) tr)) rfl qM rfl (TmL.of_eq qL (ah _))) rfl qM rfl (cX (by rfl) (tI (fg _)))) rfl qM rfl (cX (by rfl) tv)) rfl qM rfl (aj (by rfl) tv)) (tA 43 (tA 7 (tA 6 (tA 4 (tA 3 (tA 2 aI tv) tp) tp) tp) tp) tv); all_goals exact qN) ?_; clear u U; unfold nl; refine bK (b := (decide (x52.1.Size ≤ x56))) rfl (fun h4 => ?_) (fun h4 => ?_)
     ·
      have h0 := cT h0 h4; refine aa [6,7] fun tz U u => ?_; (try simp only [go_sem]); refine qU u ?_; clear u U; refine aM ?_; refine jq ?_; refine jO ?_; obtain rfl := al h0; refine aF ?_; refine ax Fb qR ?_; refine Res.mk [] [none] rfl (cP cO) (Tm.tup (tc (Tm.agg (cX (by rfl) (Tm.nil))) (tc (Tm.agg (aj (by rfl) tT)) (tc tv tn))))
     ·
      have h0 := cF h0 h4; refine c6 ?_; refine iM ?_; refine ep ?_; refine aa [2,3,4,6,7] fun tz U u => ?_; obtain ⟨x57, bx57, h0⟩ := bnd h0; (try simp only [go_sem]); (refine aP (fP a1 bx57) ?_; try dsimp only); (try refine ap ?_); (try simp only [go_sem]); refine qU u ?_; clear u U; refine dV [2,3,4,6,7] (fun _ => rfl) fun tz => ?_; refine cm fun U u all hall => ?_; refine cp ?_; (try simp only [List.toList_toArray, List.map_cons, List.map_nil, List.size_toArray, List.length_cons, List.length_nil, Nat.zero_add]); (try simp only [Nat.reduceAdd]); (iterate 3 ((try simp only [go_sem, -Nat.reduceAdd]); try simp only [Nat.reduceAdd])); refine And.intro ?_ (u _ (nc x52 x57 a2) (by refine Wk.canonD [] [] [some 0, some 1, some 2, some 3, some 4] rfl trivial rfl (ar 4 (ar 3 (ar 2 (ar 1 (ar 0 bn rfl qM rfl (aj (by rfl) tr)) rfl qM rfl (TmL.of_eq qL (ah _))) rfl qM rfl (cX (by rfl) (tI (fg _)))) rfl qM rfl (cX (by rfl) tv)) rfl qM rfl (aj (by rfl) tv)) (tA 7 (tA 6 (tA 4 (tA 3 (tA 2 aI tv) tp) tp) tp) tp); all_goals exact qN) ?_)
      ·
       subst hall; clear u U; exact qP
      ·
       clear u U hall all; unfold nc; refine aa [2,3,4,6,7] fun tz U u => ?_; obtain ⟨x58, bx58, h0⟩ := bnd h0; have bx58 := bP bx58; simp only [Bool.and_eq_true, decide_eq_true_eq] at bx58; have gx58_0 := bx58; (try simp only [go_sem, gx58_0]); refine qU u ?_; clear u U; refine aa [3,4,6,7] fun tz U u => ?_; obtain ⟨x59, bx59, h0⟩ := bnd h0; (try simp only [go_sem]); (refine aP (iU x52.1.Next 1 bx59) ?_; try dsimp only); (try refine ap ?_); (try simp only [go_sem]); refine u _ (nk x52 x59 a2 x57) (by refine Wk.canonD [] [] [some 0, some 11, some 2, some 3, some 4] rfl trivial rfl (ar 4 (ar 3 (ar 2 (ar 1 (ar 0 bn rfl qM rfl (aj (by rfl) tr)) rfl qM rfl (TmL.of_eq qL (ah _))) rfl qM rfl (cX (by rfl) (tI (fg _)))) rfl qM rfl (cX (by rfl) tv)) rfl qM rfl (aj (by rfl) tv)) (tA 7 (tA 6 (tA 4 (tA 3 aI tp) tp) tp) tp); all_goals exact qN) ?_; clear u U; unfold nk; refine dV [3,4,6,7] (fun _ => rfl) fun tz => ?_; refine cm fun U u all hall => ?_; refine cp ?_; (try simp only [List.toList_toArray, List.map_cons, List.map_nil, List.size_toArray, List.length_cons, List.length_nil, Nat.zero_add]); (try simp only [Nat.reduceAdd]); obtain ⟨x60, bx60, h0⟩ := bnd h0; (iterate 3 ((try simp only [go_sem, -Nat.reduceAdd]); try simp only [Nat.reduceAdd])); (refine eO (fP { x57 with Head.Retry := false, Head.Seq := x52.1.Next, Head.Tid := x52.1.Tid } bx60) ?_; try dsimp only); (try refine cp ?_); (iterate 3 ((try simp only [go_sem, -Nat.reduceAdd]); try simp only [Nat.reduceAdd])); refine And.intro ?_ (u _ _ (Wk.refl _ _ _) ?_)
       ·
        subst hall; clear u U; exact qP
       ·
        clear u U hall all; refine aM ?_; obtain rfl := al h0; refine aF ?_; refine ax Fb qR ?_; refine Res.mk [] [some 1] rfl (fh qM rfl (TmL.of_eq qL (ah _)) cO) (Tm.tup (tc (Tm.agg (cX (by rfl) (tI (fg _)))) (tc (Tm.agg (aj (by rfl) tr)) (tc tv tn)))); (all_goals exact qN)


theorem uo (a0 : Sender) (a1 : Frame) (a2 : Int) {r : (Frame × Sender × Int)} (h0 : fD a0 a1 a2 = some r) : SndP K 49 [(.agg (bp a0)), (.agg (aY a1)), (vi a2)] (.tup [(.agg (aY r.1)), (.agg (bp r.2.1)), (vi r.2.2)]) :=
 la.pure (rM (uM a0 a1 a2 h0) (aE.tup (RenML.cons (aE.const (aw.agg (dx _))) (RenML.cons (aE.agg (bB _ (aE.ref 0 0 _ _))) (RenML.cons rv RenML.nil)))) (bo (ah _) cx) (af (aw.agg (aR _)) (af (aw.agg (dx _)) (af cv az)))) (aw.tup (af (aw.agg (dx _)) (af (aw.agg (aR _)) (af cv az)))) (af (aw.agg (aR _)) (af (aw.agg (dx _)) (af cv az))) qV
def im (a1 : Session_session) (a2 : (List Bool)) (d50 : Session_session) : AS :=
 { objs := (upd (upd (upd (upd (upd (fun _ => .dead) 0 (.live (ae d50 (.imm (List.flatMap ag d50.sides.Sender.Out) d50.sides.Sender.Out.length) (.imm (List.flatMap ai d50.sides.Reorder.Held) d50.sides.Reorder.Held.length) (.clo 17 [] [(.ptr 1 0)]) (.ref 2 0 a1.out.Delivered.length 1) (.ref 3 0 a1.out.Acked.length 1) (.ref 4 0 a1.out.Dropped.length 1)))) 1 (.live [(.imm (List.map vb a2) a2.length)])) 2 (.live (List.map vi a1.out.Delivered))) 3 (.live (List.map vi a1.out.Acked))) 4 (.live (List.map vi a1.out.Dropped))), next := 5, tmps := (fun _ => .unk) }

def g8 (a1 : Session_session) (a2 : (List Bool)) (a0 : Int) (d52 : Session_session) : AS :=
 { objs := (upd (upd (upd (upd (upd (fun _ => .dead) 0 (.live (ae d52 (.imm (List.flatMap ag d52.sides.Sender.Out) d52.sides.Sender.Out.length) (.imm (List.flatMap ai d52.sides.Reorder.Held) d52.sides.Reorder.Held.length) (.clo 17 [] [(.ptr 1 0)]) (.ref 2 0 a1.out.Delivered.length 1) (.ref 3 0 a1.out.Acked.length 1) (.ref 4 0 a1.out.Dropped.length 1)))) 1 (.live [(.imm (List.map vb a2) a2.length)])) 2 (.live (List.map vi a1.out.Delivered))) 3 (.live (List.map vi a1.out.Acked))) 4 (.live (List.map vi a1.out.Dropped))), next := 5, tmps := (upd (upd (fun _ => .unk) 0 (.ptr 0 0)) 1 (vi a0)) }

def ib (d52 : Session_session) (a1 : Session_session) (a2 : (List Bool)) (x53 : (Frame × Sender × Int)) (a0 : Int) : AS :=
 { objs := (upd (upd (upd (upd (upd (upd (fun _ => .dead) 0 (.live (ae d52 (.imm (List.flatMap ag d52.sides.Sender.Out) d52.sides.Sender.Out.length) (.imm (List.flatMap ai d52.sides.Reorder.Held) d52.sides.Reorder.Held.length) (.clo 17 [] [(.ptr 1 0)]) (.ref 2 0 a1.out.Delivered.length 1) (.ref 3 0 a1.out.Acked.length 1) (.ref 4 0 a1.out.Dropped.length 1)))) 1 (.live [(.imm (List.map vb a2) a2.length)])) 2 (.live (List.map vi a1.out.Delivered))) 3 (.live (List.map vi a1.out.Acked))) 4 (.live (List.map vi a1.out.Dropped))) 5 (.live (av x53.2.1 (.imm (List.flatMap ag x53.2.1.Out) x53.2.1.Out.length)))), next := 6, tmps := (upd (upd (upd (upd (fun _ => .unk) 0 (.ptr 0 0)) 1 (vi a0)) 5 (.ptr 5 0)) 6 (vi x53.2.2)) }

theorem gY (a0 : Int) (a1 : Session_session) (a2 : (List Bool)) {r : Session_session} (h0 : cM a0 a1 a2 = some r) : cI K 34 5 (fun q => [(.ptr (q 0) 0), (vi a0)]) [(fun q => (ae a1 (.imm (List.flatMap ag a1.sides.Sender.Out) a1.sides.Sender.Out.length) (.imm (List.flatMap ai a1.sides.Reorder.Held) a1.sides.Reorder.Held.length) (.clo 17 [] [(.ptr (q 1) 0)]) (.ref (q 2) 0 a1.out.Delivered.length 1) (.ref (q 3) 0 a1.out.Acked.length 1) (.ref (q 4) 0 a1.out.Dropped.length 1))), (fun q => [(.imm (List.map vb a2) a2.length)]), (fun q => (List.map vi a1.out.Delivered)), (fun q => (List.map vi a1.out.Acked)), (fun q => (List.map vi a1.out.Dropped))] (fun q => (.tup [])) [(some (fun q => (ae r (.imm (List.flatMap ag r.sides.Sender.Out) r.sides.Sender.Out.length) (.imm (List.flatMap ai r.sides.Reorder.Held) r.sides.Reorder.Held.length) (.clo 17 [] [(.ptr (q 1) 0)]) (.ref (q 2) 0 a1.out.Delivered.length 1) (.ref (q 3) 0 a1.out.Acked.length 1) (.ref (q 4) 0 a1.out.Dropped.length 1)))), (some (fun q => [(.imm (List.map vb a2) a2.length)])), (some (fun q => (List.map vi a1.out.Delivered))), (some (fun q => (List.map vi a1.out.Acked))), (some (fun q => (List.map vi a1.out.Dropped)))] := by
 refine cI.of_walkW hC (RenML.cons (aE.ptr 0 0) (RenML.cons rv RenML.nil)) (aK (bb _ (rI (ah _)) (rI (au _)) (aE.clo RenML.nil (RenML.cons (aE.ptr 1 0) RenML.nil)) (aE.ref 2 0 _ _) (aE.ref 3 0 _ _) (aE.ref 4 0 _ _)) (aK (RenML.cons (rI (aO _)) RenML.nil) (aK (RenML.const (ac _)) (aK (RenML.const (ac _)) (aK (RenML.const (ac _)) dO))))) (aD (bb _ (rI (ah _)) (rI (au _)) (aE.clo RenML.nil (RenML.cons (aE.ptr 1 0) RenML.nil)) (aE.ref 2 0 _ _) (aE.ref 3 0 _ _) (aE.ref 4 0 _ _)) (aD (RenML.cons (rI (aO _)) RenML.nil) (aD (RenML.const (ac _)) (aD (RenML.const (ac _)) (aD (RenML.const (ac _)) c4))))) (aE.tup RenML.nil) rfl (qB2 rfl) (show K.P.funcs[34]? = some Try.f34 from Try.func34) rfl rfl (by decide +kernel) (qB2 rfl) ?_; unfold cM at h0; obtain ⟨o51, hi1, h0⟩ := bnd h0; refine uu (fun d50 : Session_session => o51 = Ex.go d50) (fun d50 : Session_session => im a1 a2 d50) yz ?_ ?_
 ·
  refine bw ?_; refine cL (fun n (d52 : Session_session) => bX a0 a1 a2 n d52 = some o51) (fun d52 : Session_session => g8 a1 a2 a0 d52) big a1 (by refine Wk.canonD [] [] [some 0, some 1, some 2, some 3, some 4] rfl trivial rfl (ar 4 (ar 3 (ar 2 (ar 1 (ar 0 bn rfl qM rfl (aq (by rfl) (tI (ah _)) (tI (au _)) (Tm.clo tn (tc tp tn)) tr tr tr)) rfl qM rfl (tc (tI (aO _)) tn)) rfl qM rfl (TmL.of_eq qL (ac _))) rfl qM rfl (TmL.of_eq qL (ac _))) rfl qM rfl (TmL.of_eq qL (ac _))) (tA 1 (tA 0 aI tp) tv); all_goals exact qN) hi1 ?_; clear hi1; rintro n d52 hl3; rcases n with _ | n2
  ·
   (rw [bX] at hl3; cases hl3)
  ·
   rw [bX] at hl3; unfold g8; refine ak ?_; refine aa [0,1] fun tz U u => ?_; refine bg 10 qS qS (by rfl) fun V v => ?_; refine ap ?_; (try simp only [go_sem]); refine v _ ?_; clear v V; refine bt 6 [(0, (.ptr 0 0)), (1, (vi a0)), (22, (vb ((decide (d52.accepted < d52.many)) && (d52.err == 0))))] qS qS (by rfl) (fun V v => ?_) fun tz => ?_
   ·
    refine ap ?_; rcases bE (decide (d52.accepted < d52.many)) with h4 | h4
    ·
     (try simp only [go_sem, h4]); exact v _ ⟨rfl, rfl, rfl, (qB h4), trivial⟩
    ·
     (try simp only [go_sem, h4]); exact v _ ⟨rfl, rfl, rfl, (qB h4), trivial⟩
   ·
    refine ap ?_; (try simp only [go_sem]); refine qU u ?_; clear u U; refine aN (b := ((decide (d52.accepted < d52.many)) && (d52.err == 0))) rfl (fun h5 => ?_) (fun h5 => ?_)
    ·
     have hl3 := cT hl3 h5; refine aQ ?_; refine bw ?_; refine aa [0,1] fun tz U u => ?_; obtain ⟨x53, bx53, hl3⟩ := bnd hl3; (try simp only [go_sem]); (refine ya (by first | (simp only [go_sem, fz, kX, cond_true, cond_false] <;> rfl)) (uo d52.sides.Sender Frame.z a0 bx53) ?_; try dsimp only); (try refine ap ?_); (try simp only [go_sem]); refine u _ (ib d52 a1 a2 x53 a0) (by refine Wk.canonD [] [] [some 0, some 1, some 2, some 3, some 4, some 34] rfl trivial rfl (ar 5 (ar 4 (ar 3 (ar 2 (ar 1 (ar 0 bn rfl qM rfl (aq (by rfl) (tI (ah _)) (tI (au _)) (Tm.clo tn (tc tp tn)) tr tr tr)) rfl qM rfl (tc (tI (aO _)) tn)) rfl qM rfl (TmL.of_eq qL (ac _))) rfl qM rfl (TmL.of_eq qL (ac _))) rfl qM rfl (TmL.of_eq qL (ac _))) rfl qM rfl (aj (by rfl) (tI (ah _)))) (tA 6 (tA 5 (tA 1 (tA 0 aI tp) tv) tp) tv); all_goals exact qN) ?_; clear u U; unfold ib; refine ak ?_; refine aa [0,1,5,6] fun tz U u => ?_; (try simp only [go_sem]); refine qU u ?_; clear u U; refine aN (b := (x53.2.2 == 22)) rfl (fun h6 => ?_) (fun h6 => ?_)
     ·
      have hl3 := cT hl3 h6; refine bA ?_; refine jq ?_; refine Cj ?_; refine jq ?_; refine jO ?_; obtain rfl := al hl3; obtain rfl := Ex.k_ret h0; refine aF ?_; refine ax JX (rfl) ?_; refine dh.mk [] [some 0, some 1, some 2, some 3, some 4] rfl (aS qM rfl (aq (by rfl) (tI (ah _)) (tI (au _)) (Tm.clo tn (tc tp tn)) tr tr tr) (aS qM rfl (tc (tI (aO _)) tn) (aS qM rfl (TmL.of_eq qL (ac _)) (aS qM rfl (TmL.of_eq qL (ac _)) (aS qM rfl (TmL.of_eq qL (ac _)) ea))))) (Tm.tup tn); (all_goals exact qN)
     ·
      have hl3 := cF hl3 h6; refine aQ ?_; refine aa [0,1,5,6] fun tz U u => ?_; obtain ⟨x54, bx54, hl3⟩ := bnd hl3; (try simp only [go_sem]); (refine bI [0, 1, 2, 3, 4] (be x53.2.2 { d52 with out.Acked := a1.out.Acked, out.Delivered := a1.out.Delivered, out.Dropped := a1.out.Dropped } a2 bx54) (by decide) (by decide) ⟨qG, qG, qG, qG, qG, trivial⟩ qG ?_; try dsimp only); (try refine ap ?_); (try simp only [go_sem, lc, ln]); refine qU u ?_; clear u U; refine kp [0,1,5] (fun _ => rfl) fun tz => ?_; refine iH fun U u all hall => ?_; refine cp ?_; (try simp only [List.toList_toArray, List.map_cons, List.map_nil, List.size_toArray, List.length_cons, List.length_nil, Nat.zero_add]); (try simp only [Nat.reduceAdd]); (iterate 3 ((try simp only [go_sem, -Nat.reduceAdd]); try simp only [Nat.reduceAdd])); refine And.intro ?_ (u _ ?_)
      ·
       subst hall; clear u U; exact qP
      ·
       clear u U hall all; refine iM ?_; refine jd ?_; exact ⟨n2, { x54 with accepted := IntKind.wrap .i64 (x54.accepted + 1), sides.Sender := x53.2.1 }, rfl, hl3, (by refine Wk.canonD [] [] [some 0, some 1, some 2, some 3, some 4] rfl trivial rfl (ar 4 (ar 3 (ar 2 (ar 1 (ar 0 bn rfl qM rfl (aq (by rfl) (tI (ah _)) (tI (au _)) (Tm.clo tn (tc tp tn)) tr tr tr)) rfl qM rfl (tc (tI (aO _)) tn)) rfl qM rfl (TmL.of_eq qL (ac _))) rfl qM rfl (TmL.of_eq qL (ac _))) rfl qM rfl (TmL.of_eq qL (ac _))) (tA 1 (tA 0 aI tp) tv); all_goals exact qN)⟩
    ·
     have hl3 := cF hl3 h5; refine cC ?_; refine kS ?_; refine jS ?_; refine fU ?_; obtain rfl := al hl3; exact ⟨_, rfl, (by refine Wk.canonD [] [] [some 0, some 1, some 2, some 3, some 4] rfl trivial rfl (ar 4 (ar 3 (ar 2 (ar 1 (ar 0 bn rfl qM rfl (aq (by rfl) (tI (ah _)) (tI (au _)) (Tm.clo tn (tc tp tn)) tr tr tr)) rfl qM rfl (tc (tI (aO _)) tn)) rfl qM rfl (TmL.of_eq qL (ac _))) rfl qM rfl (TmL.of_eq qL (ac _))) rfl qM rfl (TmL.of_eq qL (ac _))) aI; all_goals exact qN)⟩
 ·
  rintro d50 rfl; have h0 := Ex.k_go h0; clear hi1; unfold im; obtain rfl := al h0; refine aF ?_; refine d9 JX (rfl) ?_; refine dh.mk [] [some 0, some 1, some 2, some 3, some 4] rfl (aS qM rfl (aq (by rfl) (tI (ah _)) (tI (au _)) (Tm.clo tn (tc tp tn)) tr tr tr) (aS qM rfl (tc (tI (aO _)) tn) (aS qM rfl (TmL.of_eq qL (ac _)) (aS qM rfl (TmL.of_eq qL (ac _)) (aS qM rfl (TmL.of_eq qL (ac _)) ea))))) (Tm.tup tn); (all_goals exact qN)
def oW (x56 : (Sender × Int)) (a1 : Int) : AS :=
 { objs := (upd (upd (upd (fun _ => .dead) 0 (.live (av x56.1 (.ref 1 0 x56.1.Out.length 44)))) 1 (.live (List.flatMap ag x56.1.Out))) 2 (.live (av Sender.z cA))), next := 3, tmps := (upd (upd (upd (upd (upd (fun _ => .unk) 1 (vi a1)) 2 (.ptr 0 0)) 4 cA) 5 (.ptr 2 0)) 6 (vi x56.2)) }

def oN (x56 : (Sender × Int)) (d57 : (List Unacked × List Frame)) : AS :=
 { objs := (upd (upd (upd (upd (fun _ => .dead) 0 (.live (av x56.1 (.ref 1 0 d57.1.length 44)))) 1 (.live (List.flatMap ag d57.1))) 2 (.live (List.flatMap aY d57.2))) 3 (.live (av Sender.z cA))), next := 4, tmps := (upd (upd (upd (fun _ => .unk) 2 (.ptr 0 0)) 4 (.ref 2 0 d57.2.length 41)) 5 (.ptr 3 0)) }

def oP (x56 : (Sender × Int)) (a1 : Int) (d58 : (List Unacked × List Frame × Int)) : AS :=
 { objs := (upd (upd (upd (upd (fun _ => .dead) 0 (.live (av x56.1 (.ref 1 0 d58.1.length 44)))) 1 (.live (List.flatMap ag d58.1))) 2 (.live (List.flatMap aY d58.2.1))) 3 (.live (av Sender.z cA))), next := 4, tmps := (upd (upd (upd (upd (upd (upd (fun _ => .unk) 1 (vi a1)) 2 (.ptr 0 0)) 4 (.ref 2 0 d58.2.1.length 41)) 5 (.ptr 3 0)) 23 (vi ((x56.1.Out.length : Nat) : Int))) 24 (vi d58.2.2)) }

def oA (x56 : (Sender × Int)) (d58 : (List Unacked × List Frame × Int)) (x59 : Unacked) (x60 : Frame) (a1 : Int) : AS :=
 { objs := (upd (upd (upd (upd (upd (fun _ => .dead) 0 (.live (av x56.1 (.ref 1 0 (((d58.1.modify (d58.2.2.toNat) fun y => { y with Tries := IntKind.wrap .i64 (x59.Tries + 1) }).modify (d58.2.2.toNat) fun y => { y with Flying := true }).length) 44)))) 1 (.live (List.flatMap ag ((d58.1.modify (d58.2.2.toNat) fun y => { y with Tries := IntKind.wrap .i64 (x59.Tries + 1) }).modify (d58.2.2.toNat) fun y => { y with Flying := true })))) 2 (.live (List.flatMap aY d58.2.1))) 3 (.live (av Sender.z cA))) 4 (.live (bm { x60 with Head.Retry := decide (0 < x59.Tries) } (.imm (List.map vu x60.Body) x60.Body.length)))), next := 5, tmps := (upd (upd (upd (upd (upd (upd (upd (fun _ => .unk) 1 (vi a1)) 2 (.ptr 0 0)) 4 (.ref 2 0 d58.2.1.length 41)) 5 (.ptr 3 0)) 9 (.ptr 4 0)) 23 (vi ((x56.1.Out.length : Nat) : Int))) 24 (vi d58.2.2)) }

theorem wv (a0 : Sender) (a1 : Int) {r : ((List Frame) × Sender × Int)} (h0 : gq a0 a1 = some r) : fT K 50 [(.agg (bp a0)), (vi a1)] (fun q => (.tup [(.ref (q 0) 0 r.1.length 41), (.agg (av r.2.1 (.ref (q 1) 0 r.2.1.Out.length 44))), (vi r.2.2)])) [(List.flatMap aY r.1), (List.flatMap ag r.2.1.Out)] := by
 refine fT.of_walkW hC (show K.P.funcs[50]? = some Try.f50 from Try.func50) rfl rfl (by decide +kernel) (qB2 rfl) ?_; unfold gq at h0; refine aa [0,1] fun tz U u => ?_; (try simp only [go_sem]); refine qU u ?_; clear u U; refine aa [1,2,4,5] fun tz U u => ?_; obtain ⟨x56, bx56, h0⟩ := bnd h0; (try simp only [go_sem]); (refine lq (lL a0 (decide (0 ≤ a1)) bx56) ?_; try dsimp only); (try refine ap ?_); (try simp only [go_sem]); refine u _ (oW x56 a1) (by refine Wk.canonD [] [] [some 0, some 13, some 2] rfl trivial rfl (ar 2 (ar 1 (ar 0 bn rfl qM rfl (aj (by rfl) tr)) rfl qM rfl (TmL.of_eq qL (ah _))) rfl qM rfl (aj (by rfl) tv)) (tA 6 (tA 5 (tA 4 (tA 2 (tA 1 aI tv) tp) tv) tp) tv); all_goals exact qN) ?_; clear u U; unfold oW; refine ak ?_; refine aa [1,2,4,5,6] fun tz U u => ?_; (try simp only [go_sem]); refine qU u ?_; clear u U; refine aN (b := (x56.2 != 0)) rfl (fun h1 => ?_) (fun h1 => ?_)
 ·
  have h0 := cT h0 h1; refine ak ?_; refine aa [5,6] fun tz U u => ?_; (try simp only [go_sem]); refine qU u ?_; clear u U; refine bA ?_; obtain rfl := al h0; refine aF ?_; refine ax JK qR ?_; refine Res.mk [] [none, none] rfl (cP (cP cO)) (Tm.tup (tc tT (tc (Tm.agg (aj (by rfl) tT)) (tc tv tn))))
 ·
  have h0 := cF h0 h1; refine aQ ?_; refine ak ?_; refine aa [1,2,4,5] fun tz U u => ?_; (try simp only [go_sem]); refine qU u ?_; clear u U; obtain ⟨d57, hi2, h0⟩ := bnd h0; refine dc (fun z => d57 = z) (fun d57 : (List Unacked × List Frame) => oN x56 d57) ?_ ?_
  ·
   refine bw ?_; refine cL (fun n (d58 : (List Unacked × List Frame × Int)) => dC x56 a1 n d58 = some d57) (fun d58 : (List Unacked × List Frame × Int) => oP x56 a1 d58) big (x56.1.Out, [], 0) (by refine Wk.canonD [] [] [some 0, some 1, none, some 2] rfl trivial rfl (ar 3 (vd 2 (ar 1 (ar 0 bn rfl qM rfl (aj (by rfl) tr)) rfl qM rfl (TmL.of_eq qL (ah _))) rfl) rfl qM rfl (aj (by rfl) tv)) (tA 24 (tA 23 (tA 5 (tA 4 (tA 2 (tA 1 aI tv) tp) tT) tp) tv) tv); all_goals exact qN) hi2 ?_; clear hi2; rintro n d58 hl4; rcases n with _ | n3
   ·
    (rw [dC] at hl4; cases hl4)
   ·
    rw [dC] at hl4; unfold oP; refine aa [1,2,4,5,23,24] fun tz U u => ?_; (try simp only [go_sem]); refine qU u ?_; clear u U; refine aN (b := (decide (d58.2.2 < ((x56.1.Out.length : Nat) : Int)))) rfl (fun h5 => ?_) (fun h5 => ?_)
    ·
     have hl4 := cT hl4 h5; refine aQ ?_; refine cy ?_; refine aa [1,2,4,5,23,24] fun tz U u => ?_; (try simp only [go_sem]); refine qU u ?_; clear u U; refine aa [1,2,4,5,7,23,24] fun tz U u => ?_; obtain ⟨x59, bx59, hl4⟩ := bnd hl4; obtain ⟨fx59_0, fx59_1, fx59_2, fx59_3⟩ := cz bx59; (have fx59_5 : ((d58.2.2 : Int) < ((d58.1.length : Nat) : Int)) = True := by first | exact fx59_1 | (simp [List.length_modify, List.length_set]; omega)); (try simp only [go_sem, fx59_0, fx59_1, fx59_2, fx59_5]); refine qU u ?_; clear u U; refine ak ?_; refine aa [1,2,4,5,8,23,24] fun tz U u => ?_; (try simp only [go_sem, fx59_0, fx59_1, fx59_2, fx59_5]); refine qU u ?_; clear u U; refine aN (b := (((d58.2.1.length : Nat) : Int) == a1)) rfl (fun h6 => ?_) (fun h6 => ?_)
     ·
      have hl4 := cT hl4 h6; refine cC ?_; refine JR rfl ?_; refine Mk ?_; refine kS ?_; refine jS ?_; refine fU ?_; obtain rfl := al hl4; exact ⟨_, rfl, (by refine Wk.canonD [] [] [some 0, some 1, some 2, some 3] rfl trivial rfl (ar 3 (ar 2 (ar 1 (ar 0 bn rfl qM rfl (aj (by rfl) tr)) rfl qM rfl (TmL.of_eq qL (ah _))) rfl qM rfl (TmL.of_eq qL (bU _))) rfl qM rfl (aj (by rfl) tv)) (tA 5 (tA 4 (tA 2 aI tp) tr) tp); all_goals exact qN)⟩
     ·
      have hl4 := cF hl4 h6; refine aQ ?_; refine ak ?_; refine aa [1,2,4,5,8,23,24] fun tz U u => ?_; refine bg 5 qS qS (by rfl) fun V v => ?_; refine ap ?_; (try simp only [go_sem, fx59_0, fx59_1, fx59_2, fx59_5]); refine v _ ?_; clear v V; refine bt 8 [(1, (vi a1)), (2, (.ptr 0 0)), (4, (.ref 2 0 d58.2.1.length 41)), (5, (.ptr 3 0)), (8, (.ptr 1 ((d58.2.2).toNat * 44))), (23, (vi ((x56.1.Out.length : Nat) : Int))), (24, (vi d58.2.2)), (47, (vb (x59.Flying || (x59.Tries == x56.1.Limit))))] qS qS (by rfl) (fun V v => ?_) fun tz => ?_
      ·
       refine ap ?_; rcases bE x59.Flying with h7 | h7
       ·
        (try simp only [go_sem, fx59_0, fx59_1, fx59_2, fx59_5, h7]); exact v _ ⟨(by first | rfl | (simp only [h7]; done)), rfl, rfl, rfl, rfl, rfl, rfl, rfl, (qB h7), trivial⟩
       ·
        (try simp only [go_sem, fx59_0, fx59_1, fx59_2, fx59_5, h7]); exact v _ ⟨(by first | rfl | (simp only [h7]; done)), rfl, rfl, rfl, rfl, rfl, rfl, rfl, (qB h7), trivial⟩
      ·
       refine ap ?_; (try simp only [go_sem, fx59_0, fx59_1, fx59_2, fx59_5]); refine qU u ?_; clear u U; refine aN (b := (x59.Flying || (x59.Tries == x56.1.Limit))) rfl (fun h8 => ?_) (fun h8 => ?_)
       ·
        have hl4 := cT hl4 h8; refine cC ?_; refine jS ?_; refine ep ?_; refine bC [1,2,4,5,23,24] fun tz U u => ?_; (try simp only [go_sem, fx59_0, fx59_1, fx59_2, fx59_5]); refine u _ ?_; clear u U; refine jd ?_; exact ⟨n3, (d58.1, d58.2.1, IntKind.wrap .i64 (d58.2.2 + 1)), rfl, hl4, (by refine Wk.canonD [] [] [some 0, some 1, some 2, some 3] rfl trivial rfl (ar 3 (ar 2 (ar 1 (ar 0 bn rfl qM rfl (aj (by rfl) tr)) rfl qM rfl (TmL.of_eq qL (ah _))) rfl qM rfl (TmL.of_eq qL (bU _))) rfl qM rfl (aj (by rfl) tv)) (tA 24 (tA 23 (tA 5 (tA 4 (tA 2 (tA 1 aI tv) tp) tr) tp) tv) tv); all_goals exact qN)⟩
       ·
        have hl4 := cF hl4 h8; refine aQ ?_; refine aa [1,2,4,5,8,23,24] fun tz U u => ?_; obtain ⟨x60, bx60, hl4⟩ := bnd hl4; (try simp only [go_sem, fx59_0, fx59_1, fx59_2, fx59_5]); (refine aP (fP x59.Frame bx60) ?_; try dsimp only); (try refine ap ?_); (try simp only [go_sem, fx59_0, fx59_1, fx59_2, fx59_5]); refine qU u ?_; clear u U; refine aa [1,2,4,5,8,9,23,24] fun tz U u => ?_; (try simp only [go_sem, fx59_0, fx59_1, fx59_2, fx59_5]); refine qU u ?_; clear u U; refine aa [1,2,4,5,8,9,23,24] fun tz U u => ?_; have gs9 : ((d58.2.2).toNat * 44 + 2 ≤ d58.1.length * 44) = True := eq_true (by (try simp only [List.length_modify, List.length_set]); omega); have gm10 : (d58.1.modify ((d58.2.2).toNat) fun y => { y with Tries := IntKind.wrap .i64 (x59.Tries + 1) })[(d58.2.2).toNat]? = some ({ x59 with Tries := IntKind.wrap .i64 (x59.Tries + 1) }) := Ak _ fx59_2; have gs11 : ((d58.2.2).toNat * 44 + 3 ≤ (d58.1.modify ((d58.2.2).toNat) fun y => { y with Tries := IntKind.wrap .i64 (x59.Tries + 1) }).length * 44) = True := eq_true (by (try simp only [List.length_modify, List.length_set]); omega); have gm12 : ((d58.1.modify ((d58.2.2).toNat) fun y => { y with Tries := IntKind.wrap .i64 (x59.Tries + 1) }).modify ((d58.2.2).toNat) fun y => { y with Flying := true })[(d58.2.2).toNat]? = some ({ ({ x59 with Tries := IntKind.wrap .i64 (x59.Tries + 1) }) with Flying := true }) := Ak _ gm10; (try simp only [go_sem, fx59_0, fx59_1, fx59_2, fx59_5, gs9, gm10, gs11, gm12]); refine u _ (oA x56 d58 x59 x60 a1) (by refine Wk.canonD [] [] [some 0, some 1, some 2, some 3, some 34] rfl trivial rfl (ar 4 (ar 3 (ar 2 (ar 1 (ar 0 bn rfl qM rfl (aj (by rfl) tr)) rfl qM rfl (TmL.of_eq qL (ah _))) rfl qM rfl (TmL.of_eq qL (bU _))) rfl qM rfl (aj (by rfl) tv)) rfl qM rfl (cX (by rfl) (tI (fg _)))) (tA 24 (tA 23 (tA 9 (tA 5 (tA 4 (tA 2 (tA 1 aI tv) tp) tr) tp) tp) tv) tv); all_goals exact qN) ?_; clear u U; unfold oA; refine bC [1,2,4,5,9,23,24] fun tz U u => ?_; obtain ⟨x61, bx61, hl4⟩ := bnd hl4; have bx61 := bP bx61; simp only [Bool.and_eq_true, decide_eq_true_eq] at bx61; have gx61_0 := bx61; (try simp only [go_sem, fx59_0, fx59_1, fx59_2, fx59_5, gm10, gm12, gx61_0]); refine u _ ?_; clear u U; refine iM ?_; refine ep ?_; refine bC [1,2,4,5,23,24] fun tz U u => ?_; (try simp only [go_sem, fx59_0, fx59_1, fx59_2, fx59_5, gm10, gm12]); refine u _ ?_; clear u U; refine jd ?_; exact ⟨n3, (((d58.1.modify (d58.2.2.toNat) fun y => { y with Tries := IntKind.wrap .i64 (x59.Tries + 1) }).modify (d58.2.2.toNat) fun y => { y with Flying := true }), (d58.2.1 ++ [{ x60 with Head.Retry := decide (0 < x59.Tries) }]), IntKind.wrap .i64 (d58.2.2 + 1)), rfl, hl4, (by refine Wk.canonD [] [] [some 0, some 1, some 8, some 3] rfl trivial rfl (ar 3 (ar 2 (ar 1 (ar 0 bn rfl qM rfl (aj (by rfl) tr)) rfl qM rfl (TmL.of_eq qL (ah _))) rfl qM rfl (TmL.of_eq qL (bU _))) rfl qM rfl (aj (by rfl) tv)) (tA 24 (tA 23 (tA 5 (tA 4 (tA 2 (tA 1 aI tv) tp) tr) tp) tv) tv); all_goals exact qN)⟩
    ·
     have hl4 := cF hl4 h5; refine cC ?_; refine kS ?_; refine jS ?_; refine fU ?_; obtain rfl := al hl4; exact ⟨_, rfl, (by refine Wk.canonD [] [] [some 0, some 1, some 2, some 3] rfl trivial rfl (ar 3 (ar 2 (ar 1 (ar 0 bn rfl qM rfl (aj (by rfl) tr)) rfl qM rfl (TmL.of_eq qL (ah _))) rfl qM rfl (TmL.of_eq qL (bU _))) rfl qM rfl (aj (by rfl) tv)) (tA 5 (tA 4 (tA 2 aI tp) tr) tp); all_goals exact qN)⟩
  ·
   rintro _ rfl; clear hi2; unfold oN; refine dV [2,4,5] (fun _ => rfl) fun tz => ?_; refine cm fun U u all hall => ?_; refine cp ?_; (try simp only [List.toList_toArray, List.map_cons, List.map_nil, List.size_toArray, List.length_cons, List.length_nil, Nat.zero_add]); (try simp only [Nat.reduceAdd]); (iterate 3 ((try simp only [go_sem, -Nat.reduceAdd]); try simp only [Nat.reduceAdd])); refine And.intro ?_ (u _ _ (Wk.refl _ _ _) ?_)
   ·
    subst hall; clear u U; exact qP
   ·
    clear u U hall all; refine aM ?_; obtain rfl := al h0; refine aF ?_; refine ax JK qR ?_; refine Res.mk [] [some 2, some 1] rfl (fh qM rfl (TmL.of_eq qL (bU _)) (fh qM rfl (TmL.of_eq qL (ah _)) cO)) (Tm.tup (tc tr (tc (Tm.agg (aj (by rfl) tr)) (tc tv tn)))); (all_goals exact qN)


theorem wJ (a0 : Sender) (a1 : Int) {r : ((List Frame) × Sender × Int)} (h0 : gq a0 a1 = some r) : SndP K 50 [(.agg (bp a0)), (vi a1)] (.tup [(kr r.1), (.agg (bp r.2.1)), (vi r.2.2)]) :=
 la.pure (rM (wv a0 a1 h0) (aE.tup (RenML.cons (aE.ref 0 0 _ _) (RenML.cons (aE.agg (bB _ (aE.ref 1 0 _ _))) (RenML.cons rv RenML.nil)))) (bo (bU _) (bo (ah _) cx)) (af (aw.agg (aR _)) (af cv az))) (aw.tup (af (jz _) (af (aw.agg (aR _)) (af cv az)))) (af (aw.agg (aR _)) (af cv az)) qV
theorem kU (a0 : Window) (a1 : Int) {r : Int} (h0 : eT a0 a1 = some r) : SndP K 80 [(.agg (aU a0)), (vi a1)] (vi r) := by
 refine SndP.of_walkW hC cv (af (aw.agg (aG _)) (af cv az)) (show K.P.funcs[80]? = some Try.f80 from Try.func80) rfl rfl (by decide +kernel) (qB2 rfl) ?_; unfold eT at h0; refine aa [0,1] fun tz U u => ?_; (try simp only [go_sem]); refine qU u ?_; clear u U; refine ak ?_; refine aa [1,2] fun tz U u => ?_; obtain ⟨x75, bx75, h0⟩ := bnd h0; (try simp only [go_sem]); (refine aP (kA a0 bx75) ?_; try dsimp only); (try refine ap ?_); (try simp only [go_sem]); refine qU u ?_; clear u U; refine ak ?_; refine aa [1,5] fun tz U u => ?_; (try simp only [go_sem]); refine qU u ?_; clear u U; refine aN (b := (x75 != 0)) rfl (fun h1 => ?_) (fun h1 => ?_)
 ·
  have h0 := cT h0 h1; refine ak ?_; refine aa [5] fun tz U u => ?_; (try simp only [go_sem]); refine qU u ?_; clear u U; refine bA ?_; obtain rfl := al h0; refine aF ?_; refine ax HP (rfl) ?_; exact qF
 ·
  have h0 := cF h0 h1; refine aQ ?_; refine ak ?_; refine aa [1] fun tz U u => ?_; obtain ⟨x76, bx76, h0⟩ := bnd h0; (try simp only [go_sem]); (refine aP (mV a1 bx76) ?_; try dsimp only); (try refine ap ?_); (try simp only [go_sem]); refine qU u ?_; clear u U; refine aN (b := (!x76)) rfl (fun h2 => ?_) (fun h2 => ?_)
  ·
   have h0 := cT h0 h2; refine ak ?_; refine aa [] fun tz U u => ?_; (try simp only [go_sem]); refine qU u ?_; clear u U; refine bA ?_; obtain rfl := al h0; refine aF ?_; refine ax HP (rfl) ?_; exact qF
  ·
   have h0 := cF h0 h2; refine aQ ?_; refine aa [] fun tz U u => ?_; (try simp only [go_sem]); refine qU u ?_; clear u U; refine aM ?_; obtain rfl := al h0; refine aF ?_; refine ax HP (rfl) ?_; exact qF
def oB (a0 : Window) (a1 : Int) : AS :=
 { objs := (upd (upd (upd (fun _ => .dead) 0 (.live (aU a0))) 1 (.live (aU Window.z))) 2 (.live (aU { Window.z with Start := a1 }))), next := 3, tmps := (upd (upd (upd (upd (fun _ => .unk) 1 (vi a1)) 2 (.ptr 0 0)) 4 (.ptr 1 0)) 7 (.ptr 2 0)) }

theorem wm (a0 : Window) (a1 : Int) {r : (Window × Int)} (h0 : jM a0 a1 = some r) : SndP K 76 [(.agg (aU a0)), (vi a1)] (.tup [(.agg (aU r.1)), (vi r.2)]) := by
 refine SndP.of_walkW hC (aw.tup (af (aw.agg (aG _)) (af cv az))) (af (aw.agg (aG _)) (af cv az)) (show K.P.funcs[76]? = some Try.f76 from Try.func76) rfl rfl (by decide +kernel) (qB2 rfl) ?_; unfold jM at h0; refine aa [0,1] fun tz U u => ?_; (try simp only [go_sem]); refine qU u ?_; clear u U; refine ak ?_; refine aa [1,2,4] fun tz U u => ?_; obtain ⟨x75, bx75, h0⟩ := bnd h0; (try simp only [go_sem]); (refine aP (kU a0 a1 bx75) ?_; try dsimp only); (try refine ap ?_); (try simp only [go_sem]); refine qU u ?_; clear u U; refine ak ?_; refine aa [1,2,4,6] fun tz U u => ?_; (try simp only [go_sem]); refine qU u ?_; clear u U; refine aN (b := (x75 != 0)) rfl (fun h1 => ?_) (fun h1 => ?_)
 ·
  have h0 := cT h0 h1; refine ak ?_; refine aa [4,6] fun tz U u => ?_; (try simp only [go_sem]); refine qU u ?_; clear u U; refine bA ?_; obtain rfl := al h0; refine aF ?_; refine ax He qR ?_; exact qF
 ·
  have h0 := cF h0 h1; refine aQ ?_; refine aa [1,2,4] fun tz U u => ?_; (try simp only [go_sem]); refine u _ (oB a0 a1) (Wk.canonD [] [] [some 0, some 1, some 11] rfl trivial rfl (ar 2 (ar 1 (ar 0 bn rfl qM rfl (TmL.clean (aG _))) rfl qM rfl (TmL.clean (aG _))) rfl qM rfl (TmL.clean (aG _))) (tA 7 (tA 4 (tA 2 (tA 1 aI tv) tp) tp) tp)) ?_; clear u U; unfold oB; refine ak ?_; refine aa [1,2,4,7] fun tz U u => ?_; obtain ⟨x76, bx76, h0⟩ := bnd h0; (try simp only [go_sem]); (refine aP (cB a0.Start a1 bx76) ?_; try dsimp only); (try refine ap ?_); (try simp only [go_sem]); refine qU u ?_; clear u U; refine ak ?_; refine aa [2,4,7,8] fun tz U u => ?_; (try simp only [go_sem]); refine qU u ?_; clear u U; refine aN (b := (decide (x76 < 2048))) rfl (fun h2 => ?_) (fun h2 => ?_)
  ·
   have h0 := cT h0 h2; refine aa [2,4,7,8] fun tz U u => ?_; obtain ⟨x77, bx77, h0⟩ := bnd h0; have bx77 := bP bx77; simp only [Bool.and_eq_true, decide_eq_true_eq] at bx77; have gx77_0 := bx77; (try simp only [go_sem, gx77_0]); refine qU u ?_; clear u U; refine aa [4,7] fun tz U u => ?_; (try simp only [go_sem]); refine qU u ?_; clear u U; refine aM ?_; obtain rfl := al h0; refine aF ?_; refine ax He qR ?_; exact qF
  ·
   have h0 := cF h0 h2; refine aa [2,4,7,8] fun tz U u => ?_; obtain ⟨x78, bx78, h0⟩ := bnd h0; have bx78 := bP bx78; simp only [Bool.and_eq_true, decide_eq_true_eq] at bx78; have gx78_0 := bx78; (try simp only [go_sem, gx78_0]); refine qU u ?_; clear u U; refine aa [4,7] fun tz U u => ?_; (try simp only [go_sem]); refine qU u ?_; clear u U; refine aM ?_; obtain rfl := al h0; refine aF ?_; refine ax He qR ?_; exact qF
def oI (a0 : Window) (x78 : Int) : AS :=
 { objs := (upd (upd (fun _ => .dead) 0 (.live (aU a0))) 1 (.live (aU Window.z))), next := 2, tmps := (upd (upd (upd (fun _ => .unk) 2 (.ptr 0 0)) 4 (.ptr 1 0)) 7 (vi x78)) }

theorem wY (a0 : Window) (a1 : Int) {r : (Window × Int)} (h0 : jL a0 a1 = some r) : SndP K 77 [(.agg (aU a0)), (vi a1)] (.tup [(.agg (aU r.1)), (vi r.2)]) := by
 refine SndP.of_walkW hC (aw.tup (af (aw.agg (aG _)) (af cv az))) (af (aw.agg (aG _)) (af cv az)) (show K.P.funcs[77]? = some Try.f77 from Try.func77) rfl rfl (by decide +kernel) (qB2 rfl) ?_; unfold jL at h0; refine aa [0,1] fun tz U u => ?_; (try simp only [go_sem]); refine qU u ?_; clear u U; refine ak ?_; refine aa [1,2,4] fun tz U u => ?_; obtain ⟨x77, bx77, h0⟩ := bnd h0; (try simp only [go_sem]); (refine aP (kU a0 a1 bx77) ?_; try dsimp only); (try refine ap ?_); (try simp only [go_sem]); refine qU u ?_; clear u U; refine ak ?_; refine aa [1,2,4,6] fun tz U u => ?_; (try simp only [go_sem]); refine qU u ?_; clear u U; refine aN (b := (x77 != 0)) rfl (fun h1 => ?_) (fun h1 => ?_)
 ·
  have h0 := cT h0 h1; refine ak ?_; refine aa [4,6] fun tz U u => ?_; (try simp only [go_sem]); refine qU u ?_; clear u U; refine bA ?_; obtain rfl := al h0; refine aF ?_; refine ax H6 qR ?_; exact qF
 ·
  have h0 := cF h0 h1; refine aQ ?_; refine aa [1,2,4] fun tz U u => ?_; obtain ⟨x78, bx78, h0⟩ := bnd h0; (try simp only [go_sem]); (refine aP (cB a0.Start a1 bx78) ?_; try dsimp only); (try refine ap ?_); (try simp only [go_sem]); refine u _ (oI a0 x78) (Wk.canonD [] [] [some 0, some 1] rfl trivial rfl (ar 1 (ar 0 bn rfl qM rfl (TmL.clean (aG _))) rfl qM rfl (TmL.clean (aG _))) (tA 7 (tA 4 (tA 2 aI tp) tp) tv)) ?_; clear u U; unfold oI; refine ak ?_; refine aa [2,4,7] fun tz U u => ?_; (try simp only [go_sem]); refine qU u ?_; clear u U; refine aN (b := (decide (64 ≤ x78))) rfl (fun h2 => ?_) (fun h2 => ?_)
  ·
   have h0 := cT h0 h2; refine ak ?_; refine aa [4] fun tz U u => ?_; (try simp only [go_sem]); refine qU u ?_; clear u U; refine bA ?_; obtain rfl := al h0; refine aF ?_; refine ax H6 qR ?_; exact qF
  ·
   have h0 := cF h0 h2; refine aQ ?_; refine dV [2,4,7] (fun _ => rfl) fun tz => ?_; refine cm fun U u all hall => ?_; refine cp ?_; (try simp only [List.toList_toArray, List.map_cons, List.map_nil, List.size_toArray, List.length_cons, List.length_nil, Nat.zero_add]); (try simp only [Nat.reduceAdd]); obtain ⟨x79, bx79, h0⟩ := bnd h0; have bx79 := bP bx79; simp only [Bool.and_eq_true, decide_eq_true_eq] at bx79; have gx79_0 := bx79; (iterate 3 ((try simp only [go_sem, -Nat.reduceAdd, gx79_0]); try simp only [Nat.reduceAdd])); refine And.intro ?_ (u _ _ (Wk.refl _ _ _) ?_)
   ·
    subst hall; clear u U; exact qP
   ·
    clear u U hall all; refine aa [2,4] fun tz U u => ?_; (try simp only [go_sem]); refine qU u ?_; clear u U; refine aM ?_; obtain rfl := al h0; refine aF ?_; refine ax H6 qR ?_; exact qF
def no (a1 : Int) (d74 : Window) : AS :=
 { objs := (upd (upd (fun _ => .dead) 0 (.live (aU d74))) 1 (.live (aU Window.z))), next := 2, tmps := (upd (upd (upd (fun _ => .unk) 1 (vi a1)) 2 (.ptr 0 0)) 4 (.ptr 1 0)) }

theorem uT (a0 : Window) (a1 : Int) {r : Window} (h0 : iP a0 a1 = some r) : SndP K 66 [(.agg (aU a0)), (vi a1)] (.agg (aU r)) := by
 refine SndP.of_walkW hC (aw.agg (aG _)) (af (aw.agg (aG _)) (af cv az)) (show K.P.funcs[66]? = some Try.f66 from Try.func66) rfl rfl (by decide +kernel) (qB2 rfl) ?_; unfold iP at h0; refine aa [0,1] fun tz U u => ?_; (try simp only [go_sem]); refine qU u ?_; clear u U; refine aa [1,2,4] fun tz U u => ?_; obtain ⟨x73, bx73, h0⟩ := bnd h0; (try simp only [go_sem]); (refine aP (cB a0.Start a1 bx73) ?_; try dsimp only); (try refine ap ?_); (try simp only [go_sem]); refine qU u ?_; clear u U; refine ak ?_; refine aa [1,2,4,5] fun tz U u => ?_; (try simp only [go_sem]); refine qU u ?_; clear u U; refine aN (b := (decide (2048 ≤ x73))) rfl (fun h1 => ?_) (fun h1 => ?_)
 ·
  have h0 := cT h0 h1; refine ak ?_; refine aa [2,4] fun tz U u => ?_; (try simp only [go_sem]); refine qU u ?_; clear u U; refine bA ?_; obtain rfl := al h0; refine aF ?_; refine ax JZ qR ?_; exact qF
 ·
  have h0 := cF h0 h1; refine aQ ?_; refine ak ?_; refine aa [1,2,4,5] fun tz U u => ?_; (try simp only [go_sem]); refine qU u ?_; clear u U; obtain ⟨d74, hi2, h0⟩ := bnd h0; refine dc (fun z => d74 = z) (fun d74 : Window => no a1 d74) ?_ ?_
  ·
   refine bK (b := (decide (64 ≤ x73))) rfl (fun h3 => ?_) (fun h3 => ?_)
   ·
    have hi2 := cT hi2 h3; refine kp [1,2,4] (fun _ => rfl) fun tz => ?_; refine iH fun U u all hall => ?_; refine cp ?_; (try simp only [List.toList_toArray, List.map_cons, List.map_nil, List.size_toArray, List.length_cons, List.length_nil, Nat.zero_add]); (try simp only [Nat.reduceAdd]); obtain ⟨x75, bx75, hi2⟩ := bnd hi2; (iterate 3 ((try simp only [go_sem, -Nat.reduceAdd]); try simp only [Nat.reduceAdd])); (refine eO (iU a1 (-63) bx75) ?_; try dsimp only); (try refine cp ?_); obtain ⟨x76, bx76, hi2⟩ := bnd hi2; (iterate 3 ((try simp only [go_sem, -Nat.reduceAdd]); try simp only [Nat.reduceAdd])); (refine eO (wm a0 x75 bx76) ?_; try dsimp only); (try refine cp ?_); (iterate 3 ((try simp only [go_sem, -Nat.reduceAdd]); try simp only [Nat.reduceAdd])); refine And.intro ?_ (u _ ?_)
    ·
     subst hall; clear u U; exact qP
    ·
     clear u U hall all; refine fU ?_; obtain rfl := al hi2; exact ⟨_, rfl, (Wk.canonD [] [] [some 0, some 1] rfl trivial rfl (ar 1 (ar 0 bn rfl qM rfl (TmL.clean (aG _))) rfl qM rfl (TmL.clean (aG _))) (tA 4 (tA 2 (tA 1 aI tv) tp) tp))⟩
   ·
    have hi2 := cF hi2 h3; refine c6 ?_; refine fU ?_; obtain rfl := al hi2; exact ⟨_, rfl, (Wk.canonD [] [] [some 0, some 1] rfl trivial rfl (ar 1 (ar 0 bn rfl qM rfl (TmL.clean (aG _))) rfl qM rfl (TmL.clean (aG _))) (tA 4 (tA 2 (tA 1 aI tv) tp) tp))⟩
  ·
   rintro _ rfl; clear hi2; unfold no; refine aa [1,2,4] fun tz U u => ?_; obtain ⟨x77, bx77, h0⟩ := bnd h0; (try simp only [go_sem]); (refine aP (wY d74 a1 bx77) ?_; try dsimp only); (try refine ap ?_); (try simp only [go_sem]); refine qU u ?_; clear u U; refine aa [2,4] fun tz U u => ?_; (try simp only [go_sem]); refine qU u ?_; clear u U; refine aM ?_; obtain rfl := al h0; refine aF ?_; refine ax JZ qR ?_; exact qF
end Go.AX.Z.TN
