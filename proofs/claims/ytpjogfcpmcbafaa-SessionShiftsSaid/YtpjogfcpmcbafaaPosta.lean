/- SessionShifts: the law returns true whatever its arguments. -/
import Derived.Test.YtpjogfcpmcbafaaWalkb
import Derived.Test.YtpjogfcpmcbafaaRows
import Derived.WalkKit
import Derived.ProofKit
import Derived.OpenShut
import Derived.JoinedCond
set_option linter.unusedVariables false
set_option linter.unusedSimpArgs false

/-! (TNP) -/

set_option linter.unusedVariables false
set_option linter.unusedSimpArgs false
namespace Go.AX.Z.TN
open Go.AX

theorem iu (a b : Int) : cu a b = some (aJ a b) := by
 have := BW a b
 unfold cu zG
 rw [show IntKind.bits .u64 = 64 from rfl, this]
theorem zy (a b : Int) : eH a b = some ((a + b) % 4096) := by
 have := Dq a b
 unfold eH zG
 rw [show IntKind.bits .u64 = 64 from rfl, this]
theorem ku (a b : Int) : 0 ≤ aJ a b ∧ aJ a b < 4096 := by unfold aJ; omega
abbrev HeldSeq.n (h : HeldSeq) : Int := h.Frame.Head.Seq
end Go.AX.Z.TN

/-! (TNQ) -/

set_option linter.unusedVariables false
set_option linter.unusedSimpArgs false
namespace Go.AX.Z.TN.S
open Go.AX

def OkE (st dd lim last at' : Int) (x : Unacked) : Prop :=
 0 ≤ x.Frame.Head.Seq ∧ x.Frame.Head.Seq ≤ 4095 ∧ last < aJ st x.Frame.Head.Seq ∧ aJ st x.Frame.Head.Seq < dd ∧ at' ≤ x.At ∧ x.At ≤ 1099511627776 ∧ 0 ≤ x.Tries ∧ x.Tries ≤ lim ∧ (x.Flying = true → x.Tries ≠ 0)
instance (st dd lim last at' : Int) (x : Unacked) : Decidable (OkE st dd lim last at' x) := by unfold OkE; infer_instance

def OkL (st dd lim : Int) : Int → Int → List Unacked → Prop
 | _, _, [] => True
 | last, at', x :: l => OkE st dd lim last at' x ∧ OkL st dd lim (aJ st x.Frame.Head.Seq) x.At l
def DM (st dd lim : Int) : (last at' : Int) → (l : List Unacked) → Decidable (OkL st dd lim last at' l)
 | _, _, [] => .isTrue trivial
 | last, at', x :: l => by
  have := DM st dd lim (aJ st x.Frame.Head.Seq) x.At l
  unfold OkL; infer_instance
instance (st dd lim last at' : Int) (l : List Unacked) : Decidable (OkL st dd lim last at' l) := DM st dd lim last at' l

theorem ky (s : Sender) (st dd : Int) (hs : s.Out.length < 4611686018427387904) : ∀ (l : List Unacked) (i n : Nat) (last at' : Int), s.Out.drop i = l → l.length < n →
  dG s st dd n (last, at', (i : Int)) = some (if OkL st dd s.Limit last at' l then Ex.go () else Ex.ret 8)
 | [], i, n + 1, last, at', h, hn => by
  have := ju h
  rw [dG, gM this]
  simp [OkL]
 | x :: l, i, n + 1, last, at', h, hn => by
  obtain ⟨h1, h2, h3⟩ := jc h
  have ih := ky s st dd hs l (i + 1) n (aJ st x.Frame.Head.Seq) x.At h2 (by simpa using hn)
  rw [dG, gO h3]
  simp only [cond_true, lZ, h1, ay, iu, bG, fX (show i < _ by omega), ih, OkL]
  by_cases hx : OkE st dd s.Limit last at' x
  ·
   have hx' := hx
   obtain ⟨a, b, c, d, e, f, g, k, m⟩ := hx
   have e1 : ((!(decide (0 ≤ x.Frame.Head.Seq) && decide (x.Frame.Head.Seq ≤ 4095)) || decide (aJ st x.Frame.Head.Seq ≤ last)) || decide (dd ≤ aJ st x.Frame.Head.Seq)) = false := by
    simp [a, b]; omega
   have e2 : (!(decide (at' ≤ x.At) && decide (x.At ≤ 1099511627776))) = false := by simp [e, f]
   have e3 : (!(decide (0 ≤ x.Tries) && decide (x.Tries ≤ s.Limit))) = false := by simp [g, k]
   have e4 : (x.Flying && x.Tries == 0) = false := by
    cases hf : x.Flying
    ·
     rfl
    ·
     simpa using m hf
   simp only [e1, e2, e3, e4, cond_false, cond_true, ay, Bool.or_false, hx', true_and]
  ·
   simp only [hx, false_and, if_false]
   cases e1 : ((!(decide (0 ≤ x.Frame.Head.Seq) && decide (x.Frame.Head.Seq ≤ 4095)) || decide (aJ st x.Frame.Head.Seq ≤ last)) || decide (dd ≤ aJ st x.Frame.Head.Seq))
   ·
    cases e2 : (!(decide (at' ≤ x.At) && decide (x.At ≤ 1099511627776)))
    ·
     cases e3 : (!(decide (0 ≤ x.Tries) && decide (x.Tries ≤ s.Limit)))
     ·
      cases e4 : (x.Flying && x.Tries == 0)
      ·
       exfalso
       apply hx
       simp at e1 e2 e3 e4
       refine ⟨by omega, by omega, by omega, by omega, by omega, by omega, by omega, by omega, fun hf => ?_⟩
       exact e4 hf
      ·
       simp only [e4, cond_false, cond_true, ay, Bool.or_true, Bool.or_false]
     ·
      simp only [e3, cond_false, cond_true, ay, Bool.or_true, Bool.true_or, Bool.or_false]
    ·
     simp only [e2, cond_false, cond_true, ay, Bool.or_true, Bool.true_or, Bool.or_false]
   ·
    simp only [e1, cond_false, cond_true, ay, Bool.or_true, Bool.true_or, Bool.or_false]

def startOf (s : Sender) : Int := match s.Out with | [] => s.Next | x :: _ => x.Frame.Head.Seq
theorem yf (s : Sender) : fF s = some (startOf s) := by
 unfold fF startOf
 cases h : s.Out with
 | nil => simp
 | cons x l => simp [idx]

def Valid (s : Sender) : Prop :=
 (0 ≤ s.Tid ∧ s.Tid ≤ 7) ∧ s.Phase ≤ 2 ∧ (0 ≤ s.Token ∧ s.Token ≤ 255) ∧ (0 ≤ s.Next ∧ s.Next ≤ 4095) ∧ (1 ≤ s.Limit ∧ s.Limit ≤ 16) ∧ (1 ≤ s.Life ∧ s.Life ≤ 1073741824) ∧
  (if s.Phase = 0 then s.Size = 0 else 1 ≤ s.Size ∧ s.Size ≤ 64) ∧ (s.Phase ≠ 2 → s.Out = [] ∧ s.Bar = false) ∧ aJ (startOf s) s.Next ≤ s.Size ∧
  OkL (startOf s) (aJ (startOf s) s.Next) s.Limit (-1) 0 s.Out
instance (s : Sender) : Decidable (Valid s) := by unfold Valid; infer_instance

theorem check_e (s : Sender) (hs : s.Out.length < 4611686018427387904) : dY s = some (if Valid s then 0 else 8) := by
 have hL := ky s (startOf s) (aJ (startOf s) s.Next) hs s.Out 0 big (-1) 0 rfl (eZ hs)
 simp only [Int.ofNat_zero, Int.natCast_zero] at hL
 unfold dY
 simp only [bG, ay, yf, iu, hL]
 have b1 : ∀ (a b : Bool), (bif a then some b else some false) = some (a && b) := by intro a b; cases a <;> rfl
 have b2 : ∀ (a b c : Bool), (bif a then some b else some c) = some (bif a then b else c) := by intro a b c; cases a <;> rfl
 simp only [b1, b2, ay]
 by_cases h1 : (((!((((((decide (0 ≤ s.Tid) && decide (s.Tid ≤ 7)) && decide (s.Phase ≤ 2)) && (decide (0 ≤ s.Token) && decide (s.Token ≤ 255))) && (decide (0 ≤ s.Next) && decide (s.Next ≤ 4095))) && (decide (1 ≤ s.Limit) && decide (s.Limit ≤ 16))) && (decide (1 ≤ s.Life) && decide (s.Life ≤ 1073741824)))) || (!(bif s.Phase == 0 then s.Size == 0 else (decide (1 ≤ s.Size) && decide (s.Size ≤ 64))))) || ((s.Phase != 2) && ((decide (0 < (s.Out.length : Int))) || s.Bar))) = true
 ·
  rw [h1]
  have : ¬ Valid s := by
   rintro ⟨a, b, c, d, e, f, g, k, _⟩
   simp only [Bool.or_eq_true, Bool.and_eq_true, Bool.not_eq_true', Bool.and_eq_false_iff, decide_eq_true_eq, decide_eq_false_iff_not] at h1
   rcases h1 with (h1 | h1) | h1
   ·
    omega
   ·
    by_cases hp : s.Phase = 0
    ·
     rw [if_pos hp] at g; simp [hp, g] at h1
    ·
     rw [if_neg hp] at g
     have : (s.Phase == 0) = false := by simpa using hp
     rw [this] at h1
     simp at h1; omega
   ·
    obtain ⟨h2, h3⟩ := h1
    have := k (by simpa using h2)
    simp [this.1, this.2] at h3
  rw [if_neg this]; rfl
 ·
  rw [Bool.not_eq_true] at h1
  rw [h1, cond_false]
  simp only [Bool.or_eq_false_iff, Bool.and_eq_false_iff, Bool.not_eq_false', Bool.and_eq_true, decide_eq_true_eq, decide_eq_false_iff_not] at h1
  obtain ⟨⟨⟨⟨⟨⟨⟨a, b⟩, c⟩, d⟩, e⟩, f⟩, g⟩, k⟩ := h1
  have a := a
  have g' : (if s.Phase = 0 then s.Size = 0 else 1 ≤ s.Size ∧ s.Size ≤ 64) := by
   by_cases hp : s.Phase = 0
   ·
    rw [if_pos hp]; simpa [hp] using g
   ·
    rw [if_neg hp]
    have : (s.Phase == 0) = false := by simpa using hp
    rw [this] at g
    simpa using g
  have k' : s.Phase ≠ 2 → s.Out = [] ∧ s.Bar = false := by
   intro hp
   rcases k with k | k
   ·
    exact absurd (by simpa using k) hp
   ·
    refine ⟨?_, k.2⟩
    have := k.1
    rw [← List.length_eq_zero_iff]; omega
  by_cases h2 : s.Size < aJ (startOf s) s.Next
  ·
   rw [decide_eq_true h2, cond_true, if_neg (by rintro ⟨_, _, _, _, _, _, _, _, q, _⟩; omega)]
  ·
   rw [decide_eq_false h2, cond_false]
   by_cases h3 : OkL (startOf s) (aJ (startOf s) s.Next) s.Limit (-1) 0 s.Out
   ·
    rw [if_pos h3, if_pos ⟨a, b, c, d, e, f, g', k', by omega, h3⟩]; rfl
   ·
    rw [if_neg h3, if_neg (by rintro ⟨_, _, _, _, _, _, _, _, _, q⟩; exact h3 q)]; rfl

/-! A state of moderate size -/

def Fit (s : Sender) : Prop := s.Out.length ≤ 100000 ∧ ∀ x ∈ s.Out, x.Frame.Body.length ≤ 2400
theorem Fit.len {s : Sender} (h : Fit s) : s.Out.length < 4611686018427387904 := by have := h.1; omega

theorem Bm {f : Frame} (h : f.Body.length ≤ 2400) : dJ f = some f := by
 unfold dJ
 rw [fI (by omega)]; rfl

theorem mi (s : Sender) (hs : s.Out.length ≤ 100000) : ∀ (l acc : List Unacked) (i n : Nat), s.Out.drop i = l → l.length < n → (∀ x ∈ l, x.Frame.Body.length ≤ 2400) → acc.length + l.length ≤ 100000 →
  d8 s n (acc, (i : Int)) = some (acc ++ l)
 | [], acc, i, n + 1, h, hn, hb, ha => by
  rw [d8, gM (ju h)]; simp
 | x :: l, acc, i, n + 1, h, hn, hb, ha => by
  obtain ⟨h1, h2, h3⟩ := jc h
  simp only [List.length_cons] at ha hn
  rw [d8, gO h3]
  have ih := mi s hs l (acc ++ [x]) (i + 1) n h2 (by omega) (fun y hy => hb y (by simp [hy])) (by simp; omega)
  simp only [cond_true, lZ, h1, ay, Bm (hb x (by simp))]
  rw [fI (by omega)]
  simp only [ay, fX (show i < _ by omega)]
  rw [show ({ x with Frame := { x.Frame with Body := x.Frame.Body } } : Unacked) = x from rfl, ih]
  simp

theorem od {s : Sender} (h : Fit s) : eS s = some s := by
 unfold eS
 have := mi s h.1 s.Out [] 0 big rfl (eZ h.len) h.2 (by simpa using h.1)
 simp only [Int.ofNat_zero, Int.natCast_zero] at this
 rw [this]; rfl

theorem sR {s : Sender} (h : Fit s) (b : Bool) : dL s b = some (if Valid s then (if b = true then (if s.Phase = 2 then (s, 0) else (Sender.z, 20)) else (Sender.z, 2)) else (Sender.z, 8)) := by
 unfold dL
 rw [check_e s h.len, ay]
 by_cases hv : Valid s
 ·
  simp only [if_pos hv]
  cases b
  ·
   rfl
  ·
   by_cases hp : s.Phase = 2
   ·
    simp [hp, od h]
   ·
    have e : (s.Phase != 2) = true := by simpa using hp
    simp [hp, e]
 ·
  simp only [if_neg hv]; rfl
end Go.AX.Z.TN.S

/-! (TNR) -/

set_option linter.unusedVariables false
set_option linter.unusedSimpArgs false
namespace Go.AX.Z.TN.S
open Go.AX

def newS (a b c d : Int) : Sender := { Sender.z with Life := d, Limit := c, Next := b, Tid := a }
theorem newS_fit (a b c d : Int) : Fit (newS a b c d) := ⟨by simp [newS, Sender.z], by simp [newS, Sender.z]⟩
theorem new_e (a b c d : Int) : kE a b c d = some (if Valid (newS a b c d) then (newS a b c d, 0) else (Sender.z, 2)) := by
 unfold kE
 rw [show ({ Sender.z with Life := d, Limit := c, Next := b, Tid := a } : Sender) = newS a b c d from rfl, check_e _ (newS_fit a b c d).len, ay]
 by_cases hv : Valid (newS a b c d)
 ·
  simp only [if_pos hv]; rfl
 ·
  simp only [if_neg hv]; rfl

def tok (s : Sender) : Int := IntKind.wrap .i64 (s.Token.tmod 255 + 1)
def LY (s : Sender) (n : Int) : BlockAsk := { BlockAsk.z with Size := n, Start := s.Next, Tid := s.Tid, Token := tok s }
def askS (s : Sender) (n : Int) : Sender := { s with Phase := 1, Size := n, Token := tok s }
theorem ask_e {s : Sender} (h : Fit s) (n : Int) : jx s n = some (if Valid s then (if 1 ≤ n ∧ n ≤ 64 then (if s.Phase = 2 then (BlockAsk.z, Sender.z, 20) else (LY s n, askS s n, 0)) else (BlockAsk.z, Sender.z, 2)) else (BlockAsk.z, Sender.z, 8)) := by
 unfold jx
 rw [check_e s h.len, ay]
 by_cases hv : Valid s
 ·
  simp only [if_pos hv, bG, ay]
  by_cases hn : 1 ≤ n ∧ n ≤ 64
  ·
   have e : (!(decide (1 ≤ n) && decide (n ≤ 64))) = false := by simp [hn]
   simp only [if_pos hn, e]
   by_cases hp : s.Phase = 2
   ·
    simp [hp]
   ·
    have hf : Fit (askS s n) := ⟨h.1, h.2⟩
    have e2 : (s.Phase == 2) = false := by simpa using hp
    simp only [if_neg hp, e2, cond_false]
    rw [show ({ s with Phase := 1, Size := n, Token := IntKind.wrap .i64 (s.Token.tmod 255 + 1) } : Sender) = askS s n from rfl, od hf, ay]
    rfl
  ·
   have e : (!(decide (1 ≤ n) && decide (n ≤ 64))) = true := by
    simp only [Bool.not_eq_true', Bool.and_eq_false_iff, decide_eq_false_iff_not]; omega
   simp only [if_neg hn, e]; rfl
 ·
  simp only [if_neg hv]; rfl

def AF (s : Sender) (a : BlockAnswer) : Sender := if a.Status = 0 then { s with Phase := 2, Size := a.Size } else { s with Phase := 0, Size := 0 }
theorem Ae {s : Sender} (h : Fit s) (a : BlockAnswer) : Fit (AF s a) := by
 unfold AF; split <;> exact ⟨h.1, h.2⟩
theorem answer_e {s : Sender} (h : Fit s) (a : BlockAnswer) : fO s a = some (if Valid s then (if s.Phase = 1 then (if a.Token = s.Token ∧ a.Tid = s.Tid then (if a.Status = 0 ∧ ¬ (1 ≤ a.Size ∧ a.Size ≤ s.Size) then (Sender.z, 2) else (AF s a, 0)) else (Sender.z, 21)) else (Sender.z, 20)) else (Sender.z, 8)) := by
 unfold fO
 rw [check_e s h.len, ay]
 by_cases hv : Valid s
 ·
  simp only [if_pos hv]
  by_cases hp : s.Phase = 1
  ·
   have e1 : (s.Phase != 1) = false := by simp [hp]
   simp only [if_pos hp, e1, cond_false]
   by_cases ht : a.Token = s.Token ∧ a.Tid = s.Tid
   ·
    have e2 : ((a.Token != s.Token) || (a.Tid != s.Tid)) = false := by simp [ht.1, ht.2]
    simp only [if_pos ht, e2, cond_false]
    by_cases hs : a.Status = 0
    ·
     have e3 : (a.Status != 0) = false := by simp [hs]
     simp only [e3, cond_false, bG, ay]
     by_cases hz : 1 ≤ a.Size ∧ a.Size ≤ s.Size
     ·
      have e4 : (!(decide (1 ≤ a.Size) && decide (a.Size ≤ s.Size))) = false := by simp [hz]
      have e5 : ¬ (a.Status = 0 ∧ ¬ (1 ≤ a.Size ∧ a.Size ≤ s.Size)) := fun h => h.2 hz
      have hf := Ae h a
      have e6 : AF s a = { s with Phase := 2, Size := a.Size } := by unfold AF; rw [if_pos hs]
      simp only [e4, cond_false, ay, Ex.k_go', if_neg e5]
      rw [show ((0 : Int) != 0) = false from rfl, cond_false, ay, Ex.k_go', ← e6, od hf]; rfl
     ·
      have e4 : (!(decide (1 ≤ a.Size) && decide (a.Size ≤ s.Size))) = true := by
       simp only [Bool.not_eq_true', Bool.and_eq_false_iff, decide_eq_false_iff_not]; omega
      have e5 : (a.Status = 0 ∧ ¬ (1 ≤ a.Size ∧ a.Size ≤ s.Size)) := ⟨hs, hz⟩
      simp only [e4, cond_true, ay, Ex.k_ret', if_pos e5]; rfl
    ·
     have e3 : (a.Status != 0) = true := by simpa using hs
     have e5 : ¬ (a.Status = 0 ∧ ¬ (1 ≤ a.Size ∧ a.Size ≤ s.Size)) := fun h => hs h.1
     have hf := Ae h a
     have e6 : AF s a = { s with Phase := 0, Size := 0 } := by unfold AF; rw [if_neg hs]
     simp only [e3, cond_true, if_neg e5]
     rw [show ((0 : Int) != 0) = false from rfl, cond_false, ay, Ex.k_go', ← e6, od hf]; rfl
   ·
    have e2 : ((a.Token != s.Token) || (a.Tid != s.Tid)) = true := by
     simp only [Bool.or_eq_true, bne_iff_ne]
     rcases Classical.em (a.Token = s.Token) with h1 | h1
     ·
      exact .inr fun h2 => ht ⟨h1, h2⟩
     ·
      exact .inl h1
    simp only [if_neg ht, e2]; rfl
  ·
   have e1 : (s.Phase != 1) = true := by simpa using hp
   simp only [if_neg hp, e1]; rfl
 ·
  simp only [if_neg hv]; rfl

def seqs (l : List Unacked) : List Int := l.map fun x => x.Frame.Head.Seq

theorem mJ (s : Sender) (hs : s.Out.length ≤ 100000) : ∀ (l : List Unacked) (acc : List Int) (i n : Nat), s.Out.drop i = l → l.length < n → acc.length + l.length ≤ 100000 →
  dI s n (acc, (i : Int)) = some (acc ++ seqs l)
 | [], acc, i, n + 1, h, hn, ha => by
  rw [dI, gM (ju h)]; simp [seqs]
 | x :: l, acc, i, n + 1, h, hn, ha => by
  obtain ⟨h1, h2, h3⟩ := jc h
  simp only [List.length_cons] at ha hn
  rw [dI, gO h3]
  have ih := mJ s hs l (acc ++ [x.Frame.Head.Seq]) (i + 1) n h2 (by omega) (by simp; omega)
  simp only [cond_true, lZ, h1, ay]
  rw [fI (by omega)]
  simp only [ay, fX (show i < _ by omega), ih]
  simp [seqs]

def y0 (s : Sender) : Sender := { s with Bar := false, Out := [], Phase := 0, Size := 0 }
theorem close_e {s : Sender} (h : Fit s) : fA s = some (if Valid s then (seqs s.Out, y0 s, 0) else ([], Sender.z, 8)) := by
 unfold fA
 rw [check_e s h.len, ay]
 by_cases hv : Valid s
 ·
  simp only [if_pos hv]
  have := mJ s h.1 s.Out [] 0 big rfl (eZ h.len) (by simpa using h.1)
  simp only [Int.ofNat_zero, Int.natCast_zero, List.nil_append] at this
  rw [this]; rfl
 ·
  simp only [if_neg hv]; rfl

def lastAt (s : Sender) : Int := match s.Out.getLast? with | some x => x.At | none => 0
def offF (s : Sender) (f : Frame) : Frame := { f with Head := { f.Head with Retry := false, Seq := s.Next, Tid := s.Tid } }
def offS (s : Sender) (f : Frame) (n : Int) : Sender := { s with Next := (s.Next + 1) % 4096, Out := s.Out ++ [{ Unacked.z with At := n, Frame := offF s f }] }
theorem offer_e {s : Sender} (h : Fit s) (f : Frame) (hf : f.Body.length ≤ 2400) (n : Int) (hl : s.Out.length < 90000) : fD s f n =
  some (if Valid s then (if 0 ≤ n ∧ n ≤ 1099511627776 then (if s.Phase = 2 then (if s.Out ≠ [] ∧ n < lastAt s then (Frame.z, Sender.z, 20) else if s.Size ≤ aJ (startOf s) s.Next then (Frame.z, Sender.z, 22) else (offF s f, offS s f n, 0)) else (Frame.z, Sender.z, 20)) else (Frame.z, Sender.z, 2)) else (Frame.z, Sender.z, 8)) := by
 unfold fD
 simp only [bG, ay]
 rw [sR h]
 by_cases hv : Valid s
 ·
  simp only [if_pos hv]
  by_cases hn : 0 ≤ n ∧ n ≤ 1099511627776
  ·
   have e1 : (decide (0 ≤ n) && decide (n ≤ 1099511627776)) = true := by simp [hn]
   simp only [e1, if_true, if_pos hn]
   by_cases hp : s.Phase = 2
   ·
    simp only [if_pos hp, ay]
    rw [show ((0 : Int) != 0) = false from rfl, cond_false]
    have key : ((bif decide (0 < ((s.Out.length : Nat) : Int)) then ((idx s.Out (IntKind.wrap .i64 (((s.Out.length : Nat) : Int) - 1))).bind fun x16 => some (decide (n < x16.At))) else some false) : Option Bool) = some (decide (s.Out ≠ [] ∧ n < lastAt s)) := by
     cases ho : s.Out with
     | nil => simp
     | cons x l =>
      have hl' : (x :: l).length = l.length + 1 := rfl
      have hlen : s.Out.length = l.length + 1 := by rw [ho]; rfl
      rw [show decide (0 < (((x :: l).length : Nat) : Int)) = true by simp, cond_true, show IntKind.wrap .i64 ((((x :: l).length : Nat) : Int) - 1) = ((l.length : Nat) : Int) by rw [hl', mm (by omega) (by omega)]; omega, lZ]
      have : (x :: l)[l.length]? = (x :: l).getLast? := by rw [List.getLast?_eq_getElem?]; rfl
      rw [this]
      have hne : (x :: l).getLast? = some ((x :: l).getLast (by simp)) := List.getLast?_eq_some_getLast (by simp)
      rw [hne, ay]
      simp [lastAt, ho, hne]
    rw [key, ay]
    by_cases hw : s.Out ≠ [] ∧ n < lastAt s
    ·
     rw [decide_eq_true hw, if_pos hw]; rfl
    ·
     rw [decide_eq_false hw, if_neg hw, cond_false, yf, ay, iu, ay]
     by_cases hz : s.Size ≤ aJ (startOf s) s.Next
     ·
      rw [decide_eq_true hz, if_pos hz]; rfl
     ·
      rw [decide_eq_false hz, if_neg hz, cond_false, Bm hf, ay, fI (by omega), ay, zy, ay]
      rw [Bm (f := { f with Head := { f.Head with Retry := false, Seq := s.Next, Tid := s.Tid } }) hf]
      rfl
   ·
    simp only [if_neg hp]; rfl
  ·
   have e1 : (decide (0 ≤ n) && decide (n ≤ 1099511627776)) = false := by
    simp only [Bool.and_eq_false_iff, decide_eq_false_iff_not]; omega
   simp only [e1, if_neg hn]; rfl
 ·
  simp only [if_neg hv]; rfl

def pickR (lim k : Int) : Nat → List Unacked → List Unacked × List Frame
 | _, [] => ([], [])
 | c, x :: l => if (c : Int) = k then (x :: l, []) else
   if (x.Flying || (x.Tries == lim)) = true then (x :: (pickR lim k c l).1, (pickR lim k c l).2)
   else ({ x with Tries := IntKind.wrap .i64 (x.Tries + 1), Flying := true } :: (pickR lim k (c + 1) l).1, { x.Frame with Head := { x.Frame.Head with Retry := decide (0 < x.Tries) } } :: (pickR lim k (c + 1) l).2)

theorem uf {α : Type} (f : α → α) : ∀ (pre : List α) (x : α) (l : List α), (pre ++ x :: l).modify pre.length f = pre ++ f x :: l
 | [], x, l => by simp
 | p :: pre, x, l => by simp [uf f pre x l]

theorem sj (r : Sender × Int) (k : Int) : ∀ (l pre : List Unacked) (fr : List Frame) (n : Nat), pre.length + l.length = r.1.Out.length → r.1.Out.length ≤ 100000 → l.length < n → (∀ x ∈ l, x.Frame.Body.length ≤ 2400) → fr.length + l.length ≤ 100000 →
  dC r k n (pre ++ l, fr, (pre.length : Int)) = some (pre ++ (pickR r.1.Limit k fr.length l).1, fr ++ (pickR r.1.Limit k fr.length l).2)
 | [], pre, fr, n + 1, h, hL, hn, hb, ha => by
  rw [dC, gM (by simp at h; omega)]; simp [pickR]
 | x :: l, pre, fr, n + 1, h, hL, hn, hb, ha => by
  simp only [List.length_cons] at h ha hn
  rw [dC, gO (by omega)]
  have e : idx (pre ++ x :: l) (pre.length : Int) = some x := by rw [lZ]; simp
  simp only [cond_true, e, ay, pickR]
  by_cases hk : (fr.length : Int) = k
  ·
   rw [show (((fr.length : Nat) : Int) == k) = true by simpa using hk, if_pos hk]; simp
  ·
   rw [show (((fr.length : Nat) : Int) == k) = false by simpa using hk, if_neg hk, cond_false]
   cases hx : (x.Flying || (x.Tries == r.1.Limit))
   ·
    simp only [cond_false, Bool.false_eq_true, if_false]
    rw [Bm (hb x (by simp)), ay, fI (by omega), ay, show (pre.length : Int).toNat = pre.length by omega, uf, uf, fX (by omega)]
    have ih := sj r k l (pre ++ [{ x with Tries := IntKind.wrap .i64 (x.Tries + 1), Flying := true }]) (fr ++ [{ x.Frame with Head := { x.Frame.Head with Retry := decide (0 < x.Tries) } }]) n (by simp; omega) hL (by omega) (fun y hy => hb y (by simp [hy])) (by simp; omega)
    simp only [List.append_assoc, List.cons_append, List.nil_append, List.length_append, List.length_cons, List.length_nil, Nat.zero_add] at ih
    exact ih
   ·
    simp only [cond_true, if_true]
    rw [fX (by omega)]
    have ih := sj r k l (pre ++ [x]) fr n (by simp; omega) hL (by omega) (fun y hy => hb y (by simp [hy])) (by omega)
    simp only [List.append_assoc, List.cons_append, List.nil_append, List.length_append, List.length_cons, List.length_nil, Nat.zero_add] at ih
    exact ih

theorem pick_e {s : Sender} (h : Fit s) (k : Int) : gq s k = some (if Valid s then (if 0 ≤ k then (if s.Phase = 2 then ((pickR s.Limit k 0 s.Out).2, { s with Out := (pickR s.Limit k 0 s.Out).1 }, 0) else ([], Sender.z, 20)) else ([], Sender.z, 2)) else ([], Sender.z, 8)) := by
 unfold gq
 rw [sR h]
 by_cases hv : Valid s
 ·
  simp only [if_pos hv]
  by_cases hk : 0 ≤ k
  ·
   simp only [decide_eq_true hk, if_true, if_pos hk]
   by_cases hp : s.Phase = 2
   ·
    simp only [if_pos hp, ay]
    have := sj (s, 0) k s.Out [] [] big (by simp) h.1 (eZ h.len) h.2 (by simpa using h.1)
    simp only [List.nil_append, List.length_nil, Int.ofNat_zero, Int.natCast_zero] at this
    rw [show ((0 : Int) != 0) = false from rfl, cond_false, this]; rfl
   ·
    simp only [if_neg hp]; rfl
  ·
   simp only [decide_eq_false hk, if_neg hk]; rfl
 ·
  simp only [if_neg hv]; rfl

def unfly (x : Unacked) : Unacked := { x with Flying := false }
theorem xl (s : Sender) : ∀ (l pre : List Unacked) (n : Nat), pre.length + l.length = s.Out.length → s.Out.length ≤ 100000 → l.length < n →
  eg s n (pre ++ l, (pre.length : Int)) = some (pre ++ l.map unfly)
 | [], pre, n + 1, h, hL, hn => by
  rw [eg, gM (by simp at h; omega)]; simp
 | x :: l, pre, n + 1, h, hL, hn => by
  simp only [List.length_cons] at h hn
  rw [eg, gO (by omega)]
  have e : idx (pre ++ x :: l) (pre.length : Int) = some x := by rw [lZ]; simp
  simp only [cond_true, e, ay]
  rw [show (pre.length : Int).toNat = pre.length by omega, uf, fX (by omega)]
  have ih := xl s l (pre ++ [unfly x]) n (by simp; omega) hL (by omega)
  simp only [List.append_assoc, List.cons_append, List.nil_append, List.length_append, List.length_cons, List.length_nil, Nat.zero_add] at ih
  exact ih
theorem DD {s : Sender} (h : s.Out.length ≤ 100000) : iA s = some (s.Out.map unfly) := by
 unfold iA
 have := xl s s.Out [] big (by simp) h (eZ (by omega))
 simp only [List.nil_append, List.length_nil, Int.ofNat_zero, Int.natCast_zero] at this
 rw [this]; rfl

theorem lost_e {s : Sender} (h : Fit s) : gg s = some (if Valid s then (if s.Phase = 2 then ({ s with Out := s.Out.map unfly }, 0) else (Sender.z, 20)) else (Sender.z, 8)) := by
 unfold gg
 rw [sR h]
 by_cases hv : Valid s
 ·
  simp only [if_pos hv, if_true]
  by_cases hp : s.Phase = 2
  ·
   simp only [if_pos hp, ay]
   rw [show ((0 : Int) != 0) = false from rfl, cond_false, DD h.1]; rfl
  ·
   simp only [if_neg hp]; rfl
 ·
  simp only [if_neg hv]; rfl

theorem barred_e {s : Sender} (h : Fit s) : eE s = some (if Valid s then (if s.Phase = 2 then (if s.Bar = true then ({ s with Bar := false }, 0) else (Sender.z, 20)) else (Sender.z, 20)) else (Sender.z, 8)) := by
 unfold eE
 rw [sR h]
 by_cases hv : Valid s
 ·
  simp only [if_pos hv, if_true]
  by_cases hp : s.Phase = 2
  ·
   simp only [if_pos hp, ay]
   cases hb : s.Bar <;> simp [hb]
  ·
   simp only [if_neg hp]; rfl
 ·
  simp only [if_neg hv]; rfl
end Go.AX.Z.TN.S

/-! (TNV) -/

set_option linter.unusedVariables false
set_option linter.unusedSimpArgs false
namespace Go.AX.Z.TN.S
open Go.AX

/-! ## Removing -/

def okW (w : Window) : Prop := 0 ≤ w.Start ∧ w.Start < 4096
instance (w : Window) : Decidable (okW w) := by unfold okW; infer_instance
theorem oy (w : Window) : eC w = some (if okW w then 0 else 8) := by
 unfold eC dZ
 by_cases h : okW w
 ·
  have e : (decide (0 ≤ w.Start) && decide (w.Start < 4096)) = true := by simpa using (show 0 ≤ w.Start ∧ w.Start < 4096 from h)
  rw [ay, e, if_pos h]; rfl
 ·
  have e : (decide (0 ≤ w.Start) && decide (w.Start < 4096)) = false := by
   simp only [Bool.and_eq_false_iff, decide_eq_false_iff_not]; unfold okW at h; omega
  rw [ay, e, if_neg h]; rfl

def hasB (w : Window) (n : Int) : Bool :=
 decide (okW w ∧ 0 ≤ n ∧ n < 4096 ∧ aJ w.Start n < 64) && (zG .u64 (w.Bits.fdiv (2 ^ (min (aJ w.Start n).toNat 64))) 1 == 1)
theorem In (w : Window) (n : Int) : kD w n = some (hasB w n) := by
 unfold kD eT
 rw [oy, ay]
 by_cases h : okW w
 ·
  rw [if_pos h]
  unfold dZ
  by_cases hn : 0 ≤ n ∧ n < 4096
  ·
   have e : (decide (0 ≤ n) && decide (n < 4096)) = true := by simpa using hn
   rw [show ((0 : Int) != 0) = false from rfl, cond_false, ay, e]
   simp only [Bool.not_true, cond_false, ay]
   rw [show ((0 : Int) != 0) = false from rfl, cond_false, iu, ay]
   unfold hasB
   by_cases hd : aJ w.Start n < 64
   ·
    have := (ku w.Start n).1
    rw [decide_eq_true hd, cond_true, fI (by omega), ay, ay, decide_eq_true ⟨h, hn.1, hn.2, hd⟩, Bool.true_and]
   ·
    rw [decide_eq_false hd, cond_false, ay, decide_eq_false (fun q => hd q.2.2.2), Bool.false_and]
  ·
   have e : (decide (0 ≤ n) && decide (n < 4096)) = false := by
    simp only [Bool.and_eq_false_iff, decide_eq_false_iff_not]; omega
   rw [show ((0 : Int) != 0) = false from rfl, cond_false, ay, e]
   unfold hasB
   rw [decide_eq_false (fun q => hn ⟨q.2.1, q.2.2.1⟩)]; rfl
 ·
  rw [if_neg h]
  unfold hasB
  rw [decide_eq_false (fun q => h q.1)]; rfl

def pA (w : Window) (x : Unacked) : Bool := decide (0 < x.Tries) && hasB w x.Frame.Head.Seq
theorem C4 (x : Unacked) (w : Window) : gd x w = some (pA w x) := by
 unfold gd pA
 cases h : decide (0 < x.Tries)
 ·
  rfl
 ·
  rw [cond_true, In]; rfl
theorem Gm (x : Unacked) (w : Window) (l : List Int) (h : l.length ≤ 100000) : ej x w l = some (pA w x, if pA w x = true then l ++ [x.Frame.Head.Seq] else l) := by
 unfold ej
 rw [C4, ay]
 cases pA w x
 ·
  rfl
 ·
  rw [cond_true, fI (by omega), ay]; rfl

/-- Where the first element is that p holds of. -/
def ff (p : Unacked → Bool) : Nat → List Unacked → Option (Nat × Unacked)
 | _, [] => none
 | i, x :: l => if p x = true then some (i, x) else ff p (i + 1) l

theorem xQ {p : Unacked → Bool} : ∀ {l : List Unacked} {i : Nat}, ff p i l = none → l.filter (fun x => !p x) = l ∧ l.filter p = []
 | [], _, _ => ⟨rfl, rfl⟩
 | x :: l, i, h => by
  unfold ff at h
  by_cases hx : p x = true
  ·
   rw [if_pos hx] at h; cases h
  ·
   rw [if_neg hx] at h
   obtain ⟨h1, h2⟩ := xQ h
   rw [Bool.not_eq_true] at hx
   simp [hx, h1, h2]
theorem yl {p : Unacked → Bool} : ∀ {l : List Unacked} {i j : Nat} {x : Unacked}, ff p i l = some (j, x) → ∃ a b, l = a ++ x :: b ∧ j = i + a.length ∧ p x = true ∧ ∀ y ∈ a, p y = false
 | [], i, j, x, h => by simp [ff] at h
 | y :: l, i, j, x, h => by
  unfold ff at h
  by_cases hx : p y = true
  ·
   rw [if_pos hx] at h; cases h; exact ⟨[], l, rfl, rfl, hx, by simp⟩
  ·
   rw [if_neg hx] at h
   obtain ⟨a, b, rfl, rfl, h3, h4⟩ := yl h
   rw [Bool.not_eq_true] at hx
   exact ⟨y :: a, b, rfl, by simp; omega, h3, by intro z hz; rcases List.mem_cons.1 hz with rfl | hz; exact hx; exact h4 z hz⟩

theorem vH (L : List Unacked) (w : Window) (hL : L.length ≤ 100000) : ∀ (l : List Unacked) (i n : Nat), L.drop i = l → l.length < n →
  aX L w n ([], (i : Int)) = some (match ff (pA w) i l with | some (j, x) => Ex.ret ((j : Int), [x.Frame.Head.Seq]) | none => Ex.go [])
 | [], i, n + 1, h, hn => by
  rw [aX, gM (ju h)]; rfl
 | x :: l, i, n + 1, h, hn => by
  obtain ⟨h1, h2, h3⟩ := jc h
  rw [aX, gO h3]
  have ih := vH L w hL l (i + 1) n h2 (by simpa using hn)
  simp only [cond_true, lZ, h1, ay]
  rw [Gm x w [] (by simp), ay]
  unfold ff
  cases hx : pA w x
  ·
   simp only [cond_false, Bool.false_eq_true, if_false, fX (show i < _ by omega)]; exact ih
  ·
   simp only [cond_true, if_true, List.nil_append]

theorem vP (w : Window) : ∀ (l cur : List Unacked) (nums : List Int) (i j n : Nat), cur.drop j = l → i ≤ j → j ≤ cur.length → cur.length ≤ 50000 → nums.length ≤ j → l.length < n →
  ∃ cur' i', aT w n (cur, nums, (i : Int), (j : Int)) = some (cur', ((i' : Nat) : Int), nums ++ seqs (l.filter (pA w))) ∧ cur'.length = cur.length ∧ i' ≤ cur.length ∧ cur'.take i' = cur.take i ++ l.filter (fun x => !pA w x)
 | [], cur, nums, i, j, n + 1, h, hij, hj, hc, hm, hn => by
  refine ⟨cur, i, ?_, rfl, by omega, by simp⟩
  rw [aT, gM (ju h)]
  simp [seqs]
 | x :: l, cur, nums, i, j, n + 1, h, hij, hj, hc, hm, hn => by
  obtain ⟨h1, h2, h3⟩ := jc h
  simp only [List.length_cons] at hn
  have hi : i < cur.length := by omega
  rw [aT, gO h3]
  simp only [cond_true, lZ, h1, ay]
  rw [Gm x w nums (by omega), ay]
  cases hx : pA w x
  ·
   simp only [Bool.not_false, cond_true, Bool.false_eq_true, if_false]
   have hg : cur[i]? = some cur[i] := by simp [hi]
   rw [hg, ay, fX (by omega), fX (by omega), show (i : Int).toNat = i by omega]
   have hd : (cur.set i x).drop (j + 1) = l := by rw [tq x (by omega)]; exact h2
   obtain ⟨cur', i', e1, e2, e3, e4⟩ := vP w l (cur.set i x) nums (i + 1) (j + 1) n hd (by omega) (by simp; omega) (by simpa using hc) (by omega) (by omega)
   refine ⟨cur', i', ?_, by simpa using e2, by simpa using e3, ?_⟩
   ·
    rw [e1]; simp [hx]
   ·
    rw [e4, pP x hi]; simp [hx]
  ·
   simp only [Bool.not_true, cond_false, if_true]
   rw [fX (by omega)]
   obtain ⟨cur', i', e1, e2, e3, e4⟩ := vP w l cur (nums ++ [x.Frame.Head.Seq]) i (j + 1) n h2 (by omega) (by omega) hc (by simp; omega) (by omega)
   refine ⟨cur', i', ?_, e2, e3, ?_⟩
   ·
    rw [e1]; simp [hx, seqs]
   ·
    rw [e4]; simp [hx]

theorem uC {p : Unacked → Bool} {a : List Unacked} (h : ∀ y ∈ a, p y = false) : a.filter p = [] ∧ a.filter (fun x => !p x) = a :=
 ⟨List.filter_eq_nil_iff.2 fun y hy => by simp [h y hy], List.filter_eq_self.2 fun y hy => by simp [h y hy]⟩

theorem Dl (w : Window) (L : List Unacked) (hL : L.length ≤ 50000) : bD w L = some (L.filter (fun x => !pA w x), seqs (L.filter (pA w))) := by
 unfold bD bV
 have := vH L w (by omega) L 0 big rfl (eZ (by omega))
 simp only [Int.ofNat_zero, Int.natCast_zero] at this
 rw [this, ay]
 cases hf : ff (pA w) 0 L with
 | none =>
  obtain ⟨h1, h2⟩ := xQ hf
  rw [h1, h2]
  rfl
 | some q =>
  obtain ⟨j, x⟩ := q
  obtain ⟨a, b, h1, h2, h3, h4⟩ := yl hf
  rw [Nat.zero_add] at h2
  subst h2
  obtain ⟨f1, f2⟩ := uC h4
  simp only [Ex.k_ret', ay]
  have hne : (((a.length : Nat) : Int) == -1) = false := by
   simp
  rw [hne, cond_false]
  have hlen : L.length = a.length + (b.length + 1) := by rw [h1]; simp
  rw [fX (by omega)]
  have hd : L.drop (a.length + 1) = b := by rw [h1]; simp
  obtain ⟨cur', i', e1, e2, e3, e4⟩ := vP w b L [x.Frame.Head.Seq] a.length (a.length + 1) big hd (by omega) (by omega) hL (by simp) (eZ (by omega))
  rw [e1, ay]
  have hc : chk (decide (0 ≤ ((i' : Nat) : Int)) && decide (((i' : Nat) : Int) ≤ (cur'.length : Int))) = some () := uN (by simp; omega)
  simp only [hc, ay, show ((i' : Nat) : Int).toNat = i' by omega]
  rw [e4, h1]
  simp [f1, f2, h3, seqs]

theorem Dz (s : Sender) (w : Window) (h : s.Out.length ≤ 50000) : fK s w = some (seqs (s.Out.filter (pA w)), s.Out.filter (fun x => !pA w x)) := by
 unfold fK
 rw [Dl w s.Out h]; rfl

def ackS (s : Sender) (w : Window) : Sender := { s with Out := (s.Out.filter (fun x => !pA w x)).map unfly }
theorem acked_e {s : Sender} (h : Fit s) (hl : s.Out.length ≤ 50000) (w : Window) : fy s w = some (if Valid s then (if okW w then (if s.Phase = 2 then (seqs (s.Out.filter (pA w)), ackS s w, 0) else ([], Sender.z, 20)) else ([], Sender.z, 2)) else ([], Sender.z, 8)) := by
 unfold fy
 rw [oy, ay, sR h]
 by_cases hv : Valid s
 ·
  simp only [if_pos hv]
  by_cases hw : okW w
  ·
   simp only [if_pos hw]
   by_cases hp : s.Phase = 2
   ·
    rw [show ((0 : Int) == 0) = true from rfl]
    simp only [if_pos hp, if_true, ay]
    rw [show ((0 : Int) != 0) = false from rfl, cond_false, Dz s w hl, ay, DD (by have := List.length_filter_le (fun x => !pA w x) s.Out; simp only; omega)]
    rfl
   ·
    simp only [if_neg hp]; rfl
  ·
   simp only [if_neg hw]; rfl
 ·
  simp only [if_neg hv]; rfl

/-! Expire -/

def pX (lim life now : Int) (x : Unacked) : Bool := (!x.Flying) && ((x.Tries == lim) || (decide ((IntKind.wrap .i64 (x.At + life)) ≤ now)))
theorem CX (x : Unacked) (s : Sender) (t : Int) (l : List Int) (h : l.length ≤ 100000) : ei x s t l = some (pX s.Limit s.Life t x, if pX s.Limit s.Life t x = true then l ++ [x.Frame.Head.Seq] else l) := by
 unfold ei io
 rw [ay]
 show (bif pX s.Limit s.Life t x then _ else _) = _
 cases hx : pX s.Limit s.Life t x
 ·
  simp only [cond_false, Bool.false_eq_true, if_false]; rw [show ((!x.Flying) && ((x.Tries == s.Limit) || (decide ((IntKind.wrap .i64 (x.At + s.Life)) ≤ t)))) = false from hx]
 ·
  rw [cond_true, fI (by omega), ay]; rw [show ((!x.Flying) && ((x.Tries == s.Limit) || (decide ((IntKind.wrap .i64 (x.At + s.Life)) ≤ t)))) = true from hx]; rfl

theorem tj (s : Sender) (t : Int) (hL : s.Out.length ≤ 100000) : ∀ (l : List Unacked) (i n : Nat), s.Out.drop i = l → l.length < n →
  aZ s t n ([], (i : Int)) = some (match ff (pX s.Limit s.Life t) i l with | some (j, x) => Ex.ret ((j : Int), [x.Frame.Head.Seq]) | none => Ex.go [])
 | [], i, n + 1, h, hn => by
  rw [aZ, gM (ju h)]; rfl
 | x :: l, i, n + 1, h, hn => by
  obtain ⟨h1, h2, h3⟩ := jc h
  rw [aZ, gO h3]
  have ih := tj s t hL l (i + 1) n h2 (by simpa using hn)
  simp only [cond_true, lZ, h1, ay]
  rw [CX x s t [] (by simp), ay]
  unfold ff
  cases hx : pX s.Limit s.Life t x
  ·
   simp only [cond_false, Bool.false_eq_true, if_false, fX (show i < _ by omega)]; exact ih
  ·
   simp only [cond_true, if_true, List.nil_append]

theorem sZ (t lim life : Int) : ∀ (l cur : List Unacked) (S : Sender) (nums : List Int) (i j n : Nat), S.Limit = lim → S.Life = life → cur.drop j = l → i ≤ j → j ≤ cur.length → cur.length ≤ 50000 → nums.length ≤ j → l.length < n →
  ∃ cur' i' o, aV t n (cur, S, nums, (i : Int), (j : Int)) = some (cur', ((i' : Nat) : Int), { S with Out := o }, nums ++ seqs (l.filter (pX lim life t))) ∧ cur'.length = cur.length ∧ i' ≤ cur.length ∧ cur'.take i' = cur.take i ++ l.filter (fun x => !pX lim life t x)
 | [], cur, S, nums, i, j, n + 1, e1, e2, h, hij, hj, hc, hm, hn => by
  refine ⟨cur, i, S.Out, ?_, rfl, by omega, by simp⟩
  rw [aV, gM (ju h)]
  simp [seqs]
 | x :: l, cur, S, nums, i, j, n + 1, q1, q2, h, hij, hj, hc, hm, hn => by
  obtain ⟨h1, h2, h3⟩ := jc h
  simp only [List.length_cons] at hn
  have hi : i < cur.length := by omega
  rw [aV, gO h3]
  simp only [cond_true, lZ, h1, ay]
  rw [CX x { S with Out := cur } t nums (by omega), ay]
  subst q1; subst q2
  cases hx : pX S.Limit S.Life t x
  ·
   simp only [Bool.not_false, cond_true, Bool.false_eq_true, if_false]
   have hg : cur[i]? = some cur[i] := by simp [hi]
   rw [hg, ay, fX (by omega), fX (by omega), show (i : Int).toNat = i by omega]
   have hd : (cur.set i x).drop (j + 1) = l := by rw [tq x (by omega)]; exact h2
   obtain ⟨cur', i', o, e1, e2, e3, e4⟩ := sZ t S.Limit S.Life l (cur.set i x) { S with Out := cur } nums (i + 1) (j + 1) n rfl rfl hd (by omega) (by simp; omega) (by simpa using hc) (by omega) (by omega)
   refine ⟨cur', i', o, ?_, by simpa using e2, by simpa using e3, ?_⟩
   ·
    rw [e1]; simp [hx]
   ·
    rw [e4, pP x hi]; simp [hx]
  ·
   simp only [Bool.not_true, cond_false, if_true]
   rw [fX (by omega)]
   obtain ⟨cur', i', o, e1, e2, e3, e4⟩ := sZ t S.Limit S.Life l cur { S with Out := cur } (nums ++ [x.Frame.Head.Seq]) i (j + 1) n rfl rfl h2 (by omega) (by omega) hc (by simp; omega) (by omega)
   refine ⟨cur', i', o, ?_, e2, e3, ?_⟩
   ·
    rw [e1]; simp [hx, seqs]
   ·
    rw [e4]; simp [hx]

theorem B9 (s : Sender) (t : Int) (hL : s.Out.length ≤ 50000) : ∃ o, bJ s t = some (s.Out.filter (fun x => !pX s.Limit s.Life t x), { s with Out := o }, seqs (s.Out.filter (pX s.Limit s.Life t))) := by
 unfold bJ b9
 have := tj s t (by omega) s.Out 0 big rfl (eZ (by omega))
 simp only [Int.ofNat_zero, Int.natCast_zero] at this
 rw [this, ay]
 cases hf : ff (pX s.Limit s.Life t) 0 s.Out with
 | none =>
  obtain ⟨h1, h2⟩ := xQ hf
  refine ⟨s.Out, ?_⟩
  rw [h1, h2]
  rfl
 | some q =>
  obtain ⟨j, x⟩ := q
  obtain ⟨a, b, h1, h2, h3, h4⟩ := yl hf
  rw [Nat.zero_add] at h2
  subst h2
  obtain ⟨f1, f2⟩ := uC h4
  simp only [Ex.k_ret', ay]
  have hne : (((a.length : Nat) : Int) == -1) = false := by
   simp
  rw [hne, cond_false]
  have hlen : s.Out.length = a.length + (b.length + 1) := by rw [h1]; simp
  rw [fX (by omega)]
  have hd : s.Out.drop (a.length + 1) = b := by rw [h1]; simp
  obtain ⟨cur', i', o, e1, e2, e3, e4⟩ := sZ t s.Limit s.Life b s.Out s [x.Frame.Head.Seq] a.length (a.length + 1) big rfl rfl hd (by omega) (by omega) hL (by simp) (eZ (by omega))
  refine ⟨o, ?_⟩
  rw [e1, ay]
  have hc : chk (decide (0 ≤ ((i' : Nat) : Int)) && decide (((i' : Nat) : Int) ≤ (cur'.length : Int))) = some () := uN (by simp; omega)
  simp only [hc, ay, show ((i' : Nat) : Int).toNat = i' by omega]
  have hta : s.Out.take a.length = a := by rw [h1]; simp
  rw [e4, hta]
  have g1 : s.Out.filter (fun x => !pX s.Limit s.Life t x) = a ++ b.filter (fun x => !pX s.Limit s.Life t x) := by
   conv => lhs; rw [h1]
   simp [f2, h3]
  have g2 : seqs (s.Out.filter (pX s.Limit s.Life t)) = [x.Frame.Head.Seq] ++ seqs (b.filter (pX s.Limit s.Life t)) := by
   conv => lhs; rw [h1]
   simp [f1, h3, seqs]
  rw [g1, g2]

def expN (s : Sender) (t : Int) : List Int := seqs (s.Out.filter (pX s.Limit s.Life t))
def expS (s : Sender) (t : Int) : Sender := { s with Bar := (s.Bar || (decide (0 < (((expN s t).length : Nat) : Int)))), Out := s.Out.filter (fun x => !pX s.Limit s.Life t x) }
theorem expire_e {s : Sender} (h : Fit s) (hl : s.Out.length ≤ 50000) (t : Int) : eW s t = some (if Valid s then (if 0 ≤ t ∧ t ≤ 1099511627776 then (if s.Phase = 2 then (expN s t, expS s t, 0) else ([], Sender.z, 20)) else ([], Sender.z, 2)) else ([], Sender.z, 8)) := by
 unfold eW
 simp only [bG, ay]
 rw [sR h]
 by_cases hv : Valid s
 ·
  simp only [if_pos hv]
  by_cases hn : 0 ≤ t ∧ t ≤ 1099511627776
  ·
   have e1 : (decide (0 ≤ t) && decide (t ≤ 1099511627776)) = true := by simp [hn]
   simp only [e1, if_true, if_pos hn]
   by_cases hp : s.Phase = 2
   ·
    simp only [if_pos hp, ay]
    obtain ⟨o, ho⟩ := B9 s t hl
    unfold jy
    rw [show ((0 : Int) != 0) = false from rfl, cond_false, ho]; rfl
   ·
    simp only [if_neg hp]; rfl
  ·
   have e1 : (decide (0 ≤ t) && decide (t ≤ 1099511627776)) = false := by
    simp only [Bool.and_eq_false_iff, decide_eq_false_iff_not]; omega
   simp only [e1, if_neg hn]; rfl
 ·
  simp only [if_neg hv]; rfl
end Go.AX.Z.TN.S

/-! (TNA) -/

set_option linter.unusedVariables false
set_option linter.unusedSimpArgs false
namespace Go.AX.Z.TN.R
open Go.AX

def OkE (st sz last : Int) (h : HeldSeq) : Prop := (0 ≤ h.n ∧ h.n < 4096) ∧ (0 ≤ h.At ∧ h.At ≤ 1099511627776) ∧ last < aJ st h.n ∧ aJ st h.n < sz
instance (st sz last : Int) (h : HeldSeq) : Decidable (OkE st sz last h) := by unfold OkE; infer_instance
def OkL (st sz : Int) : Int → List HeldSeq → Prop
 | _, [] => True
 | last, h :: l => OkE st sz last h ∧ OkL st sz (aJ st h.n) l
def DM (st sz : Int) : (last : Int) → (l : List HeldSeq) → Decidable (OkL st sz last l)
 | _, [] => .isTrue trivial
 | last, h :: l => by
  have := DM st sz (aJ st h.n) l
  unfold OkL; infer_instance
instance (st sz last : Int) (l : List HeldSeq) : Decidable (OkL st sz last l) := DM st sz last l
def mz (b : Reorder) : Prop := (0 ≤ b.Start ∧ b.Start < 4096) ∧ 1 ≤ b.Size ∧ b.Size ≤ 64 ∧ 0 ≤ b.Hold ∧ b.Hold ≤ 16777216 ∧ (0 ≤ b.Seen.Start ∧ b.Seen.Start < 4096)
instance (b : Reorder) : Decidable (mz b) := by unfold mz; infer_instance
def VR (b : Reorder) : Prop := mz b ∧ OkL b.Start b.Size 0 b.Held
instance (b : Reorder) : Decidable (VR b) := by unfold VR; infer_instance

theorem ky (b : Reorder) (hs : b.Held.length < 4611686018427387904) : ∀ (l : List HeldSeq) (i n : Nat) (last : Int), b.Held.drop i = l → l.length < n →
  cK b n (last, (i : Int)) = some (if OkL b.Start b.Size last l then Ex.go () else Ex.ret 8)
 | [], i, n + 1, last, h, hn => by
  rw [cK, gM (ju h)]
  simp [OkL]
 | x :: l, i, n + 1, last, h, hn => by
  obtain ⟨h1, h2, h3⟩ := jc h
  simp only [List.length_cons] at hn
  rw [cK, gO h3]
  simp only [cond_true, lZ, h1, ay, iu, c9, ee]
  have key : ((bif !(decide (0 ≤ x.n) && decide (x.n < 4096)) then some true else some (!(decide (0 ≤ x.At) && decide (x.At ≤ 1099511627776)))).bind fun x25 =>
    bif ((x25 || decide (aJ b.Start x.n ≤ last)) || decide (b.Size ≤ aJ b.Start x.n)) then some (Ex.ret 8) else cK b n (aJ b.Start x.n, IntKind.wrap .i64 ((i : Int) + 1))) =
    if OkE b.Start b.Size last x then cK b n (aJ b.Start x.n, IntKind.wrap .i64 ((i : Int) + 1)) else some (Ex.ret 8) := by
   by_cases ho : OkE b.Start b.Size last x
   ·
    rw [if_pos ho]
    obtain ⟨⟨a1, a2⟩, ⟨a3, a4⟩, a5, a6⟩ := ho
    rw [decide_eq_true a1, decide_eq_true a2, decide_eq_true a3, decide_eq_true a4, decide_eq_false (by omega), decide_eq_false (by omega)]; rfl
   ·
    rw [if_neg ho]
    by_cases h1 : 0 ≤ x.n ∧ x.n < 4096
    ·
     rw [show (!(decide (0 ≤ x.n) && decide (x.n < 4096))) = false by simp; omega, cond_false, ay]
     have : ((!(decide (0 ≤ x.At) && decide (x.At ≤ 1099511627776)) || decide (aJ b.Start x.n ≤ last)) || decide (b.Size ≤ aJ b.Start x.n)) = true := by
      simp only [Bool.or_eq_true, Bool.not_eq_true', Bool.and_eq_false_iff, decide_eq_true_eq, decide_eq_false_iff_not]
      unfold OkE at ho
      omega
     rw [this, cond_true]
    ·
     rw [show (!(decide (0 ≤ x.n) && decide (x.n < 4096))) = true by simp; omega, cond_true, ay]; rfl
  refine key.trans ?_
  by_cases ho : OkE b.Start b.Size last x
  ·
   rw [if_pos ho, fX (by omega), ky b hs l (i + 1) n _ h2 (by omega)]
   congr 1
   simp only [OkL, ho, true_and]
  ·
   rw [if_neg ho, if_neg (fun q => ho q.1)]

theorem check_e (b : Reorder) (hs : b.Held.length < 4611686018427387904) : dX b = some (if VR b then 0 else 8) := by
 unfold dX eC dZ c9
 rw [ay, ay]
 have hl := ky b hs b.Held 0 big 0 rfl (eZ hs)
 simp only [Int.natCast_zero] at hl
 by_cases h : mz b
 ·
  obtain ⟨⟨a1, a2⟩, a3, a4, a5, a6, a7, a8⟩ := h
  rw [decide_eq_true a1, decide_eq_true a2, decide_eq_false (by omega), decide_eq_false (by omega), decide_eq_false (by omega), decide_eq_false (by omega), decide_eq_true a7, decide_eq_true a8]
  simp only [Bool.and_self, Bool.not_true, Bool.or_self, cond_false, ay]
  rw [show ((0 : Int) != 0) = false from rfl, cond_false, hl, ay]
  by_cases ho : OkL b.Start b.Size 0 b.Held
  ·
   rw [if_pos ho, if_pos ⟨⟨⟨a1, a2⟩, a3, a4, a5, a6, a7, a8⟩, ho⟩]; rfl
  ·
   rw [if_neg ho, if_neg (fun q => ho q.2)]; rfl
 ·
  rw [if_neg (fun q => h q.1)]
  by_cases h1 : (((((!(decide (0 ≤ b.Start) && decide (b.Start < 4096))) || decide (b.Size < 1)) || decide (64 < b.Size)) || decide (b.Hold < 0)) || decide (16777216 < b.Hold)) = true
  ·
   rw [h1, cond_true, ay]; rfl
  ·
   rw [Bool.not_eq_true] at h1
   rw [h1, cond_false]
   simp only [Bool.or_eq_false_iff, Bool.not_eq_false', Bool.and_eq_true, decide_eq_true_eq, decide_eq_false_iff_not] at h1
   have : (decide (0 ≤ b.Seen.Start) && decide (b.Seen.Start < 4096)) = false := by
    simp only [Bool.and_eq_false_iff, decide_eq_false_iff_not]
    unfold mz at h
    omega
   rw [this]; rfl

/-! ## Copies, comparisons -/

def Fit (l : List HeldSeq) : Prop := l.length ≤ 1000 ∧ ∀ x ∈ l, x.Frame.Body.length ≤ 2400

theorem mi (L : List HeldSeq) (hs : L.length ≤ 1000) : ∀ (l acc : List HeldSeq) (i n : Nat), L.drop i = l → l.length < n → (∀ x ∈ l, x.Frame.Body.length ≤ 2400) → acc.length + l.length ≤ 1000 →
  dK L n (acc, (i : Int)) = some (acc ++ l)
 | [], acc, i, n + 1, h, hn, hb, ha => by
  rw [dK, gM (ju h)]; simp
 | x :: l, acc, i, n + 1, h, hn, hb, ha => by
  obtain ⟨h1, h2, h3⟩ := jc h
  simp only [List.length_cons] at ha hn
  have hx := hb x (by simp)
  rw [dK, gO h3]
  simp only [cond_true, lZ, h1, ay, dJ]
  rw [fI (by omega), ay, ay, fI (by omega), ay, fX (by omega), mi L hs l _ (i + 1) n h2 (by omega) (fun y hy => hb y (by simp [hy])) (by simp; omega)]
  simp
theorem od (l : List HeldSeq) (h : Fit l) : ey l = some l := by
 unfold ey
 have := mi l h.1 l [] 0 big rfl (eZ (by have := h.1; omega)) h.2 (by simpa using h.1)
 simp only [Int.natCast_zero, List.nil_append] at this
 rw [this, ay]
end Go.AX.Z.TN.R

/-! (TNB) -/

set_option linter.unusedVariables false
set_option linter.unusedSimpArgs false
namespace Go.AX.Z.TN.R
open Go.AX

def Sortd (S : Int) (l : List HeldSeq) : Prop := l.Pairwise (fun x y => aJ S x.n < aJ S y.n) ∧ ∀ x ∈ l, 0 ≤ x.n ∧ x.n < 4096
theorem DH {st sz : Int} : ∀ {l : List HeldSeq} {last : Int}, OkL st sz last l → Sortd st l ∧ ∀ x ∈ l, last < aJ st x.n ∧ aJ st x.n < sz ∧ 0 ≤ x.At ∧ x.At ≤ 1099511627776
 | [], last, _ => ⟨⟨.nil, by simp⟩, by simp⟩
 | h :: l, last, ho => by
  obtain ⟨⟨a1, a2, a3, a4⟩, h2⟩ := ho
  obtain ⟨⟨i1, i2⟩, i3⟩ := DH h2
  refine ⟨⟨List.pairwise_cons.2 ⟨fun y hy => (i3 y hy).1, i1⟩, fun x hx => ?_⟩, fun x hx => ?_⟩
  ·
   rcases List.mem_cons.1 hx with rfl | hx
   ·
    exact a1
   ·
    exact i2 x hx
  ·
   rcases List.mem_cons.1 hx with rfl | hx
   ·
    exact ⟨a3, a4, a2⟩
   ·
    have := i3 x hx; exact ⟨by omega, this.2⟩
theorem Sortd.tail {S : Int} {h : HeldSeq} {l : List HeldSeq} (hs : Sortd S (h :: l)) : Sortd S l := ⟨(List.pairwise_cons.1 hs.1).2, fun x hx => hs.2 x (by simp [hx])⟩
theorem Sortd.drop {S : Int} {l : List HeldSeq} (hs : Sortd S l) (i : Nat) : Sortd S (l.drop i) := ⟨hs.1.sublist (List.drop_sublist _ _), fun x hx => hs.2 x (List.mem_of_mem_drop hx)⟩
theorem Sortd.idx {S : Int} {l : List HeldSeq} (hs : Sortd S l) {i j : Nat} {x y : HeldSeq} (hij : i < j) (hx : l[i]? = some x) (hy : l[j]? = some y) : aJ S x.n < aJ S y.n := by
 obtain ⟨h1, e1⟩ := List.getElem?_eq_some_iff.1 hx
 obtain ⟨h2, e2⟩ := List.getElem?_eq_some_iff.1 hy
 have := List.pairwise_iff_getElem.1 hs.1 i j h1 h2 hij
 rw [e1, e2] at this; exact this

theorem Ee {S n m : Int} (hn : 0 ≤ n ∧ n < 4096) (hm : 0 ≤ m ∧ m < 4096) : n = (S + m) % 4096 ↔ aJ S n = m := by
 unfold aJ; omega

def Cut (S t : Int) (l : List HeldSeq) (i : Nat) : Prop := i ≤ l.length ∧ (∀ k x, k < i → l[k]? = some x → aJ S x.n < t) ∧ (∀ k x, i ≤ k → l[k]? = some x → t ≤ aJ S x.n)

theorem xX (b : Reorder) (L : List HeldSeq) (hL : L.length ≤ 1000) (t : Int) (ht : 0 ≤ t ∧ t < 4096) (hs : Sortd b.Start L) : ∀ (m i j n : Nat), j - i ≤ m → i ≤ j → j ≤ L.length → m < n → (∀ k x, k < i → L[k]? = some x → aJ b.Start x.n < t) → (∀ k x, j ≤ k → L[k]? = some x → t ≤ aJ b.Start x.n) →
  ∃ r : Nat, aL L t b n ((i : Int), (j : Int)) = some (r : Int) ∧ Cut b.Start t L r
 | 0, i, j, n + 1, hm, hij, hj, hn, h1, h2 => by
  have e : i = j := by omega
  subst e
  rw [aL, decide_eq_false (by simp), cond_false]
  exact ⟨i, rfl, hj, h1, h2⟩
 | m + 1, i, j, n + 1, hm, hij, hj, hn, h1, h2 => by
  rw [aL]
  by_cases hlt : i < j
  ·
   have ehe : IntKind.wrap .i64 ((IntKind.wrap .u64 (IntKind.wrap .i64 ((i : Int) + (j : Int)))).fdiv (2 ^ (min 1 64))) = (((i + j) / 2 : Nat) : Int) := by
    rw [mm (i := (i : Int) + (j : Int)) (by omega) (by omega)]
    have : IntKind.wrap .u64 ((i : Int) + (j : Int)) = (i : Int) + (j : Int) := by
     rw [sa]; omega
    rw [this, show ((2 : Int) ^ (min 1 64)) = 2 from rfl, Int.fdiv_eq_ediv_of_nonneg _ (by decide), mm (by omega) (by omega)]; omega
   have hh : (i + j) / 2 < L.length := by omega
   obtain ⟨x, hx⟩ : ∃ x, L[(i + j) / 2]? = some x := ⟨_, List.getElem?_eq_getElem hh⟩
   have hd := ku b.Start x.Frame.Head.Seq
   rw [decide_eq_true (by simp; omega), cond_true]
   simp only [ehe]
   rw [lZ, hx, ay]
   unfold eN
   rw [iu, ay, ay, mm (by omega) (by omega)]
   by_cases hxt : aJ b.Start x.n < t
   ·
    rw [decide_eq_true (by show aJ b.Start x.Frame.Head.Seq - t < 0; have : aJ b.Start x.Frame.Head.Seq < t := hxt; omega), cond_true, fX (by omega)]
    refine xX b L hL t ht hs m ((i + j) / 2 + 1) j n (by omega) (by omega) hj (by omega) (fun k y hk hy => ?_) h2
    rcases Nat.lt_or_ge k ((i + j) / 2) with q | q
    ·
     have := hs.idx q hy hx; omega
    ·
     have : k = (i + j) / 2 := by omega
     subst this; rw [hx] at hy; cases hy; exact hxt
   ·
    rw [decide_eq_false (by show ¬ aJ b.Start x.Frame.Head.Seq - t < 0; have : ¬ aJ b.Start x.Frame.Head.Seq < t := hxt; omega), cond_false]
    refine xX b L hL t ht hs m i ((i + j) / 2) n (by omega) (by omega) (by omega) (by omega) h1 (fun k y hk hy => ?_)
    rcases Nat.lt_or_ge ((i + j) / 2) k with q | q
    ·
     have := hs.idx q hx hy; omega
    ·
     have : k = (i + j) / 2 := by omega
     subst this; rw [hx] at hy; cases hy; omega
  ·
   have e : i = j := by omega
   subst e
   rw [decide_eq_false (by simp), cond_false]
   exact ⟨i, rfl, hj, h1, h2⟩

theorem yN (b : Reorder) (hL : b.Held.length ≤ 1000) (hs : Sortd b.Start b.Held) (n : Int) : ∃ r : Nat, fM b n = some ((r : Int), decide (∃ x ∈ b.Held, aJ b.Start x.n = aJ b.Start n)) ∧ Cut b.Start (aJ b.Start n) b.Held r := by
 unfold fM bF
 obtain ⟨r, e1, e2⟩ := xX b b.Held hL (aJ b.Start n) (ku _ _) hs b.Held.length 0 b.Held.length big (by omega) (by omega) (Nat.le_refl _) (eZ (by omega)) (fun k x hk => by omega) (fun k x hk hx => by have := (List.getElem?_eq_some_iff.1 hx).1; omega)
 simp only [Int.natCast_zero] at e1
 rw [iu, ay, e1, ay]
 refine ⟨r, ?_, e2⟩
 obtain ⟨c1, c2, c3⟩ := e2
 by_cases hr : r < b.Held.length
 ·
  obtain ⟨x, hx⟩ : ∃ x, b.Held[r]? = some x := ⟨_, List.getElem?_eq_getElem hr⟩
  have hd := ku b.Start x.Frame.Head.Seq
  have hd2 := ku b.Start n
  rw [gO hr, cond_true, lZ, hx, ay]
  unfold eN
  rw [iu, ay, ay, mm (by omega) (by omega), ay]
  show some (_, _) = _
  congr 2
  rw [Bool.eq_iff_iff, decide_eq_true_eq, beq_iff_eq]
  constructor
  ·
   intro h
   exact ⟨x, List.mem_of_getElem? hx, by show aJ b.Start x.Frame.Head.Seq = _; omega⟩
  ·
   rintro ⟨y, hy, h⟩
   obtain ⟨k, hk⟩ := List.mem_iff_getElem?.1 hy
   have hxr := c3 r x (Nat.le_refl _) hx
   rcases Nat.lt_trichotomy k r with q | q | q
   ·
    have := c2 k y q hk; omega
   ·
    subst q; rw [hx] at hk; cases hk
    show aJ b.Start x.Frame.Head.Seq - _ = 0
    have : aJ b.Start x.Frame.Head.Seq = aJ b.Start n := h
    omega
   ·
    have := hs.idx q hx hk; omega
 ·
  rw [gM (by omega), cond_false, ay]
  show some (_, _) = _
  congr 2
  symm
  rw [decide_eq_false_iff_not]
  rintro ⟨y, hy, h⟩
  obtain ⟨k, hk⟩ := List.mem_iff_getElem?.1 hy
  have hkl := (List.getElem?_eq_some_iff.1 hk).1
  have := c2 k y (by omega) hk
  omega

def relF (S : Int) : Int → List HeldSeq → Int × List Frame × List HeldSeq
 | m, [] => (m, [], [])
 | m, h :: r => if aJ S h.n = m then ((relF S (m + 1) r).1, h.Frame :: (relF S (m + 1) r).2.1, (relF S (m + 1) r).2.2) else (m, [], h :: r)

theorem zx (S : Int) : ∀ (l : List HeldSeq) (m : Int), (relF S m l).2.1.length + (relF S m l).2.2.length = l.length ∧ (relF S m l).1 = m + (relF S m l).2.1.length
 | [], m => by simp [relF]
 | h :: r, m => by
  unfold relF
  have := zx S r (m + 1)
  split
  ·
   simp only [List.length_cons]; omega
  ·
   simp
theorem Jt (S : Int) : ∀ (l : List HeldSeq) (m : Int) (n : Nat) (b : Reorder) (out : List Frame), Sortd S l → 0 ≤ m → (∀ x ∈ l, m ≤ aJ S x.n) → b.Start = (S + m) % 4096 → l.length < n → out.length + l.length ≤ 1000 →
  dH n (b, l, out) = some ({ b with Start := (S + (relF S m l).1) % 4096 }, (relF S m l).2.2, out ++ (relF S m l).2.1)
 | [], m, n + 1, b, out, hs, h0, hm, hb, hn, ho => by
  rw [dH]
  simp only [List.length_nil, Int.natCast_zero, relF, List.append_nil]
  rw [decide_eq_false (by omega), cond_false, ay, cond_false, ← hb]
 | h :: r, m, n + 1, b, out, hs, h0, hm, hb, hn, ho => by
  have hd := ku S h.n
  have hh := hm h (by simp)
  have hr := hs.2 h (by simp)
  rw [dH]
  simp only [List.length_cons] at hn ho ⊢
  rw [decide_eq_true (by omega), cond_true, Kh, List.getElem?_cons_zero, ay, ay]
  have hiff : (h.Frame.Head.Seq == b.Start) = decide (aJ S h.n = m) := by
   rw [Bool.eq_iff_iff, beq_iff_eq, decide_eq_true_eq, hb]
   exact Ee hr ⟨h0, by omega⟩
  rw [hiff]
  unfold relF
  by_cases he : aJ S h.n = m
  ·
   rw [decide_eq_true he, cond_true, if_pos he, ay, fI (by omega), ay, zy, ay, fI (by omega), ay, List.drop_succ_cons, List.drop_zero]
   have hp := (List.pairwise_cons.1 hs.1).1
   rw [Jt S r (m + 1) n _ _ hs.tail (by omega) (fun y hy => by have := hp y hy; omega) (by simp only [hb]; omega) (by omega) (by simp; omega)]
   simp
  ·
   rw [decide_eq_false he, cond_false, if_neg he, ← hb]; simp

theorem Ke (b : Reorder) (i : Nat) (hi : i ≤ b.Held.length) (hL : b.Held.length ≤ 1000) : ∀ (d k n : Nat) (out : List Frame), k + d = i → d < n → out.length ≤ k → dF b n (out, i, (i : Int), (k : Int)) = some (out ++ ((b.Held.take i).drop k).map (·.Frame))
 | 0, k, n + 1, out, hk, hn, ho => by
  rw [dF, decide_eq_false (by simp only; omega), cond_false, List.drop_of_length_le (by rw [List.length_take]; omega)]
  simp
 | d + 1, k, n + 1, out, hk, hn, ho => by
  obtain ⟨x, hx⟩ : ∃ x, b.Held[k]? = some x := ⟨_, List.getElem?_eq_getElem (by omega)⟩
  rw [dF, decide_eq_true (by simp only; omega), cond_true, uN (by simp only [decide_eq_true_eq] <;> omega), ay]
  simp only
  rw [lZ, hx, ay, fI (by omega), ay, fX (by omega), Ke b i hi hL d (k + 1) n _ (by omega) (by omega) (by simp; omega)]
  have : (b.Held.take i).drop k = x :: (b.Held.take i).drop (k + 1) := by
   have hlt : k < (b.Held.take i).length := by rw [List.length_take]; omega
   rw [List.drop_eq_getElem_cons hlt]
   congr 1
   have := (List.getElem?_eq_some_iff.1 hx).2
   rw [List.getElem_take, this]
  rw [this]; simp

def mv (S t : Int) (l : List HeldSeq) (i : Nat) : Int × List Frame × List HeldSeq := ((relF S t (l.drop i)).1, (l.take i).map (·.Frame) ++ (relF S t (l.drop i)).2.1, (relF S t (l.drop i)).2.2)

theorem ur {S t : Int} {l : List HeldSeq} {i : Nat} (h : Cut S t l i) : ∀ x ∈ l.drop i, t ≤ aJ S x.n := by
 intro x hx
 obtain ⟨k, hk⟩ := List.mem_iff_getElem?.1 hx
 rw [List.getElem?_drop] at hk
 exact h.2.2 (i + k) x (by omega) hk
theorem DU {S t : Int} {l : List HeldSeq} {i : Nat} (h : Cut S t l i) : ∀ x ∈ l.take i, aJ S x.n < t := by
 intro x hx
 obtain ⟨k, hk⟩ := List.mem_iff_getElem?.1 hx
 rw [List.getElem?_take] at hk
 split at hk
 ·
  rename_i hki; exact h.2.1 k x hki hk
 ·
  cases hk

theorem yU (b : Reorder) (hL : b.Held.length ≤ 1000) (hs : Sortd b.Start b.Held) (to : Int) (ht : 0 ≤ to ∧ to < 4096) : ∃ i : Nat, Cut b.Start (aJ b.Start to) b.Held i ∧
  eB b to = some ((mv b.Start (aJ b.Start to) b.Held i).2.1, { b with Start := (b.Start + (mv b.Start (aJ b.Start to) b.Held i).1) % 4096 }, (mv b.Start (aJ b.Start to) b.Held i).2.2) := by
 obtain ⟨i, e1, e2⟩ := yN b hL hs to
 refine ⟨i, e2, ?_⟩
 have hi := e2.1
 have hd := ku b.Start to
 unfold eB
 have h2 := Ke b i hi hL i 0 big [] (by omega) (eZ (by omega)) (by simp)
 simp only [Int.natCast_zero, List.nil_append, List.drop_zero] at h2
 simp only [e1, ay, Int.toNat_natCast]
 rw [uN (by simp; omega), ay, h2, ay, ay]
 have h5 := Jt b.Start (b.Held.drop i) (aJ b.Start to) big { b with Start := to } ((b.Held.take i).map (·.Frame)) (hs.drop i) hd.1 (ur e2) (by simp only; unfold aJ; omega) (eZ (by simp; omega)) (by simp; omega)
 rw [h5, ay]; rfl


end Go.AX.Z.TN.R

/-! (TNC) -/

set_option linter.unusedVariables false
set_option linter.unusedSimpArgs false
namespace Go.AX.Z.TN.R
open Go.AX

theorem ri (n : Int) : c9 n = some (decide (0 ≤ n ∧ n < 4096)) := by
 unfold c9; congr 1
 rw [Bool.eq_iff_iff]; simp
theorem zW (n : Int) : ee n = some (decide (0 ≤ n ∧ n ≤ 1099511627776)) := by
 unfold ee; congr 1
 rw [Bool.eq_iff_iff]; simp
theorem VR.sortd {b : Reorder} (h : VR b) : Sortd b.Start b.Held := (DH h.2).1
theorem VR.held {b : Reorder} (h : VR b) : ∀ x ∈ b.Held, 0 < aJ b.Start x.n ∧ aJ b.Start x.n < b.Size ∧ 0 ≤ x.At ∧ x.At ≤ 1099511627776 := (DH h.2).2

def due (hold now : Int) (x : HeldSeq) : Bool := decide (x.At + hold ≤ now)
/-- The last one that is due. -/
def ld (hold now : Int) (l : List HeldSeq) : Option HeldSeq := (l.filter (due hold now)).getLast?
theorem Mg {hold now : Int} {l : List HeldSeq} {x : HeldSeq} (h : ld hold now l = some x) : x ∈ l ∧ due hold now x = true := by
 have := List.mem_of_getLast? h
 exact List.mem_filter.1 this
theorem Ew (hold now : Int) (l : List HeldSeq) (x : HeldSeq) : ld hold now (l ++ [x]) = if due hold now x = true then some x else ld hold now l := by
 unfold ld
 rw [List.filter_append, List.filter_cons, List.filter_nil]
 split
 ·
  simp
 ·
  simp
theorem Ko (hold now : Int) (x : HeldSeq) (l : List HeldSeq) : ld hold now (x :: l) = match ld hold now l with | some y => some y | none => if due hold now x = true then some x else none := by
 unfold ld
 rw [List.filter_cons]
 split
 ·
  rename_i h
  cases hl : (l.filter (due hold now)).getLast? with
  | none =>
   have : l.filter (due hold now) = [] := List.getLast?_eq_none_iff.1 hl
   rw [this]; rfl
  | some y =>
   rw [List.getLast?_cons, hl]; rfl
 ·
  cases hl : (l.filter (due hold now)).getLast? with
  | none => rfl
  | some y => rfl

theorem CE (b : Reorder) (now : Int) (hv : VR b) : ∀ c, c ≤ b.Held.length → cN b now b.Held c = match ld b.Hold now (b.Held.take c) with
  | some x => ((eH x.Frame.Head.Seq 1).bind fun y => ((eB { b with Held := b.Held } y).bind fun z => some (Ex.ret (z.1, { z.2.1 with Held := z.2.2 }, 0))))
  | none => some (Ex.go ())
 | 0, _ => by rw [cN, List.take_zero]; rfl
 | c + 1, hc => by
  have hlt : c < b.Held.length := by omega
  obtain ⟨x, hx⟩ : ∃ x, b.Held[c]? = some x := ⟨_, List.getElem?_eq_getElem hlt⟩
  have e : b.Held.take (c + 1) = b.Held.take c ++ [x] := by
   rw [List.take_add_one, hx]; rfl
  have hb := hv.held x (List.mem_of_getElem? hx)
  have hh := hv.1
  rw [cN, hx, ay, e, Ew, mm (i := x.At + b.Hold) (by unfold mz at hh; omega) (by unfold mz at hh; omega)]
  unfold due
  by_cases hd : x.At + b.Hold ≤ now
  ·
   rw [decide_eq_true hd, cond_true, if_pos rfl]
  ·
   rw [decide_eq_false hd, cond_false, if_neg (by decide), CE b now hv c (by omega)]

theorem report_e (b : Reorder) (hL : b.Held.length ≤ 1000) : fk b = some (if VR b then (b.Seen, 0) else (Window.z, 8)) := by
 unfold fk
 rw [check_e b (by omega), ay]
 by_cases hv : VR b
 ·
  rw [if_pos hv, if_pos hv]; rfl
 ·
  rw [if_neg hv, if_neg hv]; rfl

def okN (n : Int) : Prop := 0 ≤ n ∧ n < 4096
instance (n : Int) : Decidable (okN n) := by unfold okN; infer_instance
theorem xv (n : Int) : dZ n = some (decide (0 ≤ n ∧ n < 4096)) := by
 unfold dZ; congr 1
 rw [Bool.eq_iff_iff]; simp
theorem oy {w : Window} {n : Int} (hw : okN w.Start) (hn : okN n) : eT w n = some 0 := by
 unfold eT eC
 rw [xv, ay, decide_eq_true (show 0 ≤ w.Start ∧ w.Start < 4096 from hw), Bool.not_true, cond_false, ay, xv, bne_self_eq_false, cond_false, ay, decide_eq_true (show 0 ≤ n ∧ n < 4096 from hn)]; rfl
/-- Marked. -/
def mrk (B d : Int) : Int := bor .u64 B (IntKind.wrap .u64 (1 * 2 ^ (min (d).toNat 64)))
theorem CJ {w : Window} {n : Int} (hw : okN w.Start) (hn : okN n) (hd : aJ w.Start n < 64) : jL w n = some ({ w with Bits := mrk w.Bits (aJ w.Start n) }, 0) := by
 unfold jL
 have := ku w.Start n
 rw [oy hw hn, ay, bne_self_eq_false, cond_false, iu, ay, decide_eq_false (by omega), cond_false, fI (by omega), ay]; rfl
theorem uH {S : Int} : ∀ {l : List HeldSeq} {lo hi : Int}, Sortd S l → (∀ x ∈ l, lo < aJ S x.n ∧ aJ S x.n < hi) → lo < hi → (l.length : Int) < hi - lo
 | [], lo, hi, _, _, h => by simp; omega
 | x :: l, lo, hi, hs, hb, h => by
  have hp := (List.pairwise_cons.1 hs.1).1
  have hx := hb x (by simp)
  have := uH (lo := aJ S x.n) (hi := hi) hs.tail (fun y hy => ⟨hp y hy, (hb y (by simp [hy])).2⟩) hx.2
  simp only [List.length_cons]; omega
theorem zt {b : Reorder} (hv : VR b) : b.Held.length ≤ 70 := by
 have ho := hv.1
 unfold mz at ho
 have := uH (lo := 0) (hi := b.Size) hv.sortd (fun x hx => by have := hv.held x hx; omega) (by omega)
 omega


theorem Jo (l : List HeldSeq) (i : Nat) (hi : i ≤ l.length) (hL : l.length ≤ 1000) (x : HeldSeq) : bQ (i : Int) l [x] = some (l.take i ++ [x] ++ l.drop i) := by
 unfold bQ
 rw [uN (by simp; omega), ay, show (((([x] : List HeldSeq).length : Nat) : Int) == 0) = false from rfl, cond_false]
 by_cases h : i = l.length
 ·
  subst h
  rw [beq_self_eq_true, cond_true, fI (by simp; omega), ay, List.take_length, List.drop_length, List.append_nil]
 ·
  rw [show (((i : Int)) == ((l.length : Nat) : Int)) = false by rw [beq_eq_false_iff_ne]; omega, cond_false, uN (by simp; omega), ay, Int.toNat_natCast]

theorem Aw {S d : Int} {l : List HeldSeq} {i : Nat} (hs : Sortd S l) (hc : Cut S d l i) {x : HeldSeq} (hx : aJ S x.n = d) (hn : okN x.n) (hf : ¬ ∃ y ∈ l, aJ S y.n = d) : Sortd S (l.take i ++ [x] ++ l.drop i) := by
 refine ⟨?_, fun y hy => ?_⟩
 ·
  rw [List.append_assoc, List.pairwise_append]
  refine ⟨hs.1.sublist (List.take_sublist _ _), ?_, fun y hy z hz => ?_⟩
  ·
   rw [List.singleton_append, List.pairwise_cons]
   refine ⟨fun y hy => ?_, hs.1.sublist (List.drop_sublist _ _)⟩
   have h1 := ur hc y hy
   have h2 : aJ S y.n ≠ d := fun e => hf ⟨y, List.mem_of_mem_drop hy, e⟩
   omega
  ·
   have h1 := DU hc y hy
   rcases List.mem_cons.1 hz with rfl | hz
   ·
    omega
   ·
    have := ur hc z hz; omega
 ·
  simp only [List.mem_append, List.mem_singleton] at hy
  rcases hy with (hy | rfl) | hy
  ·
   exact hs.2 y (List.mem_of_mem_take hy)
  ·
   exact hn
  ·
   exact hs.2 y (List.mem_of_mem_drop hy)


/-! ## Moving, as a function -/

theorem mM {S t : Int} : ∀ {l : List HeldSeq} {i : Nat}, Cut S t l i → l.take i = l.filter (fun x => decide (aJ S x.n < t)) ∧ l.drop i = l.filter (fun x => !decide (aJ S x.n < t))
 | [], i, h => by simp
 | x :: l, 0, h => by
  have h1 : ∀ y ∈ x :: l, ¬ aJ S y.n < t := fun y hy => by
   obtain ⟨k, hk⟩ := List.mem_iff_getElem?.1 hy
   have := h.2.2 k y (Nat.zero_le _) hk
   omega
  refine ⟨?_, ?_⟩
  ·
   rw [List.take_zero]; exact (List.filter_eq_nil_iff.2 fun y hy => by simpa using h1 y hy).symm
  ·
   rw [List.drop_zero]; exact (List.filter_eq_self.2 fun y hy => by simpa using h1 y hy).symm
 | x :: l, i + 1, h => by
  have hx : aJ S x.n < t := h.2.1 0 x (by omega) rfl
  have h' : Cut S t l i := ⟨by have := h.1; simp at this; omega, fun k y hk hy => h.2.1 (k + 1) y (by omega) (by simpa using hy), fun k y hk hy => h.2.2 (k + 1) y (by omega) (by simpa using hy)⟩
  obtain ⟨e1, e2⟩ := mM h'
  simp [hx, e1, e2]

def pre (b : Reorder) (t : Int) : List HeldSeq := b.Held.filter fun x => decide (aJ b.Start x.n < t)
def post (b : Reorder) (t : Int) : List HeldSeq := b.Held.filter fun x => !decide (aJ b.Start x.n < t)
/-- What moving gives. -/
def mvF (b : Reorder) (t : Int) : List Frame × Reorder :=
 ((pre b t).map (·.Frame) ++ (relF b.Start t (post b t)).2.1, { b with Start := (b.Start + (relF b.Start t (post b t)).1) % 4096, Held := (relF b.Start t (post b t)).2.2 })
theorem DB (b : Reorder) (hL : b.Held.length ≤ 1000) (hs : Sortd b.Start b.Held) (to : Int) (ht : 0 ≤ to ∧ to < 4096) :
  ∃ z, eB b to = some z ∧ z.1 = (mvF b (aJ b.Start to)).1 ∧ { z.2.1 with Held := z.2.2 } = (mvF b (aJ b.Start to)).2 := by
 obtain ⟨i, hc, e⟩ := yU b hL hs to ht
 obtain ⟨e1, e2⟩ := mM hc
 refine ⟨_, e, ?_, ?_⟩
 ·
  simp only [mvF, mv, pre, post, e1, e2]
 ·
  simp only [mvF, mv, pre, post, e1, e2]
theorem Cl (S : Int) (l : List HeldSeq) (m : Int) : (relF S m l).2.1.length ≤ l.length ∧ (relF S m l).2.2.length ≤ l.length := by
 have := zx S l m
 omega
theorem FJ (b : Reorder) (t : Int) : (mvF b t).1.length ≤ b.Held.length + b.Held.length ∧ (mvF b t).2.Held.length ≤ b.Held.length := by
 have h1 : (pre b t).length ≤ b.Held.length := List.length_filter_le _ _
 have h2 : (post b t).length ≤ b.Held.length := List.length_filter_le _ _
 have h3 := Cl b.Start (post b t) t
 simp only [mvF, List.length_append, List.length_map]
 omega
theorem zN (S : Int) : ∀ (l : List HeldSeq) (m : Int), (∀ f ∈ (relF S m l).2.1, ∃ x ∈ l, f = x.Frame) ∧ ∀ x ∈ (relF S m l).2.2, x ∈ l
 | [], m => by simp [relF]
 | h :: r, m => by
  unfold relF
  obtain ⟨a, b⟩ := zN S r (m + 1)
  split
  ·
   refine ⟨fun f hf => ?_, fun x hx => List.mem_cons_of_mem _ (b x hx)⟩
   rcases List.mem_cons.1 hf with rfl | hf
   ·
    exact ⟨h, by simp, rfl⟩
   ·
    obtain ⟨x, hx, e⟩ := a f hf; exact ⟨x, List.mem_cons_of_mem _ hx, e⟩
  ·
   simp
theorem mvF_mem (b : Reorder) (t : Int) : (∀ f ∈ (mvF b t).1, ∃ x ∈ b.Held, f = x.Frame) ∧ ∀ x ∈ (mvF b t).2.Held, x ∈ b.Held := by
 have hp : ∀ x ∈ post b t, x ∈ b.Held := fun x hx => (List.mem_filter.1 hx).1
 obtain ⟨a, c⟩ := zN b.Start (post b t) t
 refine ⟨fun f hf => ?_, fun x hx => hp x (c x hx)⟩
 simp only [mvF, List.mem_append, List.mem_map] at hf
 rcases hf with ⟨x, hx, rfl⟩ | hf
 ·
  exact ⟨x, (List.mem_filter.1 hx).1, rfl⟩
 ·
  obtain ⟨x, hx, e⟩ := a f hf; exact ⟨x, hp x hx, e⟩

/-! ## Bar, Expire -/

abbrev Res := List Frame × Reorder × Int
def barF (b : Reorder) (n : Int) : Res :=
 if VR b then (if okN n then (if 2048 ≤ aJ b.Start n then ([], b, 0) else ((mvF b (aJ b.Start n)).1, (mvF b (aJ b.Start n)).2, 0)) else ([], Reorder.z, 2)) else ([], Reorder.z, 8)
theorem bar_e (b : Reorder) (hf : Fit b.Held) (n : Int) : iB b n = some (barF b n) := by
 unfold iB barF
 have hL := hf.1
 rw [check_e b (by omega), ay]
 by_cases hv : VR b
 ·
  rw [if_pos hv, if_pos hv, bne_self_eq_false, cond_false, ri, ay]
  by_cases hn : okN n
  ·
   rw [if_pos hn, decide_eq_true (show 0 ≤ n ∧ n < 4096 from hn), Bool.not_true, cond_false, od _ hf, ay, iu, ay]
   by_cases hd : 2048 ≤ aJ b.Start n
   ·
    rw [decide_eq_true hd, cond_true, if_pos hd]
   ·
    obtain ⟨z, z1, z2, z3⟩ := DB b hL hv.sortd n hn
    rw [decide_eq_false hd, cond_false, if_neg hd, show ({ b with Held := b.Held } : Reorder) = b from rfl, z1, ay, z2, ← z3]
  ·
   rw [if_neg hn, decide_eq_false (show ¬ (0 ≤ n ∧ n < 4096) from hn)]; rfl
 ·
  rw [if_neg hv, if_neg hv]; rfl

def expF (b : Reorder) (now : Int) : Res :=
 if VR b then (if 0 ≤ now ∧ now ≤ 1099511627776 then (match ld b.Hold now b.Held with | some x => ((mvF b (aJ b.Start ((x.n + 1) % 4096))).1, (mvF b (aJ b.Start ((x.n + 1) % 4096))).2, 0) | none => ([], b, 0)) else ([], Reorder.z, 2)) else ([], Reorder.z, 8)
theorem expire_e (b : Reorder) (hf : Fit b.Held) (now : Int) : dB b now = some (expF b now) := by
 unfold dB expF
 have hL := hf.1
 rw [check_e b (by omega), ay]
 by_cases hv : VR b
 ·
  rw [if_pos hv, if_pos hv, bne_self_eq_false, cond_false, zW, ay]
  by_cases hn : 0 ≤ now ∧ now ≤ 1099511627776
  ·
   rw [if_pos hn, decide_eq_true hn, Bool.not_true, cond_false, od _ hf, ay, fI (by omega), ay, CE b now hv _ (Nat.le_refl _), List.take_length]
   cases hld : ld b.Hold now b.Held with
   | none => rfl
   | some x =>
    obtain ⟨z, z1, z2, z3⟩ := DB b hL hv.sortd ((x.n + 1) % 4096) (by omega)
    simp only
    rw [zy, ay, show ({ b with Held := b.Held } : Reorder) = b from rfl, show (x.Frame.Head.Seq + 1) % 4096 = (x.n + 1) % 4096 from rfl, z1, ay, ay, Ex.k_ret', z2, ← z3]
  ·
   rw [if_neg hn, decide_eq_false hn]; rfl
 ·
  rw [if_neg hv, if_neg hv]; rfl

/-! ## Put -/

def noteF (w : Window) (n : Int) : Window :=
 if 2048 ≤ aJ w.Start n then w else
 if 64 ≤ aJ w.Start n then { Bits := mrk (w.Bits.fdiv (2 ^ (min (aJ w.Start n - 63).toNat 64))) 63, Start := (n + (-63)) % 4096 }
 else { w with Bits := mrk w.Bits (aJ w.Start n) }
theorem GH {w : Window} {n : Int} (hw : okN w.Start) (hn : okN n) : iP w n = some (noteF w n) := by
 unfold iP noteF
 have hd := ku w.Start n
 rw [iu, ay]
 by_cases h : 2048 ≤ aJ w.Start n
 ·
  rw [decide_eq_true h, cond_true, if_pos h]
 ·
  rw [decide_eq_false h, cond_false, if_neg h]
  by_cases h2 : 64 ≤ aJ w.Start n
  ·
   have hx : okN ((n + (-63)) % 4096) := by unfold okN; omega
   have e1 : aJ w.Start ((n + (-63)) % 4096) = aJ w.Start n - 63 := by unfold aJ at h h2 ⊢; omega
   have e2 : aJ ((n + (-63)) % 4096) n = 63 := by unfold okN at hn; unfold aJ; omega
   have hm : jM w ((n + (-63)) % 4096) = some ({ Window.z with Bits := (w.Bits).fdiv (2 ^ (min (aJ w.Start n - 63).toNat 64)), Start := (n + (-63)) % 4096 }, 0) := by
    unfold jM
    rw [oy hw hx, ay, bne_self_eq_false, cond_false, iu, e1, ay, decide_eq_true (by omega), cond_true, fI (by omega), ay]
   rw [decide_eq_true h2, cond_true, if_pos h2, zy, ay, hm, ay, ay, CJ (w := { Window.z with Bits := (w.Bits).fdiv (2 ^ (min (aJ w.Start n - 63).toNat 64)), Start := (n + (-63)) % 4096 }) hx hn (by simp only [e2]; omega), ay]
   simp only [e2]
  ·
   rw [decide_eq_false h2, cond_false, if_neg h2, ay, CJ hw hn (by omega), ay]

def insF (b : Reorder) (x : HeldSeq) : List HeldSeq := pre b (aJ b.Start x.n) ++ [x] ++ post b (aJ b.Start x.n)
def toF (b : Reorder) (n : Int) : Int := if b.Size ≤ aJ b.Start n then (n + (1 - b.Size)) % 4096 else b.Start
def putB (b : Reorder) (x : HeldSeq) : Reorder := { b with Held := insF b x, Seen := noteF b.Seen x.n }
def putF (b : Reorder) (f : Frame) (now : Int) : Res :=
 if VR b then (if (0 ≤ now ∧ now ≤ 1099511627776) ∧ okN f.Head.Seq then
  (if 2048 ≤ aJ b.Start f.Head.Seq ∨ ∃ x ∈ b.Held, aJ b.Start x.n = aJ b.Start f.Head.Seq then ([], Reorder.z, 21) else
   ((mvF (putB b ⟨now, f⟩) (aJ b.Start (toF b f.Head.Seq))).1, (mvF (putB b ⟨now, f⟩) (aJ b.Start (toF b f.Head.Seq))).2, 0))
  else ([], Reorder.z, 2)) else ([], Reorder.z, 8)
theorem zZ {b : Reorder} {x : HeldSeq} (hs : Sortd b.Start b.Held) (hL : b.Held.length ≤ 1000) (hn : okN x.n) (hf : ¬ ∃ y ∈ b.Held, aJ b.Start y.n = aJ b.Start x.n) : Sortd b.Start (insF b x) := by
 obtain ⟨i, e, hc⟩ := yN b hL hs x.n
 obtain ⟨e1, e2⟩ := mM hc
 have := Aw hs hc rfl hn hf
 unfold insF pre post
 rw [← e1, ← e2]; exact this
theorem zm (b : Reorder) (x : HeldSeq) : (insF b x).length ≤ b.Held.length + b.Held.length + 1 := by
 have h1 : (pre b (aJ b.Start x.n)).length ≤ b.Held.length := List.length_filter_le _ _
 have h2 : (post b (aJ b.Start x.n)).length ≤ b.Held.length := List.length_filter_le _ _
 simp only [insF, List.length_append, List.length_cons, List.length_nil]; omega
theorem put_e (b : Reorder) (hf : Fit b.Held) (f : Frame) (hfb : f.Body.length ≤ 2400) (now : Int) : iz b f now = some (putF b f now) := by
 unfold iz putF
 have hL := hf.1
 rw [check_e b (by omega), ay]
 by_cases hv : VR b
 ·
  have h70 := zt hv
  have ho := hv.1
  unfold mz at ho
  rw [if_pos hv, if_pos hv, bne_self_eq_false, cond_false, zW, ay]
  by_cases hn : 0 ≤ now ∧ now ≤ 1099511627776
  ·
   rw [decide_eq_true hn, Bool.not_true, cond_false, ri, ay, ay]
   by_cases hq : okN f.Head.Seq
   ·
    obtain ⟨i, pe, hc⟩ := yN b hL hv.sortd f.Head.Seq
    obtain ⟨c1, c2⟩ := mM hc
    rw [decide_eq_true (show 0 ≤ f.Head.Seq ∧ f.Head.Seq < 4096 from hq), Bool.not_true, cond_false, if_pos ⟨hn, hq⟩, iu, ay, pe, ay]
    by_cases hd : 2048 ≤ aJ b.Start f.Head.Seq ∨ ∃ x ∈ b.Held, aJ b.Start x.n = aJ b.Start f.Head.Seq
    ·
     have : ((decide (2048 ≤ aJ b.Start f.Head.Seq)) || (decide (∃ x ∈ b.Held, aJ b.Start x.n = aJ b.Start f.Head.Seq))) = true := by simpa using hd
     simp only [this, cond_true, if_pos hd]
    ·
     have : ((decide (2048 ≤ aJ b.Start f.Head.Seq)) || (decide (∃ x ∈ b.Held, aJ b.Start x.n = aJ b.Start f.Head.Seq))) = false := by
      rw [Bool.eq_false_iff]; simpa using hd
     simp only [this, cond_false, if_neg hd]
     have hi := hc.1
     have hw : okN b.Seen.Start := ho.2.2.2.2.2
     rw [GH hw hq, ay, od _ hf, ay]
     unfold dJ
     rw [fI (by omega), ay, ay, Jo _ _ hi hL, ay]
     have hil : b.Held.take i ++ [({ HeldSeq.z with At := now, Frame := f } : HeldSeq)] ++ b.Held.drop i = insF b ⟨now, f⟩ := by
      unfold insF pre post; rw [c1, c2]
     have hto : (bif decide (b.Size ≤ aJ b.Start f.Head.Seq) then ((eH f.Head.Seq (IntKind.wrap .i64 (1 - b.Size))).bind fun x78 => some x78) else some b.Start) = some (toF b f.Head.Seq) := by
      unfold toF
      by_cases hz : b.Size ≤ aJ b.Start f.Head.Seq
      ·
       rw [decide_eq_true hz, cond_true, if_pos hz, mm (by omega) (by omega), zy, ay]
      ·
       rw [decide_eq_false hz, cond_false, if_neg hz]
     have hti : 0 ≤ toF b f.Head.Seq ∧ toF b f.Head.Seq < 4096 := by unfold toF; split <;> omega
     have hnf : ¬ ∃ y ∈ b.Held, aJ b.Start y.n = aJ b.Start (⟨now, f⟩ : HeldSeq).n := fun h => hd (.inr h)
     have hsr := zZ (x := ⟨now, f⟩) hv.sortd hL hq hnf
     have hil2 := zm b ⟨now, f⟩
     rw [hto, ay, hil]
     obtain ⟨z, z1, z2, z3⟩ := DB (putB b ⟨now, f⟩) (by simp only [putB]; omega) hsr (toF b f.Head.Seq) hti
     rw [show ({ b with Held := insF b ⟨now, f⟩, Seen := noteF b.Seen f.Head.Seq } : Reorder) = putB b ⟨now, f⟩ from rfl, z1, ay, z2]
     show some (_, ({ z.2.1 with Held := z.2.2 } : Reorder), (0 : Int)) = _
     rw [z3]; rfl
   ·
    rw [decide_eq_false (show ¬ (0 ≤ f.Head.Seq ∧ f.Head.Seq < 4096) from hq), if_neg (fun h => hq h.2)]; rfl
  ·
   rw [decide_eq_false hn, if_neg (fun h => hn h.1)]; rfl
 ·
  rw [if_neg hv, if_neg hv]; rfl
end Go.AX.Z.TN.R

/-! (TNE) -/

set_option linter.unusedVariables false
set_option linter.unusedSimpArgs false
namespace Go.AX.Z.TN
open Go.AX

namespace S
abbrev RI := List Int × Sender × Int
def expR (s : Sender) (t : Int) : RI := if Valid s then (if 0 ≤ t ∧ t ≤ 1099511627776 then (if s.Phase = 2 then (expN s t, expS s t, 0) else ([], Sender.z, 20)) else ([], Sender.z, 2)) else ([], Sender.z, 8)
def closeR (s : Sender) : RI := if Valid s then (seqs s.Out, y0 s, 0) else ([], Sender.z, 8)
def offR (s : Sender) (n : Int) : Frame × Sender × Int := if Valid s then (if 0 ≤ n ∧ n ≤ 1099511627776 then (if s.Phase = 2 then (if s.Out ≠ [] ∧ n < lastAt s then (Frame.z, Sender.z, 20) else if s.Size ≤ aJ (startOf s) s.Next then (Frame.z, Sender.z, 22) else (offF s Frame.z, offS s Frame.z n, 0)) else (Frame.z, Sender.z, 20)) else (Frame.z, Sender.z, 2)) else (Frame.z, Sender.z, 8)
def pickS (s : Sender) (k : Int) : Sender := { s with Out := (pickR s.Limit k 0 s.Out).1 }
def pikR (s : Sender) (k : Int) : List Frame × Sender × Int := if Valid s then (if 0 ≤ k then (if s.Phase = 2 then ((pickR s.Limit k 0 s.Out).2, pickS s k, 0) else ([], Sender.z, 20)) else ([], Sender.z, 2)) else ([], Sender.z, 8)
def lostS (s : Sender) : Sender := { s with Out := s.Out.map unfly }
def lostR (s : Sender) : Sender × Int := if Valid s then (if s.Phase = 2 then (lostS s, 0) else (Sender.z, 20)) else (Sender.z, 8)
def barS (s : Sender) : Sender := { s with Bar := false }
def barR (s : Sender) : Sender × Int := if Valid s then (if s.Phase = 2 then (if s.Bar = true then (barS s, 0) else (Sender.z, 20)) else (Sender.z, 20)) else (Sender.z, 8)
def ackR (s : Sender) (w : Window) : RI := if Valid s then (if okW w then (if s.Phase = 2 then (seqs (s.Out.filter (pA w)), ackS s w, 0) else ([], Sender.z, 20)) else ([], Sender.z, 2)) else ([], Sender.z, 8)
def startR (s : Sender) : Int := if Valid s then startOf s else 0
def PA (s : Sender) (n : Int) : Prop := (s.Out.length : Int) ≤ n ∧ n ≤ 1000 ∧ ∀ x ∈ s.Out, x.Frame.Body = []
theorem PA.fit {s : Sender} {n : Int} (h : PA s n) : Fit s := ⟨by have := h.1; have := h.2.1; omega, fun x hx => by rw [h.2.2 x hx]; simp⟩
theorem PA.len {s : Sender} {n : Int} (h : PA s n) : s.Out.length ≤ 50000 := by have := h.1; have := h.2.1; omega
theorem PA.z {n : Int} (h0 : 0 ≤ n) (h : n ≤ 1000) : PA Sender.z n := ⟨by simpa [Sender.z] using h0, h, by simp [Sender.z]⟩
theorem PA.nn {s : Sender} {n : Int} (h : PA s n) : 0 ≤ n := by have := h.1; omega
theorem start_r {s : Sender} {n : Int} (h : PA s n) : gA s = some (startR s) := by
 unfold gA startR
 rw [check_e s h.fit.len, ay]
 by_cases hv : Valid s
 ·
  rw [if_pos hv, if_pos hv, yf]; rfl
 ·
  rw [if_neg hv, if_neg hv]; rfl
theorem exp_p {s : Sender} {n : Int} (h : PA s n) (t : Int) : PA (expR s t).2.1 n ∧ ((expR s t).1.length : Int) ≤ n := by
 have hl : ∀ p : Unacked → Bool, ((s.Out.filter p).length : Int) ≤ n := fun p => by have := List.length_filter_le p s.Out; have := h.1; omega
 unfold expR
 split
 ·
  split
  ·
   split
   ·
    refine ⟨⟨hl _, h.2.1, fun x hx => h.2.2 x (List.mem_filter.1 hx).1⟩, by simpa [expN, seqs] using hl _⟩
   ·
    exact ⟨.z h.nn h.2.1, by simpa using h.nn⟩
  ·
   exact ⟨.z h.nn h.2.1, by simpa using h.nn⟩
 ·
  exact ⟨.z h.nn h.2.1, by simpa using h.nn⟩
theorem close_p {s : Sender} {n : Int} (h : PA s n) : PA (closeR s).2.1 n ∧ ((closeR s).1.length : Int) ≤ n := by
 unfold closeR
 split
 ·
  exact ⟨⟨by simpa [y0] using h.nn, h.2.1, by simp [y0]⟩, by simpa [seqs] using h.1⟩
 ·
  exact ⟨.z h.nn h.2.1, by simpa using h.nn⟩
theorem off_p {s : Sender} {n : Int} (h : PA s n) (hn : n < 1000) (t : Int) : PA (offR s t).2.1 (n + 1) := by
 have z : PA Sender.z (n + 1) := .z (by have := h.nn; omega) (by omega)
 unfold offR
 split
 ·
  split
  ·
   split
   ·
    split
    ·
     exact z
    ·
     split
     ·
      exact z
     ·
      refine ⟨by have := h.1; simp [offS]; omega, by omega, fun x hx => ?_⟩
      simp only [offS, List.mem_append, List.mem_singleton] at hx
      rcases hx with hx | rfl
      ·
       exact h.2.2 x hx
      ·
       rfl
   ·
    exact z
  ·
   exact z
 ·
  exact z
theorem po (lim k : Int) : ∀ (c : Nat) (l : List Unacked), (∀ y ∈ l, y.Frame.Body = []) → (∀ y ∈ (pickR lim k c l).1, y.Frame.Body = []) ∧ (∀ f ∈ (pickR lim k c l).2, f.Body = []) ∧ (pickR lim k c l).1.length = l.length ∧ (pickR lim k c l).2.length ≤ l.length
 | _, [], _ => by simp [pickR]
 | c, x :: l, h => by
  have hx := h x (by simp)
  have hl : ∀ y ∈ l, y.Frame.Body = [] := fun y hy => h y (by simp [hy])
  unfold pickR
  split
  ·
   exact ⟨h, by simp, rfl, by simp⟩
  ·
   split
   ·
    obtain ⟨a, b, c1, d⟩ := po lim k c l hl
    exact ⟨fun y hy => by rcases List.mem_cons.1 hy with rfl | hy; exact hx; exact a y hy, b, by simp [c1], by simp; omega⟩
   ·
    obtain ⟨a, b, c1, d⟩ := po lim k (c + 1) l hl
    refine ⟨fun y hy => by rcases List.mem_cons.1 hy with rfl | hy; exact hx; exact a y hy, fun f hf => by rcases List.mem_cons.1 hf with rfl | hf; exact hx; exact b f hf, by simp [c1], by simp; omega⟩
theorem pick_p {s : Sender} {n : Int} (h : PA s n) (k : Int) : PA (pikR s k).2.1 n ∧ ((pikR s k).1.length : Int) ≤ n ∧ ∀ f ∈ (pikR s k).1, f.Body = [] := by
 have z : PA Sender.z n := .z h.nn h.2.1
 have hb := po s.Limit k 0 s.Out h.2.2
 unfold pikR
 split
 ·
  split
  ·
   split
   ·
    exact ⟨⟨by have := h.1; simp only [pickS]; omega, h.2.1, hb.1⟩, by have := h.1; simp only; omega, hb.2.1⟩
   ·
    exact ⟨z, by simpa using h.nn, by simp⟩
  ·
   exact ⟨z, by simpa using h.nn, by simp⟩
 ·
  exact ⟨z, by simpa using h.nn, by simp⟩
theorem lost_p {s : Sender} {n : Int} (h : PA s n) : PA (lostR s).1 n := by
 have z : PA Sender.z n := .z h.nn h.2.1
 unfold lostR
 split
 ·
  split
  ·
   refine ⟨by simpa [lostS] using h.1, h.2.1, fun x hx => ?_⟩
   simp only [lostS, List.mem_map] at hx
   obtain ⟨y, hy, rfl⟩ := hx; exact h.2.2 y hy
  ·
   exact z
 ·
  exact z
theorem bar_p {s : Sender} {n : Int} (h : PA s n) : PA (barR s).1 n := by
 have z : PA Sender.z n := .z h.nn h.2.1
 unfold barR
 split
 ·
  split
  ·
   split
   ·
    exact h
   ·
    exact z
  ·
   exact z
 ·
  exact z
theorem ack_p {s : Sender} {n : Int} (h : PA s n) (w : Window) : PA (ackR s w).2.1 n ∧ ((ackR s w).1.length : Int) ≤ n := by
 have z : PA Sender.z n := .z h.nn h.2.1
 have hl : ∀ p : Unacked → Bool, ((s.Out.filter p).length : Int) ≤ n := fun p => by have := List.length_filter_le p s.Out; have := h.1; omega
 unfold ackR
 split
 ·
  split
  ·
   split
   ·
    refine ⟨⟨by simpa [ackS] using hl _, h.2.1, fun x hx => ?_⟩, by simpa [seqs] using hl _⟩
    simp only [ackS, List.mem_map] at hx
    obtain ⟨y, hy, rfl⟩ := hx; exact h.2.2 y (List.mem_filter.1 hy).1
   ·
    exact ⟨z, by simpa using h.nn⟩
  ·
   exact ⟨z, by simpa using h.nn⟩
 ·
  exact ⟨z, by simpa using h.nn⟩
end S

namespace R
def repR (b : Reorder) : Window × Int := if VR b then (b.Seen, 0) else (Window.z, 8)
def PB (b : Reorder) : Prop := b.Held.length ≤ 200 ∧ ∀ x ∈ b.Held, x.Frame.Body = []
theorem PB.fit {b : Reorder} (h : PB b) : Fit b.Held := ⟨by have := h.1; omega, fun x hx => by rw [h.2 x hx]; simp⟩
theorem PB.z : PB Reorder.z := ⟨by simp [Reorder.z], by simp [Reorder.z]⟩
theorem xe {b : Reorder} (h : b.Held.length ≤ 200 ∧ ∀ x ∈ b.Held, x.Frame.Body = []) (t : Int) : PB (mvF b t).2 ∧ (mvF b t).1.length ≤ 400 ∧ ∀ f ∈ (mvF b t).1, f.Body = [] := by
 obtain ⟨a, c⟩ := FJ b t
 obtain ⟨d, e⟩ := mvF_mem b t
 exact ⟨⟨by omega, fun x hx => h.2 x (e x hx)⟩, by omega, fun f hf => by obtain ⟨x, hx, rfl⟩ := d f hf; exact h.2 x hx⟩
theorem bar_p {b : Reorder} (h : PB b) (n : Int) : PB (barF b n).2.1 ∧ (barF b n).1.length ≤ 400 := by
 unfold barF
 split
 ·
  split
  ·
   split
   ·
    exact ⟨h, by simp⟩
   ·
    exact ⟨(xe h _).1, (xe h _).2.1⟩
  ·
   exact ⟨.z, by simp⟩
 ·
  exact ⟨.z, by simp⟩
theorem exp_p {b : Reorder} (h : PB b) (n : Int) : PB (expF b n).2.1 ∧ (expF b n).1.length ≤ 400 := by
 unfold expF
 split
 ·
  split
  ·
   split
   ·
    exact ⟨(xe h _).1, (xe h _).2.1⟩
   ·
    exact ⟨h, by simp⟩
  ·
   exact ⟨.z, by simp⟩
 ·
  exact ⟨.z, by simp⟩
theorem put_p {b : Reorder} (h : PB b) (f : Frame) (hf : f.Body = []) (n : Int) : PB (putF b f n).2.1 ∧ (putF b f n).1.length ≤ 400 := by
 unfold putF
 split
 ·
  rename_i hv
  have h70 := zt hv
  split
  ·
   split
   ·
    exact ⟨.z, by simp⟩
   ·
    have hl := zm b ⟨n, f⟩
    have hp : (putB b ⟨n, f⟩).Held.length ≤ 200 ∧ ∀ x ∈ (putB b ⟨n, f⟩).Held, x.Frame.Body = [] := by
     refine ⟨by simp only [putB]; omega, fun x hx => ?_⟩
     simp only [putB, insF, List.mem_append, List.mem_singleton] at hx
     rcases hx with (hx | rfl) | hx
     ·
      exact h.2 x (List.mem_filter.1 hx).1
     ·
      exact hf
     ·
      exact h.2 x (List.mem_filter.1 hx).1
    exact ⟨(xe hp _).1, (xe hp _).2.1⟩
  ·
   exact ⟨.z, by simp⟩
 ·
  exact ⟨.z, by simp⟩
end R
end Go.AX.Z.TN

/-! (TNG) -/

set_option linter.unusedVariables false
set_option linter.unusedSimpArgs false
set_option maxRecDepth 20000
namespace Go.AX.Z.TN
open Go.AX

abbrev SS := Session_session
def dz (e : Int) (s : SS) : SS := { s with err := if s.err = 0 then e else s.err }
theorem iX (e : Int) (s : SS) (d : List Bool) : aW e s d = some (dz e s) := by
 unfold aW dz
 by_cases h : s.err = 0
 ·
  rw [h, if_pos rfl]; rfl
 ·
  rw [show (s.err == 0) = false by simpa using h, if_neg h]; rfl

def nP (p : SessionPlan) (l : List Int) : List Int := l.map fun n => aJ p.Start n
theorem r8 (s : SS) (L : List Int) (hL : L.length ≤ 100000) : ∀ (l acc : List Int) (i n : Nat), L.drop i = l → l.length < n → acc.length + l.length ≤ 100000 →
  bN L s n (acc, (i : Int)) = some (acc ++ nP s.plan l)
 | [], acc, i, n + 1, h, hn, ha => by
  rw [bN, gM (ju h)]; simp [nP]
 | x :: l, acc, i, n + 1, h, hn, ha => by
  obtain ⟨h1, h2, h3⟩ := jc h
  simp only [List.length_cons] at ha hn
  rw [bN, gO h3]
  simp only [cond_true, lZ, h1, ay, iu]
  rw [fI (by omega), ay, fX (by omega), r8 s L hL l _ (i + 1) n h2 (by omega) (by simp; omega)]
  simp [nP]
theorem sf (s : SS) (d : List Bool) (l : List Int) (h : l.length ≤ 100000) : ce s d l = some (nP s.plan l) := by
 unfold ce
 have := r8 s l h l [] 0 big rfl (eZ (by omega)) (by simpa using h)
 simp only [Int.natCast_zero, List.nil_append] at this
 rw [this]; rfl

def rel (p : SessionPlan) (l : List Frame) : List Int := l.map fun f => aJ p.Start f.Head.Seq
theorem pS (s : SS) (L : List Frame) (hL : L.length ≤ 100000) : ∀ (l : List Frame) (acc : List Int) (i n : Nat), L.drop i = l → l.length < n → acc.length + l.length ≤ 2000000000 →
  bM L s n (acc, (i : Int)) = some (acc ++ rel s.plan l)
 | [], acc, i, n + 1, h, hn, ha => by
  rw [bM, gM (ju h)]; simp [rel]
 | x :: l, acc, i, n + 1, h, hn, ha => by
  obtain ⟨h1, h2, h3⟩ := jc h
  simp only [List.length_cons] at ha hn
  rw [bM, gO h3]
  simp only [cond_true, lZ, h1, ay, iu]
  rw [fI (by omega), ay, fX (by omega), pS s L hL l _ (i + 1) n h2 (by omega) (by simp; omega)]
  simp [rel]
theorem qY (l : List Frame) (s : SS) (d : List Bool) (h : l.length ≤ 100000) (hd : s.out.Delivered.length ≤ 1000000000) : bH l s d = some (s.out.Delivered ++ rel s.plan l) := by
 unfold bH
 have := pS s l h l s.out.Delivered 0 big rfl (eZ (by omega)) (by omega)
 simp only [Int.natCast_zero] at this
 rw [this]; rfl

def eK : List Bool → Bool × List Bool
 | [] => (false, [])
 | b :: l => (b, l)
theorem A6 (d : List Bool) : fa d = some (eK d) := by
 unfold fa eK
 cases d with
 | nil => rfl
 | cons b l =>
  have : (((b :: l).length : Int) == 0) = false := by rw [beq_eq_false_iff_ne]; simp; omega
  rw [this, cond_false, Kh, List.getElem?_cons_zero, ay, fI (by simp; omega), ay]; rfl

structure Wt (N : Nat) (s : SS) : Prop where
 A : S.PA s.sides.Sender s.accepted
 B : R.PB s.sides.Reorder
 D : s.out.Delivered.length ≤ N
 K : s.out.Acked.length ≤ N
 X : s.out.Dropped.length ≤ N
 N : N ≤ 900000000
 acc : s.accepted ≤ 200
 many : s.many ≤ 200
theorem Wt.keep {N : Nat} {s : SS} (h : Wt N s) (e : Int) : Wt N (dz e s) := ⟨h.A, h.B, h.D, h.K, h.X, h.N, h.acc, h.many⟩
theorem Wt.mono {N M : Nat} {s : SS} (h : Wt N s) (hm : N ≤ M) (hM : M ≤ 900000000) : Wt M s := ⟨h.A, h.B, Nat.le_trans h.D hm, Nat.le_trans h.K hm, Nat.le_trans h.X hm, hM, h.acc, h.many⟩
theorem Wt.upA {N : Nat} {s : SS} (h : Wt N s) {A : Sender} (hA : S.PA A s.accepted) : Wt N { s with sides.Sender := A } := ⟨hA, h.B, h.D, h.K, h.X, h.N, h.acc, h.many⟩
theorem Wt.upB {N : Nat} {s : SS} (h : Wt N s) {B : Reorder} (hB : R.PB B) : Wt N { s with sides.Reorder := B } := ⟨h.A, hB, h.D, h.K, h.X, h.N, h.acc, h.many⟩
theorem yZ (p : SessionPlan) (l : List Frame) : (rel p l).length = l.length := by simp [rel]
theorem kW (p : SessionPlan) (l : List Int) : (nP p l).length = l.length := by simp [nP]

def gp (to : Int) (s : SS) : SS :=
 { dz (R.barF s.sides.Reorder to).2.2 s with sides.Reorder := (R.barF s.sides.Reorder to).2.1, out.Delivered := s.out.Delivered ++ rel s.plan (R.barF s.sides.Reorder to).1 }
theorem yU {N : Nat} {s : SS} (h : Wt N s) (hN : N ≤ 899000000) (to : Int) (d : List Bool) : (∃ r, co to s d = some r ∧ { r.1 with out.Delivered := r.2 } = gp to s ∧ r.2 = (gp to s).out.Delivered) ∧ Wt (N + 1000) (gp to s) := by
 obtain ⟨b1, b2⟩ := R.bar_p h.B to
 have hD := h.D
 constructor
 ·
  unfold co
  rw [R.bar_e _ h.B.fit, ay, iX, ay, qY _ _ _ (by omega) (by simp only; omega), ay]
  exact ⟨_, rfl, rfl, rfl⟩
 ·
  refine ⟨h.A, b1, ?_, by have := h.K; simp only [gp]; show s.out.Acked.length ≤ _; omega, by have := h.X; show s.out.Dropped.length ≤ _; omega, by omega, h.acc, h.many⟩
  simp only [gp, List.length_append, yZ]; omega

def dt (now : Int) : Nat → SS → SS
 | 0, s => s
 | n + 1, s => if s.accepted < s.many ∧ s.err = 0 then
   (if (S.offR s.sides.Sender now).2.2 = 22 then s else
    dt now n { dz (S.offR s.sides.Sender now).2.2 s with accepted := s.accepted + 1, sides.Sender := (S.offR s.sides.Sender now).2.1 }) else s
theorem Hn {s : Sender} {n : Int} (h : S.PA s n) (hn : n < 1000) (t : Int) : fD s Frame.z t = some (S.offR s t) :=
 S.offer_e h.fit Frame.z (by simp [Frame.z]) t (by have := h.1; omega)
theorem Ax (now : Int) (s0 : SS) (d : List Bool) : ∀ (m n k : Nat) (N : Nat) (s : SS), Wt N s → s.many - s.accepted ≤ m → m < n → m ≤ k → s.out = s0.out →
  (∃ o, bX now s0 d n s = some o ∧ (o = Ex.ret (dt now k s) ∨ o = Ex.go (dt now k s))) ∧ Wt N (dt now k s)  := by
 intro m n k
 induction k generalizing m n with
 | zero =>
  intro N s h hm hn hk ho
  obtain ⟨n, rfl⟩ : ∃ q, n = q + 1 := ⟨n - 1, by omega⟩
  refine ⟨?_, h⟩
  rw [bX, decide_eq_false (by omega), Bool.false_and, cond_false]
  exact ⟨_, rfl, .inr rfl⟩
 | succ k ih =>
  intro N s h hm hn hk ho
  obtain ⟨n, rfl⟩ : ∃ q, n = q + 1 := ⟨n - 1, by omega⟩
  rw [bX]
  unfold dt
  by_cases hc : s.accepted < s.many ∧ s.err = 0
  ·
   have hcb : (decide (s.accepted < s.many) && (s.err == 0)) = true := by simpa using hc
   have ha := h.acc
   have hma := h.many
   rw [hcb, cond_true, if_pos hc, Hn h.A (by omega), ay]
   by_cases h22 : (S.offR s.sides.Sender now).2.2 = 22
   ·
    rw [show ((S.offR s.sides.Sender now).2.2 == 22) = true by simpa using h22, cond_true, if_pos h22]
    exact ⟨⟨_, rfl, .inl rfl⟩, h⟩
   ·
    rw [show ((S.offR s.sides.Sender now).2.2 == 22) = false by simpa using h22, cond_false, if_neg h22, iX, ay]
    have e : ({ s with out.Acked := s0.out.Acked, out.Delivered := s0.out.Delivered, out.Dropped := s0.out.Dropped } : SS) = s := by rw [← ho]
    rw [e]
    obtain ⟨m, rfl⟩ : ∃ q, m = q + 1 := ⟨m - 1, by omega⟩
    have hA := S.off_p h.A (by omega) now
    have hnn := h.A.nn
    have hw : Wt N { dz (S.offR s.sides.Sender now).2.2 s with accepted := s.accepted + 1, sides.Sender := (S.offR s.sides.Sender now).2.1 } := ⟨hA, h.B, h.D, h.K, h.X, h.N, by simp only; omega, h.many⟩
    have ew : IntKind.wrap .i64 ((dz (S.offR s.sides.Sender now).2.2 s).accepted + 1) = s.accepted + 1 := mm (by simp only [dz]; omega) (by simp only [dz]; omega)
    rw [ew]
    exact ih m n N _ hw (by simp only [dz]; omega) (by omega) (by omega) ho
  ·
   have hcb : (decide (s.accepted < s.many) && (s.err == 0)) = false := by rw [Bool.eq_false_iff]; simpa using hc
   rw [hcb, cond_false, if_neg hc]
   exact ⟨⟨_, rfl, .inr rfl⟩, h⟩
theorem offer_e {N : Nat} {s : SS} (h : Wt N s) (h0 : 0 ≤ s.accepted) (now : Int) (d : List Bool) : cM now s d = some (dt now 200 s) ∧ Wt N (dt now 200 s) := by
 have hma := h.many
 obtain ⟨⟨o, e, ho⟩, hw⟩ := Ax now s d 200 big 200 N s h (by omega) (eZ (by omega)) (Nat.le_refl _) rfl
 refine ⟨?_, hw⟩
 unfold cM
 rw [e, ay]
 rcases ho with rfl | rfl <;> rfl

def gu (now : Int) : List Frame → SS → List Bool → SS × List Bool
 | [], s, d => (s, d)
 | f :: l, s, d => if (eK d).1 = true then gu now l s (eK d).2 else
   if (R.putF s.sides.Reorder f now).2.2 = 0 then gu now l { s with sides.Reorder := (R.putF s.sides.Reorder f now).2.1, out.Delivered := s.out.Delivered ++ rel s.plan (R.putF s.sides.Reorder f now).1 } (eK d).2
   else gu now l s (eK d).2
theorem BI (x : List Frame × Sender × Int) (now : Int) (s0 : SS) (hx : x.1.length ≤ 1000) : ∀ (l : List Frame) (i n : Nat) (N : Nat) (s : SS) (d : List Bool) (D : List Int), x.1.drop i = l → l.length < n → (∀ f ∈ l, f.Body = []) → Wt N { s with out.Delivered := D } → N + 1000 * l.length ≤ 899000000 → s.out.Acked = s0.out.Acked → s.out.Dropped = s0.out.Dropped →
  (∃ r, bL x now s0 n (s, d, D, (i : Int)) = some r ∧ { r.1 with out.Delivered := r.2.2 } = (gu now l { s with out.Delivered := D } d).1 ∧ r.2.1 = (gu now l { s with out.Delivered := D } d).2 ∧ r.2.2 = (gu now l { s with out.Delivered := D } d).1.out.Delivered) ∧ Wt (N + 1000 * l.length) (gu now l { s with out.Delivered := D } d).1 := by
 intro l
 induction l with
 | nil =>
  intro i n N s d D h hn hb hw hN h1 h2
  obtain ⟨n, rfl⟩ : ∃ q, n = q + 1 := ⟨n - 1, by simp at hn; omega⟩
  refine ⟨?_, by simpa [gu] using hw⟩
  rw [bL, gM (ju h), cond_false]
  exact ⟨_, rfl, rfl, rfl, rfl⟩
 | cons f l ih =>
  intro i n N s d D h hn hb hw hN h1 h2
  obtain ⟨n, rfl⟩ : ∃ q, n = q + 1 := ⟨n - 1, by simp at hn; omega⟩
  obtain ⟨q1, q2, q3⟩ := jc h
  simp only [List.length_cons] at hn hN
  have hbl : ∀ g ∈ l, g.Body = [] := fun g hg => hb g (by simp [hg])
  have hf := hb f (by simp)
  have hN' : N + 1000 ≤ 900000000 := by omega
  have hN3 : N ≤ N + 1000 := by omega
  rw [bL, gO q3]
  simp only [cond_true, lZ, q1, ay, A6, gu]
  rw [fX (by omega)]
  by_cases hd : (eK d).1 = true
  ·
   rw [hd, cond_true, if_pos rfl]
   obtain ⟨a, b⟩ := ih (i + 1) n N s (eK d).2 D q2 (by omega) hbl hw (by omega) h1 h2
   exact ⟨a, b.mono (by simp; omega) (by simp; omega)⟩
  ·
   rw [Bool.not_eq_true] at hd
   have hp := R.put_e s.sides.Reorder hw.B.fit f (by rw [hf]; simp) now
   rw [hd, cond_false, if_neg (by decide), hp, ay]
   by_cases he : (R.putF s.sides.Reorder f now).2.2 = 0
   ·
    obtain ⟨p1, p2⟩ := R.put_p hw.B f hf now
    have hD := hw.D
    simp only at p1 p2 hD
    rw [show ((R.putF s.sides.Reorder f now).2.2 == 0) = true by simpa using he, cond_true, if_pos he]
    rw [← h1, ← h2, qY _ _ _ (by omega) (by simp only; omega), ay]
    have hw' : Wt (N + 1000) { ({ s with sides.Reorder := (R.putF s.sides.Reorder f now).2.1 } : SS) with out.Delivered := D ++ rel s.plan (R.putF s.sides.Reorder f now).1 } := by
     refine ⟨hw.A, p1, ?_, Nat.le_trans hw.K hN3, Nat.le_trans hw.X hN3, hN', hw.acc, hw.many⟩
     simp only [List.length_append, yZ]; omega
    have := ih (i + 1) n (N + 1000) { s with out.Delivered := D, sides.Reorder := (R.putF s.sides.Reorder f now).2.1 } (eK d).2 (D ++ rel s.plan (R.putF s.sides.Reorder f now).1) q2 (by omega) hbl hw' (by omega) h1 h2
    obtain ⟨a, b⟩ := this
    exact ⟨a, b.mono (by simp; omega) (by simp; omega)⟩
   ·
    rw [show ((R.putF s.sides.Reorder f now).2.2 == 0) = false by simpa using he, cond_false, if_neg he]
    obtain ⟨a, b⟩ := ih (i + 1) n N s (eK d).2 D q2 (by omega) hbl hw (by omega) h1 h2
    exact ⟨a, b.mono (by simp; omega) (by simp; omega)⟩

def er (now : Int) (s : SS) (d : List Bool) : SS × List Bool :=
 gu now (S.pikR s.sides.Sender s.plan.Burst).1 { dz (S.pikR s.sides.Sender s.plan.Burst).2.2 s with sides.Sender := (S.pikR s.sides.Sender s.plan.Burst).2.1 } d
theorem HJ {N : Nat} {s : SS} (h : Wt N s) (hN : N ≤ 898000000) (now : Int) (d : List Bool) :
  (∃ r, cW now s d = some r ∧ r.1 = ((S.pikR s.sides.Sender s.plan.Burst).1.length : Int) ∧ { r.2.1 with out.Delivered := r.2.2.2 } = (er now s d).1 ∧ r.2.2.1 = (er now s d).2 ∧ r.2.2.2 = (er now s d).1.out.Delivered) ∧ Wt (N + 250000) (er now s d).1 := by
 obtain ⟨a1, a2, a3⟩ := S.pick_p h.A s.plan.Burst
 have hl := h.acc
 have hw : Wt N { dz (S.pikR s.sides.Sender s.plan.Burst).2.2 s with sides.Sender := (S.pikR s.sides.Sender s.plan.Burst).2.1 } := (h.keep _).upA a1
 obtain ⟨⟨r, e1, e2, e3, e4⟩, e5⟩ := BI (S.pikR s.sides.Sender s.plan.Burst) now s (by omega) (S.pikR s.sides.Sender s.plan.Burst).1 0 big N { dz (S.pikR s.sides.Sender s.plan.Burst).2.2 s with sides.Sender := (S.pikR s.sides.Sender s.plan.Burst).2.1 } d s.out.Delivered List.drop_zero (eZ (by clear hw; omega)) a3 hw (by clear hw; omega) rfl rfl
 refine ⟨?_, e5.mono (by omega) (by omega)⟩
 unfold cW
 rw [show gq s.sides.Sender s.plan.Burst = some (S.pikR s.sides.Sender s.plan.Burst) from S.pick_e h.A.fit _, ay, iX, ay]
 simp only [Int.natCast_zero] at e1
 rw [e1, ay]
 exact ⟨_, rfl, rfl, e2, e3, e4⟩

def jW (s : SS) (d : List Bool) : SS × List Bool :=
 if (eK d).1 = true then ({ dz (S.lostR s.sides.Sender).2 s with sides.Sender := (S.lostR s.sides.Sender).1 }, (eK d).2)
 else ({ dz (S.ackR s.sides.Sender (R.repR s.sides.Reorder).1).2.2 (dz (R.repR s.sides.Reorder).2 s) with sides.Sender := (S.ackR s.sides.Sender (R.repR s.sides.Reorder).1).2.1, out.Acked := s.out.Acked ++ nP s.plan (S.ackR s.sides.Sender (R.repR s.sides.Reorder).1).1 }, (eK d).2)
theorem report_e {N : Nat} {s : SS} (h : Wt N s) (hN : N ≤ 899000000) (d : List Bool) :
  (∃ r, cD s d = some r ∧ { r.1 with out.Acked := r.2.2 } = (jW s d).1 ∧ r.2.1 = (jW s d).2 ∧ r.2.2 = (jW s d).1.out.Acked) ∧ Wt (N + 1000) (jW s d).1 := by
 have hK := h.K
 have ha := h.acc
 unfold cD jW
 rw [A6, ay]
 by_cases hd : (eK d).1 = true
 ·
  rw [hd, cond_true, if_pos rfl, show gg s.sides.Sender = some (S.lostR s.sides.Sender) from S.lost_e h.A.fit, ay, iX, ay]
  exact ⟨⟨_, rfl, rfl, rfl, rfl⟩, ((h.keep _).upA (S.lost_p h.A)).mono (by omega) (by omega)⟩
 ·
  rw [Bool.not_eq_true] at hd
  obtain ⟨a1, a2⟩ := S.ack_p h.A (R.repR s.sides.Reorder).1
  rw [hd, cond_false, if_neg (by decide), show fk s.sides.Reorder = some (R.repR s.sides.Reorder) from R.report_e _ h.B.fit.1, ay, iX, ay]
  rw [show fy (dz (R.repR s.sides.Reorder).2 s).sides.Sender (R.repR s.sides.Reorder).1 = some (S.ackR s.sides.Sender (R.repR s.sides.Reorder).1) from S.acked_e h.A.fit h.A.len _, ay, iX, ay, sf _ _ _ (by omega), ay, fI (by rw [kW]; omega), ay]
  refine ⟨⟨_, rfl, rfl, rfl, rfl⟩, ?_⟩
  refine ⟨a1, h.B, by have := h.D; exact Nat.le_trans this (by omega), ?_, by have := h.X; exact Nat.le_trans this (by omega), by omega, ha, h.many⟩
  simp only [List.length_append, kW]; omega
end Go.AX.Z.TN

/-! (TNH) -/

set_option linter.unusedVariables false
set_option linter.unusedSimpArgs false
set_option maxRecDepth 20000
namespace Go.AX.Z.TN
open Go.AX

structure Sm (s t : SS) : Prop where
 plan : t.plan = s.plan
 many : t.many = s.many
 rounds : t.out.Rounds = s.out.Rounds
theorem Sm.refl (s : SS) : Sm s s := ⟨rfl, rfl, rfl⟩
theorem Sm.trans {s t u : SS} (h : Sm s t) (g : Sm t u) : Sm s u := ⟨g.plan.trans h.plan, g.many.trans h.many, g.rounds.trans h.rounds⟩
theorem yt (now : Int) : ∀ (n : Nat) (s : SS), Sm s (dt now n s) ∧ (dt now n s).out = s.out ∧ (0 ≤ s.accepted → 0 ≤ (dt now n s).accepted)
 | 0, s => ⟨.refl s, rfl, id⟩
 | n + 1, s => by
  unfold dt
  split
  ·
   split
   ·
    exact ⟨.refl s, rfl, id⟩
   ·
    obtain ⟨a, b, c⟩ := yt now n { dz (S.offR s.sides.Sender now).2.2 s with accepted := s.accepted + 1, sides.Sender := (S.offR s.sides.Sender now).2.1 }
    exact ⟨⟨a.plan, a.many, a.rounds⟩, b, fun h => c (by simp only; omega)⟩
  ·
   exact ⟨.refl s, rfl, id⟩
theorem ra (now : Int) : ∀ (l : List Frame) (s : SS) (d : List Bool), Sm s (gu now l s d).1 ∧ (gu now l s d).1.out.Acked = s.out.Acked ∧ (gu now l s d).1.out.Dropped = s.out.Dropped ∧ (gu now l s d).1.accepted = s.accepted
 | [], s, d => ⟨.refl s, rfl, rfl, rfl⟩
 | f :: l, s, d => by
  unfold gu
  split
  ·
   exact ra now l s _
  ·
   split
   ·
    obtain ⟨a, b, c, e⟩ := ra now l { s with sides.Reorder := (R.putF s.sides.Reorder f now).2.1, out.Delivered := s.out.Delivered ++ rel s.plan (R.putF s.sides.Reorder f now).1 } (eK d).2
    exact ⟨⟨a.plan, a.many, a.rounds⟩, b, c, e⟩
   ·
    exact ra now l s _
theorem zY (now : Int) (s : SS) (d : List Bool) : Sm s (er now s d).1 ∧ (er now s d).1.out.Acked = s.out.Acked ∧ (er now s d).1.out.Dropped = s.out.Dropped ∧ (er now s d).1.accepted = s.accepted := by
 obtain ⟨a, b, c, e⟩ := ra now (S.pikR s.sides.Sender s.plan.Burst).1 { dz (S.pikR s.sides.Sender s.plan.Burst).2.2 s with sides.Sender := (S.pikR s.sides.Sender s.plan.Burst).2.1 } d
 exact ⟨⟨a.plan, a.many, a.rounds⟩, b, c, e⟩
theorem Bs (s : SS) (d : List Bool) : Sm s (jW s d).1 ∧ (jW s d).1.out.Delivered = s.out.Delivered ∧ (jW s d).1.out.Dropped = s.out.Dropped ∧ (jW s d).1.accepted = s.accepted := by
 unfold jW
 split
 ·
  exact ⟨⟨rfl, rfl, rfl⟩, rfl, rfl, rfl⟩
 ·
  exact ⟨⟨rfl, rfl, rfl⟩, rfl, rfl, rfl⟩

def rxF (now : Int) (s : SS) : SS :=
 { dz (R.expF s.sides.Reorder now).2.2 s with sides.Reorder := (R.expF s.sides.Reorder now).2.1, out.Delivered := s.out.Delivered ++ rel s.plan (R.expF s.sides.Reorder now).1, out.Rounds := s.out.Rounds + 1 }
def rpF (n : Nat) (q : SS × List Bool) : SS × List Bool := if 0 < n then jW q.1 q.2 else q
def kJ (now : Int) (s : SS) (d : List Bool) : SS × List Bool :=
 let t := dt now 200 s
 let q := rpF (S.pikR t.sides.Sender t.plan.Burst).1.length (er now t d)
 (rxF now q.1, q.2)

def qW (now : Int) (s : SS) (d : List Bool) (K0 D0 X0 : List Int) : Option (Session_session × List Bool × List Int × List Int × List Int) :=
  ((cM now s d).bind fun x45 =>
  ((cW now { x45 with out.Acked := K0, out.Delivered := D0, out.Dropped := X0 } d).bind fun x46 =>
  ((
   bif decide (0 < x46.1) then
    ((cD { x46.2.1 with out.Acked := K0, out.Delivered := x46.2.2.2, out.Dropped := X0 } x46.2.2.1).bind fun x48 =>
    some (x48.1, x48.2.1, x48.2.2))
   else
    some (x46.2.1, x46.2.2.1, K0)).bind fun d47 =>
  ((dB d47.1.sides.Reorder now).bind fun x49 =>
  ((aW x49.2.2 { d47.1 with out.Acked := d47.2.2, out.Delivered := x46.2.2.2, out.Dropped := X0 } d47.2.1).bind fun x50 =>
  ((bH x49.1 { x50 with out.Acked := d47.2.2, out.Delivered := x46.2.2.2, out.Dropped := X0, sides.Reorder := x49.2.1 } d47.2.1).bind fun x51 =>
  some ({ x50 with out.Acked := d47.2.2, out.Delivered := x46.2.2.2, out.Dropped := X0, out.Rounds := IntKind.wrap .i64 (x50.out.Rounds + 1), sides.Reorder := x49.2.1 }, d47.2.1, x51, d47.2.2, X0)))))))

abbrev JY (r : Session_session × List Bool × List Int × List Int × List Int) : SS := { r.1 with out.Delivered := r.2.2.1, out.Acked := r.2.2.2.1, out.Dropped := r.2.2.2.2 }
def Gv (c : Option (Session_session × List Bool × List Int × List Int × List Int)) (q : SS × List Bool) : Prop := ∃ r, c = some r ∧ JY r = q.1 ∧ r.2.1 = q.2

theorem Cs {N : Nat} {now : Int} {s : SS} (h : Wt N s) (hN : N ≤ 899000000) (hr : 0 ≤ s.out.Rounds ∧ s.out.Rounds ≤ 2000) (y : SS) (d : List Bool) (K0 D0 X0 : List Int) (hy : { y with out.Acked := K0, out.Delivered := D0, out.Dropped := X0 } = s) :
  Gv ((dB y.sides.Reorder now).bind fun x49 =>
  ((aW x49.2.2 { y with out.Acked := K0, out.Delivered := D0, out.Dropped := X0 } d).bind fun x50 =>
  ((bH x49.1 { x50 with out.Acked := K0, out.Delivered := D0, out.Dropped := X0, sides.Reorder := x49.2.1 } d).bind fun x51 =>
  some ({ x50 with out.Acked := K0, out.Delivered := D0, out.Dropped := X0, out.Rounds := IntKind.wrap .i64 (x50.out.Rounds + 1), sides.Reorder := x49.2.1 }, d, x51, K0, X0)))) (rxF now s, d) ∧ Wt (N + 1000) (rxF now s) := by
 subst hy
 obtain ⟨p1, p2⟩ := R.exp_p h.B now
 have hD := h.D
 simp only at p1 p2 hD hr
 constructor
 ·
  rw [R.expire_e y.sides.Reorder h.B.fit, ay, iX, ay, qY _ _ _ (by omega) (by simp only; omega), ay]
  refine ⟨_, rfl, ?_, rfl⟩
  have : IntKind.wrap .i64 (y.out.Rounds + 1) = y.out.Rounds + 1 := mm (by omega) (by omega)
  simp only [JY, dz, rxF]
  rw [this]
 ·
  refine ⟨h.A, p1, ?_, Nat.le_trans h.K (Nat.le_add_right _ _), Nat.le_trans h.X (Nat.le_add_right _ _), by omega, h.acc, h.many⟩
  simp only [rxF, List.length_append, yZ]; omega

theorem AT {N : Nat} {now : Int} {s : SS} (h : Wt N s) (h0 : 0 ≤ s.accepted) (hN : N ≤ 898000000) (hr : 0 ≤ s.out.Rounds ∧ s.out.Rounds ≤ 2000) (d : List Bool) :
  Gv (qW now s d s.out.Acked s.out.Delivered s.out.Dropped) (kJ now s d) ∧ Wt (N + 252000) (kJ now s d).1 := by
 obtain ⟨o1, o2⟩ := offer_e h h0 now d
 obtain ⟨m1, m2, m3⟩ := yt now 200 s
 unfold qW
 rw [o1, ay]
 have e : ({ dt now 200 s with out.Acked := s.out.Acked, out.Delivered := s.out.Delivered, out.Dropped := s.out.Dropped } : SS) = dt now 200 s := by rw [← m2]
 rw [e]
 obtain ⟨⟨r, r1, r2, r3, r4, r5⟩, w⟩ := HJ o2 hN now d
 obtain ⟨k1, k2, k3, k4⟩ := zY now (dt now 200 s) d
 rw [r1, ay]
 have hD : (er now (dt now 200 s) d).1.out.Delivered = r.2.2.2 := r5.symm
 have hK : r.2.1.out.Acked = s.out.Acked := by
  have : ({ r.2.1 with out.Delivered := r.2.2.2 } : SS).out.Acked = _ := (congrArg (fun z : SS => z.out.Acked) r3).trans (k2.trans (by rw [m2]))
  exact this
 have hX : r.2.1.out.Dropped = s.out.Dropped := by
  have : ({ r.2.1 with out.Delivered := r.2.2.2 } : SS).out.Dropped = _ := (congrArg (fun z : SS => z.out.Dropped) r3).trans (k3.trans (by rw [m2]))
  exact this
 have e2 : ({ r.2.1 with out.Acked := s.out.Acked, out.Delivered := r.2.2.2, out.Dropped := s.out.Dropped } : SS) = (er now (dt now 200 s) d).1 := by
  rw [← r3, ← hK, ← hX]
 have hrr : (er now (dt now 200 s) d).1.out.Rounds = s.out.Rounds := k1.rounds.trans m1.rounds
 rw [r2]
 unfold kJ rpF
 by_cases hn : 0 < (S.pikR (dt now 200 s).sides.Sender (dt now 200 s).plan.Burst).1.length
 ·
  rw [decide_eq_true (by omega), cond_true]
  simp only [if_pos hn]
  rw [e2, r4]
  obtain ⟨⟨q, q1, q2, q3, q4⟩, w2⟩ := report_e w (by omega) (er now (dt now 200 s) d).2
  obtain ⟨j1, j2, j3, j4⟩ := Bs (er now (dt now 200 s) d).1 (er now (dt now 200 s) d).2
  rw [q1, ay, ay]
  have hD2 : q.1.out.Delivered = r.2.2.2 := by
   have : ({ q.1 with out.Acked := q.2.2 } : SS).out.Delivered = _ := (congrArg (fun z : SS => z.out.Delivered) q2).trans (j2.trans hD)
   exact this
  have hX2 : q.1.out.Dropped = s.out.Dropped := by
   have : ({ q.1 with out.Acked := q.2.2 } : SS).out.Dropped = _ := (congrArg (fun z : SS => z.out.Dropped) q2).trans (j3.trans (k3.trans (by rw [m2])))
   exact this
  have e3 : ({ q.1 with out.Acked := q.2.2, out.Delivered := r.2.2.2, out.Dropped := s.out.Dropped } : SS) = (jW (er now (dt now 200 s) d).1 (er now (dt now 200 s) d).2).1 := by
   rw [← q2, ← hD2, ← hX2]
  have := Cs (now := now) w2 (by omega) (by rw [j1.rounds, hrr]; exact hr) q.1 q.2.1 q.2.2 r.2.2.2 s.out.Dropped e3
  rw [← q3]
  exact ⟨this.1, this.2.mono (by omega) (by omega)⟩
 ·
  rw [decide_eq_false (by omega), cond_false]
  simp only [if_neg hn]
  rw [ay]
  have := Cs (now := now) w (by omega) (by rw [hrr]; exact hr) r.2.1 r.2.2.1 s.out.Acked r.2.2.2 s.out.Dropped e2
  rw [r4] at this ⊢
  exact ⟨this.1, this.2.mono (by omega) (by omega)⟩

def exF (now : Int) (s : SS) : SS :=
 { dz (S.expR s.sides.Sender now).2.2 s with sides.Sender := (S.expR s.sides.Sender now).2.1, out.Dropped := s.out.Dropped ++ nP s.plan (S.expR s.sides.Sender now).1 }
def bdF (s : SS) : SS := { dz (S.barR s.sides.Sender).2 s with sides.Sender := (S.barR s.sides.Sender).1 }
def gr (s : SS) (d : List Bool) : SS × List Bool :=
 if s.sides.Sender.Bar = true then (if (eK d).1 = true then (s, (eK d).2) else (bdF (gp (S.startR s.sides.Sender) s), (eK d).2)) else (s, d)
def dR (s : SS) : Int := s.out.Rounds * s.plan.Round
def fR (s : SS) (d : List Bool) : SS × List Bool := kJ (dR s) (gr (exF (dR s) s) d).1 (gr (exF (dR s) s) d).2

theorem Jn {N : Nat} {s : SS} (h : Wt N s) (hN : N ≤ 899000000) (now : Int) : Wt (N + 1000) (exF now s) := by
 obtain ⟨a1, a2⟩ := S.exp_p h.A now
 have ha := h.acc
 have hX := h.X
 refine ⟨a1, h.B, Nat.le_trans h.D (Nat.le_add_right _ _), Nat.le_trans h.K (Nat.le_add_right _ _), ?_, by omega, h.acc, h.many⟩
 simp only [exF, List.length_append, kW]; omega

theorem GV {A : Option (Session_session × List Int)} {K : Session_session × List Int → Option (Session_session × List Bool × List Int × List Int × List Int)} {Q : SS × List Bool} {v : Session_session × List Int} (h : A = some v) (g : Gv (K v) Q) : Gv (A.bind K) Q := by
 subst h; exact g

theorem Bo {N : Nat} {s : SS} (h : Wt N s) (h0 : 0 ≤ s.accepted) (hN : N ≤ 897000000) (hr : 0 ≤ s.out.Rounds ∧ s.out.Rounds ≤ 2000) (hp : 0 ≤ s.plan.Round ∧ s.plan.Round ≤ 1000000) (d : List Bool) :
  Gv (c7 s d) (fR s d) ∧ Wt (N + 256000) (fR s d).1 := by
 have hw1 := Jn h (by omega) (dR s)
 obtain ⟨a1, a2⟩ := S.exp_p h.A (dR s)
 have hX := h.X
 have ha := h.acc
 have hnow : IntKind.wrap .i64 (s.out.Rounds * s.plan.Round) = dR s := by
  have h1 : 0 ≤ s.out.Rounds * s.plan.Round := Int.mul_nonneg hr.1 hp.1
  have h2 : s.out.Rounds * s.plan.Round ≤ 2000 * 1000000 := Int.mul_le_mul hr.2 hp.2 hp.1 (by omega)
  exact mm (by omega) (by omega)
 unfold c7
 rw [hnow, show eW s.sides.Sender (dR s) = some (S.expR s.sides.Sender (dR s)) from S.expire_e h.A.fit h.A.len _, ay, iX, ay, sf _ _ _ (by omega), ay, fI (by rw [kW]; omega), ay]
 unfold fR gr
 show Gv (bif (exF (dR s) s).sides.Sender.Bar then _ else _) _ ∧ _
 cases hb : (exF (dR s) s).sides.Sender.Bar with
 | false =>
  rw [cond_false, if_neg (by decide)]
  have := AT (now := dR s) (s := exF (dR s) s) hw1 h0 (by omega) hr d
  exact ⟨this.1, this.2.mono (by omega) (by omega)⟩
 | true =>
  rw [cond_true, if_pos rfl, A6, ay]
  cases hd : (eK d).1 with
  | true =>
   rw [if_pos rfl, Bool.not_true, cond_false, ay]
   have := AT (now := dR s) (s := exF (dR s) s) hw1 h0 (by omega) hr (eK d).2
   exact ⟨this.1, this.2.mono (by omega) (by omega)⟩
  | false =>
   rw [if_neg (by decide), Bool.not_false, cond_true]
   obtain ⟨⟨m, m1, m2, m3⟩, w2⟩ := yU hw1 (by omega) (S.startR (exF (dR s) s).sides.Sender) (eK d).2
   have w3 : Wt (N + 1000 + 1000) (bdF (gp (S.startR (exF (dR s) s).sides.Sender) (exF (dR s) s))) := (w2.keep _).upA (S.bar_p w2.A)
   have hS : m.1.sides.Sender = (gp (S.startR (exF (dR s) s).sides.Sender) (exF (dR s) s)).sides.Sender := by
    have := congrArg (fun z : SS => z.sides.Sender) m2; exact this
   have hfix : ({ m.1 with out.Acked := s.out.Acked, out.Delivered := m.2, out.Dropped := s.out.Dropped ++ nP s.plan (S.expR s.sides.Sender (dR s)).1 } : SS) = gp (S.startR (exF (dR s) s).sides.Sender) (exF (dR s) s) := by
    have q1 : m.1.out.Acked = s.out.Acked := by
     have := congrArg (fun z : SS => z.out.Acked) m2; exact this
    have q2 : m.1.out.Dropped = s.out.Dropped ++ nP s.plan (S.expR s.sides.Sender (dR s)).1 := by
     have := congrArg (fun z : SS => z.out.Dropped) m2; exact this
    rw [← m2, ← q1, ← q2]
   have key : ((((gA (S.expR s.sides.Sender (dR s)).2.1).bind fun x41 =>
    ((co x41 { dz (S.expR s.sides.Sender (dR s)).2.2 s with out.Acked := s.out.Acked, out.Delivered := s.out.Delivered, out.Dropped := (s.out.Dropped ++ nP s.plan (S.expR s.sides.Sender (dR s)).1), sides.Sender := (S.expR s.sides.Sender (dR s)).2.1 } (eK d).2).bind fun x42 =>
    ((eE x42.1.sides.Sender).bind fun x43 =>
    ((aW x43.2 { x42.1 with out.Acked := s.out.Acked, out.Delivered := x42.2, out.Dropped := (s.out.Dropped ++ nP s.plan (S.expR s.sides.Sender (dR s)).1), sides.Sender := x43.1 } (eK d).2).bind fun x44 =>
    some (x44, x42.2)))))) : Option (Session_session × List Int)) = some (bdF (gp (S.startR (exF (dR s) s).sides.Sender) (exF (dR s) s)), m.2) := by
    rw [S.start_r a1, ay]
    show ((co (S.startR (exF (dR s) s).sides.Sender) (exF (dR s) s) (eK d).2).bind _) = _
    rw [m1, ay, hS, show eE (gp (S.startR (exF (dR s) s).sides.Sender) (exF (dR s) s)).sides.Sender = some (S.barR (gp (S.startR (exF (dR s) s).sides.Sender) (exF (dR s) s)).sides.Sender) from S.barred_e w2.A.fit, ay, iX, ay]
    unfold bdF
    rw [← hfix]; rfl
   have := AT (now := dR s) (s := bdF (gp (S.startR (exF (dR s) s).sides.Sender) (exF (dR s) s))) w3 h0 (by omega) hr (eK d).2
   refine ⟨GV key ?_, this.2.mono (by omega) (by omega)⟩
   have g := this.1
   unfold qW at g
   rw [m3]
   exact g
end Go.AX.Z.TN

/-! (TNJ) -/

set_option linter.unusedVariables false
set_option linter.unusedSimpArgs false
set_option maxRecDepth 20000
namespace Go.AX.Z.TN
open Go.AX

/-! ## The end, the beginning, a run -/

def rng (a m : Int) : List Int := (List.range (m - a).toNat).map fun (i : Nat) => a + (i : Int)
theorem Dd {a m : Int} (h : a < m) : rng a m = a :: rng (a + 1) m := by
 unfold rng
 have : (m - a).toNat = (m - (a + 1)).toNat + 1 := by omega
 rw [this, List.range_succ_eq_map, List.map_cons, List.map_map]
 congr 1
 ·
  simp
 ·
  apply List.map_congr_left
  intro i _
  simp only [Function.comp]; omega
theorem FM {a m : Int} (h : m ≤ a) : rng a m = [] := by
 unfold rng
 have : (m - a).toNat = 0 := by omega
 rw [this]; rfl
theorem Be (a m : Int) : (rng a m).length = (m - a).toNat := by simp [rng]
theorem mJ (s : SS) (hm : s.many ≤ 200) : ∀ (k n : Nat) (a : Int) (acc : List Int), (s.many - a).toNat = k → k < n → 0 ≤ a → acc.length + k ≤ 1000000000 → bZ s n (acc, a) = some (acc ++ rng a s.many) := by
 intro k
 induction k with
 | zero =>
  intro n a acc hk hn ha hc
  obtain ⟨n, rfl⟩ : ∃ q, n = q + 1 := ⟨n - 1, by omega⟩
  rw [bZ, decide_eq_false (by simp only; omega), cond_false, FM (by omega), List.append_nil]
 | succ k ih =>
  intro n a acc hk hn ha hc
  obtain ⟨n, rfl⟩ : ∃ q, n = q + 1 := ⟨n - 1, by omega⟩
  rw [bZ, decide_eq_true (by simp only; omega), cond_true]
  simp only
  rw [fI (by omega), ay, mm (by omega) (by omega), ih n (a + 1) _ (by omega) (by omega) (by omega) (by simp; omega), Dd (a := a) (by omega)]
  simp

def clF (s : SS) : SS := { dz (S.closeR s.sides.Sender).2.2 s with sides.Sender := (S.closeR s.sides.Sender).2.1, out.Dropped := s.out.Dropped ++ nP s.plan (S.closeR s.sides.Sender).1 ++ rng s.accepted s.many }
def kH (s : SS) : SS := gp (S.closeR s.sides.Sender).2.1.Next (clF s)
theorem close_e {N : Nat} {s : SS} (h : Wt N s) (h0 : 0 ≤ s.accepted) (hN : N ≤ 898000000) (d : List Bool) :
  (∃ r, dQ s d = some r ∧ { r.1 with out.Delivered := r.2.1, out.Dropped := r.2.2 } = kH s ∧ r.2.1 = (kH s).out.Delivered ∧ r.2.2 = (kH s).out.Dropped) ∧ Wt (N + 2000) (kH s) := by
 obtain ⟨a1, a2⟩ := S.close_p h.A
 have ha := h.acc
 have hm := h.many
 have hX := h.X
 have hw : Wt (N + 1000) (clF s) := by
  refine ⟨a1, h.B, Nat.le_trans h.D (Nat.le_add_right _ _), Nat.le_trans h.K (Nat.le_add_right _ _), ?_, by omega, h.acc, h.many⟩
  simp only [clF, List.length_append, kW, Be]; omega
 obtain ⟨⟨m, m1, m2, m3⟩, w2⟩ := yU hw (by omega) (S.closeR s.sides.Sender).2.1.Next d
 refine ⟨?_, w2.mono (by omega) (by omega)⟩
 unfold dQ
 rw [show fA s.sides.Sender = some (S.closeR s.sides.Sender) from S.close_e h.A.fit, ay, iX, ay, sf _ _ _ (by omega), ay, fI (by rw [kW]; omega), ay, mJ (dz (S.closeR s.sides.Sender).2.2 s) hm _ big (dz (S.closeR s.sides.Sender).2.2 s).accepted _ rfl (eZ (by simp only [dz]; omega)) h0 (by simp only [List.length_append, kW, dz]; omega), ay]
 show ∃ r, ((co (S.closeR s.sides.Sender).2.1.Next (clF s) d).bind _) = _ ∧ _
 rw [m1, ay]
 have hX2 : m.1.out.Dropped = (clF s).out.Dropped := by
  have := congrArg (fun z : SS => z.out.Dropped) m2; exact this
 refine ⟨_, rfl, ?_, m3, rfl⟩
 show ({ m.1 with out.Delivered := m.2, out.Dropped := (clF s).out.Dropped } : SS) = kH s
 unfold kH
 rw [← m2, ← hX2]

def jh (p : SessionPlan) : Prop := (0 ≤ p.Start ∧ p.Start ≤ 4095) ∧ (1 ≤ p.Size ∧ p.Size ≤ 64) ∧ (1 ≤ p.Limit ∧ p.Limit ≤ 16) ∧ (1 ≤ p.Burst ∧ p.Burst ≤ 64) ∧ (1 ≤ p.Life ∧ p.Life ≤ 1073741824) ∧ (0 ≤ p.Hold ∧ p.Hold ≤ 16777216) ∧ (1 ≤ p.Round ∧ p.Round ≤ 1000000)
instance (p : SessionPlan) : Decidable (jh p) := by unfold jh; infer_instance
theorem Jf (p : SessionPlan) : ik p = some (if jh p then 0 else 8) := by
 unfold ik
 simp only [cH, ay]
 have b1 : ∀ (a b : Bool), (bif a then some b else some false) = some (a && b) := by intro a b; cases a <;> rfl
 simp only [b1, ay]
 by_cases h : jh p
 ·
  obtain ⟨⟨a1, a2⟩, ⟨a3, a4⟩, ⟨a5, a6⟩, ⟨a7, a8⟩, ⟨a9, a10⟩, ⟨a11, a12⟩, a13, a14⟩ := h
  rw [if_pos ⟨⟨a1, a2⟩, ⟨a3, a4⟩, ⟨a5, a6⟩, ⟨a7, a8⟩, ⟨a9, a10⟩, ⟨a11, a12⟩, a13, a14⟩]
  simp only [a1, a2, a3, a4, a5, a6, a7, a8, a9, a10, a11, a12, a13, a14, decide_true, Bool.and_self, Bool.not_true, Bool.or_self, cond_false]
 ·
  rw [if_neg h]
  cases hc : (!((((decide (0 ≤ p.Start) && decide (p.Start ≤ 4095)) && (decide (1 ≤ p.Size) && decide (p.Size ≤ 64))) && (decide (1 ≤ p.Limit) && decide (p.Limit ≤ 16))) && (decide (1 ≤ p.Burst) && decide (p.Burst ≤ 64))) || !(((decide (1 ≤ p.Life) && decide (p.Life ≤ 1073741824)) && (decide (0 ≤ p.Hold) && decide (p.Hold ≤ 16777216))) && (decide (1 ≤ p.Round) && decide (p.Round ≤ 1000000))))
  ·
   exfalso
   apply h
   simp only [Bool.or_eq_false_iff, Bool.not_eq_false', Bool.and_eq_true, decide_eq_true_eq] at hc
   unfold jh; omega
  ·
   rfl

def A0 (p : SessionPlan) : Sender := { Sender.z with Life := p.Life, Limit := p.Limit, Next := p.Start, Phase := 2, Size := p.Size, Token := 1 }
def B0 (p : SessionPlan) : Reorder := { Reorder.z with Hold := p.Hold, Seen := { Window.z with Start := p.Start }, Size := p.Size, Start := p.Start }
def gL (p : SessionPlan) (many : Int) : SS := { Session_session.z with many := many, plan := p }
theorem zq {p : SessionPlan} (hp : jh p) (t ph sz : Int) (ht : 0 ≤ t ∧ t ≤ 255) (hph : 0 ≤ ph ∧ ph ≤ 2) (hsz : if ph = 0 then sz = 0 else 1 ≤ sz ∧ sz ≤ 64) : S.Valid { A0 p with Token := t, Phase := ph, Size := sz } := by
 obtain ⟨h1, h2, h3, h4, h5, h6, h7⟩ := hp
 have e : S.startOf { A0 p with Token := t, Phase := ph, Size := sz } = p.Start := rfl
 refine ⟨by simp [A0, Sender.z], hph.2, ht, h1, h3, h5, hsz, fun _ => ⟨rfl, rfl⟩, ?_, trivial⟩
 rw [e]
 show aJ p.Start p.Start ≤ sz
 have : aJ p.Start p.Start = 0 := by unfold aJ; simp
 rw [this]
 split at hsz <;> omega
theorem Ei {p : SessionPlan} (hp : jh p) (many : Int) (d : List Bool) : dP (gL p many) d = some { gL p many with sides := ⟨A0 p, B0 p⟩ } := by
 have v0 : S.Valid (S.newS 0 p.Start p.Limit p.Life) := zq hp 0 0 0 (by omega) (by omega) rfl
 have f0 := S.newS_fit 0 p.Start p.Limit p.Life
 have k1 : S.tok (S.newS 0 p.Start p.Limit p.Life) = 1 := by
  show IntKind.wrap .i64 ((0 : Int).tmod 255 + 1) = 1; decide
 obtain ⟨h1, h2, h3, h4, h5, h6, h7⟩ := hp
 have hp : jh p := ⟨h1, h2, h3, h4, h5, h6, h7⟩
 have e1 : S.askS (S.newS 0 p.Start p.Limit p.Life) p.Size = { A0 p with Token := 1, Phase := 1 } := by
  unfold S.askS; rw [k1]; rfl
 have v1 : S.Valid ({ A0 p with Token := 1, Phase := 1 } : Sender) := zq hp 1 1 p.Size (by omega) (by omega) h2
 have hb : R.VR (B0 p) := ⟨⟨⟨h1.1, by show p.Start < 4096; omega⟩, h2.1, h2.2, h6.1, h6.2, h1.1, by show p.Start < 4096; omega⟩, trivial⟩
 unfold dP
 rw [show (gL p many).plan = p from rfl, S.new_e, if_pos v0, ay, iX, ay]
 simp only
 rw [S.ask_e f0, if_pos v0, if_pos h2, if_neg (show ¬ (S.newS 0 p.Start p.Limit p.Life).Phase = 2 from (by decide : ¬ (0 : Int) = 2)), ay, iX, ay]
 simp only
 rw [e1, S.answer_e ⟨by simp [A0, Sender.z], by simp [A0, Sender.z]⟩, if_pos v1, if_pos rfl, if_pos ⟨k1, rfl⟩, if_neg (by rintro ⟨_, q⟩; exact q ⟨h2.1, Int.le_refl _⟩), ay, iX, ay]
 unfold lz
 rw [show ({ Reorder.z with Hold := p.Hold, Seen := { Window.z with Start := p.Start }, Size := p.Size, Start := p.Start } : Reorder) = B0 p from rfl, R.check_e _ (by simp [B0, Reorder.z]), if_pos hb, ay, bne_self_eq_false, cond_false, ay, iX, ay]
 rfl

def kO : Nat → SS → List Bool → SS × List Bool
 | 0, s, d => (s, d)
 | n + 1, s, d => if s.err = 0 ∧ (s.accepted < s.many ∨ s.sides.Sender.Out ≠ [] ∨ s.sides.Sender.Bar = true) then
   (if s.out.Rounds = 2000 then (kH s, d) else kO n (fR s d).1 (fR s d).2) else (s, d)

theorem C7 (now : Int) (s : SS) (d : List Bool) : (kJ now s d).1.plan = s.plan ∧ (kJ now s d).1.many = s.many ∧ (kJ now s d).1.out.Rounds = s.out.Rounds + 1 ∧ (0 ≤ s.accepted → 0 ≤ (kJ now s d).1.accepted) := by
 obtain ⟨m1, m2, m3⟩ := yt now 200 s
 obtain ⟨k1, k2, k3, k4⟩ := zY now (dt now 200 s) d
 have hs := m1.trans k1
 have q : Sm s (rpF (S.pikR (dt now 200 s).sides.Sender (dt now 200 s).plan.Burst).1.length (er now (dt now 200 s) d)).1 ∧ (rpF (S.pikR (dt now 200 s).sides.Sender (dt now 200 s).plan.Burst).1.length (er now (dt now 200 s) d)).1.accepted = (er now (dt now 200 s) d).1.accepted := by
  unfold rpF
  split
  ·
   obtain ⟨j1, j2, j3, j4⟩ := Bs (er now (dt now 200 s) d).1 (er now (dt now 200 s) d).2
   exact ⟨hs.trans j1, j4⟩
  ·
   exact ⟨hs, rfl⟩
 refine ⟨q.1.plan, q.1.many, ?_, fun h => ?_⟩
 ·
  show (rpF _ _).1.out.Rounds + 1 = _
  rw [q.1.rounds]
 ·
  show 0 ≤ (rpF _ _).1.accepted
  rw [q.2, k4]; exact m3 h
theorem xE (s : SS) (d : List Bool) : (fR s d).1.plan = s.plan ∧ (fR s d).1.many = s.many ∧ (fR s d).1.out.Rounds = s.out.Rounds + 1 ∧ (0 ≤ s.accepted → 0 ≤ (fR s d).1.accepted) := by
 have hb : (gr (exF (dR s) s) d).1.plan = s.plan ∧ (gr (exF (dR s) s) d).1.many = s.many ∧ (gr (exF (dR s) s) d).1.out.Rounds = s.out.Rounds ∧ (gr (exF (dR s) s) d).1.accepted = s.accepted := by
  unfold gr
  split
  ·
   split
   ·
    exact ⟨rfl, rfl, rfl, rfl⟩
   ·
    exact ⟨rfl, rfl, rfl, rfl⟩
  ·
   exact ⟨rfl, rfl, rfl, rfl⟩
 obtain ⟨a, b, c, e⟩ := C7 (dR s) (gr (exF (dR s) s) d).1 (gr (exF (dR s) s) d).2
 exact ⟨a.trans hb.1, b.trans hb.2.1, c.trans (by rw [hb.2.2.1]), fun h => e (by rw [hb.2.2.2]; exact h)⟩

theorem CY (many : Int) (hm : 0 ≤ many ∧ many ≤ 200) : ∀ (k n N : Nat) (s : SS) (d : List Bool) (x : SS) (D K X : List Int), { x with out.Delivered := D, out.Acked := K, out.Dropped := X } = s → Wt N s → 0 ≤ s.accepted → s.many = many → 0 ≤ s.out.Rounds → s.out.Rounds + k = 2000 → (0 ≤ s.plan.Round ∧ s.plan.Round ≤ 1000000) → N + 256000 * k ≤ 800000000 → k < n →
  ∃ r, d7 many n (x, d, D, K, X) = some r ∧ { r.1 with out.Delivered := r.2.2.1, out.Acked := r.2.2.2.1, out.Dropped := r.2.2.2.2 } = (kO (k + 1) s d).1 := by
 intro k
 induction k with
 | zero =>
  intro n N s d x D K X hx hw ha hmy hr hk hp hN hn
  obtain ⟨n, rfl⟩ : ∃ q, n = q + 1 := ⟨n - 1, by omega⟩
  rw [d7]
  subst hx
  unfold kO
  by_cases hc : x.err = 0 ∧ (x.accepted < many ∨ x.sides.Sender.Out ≠ [] ∨ x.sides.Sender.Bar = true)
  ·
   have hcb : ((x.err == 0) && (((decide (x.accepted < many)) || (decide (0 < ((x.sides.Sender.Out.length : Nat) : Int)))) || x.sides.Sender.Bar)) = true := by
    obtain ⟨h1, h2⟩ := hc
    rw [h1]
    rcases h2 with h2 | h2 | h2
    ·
     simp [h2]
    ·
     have : 0 < x.sides.Sender.Out.length := List.length_pos_iff.2 h2
     simp [this]
    ·
     simp [h2]
   have hcs : ({ x with out.Delivered := D, out.Acked := K, out.Dropped := X } : SS).err = 0 ∧ (({ x with out.Delivered := D, out.Acked := K, out.Dropped := X } : SS).accepted < ({ x with out.Delivered := D, out.Acked := K, out.Dropped := X } : SS).many ∨ ({ x with out.Delivered := D, out.Acked := K, out.Dropped := X } : SS).sides.Sender.Out ≠ [] ∨ ({ x with out.Delivered := D, out.Acked := K, out.Dropped := X } : SS).sides.Sender.Bar = true) := by
    rw [hmy]; exact hc
   have hR : x.out.Rounds = 2000 := by simp only at hk; omega
   rw [if_pos hcs, if_pos hR]
   simp only [hcb, cond_true]
   rw [show (x.out.Rounds == 2000) = true by simpa using hR, cond_true]
   obtain ⟨⟨r, r1, r2, r3, r4⟩, w⟩ := close_e hw ha (by omega) d
   rw [r1, ay]
   refine ⟨_, rfl, ?_⟩
   have hK : r.1.out.Acked = K := by
    have := congrArg (fun z : SS => z.out.Acked) r2; exact this
   simp only
   rw [← r2, ← hK]
  ·
   have hcb : ((x.err == 0) && (((decide (x.accepted < many)) || (decide (0 < ((x.sides.Sender.Out.length : Nat) : Int)))) || x.sides.Sender.Bar)) = false := by
    rw [Bool.eq_false_iff]
    intro q
    apply hc
    simp only [Bool.and_eq_true, beq_iff_eq, Bool.or_eq_true, decide_eq_true_eq] at q
    refine ⟨q.1, ?_⟩
    rcases q.2 with (q | q) | q
    ·
     exact .inl q
    ·
     exact .inr (.inl (List.length_pos_iff.1 (by omega)))
    ·
     exact .inr (.inr q)
   have hcs : ¬ (({ x with out.Delivered := D, out.Acked := K, out.Dropped := X } : SS).err = 0 ∧ (({ x with out.Delivered := D, out.Acked := K, out.Dropped := X } : SS).accepted < ({ x with out.Delivered := D, out.Acked := K, out.Dropped := X } : SS).many ∨ ({ x with out.Delivered := D, out.Acked := K, out.Dropped := X } : SS).sides.Sender.Out ≠ [] ∨ ({ x with out.Delivered := D, out.Acked := K, out.Dropped := X } : SS).sides.Sender.Bar = true)) := by
    rw [hmy]; exact hc
   rw [if_neg hcs]
   simp only [hcb, cond_false]
   exact ⟨_, rfl, rfl⟩
 | succ k ih =>
  intro n N s d x D K X hx hw ha hmy hr hk hp hN hn
  obtain ⟨n, rfl⟩ : ∃ q, n = q + 1 := ⟨n - 1, by omega⟩
  rw [d7]
  subst hx
  unfold kO
  by_cases hc : x.err = 0 ∧ (x.accepted < many ∨ x.sides.Sender.Out ≠ [] ∨ x.sides.Sender.Bar = true)
  ·
   have hcb : ((x.err == 0) && (((decide (x.accepted < many)) || (decide (0 < ((x.sides.Sender.Out.length : Nat) : Int)))) || x.sides.Sender.Bar)) = true := by
    obtain ⟨h1, h2⟩ := hc
    rw [h1]
    rcases h2 with h2 | h2 | h2
    ·
     simp [h2]
    ·
     have : 0 < x.sides.Sender.Out.length := List.length_pos_iff.2 h2
     simp [this]
    ·
     simp [h2]
   have hcs : ({ x with out.Delivered := D, out.Acked := K, out.Dropped := X } : SS).err = 0 ∧ (({ x with out.Delivered := D, out.Acked := K, out.Dropped := X } : SS).accepted < ({ x with out.Delivered := D, out.Acked := K, out.Dropped := X } : SS).many ∨ ({ x with out.Delivered := D, out.Acked := K, out.Dropped := X } : SS).sides.Sender.Out ≠ [] ∨ ({ x with out.Delivered := D, out.Acked := K, out.Dropped := X } : SS).sides.Sender.Bar = true) := by
    rw [hmy]; exact hc
   have hR : x.out.Rounds ≠ 2000 := by simp only at hk; omega
   rw [if_pos hcs, if_neg hR]
   simp only [hcb, cond_true]
   rw [show (x.out.Rounds == 2000) = false by simpa using hR, cond_false]
   obtain ⟨⟨r, r1, r2, r3⟩, w⟩ := Bo hw ha (by omega) ⟨hr, by simp only at hk ⊢; omega⟩ hp d
   obtain ⟨z1, z2, z3, z4⟩ := xE ({ x with out.Delivered := D, out.Acked := K, out.Dropped := X } : SS) d
   have r1' : c7 { x with out.Acked := K, out.Delivered := D, out.Dropped := X } d = some r := r1
   rw [r1', ay]
   have := ih n (N + 256000) (fR ({ x with out.Delivered := D, out.Acked := K, out.Dropped := X } : SS) d).1 r.2.1 r.1 r.2.2.1 r.2.2.2.1 r.2.2.2.2 r2 w (z4 ha) (z2.trans hmy) (by rw [z3]; simp only at hr ⊢; omega) (by rw [z3]; simp only at hk ⊢; omega) (by rw [z1]; exact hp) (by omega) (by omega)
   rw [r3] at this
   rw [r3]
   exact this
  ·
   have hcb : ((x.err == 0) && (((decide (x.accepted < many)) || (decide (0 < ((x.sides.Sender.Out.length : Nat) : Int)))) || x.sides.Sender.Bar)) = false := by
    rw [Bool.eq_false_iff]
    intro q
    apply hc
    simp only [Bool.and_eq_true, beq_iff_eq, Bool.or_eq_true, decide_eq_true_eq] at q
    refine ⟨q.1, ?_⟩
    rcases q.2 with (q | q) | q
    ·
     exact .inl q
    ·
     exact .inr (.inl (List.length_pos_iff.1 (by omega)))
    ·
     exact .inr (.inr q)
   have hcs : ¬ (({ x with out.Delivered := D, out.Acked := K, out.Dropped := X } : SS).err = 0 ∧ (({ x with out.Delivered := D, out.Acked := K, out.Dropped := X } : SS).accepted < ({ x with out.Delivered := D, out.Acked := K, out.Dropped := X } : SS).many ∨ ({ x with out.Delivered := D, out.Acked := K, out.Dropped := X } : SS).sides.Sender.Out ≠ [] ∨ ({ x with out.Delivered := D, out.Acked := K, out.Dropped := X } : SS).sides.Sender.Bar = true)) := by
    rw [hmy]; exact hc
   rw [if_neg hcs]
   simp only [hcb, cond_false]
   exact ⟨_, rfl, rfl⟩

def start (p : SessionPlan) (many : Int) : SS := { gL p many with sides := ⟨A0 p, B0 p⟩ }
def wZ (p : SessionPlan) (many : Int) (d : List Bool) : SessionResult × Int :=
 if jh p then (if 0 ≤ many ∧ many ≤ 200 then
  (if (kO 2001 (start p many) d).1.err = 0 then ((kO 2001 (start p many) d).1.out, 0) else (SessionResult.z, (kO 2001 (start p many) d).1.err))
  else (SessionResult.z, 4)) else (SessionResult.z, 8)
theorem Ga (p : SessionPlan) (many : Int) (d : List Bool) : fu p many d = some (wZ p many d) := by
 unfold fu wZ
 rw [Jf, ay]
 by_cases hp : jh p
 ·
  rw [if_pos hp, if_pos hp, bne_self_eq_false, cond_false]
  simp only [cH, ay]
  by_cases hm : 0 ≤ many ∧ many ≤ 200
  ·
   rw [if_pos hm, show (!(decide (0 ≤ many) && decide (many ≤ 200))) = false by simp [hm], cond_false]
   rw [show ({ Session_session.z with many := many, out.Acked := ([] : List Int), out.Delivered := ([] : List Int), out.Dropped := ([] : List Int), plan := p } : SS) = gL p many from rfl, Ei hp, ay]
   have hw : Wt 0 (start p many) := ⟨⟨by simp [start, gL, A0, Sender.z, Session_session.z], by simp [start, gL, Session_session.z], by simp [start, A0, Sender.z]⟩, ⟨by simp [start, B0, Reorder.z], by simp [start, B0, Reorder.z]⟩, by simp [start, gL, Session_session.z, SessionResult.z], by simp [start, gL, Session_session.z, SessionResult.z], by simp [start, gL, Session_session.z, SessionResult.z], by omega, by simp [start, gL, Session_session.z], hm.2⟩
   obtain ⟨r, r1, r2⟩ := CY many hm 2000 big 0 (start p many) d (start p many) [] [] [] rfl hw (Int.le_refl _) rfl (Int.le_refl _) rfl (by have := hp.2.2.2.2.2.2; show 0 ≤ p.Round ∧ p.Round ≤ 1000000; omega) (by omega) (eZ (by omega))
   rw [show ({ gL p many with sides := ⟨A0 p, B0 p⟩ } : SS) = start p many from rfl, r1, ay]
   have he : r.1.err = (kO 2001 (start p many) d).1.err := by
    have := congrArg (fun z : SS => z.err) r2; exact this
   rw [he]
   by_cases h0 : (kO 2001 (start p many) d).1.err = 0
   ·
    rw [if_pos h0, h0, bne_self_eq_false, cond_false]
    have := congrArg (fun z : SS => z.out) r2
    simp only at this
    rw [← this]
   ·
    rw [if_neg h0, show ((kO 2001 (start p many) d).1.err != 0) = true by simpa using h0]; rfl
  ·
   rw [if_neg hm, show (!(decide (0 ≤ many) && decide (many ≤ 200))) = true by simp; omega]; rfl
 ·
  rw [if_neg hp, if_neg hp]; rfl
end Go.AX.Z.TN

/-! (TNL) -/

set_option linter.unusedVariables false
set_option linter.unusedSimpArgs false
set_option maxRecDepth 20000
namespace Go.AX.Z.TN
open Go.AX

theorem E1 : fw = some true := by decide +kernel

def Mod (r : SessionResult) : Prop := r.Delivered.length ≤ 900000000 ∧ r.Acked.length ≤ 900000000 ∧ r.Dropped.length ≤ 900000000
theorem Io : ∀ (k N : Nat) (s : SS) (d : List Bool), Wt N s → 0 ≤ s.accepted → 0 ≤ s.out.Rounds → s.out.Rounds + k = 2000 → (0 ≤ s.plan.Round ∧ s.plan.Round ≤ 1000000) → N + 256000 * k ≤ 800000000 → Wt 900000000 (kO (k + 1) s d).1 := by
 intro k
 induction k with
 | zero =>
  intro N s d hw ha hr hk hp hN
  unfold kO
  split
  ·
   rw [if_pos (by omega)]
   exact (close_e hw ha (by omega) d).2.mono (by omega) (by omega)
  ·
   exact hw.mono hw.N (Nat.le_refl _)
 | succ k ih =>
  intro N s d hw ha hr hk hp hN
  unfold kO
  split
  ·
   rw [if_neg (by omega)]
   obtain ⟨z1, z2, z3, z4⟩ := xE s d
   exact ih (N + 256000) _ _ (Bo hw ha (by omega) ⟨hr, by omega⟩ hp d).2 (z4 ha) (by rw [z3]; omega) (by rw [z3]; omega) (by rw [z1]; exact hp) (by omega)
  ·
   exact hw.mono hw.N (Nat.le_refl _)
theorem EV (p : SessionPlan) (many : Int) (hm : many ≤ 200) : Wt 0 (start p many) := ⟨⟨by simp [start, gL, A0, Sender.z, Session_session.z], by simp [start, gL, Session_session.z], by simp [start, A0, Sender.z]⟩, ⟨by simp [start, B0, Reorder.z], by simp [start, B0, Reorder.z]⟩, by simp [start, gL, Session_session.z, SessionResult.z], by simp [start, gL, Session_session.z, SessionResult.z], by simp [start, gL, Session_session.z, SessionResult.z], by omega, by simp [start, gL, Session_session.z], hm⟩
theorem DS : Mod SessionResult.z := ⟨by simp [SessionResult.z], by simp [SessionResult.z], by simp [SessionResult.z]⟩
theorem Ev (p : SessionPlan) (many : Int) (d : List Bool) : Mod (wZ p many d).1 := by
 unfold wZ
 split
 ·
  rename_i hp
  split
  ·
   rename_i hm
   split
   ·
    have : Wt 900000000 (kO (2000 + 1) (start p many) d).1 := Io 2000 0 (start p many) d (EV p many hm.2) (Int.le_refl _) (Int.le_refl _) (by show (0 : Int) + ((2000 : Nat) : Int) = 2000; omega) (by have := hp.2.2.2.2.2.2; show 0 ≤ p.Round ∧ p.Round ≤ 1000000; omega) (by decide)
    exact ⟨this.D, this.K, this.X⟩
   ·
    exact DS
  ·
   exact DS
 ·
  exact DS

theorem BM (a : List Int) (hs : a.length ≤ 900000000) : ∀ (l : List Int) (i n : Nat), a.drop i = l → l.length < n → bW a a n (i : Int) = some (Ex.go ()) := by
 intro l
 induction l with
 | nil =>
  intro i n h hn
  obtain ⟨n, rfl⟩ : ∃ q, n = q + 1 := ⟨n - 1, by simp at hn; omega⟩
  rw [bW, gM (ju h)]; rfl
 | cons x l ih =>
  intro i n h hn
  obtain ⟨n, rfl⟩ : ∃ q, n = q + 1 := ⟨n - 1, by simp at hn; omega⟩
  obtain ⟨h1, h2, h3⟩ := jc h
  simp only [List.length_cons] at hn
  rw [bW, gO h3]
  simp only [cond_true, lZ, h1, ay, bne_self_eq_false, cond_false]
  rw [fX (by omega)]
  exact ih (i + 1) n h2 (by omega)
theorem AL (a : List Int) (h : a.length ≤ 900000000) : bR a a = some true := by
 unfold bR
 have := BM a h a 0 big rfl (eZ (by omega))
 simp only [Int.natCast_zero] at this
 rw [bne_self_eq_false, cond_false, this, ay]; rfl
theorem Id (r : SessionResult) (h : Mod r) : eU r r = some true := by
 unfold eU
 rw [beq_self_eq_true, cond_true, AL _ h.1, ay, ay, cond_true, AL _ h.2.1, ay, ay, cond_true, AL _ h.2.2, ay, ay]

end Go.AX.Z.TN

/-! (TNM) -/

set_option linter.unusedVariables false
set_option linter.unusedSimpArgs false
set_option maxRecDepth 20000
namespace Go.AX.Z.TN
open Go.AX

theorem ua {a b : Int} (h : a ≤ b) (h2 : b - a < 4096) : aJ a b = b - a := by unfold aJ; omega
theorem Bj {a b : Int} (h : b < a) (h2 : a - b ≤ 4096) : aJ a b = 4096 - (a - b) := by unfold aJ; omega
theorem F8 {n : Int} (h : 0 ≤ n) (h2 : n < 4096) : aJ 0 n = n := by unfold aJ; omega
theorem EG {p : SessionPlan} (hp : p.Start = 0) {l : List Int} (h : ∀ x ∈ l, 0 ≤ x ∧ x < 4096) : nP p l = l := by
 unfold nP
 rw [hp]
 conv => rhs; rw [← List.map_id l]
 exact List.map_congr_left fun x hx => F8 (h x hx).1 (h x hx).2
abbrev fq (f : Frame) : Int := f.Head.Seq
theorem G3 {p : SessionPlan} (hp : p.Start = 0) {l : List Frame} (h : ∀ f ∈ l, 0 ≤ fq f ∧ fq f < 4096) : rel p l = l.map fq := by
 unfold rel
 rw [hp]
 exact List.map_congr_left fun x hx => F8 (h x hx).1 (h x hx).2

def hn (b : Reorder) : List Int := b.Held.map (·.n)
theorem sk {b : Reorder} {i : Int} : i ∈ hn b ↔ ∃ h ∈ b.Held, h.n = i := by unfold hn; rw [List.mem_map]

namespace R
theorem relF_run (S : Int) : ∀ (l : List HeldSeq) (m : Int), Sortd S l → (∀ x ∈ l, m ≤ aJ S x.n) →
  m ≤ (relF S m l).1 ∧ (∀ f ∈ (relF S m l).2.1, m ≤ aJ S (fq f) ∧ aJ S (fq f) < (relF S m l).1) ∧ ((relF S m l).2.1).Pairwise (fun f g => aJ S (fq f) < aJ S (fq g)) ∧
  (∀ x ∈ (relF S m l).2.2, (relF S m l).1 < aJ S x.n) ∧ (∀ x ∈ l, x ∈ (relF S m l).2.2 ∨ x.Frame ∈ (relF S m l).2.1) ∧ (∀ x ∈ (relF S m l).2.2, x ∈ l) ∧ (∀ f ∈ (relF S m l).2.1, ∃ x ∈ l, x.Frame = f) ∧
  ((relF S m l).1 = m ∨ ∃ x ∈ l, aJ S x.n + 1 = (relF S m l).1)
 | [], m, _, _ => by simp [relF]
 | h :: r, m, hs, hm => by
  have hp := (List.pairwise_cons.1 hs.1).1
  have hh := hm h (by simp)
  unfold relF
  by_cases he : aJ S h.n = m
  ·
   rw [if_pos he]
   obtain ⟨a, b, c, d, e, f, g, k⟩ := relF_run S r (m + 1) hs.tail (fun x hx => by have := hp x hx; omega)
   refine ⟨by omega, ?_, ?_, d, ?_, fun x hx => List.mem_cons_of_mem _ (f x hx), ?_, ?_⟩
   ·
    intro z hz
    rcases List.mem_cons.1 hz with rfl | hz
    ·
     exact ⟨by show m ≤ aJ S h.n; omega, by show aJ S h.n < _; omega⟩
    ·
     have := b z hz; exact ⟨by omega, this.2⟩
   ·
    refine List.pairwise_cons.2 ⟨fun z hz => ?_, c⟩
    have := b z hz
    show aJ S h.n < _; omega
   ·
    intro x hx
    rcases List.mem_cons.1 hx with rfl | hx
    ·
     exact .inr (by simp)
    ·
     rcases e x hx with q | q
     ·
      exact .inl q
     ·
      exact .inr (List.mem_cons_of_mem _ q)
   ·
    intro z hz
    rcases List.mem_cons.1 hz with rfl | hz
    ·
     exact ⟨h, by simp, rfl⟩
    ·
     obtain ⟨x, hx, q⟩ := g z hz; exact ⟨x, List.mem_cons_of_mem _ hx, q⟩
   ·
    rcases k with k | ⟨x, hx, q⟩
    ·
     exact .inr ⟨h, by simp, by omega⟩
    ·
     exact .inr ⟨x, List.mem_cons_of_mem _ hx, q⟩
  ·
   rw [if_neg he]
   refine ⟨Int.le_refl _, by simp, by simp, ?_, fun x hx => .inl hx, fun x hx => hx, by simp, .inl rfl⟩
   intro x hx
   show m < aJ S x.n
   rcases List.mem_cons.1 hx with rfl | hx
   ·
    omega
   ·
    have := hp x hx; omega
end R

structure Mv (a : Int) (b : Reorder) (to : Int) (out : List Frame) (nx : Reorder) : Prop where
 size : nx.Size = b.Size
 hold : nx.Hold = b.Hold
 seen : nx.Seen = b.Seen
 le : to ≤ nx.Start ∧ nx.Start ≤ a
 held : ∀ h ∈ nx.Held, nx.Start < h.n ∧ h.n < a
 inc : (out.map fq).Pairwise (· < ·)
 rng : ∀ f ∈ out, b.Start ≤ fq f ∧ fq f < nx.Start
 iff : ∀ i, i ∈ hn b ↔ i ∈ out.map fq ∨ i ∈ hn nx
theorem JE {a : Int} {b : Reorder} (ha : a ≤ 200) (h0 : 0 ≤ b.Start) (hs : R.Sortd b.Start b.Held) (hh : ∀ h ∈ b.Held, b.Start ≤ h.n ∧ h.n < a) {to : Int} (ht : b.Start ≤ to ∧ to ≤ a) : Mv a b to (R.mvF b (aJ b.Start to)).1 (R.mvF b (aJ b.Start to)).2 := by
 have hd : ∀ h ∈ b.Held, aJ b.Start h.n = h.n - b.Start := fun h hx => ua (hh h hx).1 (by have := (hh h hx).2; omega)
 have hdt : aJ b.Start to = to - b.Start := ua ht.1 (by omega)
 have hpost : R.Sortd b.Start (R.post b (aJ b.Start to)) := ⟨hs.1.sublist List.filter_sublist, fun x hx => hs.2 x (List.mem_filter.1 hx).1⟩
 have hpm : ∀ x ∈ R.post b (aJ b.Start to), x ∈ b.Held ∧ aJ b.Start to ≤ aJ b.Start x.n := fun x hx => by
  have := List.mem_filter.1 hx
  refine ⟨this.1, ?_⟩
  have h2 := this.2
  simp only [Bool.not_eq_true', decide_eq_false_iff_not] at h2
  omega
 have hprm : ∀ x ∈ R.pre b (aJ b.Start to), x ∈ b.Held ∧ aJ b.Start x.n < aJ b.Start to := fun x hx => by
  have := List.mem_filter.1 hx
  exact ⟨this.1, by simpa using this.2⟩
 obtain ⟨q1, q2, q3, q4, q5, q6, q7, q8⟩ := R.relF_run b.Start (R.post b (aJ b.Start to)) (aJ b.Start to) hpost (fun x hx => (hpm x hx).2)
 have hfr : ∀ f ∈ (R.relF b.Start (aJ b.Start to) (R.post b (aJ b.Start to))).2.1, ∃ x ∈ b.Held, x.Frame = f := fun f hf => by
  obtain ⟨x, hx, e⟩ := q7 f hf; exact ⟨x, (hpm x hx).1, e⟩
 have hfd : ∀ f, (∃ x ∈ b.Held, x.Frame = f) → aJ b.Start (fq f) = fq f - b.Start := by
  rintro f ⟨x, hx, rfl⟩; exact hd x hx
 have hr1 : (R.relF b.Start (aJ b.Start to) (R.post b (aJ b.Start to))).1 ≤ a - b.Start := by
  rcases q8 with q8 | ⟨x, hx, e⟩
  ·
   omega
  ·
   have := hd x (hpm x hx).1
   have := (hh x (hpm x hx).1).2
   omega
 have hst : (R.mvF b (aJ b.Start to)).2.Start = b.Start + (R.relF b.Start (aJ b.Start to) (R.post b (aJ b.Start to))).1 := by
  show (b.Start + _) % 4096 = _
  omega
 have hst' : (R.mvF b (aJ b.Start to)).1 = (R.pre b (aJ b.Start to)).map (·.Frame) ++ (R.relF b.Start (aJ b.Start to) (R.post b (aJ b.Start to))).2.1 := rfl
 have hpf : ∀ f ∈ (R.pre b (aJ b.Start to)).map (·.Frame), ∃ x ∈ b.Held, x.Frame = f ∧ aJ b.Start (fq f) < aJ b.Start to := fun f hf => by
  obtain ⟨x, hx, rfl⟩ := List.mem_map.1 hf
  exact ⟨x, (hprm x hx).1, rfl, (hprm x hx).2⟩
 refine ⟨rfl, rfl, rfl, ⟨by omega, by omega⟩, ?_, ?_, ?_, ?_⟩
 ·
  intro h hx
  have h1 := q4 h hx
  have h2 := (hpm h (q6 h hx)).1
  have := hd h h2
  have := hh h h2
  omega
 ·
  rw [hst', List.map_append, List.pairwise_append]
  refine ⟨?_, ?_, ?_⟩
  ·
   rw [List.map_map, List.pairwise_map]
   have : (R.pre b (aJ b.Start to)).Pairwise (fun x y => aJ b.Start x.n < aJ b.Start y.n) := hs.1.sublist List.filter_sublist
   refine List.Pairwise.imp_of_mem ?_ this
   intro x y hx hy hxy
   rw [hd x (hprm x hx).1, hd y (hprm y hy).1] at hxy
   show x.n < y.n; omega
  ·
   rw [List.pairwise_map]
   refine List.Pairwise.imp_of_mem ?_ q3
   intro f g hf hg hfg
   rw [hfd f (hfr f hf), hfd g (hfr g hg)] at hfg
   omega
  ·
   intro i hi j hj
   obtain ⟨f, hf, rfl⟩ := List.mem_map.1 hi
   obtain ⟨g, hg, rfl⟩ := List.mem_map.1 hj
   obtain ⟨x, hx, e, hlt⟩ := hpf f hf
   have h1 := q2 g hg
   rw [hfd f ⟨x, hx, e⟩] at hlt
   rw [hfd g (hfr g hg)] at h1
   omega
 ·
  intro f hf
  rw [hst', List.mem_append] at hf
  rcases hf with hf | hf
  ·
   obtain ⟨x, hx, rfl, hlt⟩ := hpf f hf
   have := hh x hx
   have := hfd x.Frame ⟨x, hx, rfl⟩
   exact ⟨(hh x hx).1, by omega⟩
  ·
   have h1 := q2 f hf
   have h2 := hfd f (hfr f hf)
   omega
 ·
  intro i
  rw [sk, hst']
  constructor
  ·
   rintro ⟨x, hx, rfl⟩
   by_cases hlt : aJ b.Start x.n < aJ b.Start to
   ·
    refine .inl (List.mem_map.2 ⟨x.Frame, List.mem_append.2 (.inl (List.mem_map.2 ⟨x, List.mem_filter.2 ⟨hx, by simpa using hlt⟩, rfl⟩)), rfl⟩)
   ·
    have : x ∈ R.post b (aJ b.Start to) := List.mem_filter.2 ⟨hx, by simpa using hlt⟩
    rcases q5 x this with q | q
    ·
     exact .inr (sk.2 ⟨x, q, rfl⟩)
    ·
     exact .inl (List.mem_map.2 ⟨x.Frame, List.mem_append.2 (.inr q), rfl⟩)
  ·
   rintro (hi | hi)
   ·
    obtain ⟨f, hf, rfl⟩ := List.mem_map.1 hi
    rcases List.mem_append.1 hf with hf | hf
    ·
     obtain ⟨x, hx, rfl, _⟩ := hpf f hf; exact ⟨x, hx, rfl⟩
    ·
     obtain ⟨x, hx, rfl⟩ := hfr f hf; exact ⟨x, hx, rfl⟩
   ·
    obtain ⟨x, hx, rfl⟩ := sk.1 hi
    exact ⟨x, (hpm x (q6 x hx)).1, rfl⟩
end Go.AX.Z.TN

/-! (TNN) -/

set_option linter.unusedVariables false
set_option linter.unusedSimpArgs false
set_option maxRecDepth 20000
namespace Go.AX.Z.TN
open Go.AX

def U64 (B : Int) : Prop := 0 ≤ B ∧ B < 18446744073709551616
end Go.AX.Z.TN

/-! (TNXa) -/

set_option linter.unusedVariables false
set_option linter.unusedSimpArgs false
namespace Go.AX.Z.TN.S
open Go.AX

def KB (lim : Int) (x : Unacked) : Prop := 0 ≤ x.Frame.Head.Seq ∧ x.Frame.Head.Seq ≤ 4095 ∧ 0 ≤ x.At ∧ x.At ≤ 1099511627776 ∧ 0 ≤ x.Tries ∧ x.Tries ≤ lim ∧ (x.Flying = true → x.Tries ≠ 0)
abbrev dq (st : Int) (x : Unacked) : Int := aJ st x.Frame.Head.Seq
structure OkP (st dd lim : Int) (l : List Unacked) : Prop where
 good : ∀ x ∈ l, KB lim x
 dd : ∀ x ∈ l, dq st x < dd
 pw : l.Pairwise fun x y => dq st x < dq st y ∧ x.At ≤ y.At

theorem OkL.toP {st dd lim : Int} : ∀ {l : List Unacked} {last at' : Int}, 0 ≤ at' → OkL st dd lim last at' l → OkP st dd lim l ∧ ∀ x ∈ l, last < dq st x ∧ at' ≤ x.At
 | [], _, _, _, _ => ⟨⟨by simp, by simp, .nil⟩, by simp⟩
 | x :: l, last, at', h0, h => by
  obtain ⟨⟨a, b, c, d, e, f, g, k, m⟩, h2⟩ := h
  obtain ⟨h3, h4⟩ := OkL.toP (l := l) (show 0 ≤ x.At by omega) h2
  refine ⟨⟨?_, ?_, ?_⟩, ?_⟩
  ·
   intro y hy
   rcases List.mem_cons.1 hy with rfl | hy
   ·
    exact ⟨a, b, by omega, f, g, k, m⟩
   ·
    exact h3.good y hy
  ·
   intro y hy
   rcases List.mem_cons.1 hy with rfl | hy
   ·
    exact d
   ·
    exact h3.dd y hy
  ·
   exact List.pairwise_cons.2 ⟨fun y hy => h4 y hy, h3.pw⟩
  ·
   intro y hy
   rcases List.mem_cons.1 hy with rfl | hy
   ·
    exact ⟨c, e⟩
   ·
    have := h4 y hy; unfold dq at this ⊢; omega

theorem Valid.P {s : Sender} (h : Valid s) : OkP (startOf s) (aJ (startOf s) s.Next) s.Limit s.Out := by
 obtain ⟨_, _, _, _, _, _, _, _, _, q⟩ := h
 exact (OkL.toP (by omega) q).1

end Go.AX.Z.TN.S

/-! (TNX) -/

set_option linter.unusedVariables false
set_option linter.unusedSimpArgs false
set_option maxRecDepth 20000
namespace Go.AX.Z.TN
open Go.AX

abbrev un (x : Unacked) : Int := x.Frame.Head.Seq
theorem F3 {a m i : Int} : i ∈ rng a m ↔ a ≤ i ∧ i < m := by
 unfold rng
 rw [List.mem_map]
 constructor
 ·
  rintro ⟨k, hk, rfl⟩
  rw [List.mem_range] at hk; omega
 ·
  intro h
  exact ⟨(i - a).toNat, List.mem_range.2 (by omega), by omega⟩
theorem C5 {a m : Int} (h : a ≤ m) : rng a (m + 1) = rng a m ++ [m] := by
 unfold rng
 rw [show (m + 1 - a).toNat = (m - a).toNat + 1 by omega, List.range_succ, List.map_append]
 congr 1
 simp; omega
def Ord (l : List Unacked) : Prop := l.Pairwise fun x y => un x < un y ∧ x.At ≤ y.At ∧ y.Tries ≤ x.Tries
structure JA (lim : Int) (A : Sender) (a : Int) (K X : List Int) : Prop where
 next : A.Next = a
 perm : (K ++ X ++ S.seqs A.Out).Perm (rng 0 a)
 tries : A.Out.Pairwise fun x y => y.Tries ≤ x.Tries
 drop : ∀ i ∈ X, i < S.startOf A
 barx : A.Bar = true → X ≠ []
 lim : A.Limit = lim
structure JB (b : Reorder) (a : Int) (D : List Int) : Prop where
 r : 0 ≤ b.Start ∧ b.Start ≤ a
 held : ∀ h ∈ b.Held, b.Start < h.n ∧ h.n < a
 inc : D.Pairwise (· < ·)
 lt : ∀ i ∈ D, 0 ≤ i ∧ i < b.Start
 u : U64 b.Seen.Bits
 seen : ∀ i, S.hasB b.Seen i = true → i ∈ D ∨ i ∈ hn b
structure J (s : SS) : Prop where
 p0 : s.plan.Start = 0
 pok : jh s.plan
 acc : 0 ≤ s.accepted ∧ s.accepted ≤ s.many ∧ s.many ≤ 200
 A : JA s.plan.Limit s.sides.Sender s.accepted s.out.Acked s.out.Dropped
 B : JB s.sides.Reorder s.accepted s.out.Delivered
 rcv : ∀ i ∈ s.out.Acked, i ∈ s.out.Delivered ∨ i ∈ hn s.sides.Reorder
 bar : s.sides.Sender.Bar = false → ∀ i ∈ s.out.Dropped, i < s.sides.Reorder.Start
def Fly (s : SS) : Prop := ∀ x ∈ s.sides.Sender.Out, x.Flying = false

theorem JA.mem {lim : Int} {A : Sender} {a : Int} {K X : List Int} (h : JA lim A a K X) (i : Int) : (i ∈ K ∨ i ∈ X ∨ i ∈ S.seqs A.Out) ↔ 0 ≤ i ∧ i < a := by
 rw [← F3, ← h.perm.mem_iff]
 simp [or_assoc]
theorem JA.out {lim : Int} {A : Sender} {a : Int} {K X : List Int} (h : JA lim A a K X) : ∀ x ∈ A.Out, 0 ≤ un x ∧ un x < a := fun x hx => (h.mem (un x)).1 (.inr (.inr (List.mem_map.2 ⟨x, hx, rfl⟩)))
theorem JA.ord {lim : Int} {A : Sender} {a : Int} {K X : List Int} (h : JA lim A a K X) (h0 : 0 ≤ a) (ha : a ≤ 200) (hv : S.Valid A) : Ord A.Out ∧ (∀ x ∈ A.Out, S.startOf A ≤ un x) ∧ 0 ≤ S.startOf A ∧ S.startOf A ≤ a := by
 have hP := hv.P
 have hp := hv
 obtain ⟨_, _, _, _, _, _, q0, q00, q1, q2⟩ := hp
 have hsz : A.Size ≤ 64 := by split at q0 <;> omega
 have hm := h.out
 cases hO : A.Out with
 | nil =>
  have e : S.startOf A = A.Next := by unfold S.startOf; rw [hO]
  rw [e, h.next]
  exact ⟨.nil, by simp, h0, Int.le_refl _⟩
 | cons x l =>
  have e : S.startOf A = un x := by unfold S.startOf; rw [hO]
  have hx := hm x (by rw [hO]; simp)
  rw [e] at hP q1
  rw [e]
  have hs : ∀ y ∈ x :: l, un x ≤ un y ∧ aJ (un x) (un y) = un y - un x := by
   intro y hy
   have hy1 := hm y (by rw [hO]; exact hy)
   have h1 := hP.dd y (by rw [hO]; exact hy)
   by_cases hle : un x ≤ un y
   ·
    exact ⟨hle, ua hle (by omega)⟩
   ·
    have : aJ (un x) (un y) = 4096 - (un x - un y) := Bj (by omega) (by omega)
    have h1' : aJ (un x) (un y) < aJ (un x) A.Next := h1
    omega
  refine ⟨?_, fun y hy => (hs y hy).1, hx.1, by omega⟩
  have hpw := hP.pw
  have ht := h.tries
  rw [hO] at hpw ht
  refine List.Pairwise.imp_of_mem ?_ (hpw.and ht)
  intro y z hy hz hyz
  have h1 : aJ (un x) (un y) < aJ (un x) (un z) := hyz.1.1
  rw [(hs y hy).2, (hs z hz).2] at h1
  exact ⟨by omega, hyz.1.2, hyz.2⟩
end Go.AX.Z.TN

/-! (TNXb) -/

set_option linter.unusedVariables false
set_option linter.unusedSimpArgs false
set_option maxRecDepth 20000
namespace Go.AX.Z.TN
open Go.AX

theorem Cf (p : Unacked → Bool) (l : List Unacked) (i : Int) : (S.seqs l).count i = (S.seqs (l.filter p)).count i + (S.seqs (l.filter fun x => !p x)).count i := by
 have h := (List.filter_append_perm p l).map un
 rw [List.map_append] at h
 have := h.count_eq i
 rw [List.count_append] at this
 exact this.symm
theorem Dc {A A' : Sender} {a : Int} (hn : A'.Next = a) (h : ∀ x ∈ A'.Out, S.startOf A ≤ un x) (ha : S.startOf A ≤ a) : S.startOf A ≤ S.startOf A' := by
 unfold S.startOf at *
 cases hO : A'.Out with
 | nil => simp only [hn]; exact ha
 | cons x l => exact h x (by rw [hO]; simp)

structure Ex (lim : Int) (A : Sender) (a t : Int) (K X : List Int) : Prop where
 J : JA lim (S.expS A t) a K (X ++ S.expN A t)
 fly : ∀ x ∈ (S.expS A t).Out, x.Flying = false ∧ x.Tries ≠ lim
 mem : ∀ i ∈ S.expN A t, 0 ≤ i ∧ i < a
 bar : (S.expS A t).Bar = false → X ++ S.expN A t = X ∧ A.Bar = false
theorem JA.off {lim : Int} {A : Sender} {a : Int} {K X : List Int} (h : JA lim A a K X) (h0 : 0 ≤ a) (ha : a < 200) (hv : S.Valid A) (t : Int) : JA lim (S.offS A Frame.z t) (a + 1) K X := by
 have hP := hv.P
 refine ⟨?_, ?_, ?_, ?_, h.barx, h.lim⟩
 ·
  show (A.Next + 1) % 4096 = a + 1
  rw [h.next]; omega
 ·
  rw [C5 h0]
  have e : S.seqs (S.offS A Frame.z t).Out = S.seqs A.Out ++ [a] := by
   simp only [S.offS, S.seqs, List.map_append, List.map_cons, List.map_nil, S.offF, h.next]
  rw [e, ← List.append_assoc]
  exact h.perm.append_right _
 ·
  show (A.Out ++ [_]).Pairwise _
  rw [List.pairwise_append]
  refine ⟨h.tries, List.pairwise_singleton _ _, fun x hx y hy => ?_⟩
  simp only [List.mem_singleton] at hy
  subst hy
  exact (hP.good x hx).2.2.2.2.1
 ·
  have e : S.startOf (S.offS A Frame.z t) = S.startOf A := by
   unfold S.startOf S.offS
   cases A.Out <;> rfl
  rw [e]; exact h.drop

theorem vW (l : List Unacked) : S.seqs (l.map S.unfly) = S.seqs l := by
 unfold S.seqs
 rw [List.map_map]; rfl
theorem BX (B : Sender) : S.startOf B = match S.seqs B.Out with | [] => B.Next | x :: _ => x := by
 unfold S.startOf S.seqs; cases B.Out <;> rfl
theorem JA.lost {lim : Int} {A : Sender} {a : Int} {K X : List Int} (h : JA lim A a K X) : JA lim (S.lostS A) a K X := by
 have hs : S.seqs (S.lostS A).Out = S.seqs A.Out := vW _
 refine ⟨h.next, by rw [hs]; exact h.perm, ?_, fun i hi => ?_, h.barx, h.lim⟩
 ·
  show (A.Out.map S.unfly).Pairwise _
  rw [List.pairwise_map]; exact h.tries
 ·
  have := h.drop i hi
  rw [BX] at this ⊢
  rw [hs]; exact this
theorem JA.ack {lim : Int} {A : Sender} {a : Int} {K X : List Int} (h : JA lim A a K X) (h0 : 0 ≤ a) (ha : a ≤ 200) (hv : S.Valid A) (w : Window) :
  JA lim (S.ackS A w) a (K ++ S.seqs (A.Out.filter (S.pA w))) X ∧ (∀ i ∈ S.seqs (A.Out.filter (S.pA w)), (0 ≤ i ∧ i < a) ∧ S.hasB w i = true) := by
 obtain ⟨o1, o2, o3, o4⟩ := h.ord h0 ha hv
 have hs : S.seqs (S.ackS A w).Out = S.seqs (A.Out.filter fun x => !S.pA w x) := vW _
 refine ⟨⟨h.next, ?_, ?_, ?_, h.barx, h.lim⟩, ?_⟩
 ·
  rw [List.perm_iff_count]
  intro i
  have h1 := h.perm.count_eq i
  have h2 := Cf (S.pA w) A.Out i
  rw [hs]
  simp only [List.count_append] at h1 ⊢
  omega
 ·
  show ((A.Out.filter fun x => !S.pA w x).map S.unfly).Pairwise _
  rw [List.pairwise_map]; exact h.tries.sublist List.filter_sublist
 ·
  intro i hi
  have h1 := h.drop i hi
  have := Dc (A := A) (A' := S.ackS A w) (a := a) h.next (fun x hx => by
   obtain ⟨y, hy, rfl⟩ := List.mem_map.1 hx
   exact o2 y (List.mem_filter.1 hy).1) o4
  omega
 ·
  intro i hi
  obtain ⟨x, hx, rfl⟩ := List.mem_map.1 hi
  obtain ⟨h1, h2⟩ := List.mem_filter.1 hx
  refine ⟨h.out x h1, ?_⟩
  unfold S.pA at h2
  rw [Bool.and_eq_true] at h2
  exact h2.2
theorem xA (l : List Unacked) : ∀ x ∈ l.map S.unfly, x.Flying = false := fun x hx => by
 obtain ⟨y, _, rfl⟩ := List.mem_map.1 hx; rfl
end Go.AX.Z.TN

/-! (TNXc) -/

set_option linter.unusedVariables false
set_option linter.unusedSimpArgs false
set_option maxRecDepth 20000
namespace Go.AX.Z.TN
open Go.AX

structure Go (a : Int) (b : Reorder) (D : List Int) (nx : Reorder) (out : List Frame) : Prop where
 J : JB nx a (D ++ out.map fq)
 mono : b.Start ≤ nx.Start
 rc : ∀ i, i ∈ D ∨ i ∈ hn b → i ∈ D ++ out.map fq ∨ i ∈ hn nx
 rng : ∀ f ∈ out, 0 ≤ fq f ∧ fq f < 4096
theorem JB.go {a : Int} {b : Reorder} {D : List Int} (ha : a ≤ 200) (hr : 0 ≤ b.Start) (hh : ∀ h ∈ b.Held, b.Start ≤ h.n ∧ h.n < a) (hi : D.Pairwise (· < ·)) (hl : ∀ i ∈ D, 0 ≤ i ∧ i < b.Start) (hu : U64 b.Seen.Bits) (hs : ∀ i, S.hasB b.Seen i = true → i ∈ D ∨ i ∈ hn b) (hso : R.Sortd b.Start b.Held) {to : Int} (ht : b.Start ≤ to ∧ to ≤ a) :
  Go a b D (R.mvF b (aJ b.Start to)).2 (R.mvF b (aJ b.Start to)).1 ∧ to ≤ (R.mvF b (aJ b.Start to)).2.Start := by
 have m := JE ha hr hso hh ht
 have rc : ∀ i, i ∈ D ∨ i ∈ hn b → i ∈ D ++ (R.mvF b (aJ b.Start to)).1.map fq ∨ i ∈ hn (R.mvF b (aJ b.Start to)).2 := by
  intro i hi
  rw [List.mem_append]
  rcases hi with hi | hi
  ·
   exact .inl (.inl hi)
  ·
   rcases (m.iff i).1 hi with q | q
   ·
    exact .inl (.inr q)
   ·
    exact .inr q
 refine ⟨⟨⟨⟨by have := m.le; omega, m.le.2⟩, m.held, ?_, ?_, by rw [m.seen]; exact hu, fun i h => rc i (hs i (by rw [← m.seen]; exact h))⟩, by have := m.le; omega, rc, fun f hf => by have := m.rng f hf; have := m.le; omega⟩, m.le.1⟩
 ·
  rw [List.pairwise_append]
  refine ⟨hi, m.inc, fun i h j hj => ?_⟩
  obtain ⟨f, hf, rfl⟩ := List.mem_map.1 hj
  have h1 := m.rng f hf
  have h2 := hl i h
  omega
 ·
  intro i hi
  rcases List.mem_append.1 hi with hi | hi
  ·
   have := hl i hi
   have := m.le
   omega
  ·
   obtain ⟨f, hf, rfl⟩ := List.mem_map.1 hi
   have := m.rng f hf
   omega
theorem JB.stay {a : Int} {b : Reorder} {D : List Int} (h : JB b a D) : Go a b D b [] :=
 ⟨by simpa using h, Int.le_refl _, fun i hi => by simpa using hi, by simp⟩
theorem JB.move {a : Int} {b : Reorder} {D : List Int} (h : JB b a D) (ha : a ≤ 200) (hv : R.VR b) {to : Int} (ht : b.Start ≤ to ∧ to ≤ a) :
  Go a b D (R.mvF b (aJ b.Start to)).2 (R.mvF b (aJ b.Start to)).1 ∧ to ≤ (R.mvF b (aJ b.Start to)).2.Start :=
 JB.go ha h.r.1 (fun x hx => by have := h.held x hx; omega) h.inc h.lt h.u h.seen hv.sortd ht

theorem Dn {b : Reorder} {n : Int} (h : (R.barF b n).2.2 = 0) : R.VR b ∧ R.okN n ∧ R.barF b n = if 2048 ≤ aJ b.Start n then ([], b, 0) else ((R.mvF b (aJ b.Start n)).1, (R.mvF b (aJ b.Start n)).2, 0) := by
 unfold R.barF at h ⊢
 by_cases hv : R.VR b
 ·
  rw [if_pos hv] at h ⊢
  by_cases hn : R.okN n
  ·
   rw [if_pos hn] at h ⊢; exact ⟨hv, hn, rfl⟩
  ·
   rw [if_neg hn] at h; cases h
 ·
  rw [if_neg hv] at h; cases h
theorem JB.bar {a : Int} {b : Reorder} {D : List Int} (h : JB b a D) (ha : a ≤ 200) {n : Int} (hn : 0 ≤ n ∧ n ≤ a) (ho : (R.barF b n).2.2 = 0) : Go a b D (R.barF b n).2.1 (R.barF b n).1 ∧ n ≤ (R.barF b n).2.1.Start := by
 obtain ⟨hv, _, e⟩ := Dn ho
 have hr := h.r
 rw [e]
 by_cases hd : 2048 ≤ aJ b.Start n
 ·
  rw [if_pos hd]
  refine ⟨h.stay, ?_⟩
  show n ≤ b.Start
  apply Int.not_lt.1; intro hlt
  rw [ua (by omega) (by omega)] at hd; omega
 ·
  rw [if_neg hd]
  have hle : b.Start ≤ n := by
   apply Int.not_lt.1; intro hlt
   rw [Bj hlt (by omega)] at hd; omega
  exact h.move ha hv ⟨hle, hn.2⟩
theorem Iz {b : Reorder} {n : Int} (h : (R.expF b n).2.2 = 0) : R.VR b ∧ R.expF b n = match R.ld b.Hold n b.Held with | some x => ((R.mvF b (aJ b.Start ((x.n + 1) % 4096))).1, (R.mvF b (aJ b.Start ((x.n + 1) % 4096))).2, 0) | none => ([], b, 0) := by
 unfold R.expF at h ⊢
 by_cases hv : R.VR b
 ·
  rw [if_pos hv] at h ⊢
  by_cases hn : 0 ≤ n ∧ n ≤ 1099511627776
  ·
   rw [if_pos hn] at h ⊢; exact ⟨hv, rfl⟩
  ·
   rw [if_neg hn] at h; cases h
 ·
  rw [if_neg hv] at h; cases h
theorem GB (b : Reorder) (x : HeldSeq) (i : Int) : i ∈ hn (R.putB b x) ↔ i ∈ hn b ∨ i = x.n := by
 simp only [sk, R.putB, R.insF, List.mem_append, List.mem_singleton]
 constructor
 ·
  rintro ⟨h, (h1 | h1) | h1, rfl⟩
  ·
   exact .inl ⟨h, (List.mem_filter.1 h1).1, rfl⟩
  ·
   exact .inr (by rw [h1])
  ·
   exact .inl ⟨h, (List.mem_filter.1 h1).1, rfl⟩
 ·
  rintro (⟨h, h1, rfl⟩ | rfl)
  ·
   refine ⟨h, ?_, rfl⟩
   by_cases hd : aJ b.Start h.n < aJ b.Start x.n
   ·
    exact .inl (.inl (List.mem_filter.2 ⟨h1, by simpa using hd⟩))
   ·
    exact .inr (List.mem_filter.2 ⟨h1, by simpa using hd⟩)
  ·
   exact ⟨x, .inl (.inr rfl), rfl⟩
theorem J.upB {s : SS} (h : J s) {nx : Reorder} {out : List Frame} (g : Go s.accepted s.sides.Reorder s.out.Delivered nx out) : J { s with sides.Reorder := nx, out.Delivered := s.out.Delivered ++ rel s.plan out } := by
 rw [G3 h.p0 g.rng]
 refine ⟨h.p0, h.pok, h.acc, h.A, g.J, fun i hi => g.rc i (h.rcv i hi), fun hb i hi => ?_⟩
 have := h.bar hb i hi
 have := g.mono
 show i < nx.Start; omega
theorem J.keep {s : SS} (h : J s) (e : Int) : J (dz e s) := ⟨h.p0, h.pok, h.acc, h.A, h.B, h.rcv, h.bar⟩
theorem gE {e : Int} {s : SS} (h : (dz e s).err = 0) : s.err = 0 ∧ e = 0 := by
 unfold dz at h
 simp only at h
 by_cases hs : s.err = 0
 ·
  rw [if_pos hs] at h; exact ⟨hs, h⟩
 ·
  rw [if_neg hs] at h; exact absurd h hs

theorem J.move {s : SS} (h : J s) {to : Int} (ht : 0 ≤ to ∧ to ≤ s.accepted) (he : (gp to s).err = 0) : J (gp to s) ∧ to ≤ (gp to s).sides.Reorder.Start := by
 have ho := (gE (s := s) he).2
 obtain ⟨g, g2⟩ := h.B.bar (by have := h.acc; omega) ht ho
 exact ⟨(h.keep _).upB g, g2⟩
theorem pz (now : Int) : ∀ (l : List Frame) (s : SS) (d : List Bool), (gu now l s d).1.err = s.err ∧ (gu now l s d).1.sides.Sender = s.sides.Sender
 | [], s, d => ⟨rfl, rfl⟩
 | f :: l, s, d => by
  unfold gu
  split
  ·
   exact pz now l s _
  ·
   split
   ·
    exact pz now l _ _
   ·
    exact pz now l s _
theorem J.upA {s : SS} (h : J s) {A : Sender} (hA : JA s.plan.Limit A s.accepted s.out.Acked s.out.Dropped) (hb : A.Bar = s.sides.Sender.Bar) : J { s with sides.Sender := A } :=
 ⟨h.p0, h.pok, h.acc, hA, h.B, h.rcv, fun q => h.bar (by rw [← hb]; exact q)⟩

theorem HK {A : Sender} {k : Int} (h : (S.pikR A k).2.2 = 0) : S.Valid A ∧ 0 ≤ k ∧ S.pikR A k = ((S.pickR A.Limit k 0 A.Out).2, S.pickS A k, 0) := by
 unfold S.pikR at h ⊢
 by_cases hv : S.Valid A
 ·
  rw [if_pos hv] at h ⊢
  by_cases hk : 0 ≤ k
  ·
   rw [if_pos hk] at h ⊢
   by_cases hp : A.Phase = 2
   ·
    rw [if_pos hp]; exact ⟨hv, hk, rfl⟩
   ·
    rw [if_neg hp] at h; cases h
  ·
   rw [if_neg hk] at h; cases h
 ·
  rw [if_neg hv] at h; cases h
theorem E5 {A : Sender} (h : (S.lostR A).2 = 0) : S.Valid A ∧ S.lostR A = (S.lostS A, 0) := by
 unfold S.lostR at h ⊢
 by_cases hv : S.Valid A
 ·
  rw [if_pos hv] at h ⊢
  by_cases hp : A.Phase = 2
  ·
   rw [if_pos hp]; exact ⟨hv, rfl⟩
  ·
   rw [if_neg hp] at h; cases h
 ·
  rw [if_neg hv] at h; cases h
theorem Ct {b : Reorder} (h : (R.repR b).2 = 0) : R.VR b ∧ R.repR b = (b.Seen, 0) := by
 unfold R.repR at h ⊢
 by_cases hv : R.VR b
 ·
  rw [if_pos hv]; exact ⟨hv, rfl⟩
 ·
  rw [if_neg hv] at h; cases h
theorem IA {A : Sender} {w : Window} (h : (S.ackR A w).2.2 = 0) : S.Valid A ∧ S.ackR A w = (S.seqs (A.Out.filter (S.pA w)), S.ackS A w, 0) := by
 unfold S.ackR at h ⊢
 by_cases hv : S.Valid A
 ·
  rw [if_pos hv] at h ⊢
  by_cases hk : S.okW w
  ·
   rw [if_pos hk] at h ⊢
   by_cases hp : A.Phase = 2
   ·
    rw [if_pos hp]; exact ⟨hv, rfl⟩
   ·
    rw [if_neg hp] at h; cases h
  ·
   rw [if_neg hk] at h; cases h
 ·
  rw [if_neg hv] at h; cases h
theorem J.rep {s : SS} (h : J s) (d : List Bool) (he : (jW s d).1.err = 0) : s.err = 0 ∧ J (jW s d).1 ∧ Fly (jW s d).1 := by
 have ha := h.acc
 unfold jW at he ⊢
 by_cases hd : (eK d).1 = true
 ·
  rw [if_pos hd] at he ⊢
  obtain ⟨k1, k2⟩ := gE (s := s) he
  obtain ⟨hv, e⟩ := E5 k2
  refine ⟨k1, ?_, ?_⟩
  ·
   rw [e]; exact (h.keep _).upA h.A.lost rfl
  ·
   rw [e]; exact xA _
 ·
  rw [if_neg hd] at he ⊢
  obtain ⟨k1, k2⟩ := gE (s := dz (R.repR s.sides.Reorder).2 s) he
  obtain ⟨k3, k4⟩ := gE k1
  obtain ⟨hvb, eb⟩ := Ct k4
  rw [eb] at k2
  obtain ⟨hv, e⟩ := IA k2
  obtain ⟨a1, a2⟩ := h.A.ack ha.1 (by omega) hv s.sides.Reorder.Seen
  rw [eb, e]
  simp only
  rw [EG h.p0 (fun i hi => by have := (a2 i hi).1; omega)]
  refine ⟨k3, ⟨h.p0, h.pok, h.acc, a1, h.B, fun i hi => ?_, h.bar⟩, xA _⟩
  rcases List.mem_append.1 hi with hi | hi
  ·
   exact h.rcv i hi
  ·
   exact h.B.seen i (a2 i hi).2

theorem uL (now : Int) (n : Nat) {s : SS} (h : s.err ≠ 0) : dt now n s = s := by
 cases n with
 | zero => rfl
 | succ n => unfold dt; rw [if_neg (fun q => h q.2)]
end Go.AX.Z.TN

/-! (TNXd) -/

set_option linter.unusedVariables false
set_option linter.unusedSimpArgs false
set_option maxRecDepth 20000
namespace Go.AX.Z.TN
open Go.AX

theorem FR {A : Sender} (h : (S.barR A).2 = 0) : S.Valid A ∧ S.barR A = (S.barS A, 0) := by
 unfold S.barR at h ⊢
 by_cases hv : S.Valid A
 ·
  rw [if_pos hv] at h ⊢
  by_cases hp : A.Phase = 2
  ·
   rw [if_pos hp] at h ⊢
   by_cases hb : A.Bar = true
   ·
    rw [if_pos hb]; exact ⟨hv, rfl⟩
   ·
    rw [if_neg hb] at h; cases h
  ·
   rw [if_neg hp] at h; cases h
 ·
  rw [if_neg hv] at h; cases h
structure Fin (many : Int) (o : SessionResult) : Prop where
 perm : (o.Acked ++ o.Dropped).Perm (rng 0 many)
 inc : o.Delivered.Pairwise (· < ·)
 lt : ∀ i ∈ o.Delivered, 0 ≤ i ∧ i < many
 rcv : ∀ i ∈ o.Acked, i ∈ o.Delivered
 rounds : 0 ≤ o.Rounds ∧ o.Rounds ≤ 2000
 some : 0 < many ↔ 0 < o.Rounds

end Go.AX.Z.TN

/-! (TNXe) -/

set_option linter.unusedVariables false
set_option linter.unusedSimpArgs false
set_option maxRecDepth 20000
namespace Go.AX.Z.TN
open Go.AX

def sh (k n : Int) : Int := (n + k) % 4096
theorem en (k a b : Int) : aJ (sh k a) (sh k b) = aJ a b := by unfold aJ sh; omega
theorem oT (k n : Int) : 0 ≤ sh k n ∧ sh k n < 4096 := by unfold sh; omega
theorem u5 (k a b : Int) : (sh k a + b) % 4096 = sh k ((a + b) % 4096) := by unfold sh; omega
def shF (k : Int) (f : Frame) : Frame := { f with Head := { f.Head with Seq := sh k f.Head.Seq } }
def shU (k : Int) (x : Unacked) : Unacked := { x with Frame := shF k x.Frame }
def shA (k : Int) (A : Sender) : Sender := { A with Next := sh k A.Next, Out := A.Out.map (shU k) }
theorem jE {α : Type} {f : α → α} {p q : α → Bool} : ∀ {l : List α}, (∀ x ∈ l, p (f x) = q x) → (l.map f).filter p = (l.filter q).map f
 | [], _ => rfl
 | x :: l, h => by
  have ih := jE (f := f) (p := p) (q := q) (l := l) fun y hy => h y (by simp [hy])
  have hx := h x (by simp)
  rw [List.map_cons]
  cases hq : q x with
  | true => rw [List.filter_cons_of_pos (by rw [hx, hq]), List.filter_cons_of_pos hq, List.map_cons, ih]
  | false => rw [List.filter_cons_of_neg (by rw [hx, hq]; decide), List.filter_cons_of_neg (by rw [hq]; decide), ih]
theorem kQ (k : Int) (A : Sender) : S.startOf (shA k A) = sh k (S.startOf A) := by
 unfold S.startOf
 show (match A.Out.map (shU k) with | [] => sh k A.Next | x :: _ => x.Frame.Head.Seq) = _
 cases A.Out <;> rfl
theorem Bh (k : Int) {st dd lim : Int} : ∀ {l : List Unacked} {last at' : Int}, S.OkL st dd lim last at' l → S.OkL (sh k st) dd lim last at' (l.map (shU k))
 | [], _, _, _ => trivial
 | x :: l, last, at', h => by
  obtain ⟨⟨a, b, c, d, e, f, g, i, j⟩, h2⟩ := h
  have ih := Bh k h2
  have e1 : aJ (sh k st) (shU k x).Frame.Head.Seq = aJ st x.Frame.Head.Seq := en k _ _
  have hs : 0 ≤ (shU k x).Frame.Head.Seq ∧ (shU k x).Frame.Head.Seq < 4096 := oT k _
  refine ⟨⟨hs.1, by omega, by rw [e1]; exact c, by rw [e1]; exact d, e, f, g, i, j⟩, ?_⟩
  rw [e1]; exact ih
theorem iT (k : Int) {A : Sender} (h : S.Valid A) : S.Valid (shA k A) := by
 obtain ⟨a, b, c, d, e, f, g, h, i, j⟩ := h
 have hs := oT k A.Next
 have e1 : aJ (S.startOf (shA k A)) (shA k A).Next = aJ (S.startOf A) A.Next := by rw [kQ]; exact en k _ _
 refine ⟨a, b, c, ⟨hs.1, by show sh k A.Next ≤ 4095; omega⟩, e, f, g, fun q => ?_, ?_, ?_⟩
 ·
  obtain ⟨h1, h2⟩ := h q
  exact ⟨by show A.Out.map _ = []; rw [h1]; rfl, h2⟩
 ·
  rw [e1]; exact i
 ·
  rw [e1, kQ]; exact Bh k j
theorem xV (k : Int) (l : List Unacked) : S.seqs (l.map (shU k)) = (S.seqs l).map (sh k) := by
 unfold S.seqs; rw [List.map_map, List.map_map]; rfl

theorem By (k : Int) (A : Sender) (t : Int) : S.expN (shA k A) t = (S.expN A t).map (sh k) := by
 unfold S.expN
 show S.seqs ((A.Out.map (shU k)).filter (S.pX A.Limit A.Life t)) = _
 rw [jE (f := shU k) (q := S.pX A.Limit A.Life t) (fun x _ => rfl), xV]
theorem EJ (k : Int) (A : Sender) (t : Int) : S.expS (shA k A) t = shA k (S.expS A t) := by
 unfold S.expS
 rw [By, List.length_map]
 have : (shA k A).Out.filter (fun x => !S.pX (shA k A).Limit (shA k A).Life t x) = (A.Out.filter (fun x => !S.pX A.Limit A.Life t x)).map (shU k) := jE (fun x _ => rfl)
 rw [this]; rfl
theorem FI (k : Int) {A : Sender} {t : Int} (h : (S.expR A t).2.2 = 0) : S.expR (shA k A) t = ((S.expR A t).1.map (sh k), shA k (S.expR A t).2.1, 0) := by
 unfold S.expR at h ⊢
 by_cases hv : S.Valid A
 ·
  rw [if_pos hv] at h
  rw [if_pos (iT k hv), if_pos hv]
  by_cases ht : 0 ≤ t ∧ t ≤ 1099511627776
  ·
   rw [if_pos ht] at h
   rw [if_pos ht, if_pos ht]
   by_cases hp : A.Phase = 2
   ·
    rw [if_pos (show (shA k A).Phase = 2 from hp), if_pos hp, By, EJ]
   ·
    rw [if_neg hp] at h; cases h
  ·
   rw [if_neg ht] at h; cases h
 ·
  rw [if_neg hv] at h; cases h
theorem Cn (k : Int) {A : Sender} (h : (S.closeR A).2.2 = 0) : S.closeR (shA k A) = ((S.closeR A).1.map (sh k), shA k (S.closeR A).2.1, 0) := by
 unfold S.closeR at h ⊢
 by_cases hv : S.Valid A
 ·
  rw [if_pos (iT k hv), if_pos hv]
  have : S.seqs (shA k A).Out = (S.seqs A.Out).map (sh k) := xV k _
  rw [this]; rfl
 ·
  rw [if_neg hv] at h; cases h
theorem Fw (k : Int) (A : Sender) (t : Int) : S.offS (shA k A) Frame.z t = shA k (S.offS A Frame.z t) := by
 unfold S.offS
 have e1 : ((shA k A).Next + 1) % 4096 = sh k ((A.Next + 1) % 4096) := u5 k _ _
 rw [e1]
 show ({ shA k A with Next := _, Out := A.Out.map (shU k) ++ _ } : Sender) = _
 simp only [shA, List.map_append, List.map_cons, List.map_nil]
 rfl
theorem xg (k : Int) (A : Sender) : S.lastAt (shA k A) = S.lastAt A := by
 unfold S.lastAt
 show (match (A.Out.map (shU k)).getLast? with | some x => x.At | none => 0) = _
 rw [List.getLast?_map]
 cases A.Out.getLast? <;> rfl
theorem AH (k : Int) (A : Sender) : (shA k A).Out ≠ [] ↔ A.Out ≠ [] := by
 show A.Out.map (shU k) ≠ [] ↔ _
 cases A.Out <;> simp
theorem Ff (k : Int) {A : Sender} {t : Int} (h : (S.offR A t).2.2 = 0) : (S.offR (shA k A) t).2 = (shA k (S.offR A t).2.1, 0) := by
 unfold S.offR at h ⊢
 by_cases hv : S.Valid A
 ·
  rw [if_pos hv] at h
  rw [if_pos (iT k hv), if_pos hv]
  by_cases ht : 0 ≤ t ∧ t ≤ 1099511627776
  ·
   rw [if_pos ht] at h
   rw [if_pos ht, if_pos ht]
   by_cases hp : A.Phase = 2
   ·
    rw [if_pos hp] at h
    rw [if_pos (show (shA k A).Phase = 2 from hp), if_pos hp]
    by_cases h1 : A.Out ≠ [] ∧ t < S.lastAt A
    ·
     rw [if_pos h1] at h; cases h
    ·
     rw [if_neg h1] at h
     rw [if_neg (show ¬ ((shA k A).Out ≠ [] ∧ t < S.lastAt (shA k A)) by rw [AH, xg]; exact h1), if_neg h1]
     by_cases h2 : A.Size ≤ aJ (S.startOf A) A.Next
     ·
      rw [if_pos h2] at h; cases h
     ·
      rw [if_neg (show ¬ ((shA k A).Size ≤ aJ (S.startOf (shA k A)) (shA k A).Next) by rw [kQ]; show ¬ (A.Size ≤ aJ _ (sh k A.Next)); rw [en]; exact h2), if_neg h2]
      rw [Fw]
   ·
    rw [if_neg hp] at h; cases h
  ·
   rw [if_neg ht] at h; cases h
 ·
  rw [if_neg hv] at h; cases h
theorem B8 (k : Int) {A : Sender} {t : Int} (h : (S.offR A t).2.2 = 22) : (S.offR (shA k A) t).2.2 = 22 := by
 unfold S.offR at h ⊢
 by_cases hv : S.Valid A
 ·
  rw [if_pos hv] at h
  rw [if_pos (iT k hv)]
  by_cases ht : 0 ≤ t ∧ t ≤ 1099511627776
  ·
   rw [if_pos ht] at h
   rw [if_pos ht]
   by_cases hp : A.Phase = 2
   ·
    rw [if_pos hp] at h
    rw [if_pos (show (shA k A).Phase = 2 from hp)]
    by_cases h1 : A.Out ≠ [] ∧ t < S.lastAt A
    ·
     rw [if_pos h1] at h; cases h
    ·
     rw [if_neg h1] at h
     rw [if_neg (show ¬ ((shA k A).Out ≠ [] ∧ t < S.lastAt (shA k A)) by rw [AH, xg]; exact h1)]
     by_cases h2 : A.Size ≤ aJ (S.startOf A) A.Next
     ·
      rw [if_pos (show (shA k A).Size ≤ aJ (S.startOf (shA k A)) (shA k A).Next by rw [kQ]; show A.Size ≤ aJ _ (sh k A.Next); rw [en]; exact h2)]
     ·
      rw [if_neg h2] at h; cases h
   ·
    rw [if_neg hp] at h; cases h
  ·
   rw [if_neg ht] at h; cases h
 ·
  rw [if_neg hv] at h; cases h
theorem u0 (k lim n : Int) : ∀ (l : List Unacked) (c : Nat), S.pickR lim n c (l.map (shU k)) = ((S.pickR lim n c l).1.map (shU k), (S.pickR lim n c l).2.map (shF k))
 | [], c => rfl
 | x :: l, c => by
  rw [List.map_cons]
  unfold S.pickR
  by_cases h1 : (c : Int) = n
  ·
   rw [if_pos h1, if_pos h1]; rfl
  ·
   rw [if_neg h1, if_neg h1]
   by_cases h2 : (x.Flying || (x.Tries == lim)) = true
   ·
    rw [if_pos (show ((shU k x).Flying || ((shU k x).Tries == lim)) = true from h2), if_pos h2, u0 k lim n l c]; rfl
   ·
    rw [if_neg (show ¬ ((shU k x).Flying || ((shU k x).Tries == lim)) = true from h2), if_neg h2, u0 k lim n l (c + 1)]; rfl
theorem Bn (k : Int) {A : Sender} {n : Int} (h : (S.pikR A n).2.2 = 0) : S.pikR (shA k A) n = ((S.pikR A n).1.map (shF k), shA k (S.pikR A n).2.1, 0) := by
 unfold S.pikR at h ⊢
 by_cases hv : S.Valid A
 ·
  rw [if_pos hv] at h
  rw [if_pos (iT k hv), if_pos hv]
  by_cases ht : 0 ≤ n
  ·
   rw [if_pos ht] at h
   rw [if_pos ht, if_pos ht]
   by_cases hp : A.Phase = 2
   ·
    rw [if_pos (show (shA k A).Phase = 2 from hp), if_pos hp]
    have e := u0 k A.Limit n A.Out 0
    have e' : S.pickR (shA k A).Limit n 0 (shA k A).Out = _ := e
    unfold S.pickS
    rw [e']; rfl
   ·
    rw [if_neg hp] at h; cases h
  ·
   rw [if_neg ht] at h; cases h
 ·
  rw [if_neg hv] at h; cases h
theorem Aa (k : Int) (l : List Unacked) : (l.map (shU k)).map S.unfly = (l.map S.unfly).map (shU k) := by
 rw [List.map_map, List.map_map]; rfl
theorem DP (k : Int) {A : Sender} (h : (S.lostR A).2 = 0) : S.lostR (shA k A) = (shA k (S.lostR A).1, 0) := by
 unfold S.lostR at h ⊢
 by_cases hv : S.Valid A
 ·
  rw [if_pos hv] at h
  rw [if_pos (iT k hv), if_pos hv]
  by_cases hp : A.Phase = 2
  ·
   rw [if_pos (show (shA k A).Phase = 2 from hp), if_pos hp]
   have e : (shA k A).Out.map S.unfly = (A.Out.map S.unfly).map (shU k) := Aa k _
   unfold S.lostS
   rw [e]; rfl
  ·
   rw [if_neg hp] at h; cases h
 ·
  rw [if_neg hv] at h; cases h
theorem EC (k : Int) {A : Sender} (h : (S.barR A).2 = 0) : S.barR (shA k A) = (shA k (S.barR A).1, 0) := by
 unfold S.barR at h ⊢
 by_cases hv : S.Valid A
 ·
  rw [if_pos hv] at h
  rw [if_pos (iT k hv), if_pos hv]
  by_cases hp : A.Phase = 2
  ·
   rw [if_pos hp] at h
   rw [if_pos (show (shA k A).Phase = 2 from hp), if_pos hp]
   by_cases hb : A.Bar = true
   ·
    rw [if_pos (show (shA k A).Bar = true from hb), if_pos hb]; rfl
   ·
    rw [if_neg hb] at h; cases h
  ·
   rw [if_neg hp] at h; cases h
 ·
  rw [if_neg hv] at h; cases h
def shW (k : Int) (w : Window) : Window := { w with Start := sh k w.Start }
theorem EY (k : Int) {w : Window} {n : Int} (hw : S.okW w) (hn : 0 ≤ n ∧ n < 4096) : S.hasB (shW k w) (sh k n) = S.hasB w n := by
 unfold S.hasB
 have e : aJ (shW k w).Start (sh k n) = aJ w.Start n := en k _ _
 have e2 : (S.okW (shW k w) ∧ 0 ≤ sh k n ∧ sh k n < 4096 ∧ aJ (shW k w).Start (sh k n) < 64) ↔ (S.okW w ∧ 0 ≤ n ∧ n < 4096 ∧ aJ w.Start n < 64) := by
  rw [e]
  exact ⟨fun q => ⟨hw, hn.1, hn.2, q.2.2.2⟩, fun q => ⟨oT k _, (oT k n).1, (oT k n).2, q.2.2.2⟩⟩
 rw [decide_eq_decide.2 e2, e]; rfl
theorem Eu (k : Int) {A : Sender} {w : Window} (h : (S.ackR A w).2.2 = 0) : S.ackR (shA k A) (shW k w) = ((S.ackR A w).1.map (sh k), shA k (S.ackR A w).2.1, 0) := by
 unfold S.ackR at h ⊢
 by_cases hv : S.Valid A
 ·
  rw [if_pos hv] at h
  rw [if_pos (iT k hv), if_pos hv]
  by_cases ht : S.okW w
  ·
   rw [if_pos ht] at h
   rw [if_pos (show S.okW (shW k w) from oT k _), if_pos ht]
   by_cases hp : A.Phase = 2
   ·
    rw [if_pos (show (shA k A).Phase = 2 from hp), if_pos hp]
    have hg := hv.P.good
    have hpa : ∀ x ∈ A.Out, S.pA (shW k w) (shU k x) = S.pA w x := fun x hx => by
     unfold S.pA
     have := hg x hx
     have e : S.hasB (shW k w) (shU k x).Frame.Head.Seq = S.hasB w x.Frame.Head.Seq := EY k ht ⟨this.1, by have := this.2.1; omega⟩
     rw [e]; rfl
    have e1 : (shA k A).Out.filter (S.pA (shW k w)) = (A.Out.filter (S.pA w)).map (shU k) := jE hpa
    have e2 : (shA k A).Out.filter (fun x => !S.pA (shW k w) x) = (A.Out.filter (fun x => !S.pA w x)).map (shU k) := jE (fun x hx => by rw [hpa x hx])
    unfold S.ackS
    rw [e1, e2, xV, Aa]; rfl
   ·
    rw [if_neg hp] at h; cases h
  ·
   rw [if_neg ht] at h; cases h
 ·
  rw [if_neg hv] at h; cases h
end Go.AX.Z.TN

/-! (TNXf) -/

set_option linter.unusedVariables false
set_option linter.unusedSimpArgs false
set_option maxRecDepth 20000
namespace Go.AX.Z.TN
open Go.AX

def shH (k : Int) (h : HeldSeq) : HeldSeq := { h with Frame := shF k h.Frame }
def shB (k : Int) (b : Reorder) : Reorder := { b with Start := sh k b.Start, Held := b.Held.map (shH k), Seen := shW k b.Seen }
def InB (b : Reorder) : Prop := R.okN b.Start ∧ R.okN b.Seen.Start ∧ ∀ h ∈ b.Held, R.okN h.n
theorem InB.z : InB Reorder.z := ⟨⟨Int.le_refl _, by decide⟩, ⟨Int.le_refl _, by decide⟩, by simp [Reorder.z]⟩
theorem G6 (k : Int) (h : HeldSeq) : (shH k h).n = sh k h.n := rfl
theorem Bd (k : Int) {st sz : Int} : ∀ {l : List HeldSeq} {last : Int}, R.OkL st sz last l → R.OkL (sh k st) sz last (l.map (shH k))
 | [], _, _ => trivial
 | x :: l, last, h => by
  obtain ⟨⟨a, b, c, d⟩, h2⟩ := h
  have ih := Bd k h2
  have e1 : aJ (sh k st) (shH k x).n = aJ st x.n := en k _ _
  refine ⟨⟨oT k _, b, by rw [e1]; exact c, by rw [e1]; exact d⟩, ?_⟩
  rw [e1]; exact ih
theorem zd (k : Int) {st sz : Int} : ∀ {l : List HeldSeq} {last : Int}, (∀ h ∈ l, R.okN h.n) → R.OkL (sh k st) sz last (l.map (shH k)) → R.OkL st sz last l
 | [], _, _, _ => trivial
 | x :: l, last, hl, h => by
  obtain ⟨⟨a, b, c, d⟩, h2⟩ := h
  have e1 : aJ (sh k st) (shH k x).n = aJ st x.n := en k _ _
  rw [e1] at c d h2
  exact ⟨⟨hl x (by simp), b, c, d⟩, zd k (fun y hy => hl y (by simp [hy])) h2⟩
theorem BD (k : Int) {b : Reorder} (h : R.VR b) : R.VR (shB k b) := by
 obtain ⟨⟨a, b', c, d, e, f⟩, g⟩ := h
 exact ⟨⟨oT k _, b', c, d, e, oT k _⟩, Bd k g⟩
theorem IP (k : Int) {b : Reorder} (hi : InB b) (h : R.VR (shB k b)) : R.VR b := by
 obtain ⟨⟨a, b', c, d, e, f⟩, g⟩ := h
 exact ⟨⟨hi.1, b', c, d, e, hi.2.1⟩, zd k hi.2.2 g⟩
theorem Bi (k S : Int) : ∀ (l : List HeldSeq) (m : Int), R.relF (sh k S) m (l.map (shH k)) = ((R.relF S m l).1, (R.relF S m l).2.1.map (shF k), (R.relF S m l).2.2.map (shH k))
 | [], m => rfl
 | x :: l, m => by
  rw [List.map_cons]
  unfold R.relF
  have e1 : aJ (sh k S) (shH k x).n = aJ S x.n := en k _ _
  rw [e1]
  by_cases h : aJ S x.n = m
  ·
   rw [if_pos h, if_pos h, Bi k S l (m + 1)]; rfl
  ·
   rw [if_neg h, if_neg h]; rfl
theorem CD (k : Int) (b : Reorder) (t : Int) : R.pre (shB k b) t = (R.pre b t).map (shH k) :=
 jE (f := shH k) fun x _ => by
  have e1 : aJ (shB k b).Start (shH k x).n = aJ b.Start x.n := en k _ _
  rw [e1]
theorem Bp (k : Int) (b : Reorder) (t : Int) : R.post (shB k b) t = (R.post b t).map (shH k) :=
 jE (f := shH k) fun x _ => by
  have e1 : aJ (shB k b).Start (shH k x).n = aJ b.Start x.n := en k _ _
  rw [e1]
theorem BE (k : Int) (l : List HeldSeq) : (l.map (shH k)).map (·.Frame) = (l.map (·.Frame)).map (shF k) := by
 rw [List.map_map, List.map_map]; rfl
theorem AY (k : Int) (b : Reorder) (t : Int) : R.mvF (shB k b) t = ((R.mvF b t).1.map (shF k), shB k (R.mvF b t).2) := by
 unfold R.mvF
 rw [CD, Bp]
 have e := Bi k b.Start (R.post b t) t
 have e' : R.relF (shB k b).Start t ((R.post b t).map (shH k)) = _ := e
 rw [e', BE, ← List.map_append]
 have e2 : ((shB k b).Start + (R.relF b.Start t (R.post b t)).1) % 4096 = sh k ((b.Start + (R.relF b.Start t (R.post b t)).1) % 4096) := u5 k _ _
 simp only [e2]
 rfl
theorem Am {b : Reorder} (h : InB b) (t : Int) : InB (R.mvF b t).2 := by
 refine ⟨?_, h.2.1, fun x hx => h.2.2 x ((R.mvF_mem b t).2 x hx)⟩
 show 0 ≤ (_ : Int) % 4096 ∧ (_ : Int) % 4096 < 4096
 omega
theorem Eq (k : Int) {b : Reorder} {n : Int} (h : (R.barF b n).2.2 = 0) : R.barF (shB k b) (sh k n) = ((R.barF b n).1.map (shF k), shB k (R.barF b n).2.1, 0) := by
 obtain ⟨hv, hn, e⟩ := Dn h
 have e1 : aJ (shB k b).Start (sh k n) = aJ b.Start n := en k _ _
 rw [e]
 unfold R.barF
 rw [if_pos (BD k hv), if_pos (show R.okN (sh k n) from oT k n), e1, AY]
 by_cases hd : 2048 ≤ aJ b.Start n
 ·
  rw [if_pos hd, if_pos hd]; rfl
 ·
  rw [if_neg hd, if_neg hd]
theorem EE {b : Reorder} {n : Int} (hi : InB b) : InB (R.barF b n).2.1 := by
 unfold R.barF
 split
 ·
  split
  ·
   split
   ·
    exact hi
   ·
    exact Am hi _
  ·
   exact .z
 ·
  exact .z
theorem J0 (k hold now : Int) (l : List HeldSeq) : R.ld hold now (l.map (shH k)) = (R.ld hold now l).map (shH k) := by
 unfold R.ld
 rw [jE (f := shH k) (q := R.due hold now) (fun x _ => rfl), List.getLast?_map]
theorem Ed (k : Int) {b : Reorder} {n : Int} (h : (R.expF b n).2.2 = 0) : R.expF (shB k b) n = ((R.expF b n).1.map (shF k), shB k (R.expF b n).2.1, 0) := by
 have hn : 0 ≤ n ∧ n ≤ 1099511627776 := by
  apply Classical.byContradiction; intro hn
  unfold R.expF at h
  by_cases hv : R.VR b
  ·
   rw [if_pos hv, if_neg hn] at h; cases h
  ·
   rw [if_neg hv] at h; cases h
 obtain ⟨hv, e⟩ := Iz h
 rw [e]
 unfold R.expF
 have e0 : R.ld (shB k b).Hold n (shB k b).Held = (R.ld b.Hold n b.Held).map (shH k) := J0 k _ _ _
 rw [if_pos (BD k hv), if_pos hn, e0]
 cases R.ld b.Hold n b.Held with
 | none => rfl
 | some x =>
  have e1 : aJ (shB k b).Start (((shH k x).n + 1) % 4096) = aJ b.Start ((x.n + 1) % 4096) := by
   rw [G6, u5]; exact en k _ _
  simp only [Option.map_some, e1, AY]
theorem E9 {b : Reorder} {n : Int} (hi : InB b) : InB (R.expF b n).2.1 := by
 unfold R.expF
 split
 ·
  split
  ·
   split
   ·
    exact Am hi _
   ·
    exact hi
  ·
   exact .z
 ·
  exact .z
theorem DI (k : Int) (w : Window) (n : Int) : R.noteF (shW k w) (sh k n) = shW k (R.noteF w n) := by
 unfold R.noteF
 have e1 : aJ (shW k w).Start (sh k n) = aJ w.Start n := en k _ _
 rw [e1, u5]
 split
 ·
  rfl
 ·
  split <;> rfl
theorem Cv {w : Window} {n : Int} (h : R.okN w.Start) : R.okN (R.noteF w n).Start := by
 unfold R.noteF
 split
 ·
  exact h
 ·
  split
  ·
   show 0 ≤ (_ : Int) % 4096 ∧ (_ : Int) % 4096 < 4096
   omega
  ·
   exact h
theorem Fe (k : Int) (b : Reorder) (x : HeldSeq) : R.putB (shB k b) (shH k x) = shB k (R.putB b x) := by
 unfold R.putB R.insF
 have e1 : aJ (shB k b).Start (shH k x).n = aJ b.Start x.n := en k _ _
 have e2 : R.noteF (shB k b).Seen (shH k x).n = shW k (R.noteF b.Seen x.n) := DI k _ _
 rw [e1, e2, CD, Bp]
 simp only [shB, List.map_append, List.map_cons, List.map_nil]
theorem Hm (k : Int) (b : Reorder) (n : Int) : R.toF (shB k b) (sh k n) = sh k (R.toF b n) := by
 unfold R.toF
 have e1 : aJ (shB k b).Start (sh k n) = aJ b.Start n := en k _ _
 rw [e1, u5]
 by_cases h : b.Size ≤ aJ b.Start n
 ·
  rw [if_pos (show (shB k b).Size ≤ _ from h), if_pos h]; rfl
 ·
  rw [if_neg (show ¬ (shB k b).Size ≤ _ from h), if_neg h]; rfl
theorem Hl (k : Int) (b : Reorder) (n : Int) : (∃ x ∈ (shB k b).Held, aJ (shB k b).Start x.n = aJ (shB k b).Start (sh k n)) ↔ ∃ x ∈ b.Held, aJ b.Start x.n = aJ b.Start n := by
 have e1 : ∀ m, aJ (shB k b).Start (sh k m) = aJ b.Start m := fun m => en k _ _
 constructor
 ·
  rintro ⟨y, hy, e⟩
  obtain ⟨x, hx, rfl⟩ := List.mem_map.1 hy
  rw [G6, e1, e1] at e
  exact ⟨x, hx, e⟩
 ·
  rintro ⟨x, hx, e⟩
  exact ⟨shH k x, List.mem_map.2 ⟨x, hx, rfl⟩, by rw [G6, e1, e1]; exact e⟩
theorem EN (k : Int) {b : Reorder} {f : Frame} {now : Int} (hi : InB b) (hf : R.okN (fq f)) :
  (R.putF (shB k b) (shF k f) now).2.2 = (R.putF b f now).2.2 ∧ ((R.putF b f now).2.2 = 0 → R.putF (shB k b) (shF k f) now = ((R.putF b f now).1.map (shF k), shB k (R.putF b f now).2.1, 0)) := by
 have hf' : R.okN f.Head.Seq := hf
 have hs : R.okN (shF k f).Head.Seq := oT k _
 have e1 : aJ (shB k b).Start (shF k f).Head.Seq = aJ b.Start f.Head.Seq := en k _ _
 have e2 := Hl k b f.Head.Seq
 have e3 : R.toF (shB k b) (shF k f).Head.Seq = sh k (R.toF b f.Head.Seq) := Hm k b _
 have e4 : aJ (shB k b).Start (sh k (R.toF b f.Head.Seq)) = aJ b.Start (R.toF b f.Head.Seq) := en k _ _
 have e5 : R.putB (shB k b) ⟨now, shF k f⟩ = shB k (R.putB b ⟨now, f⟩) := Fe k b ⟨now, f⟩
 unfold R.putF
 by_cases hv : R.VR b
 ·
  rw [if_pos hv, if_pos (BD k hv)]
  by_cases hn : 0 ≤ now ∧ now ≤ 1099511627776
  ·
   rw [if_pos (And.intro hn hf'), if_pos (And.intro hn hs)]
   have e6 : (2048 ≤ aJ (shB k b).Start (shF k f).Head.Seq ∨ ∃ x ∈ (shB k b).Held, aJ (shB k b).Start x.n = aJ (shB k b).Start (shF k f).Head.Seq) ↔ (2048 ≤ aJ b.Start f.Head.Seq ∨ ∃ x ∈ b.Held, aJ b.Start x.n = aJ b.Start f.Head.Seq) := by
    exact or_congr (by rw [e1]) e2
   by_cases hd : 2048 ≤ aJ b.Start f.Head.Seq ∨ ∃ x ∈ b.Held, aJ b.Start x.n = aJ b.Start f.Head.Seq
   ·
    rw [if_pos hd, if_pos (e6.2 hd)]
    exact ⟨rfl, fun h => (by cases h)⟩
   ·
    rw [if_neg hd, if_neg (fun q => hd (e6.1 q)), e3, e4, e5, AY]
    exact ⟨rfl, fun _ => rfl⟩
  ·
   rw [if_neg (fun q => hn q.1), if_neg (fun q => hn q.1)]
   exact ⟨rfl, fun h => (by cases h)⟩
 ·
  rw [if_neg hv, if_neg (fun q => hv (IP k hi q))]
  exact ⟨rfl, fun h => (by cases h)⟩
theorem Fu {b : Reorder} {f : Frame} {now : Int} (hi : InB b) : InB (R.putF b f now).2.1 := by
 unfold R.putF
 split
 ·
  split
  ·
   rename_i hok
   split
   ·
    exact .z
   ·
    refine Am (b := R.putB b ⟨now, f⟩) ⟨hi.1, Cv hi.2.1, fun x hx => ?_⟩ _
    have : x.n ∈ hn (R.putB b ⟨now, f⟩) := sk.2 ⟨x, hx, rfl⟩
    rcases (GB b ⟨now, f⟩ x.n).1 this with q | q
    ·
     obtain ⟨y, hy, e⟩ := sk.1 q
     rw [← e]; exact hi.2.2 y hy
    ·
     rw [q]; exact hok.2
  ·
   exact .z
 ·
  exact .z
end Go.AX.Z.TN

/-! (TNXg) -/

set_option linter.unusedVariables false
set_option linter.unusedSimpArgs false
set_option maxRecDepth 20000
namespace Go.AX.Z.TN
open Go.AX

def shS (k : Int) (s : SS) : SS := { s with plan.Start := sh k s.plan.Start, sides := ⟨shA k s.sides.Sender, shB k s.sides.Reorder⟩ }
theorem yQ (k : Int) (s : SS) (l : List Int) : nP (shS k s).plan (l.map (sh k)) = nP s.plan l := by
 unfold nP
 rw [List.map_map]
 exact List.map_congr_left fun x _ => en k _ _
theorem AW (k : Int) (s : SS) (l : List Frame) : rel (shS k s).plan (l.map (shF k)) = rel s.plan l := by
 unfold rel
 rw [List.map_map]
 exact List.map_congr_left fun x _ => en k _ _
theorem GD (k : Int) {s : SS} {t : Int} (he : (exF t s).err = 0) : exF t (shS k s) = shS k (exF t s) := by
 have e0 := (gE (s := s) he).2
 have e := FI k e0
 unfold exF
 rw [show S.expR (shS k s).sides.Sender t = S.expR (shA k s.sides.Sender) t from rfl, e, yQ, e0]
 rfl
theorem z8 (k : Int) {s : SS} {to : Int} (he : (gp to s).err = 0) : gp (sh k to) (shS k s) = shS k (gp to s) := by
 have e0 := (gE (s := s) he).2
 have e := Eq k e0
 unfold gp
 rw [show R.barF (shS k s).sides.Reorder (sh k to) = R.barF (shB k s.sides.Reorder) (sh k to) from rfl, e, AW, e0]
 rfl
theorem IS (k : Int) {s : SS} (he : (bdF s).err = 0) : bdF (shS k s) = shS k (bdF s) := by
 have e0 := (gE (s := s) he).2
 have e := EC k e0
 unfold bdF
 rw [show S.barR (shS k s).sides.Sender = S.barR (shA k s.sides.Sender) from rfl, e, e0]
 rfl
theorem D8 (k : Int) {s : SS} {d : List Bool} (he : (gr s d).1.err = 0) : gr (shS k s) d = (shS k (gr s d).1, (gr s d).2) := by
 unfold gr at he ⊢
 by_cases hb : s.sides.Sender.Bar = true
 ·
  rw [if_pos hb] at he ⊢
  rw [if_pos (show (shS k s).sides.Sender.Bar = true from hb)]
  by_cases hd : (eK d).1 = true
  ·
   rw [if_pos hd, if_pos hd]
  ·
   rw [if_neg hd] at he
   rw [if_neg hd, if_neg hd]
   obtain ⟨k1, k2⟩ := gE (s := gp (S.startR s.sides.Sender) s) he
   obtain ⟨hv, _⟩ := FR k2
   have hv : S.Valid s.sides.Sender := hv
   have e1 : S.startR (shS k s).sides.Sender = sh k (S.startR s.sides.Sender) := by
    unfold S.startR
    rw [if_pos (show S.Valid (shS k s).sides.Sender from iT k hv), if_pos hv]
    exact kQ k _
   rw [e1, z8 k k1, IS k he]
 ·
  rw [if_neg hb]
  rw [if_neg (show ¬ (shS k s).sides.Sender.Bar = true from hb)]
theorem Bu (k now : Int) : ∀ (n : Nat) (s : SS), (dt now n s).err = 0 → dt now n (shS k s) = shS k (dt now n s)
 | 0, s, _ => rfl
 | n + 1, s, he => by
  unfold dt at he ⊢
  by_cases hc : s.accepted < s.many ∧ s.err = 0
  ·
   rw [if_pos hc] at he ⊢
   rw [if_pos (show (shS k s).accepted < (shS k s).many ∧ (shS k s).err = 0 from hc)]
   by_cases h22 : (S.offR s.sides.Sender now).2.2 = 22
   ·
    rw [if_pos h22, if_pos (show (S.offR (shS k s).sides.Sender now).2.2 = 22 from B8 k h22)]
   ·
    rw [if_neg h22] at he ⊢
    have e0 : (S.offR s.sides.Sender now).2.2 = 0 := by
     apply Classical.byContradiction
     intro hne
     have hs : ({ dz (S.offR s.sides.Sender now).2.2 s with accepted := s.accepted + 1, sides.Sender := (S.offR s.sides.Sender now).2.1 } : SS).err ≠ 0 := by
      simp only [dz, if_pos hc.2]; exact hne
     rw [uL now n hs] at he
     exact hs he
    have e : (S.offR (shS k s).sides.Sender now).2 = (shA k (S.offR s.sides.Sender now).2.1, 0) := Ff k e0
    have ih := Bu k now n _ he
    rw [e, if_neg (show ¬ ((0 : Int) = 22) by decide), ← ih, e0]
    rfl
  ·
   rw [if_neg hc, if_neg (show ¬ ((shS k s).accepted < (shS k s).many ∧ (shS k s).err = 0) from hc)]
theorem DX (now : Int) : ∀ (n : Nat) (s : SS), (dt now n s).sides.Reorder = s.sides.Reorder
 | 0, s => rfl
 | n + 1, s => by
  unfold dt
  split
  ·
   split
   ·
    rfl
   ·
    rw [DX now n]; rfl
  ·
   rfl
theorem rG (k now : Int) : ∀ (l : List Frame) (s : SS) (d : List Bool), InB s.sides.Reorder → (∀ f ∈ l, R.okN (fq f)) →
  gu now (l.map (shF k)) (shS k s) d = (shS k (gu now l s d).1, (gu now l s d).2) ∧ InB (gu now l s d).1.sides.Reorder
 | [], s, d, h, _ => ⟨rfl, h⟩
 | f :: l, s, d, h, hl => by
  have hl' : ∀ g ∈ l, R.okN (fq g) := fun g hg => hl g (by simp [hg])
  obtain ⟨p1, p2⟩ := EN k (now := now) h (hl f (by simp))
  have p1 : (R.putF (shS k s).sides.Reorder (shF k f) now).2.2 = (R.putF s.sides.Reorder f now).2.2 := p1
  rw [List.map_cons]
  unfold gu
  by_cases hd : (eK d).1 = true
  ·
   rw [if_pos hd, if_pos hd]; exact rG k now l s _ h hl'
  ·
   rw [if_neg hd, if_neg hd, p1]
   by_cases h0 : (R.putF s.sides.Reorder f now).2.2 = 0
   ·
    rw [if_pos h0, if_pos h0]
    have p2' : R.putF (shS k s).sides.Reorder (shF k f) now = _ := p2 h0
    have ih := rG k now l { s with sides.Reorder := (R.putF s.sides.Reorder f now).2.1, out.Delivered := s.out.Delivered ++ rel s.plan (R.putF s.sides.Reorder f now).1 } (eK d).2 (Fu h) hl'
    refine ⟨?_, ih.2⟩
    rw [← ih.1, p2', AW]
    rfl
   ·
    rw [if_neg h0, if_neg h0]; exact rG k now l s _ h hl'
theorem FP {A : Sender} {n : Int} (h : (S.pikR A n).2.2 = 0) : ∀ f ∈ (S.pikR A n).1, R.okN (fq f) := by
 obtain ⟨hv, _, e⟩ := HK h
 rw [e]
 have key : ∀ (l : List Unacked) (c : Nat), (∀ x ∈ l, R.okN (un x)) → ∀ f ∈ (S.pickR A.Limit n c l).2, R.okN (fq f) := by
  intro l
  induction l with
  | nil => intro c _ f hf; simp [S.pickR] at hf
  | cons x l ih =>
   intro c hl f hf
   unfold S.pickR at hf
   by_cases h1 : (c : Int) = n
   ·
    rw [if_pos h1] at hf; simp at hf
   ·
    rw [if_neg h1] at hf
    by_cases h2 : (x.Flying || (x.Tries == A.Limit)) = true
    ·
     rw [if_pos h2] at hf
     exact ih c (fun y hy => hl y (by simp [hy])) f hf
    ·
     rw [if_neg h2] at hf
     rcases List.mem_cons.1 hf with rfl | hf
     ·
      exact hl x (by simp)
     ·
      exact ih (c + 1) (fun y hy => hl y (by simp [hy])) f hf
 refine key A.Out 0 fun x hx => ?_
 have := hv.P.good x hx
 exact ⟨this.1, by have := this.2.1; show un x < 4096; unfold un; omega⟩
theorem u7 {now : Int} {s : SS} {d : List Bool} (he : (er now s d).1.err = 0) : s.err = 0 ∧ (S.pikR s.sides.Sender s.plan.Burst).2.2 = 0 := by
 have := (pz now (S.pikR s.sides.Sender s.plan.Burst).1 { dz (S.pikR s.sides.Sender s.plan.Burst).2.2 s with sides.Sender := (S.pikR s.sides.Sender s.plan.Burst).2.1 } d).1
 exact gE (s := s) (this.symm.trans he)
theorem Cp (k now : Int) {s : SS} {d : List Bool} (hi : InB s.sides.Reorder) (he : (er now s d).1.err = 0) :
  er now (shS k s) d = (shS k (er now s d).1, (er now s d).2) ∧ InB (er now s d).1.sides.Reorder := by
 obtain ⟨_, e0⟩ := u7 he
 have e := Bn k e0
 have e' : S.pikR (shS k s).sides.Sender (shS k s).plan.Burst = _ := e
 have ih := rG k now (S.pikR s.sides.Sender s.plan.Burst).1 { dz (S.pikR s.sides.Sender s.plan.Burst).2.2 s with sides.Sender := (S.pikR s.sides.Sender s.plan.Burst).2.1 } d hi (FP e0)
 refine ⟨?_, ih.2⟩
 unfold er
 rw [← ih.1, e', e0]
 rfl
theorem EP (k : Int) {s : SS} {d : List Bool} (he : (jW s d).1.err = 0) : jW (shS k s) d = (shS k (jW s d).1, (jW s d).2) := by
 unfold jW at he ⊢
 by_cases hd : (eK d).1 = true
 ·
  rw [if_pos hd] at he
  rw [if_pos hd, if_pos hd]
  have e0 := (gE (s := s) he).2
  have e := DP k e0
  rw [show S.lostR (shS k s).sides.Sender = S.lostR (shA k s.sides.Sender) from rfl, e, e0]
  rfl
 ·
  rw [if_neg hd] at he
  rw [if_neg hd, if_neg hd]
  obtain ⟨k1, k2⟩ := gE (s := dz (R.repR s.sides.Reorder).2 s) he
  obtain ⟨k3, k4⟩ := gE k1
  obtain ⟨hvb, eb⟩ := Ct k4
  have eb' : R.repR (shS k s).sides.Reorder = (shW k s.sides.Reorder.Seen, 0) := by
   unfold R.repR
   rw [if_pos (show R.VR (shS k s).sides.Reorder from BD k hvb)]; rfl
  rw [eb] at k2
  have e := Eu k k2
  have e' : S.ackR (shS k s).sides.Sender (shW k s.sides.Reorder.Seen) = _ := e
  rw [eb', eb, e', yQ, k2]
  rfl
theorem Fk {s : SS} {d : List Bool} (he : (jW s d).1.err = 0) : s.err = 0 := by
 unfold jW at he
 split at he
 ·
  exact (gE (s := s) he).1
 ·
  exact (gE (s := s) (gE (s := dz _ s) he).1).1
theorem Jw (s : SS) (d : List Bool) : (jW s d).1.sides.Reorder = s.sides.Reorder := by
 unfold jW; split <;> rfl
theorem GO {n : Nat} {q : SS × List Bool} (he : (rpF n q).1.err = 0) : q.1.err = 0 := by
 unfold rpF at he
 split at he
 ·
  exact Fk he
 ·
  exact he
theorem Ik (k : Int) {n : Nat} {q : SS × List Bool} (he : (rpF n q).1.err = 0) : rpF n (shS k q.1, q.2) = (shS k (rpF n q).1, (rpF n q).2) := by
 unfold rpF at he ⊢
 by_cases h : 0 < n
 ·
  rw [if_pos h] at he
  rw [if_pos h, if_pos h]; exact EP k he
 ·
  rw [if_neg h, if_neg h]
theorem Kv (n : Nat) (q : SS × List Bool) : (rpF n q).1.sides.Reorder = q.1.sides.Reorder := by
 unfold rpF; split
 ·
  exact Jw _ _
 ·
  rfl
theorem Ja (k now : Int) {s : SS} (he : (rxF now s).err = 0) : rxF now (shS k s) = shS k (rxF now s) := by
 have e0 := (gE (s := s) he).2
 have e := Ed k e0
 unfold rxF
 rw [show R.expF (shS k s).sides.Reorder now = R.expF (shB k s.sides.Reorder) now from rfl, e, AW, e0]
 rfl
theorem Fd {now : Int} {n : Nat} {s : SS} (he : (dt now n s).err = 0) : s.err = 0 := by
 apply Classical.byContradiction; intro h
 rw [uL now n h] at he; exact h he
theorem zk {now : Int} {s : SS} {d : List Bool} (he : (kJ now s d).1.err = 0) :
  (rpF (S.pikR (dt now 200 s).sides.Sender (dt now 200 s).plan.Burst).1.length (er now (dt now 200 s) d)).1.err = 0 ∧ (er now (dt now 200 s) d).1.err = 0 ∧ (dt now 200 s).err = 0 ∧ s.err = 0 := by
 have h1 := (gE (s := (rpF (S.pikR (dt now 200 s).sides.Sender (dt now 200 s).plan.Burst).1.length (er now (dt now 200 s) d)).1) he).1
 have h2 := GO h1
 have h3 := (u7 h2).1
 exact ⟨h1, h2, h3, Fd h3⟩
theorem DY (k now : Int) {s : SS} {d : List Bool} (hi : InB s.sides.Reorder) (he : (kJ now s d).1.err = 0) :
  kJ now (shS k s) d = (shS k (kJ now s d).1, (kJ now s d).2) ∧ InB (kJ now s d).1.sides.Reorder := by
 obtain ⟨h1, h2, h3, h4⟩ := zk he
 have hiO : InB (dt now 200 s).sides.Reorder := by rw [DX]; exact hi
 obtain ⟨s1, s2⟩ := Cp k now hiO h2
 have e1 := Bu k now 200 s h3
 have e2 := (u7 h2).2
 have e3 : (S.pikR (shS k (dt now 200 s)).sides.Sender (shS k (dt now 200 s)).plan.Burst).1.length = (S.pikR (dt now 200 s).sides.Sender (dt now 200 s).plan.Burst).1.length := by
  have : S.pikR (shS k (dt now 200 s)).sides.Sender (shS k (dt now 200 s)).plan.Burst = _ := Bn k e2
  rw [this, List.length_map]; rfl
 have e4 := Ik k h1
 have e5 : rxF now (shS k (rpF (S.pikR (dt now 200 s).sides.Sender (dt now 200 s).plan.Burst).1.length (er now (dt now 200 s) d)).1) = _ := Ja k now he
 refine ⟨?_, ?_⟩
 ·
  unfold kJ
  simp only
  rw [e1, s1, e3, e4, e5]
 ·
  show InB (R.expF _ now).2.1
  apply E9
  rw [Kv]; exact s2
theorem C6 {s : SS} {d : List Bool} (he : (gr s d).1.err = 0) : s.err = 0 := by
 unfold gr at he
 split at he
 ·
  split at he
  ·
   exact he
  ·
   exact (gE (s := s) (gE (s := gp _ s) he).1).1
 ·
  exact he
theorem EZ {s : SS} {d : List Bool} (hi : InB s.sides.Reorder) : InB (gr s d).1.sides.Reorder := by
 unfold gr
 split
 ·
  split
  ·
   exact hi
  ·
   exact EE hi
 ·
  exact hi
theorem BQ {s : SS} {d : List Bool} (he : (fR s d).1.err = 0) : (gr (exF (dR s) s) d).1.err = 0 ∧ (exF (dR s) s).err = 0 ∧ s.err = 0 := by
 have h1 := (zk he).2.2.2
 have h2 := C6 h1
 exact ⟨h1, h2, (gE (s := s) h2).1⟩
theorem Ce (k : Int) {s : SS} {d : List Bool} (hi : InB s.sides.Reorder) (he : (fR s d).1.err = 0) :
  fR (shS k s) d = (shS k (fR s d).1, (fR s d).2) ∧ InB (fR s d).1.sides.Reorder := by
 obtain ⟨h1, h2, h3⟩ := BQ he
 have e1 := GD k h2
 have e2 := D8 k h1
 have hb : InB (gr (exF (dR s) s) d).1.sides.Reorder := EZ (s := exF (dR s) s) (show InB s.sides.Reorder from hi)
 obtain ⟨r1, r2⟩ := DY k (dR s) (s := (gr (exF (dR s) s) d).1) (d := (gr (exF (dR s) s) d).2) hb he
 refine ⟨?_, r2⟩
 unfold fR
 rw [show dR (shS k s) = dR s from rfl, e1, e2, r1]
theorem BK (k : Int) {s : SS} (he : (kH s).err = 0) : kH (shS k s) = shS k (kH s) := by
 obtain ⟨k1, k2⟩ := gE (s := clF s) he
 have e0 := (gE (s := s) k1).2
 have e := Cn k e0
 have e' : S.closeR (shS k s).sides.Sender = _ := e
 have e1 : clF (shS k s) = shS k (clF s) := by
  unfold clF
  rw [e', yQ, e0]; rfl
 unfold kH
 rw [e', e1]
 exact z8 k he
theorem AO {n : Nat} {s : SS} {d : List Bool} (h : s.err ≠ 0) : kO n s d = (s, d) := by
 cases n with
 | zero => rfl
 | succ n => unfold kO; rw [if_neg (fun q => h q.1)]
theorem Br (k : Int) : ∀ (n : Nat) (s : SS) (d : List Bool), InB s.sides.Reorder → (kO n s d).1.err = 0 → kO n (shS k s) d = (shS k (kO n s d).1, (kO n s d).2)
 | 0, s, d, _, _ => rfl
 | n + 1, s, d, hi, he => by
  unfold kO at he ⊢
  have ec : ((shS k s).err = 0 ∧ ((shS k s).accepted < (shS k s).many ∨ (shS k s).sides.Sender.Out ≠ [] ∨ (shS k s).sides.Sender.Bar = true)) ↔ (s.err = 0 ∧ (s.accepted < s.many ∨ s.sides.Sender.Out ≠ [] ∨ s.sides.Sender.Bar = true)) :=
   and_congr Iff.rfl (or_congr Iff.rfl (or_congr (AH k _) Iff.rfl))
  by_cases hc : s.err = 0 ∧ (s.accepted < s.many ∨ s.sides.Sender.Out ≠ [] ∨ s.sides.Sender.Bar = true)
  ·
   rw [if_pos hc] at he
   rw [if_pos hc, if_pos (ec.2 hc)]
   by_cases hr : s.out.Rounds = 2000
   ·
    rw [if_pos hr] at he
    rw [if_pos hr, if_pos (show (shS k s).out.Rounds = 2000 from hr), BK k he]
   ·
    rw [if_neg hr] at he
    rw [if_neg hr, if_neg (show ¬ (shS k s).out.Rounds = 2000 from hr)]
    have her : (fR s d).1.err = 0 := by
     apply Classical.byContradiction; intro hne
     rw [AO hne] at he
     exact hne he
    obtain ⟨r1, r2⟩ := Ce k hi her
    rw [r1]
    exact Br k n _ _ r2 he
  ·
   rw [if_neg hc, if_neg (fun q => hc (ec.1 q))]

theorem EX {p : SessionPlan} {many : Int} {d : List Bool} (he : (wZ p many d).2 = 0) {T : Int} (hT : 0 ≤ T ∧ T < 4096) : wZ { p with Start := T } many d = wZ p many d := by
 unfold wZ at he ⊢
 by_cases hp : jh p
 ·
  rw [if_pos hp] at he
  rw [if_pos hp, if_pos (show jh { p with Start := T } from ⟨⟨hT.1, by show T ≤ 4095; omega⟩, hp.2⟩)]
  by_cases hm : 0 ≤ many ∧ many ≤ 200
  ·
   rw [if_pos hm] at he
   rw [if_pos hm, if_pos hm]
   by_cases h : (kO 2001 (start p many) d).1.err = 0
   ·
    have hs := hp.1
    have hi : InB (start p many).sides.Reorder := ⟨⟨hs.1, by show p.Start < 4096; omega⟩, ⟨hs.1, by show p.Start < 4096; omega⟩, by simp [start, B0, Reorder.z]⟩
    have e := Br (T - p.Start) 2001 (start p many) d hi h
    have es : shS (T - p.Start) (start p many) = start { p with Start := T } many := by
     have : sh (T - p.Start) p.Start = T := by unfold sh; omega
     unfold shS start shA shB shW
     simp only [A0, B0, gL, this]
     rfl
    rw [es] at e
    rw [e, if_pos h, if_pos (show (shS (T - p.Start) (kO 2001 (start p many) d).1).err = 0 from h)]
    rfl
   ·
    rw [if_neg h] at he; exact absurd he h
  ·
   rw [if_neg hm] at he; cases he
 ·
  rw [if_neg hp] at he; cases he
end Go.AX.Z.TN

/-! (TNXh) -/

set_option linter.unusedVariables false
set_option linter.unusedSimpArgs false
set_option maxRecDepth 20000
namespace Go.AX.Z.TN
open Go.AX

theorem Fin.len {many : Int} {o : SessionResult} (h : Fin many o) : o.Acked.length + o.Dropped.length = many.toNat := by
 rw [← List.length_append, h.perm.length_eq, Be]; simp
theorem ri (n : Int) : et n = some (decide (0 ≤ n ∧ n < 4096)) := by
 unfold et
 rw [← Bool.decide_and]
 congr 1
 exact decide_eq_decide.2 ⟨fun q => ⟨q.1, by omega⟩, fun q => ⟨q.1, by omega⟩⟩
theorem BP (p : SessionPlan) (many : Int) (d : List Bool) (T : Int) : dA p many d T = some true := by
 unfold dA
 rw [E1, ay]
 by_cases h : 5000 < d.length
 ·
  rw [decide_eq_true (by omega : (5000 : Int) < (d.length : Int))]; rfl
 ·
  rw [decide_eq_false (by omega : ¬ (5000 : Int) < (d.length : Int)), Bool.not_true, Bool.or_self, cond_false, Ga, ay]
  by_cases he : (wZ p many d).2 = 0
  ·
   rw [he, bne_self_eq_false, cond_false, ri, ay, ay]
   by_cases hT : 0 ≤ T ∧ T < 4096
   ·
    have e := EX he hT
    rw [decide_eq_true hT, Bool.not_true, cond_false, Ga, ay, e, he, beq_self_eq_true, Bool.and_self, cond_true, Id _ (Ev p many d)]; rfl
   ·
    rw [decide_eq_false hT]; rfl
  ·
   rw [show ((wZ p many d).2 != 0) = true by simpa using he, cond_true]; rfl
end Go.AX.Z.TN

/-! (TNY) -/

set_option linter.unusedVariables false
namespace Go.AX.Z.TN
open Go.AX Go.Proofs

/-! ## Arguments, read -/

theorem ud3 : K.P.underlying 3 = some (.int .i64) := by kernel_rfl

def wT (B : Nat) (x : SessionPlan) : Prop := ((Lit.int .i64 x.Start).wf = true) ∧ ((Lit.int .i64 x.Size).wf = true) ∧ ((Lit.int .i64 x.Limit).wf = true) ∧ ((Lit.int .i64 x.Life).wf = true) ∧ ((Lit.int .i64 x.Hold).wf = true) ∧ ((Lit.int .i64 x.Burst).wf = true) ∧ ((Lit.int .i64 x.Round).wf = true)

theorem LS {B n : Nat} {l : List AV} (h : Ty K.P B n 23 l) : ∃ x : SessionPlan, l = am x ∧ wT B x := by
 obtain ⟨m, h⟩ := Ci Try.underlying23 h
 have h' : zC (Ty K.P B m) [3, 3, 3, 3, 3, 3, 3] l := h
 obtain ⟨_, _, rfl, h0, _, _, rfl, h1, _, _, rfl, h2, _, _, rfl, h3, _, _, rfl, h4, _, _, rfl, h5, _, _, rfl, h6, rfl⟩ := h'
 obtain ⟨v0, rfl, w0⟩ := qd ud3 h0
 obtain ⟨v1, rfl, w1⟩ := qd ud3 h1
 obtain ⟨v2, rfl, w2⟩ := qd ud3 h2
 obtain ⟨v3, rfl, w3⟩ := qd ud3 h3
 obtain ⟨v4, rfl, w4⟩ := qd ud3 h4
 obtain ⟨v5, rfl, w5⟩ := qd ud3 h5
 obtain ⟨v6, rfl, w6⟩ := qd ud3 h6
 exact ⟨⟨v0, v1, v2, v3, v4, v5, v6⟩, rfl, ⟨w0, w1, w2, w3, w4, w5, w6⟩⟩

theorem ud4 : K.P.underlying 4 = some (.bool) := by kernel_rfl

theorem JC : K.P.underlying 31 = some (.slice 4) := by kernel_rfl

theorem Jv {B n : Nat} {x : AV} (h : Ty K.P B n 31 [x]) : ∃ l : (List Bool), x = wg l ∧ l.length ≤ B := by
 obtain ⟨l, rfl, h1⟩ := vv JC ud4 h
 exact ⟨l, rfl, h1⟩

end Go.AX.Z.TN

/-! (TNU) -/

/- How bulks bound what a reading holds. -/
namespace Go.Proofs.Ytpjogfcpmcbafaa.bulks
open Go.AX

theorem Hq {H : Type} (d : DataW H) : 1 ≤ Rows.uptoBulk d := by
 cases d with
 | lit l => cases l <;> simp [Rows.uptoBulk]
 | nil => simp [Rows.uptoBulk]
 | ptr d => simp [Rows.uptoBulk]
 | slice elems spare => simp [Rows.uptoBulk]
 | agg parts => simp [Rows.uptoBulk]
 | iface t d => simp [Rows.uptoBulk]
 | map entries => simp [Rows.uptoBulk]
 | held h => simp [Rows.uptoBulk]

theorem part_le {H : Type} {d : DataW H} {l : List (DataW H)} (h : d ∈ l) : Rows.uptoBulk d ≤ Rows.uptoBulkAll l := by
 induction l with
 | nil => cases h
 | cons x r ih =>
  simp only [Rows.uptoBulkAll]
  cases List.mem_cons.1 h with
  | inl e => subst e; omega
  | inr e => have := ih e; omega

theorem B7 {H : Type} (l : List (DataW H)) : l.length ≤ Rows.uptoBulkAll l := by
 induction l with
 | nil => simp [Rows.uptoBulkAll]
 | cons x r ih => have := Hq x; simp only [Rows.uptoBulkAll, List.length_cons]; omega

theorem bulk {H : Type} : Bulk (H := H) Rows.uptoBulk where
 ptr d := by simp [Rows.uptoBulk]
 elems es sp d h := by have := part_le h; simp only [Rows.uptoBulk]; omega
 len es sp := by have := B7 es; simp only [Rows.uptoBulk]; omega
 agg ds d h := by have := part_le h; simp only [Rows.uptoBulk]; omega
 str bs := by simp [Rows.uptoBulk]

theorem Jp {H : Type} {l : List (DataW H)} (hk : Rows.uptoSmall H l = true) : Rows.uptoBulkAll l ≤ 1048576 := by
 have := of_decide_eq_true hk
 exact this

end Go.Proofs.Ytpjogfcpmcbafaa.bulks

/-! (TNTSessionShifts) -/

/- SessionShifts: the law returns true whatever its arguments. -/
namespace Go.Proofs.Ytpjogfcpmcbafaa.sessionShifts
open Go.ChangeShapes Go.WideShapes Go.ChangeAt Go.RowKit Go.AX Go.AX.Z Go.AX.Z.TN

theorem own : ownKnob Try.prog.godebug = none := by kernel_rfl
theorem laid : laidOutB K.P = true := by kernel_rfl
theorem par : Kg K.P Try.f7.params.toList = true := by kernel_rfl

theorem law (B : Nat) (xs : List AV) (h : uU K.P B Try.f7.params.toList xs) : SndP K 7 xs (.v (.bool true)) := by
 have h' : uU K.P B [23, 3, 31, 3] xs := h
 obtain ⟨_, _, rfl, h0, _, _, rfl, h1, _, _, rfl, h2, _, _, rfl, h3, rfl⟩ := h'
 obtain ⟨_, _, rfl, qp0⟩ := Ic Try.underlying23 h0
 obtain ⟨p0, rfl, wp0⟩ := LS qp0
 obtain ⟨p1, rfl, wp1⟩ := Bq ud3 h1
 obtain ⟨_, qp2⟩ := FL JC h2
 obtain ⟨p2, rfl, wp2⟩ := Jv qp2
 obtain ⟨p3, rfl, wp3⟩ := Bq ud3 h3
 exact jP p0 p1 p2 p3 (BP p0 p1 p2 p3)

set_option maxRecDepth 100000 in
theorem lifted (os : Os) (started : os.Started) (H : Type) (enc : TypeId × Value → H) :
  ReturnsInHanded {} Try.checked os 7 .any (Rows.sessionShiftsSpec.pre6 enc Try.prog Try.f7 Rows.sessionShiftsRow.domain false) (Rows.sessionShiftsSpec.post enc Try.prog Try.f7 false true false false) := by
 refine returnsInHanded_of_change (C := Try.checked) own started (by kernel_rfl) Try.func7
  (ChangeSpec.witness6 (enc := enc) (C := Try.checked) false ⟨#[], #[.agg #[.int .i64 0, .int .i64 0, .int .i64 0, .int .i64 0, .int .i64 0, .int .i64 0, .int .i64 0], .int .i64 0, .slice none 0 0, .int .i64 0], []⟩ 8 (by kernel_rfl) (by kernel_rfl) (by kernel_rfl) (by kernel_rfl)) ?_
 intro W base args ds gs before hval hW hcnd _
 exact yy (C := K) (f := 7) ⟨Try.f7, Try.func7, rfl, by decide +kernel⟩ (fn := Try.f7) (tb := 4) (B := Rows.uptoBulkAll ds) (bk := Rows.uptoBulk) rfl laid par rfl Try.underlying4 (law _) rfl
  (fun ds hds => by match ds, hds with | [d1, d2, d3, d4], _ => rfl) bulks.bulk hval hW (fun d hd => bulks.part_le hd)

theorem over : Rows.SessionShiftsSaid :=
 OpenClaim.holds_of_wide 7 Try.f7 rfl rfl rfl rfl rfl rfl rfl ⟨rfl, rfl, rfl, rfl, rfl⟩ rfl rfl rfl rfl rfl (by kernel_rfl) Try.func7 (by kernel_rfl)
  (of_decide_eq_true (by kernel_rfl)) (by unfold Func.isWrapper; first | (rw [if_pos (by decide +kernel)]; kernel_rfl) | (rw [if_neg (by decide +kernel)]; exact ⟨rfl, rfl⟩))
  (fun os started H enc _ => lifted os started H enc)

end Go.Proofs.Ytpjogfcpmcbafaa.sessionShifts
