/- SenderTries: the law returns true whatever its arguments. -/
import Derived.Test.YtjijidmbpfjioaaWalkc
import Derived.Test.YtjijidmbpfjioaaRows
import Derived.WalkKit
import Derived.ProofKit
import Derived.OpenShut
import Derived.JoinedCond
set_option linter.unusedVariables false
set_option linter.unusedSimpArgs false

/-! (TSP) -/

set_option linter.unusedVariables false
set_option linter.unusedSimpArgs false
namespace Go.AX.Z.TS
open Go.AX

/-! ## The sender's functions, plainly -/

theorem dist_e (a b : Int) : window_Dist a b = some (dist a b) := by rw [window_Dist, dist_bits]
theorem add_e (a b : Int) : window_Add a b = some ((a + b) % 4096) := by rw [window_Add, add_bits]
theorem dist_nn (a b : Int) : 0 ≤ dist a b ∧ dist a b < 4096 := by unfold dist; omega

def OkE (st dd lim last at' : Int) (x : Unacked) : Prop :=
  0 ≤ x.Frame.Head.Seq ∧ x.Frame.Head.Seq ≤ 4095 ∧ last < dist st x.Frame.Head.Seq ∧ dist st x.Frame.Head.Seq < dd ∧ at' ≤ x.At ∧ x.At ≤ 1099511627776 ∧ 0 ≤ x.Tries ∧ x.Tries ≤ lim ∧ (x.Flying = true → x.Tries ≠ 0)
instance (st dd lim last at' : Int) (x : Unacked) : Decidable (OkE st dd lim last at' x) := by unfold OkE; infer_instance

def OkL (st dd lim : Int) : Int → Int → List Unacked → Prop
  | _, _, [] => True
  | last, at', x :: l => OkE st dd lim last at' x ∧ OkL st dd lim (dist st x.Frame.Head.Seq) x.At l
def decL (st dd lim : Int) : (last at' : Int) → (l : List Unacked) → Decidable (OkL st dd lim last at' l)
  | _, _, [] => .isTrue trivial
  | last, at', x :: l => by
    have := decL st dd lim (dist st x.Frame.Head.Seq) x.At l
    unfold OkL; infer_instance
instance (st dd lim last at' : Int) (l : List Unacked) : Decidable (OkL st dd lim last at' l) := decL st dd lim last at' l

theorem check_loop (s : Sender) (st dd : Int) (hs : s.Out.length < 4611686018427387904) : ∀ (l : List Unacked) (i n : Nat) (last at' : Int), s.Out.drop i = l → l.length < n →
    sender_Check_L4 s st dd n (last, at', (i : Int)) = some (if OkL st dd s.Limit last at' l then Ex.go () else Ex.ret 8)
  | [], i, n + 1, last, at', h, hn => by
    have := drop_n h
    rw [sender_Check_L4, ge_dec this]
    simp [OkL]
  | x :: l, i, n + 1, last, at', h, hn => by
    obtain ⟨h1, h2, h3⟩ := drop_c h
    have ih := check_loop s st dd hs l (i + 1) n (dist st x.Frame.Head.Seq) x.At h2 (by simpa using hn)
    rw [sender_Check_L4, lt_dec h3]
    simp only [cond_true, idxN, h1, bindS, dist_e, sender_within, wrapN (show i < _ by omega), ih, OkL]
    by_cases hx : OkE st dd s.Limit last at' x
    · have hx' := hx
      obtain ⟨a, b, c, d, e, f, g, k, m⟩ := hx
      have e1 : ((!(decide (0 ≤ x.Frame.Head.Seq) && decide (x.Frame.Head.Seq ≤ 4095)) || decide (dist st x.Frame.Head.Seq ≤ last)) || decide (dd ≤ dist st x.Frame.Head.Seq)) = false := by
        simp [a, b]; omega
      have e2 : (!(decide (at' ≤ x.At) && decide (x.At ≤ 1099511627776))) = false := by simp [e, f]
      have e3 : (!(decide (0 ≤ x.Tries) && decide (x.Tries ≤ s.Limit))) = false := by simp [g, k]
      have e4 : (x.Flying && x.Tries == 0) = false := by
        cases hf : x.Flying
        · rfl
        · simpa using m hf
      simp only [e1, e2, e3, e4, cond_false, cond_true, bindS, Bool.or_false, hx', true_and]
    · simp only [hx, false_and, if_false]
      cases e1 : ((!(decide (0 ≤ x.Frame.Head.Seq) && decide (x.Frame.Head.Seq ≤ 4095)) || decide (dist st x.Frame.Head.Seq ≤ last)) || decide (dd ≤ dist st x.Frame.Head.Seq))
      · cases e2 : (!(decide (at' ≤ x.At) && decide (x.At ≤ 1099511627776)))
        · cases e3 : (!(decide (0 ≤ x.Tries) && decide (x.Tries ≤ s.Limit)))
          · cases e4 : (x.Flying && x.Tries == 0)
            · exfalso
              apply hx
              simp at e1 e2 e3 e4
              refine ⟨by omega, by omega, by omega, by omega, by omega, by omega, by omega, by omega, fun hf => ?_⟩
              exact e4 hf
            · simp only [e4, cond_false, cond_true, bindS, Bool.or_true, Bool.or_false]
          · simp only [e3, cond_false, cond_true, bindS, Bool.or_true, Bool.true_or, Bool.or_false]
        · simp only [e2, cond_false, cond_true, bindS, Bool.or_true, Bool.true_or, Bool.or_false]
      · simp only [e1, cond_false, cond_true, bindS, Bool.or_true, Bool.true_or, Bool.or_false]

def startOf (s : Sender) : Int := match s.Out with | [] => s.Next | x :: _ => x.Frame.Head.Seq
theorem start_e (s : Sender) : sender_start s = some (startOf s) := by
  unfold sender_start startOf
  cases h : s.Out with
  | nil => simp
  | cons x l => simp [idx]

def Valid (s : Sender) : Prop :=
  (0 ≤ s.Tid ∧ s.Tid ≤ 7) ∧ s.Phase ≤ 2 ∧ (0 ≤ s.Token ∧ s.Token ≤ 255) ∧ (0 ≤ s.Next ∧ s.Next ≤ 4095) ∧ (1 ≤ s.Limit ∧ s.Limit ≤ 16) ∧ (1 ≤ s.Life ∧ s.Life ≤ 1073741824) ∧
    (if s.Phase = 0 then s.Size = 0 else 1 ≤ s.Size ∧ s.Size ≤ 64) ∧ (s.Phase ≠ 2 → s.Out = [] ∧ s.Bar = false) ∧ dist (startOf s) s.Next ≤ s.Size ∧
    OkL (startOf s) (dist (startOf s) s.Next) s.Limit (-1) 0 s.Out
instance (s : Sender) : Decidable (Valid s) := by unfold Valid; infer_instance

theorem check_e (s : Sender) (hs : s.Out.length < 4611686018427387904) : sender_Check s = some (if Valid s then 0 else 8) := by
  have hL := check_loop s (startOf s) (dist (startOf s) s.Next) hs s.Out 0 big (-1) 0 rfl (big_lt hs)
  simp only [Int.ofNat_zero, Int.natCast_zero] at hL
  unfold sender_Check
  simp only [sender_within, bindS, start_e, dist_e, hL]
  have b1 : ∀ (a b : Bool), (bif a then some b else some false) = some (a && b) := by intro a b; cases a <;> rfl
  have b2 : ∀ (a b c : Bool), (bif a then some b else some c) = some (bif a then b else c) := by intro a b c; cases a <;> rfl
  simp only [b1, b2, bindS]
  by_cases h1 : (((!((((((decide (0 ≤ s.Tid) && decide (s.Tid ≤ 7)) && decide (s.Phase ≤ 2)) && (decide (0 ≤ s.Token) && decide (s.Token ≤ 255))) && (decide (0 ≤ s.Next) && decide (s.Next ≤ 4095))) && (decide (1 ≤ s.Limit) && decide (s.Limit ≤ 16))) && (decide (1 ≤ s.Life) && decide (s.Life ≤ 1073741824)))) || (!(bif s.Phase == 0 then s.Size == 0 else (decide (1 ≤ s.Size) && decide (s.Size ≤ 64))))) || ((s.Phase != 2) && ((decide (0 < (s.Out.length : Int))) || s.Bar))) = true
  · rw [h1]
    have : ¬ Valid s := by
      rintro ⟨a, b, c, d, e, f, g, k, _⟩
      simp only [Bool.or_eq_true, Bool.and_eq_true, Bool.not_eq_true', Bool.and_eq_false_iff, decide_eq_true_eq, decide_eq_false_iff_not] at h1
      rcases h1 with (h1 | h1) | h1
      · omega
      · by_cases hp : s.Phase = 0
        · rw [if_pos hp] at g; simp [hp, g] at h1
        · rw [if_neg hp] at g
          have : (s.Phase == 0) = false := by simpa using hp
          rw [this] at h1
          simp at h1; omega
      · obtain ⟨h2, h3⟩ := h1
        have := k (by simpa using h2)
        simp [this.1, this.2] at h3
    rw [if_neg this]; rfl
  · rw [Bool.not_eq_true] at h1
    rw [h1, cond_false]
    simp only [Bool.or_eq_false_iff, Bool.and_eq_false_iff, Bool.not_eq_false', Bool.and_eq_true, decide_eq_true_eq, decide_eq_false_iff_not] at h1
    obtain ⟨⟨⟨⟨⟨⟨⟨a, b⟩, c⟩, d⟩, e⟩, f⟩, g⟩, k⟩ := h1
    have a := a
    have g' : (if s.Phase = 0 then s.Size = 0 else 1 ≤ s.Size ∧ s.Size ≤ 64) := by
      by_cases hp : s.Phase = 0
      · rw [if_pos hp]; simpa [hp] using g
      · rw [if_neg hp]
        have : (s.Phase == 0) = false := by simpa using hp
        rw [this] at g
        simpa using g
    have k' : s.Phase ≠ 2 → s.Out = [] ∧ s.Bar = false := by
      intro hp
      rcases k with k | k
      · exact absurd (by simpa using k) hp
      · refine ⟨?_, k.2⟩
        have := k.1
        rw [← List.length_eq_zero_iff]; omega
    by_cases h2 : s.Size < dist (startOf s) s.Next
    · rw [decide_eq_true h2, cond_true, if_neg (by rintro ⟨_, _, _, _, _, _, _, _, q, _⟩; omega)]
    · rw [decide_eq_false h2, cond_false]
      by_cases h3 : OkL (startOf s) (dist (startOf s) s.Next) s.Limit (-1) 0 s.Out
      · rw [if_pos h3, if_pos ⟨a, b, c, d, e, f, g', k', by omega, h3⟩]; rfl
      · rw [if_neg h3, if_neg (by rintro ⟨_, _, _, _, _, _, _, _, _, q⟩; exact h3 q)]; rfl

/-! A state of moderate size -/

def Fit (s : Sender) : Prop := s.Out.length ≤ 100000 ∧ ∀ x ∈ s.Out, x.Frame.Body.length ≤ 2400
theorem Fit.len {s : Sender} (h : Fit s) : s.Out.length < 4611686018427387904 := by have := h.1; omega

theorem twinF {f : Frame} (h : f.Body.length ≤ 2400) : header_Twin f = some f := by
  unfold header_Twin
  rw [chk_d (by omega)]; rfl

theorem twin_loop (s : Sender) (hs : s.Out.length ≤ 100000) : ∀ (l acc : List Unacked) (i n : Nat), s.Out.drop i = l → l.length < n → (∀ x ∈ l, x.Frame.Body.length ≤ 2400) → acc.length + l.length ≤ 100000 →
    sender_twin_L2 s n (acc, (i : Int)) = some (acc ++ l)
  | [], acc, i, n + 1, h, hn, hb, ha => by
    rw [sender_twin_L2, ge_dec (drop_n h)]; simp
  | x :: l, acc, i, n + 1, h, hn, hb, ha => by
    obtain ⟨h1, h2, h3⟩ := drop_c h
    simp only [List.length_cons] at ha hn
    rw [sender_twin_L2, lt_dec h3]
    have ih := twin_loop s hs l (acc ++ [x]) (i + 1) n h2 (by omega) (fun y hy => hb y (by simp [hy])) (by simp; omega)
    simp only [cond_true, idxN, h1, bindS, twinF (hb x (by simp))]
    rw [chk_d (by omega)]
    simp only [bindS, wrapN (show i < _ by omega)]
    rw [show ({ x with Frame := { x.Frame with Body := x.Frame.Body } } : Unacked) = x from rfl, ih]
    simp

theorem twin_e {s : Sender} (h : Fit s) : sender_twin s = some s := by
  unfold sender_twin
  have := twin_loop s h.1 s.Out [] 0 big rfl (big_lt h.len) h.2 (by simpa using h.1)
  simp only [Int.ofNat_zero, Int.natCast_zero] at this
  rw [this]; rfl

theorem open_e {s : Sender} (h : Fit s) (b : Bool) : sender_open s b = some (if Valid s then (if b = true then (if s.Phase = 2 then (s, 0) else (Sender.z, 20)) else (Sender.z, 2)) else (Sender.z, 8)) := by
  unfold sender_open
  rw [check_e s h.len, bindS]
  by_cases hv : Valid s
  · simp only [if_pos hv]
    cases b
    · rfl
    · by_cases hp : s.Phase = 2
      · simp [hp, twin_e h]
      · have e : (s.Phase != 2) = true := by simpa using hp
        simp [hp, e]
  · simp only [if_neg hv]; rfl
end Go.AX.Z.TS

/-! (TSQ) -/

set_option linter.unusedVariables false
set_option linter.unusedSimpArgs false
namespace Go.AX.Z.TS
open Go.AX

/-! ## What each function does, plainly -/

def newS (a b c d : Int) : Sender := { Sender.z with Life := d, Limit := c, Next := b, Tid := a }
theorem newS_fit (a b c d : Int) : Fit (newS a b c d) := ⟨by simp [newS, Sender.z], by simp [newS, Sender.z]⟩
theorem new_e (a b c d : Int) : sender_New a b c d = some (if Valid (newS a b c d) then (newS a b c d, 0) else (Sender.z, 2)) := by
  unfold sender_New
  rw [show ({ Sender.z with Life := d, Limit := c, Next := b, Tid := a } : Sender) = newS a b c d from rfl, check_e _ (newS_fit a b c d).len, bindS]
  by_cases hv : Valid (newS a b c d)
  · simp only [if_pos hv]; rfl
  · simp only [if_neg hv]; rfl

def tok (s : Sender) : Int := IntKind.wrap .i64 (s.Token.tmod 255 + 1)
def askB (s : Sender) (n : Int) : BlockAsk := { BlockAsk.z with Size := n, Start := s.Next, Tid := s.Tid, Token := tok s }
def askS (s : Sender) (n : Int) : Sender := { s with Phase := 1, Size := n, Token := tok s }
theorem ask_e {s : Sender} (h : Fit s) (n : Int) : sender_Ask s n = some (if Valid s then (if 1 ≤ n ∧ n ≤ 64 then (if s.Phase = 2 then (BlockAsk.z, Sender.z, 20) else (askB s n, askS s n, 0)) else (BlockAsk.z, Sender.z, 2)) else (BlockAsk.z, Sender.z, 8)) := by
  unfold sender_Ask
  rw [check_e s h.len, bindS]
  by_cases hv : Valid s
  · simp only [if_pos hv, sender_within, bindS]
    by_cases hn : 1 ≤ n ∧ n ≤ 64
    · have e : (!(decide (1 ≤ n) && decide (n ≤ 64))) = false := by simp [hn]
      simp only [if_pos hn, e]
      by_cases hp : s.Phase = 2
      · simp [hp]
      · have hf : Fit (askS s n) := ⟨h.1, h.2⟩
        have e2 : (s.Phase == 2) = false := by simpa using hp
        simp only [if_neg hp, e2, cond_false]
        rw [show ({ s with Phase := 1, Size := n, Token := IntKind.wrap .i64 (s.Token.tmod 255 + 1) } : Sender) = askS s n from rfl, twin_e hf, bindS]
        rfl
    · have e : (!(decide (1 ≤ n) && decide (n ≤ 64))) = true := by
        simp only [Bool.not_eq_true', Bool.and_eq_false_iff, decide_eq_false_iff_not]; omega
      simp only [if_neg hn, e]; rfl
  · simp only [if_neg hv]; rfl

def ansS (s : Sender) (a : BlockAnswer) : Sender := if a.Status = 0 then { s with Phase := 2, Size := a.Size } else { s with Phase := 0, Size := 0 }
theorem ansS_fit {s : Sender} (h : Fit s) (a : BlockAnswer) : Fit (ansS s a) := by
  unfold ansS; split <;> exact ⟨h.1, h.2⟩
theorem answer_e {s : Sender} (h : Fit s) (a : BlockAnswer) : sender_Answer s a = some (if Valid s then (if s.Phase = 1 then (if a.Token = s.Token ∧ a.Tid = s.Tid then (if a.Status = 0 ∧ ¬ (1 ≤ a.Size ∧ a.Size ≤ s.Size) then (Sender.z, 2) else (ansS s a, 0)) else (Sender.z, 21)) else (Sender.z, 20)) else (Sender.z, 8)) := by
  unfold sender_Answer
  rw [check_e s h.len, bindS]
  by_cases hv : Valid s
  · simp only [if_pos hv]
    by_cases hp : s.Phase = 1
    · have e1 : (s.Phase != 1) = false := by simp [hp]
      simp only [if_pos hp, e1, cond_false]
      by_cases ht : a.Token = s.Token ∧ a.Tid = s.Tid
      · have e2 : ((a.Token != s.Token) || (a.Tid != s.Tid)) = false := by simp [ht.1, ht.2]
        simp only [if_pos ht, e2, cond_false]
        by_cases hs : a.Status = 0
        · have e3 : (a.Status != 0) = false := by simp [hs]
          simp only [e3, cond_false, sender_within, bindS]
          by_cases hz : 1 ≤ a.Size ∧ a.Size ≤ s.Size
          · have e4 : (!(decide (1 ≤ a.Size) && decide (a.Size ≤ s.Size))) = false := by simp [hz]
            have e5 : ¬ (a.Status = 0 ∧ ¬ (1 ≤ a.Size ∧ a.Size ≤ s.Size)) := fun h => h.2 hz
            have hf := ansS_fit h a
            have e6 : ansS s a = { s with Phase := 2, Size := a.Size } := by unfold ansS; rw [if_pos hs]
            simp only [e4, cond_false, bindS, Ex.k_go', if_neg e5]
            rw [show ((0 : Int) != 0) = false from rfl, cond_false, bindS, Ex.k_go', ← e6, twin_e hf]; rfl
          · have e4 : (!(decide (1 ≤ a.Size) && decide (a.Size ≤ s.Size))) = true := by
              simp only [Bool.not_eq_true', Bool.and_eq_false_iff, decide_eq_false_iff_not]; omega
            have e5 : (a.Status = 0 ∧ ¬ (1 ≤ a.Size ∧ a.Size ≤ s.Size)) := ⟨hs, hz⟩
            simp only [e4, cond_true, bindS, Ex.k_ret', if_pos e5]; rfl
        · have e3 : (a.Status != 0) = true := by simpa using hs
          have e5 : ¬ (a.Status = 0 ∧ ¬ (1 ≤ a.Size ∧ a.Size ≤ s.Size)) := fun h => hs h.1
          have hf := ansS_fit h a
          have e6 : ansS s a = { s with Phase := 0, Size := 0 } := by unfold ansS; rw [if_neg hs]
          simp only [e3, cond_true, if_neg e5]
          rw [show ((0 : Int) != 0) = false from rfl, cond_false, bindS, Ex.k_go', ← e6, twin_e hf]; rfl
      · have e2 : ((a.Token != s.Token) || (a.Tid != s.Tid)) = true := by
          simp only [Bool.or_eq_true, bne_iff_ne]
          rcases Classical.em (a.Token = s.Token) with h1 | h1
          · exact .inr fun h2 => ht ⟨h1, h2⟩
          · exact .inl h1
        simp only [if_neg ht, e2]; rfl
    · have e1 : (s.Phase != 1) = true := by simpa using hp
      simp only [if_neg hp, e1]; rfl
  · simp only [if_neg hv]; rfl

def seqs (l : List Unacked) : List Int := l.map fun x => x.Frame.Head.Seq

theorem close_loop (s : Sender) (hs : s.Out.length ≤ 100000) : ∀ (l : List Unacked) (acc : List Int) (i n : Nat), s.Out.drop i = l → l.length < n → acc.length + l.length ≤ 100000 →
    sender_Close_L2 s n (acc, (i : Int)) = some (acc ++ seqs l)
  | [], acc, i, n + 1, h, hn, ha => by
    rw [sender_Close_L2, ge_dec (drop_n h)]; simp [seqs]
  | x :: l, acc, i, n + 1, h, hn, ha => by
    obtain ⟨h1, h2, h3⟩ := drop_c h
    simp only [List.length_cons] at ha hn
    rw [sender_Close_L2, lt_dec h3]
    have ih := close_loop s hs l (acc ++ [x.Frame.Head.Seq]) (i + 1) n h2 (by omega) (by simp; omega)
    simp only [cond_true, idxN, h1, bindS]
    rw [chk_d (by omega)]
    simp only [bindS, wrapN (show i < _ by omega), ih]
    simp [seqs]

def closeS (s : Sender) : Sender := { s with Bar := false, Out := [], Phase := 0, Size := 0 }
theorem close_e {s : Sender} (h : Fit s) : sender_Close s = some (if Valid s then (seqs s.Out, closeS s, 0) else ([], Sender.z, 8)) := by
  unfold sender_Close
  rw [check_e s h.len, bindS]
  by_cases hv : Valid s
  · simp only [if_pos hv]
    have := close_loop s h.1 s.Out [] 0 big rfl (big_lt h.len) (by simpa using h.1)
    simp only [Int.ofNat_zero, Int.natCast_zero, List.nil_append] at this
    rw [this]; rfl
  · simp only [if_neg hv]; rfl

def lastAt (s : Sender) : Int := match s.Out.getLast? with | some x => x.At | none => 0
def offF (s : Sender) (f : Frame) : Frame := { f with Head := { f.Head with Retry := false, Seq := s.Next, Tid := s.Tid } }
def offS (s : Sender) (f : Frame) (n : Int) : Sender := { s with Next := (s.Next + 1) % 4096, Out := s.Out ++ [{ Unacked.z with At := n, Frame := offF s f }] }
theorem offer_e {s : Sender} (h : Fit s) (f : Frame) (hf : f.Body.length ≤ 2400) (n : Int) (hl : s.Out.length < 90000) : sender_Offer s f n =
    some (if Valid s then (if 0 ≤ n ∧ n ≤ 1099511627776 then (if s.Phase = 2 then (if s.Out ≠ [] ∧ n < lastAt s then (Frame.z, Sender.z, 20) else if s.Size ≤ dist (startOf s) s.Next then (Frame.z, Sender.z, 22) else (offF s f, offS s f n, 0)) else (Frame.z, Sender.z, 20)) else (Frame.z, Sender.z, 2)) else (Frame.z, Sender.z, 8)) := by
  unfold sender_Offer
  simp only [sender_within, bindS]
  rw [open_e h]
  by_cases hv : Valid s
  · simp only [if_pos hv]
    by_cases hn : 0 ≤ n ∧ n ≤ 1099511627776
    · have e1 : (decide (0 ≤ n) && decide (n ≤ 1099511627776)) = true := by simp [hn]
      simp only [e1, if_true, if_pos hn]
      by_cases hp : s.Phase = 2
      · simp only [if_pos hp, bindS]
        rw [show ((0 : Int) != 0) = false from rfl, cond_false]
        have key : ((bif decide (0 < ((s.Out.length : Nat) : Int)) then ((idx s.Out (IntKind.wrap .i64 (((s.Out.length : Nat) : Int) - 1))).bind fun x16 => some (decide (n < x16.At))) else some false) : Option Bool) = some (decide (s.Out ≠ [] ∧ n < lastAt s)) := by
          cases ho : s.Out with
          | nil => simp
          | cons x l =>
            have hl' : (x :: l).length = l.length + 1 := rfl
            have hlen : s.Out.length = l.length + 1 := by rw [ho]; rfl
            rw [show decide (0 < (((x :: l).length : Nat) : Int)) = true by simp, cond_true, show IntKind.wrap .i64 ((((x :: l).length : Nat) : Int) - 1) = ((l.length : Nat) : Int) by rw [hl', wrapI (by omega) (by omega)]; omega, idxN]
            have : (x :: l)[l.length]? = (x :: l).getLast? := by rw [List.getLast?_eq_getElem?]; rfl
            rw [this]
            have hne : (x :: l).getLast? = some ((x :: l).getLast (by simp)) := List.getLast?_eq_some_getLast (by simp)
            rw [hne, bindS]
            simp [lastAt, ho, hne]
        rw [key, bindS]
        by_cases hw : s.Out ≠ [] ∧ n < lastAt s
        · rw [decide_eq_true hw, if_pos hw]; rfl
        · rw [decide_eq_false hw, if_neg hw, cond_false, start_e, bindS, dist_e, bindS]
          by_cases hz : s.Size ≤ dist (startOf s) s.Next
          · rw [decide_eq_true hz, if_pos hz]; rfl
          · rw [decide_eq_false hz, if_neg hz, cond_false, twinF hf, bindS, chk_d (by omega), bindS, add_e, bindS]
            rw [twinF (f := { f with Head := { f.Head with Retry := false, Seq := s.Next, Tid := s.Tid } }) hf]
            rfl
      · simp only [if_neg hp]; rfl
    · have e1 : (decide (0 ≤ n) && decide (n ≤ 1099511627776)) = false := by
        simp only [Bool.and_eq_false_iff, decide_eq_false_iff_not]; omega
      simp only [e1, if_neg hn]; rfl
  · simp only [if_neg hv]; rfl

/-! Pick -/

def pickR (lim k : Int) : Nat → List Unacked → List Unacked × List Frame
  | _, [] => ([], [])
  | c, x :: l => if (c : Int) = k then (x :: l, []) else
      if (x.Flying || (x.Tries == lim)) = true then (x :: (pickR lim k c l).1, (pickR lim k c l).2)
      else ({ x with Tries := IntKind.wrap .i64 (x.Tries + 1), Flying := true } :: (pickR lim k (c + 1) l).1, { x.Frame with Head := { x.Frame.Head with Retry := decide (0 < x.Tries) } } :: (pickR lim k (c + 1) l).2)

theorem mod_mid {α : Type} (f : α → α) : ∀ (pre : List α) (x : α) (l : List α), (pre ++ x :: l).modify pre.length f = pre ++ f x :: l
  | [], x, l => by simp
  | p :: pre, x, l => by simp [mod_mid f pre x l]

theorem pick_loop (r : Sender × Int) (k : Int) : ∀ (l pre : List Unacked) (fr : List Frame) (n : Nat), pre.length + l.length = r.1.Out.length → r.1.Out.length ≤ 100000 → l.length < n → (∀ x ∈ l, x.Frame.Body.length ≤ 2400) → fr.length + l.length ≤ 100000 →
    sender_Pick_L3 r k n (pre ++ l, fr, (pre.length : Int)) = some (pre ++ (pickR r.1.Limit k fr.length l).1, fr ++ (pickR r.1.Limit k fr.length l).2)
  | [], pre, fr, n + 1, h, hL, hn, hb, ha => by
    rw [sender_Pick_L3, ge_dec (by simp at h; omega)]; simp [pickR]
  | x :: l, pre, fr, n + 1, h, hL, hn, hb, ha => by
    simp only [List.length_cons] at h ha hn
    rw [sender_Pick_L3, lt_dec (by omega)]
    have e : idx (pre ++ x :: l) (pre.length : Int) = some x := by rw [idxN]; simp
    simp only [cond_true, e, bindS, pickR]
    by_cases hk : (fr.length : Int) = k
    · rw [show (((fr.length : Nat) : Int) == k) = true by simpa using hk, if_pos hk]; simp
    · rw [show (((fr.length : Nat) : Int) == k) = false by simpa using hk, if_neg hk, cond_false]
      cases hx : (x.Flying || (x.Tries == r.1.Limit))
      · simp only [cond_false, Bool.false_eq_true, if_false]
        rw [twinF (hb x (by simp)), bindS, chk_d (by omega), bindS, show (pre.length : Int).toNat = pre.length by omega, mod_mid, mod_mid, wrapN (by omega)]
        have ih := pick_loop r k l (pre ++ [{ x with Tries := IntKind.wrap .i64 (x.Tries + 1), Flying := true }]) (fr ++ [{ x.Frame with Head := { x.Frame.Head with Retry := decide (0 < x.Tries) } }]) n (by simp; omega) hL (by omega) (fun y hy => hb y (by simp [hy])) (by simp; omega)
        simp only [List.append_assoc, List.cons_append, List.nil_append, List.length_append, List.length_cons, List.length_nil, Nat.zero_add] at ih
        exact ih
      · simp only [cond_true, if_true]
        rw [wrapN (by omega)]
        have ih := pick_loop r k l (pre ++ [x]) fr n (by simp; omega) hL (by omega) (fun y hy => hb y (by simp [hy])) (by omega)
        simp only [List.append_assoc, List.cons_append, List.nil_append, List.length_append, List.length_cons, List.length_nil, Nat.zero_add] at ih
        exact ih

theorem pick_e {s : Sender} (h : Fit s) (k : Int) : sender_Pick s k = some (if Valid s then (if 0 ≤ k then (if s.Phase = 2 then ((pickR s.Limit k 0 s.Out).2, { s with Out := (pickR s.Limit k 0 s.Out).1 }, 0) else ([], Sender.z, 20)) else ([], Sender.z, 2)) else ([], Sender.z, 8)) := by
  unfold sender_Pick
  rw [open_e h]
  by_cases hv : Valid s
  · simp only [if_pos hv]
    by_cases hk : 0 ≤ k
    · simp only [decide_eq_true hk, if_true, if_pos hk]
      by_cases hp : s.Phase = 2
      · simp only [if_pos hp, bindS]
        have := pick_loop (s, 0) k s.Out [] [] big (by simp) h.1 (big_lt h.len) h.2 (by simpa using h.1)
        simp only [List.nil_append, List.length_nil, Int.ofNat_zero, Int.natCast_zero] at this
        rw [show ((0 : Int) != 0) = false from rfl, cond_false, this]; rfl
      · simp only [if_neg hp]; rfl
    · simp only [decide_eq_false hk, if_neg hk]; rfl
  · simp only [if_neg hv]; rfl

/-! Flying no more -/

def unfly (x : Unacked) : Unacked := { x with Flying := false }
theorem land_loop (s : Sender) : ∀ (l pre : List Unacked) (n : Nat), pre.length + l.length = s.Out.length → s.Out.length ≤ 100000 → l.length < n →
    sender_land_L2 s n (pre ++ l, (pre.length : Int)) = some (pre ++ l.map unfly)
  | [], pre, n + 1, h, hL, hn => by
    rw [sender_land_L2, ge_dec (by simp at h; omega)]; simp
  | x :: l, pre, n + 1, h, hL, hn => by
    simp only [List.length_cons] at h hn
    rw [sender_land_L2, lt_dec (by omega)]
    have e : idx (pre ++ x :: l) (pre.length : Int) = some x := by rw [idxN]; simp
    simp only [cond_true, e, bindS]
    rw [show (pre.length : Int).toNat = pre.length by omega, mod_mid, wrapN (by omega)]
    have ih := land_loop s l (pre ++ [unfly x]) n (by simp; omega) hL (by omega)
    simp only [List.append_assoc, List.cons_append, List.nil_append, List.length_append, List.length_cons, List.length_nil, Nat.zero_add] at ih
    exact ih
theorem land_e {s : Sender} (h : s.Out.length ≤ 100000) : sender_land s = some (s.Out.map unfly) := by
  unfold sender_land
  have := land_loop s s.Out [] big (by simp) h (big_lt (by omega))
  simp only [List.nil_append, List.length_nil, Int.ofNat_zero, Int.natCast_zero] at this
  rw [this]; rfl

theorem lost_e {s : Sender} (h : Fit s) : sender_Lost s = some (if Valid s then (if s.Phase = 2 then ({ s with Out := s.Out.map unfly }, 0) else (Sender.z, 20)) else (Sender.z, 8)) := by
  unfold sender_Lost
  rw [open_e h]
  by_cases hv : Valid s
  · simp only [if_pos hv, if_true]
    by_cases hp : s.Phase = 2
    · simp only [if_pos hp, bindS]
      rw [show ((0 : Int) != 0) = false from rfl, cond_false, land_e h.1]; rfl
    · simp only [if_neg hp]; rfl
  · simp only [if_neg hv]; rfl

theorem barred_e {s : Sender} (h : Fit s) : sender_Barred s = some (if Valid s then (if s.Phase = 2 then (if s.Bar = true then ({ s with Bar := false }, 0) else (Sender.z, 20)) else (Sender.z, 20)) else (Sender.z, 8)) := by
  unfold sender_Barred
  rw [open_e h]
  by_cases hv : Valid s
  · simp only [if_pos hv, if_true]
    by_cases hp : s.Phase = 2
    · simp only [if_pos hp, bindS]
      cases hb : s.Bar <;> simp [hb]
    · simp only [if_neg hp]; rfl
  · simp only [if_neg hv]; rfl
end Go.AX.Z.TS

/-! (TSR) -/

set_option linter.unusedVariables false
set_option linter.unusedSimpArgs false
namespace Go.AX.Z.TS
open Go.AX

/-! ## Removing -/

def okW (w : Window) : Prop := 0 ≤ w.Start ∧ w.Start < 4096
instance (w : Window) : Decidable (okW w) := by unfold okW; infer_instance
theorem wcheck_e (w : Window) : window_Check w = some (if okW w then 0 else 8) := by
  unfold window_Check window_number
  by_cases h : okW w
  · have e : (decide (0 ≤ w.Start) && decide (w.Start < 4096)) = true := by simpa using (show 0 ≤ w.Start ∧ w.Start < 4096 from h)
    rw [bindS, e, if_pos h]; rfl
  · have e : (decide (0 ≤ w.Start) && decide (w.Start < 4096)) = false := by
      simp only [Bool.and_eq_false_iff, decide_eq_false_iff_not]; unfold okW at h; omega
    rw [bindS, e, if_neg h]; rfl

def hasB (w : Window) (n : Int) : Bool :=
  decide (okW w ∧ 0 ≤ n ∧ n < 4096 ∧ dist w.Start n < 64) && ((IntKind.wrap .u64 ((BitVec.ofInt 64 ((w.Bits).fdiv (2 ^ (min (dist w.Start n).toNat 64))) &&& BitVec.ofInt 64 1).toNat : Int)) == 1)
theorem whas_e (w : Window) (n : Int) : window_Has w n = some (hasB w n) := by
  unfold window_Has window_check
  rw [wcheck_e, bindS]
  by_cases h : okW w
  · rw [if_pos h]
    unfold window_number
    by_cases hn : 0 ≤ n ∧ n < 4096
    · have e : (decide (0 ≤ n) && decide (n < 4096)) = true := by simpa using hn
      rw [show ((0 : Int) != 0) = false from rfl, cond_false, bindS, e]
      simp only [Bool.not_true, cond_false, bindS]
      rw [show ((0 : Int) != 0) = false from rfl, cond_false, dist_e, bindS]
      unfold hasB
      by_cases hd : dist w.Start n < 64
      · have := (dist_nn w.Start n).1
        rw [decide_eq_true hd, cond_true, chk_d (by omega), bindS, bindS, decide_eq_true ⟨h, hn.1, hn.2, hd⟩, Bool.true_and]
      · rw [decide_eq_false hd, cond_false, bindS, decide_eq_false (fun q => hd q.2.2.2), Bool.false_and]
    · have e : (decide (0 ≤ n) && decide (n < 4096)) = false := by
        simp only [Bool.and_eq_false_iff, decide_eq_false_iff_not]; omega
      rw [show ((0 : Int) != 0) = false from rfl, cond_false, bindS, e]
      unfold hasB
      rw [decide_eq_false (fun q => hn ⟨q.2.1, q.2.2.1⟩)]; rfl
  · rw [if_neg h]
    unfold hasB
    rw [decide_eq_false (fun q => h q.1)]; rfl

def pA (w : Window) (x : Unacked) : Bool := decide (0 < x.Tries) && hasB w x.Frame.Head.Seq
theorem acked1_e (x : Unacked) (w : Window) : sender_Acked_1 x w = some (pA w x) := by
  unfold sender_Acked_1 pA
  cases h : decide (0 < x.Tries)
  · rfl
  · rw [cond_true, whas_e]; rfl
theorem rem_e (x : Unacked) (w : Window) (l : List Int) (h : l.length ≤ 100000) : sender_remove_1_2 x w l = some (pA w x, if pA w x = true then l ++ [x.Frame.Head.Seq] else l) := by
  unfold sender_remove_1_2
  rw [acked1_e, bindS]
  cases pA w x
  · rfl
  · rw [cond_true, chk_d (by omega), bindS]; rfl

/-- Where the first element is that p holds of. -/
def ff (p : Unacked → Bool) : Nat → List Unacked → Option (Nat × Unacked)
  | _, [] => none
  | i, x :: l => if p x = true then some (i, x) else ff p (i + 1) l

theorem ff_none {p : Unacked → Bool} : ∀ {l : List Unacked} {i : Nat}, ff p i l = none → l.filter (fun x => !p x) = l ∧ l.filter p = []
  | [], _, _ => ⟨rfl, rfl⟩
  | x :: l, i, h => by
    unfold ff at h
    by_cases hx : p x = true
    · rw [if_pos hx] at h; cases h
    · rw [if_neg hx] at h
      obtain ⟨h1, h2⟩ := ff_none h
      rw [Bool.not_eq_true] at hx
      simp [hx, h1, h2]
theorem ff_some {p : Unacked → Bool} : ∀ {l : List Unacked} {i j : Nat} {x : Unacked}, ff p i l = some (j, x) → ∃ a b, l = a ++ x :: b ∧ j = i + a.length ∧ p x = true ∧ ∀ y ∈ a, p y = false
  | [], i, j, x, h => by simp [ff] at h
  | y :: l, i, j, x, h => by
    unfold ff at h
    by_cases hx : p y = true
    · rw [if_pos hx] at h; cases h; exact ⟨[], l, rfl, rfl, hx, by simp⟩
    · rw [if_neg hx] at h
      obtain ⟨a, b, rfl, rfl, h3, h4⟩ := ff_some h
      rw [Bool.not_eq_true] at hx
      exact ⟨y :: a, b, rfl, by simp; omega, h3, by intro z hz; rcases List.mem_cons.1 hz with rfl | hz; exact hx; exact h4 z hz⟩

theorem index_loop (L : List Unacked) (w : Window) (hL : L.length ≤ 100000) : ∀ (l : List Unacked) (i n : Nat), L.drop i = l → l.length < n →
    slices_IndexFunc_api_Unacked_api_Unacked_L2 L w n ([], (i : Int)) = some (match ff (pA w) i l with | some (j, x) => Ex.ret ((j : Int), [x.Frame.Head.Seq]) | none => Ex.go [])
  | [], i, n + 1, h, hn => by
    rw [slices_IndexFunc_api_Unacked_api_Unacked_L2, ge_dec (drop_n h)]; rfl
  | x :: l, i, n + 1, h, hn => by
    obtain ⟨h1, h2, h3⟩ := drop_c h
    rw [slices_IndexFunc_api_Unacked_api_Unacked_L2, lt_dec h3]
    have ih := index_loop L w hL l (i + 1) n h2 (by simpa using hn)
    simp only [cond_true, idxN, h1, bindS]
    rw [rem_e x w [] (by simp), bindS]
    unfold ff
    cases hx : pA w x
    · simp only [cond_false, Bool.false_eq_true, if_false, wrapN (show i < _ by omega)]; exact ih
    · simp only [cond_true, if_true, List.nil_append]

theorem del_loop (w : Window) : ∀ (l cur : List Unacked) (nums : List Int) (i j n : Nat), cur.drop j = l → i ≤ j → j ≤ cur.length → cur.length ≤ 50000 → nums.length ≤ j → l.length < n →
    ∃ cur' i', slices_DeleteFunc_api_Unacked_api_Unacked_L2 w n (cur, nums, (i : Int), (j : Int)) = some (cur', ((i' : Nat) : Int), nums ++ seqs (l.filter (pA w))) ∧ cur'.length = cur.length ∧ i' ≤ cur.length ∧ cur'.take i' = cur.take i ++ l.filter (fun x => !pA w x)
  | [], cur, nums, i, j, n + 1, h, hij, hj, hc, hm, hn => by
    refine ⟨cur, i, ?_, rfl, by omega, by simp⟩
    rw [slices_DeleteFunc_api_Unacked_api_Unacked_L2, ge_dec (drop_n h)]
    simp [seqs]
  | x :: l, cur, nums, i, j, n + 1, h, hij, hj, hc, hm, hn => by
    obtain ⟨h1, h2, h3⟩ := drop_c h
    simp only [List.length_cons] at hn
    have hi : i < cur.length := by omega
    rw [slices_DeleteFunc_api_Unacked_api_Unacked_L2, lt_dec h3]
    simp only [cond_true, idxN, h1, bindS]
    rw [rem_e x w nums (by omega), bindS]
    cases hx : pA w x
    · simp only [Bool.not_false, cond_true, Bool.false_eq_true, if_false]
      have hg : cur[i]? = some cur[i] := by simp [hi]
      rw [hg, bindS, wrapN (by omega), wrapN (by omega), show (i : Int).toNat = i by omega]
      have hd : (cur.set i x).drop (j + 1) = l := by rw [drop_set_lt x (by omega)]; exact h2
      obtain ⟨cur', i', e1, e2, e3, e4⟩ := del_loop w l (cur.set i x) nums (i + 1) (j + 1) n hd (by omega) (by simp; omega) (by simpa using hc) (by omega) (by omega)
      refine ⟨cur', i', ?_, by simpa using e2, by simpa using e3, ?_⟩
      · rw [e1]; simp [hx]
      · rw [e4, take_set_succ x hi]; simp [hx]
    · simp only [Bool.not_true, cond_false, if_true]
      rw [wrapN (by omega)]
      obtain ⟨cur', i', e1, e2, e3, e4⟩ := del_loop w l cur (nums ++ [x.Frame.Head.Seq]) i (j + 1) n h2 (by omega) (by omega) hc (by simp; omega) (by omega)
      refine ⟨cur', i', ?_, e2, e3, ?_⟩
      · rw [e1]; simp [hx, seqs]
      · rw [e4]; simp [hx]

theorem filter_pre {p : Unacked → Bool} {a : List Unacked} (h : ∀ y ∈ a, p y = false) : a.filter p = [] ∧ a.filter (fun x => !p x) = a :=
  ⟨List.filter_eq_nil_iff.2 fun y hy => by simp [h y hy], List.filter_eq_self.2 fun y hy => by simp [h y hy]⟩

theorem delete_e (w : Window) (L : List Unacked) (hL : L.length ≤ 50000) : slices_DeleteFunc_api_Unacked_api_Unacked w L = some (L.filter (fun x => !pA w x), seqs (L.filter (pA w))) := by
  unfold slices_DeleteFunc_api_Unacked_api_Unacked slices_IndexFunc_api_Unacked_api_Unacked
  have := index_loop L w (by omega) L 0 big rfl (big_lt (by omega))
  simp only [Int.ofNat_zero, Int.natCast_zero] at this
  rw [this, bindS]
  cases hf : ff (pA w) 0 L with
  | none =>
    obtain ⟨h1, h2⟩ := ff_none hf
    rw [h1, h2]
    rfl
  | some q =>
    obtain ⟨j, x⟩ := q
    obtain ⟨a, b, h1, h2, h3, h4⟩ := ff_some hf
    rw [Nat.zero_add] at h2
    subst h2
    obtain ⟨f1, f2⟩ := filter_pre h4
    simp only [Ex.k_ret', bindS]
    have hne : (((a.length : Nat) : Int) == -1) = false := by
      simp
    rw [hne, cond_false]
    have hlen : L.length = a.length + (b.length + 1) := by rw [h1]; simp
    rw [wrapN (by omega)]
    have hd : L.drop (a.length + 1) = b := by rw [h1]; simp
    obtain ⟨cur', i', e1, e2, e3, e4⟩ := del_loop w b L [x.Frame.Head.Seq] a.length (a.length + 1) big hd (by omega) (by omega) hL (by simp) (big_lt (by omega))
    rw [e1, bindS]
    have hc : chk (decide (0 ≤ ((i' : Nat) : Int)) && decide (((i' : Nat) : Int) ≤ (cur'.length : Int))) = some () := chk_t (by simp; omega)
    simp only [hc, bindS, show ((i' : Nat) : Int).toNat = i' by omega]
    rw [e4, h1]
    simp [f1, f2, h3, seqs]

theorem remove_e (s : Sender) (w : Window) (h : s.Out.length ≤ 50000) : sender_remove s w = some (seqs (s.Out.filter (pA w)), s.Out.filter (fun x => !pA w x)) := by
  unfold sender_remove
  rw [delete_e w s.Out h]; rfl

def ackS (s : Sender) (w : Window) : Sender := { s with Out := (s.Out.filter (fun x => !pA w x)).map unfly }
theorem acked_e {s : Sender} (h : Fit s) (hl : s.Out.length ≤ 50000) (w : Window) : sender_Acked s w = some (if Valid s then (if okW w then (if s.Phase = 2 then (seqs (s.Out.filter (pA w)), ackS s w, 0) else ([], Sender.z, 20)) else ([], Sender.z, 2)) else ([], Sender.z, 8)) := by
  unfold sender_Acked
  rw [wcheck_e, bindS, open_e h]
  by_cases hv : Valid s
  · simp only [if_pos hv]
    by_cases hw : okW w
    · simp only [if_pos hw]
      by_cases hp : s.Phase = 2
      · rw [show ((0 : Int) == 0) = true from rfl]
        simp only [if_pos hp, if_true, bindS]
        rw [show ((0 : Int) != 0) = false from rfl, cond_false, remove_e s w hl, bindS, land_e (by have := List.length_filter_le (fun x => !pA w x) s.Out; simp only; omega)]
        rfl
      · simp only [if_neg hp]; rfl
    · simp only [if_neg hw]; rfl
  · simp only [if_neg hv]; rfl

/-! Expire -/

def pX (lim life now : Int) (x : Unacked) : Bool := (!x.Flying) && ((x.Tries == lim) || (decide ((IntKind.wrap .i64 (x.At + life)) ≤ now)))
theorem remX_e (x : Unacked) (s : Sender) (t : Int) (l : List Int) (h : l.length ≤ 100000) : sender_remove_1_4 x s t l = some (pX s.Limit s.Life t x, if pX s.Limit s.Life t x = true then l ++ [x.Frame.Head.Seq] else l) := by
  unfold sender_remove_1_4 sender_Expire_1
  rw [bindS]
  show (bif pX s.Limit s.Life t x then _ else _) = _
  cases hx : pX s.Limit s.Life t x
  · simp only [cond_false, Bool.false_eq_true, if_false]; rw [show ((!x.Flying) && ((x.Tries == s.Limit) || (decide ((IntKind.wrap .i64 (x.At + s.Life)) ≤ t)))) = false from hx]
  · rw [cond_true, chk_d (by omega), bindS]; rw [show ((!x.Flying) && ((x.Tries == s.Limit) || (decide ((IntKind.wrap .i64 (x.At + s.Life)) ≤ t)))) = true from hx]; rfl

theorem indexX_loop (s : Sender) (t : Int) (hL : s.Out.length ≤ 100000) : ∀ (l : List Unacked) (i n : Nat), s.Out.drop i = l → l.length < n →
    slices_IndexFunc_api_Unacked_api_Unacked_2_L2 s t n ([], (i : Int)) = some (match ff (pX s.Limit s.Life t) i l with | some (j, x) => Ex.ret ((j : Int), [x.Frame.Head.Seq]) | none => Ex.go [])
  | [], i, n + 1, h, hn => by
    rw [slices_IndexFunc_api_Unacked_api_Unacked_2_L2, ge_dec (drop_n h)]; rfl
  | x :: l, i, n + 1, h, hn => by
    obtain ⟨h1, h2, h3⟩ := drop_c h
    rw [slices_IndexFunc_api_Unacked_api_Unacked_2_L2, lt_dec h3]
    have ih := indexX_loop s t hL l (i + 1) n h2 (by simpa using hn)
    simp only [cond_true, idxN, h1, bindS]
    rw [remX_e x s t [] (by simp), bindS]
    unfold ff
    cases hx : pX s.Limit s.Life t x
    · simp only [cond_false, Bool.false_eq_true, if_false, wrapN (show i < _ by omega)]; exact ih
    · simp only [cond_true, if_true, List.nil_append]

theorem delX_loop (t lim life : Int) : ∀ (l cur : List Unacked) (S : Sender) (nums : List Int) (i j n : Nat), S.Limit = lim → S.Life = life → cur.drop j = l → i ≤ j → j ≤ cur.length → cur.length ≤ 50000 → nums.length ≤ j → l.length < n →
    ∃ cur' i' o, slices_DeleteFunc_api_Unacked_api_Unacked_2_L2 t n (cur, S, nums, (i : Int), (j : Int)) = some (cur', ((i' : Nat) : Int), { S with Out := o }, nums ++ seqs (l.filter (pX lim life t))) ∧ cur'.length = cur.length ∧ i' ≤ cur.length ∧ cur'.take i' = cur.take i ++ l.filter (fun x => !pX lim life t x)
  | [], cur, S, nums, i, j, n + 1, e1, e2, h, hij, hj, hc, hm, hn => by
    refine ⟨cur, i, S.Out, ?_, rfl, by omega, by simp⟩
    rw [slices_DeleteFunc_api_Unacked_api_Unacked_2_L2, ge_dec (drop_n h)]
    simp [seqs]
  | x :: l, cur, S, nums, i, j, n + 1, q1, q2, h, hij, hj, hc, hm, hn => by
    obtain ⟨h1, h2, h3⟩ := drop_c h
    simp only [List.length_cons] at hn
    have hi : i < cur.length := by omega
    rw [slices_DeleteFunc_api_Unacked_api_Unacked_2_L2, lt_dec h3]
    simp only [cond_true, idxN, h1, bindS]
    rw [remX_e x { S with Out := cur } t nums (by omega), bindS]
    subst q1; subst q2
    cases hx : pX S.Limit S.Life t x
    · simp only [Bool.not_false, cond_true, Bool.false_eq_true, if_false]
      have hg : cur[i]? = some cur[i] := by simp [hi]
      rw [hg, bindS, wrapN (by omega), wrapN (by omega), show (i : Int).toNat = i by omega]
      have hd : (cur.set i x).drop (j + 1) = l := by rw [drop_set_lt x (by omega)]; exact h2
      obtain ⟨cur', i', o, e1, e2, e3, e4⟩ := delX_loop t S.Limit S.Life l (cur.set i x) { S with Out := cur } nums (i + 1) (j + 1) n rfl rfl hd (by omega) (by simp; omega) (by simpa using hc) (by omega) (by omega)
      refine ⟨cur', i', o, ?_, by simpa using e2, by simpa using e3, ?_⟩
      · rw [e1]; simp [hx]
      · rw [e4, take_set_succ x hi]; simp [hx]
    · simp only [Bool.not_true, cond_false, if_true]
      rw [wrapN (by omega)]
      obtain ⟨cur', i', o, e1, e2, e3, e4⟩ := delX_loop t S.Limit S.Life l cur { S with Out := cur } (nums ++ [x.Frame.Head.Seq]) i (j + 1) n rfl rfl h2 (by omega) (by omega) hc (by simp; omega) (by omega)
      refine ⟨cur', i', o, ?_, e2, e3, ?_⟩
      · rw [e1]; simp [hx, seqs]
      · rw [e4]; simp [hx]

theorem deleteX_e (s : Sender) (t : Int) (hL : s.Out.length ≤ 50000) : ∃ o, slices_DeleteFunc_api_Unacked_api_Unacked_2 s t = some (s.Out.filter (fun x => !pX s.Limit s.Life t x), { s with Out := o }, seqs (s.Out.filter (pX s.Limit s.Life t))) := by
  unfold slices_DeleteFunc_api_Unacked_api_Unacked_2 slices_IndexFunc_api_Unacked_api_Unacked_2
  have := indexX_loop s t (by omega) s.Out 0 big rfl (big_lt (by omega))
  simp only [Int.ofNat_zero, Int.natCast_zero] at this
  rw [this, bindS]
  cases hf : ff (pX s.Limit s.Life t) 0 s.Out with
  | none =>
    obtain ⟨h1, h2⟩ := ff_none hf
    refine ⟨s.Out, ?_⟩
    rw [h1, h2]
    rfl
  | some q =>
    obtain ⟨j, x⟩ := q
    obtain ⟨a, b, h1, h2, h3, h4⟩ := ff_some hf
    rw [Nat.zero_add] at h2
    subst h2
    obtain ⟨f1, f2⟩ := filter_pre h4
    simp only [Ex.k_ret', bindS]
    have hne : (((a.length : Nat) : Int) == -1) = false := by
      simp
    rw [hne, cond_false]
    have hlen : s.Out.length = a.length + (b.length + 1) := by rw [h1]; simp
    rw [wrapN (by omega)]
    have hd : s.Out.drop (a.length + 1) = b := by rw [h1]; simp
    obtain ⟨cur', i', o, e1, e2, e3, e4⟩ := delX_loop t s.Limit s.Life b s.Out s [x.Frame.Head.Seq] a.length (a.length + 1) big rfl rfl hd (by omega) (by omega) hL (by simp) (big_lt (by omega))
    refine ⟨o, ?_⟩
    rw [e1, bindS]
    have hc : chk (decide (0 ≤ ((i' : Nat) : Int)) && decide (((i' : Nat) : Int) ≤ (cur'.length : Int))) = some () := chk_t (by simp; omega)
    simp only [hc, bindS, show ((i' : Nat) : Int).toNat = i' by omega]
    have hta : s.Out.take a.length = a := by rw [h1]; simp
    rw [e4, hta]
    have g1 : s.Out.filter (fun x => !pX s.Limit s.Life t x) = a ++ b.filter (fun x => !pX s.Limit s.Life t x) := by
      conv => lhs; rw [h1]
      simp [f2, h3]
    have g2 : seqs (s.Out.filter (pX s.Limit s.Life t)) = [x.Frame.Head.Seq] ++ seqs (b.filter (pX s.Limit s.Life t)) := by
      conv => lhs; rw [h1]
      simp [f1, h3, seqs]
    rw [g1, g2]

def expN (s : Sender) (t : Int) : List Int := seqs (s.Out.filter (pX s.Limit s.Life t))
def expS (s : Sender) (t : Int) : Sender := { s with Bar := (s.Bar || (decide (0 < (((expN s t).length : Nat) : Int)))), Out := s.Out.filter (fun x => !pX s.Limit s.Life t x) }
theorem expire_e {s : Sender} (h : Fit s) (hl : s.Out.length ≤ 50000) (t : Int) : sender_Expire s t = some (if Valid s then (if 0 ≤ t ∧ t ≤ 1099511627776 then (if s.Phase = 2 then (expN s t, expS s t, 0) else ([], Sender.z, 20)) else ([], Sender.z, 2)) else ([], Sender.z, 8)) := by
  unfold sender_Expire
  simp only [sender_within, bindS]
  rw [open_e h]
  by_cases hv : Valid s
  · simp only [if_pos hv]
    by_cases hn : 0 ≤ t ∧ t ≤ 1099511627776
    · have e1 : (decide (0 ≤ t) && decide (t ≤ 1099511627776)) = true := by simp [hn]
      simp only [e1, if_true, if_pos hn]
      by_cases hp : s.Phase = 2
      · simp only [if_pos hp, bindS]
        obtain ⟨o, ho⟩ := deleteX_e s t hl
        unfold sender_remove_2
        rw [show ((0 : Int) != 0) = false from rfl, cond_false, ho]; rfl
      · simp only [if_neg hp]; rfl
    · have e1 : (decide (0 ≤ t) && decide (t ≤ 1099511627776)) = false := by
        simp only [Bool.and_eq_false_iff, decide_eq_false_iff_not]; omega
      simp only [e1, if_neg hn]; rfl
  · simp only [if_neg hv]; rfl
end Go.AX.Z.TS

/-! (TSA) -/

set_option linter.unusedVariables false
set_option linter.unusedSimpArgs false
namespace Go.AX.Z.TS
open Go.AX

/-! ## A step -/

abbrev Stp := Hotspotref19_Step
abbrev Tld := Hotspotref19_Told

/-- What a step that succeeds did. -/
inductive Did (s : Sender) (x : Stp) (t : Tld) (n : Sender) : Prop
  | ask (k : x.Kind = 0) (h1 : 1 ≤ x.N ∧ x.N ≤ 64) (h2 : s.Phase ≠ 2) (ht : t = { Hotspotref19_Told.z with Ask := askB s x.N }) (hn : n = (askS s x.N))
  | ans (k : x.Kind = 1) (h1 : s.Phase = 1) (h2 : x.A.Token = s.Token ∧ x.A.Tid = s.Tid) (h3 : ¬ (x.A.Status = 0 ∧ ¬ (1 ≤ x.A.Size ∧ x.A.Size ≤ s.Size))) (ht : t = Hotspotref19_Told.z) (hn : n = (ansS s x.A))
  | close (k : x.Kind = 2) (ht : t = { Hotspotref19_Told.z with Numbers := seqs s.Out }) (hn : n = (closeS s))
  | offer (k : x.Kind = 3) (h1 : 0 ≤ x.N ∧ x.N ≤ 1099511627776) (h2 : s.Phase = 2) (h3 : ¬ (s.Out ≠ [] ∧ x.N < lastAt s)) (h4 : ¬ s.Size ≤ dist (startOf s) s.Next) (ht : t = { Hotspotref19_Told.z with Frames := [offF s x.Frame] }) (hn : n = (offS s x.Frame x.N))
  | pick (k : x.Kind = 4) (h1 : 0 ≤ x.N) (h2 : s.Phase = 2) (ht : t = { Hotspotref19_Told.z with Frames := (pickR s.Limit x.N 0 s.Out).2 }) (hn : n = { s with Out := (pickR s.Limit x.N 0 s.Out).1 })
  | ack (k : x.Kind = 5) (h1 : okW x.W) (h2 : s.Phase = 2) (ht : t = { Hotspotref19_Told.z with Numbers := seqs (s.Out.filter (pA x.W)) }) (hn : n = (ackS s x.W))
  | lost (k : x.Kind = 6) (h2 : s.Phase = 2) (ht : t = Hotspotref19_Told.z) (hn : n = { s with Out := s.Out.map unfly })
  | expire (k : x.Kind = 7) (h1 : 0 ≤ x.N ∧ x.N ≤ 1099511627776) (h2 : s.Phase = 2) (ht : t = { Hotspotref19_Told.z with Numbers := expN s x.N }) (hn : n = (expS s x.N))
  | barred (k : x.Kind = 8) (h1 : s.Bar = true) (h2 : s.Phase = 2) (ht : t = Hotspotref19_Told.z) (hn : n = { s with Bar := false })

theorem fin_bad {s : Sender} {x : Stp} (t : Tld) (n : Sender) {e : Int} (he : e ≠ 0) : ∃ r : Tld × Sender × Int, some (t, n, e) = some r ∧ (r.2.2 = 0 → Valid s ∧ Did s x r.1 r.2.1) :=
  ⟨_, rfl, fun h => absurd h he⟩
theorem fin_ok {s : Sender} {x : Stp} {t : Tld} {n : Sender} (hv : Valid s) (h : Did s x t n) : ∃ r : Tld × Sender × Int, some (t, n, (0 : Int)) = some r ∧ (r.2.2 = 0 → Valid s ∧ Did s x r.1 r.2.1) :=
  ⟨_, rfl, fun _ => ⟨hv, h⟩⟩

theorem do_e {s : Sender} (h : Fit s) (hl : s.Out.length ≤ 40000) (x : Stp) (hb : x.Frame.Body.length ≤ 2400) :
    ∃ r, hotspotlaw19_do s x = some r ∧ (r.2.2 = 0 → Valid s ∧ Did s x r.1 r.2.1) := by
  unfold hotspotlaw19_do
  by_cases k0 : x.Kind = 0
  · simp only [k0, Int.reduceBEq, cond_true, cond_false, ask_e h, bindS]
    by_cases hv : Valid s
    · by_cases hn : 1 ≤ x.N ∧ x.N ≤ 64
      · by_cases hp : s.Phase = 2
        · simp only [if_pos hv, if_pos hn, if_pos hp]; exact fin_bad _ _ (by decide)
        · simp only [if_pos hv, if_pos hn, if_neg hp]; exact fin_ok hv (.ask k0 hn hp rfl rfl)
      · simp only [if_pos hv, if_neg hn]; exact fin_bad _ _ (by decide)
    · simp only [if_neg hv]; exact fin_bad _ _ (by decide)
  by_cases k1 : x.Kind = 1
  · simp only [k1, Int.reduceBEq, cond_true, cond_false, answer_e h, bindS]
    by_cases hv : Valid s
    · by_cases hp : s.Phase = 1
      · by_cases ht : x.A.Token = s.Token ∧ x.A.Tid = s.Tid
        · by_cases hz : x.A.Status = 0 ∧ ¬ (1 ≤ x.A.Size ∧ x.A.Size ≤ s.Size)
          · simp only [if_pos hv, if_pos hp, if_pos ht, if_pos hz]; exact fin_bad _ _ (by decide)
          · simp only [if_pos hv, if_pos hp, if_pos ht, if_neg hz]; exact fin_ok hv (.ans k1 hp ht hz rfl rfl)
        · simp only [if_pos hv, if_pos hp, if_neg ht]; exact fin_bad _ _ (by decide)
      · simp only [if_pos hv, if_neg hp]; exact fin_bad _ _ (by decide)
    · simp only [if_neg hv]; exact fin_bad _ _ (by decide)
  by_cases k2 : x.Kind = 2
  · simp only [k2, Int.reduceBEq, cond_true, cond_false, close_e h, bindS]
    by_cases hv : Valid s
    · simp only [if_pos hv]; exact fin_ok hv (.close k2 rfl rfl)
    · simp only [if_neg hv]; exact fin_bad _ _ (by decide)
  by_cases k3 : x.Kind = 3
  · simp only [k3, Int.reduceBEq, cond_true, cond_false, offer_e h x.Frame hb x.N (by omega), bindS]
    by_cases hv : Valid s
    · by_cases hn : 0 ≤ x.N ∧ x.N ≤ 1099511627776
      · by_cases hp : s.Phase = 2
        · by_cases hw : s.Out ≠ [] ∧ x.N < lastAt s
          · simp only [if_pos hv, if_pos hn, if_pos hp, if_pos hw]; exact fin_bad _ _ (by decide)
          · by_cases hz : s.Size ≤ dist (startOf s) s.Next
            · simp only [if_pos hv, if_pos hn, if_pos hp, if_neg hw, if_pos hz]; exact fin_bad _ _ (by decide)
            · simp only [if_pos hv, if_pos hn, if_pos hp, if_neg hw, if_neg hz]; exact fin_ok hv (.offer k3 hn hp hw hz rfl rfl)
        · simp only [if_pos hv, if_pos hn, if_neg hp]; exact fin_bad _ _ (by decide)
      · simp only [if_pos hv, if_neg hn]; exact fin_bad _ _ (by decide)
    · simp only [if_neg hv]; exact fin_bad _ _ (by decide)
  by_cases k4 : x.Kind = 4
  · simp only [k4, Int.reduceBEq, cond_true, cond_false, pick_e h, bindS]
    by_cases hv : Valid s
    · by_cases hn : 0 ≤ x.N
      · by_cases hp : s.Phase = 2
        · simp only [if_pos hv, if_pos hn, if_pos hp]; exact fin_ok hv (.pick k4 hn hp rfl rfl)
        · simp only [if_pos hv, if_pos hn, if_neg hp]; exact fin_bad _ _ (by decide)
      · simp only [if_pos hv, if_neg hn]; exact fin_bad _ _ (by decide)
    · simp only [if_neg hv]; exact fin_bad _ _ (by decide)
  by_cases k5 : x.Kind = 5
  · simp only [k5, Int.reduceBEq, cond_true, cond_false, acked_e h (by omega), bindS]
    by_cases hv : Valid s
    · by_cases hn : okW x.W
      · by_cases hp : s.Phase = 2
        · simp only [if_pos hv, if_pos hn, if_pos hp]; exact fin_ok hv (.ack k5 hn hp rfl rfl)
        · simp only [if_pos hv, if_pos hn, if_neg hp]; exact fin_bad _ _ (by decide)
      · simp only [if_pos hv, if_neg hn]; exact fin_bad _ _ (by decide)
    · simp only [if_neg hv]; exact fin_bad _ _ (by decide)
  by_cases k6 : x.Kind = 6
  · simp only [k6, Int.reduceBEq, cond_true, cond_false, lost_e h, bindS]
    by_cases hv : Valid s
    · by_cases hp : s.Phase = 2
      · simp only [if_pos hv, if_pos hp]; exact fin_ok hv (.lost k6 hp rfl rfl)
      · simp only [if_pos hv, if_neg hp]; exact fin_bad _ _ (by decide)
    · simp only [if_neg hv]; exact fin_bad _ _ (by decide)
  by_cases k7 : x.Kind = 7
  · simp only [k7, Int.reduceBEq, cond_true, cond_false, expire_e h (by omega), bindS]
    by_cases hv : Valid s
    · by_cases hn : 0 ≤ x.N ∧ x.N ≤ 1099511627776
      · by_cases hp : s.Phase = 2
        · simp only [if_pos hv, if_pos hn, if_pos hp]; exact fin_ok hv (.expire k7 hn hp rfl rfl)
        · simp only [if_pos hv, if_pos hn, if_neg hp]; exact fin_bad _ _ (by decide)
      · simp only [if_pos hv, if_neg hn]; exact fin_bad _ _ (by decide)
    · simp only [if_neg hv]; exact fin_bad _ _ (by decide)
  by_cases k8 : x.Kind = 8
  · simp only [k8, Int.reduceBEq, cond_true, cond_false, barred_e h, bindS]
    by_cases hv : Valid s
    · by_cases hp : s.Phase = 2
      · by_cases hb : s.Bar = true
        · simp only [if_pos hv, if_pos hp, if_pos hb]; exact fin_ok hv (.barred k8 hb hp rfl rfl)
        · simp only [if_pos hv, if_pos hp, if_neg hb]; exact fin_bad _ _ (by decide)
      · simp only [if_pos hv, if_neg hp]; exact fin_bad _ _ (by decide)
    · simp only [if_neg hv]; exact fin_bad _ _ (by decide)
  have e : ∀ k : Int, x.Kind ≠ k → (x.Kind == k) = false := fun k hk => by simpa using hk
  simp only [e _ k0, e _ k1, e _ k2, e _ k3, e _ k4, e _ k5, e _ k6, e _ k7, e _ k8, cond_false]
  exact fin_bad _ _ (by decide)

theorem pickR_len (lim k : Int) : ∀ (c : Nat) (l : List Unacked), (pickR lim k c l).1.length = l.length
  | _, [] => rfl
  | c, x :: l => by
    unfold pickR
    split
    · rfl
    · split
      · simp [pickR_len lim k c l]
      · simp [pickR_len lim k (c + 1) l]
theorem pickR_body (lim k : Int) : ∀ (c : Nat) (l : List Unacked), (∀ y ∈ l, y.Frame.Body.length ≤ 2400) → ∀ y ∈ (pickR lim k c l).1, y.Frame.Body.length ≤ 2400
  | _, [], _ => by simp [pickR]
  | c, x :: l, h => by
    unfold pickR
    have hx := h x (by simp)
    have hl : ∀ y ∈ l, y.Frame.Body.length ≤ 2400 := fun y hy => h y (by simp [hy])
    split
    · exact h
    · split
      · intro y hy
        rcases List.mem_cons.1 hy with rfl | hy
        · exact hx
        · exact pickR_body lim k c l hl y hy
      · intro y hy
        rcases List.mem_cons.1 hy with rfl | hy
        · exact hx
        · exact pickR_body lim k (c + 1) l hl y hy

theorem Did.fit {s : Sender} {x : Stp} {t : Tld} {n : Sender} (h : Did s x t n) (hs : ∀ y ∈ s.Out, y.Frame.Body.length ≤ 2400) (hb : x.Frame.Body.length ≤ 2400) :
    n.Out.length ≤ s.Out.length + 1 ∧ ∀ y ∈ n.Out, y.Frame.Body.length ≤ 2400 := by
  cases h with
  | ask _ _ _ ht hn => subst hn; exact ⟨Nat.le_succ _, hs⟩
  | ans _ _ _ _ ht hn =>
    subst hn
    have : (ansS s x.A).Out = s.Out := by unfold ansS; split <;> rfl
    rw [this]; exact ⟨Nat.le_succ _, hs⟩
  | close _ ht hn => subst hn; exact ⟨Nat.zero_le _, by simp [closeS]⟩
  | offer _ _ _ _ _ ht hn =>
    subst hn
    refine ⟨by simp [offS], fun y hy => ?_⟩
    simp only [offS, List.mem_append, List.mem_singleton] at hy
    rcases hy with hy | rfl
    · exact hs y hy
    · exact hb
  | pick _ _ _ ht hn => subst hn; exact ⟨by simp [pickR_len], pickR_body _ _ _ _ hs⟩
  | ack _ _ _ ht hn =>
    subst hn
    refine ⟨by simp only [ackS, List.length_map]; exact Nat.le_succ_of_le (List.length_filter_le _ _), fun y hy => ?_⟩
    simp only [ackS, List.mem_map] at hy
    obtain ⟨z, hz, rfl⟩ := hy
    exact hs z ((List.mem_filter.1 hz).1)
  | lost _ _ ht hn =>
    subst hn
    refine ⟨by simp, fun y hy => ?_⟩
    simp only [List.mem_map] at hy
    obtain ⟨z, hz, rfl⟩ := hy
    exact hs z hz
  | expire _ _ _ ht hn => subst hn; exact ⟨Nat.le_succ_of_le (List.length_filter_le _ _), fun y hy => hs y ((List.mem_filter.1 hy).1)⟩
  | barred _ _ _ ht hn => subst hn; exact ⟨Nat.le_succ _, hs⟩

/-! Great -/

theorem great_frame (f : Frame) : hotspotref05_Great f = some (decide (2400 < f.Body.length)) := by
  unfold hotspotref05_Great
  congr 1
  exact decide_eq_decide.2 (by omega)
theorem great_state (f : Frame) : hotspotref19_Great Sender.z f = some (decide (2400 < f.Body.length)) := by
  unfold hotspotref19_Great
  rw [show decide (70 < (Sender.z.Out.length : Int)) = false from rfl, cond_false, great_frame, bindS, bindS]
  cases h : decide (2400 < f.Body.length)
  · rw [cond_false, show big = 4611686018427387903 + 1 from rfl, hotspotref19_Great_L2]; rfl
  · rfl
theorem great_loop (L : List Stp) (hL : L.length ≤ 300) : ∀ (l : List Stp) (i n : Nat), L.drop i = l → l.length < n →
    ∃ o, hotspotlaw19_great_L2 L n (i : Int) = some o ∧ (o = Ex.ret true ∨ (o = Ex.go () ∧ ∀ x ∈ l, x.Frame.Body.length ≤ 2400))
  | [], i, n + 1, h, hn => by
    rw [hotspotlaw19_great_L2, ge_dec (drop_n h)]; exact ⟨_, rfl, .inr ⟨rfl, by simp⟩⟩
  | x :: l, i, n + 1, h, hn => by
    obtain ⟨h1, h2, h3⟩ := drop_c h
    rw [hotspotlaw19_great_L2, lt_dec h3]
    simp only [cond_true, idxN, h1, bindS, great_state]
    by_cases hx : 2400 < x.Frame.Body.length
    · rw [decide_eq_true hx]; exact ⟨_, rfl, .inl rfl⟩
    · rw [decide_eq_false hx, cond_false, wrapN (by omega)]
      obtain ⟨o, h4, h5⟩ := great_loop L hL l (i + 1) n h2 (by simpa using hn)
      refine ⟨o, h4, ?_⟩
      rcases h5 with h5 | ⟨h5, h6⟩
      · exact .inl h5
      · refine .inr ⟨h5, fun y hy => ?_⟩
        rcases List.mem_cons.1 hy with rfl | hy
        · omega
        · exact h6 y hy
theorem great_e (L : List Stp) : ∃ b, hotspotlaw19_great L = some b ∧ (b = false → L.length ≤ 300 ∧ ∀ x ∈ L, x.Frame.Body.length ≤ 2400) := by
  unfold hotspotlaw19_great
  by_cases h : 300 < L.length
  · rw [decide_eq_true (by omega)]; exact ⟨_, rfl, by simp⟩
  · rw [decide_eq_false (by omega), cond_false]
    obtain ⟨o, h1, h2⟩ := great_loop L (by omega) L 0 big rfl (big_lt (by omega))
    simp only [Int.ofNat_zero, Int.natCast_zero] at h1
    rw [h1, bindS]
    rcases h2 with rfl | ⟨rfl, h3⟩
    · exact ⟨_, rfl, by simp⟩
    · exact ⟨_, rfl, fun _ => ⟨by omega, h3⟩⟩

theorem alive_e : hotspotlaw19_alive = some true := by decide +kernel

/-! ## Agreements -/

structure Agr (tid : Int) (i : Nat) (s : Sender) (asked : BlockAsk) (op : Bool) : Prop where
  len : s.Out.length ≤ i
  body : ∀ y ∈ s.Out, y.Frame.Body.length ≤ 2400
  tid : s.Tid = tid
  tok : asked.Token = s.Token
  op : op = (s.Phase == 2)
  size : s.Phase = 1 → asked.Size = s.Size

theorem tok_e {s : Sender} (h : Valid s) : tok s = s.Token % 255 + 1 ∧ tok s ≠ s.Token := by
  obtain ⟨_, _, ⟨a, b⟩, _⟩ := h
  unfold tok
  rw [Int.tmod_eq_emod_of_nonneg a, wrapI (by omega) (by omega)]
  exact ⟨rfl, by omega⟩

theorem stay_e {x : Stp} {t : Tld} {s nx : Sender} {asked : BlockAsk} {op : Bool} {tid : Int} (q0 : x.Kind ≠ 0) (q1 : x.Kind ≠ 1) (q2 : x.Kind ≠ 2) (ho : op = true) (K : BlockAsk × Bool → Option (Ex Bool Unit)) (hK : K (asked, true) = some (Ex.go ())) :
    ((bif x.Kind == 0 then (bif (((op || (t.Ask.Token == asked.Token)) || (t.Ask.Start != s.Next)) || (t.Ask.Tid != tid)) then some (Ex.ret false) else some (Ex.go (t.Ask, op))) else bif x.Kind == 1 then (bif (((x.A.Token != asked.Token) || (x.A.Tid != tid)) || ((x.A.Status == 0) && ((decide (asked.Size < x.A.Size)) || (x.A.Size != nx.Size)))) then some (Ex.ret false) else some (Ex.go (asked, (x.A.Status == 0)))) else bif x.Kind == 2 then some (Ex.go (asked, false)) else bif (!op) then some (Ex.ret false) else some (Ex.go (asked, op)) : Option (Ex Bool (BlockAsk × Bool))).bind fun o31 => o31.kE K) = some (Ex.go ()) := by
  have e0 : (x.Kind == 0) = false := by simpa using q0
  have e1 : (x.Kind == 1) = false := by simpa using q1
  have e2 : (x.Kind == 2) = false := by simpa using q2
  rw [e0, e1, e2, ho]; exact hK

theorem agrees_loop (L : List Stp) (tid : Int) (hL : L.length ≤ 300) (hb : ∀ x ∈ L, x.Frame.Body.length ≤ 2400) : ∀ (l : List Stp) (i n : Nat) (s : Sender) (asked : BlockAsk) (op : Bool), L.drop i = l → l.length < n → Agr tid i s asked op →
    hotspotlaw19_SenderAgrees_L3 L tid n (s, asked, op, (i : Int)) = some (Ex.go ()) := by
  intro l
  induction l with
  | nil =>
    intro i n s asked op h hn hA
    obtain ⟨n, rfl⟩ : ∃ m, n = m + 1 := ⟨n - 1, by simp at hn; omega⟩
    rw [hotspotlaw19_SenderAgrees_L3, ge_dec (drop_n h)]; rfl
  | cons x l ih =>
    intro i n s asked op h hn hA
    obtain ⟨n, rfl⟩ : ∃ m, n = m + 1 := ⟨n - 1, by simp at hn; omega⟩
    obtain ⟨h1, h2, h3⟩ := drop_c h
    rw [hotspotlaw19_SenderAgrees_L3, lt_dec h3]
    have hx : x.Frame.Body.length ≤ 2400 := hb x (List.mem_of_getElem? h1)
    have hlen := hA.len
    obtain ⟨⟨t, nx, e⟩, hr, hd⟩ := do_e (s := s) ⟨by omega, hA.body⟩ (by omega) x hx
    simp only [cond_true, idxN, h1, bindS]
    rw [show ({ s with Out := s.Out } : Sender) = s from rfl, hr, bindS]
    by_cases he : e = 0
    · subst he
      obtain ⟨hv, hd⟩ := hd rfl
      obtain ⟨f1, f2⟩ := hd.fit hA.body hx
      have F1 : nx.Out.length ≤ i + 1 := Nat.le_trans f1 (by omega)
      have F2 : ∀ y ∈ nx.Out, y.Frame.Body.length ≤ 2400 := f2
      have HD : Did s x t nx := hd
      clear hd f1 f2
      have next : ∀ asked' op', Agr tid (i + 1) nx asked' op' → hotspotlaw19_SenderAgrees_L3 L tid n (nx, asked', op', IntKind.wrap .i64 ((i : Int) + 1)) = some (Ex.go ()) := by
        intro asked' op' hA'
        rw [wrapN (by omega)]
        exact ih (i + 1) n nx asked' op' h2 (by simpa using hn) hA'
      simp only [show ((0 : Int) != 0) = false from rfl, cond_false]
      have stay : x.Kind ≠ 0 → x.Kind ≠ 1 → x.Kind ≠ 2 → s.Phase = 2 → _ := fun q0 q1 q2 p1 => stay_e (tid := tid) (t := t) (s := s) (nx := nx) (asked := asked) q0 q1 q2 (show op = true by rw [hA.op]; simp [p1])
      have fin : s.Phase = 2 → nx.Phase = 2 → nx.Tid = s.Tid → nx.Token = s.Token → (bif (!((nx.Phase == 2) == true)) then some (Ex.ret false) else hotspotlaw19_SenderAgrees_L3 L tid n (nx, asked, true, IntKind.wrap .i64 ((i : Int) + 1))) = some (Ex.go ()) := by
        intro p0 p1 p2 p3
        rw [p1]
        exact next _ _ ⟨F1, F2, by rw [p2, hA.tid], by rw [p3, hA.tok], by simp [p1], fun q => by simp [p1] at q⟩
      cases HD with
      | ask k g1 g2 ht hn' =>
        subst ht; subst hn'
        have e0 : (x.Kind == 0) = true := by simpa using k
        have ho : op = false := by rw [hA.op]; simpa using g2
        have c1 : (((op || ((askB s x.N).Token == asked.Token)) || ((askB s x.N).Start != s.Next)) || ((askB s x.N).Tid != tid)) = false := by
          rw [ho, hA.tok]
          have := (tok_e hv).2
          simp [askB, hA.tid, this]
        simp only [e0, cond_true, c1, cond_false, bindS, Ex.kE_go']
        rw [show (!(((askS s x.N).Phase == 2) == op)) = false by rw [ho]; rfl, cond_false]
        exact next _ _ ⟨by simpa [askS] using Nat.le_succ_of_le hA.len, hA.body, hA.tid, rfl, by rw [ho]; rfl, fun _ => rfl⟩
      | ans k g1 g2 g3 ht hn' =>
        subst ht; subst hn'
        have e0 : (x.Kind == 0) = false := by rw [k]; rfl
        have e1 : (x.Kind == 1) = true := by rw [k]; rfl
        have c1 : (((x.A.Token != asked.Token) || (x.A.Tid != tid)) || ((x.A.Status == 0) && ((decide (asked.Size < x.A.Size)) || (x.A.Size != (ansS s x.A).Size)))) = false := by
          rw [hA.tok, g2.1, g2.2, hA.tid, hA.size g1]
          by_cases hs : x.A.Status = 0
          · have hz : 1 ≤ x.A.Size ∧ x.A.Size ≤ s.Size := Classical.byContradiction fun q => g3 ⟨hs, q⟩
            have : (ansS s x.A).Size = x.A.Size := by unfold ansS; rw [if_pos hs]
            rw [this]
            simp; omega
          · simp [hs]
        simp only [e0, e1, cond_true, c1, cond_false, bindS, Ex.kE_go']
        have hph : (ansS s x.A).Phase = if x.A.Status = 0 then 2 else 0 := by unfold ansS; split <;> rfl
        have c2 : (!(((ansS s x.A).Phase == 2) == (x.A.Status == 0))) = false := by
          rw [hph]
          by_cases hs : x.A.Status = 0
          · simp [hs]
          · rw [if_neg hs, show (x.A.Status == 0) = false by simpa using hs]; rfl
        rw [c2, cond_false]
        have ho : (ansS s x.A).Out = s.Out := by unfold ansS; split <;> rfl
        refine next _ _ ⟨by rw [ho]; exact Nat.le_succ_of_le hA.len, by rw [ho]; exact hA.body, ?_, ?_, ?_, ?_⟩
        · rw [← hA.tid]; unfold ansS; split <;> rfl
        · rw [hA.tok]; unfold ansS; split <;> rfl
        · rw [hph]
          by_cases hs : x.A.Status = 0
          · simp [hs]
          · rw [if_neg hs, show (x.A.Status == 0) = false by simpa using hs]; rfl
        · rw [hph]; intro hq; split at hq <;> simp at hq
      | close k ht hn' =>
        subst ht; subst hn'
        have e0 : (x.Kind == 0) = false := by rw [k]; rfl
        have e1 : (x.Kind == 1) = false := by rw [k]; rfl
        have e2 : (x.Kind == 2) = true := by rw [k]; rfl
        simp only [e0, e1, e2, cond_true, cond_false, bindS, Ex.kE_go']
        rw [show (!(((closeS s).Phase == 2) == false)) = false from rfl, cond_false]
        exact next _ _ ⟨Nat.zero_le _, by simp [closeS], hA.tid, hA.tok, rfl, by simp [closeS]⟩
      | offer k g1 g2 g3 g4 ht hn' =>
        subst ht; subst hn'
        refine stay (by rw [k]; decide) (by rw [k]; decide) (by rw [k]; decide) g2 _ ?_
        exact fin g2 g2 rfl rfl
      | pick k g1 g2 ht hn' =>
        subst ht; subst hn'
        refine stay (by rw [k]; decide) (by rw [k]; decide) (by rw [k]; decide) g2 _ ?_
        exact fin g2 g2 rfl rfl
      | ack k g1 g2 ht hn' =>
        subst ht; subst hn'
        refine stay (by rw [k]; decide) (by rw [k]; decide) (by rw [k]; decide) g2 _ ?_
        exact fin g2 g2 rfl rfl
      | lost k g2 ht hn' =>
        subst ht; subst hn'
        refine stay (by rw [k]; decide) (by rw [k]; decide) (by rw [k]; decide) g2 _ ?_
        exact fin g2 g2 rfl rfl
      | expire k g1 g2 ht hn' =>
        subst ht; subst hn'
        refine stay (by rw [k]; decide) (by rw [k]; decide) (by rw [k]; decide) g2 _ ?_
        exact fin g2 g2 rfl rfl
      | barred k g1 g2 ht hn' =>
        subst ht; subst hn'
        refine stay (by rw [k]; decide) (by rw [k]; decide) (by rw [k]; decide) g2 _ ?_
        exact fin g2 g2 rfl rfl
    · have : (e != 0) = true := by simpa using he
      simp only [this, cond_true]
      rw [wrapN (by omega)]
      exact ih (i + 1) n s asked op h2 (by simpa using hn) ⟨by omega, hA.body, hA.tid, hA.tok, hA.op, hA.size⟩

theorem agrees_e (a b c d : Int) (L : List Stp) : hotspotlaw19_SenderAgrees a b c d L = some true := by
  unfold hotspotlaw19_SenderAgrees
  rw [alive_e, bindS, new_e, bindS]
  by_cases hv : Valid (newS a b c d)
  · simp only [if_pos hv]
    obtain ⟨g, hg, hb⟩ := great_e L
    rw [show ((0 : Int) != 0) = false from rfl, cond_false, hg, bindS, bindS]
    cases g
    · obtain ⟨h1, h2⟩ := hb rfl
      have := agrees_loop L a h1 h2 L 0 big (newS a b c d) BlockAsk.z false rfl (big_lt (by omega)) ⟨Nat.zero_le _, by simp [newS, Sender.z], rfl, rfl, rfl, fun q => by simp [newS, Sender.z] at q⟩
      simp only [Int.ofNat_zero, Int.natCast_zero] at this
      rw [this]; rfl
    · rfl
  · simp only [if_neg hv]; rfl
end Go.AX.Z.TS

/-! (TSV) -/

set_option linter.unusedVariables false
set_option linter.unusedSimpArgs false
namespace Go.AX.Z.TS
open Go.AX

/-! ## States stay valid -/

def Good (lim : Int) (x : Unacked) : Prop := 0 ≤ x.Frame.Head.Seq ∧ x.Frame.Head.Seq ≤ 4095 ∧ 0 ≤ x.At ∧ x.At ≤ 1099511627776 ∧ 0 ≤ x.Tries ∧ x.Tries ≤ lim ∧ (x.Flying = true → x.Tries ≠ 0)
abbrev dq (st : Int) (x : Unacked) : Int := dist st x.Frame.Head.Seq
structure OkP (st dd lim : Int) (l : List Unacked) : Prop where
  good : ∀ x ∈ l, Good lim x
  dd : ∀ x ∈ l, dq st x < dd
  pw : l.Pairwise fun x y => dq st x < dq st y ∧ x.At ≤ y.At

theorem OkL.toP {st dd lim : Int} : ∀ {l : List Unacked} {last at' : Int}, 0 ≤ at' → OkL st dd lim last at' l → OkP st dd lim l ∧ ∀ x ∈ l, last < dq st x ∧ at' ≤ x.At
  | [], _, _, _, _ => ⟨⟨by simp, by simp, .nil⟩, by simp⟩
  | x :: l, last, at', h0, h => by
    obtain ⟨⟨a, b, c, d, e, f, g, k, m⟩, h2⟩ := h
    obtain ⟨h3, h4⟩ := OkL.toP (l := l) (show 0 ≤ x.At by omega) h2
    refine ⟨⟨?_, ?_, ?_⟩, ?_⟩
    · intro y hy
      rcases List.mem_cons.1 hy with rfl | hy
      · exact ⟨a, b, by omega, f, g, k, m⟩
      · exact h3.good y hy
    · intro y hy
      rcases List.mem_cons.1 hy with rfl | hy
      · exact d
      · exact h3.dd y hy
    · exact List.pairwise_cons.2 ⟨fun y hy => h4 y hy, h3.pw⟩
    · intro y hy
      rcases List.mem_cons.1 hy with rfl | hy
      · exact ⟨c, e⟩
      · have := h4 y hy; unfold dq at this ⊢; omega

theorem OkP.toL {st dd lim : Int} : ∀ {l : List Unacked} {last at' : Int}, OkP st dd lim l → (∀ x ∈ l, last < dq st x ∧ at' ≤ x.At) → OkL st dd lim last at' l
  | [], _, _, _, _ => trivial
  | x :: l, last, at', h, h2 => by
    obtain ⟨a, b, c, d, e, f, g⟩ := h.good x (by simp)
    have hx := h2 x (by simp)
    obtain ⟨p1, p2⟩ := List.pairwise_cons.1 h.pw
    exact ⟨⟨a, b, hx.1, h.dd x (by simp), hx.2, d, e, f, g⟩, OkP.toL ⟨fun y hy => h.good y (by simp [hy]), fun y hy => h.dd y (by simp [hy]), p2⟩ p1⟩

theorem dist_sub {a b c : Int} (h : dist a b ≤ dist a c) : dist b c = dist a c - dist a b := by unfold dist at *; omega
theorem dist_self (a : Int) : dist a a = 0 := by unfold dist; simp

theorem Valid.P {s : Sender} (h : Valid s) : OkP (startOf s) (dist (startOf s) s.Next) s.Limit s.Out := by
  obtain ⟨_, _, _, _, _, _, _, _, _, q⟩ := h
  exact (OkL.toP (by omega) q).1

/-- The same with other outstanding frames. -/
theorem valid_sub {s : Sender} (h : Valid s) (hp : s.Phase = 2) {l : List Unacked} (hl : OkP (startOf s) (dist (startOf s) s.Next) s.Limit l) (b : Bool) : Valid { s with Out := l, Bar := b } := by
  obtain ⟨a1, a2, a3, a4, a5, a6, a7, a8, a9, a10⟩ := h
  refine ⟨a1, a2, a3, a4, a5, a6, a7, fun hq => absurd hp hq, ?_, ?_⟩
  · cases l with
    | nil =>
      have e : startOf { s with Out := [], Bar := b } = s.Next := rfl
      rw [e, dist_self]
      have : s.Phase ≠ 0 := by omega
      rw [if_neg this] at a7
      show 0 ≤ s.Size
      omega
    | cons x l =>
      have e : startOf { s with Out := x :: l, Bar := b } = x.Frame.Head.Seq := rfl
      rw [e]
      have h1 := hl.dd x (by simp)
      show dist x.Frame.Head.Seq s.Next ≤ s.Size
      rw [dist_sub (a := startOf s) (by unfold dq at h1; omega)]
      have := dist_nn (startOf s) x.Frame.Head.Seq
      omega
  · cases l with
    | nil => exact trivial
    | cons x l =>
      have e : startOf { s with Out := x :: l, Bar := b } = x.Frame.Head.Seq := rfl
      rw [e]
      show OkL x.Frame.Head.Seq (dist x.Frame.Head.Seq s.Next) s.Limit (-1) 0 (x :: l)
      have hx := hl.dd x (by simp)
      obtain ⟨p1, p2⟩ := List.pairwise_cons.1 hl.pw
      have hle : ∀ y ∈ x :: l, dq (startOf s) x ≤ dq (startOf s) y := by
        intro y hy
        rcases List.mem_cons.1 hy with rfl | hy
        · exact Int.le_refl _
        · have := (p1 y hy).1; omega
      have sh : ∀ y ∈ x :: l, dq x.Frame.Head.Seq y = dq (startOf s) y - dq (startOf s) x := fun y hy => dist_sub (hle y hy)
      refine OkP.toL ⟨hl.good, fun y hy => ?_, ?_⟩ fun y hy => ⟨?_, (hl.good y hy).2.2.1⟩
      · rw [sh y hy, dist_sub (a := startOf s) (by unfold dq at hx; omega)]
        have := hl.dd y hy
        unfold dq at this ⊢; omega
      · refine List.Pairwise.imp_of_mem ?_ hl.pw
        intro y z hy hz hyz
        rw [sh y hy, sh z hz]
        exact ⟨by omega, hyz.2⟩
      · have := (dist_nn x.Frame.Head.Seq y.Frame.Head.Seq).1
        unfold dq; omega

theorem OkP.map {st dd lim : Int} {l : List Unacked} (h : OkP st dd lim l) (f : Unacked → Unacked) (h1 : ∀ x, (f x).Frame.Head.Seq = x.Frame.Head.Seq) (h2 : ∀ x, (f x).At = x.At) (h3 : ∀ x ∈ l, Good lim (f x)) : OkP st dd lim (l.map f) := by
  refine ⟨fun y hy => ?_, fun y hy => ?_, ?_⟩
  · obtain ⟨x, hx, rfl⟩ := List.mem_map.1 hy; exact h3 x hx
  · obtain ⟨x, hx, rfl⟩ := List.mem_map.1 hy
    have := h.dd x hx
    unfold dq at this ⊢; rw [h1]; exact this
  · refine List.pairwise_map.2 (h.pw.imp fun {x y} hxy => ?_)
    unfold dq at hxy ⊢
    rw [h1, h1, h2, h2]; exact hxy
theorem OkP.filter {st dd lim : Int} {l : List Unacked} (h : OkP st dd lim l) (p : Unacked → Bool) : OkP st dd lim (l.filter p) :=
  ⟨fun y hy => h.good y (List.mem_filter.1 hy).1, fun y hy => h.dd y (List.mem_filter.1 hy).1, h.pw.filter p⟩

theorem good_unfly {lim : Int} {x : Unacked} (h : Good lim x) : Good lim (unfly x) :=
  ⟨h.1, h.2.1, h.2.2.1, h.2.2.2.1, h.2.2.2.2.1, h.2.2.2.2.2.1, fun q => by simp [unfly] at q⟩

/-- What Pick does to each. -/
theorem pickR_rel (lim k : Int) : ∀ (c : Nat) (l : List Unacked), (∀ x ∈ l, Good lim x) → lim ≤ 16 →
    F2 (fun x y => y.Frame.Head.Seq = x.Frame.Head.Seq ∧ y.At = x.At ∧ Good lim y) l (pickR lim k c l).1
  | _, [], _, _ => .nil
  | c, x :: l, h, hl => by
    have hx := h x (by simp)
    have ht : ∀ y ∈ l, Good lim y := fun y hy => h y (by simp [hy])
    have self : ∀ (m : List Unacked), (∀ y ∈ m, Good lim y) → F2 (fun x y => y.Frame.Head.Seq = x.Frame.Head.Seq ∧ y.At = x.At ∧ Good lim y) m m := by
      intro m
      induction m with
      | nil => intro _; exact .nil
      | cons z m ih => intro hm; exact .cons ⟨rfl, rfl, hm z (by simp)⟩ (ih fun y hy => hm y (by simp [hy]))
    unfold pickR
    split
    · exact self _ h
    · split
      · exact .cons ⟨rfl, rfl, hx⟩ (pickR_rel lim k c l ht hl)
      · rename_i h1 h2
        refine .cons ⟨rfl, rfl, ?_⟩ (pickR_rel lim k (c + 1) l ht hl)
        obtain ⟨a, b, c', d, e, f, g⟩ := hx
        have hne : x.Tries ≠ lim := by
          intro q
          apply h2
          simp [q]
        refine ⟨a, b, c', d, ?_, ?_, ?_⟩
        all_goals (simp only; rw [wrapI (by omega) (by omega)]; omega)

theorem F2_key {st lim : Int} {x y : Unacked} {l m : List Unacked} (hxy : y.Frame.Head.Seq = x.Frame.Head.Seq ∧ y.At = x.At ∧ Good lim y) (p1 : ∀ z ∈ l, dq st x < dq st z ∧ x.At ≤ z.At)
    (t : F2 (fun x y => y.Frame.Head.Seq = x.Frame.Head.Seq ∧ y.At = x.At ∧ Good lim y) l m) : ∀ z ∈ m, dq st y < dq st z ∧ y.At ≤ z.At := by
  induction t with
  | nil => simp
  | @cons a b l m hab t ih =>
    intro z hz
    rcases List.mem_cons.1 hz with rfl | hz
    · have := p1 a (by simp)
      unfold dq at this ⊢
      rw [hxy.1, hab.1, hxy.2.1, hab.2.1]; exact this
    · exact ih (fun w hw => p1 w (by simp [hw])) z hz

theorem OkP.rel {st dd lim : Int} {l m : List Unacked} (h : OkP st dd lim l) (hm : F2 (fun x y => y.Frame.Head.Seq = x.Frame.Head.Seq ∧ y.At = x.At ∧ Good lim y) l m) : OkP st dd lim m := by
  induction hm with
  | nil => exact h
  | @cons x y l m hxy t ih =>
    obtain ⟨p1, p2⟩ := List.pairwise_cons.1 h.pw
    have ih := ih ⟨fun z hz => h.good z (by simp [hz]), fun z hz => h.dd z (by simp [hz]), p2⟩
    have key := F2_key hxy p1 t
    have hd : dq st y < dd := by
      have := h.dd x (by simp)
      unfold dq at this ⊢; rw [hxy.1]; exact this
    refine ⟨fun z hz => ?_, fun z hz => ?_, List.pairwise_cons.2 ⟨key, ih.pw⟩⟩
    · rcases List.mem_cons.1 hz with rfl | hz
      · exact hxy.2.2
      · exact ih.good z hz
    · rcases List.mem_cons.1 hz with rfl | hz
      · exact hd
      · exact ih.dd z hz

theorem valid_idle {s : Sender} (h : Valid s) (hp : s.Phase ≠ 2) : s.Out = [] ∧ s.Bar = false := by
  obtain ⟨_, _, _, _, _, _, _, a8, _⟩ := h
  exact a8 hp

theorem last_le {s : Sender} (h : OkP (startOf s) (dist (startOf s) s.Next) s.Limit s.Out) {n : Int} (hn : ¬ (s.Out ≠ [] ∧ n < lastAt s)) : ∀ x ∈ s.Out, x.At ≤ n := by
  intro x hx
  have hne : s.Out ≠ [] := by intro q; rw [q] at hx; cases hx
  have h1 : lastAt s ≤ n := by
    apply Int.not_lt.1
    intro q; exact hn ⟨hne, q⟩
  have h2 : s.Out.getLast? = some (s.Out.getLast hne) := List.getLast?_eq_some_getLast hne
  have h3 : lastAt s = (s.Out.getLast hne).At := by unfold lastAt; rw [h2]
  have h4 : x.At ≤ (s.Out.getLast hne).At := by
    have e : s.Out = s.Out.dropLast ++ [s.Out.getLast hne] := (List.dropLast_concat_getLast hne).symm
    have pw := h.pw
    rw [e] at hx pw
    rcases List.mem_append.1 hx with hx | hx
    · exact ((List.pairwise_append.1 pw).2.2 x hx _ (by simp)).2
    · simp at hx; rw [hx]; exact Int.le_refl _
  omega

theorem startOf_off {s : Sender} (f : Frame) (n : Int) : startOf (offS s f n) = startOf s := by
  unfold startOf offS
  cases s.Out <;> rfl

theorem Did.valid {s : Sender} {x : Stp} {t : Tld} {n : Sender} (h : Did s x t n) (hv : Valid s) : Valid n := by
  have hP := hv.P
  obtain ⟨a1, a2, a3, a4, a5, a6, a7, a8, a9, a10⟩ := hv
  have hv : Valid s := ⟨a1, a2, a3, a4, a5, a6, a7, a8, a9, a10⟩
  cases h with
  | ask k g1 g2 ht hn =>
    subst hn
    obtain ⟨o1, o2⟩ := a8 g2
    have ht := (tok_e hv).1
    have e : startOf (askS s x.N) = s.Next := by unfold startOf askS; simp only [o1]
    refine ⟨a1, by show (1 : Int) ≤ 2; decide, ?_, a4, a5, a6, ?_, fun _ => ⟨o1, o2⟩, ?_, ?_⟩
    · show 0 ≤ tok s ∧ tok s ≤ 255; rw [ht]; omega
    · show (if (1 : Int) = 0 then x.N = 0 else 1 ≤ x.N ∧ x.N ≤ 64)
      rw [if_neg (by decide)]; exact g1
    · rw [e]; show dist s.Next s.Next ≤ x.N; rw [dist_self]; omega
    · show OkL _ _ _ (-1) 0 s.Out; rw [o1]; exact trivial
  | ans k g1 g2 g3 ht hn =>
    subst hn
    obtain ⟨o1, o2⟩ := a8 (by omega)
    rw [if_neg (show ¬ s.Phase = 0 by omega)] at a7
    unfold ansS
    by_cases hs : x.A.Status = 0
    · rw [if_pos hs]
      have hz : 1 ≤ x.A.Size ∧ x.A.Size ≤ s.Size := Classical.byContradiction fun q => g3 ⟨hs, q⟩
      have e : startOf { s with Phase := 2, Size := x.A.Size } = s.Next := by unfold startOf; simp only [o1]
      refine ⟨a1, by show (2 : Int) ≤ 2; decide, a3, a4, a5, a6, ?_, fun q => absurd rfl q, ?_, ?_⟩
      · show (if (2 : Int) = 0 then x.A.Size = 0 else 1 ≤ x.A.Size ∧ x.A.Size ≤ 64)
        rw [if_neg (by decide)]; omega
      · rw [e]; show dist s.Next s.Next ≤ x.A.Size; rw [dist_self]; omega
      · show OkL _ _ _ (-1) 0 s.Out; rw [o1]; exact trivial
    · rw [if_neg hs]
      have e : startOf { s with Phase := 0, Size := 0 } = s.Next := by unfold startOf; simp only [o1]
      refine ⟨a1, by show (0 : Int) ≤ 2; decide, a3, a4, a5, a6, ?_, fun q => ⟨o1, o2⟩, ?_, ?_⟩
      · show (if (0 : Int) = 0 then (0 : Int) = 0 else _)
        rw [if_pos rfl]
      · rw [e]; show dist s.Next s.Next ≤ 0; rw [dist_self]; exact Int.le_refl _
      · show OkL _ _ _ (-1) 0 s.Out; rw [o1]; exact trivial
  | close k ht hn =>
    subst hn
    refine ⟨a1, by show (0 : Int) ≤ 2; decide, a3, a4, a5, a6, ?_, fun q => ⟨rfl, rfl⟩, ?_, trivial⟩
    · show (if (0 : Int) = 0 then (0 : Int) = 0 else _)
      rw [if_pos rfl]
    · show dist s.Next s.Next ≤ 0; rw [dist_self]; exact Int.le_refl _
  | offer k g1 g2 g3 g4 ht hn =>
    subst hn
    rw [if_neg (show ¬ s.Phase = 0 by omega)] at a7
    have dn := dist_nn (startOf s) s.Next
    have e : dist (startOf s) ((s.Next + 1) % 4096) = dist (startOf s) s.Next + 1 := by
      have : dist (startOf s) s.Next < 4095 := by omega
      unfold dist at this ⊢; omega
    have hle := last_le hP g3
    refine ⟨a1, a2, a3, by show 0 ≤ (s.Next + 1) % 4096 ∧ (s.Next + 1) % 4096 ≤ 4095; omega, a5, a6, by rw [show (offS s x.Frame x.N).Phase = s.Phase from rfl, if_neg (show ¬ s.Phase = 0 by omega)]; exact a7, fun q => absurd g2 q, ?_, ?_⟩
    · rw [startOf_off]
      show dist (startOf s) ((s.Next + 1) % 4096) ≤ s.Size
      rw [e]; omega
    · rw [startOf_off]
      show OkL (startOf s) (dist (startOf s) ((s.Next + 1) % 4096)) s.Limit (-1) 0 (s.Out ++ [{ Unacked.z with At := x.N, Frame := offF s x.Frame }])
      rw [e]
      have gn : Good s.Limit { Unacked.z with At := x.N, Frame := offF s x.Frame } := ⟨a4.1, a4.2, g1.1, g1.2, Int.le_refl _, by show (0 : Int) ≤ s.Limit; omega, fun q => by cases q⟩
      refine OkP.toL ⟨fun y hy => ?_, fun y hy => ?_, ?_⟩ fun y hy => ⟨?_, ?_⟩
      · rcases List.mem_append.1 hy with hy | hy
        · exact hP.good y hy
        · simp at hy; subst hy; exact gn
      · rcases List.mem_append.1 hy with hy | hy
        · have := hP.dd y hy; omega
        · simp at hy; subst hy; show dist (startOf s) s.Next < _; omega
      · refine List.pairwise_append.2 ⟨hP.pw, List.pairwise_singleton _ _, fun y hy z hz => ?_⟩
        simp at hz; subst hz
        exact ⟨hP.dd y hy, hle y hy⟩
      · have := (dist_nn (startOf s) y.Frame.Head.Seq).1; unfold dq; omega
      · rcases List.mem_append.1 hy with hy | hy
        · exact (hP.good y hy).2.2.1
        · simp at hy; subst hy; exact g1.1
  | pick k g1 g2 ht hn => subst hn; exact valid_sub hv g2 (hP.rel (pickR_rel _ _ _ _ hP.good (by omega))) s.Bar
  | ack k g1 g2 ht hn =>
    subst hn
    exact valid_sub hv g2 ((hP.filter _).map unfly (fun _ => rfl) (fun _ => rfl) fun y hy => good_unfly ((hP.filter _).good y hy)) s.Bar
  | lost k g2 ht hn =>
    subst hn
    exact valid_sub hv g2 (hP.map unfly (fun _ => rfl) (fun _ => rfl) fun y hy => good_unfly (hP.good y hy)) s.Bar
  | expire k g1 g2 ht hn => subst hn; exact valid_sub hv g2 (hP.filter _) _
  | barred k g1 g2 ht hn => subst hn; exact valid_sub hv g2 hP false
end Go.AX.Z.TS

/-! (TSO) -/

set_option linter.unusedVariables false
set_option linter.unusedSimpArgs false
namespace Go.AX.Z.TS
open Go.AX

/-! ## Each frame is done once -/

def lastIx (num : Int) : Int → Nat → List Int → Int
  | at', _, [] => at'
  | at', i, x :: l => lastIx num (if x = num then (i : Int) else at') (i + 1) l
theorem lastIx_no {num : Int} : ∀ {l : List Int} {at' : Int} {i : Nat}, num ∉ l → lastIx num at' i l = at'
  | [], _, _, _ => rfl
  | x :: l, at', i, h => by
    simp only [List.mem_cons, not_or] at h
    unfold lastIx
    rw [if_neg (fun q => h.1 q.symm)]
    exact lastIx_no h.2
theorem lastIx_app {num : Int} : ∀ {a l : List Int} {at' : Int} {i : Nat}, num ∉ a → lastIx num at' i (a ++ l) = lastIx num at' (i + a.length) l
  | [], _, _, _, _ => rfl
  | x :: a, l, at', i, h => by
    simp only [List.mem_cons, not_or] at h
    show lastIx num (if x = num then (i : Int) else at') (i + 1) (a ++ l) = _
    rw [if_neg (fun q => h.1 q.symm), lastIx_app h.2]
    congr 1
    simp; omega

theorem L13_e (d : List Int × Int) (x : Tld × Sender × Int) (num : Int) (hx : idx x.1.Numbers d.2 = some num) (hL : d.1.length ≤ 100000) : ∀ (l : List Int) (at' : Int) (i n : Nat), d.1.drop i = l → l.length < n →
    hotspotlaw19_SenderOnce_L13 d x n (at', (i : Int)) = some (lastIx num at' i l) := by
  intro l
  induction l with
  | nil =>
    intro at' i n h hn
    obtain ⟨n, rfl⟩ : ∃ m, n = m + 1 := ⟨n - 1, by simp at hn; omega⟩
    rw [hotspotlaw19_SenderOnce_L13, ge_dec (drop_n h)]; rfl
  | cons y l ih =>
    intro at' i n h hn
    obtain ⟨n, rfl⟩ : ∃ m, n = m + 1 := ⟨n - 1, by simp at hn; omega⟩
    obtain ⟨h1, h2, h3⟩ := drop_c h
    simp only [List.length_cons] at hn
    rw [hotspotlaw19_SenderOnce_L13, lt_dec h3]
    simp only [cond_true, idxN, h1, bindS, hx]
    rw [wrapN (by omega)]
    unfold lastIx
    by_cases e : y = num
    · rw [show (y == num) = true by simpa using e, if_pos e, cond_true]; exact ih _ _ _ h2 (by omega)
    · rw [show (y == num) = false by simpa using e, if_neg e, cond_false]; exact ih _ _ _ h2 (by omega)

theorem nodup_split {o : List Int} {v : Int} (h : o.Nodup) (hv : v ∈ o) : ∃ a b, o = a ++ v :: b ∧ v ∉ a ∧ v ∉ b ∧ (a ++ b) = o.filter (fun y => !(y == v)) := by
  obtain ⟨a, b, rfl⟩ := List.append_of_mem hv
  have h1 := List.nodup_append.1 h
  have na : v ∉ a := fun q => h1.2.2 v q v (by simp) rfl
  have nb : v ∉ b := (List.nodup_cons.1 h1.2.1).1
  refine ⟨a, b, rfl, na, nb, ?_⟩
  have f : ∀ l : List Int, v ∉ l → l.filter (fun y => !(y == v)) = l := by
    intro l hl
    refine List.filter_eq_self.2 fun y hy => ?_
    have : y ≠ v := by rintro rfl; exact hl hy
    simpa using this
  rw [List.filter_append, List.filter_cons, f a na, f b nb]
  simp

theorem L9_e (x : Tld × Sender × Int) (hN : x.1.Numbers.length ≤ 100000) : ∀ (ns : List Int) (o : List Int) (i n : Nat), x.1.Numbers.drop i = ns → ns.length < n → o.Nodup → ns.Nodup → (∀ v ∈ ns, v ∈ o) → o.length ≤ 100000 →
    hotspotlaw19_SenderOnce_L9 x n (o, (i : Int)) = some (Ex.go (o.filter (fun y => !(ns.contains y)))) := by
  intro ns
  induction ns with
  | nil =>
    intro o i n h hn h1 h2 h3 hl
    obtain ⟨n, rfl⟩ : ∃ m, n = m + 1 := ⟨n - 1, by simp at hn; omega⟩
    rw [hotspotlaw19_SenderOnce_L9, ge_dec (drop_n h)]
    have : o.filter (fun y => !(([] : List Int).contains y)) = o := List.filter_eq_self.2 fun _ _ => rfl
    rw [this]; rfl
  | cons v ns ih =>
    intro o i n h hn hd1 hd2 hm hl
    obtain ⟨n, rfl⟩ : ∃ m, n = m + 1 := ⟨n - 1, by simp at hn; omega⟩
    obtain ⟨h1, h2, h3⟩ := drop_c h
    simp only [List.length_cons] at hn
    rw [hotspotlaw19_SenderOnce_L9, lt_dec h3, cond_true]
    obtain ⟨a, b, hab, na, nb, hf⟩ := nodup_split hd1 (hm v (by simp))
    have e13 := L13_e (o, (i : Int)) x v (by simp only [idxN]; exact h1) hl o (-1) 0 big rfl (big_lt (by omega))
    simp only [Int.ofNat_zero, Int.natCast_zero] at e13
    have hix : lastIx v (-1) 0 o = ((a.length : Nat) : Int) := by
      rw [hab, lastIx_app na]
      show lastIx v (if v = v then ((0 + a.length : Nat) : Int) else -1) (0 + a.length + 1) b = _
      rw [if_pos rfl, lastIx_no nb, Nat.zero_add]
    rw [e13, hix, bindS]
    have hol : o.length = a.length + (b.length + 1) := by rw [hab]; simp
    rw [decide_eq_false (by omega : ¬ ((a.length : Nat) : Int) < 0), cond_false, wrapN (by omega)]
    have c1 : chk (decide (0 ≤ ((a.length : Nat) : Int)) && decide (((a.length : Nat) : Int) ≤ (o.length : Int))) = some () := chk_t (by simp; omega)
    have c2 : chk (decide (0 ≤ ((a.length + 1 : Nat) : Int)) && decide (((a.length + 1 : Nat) : Int) ≤ (o.length : Int))) = some () := chk_t (by simp; omega)
    have t1 : ((a.length : Nat) : Int).toNat = a.length := by omega
    have t2 : ((a.length + 1 : Nat) : Int).toNat = a.length + 1 := by omega
    simp only [c1, c2, t1, t2, bindS]
    rw [chk_d (by omega), bindS, chk_d (by omega), bindS]
    have e1 : o.take a.length = a := by rw [hab]; simp
    have e2 : o.drop (a.length + 1) = b := by rw [hab]; simp
    rw [e1, e2, hf, bindS, Ex.kE_go', wrapN (by omega)]
    obtain ⟨q1, q2⟩ := List.nodup_cons.1 hd2
    have := ih (o.filter (fun y => !(y == v))) (i + 1) n h2 (by omega) (hd1.filter _) q2 (fun w hw => List.mem_filter.2 ⟨hm w (by simp [hw]), by
      have : w ≠ v := by rintro rfl; exact q1 hw
      simpa using this⟩) (Nat.le_trans (List.length_filter_le _ _) hl)
    rw [this, List.filter_filter]
    congr 2
    apply List.filter_congr
    intro y hy
    simp only [List.contains_cons]
    cases y == v <;> simp

theorem in_e (a b c : Int) : window_In a b c = some (decide (0 ≤ a ∧ a < 4096) && decide (0 ≤ c ∧ c < 4096) && decide (dist a c < b)) := by
  unfold window_In window_number
  have e : ∀ z : Int, (decide (0 ≤ z) && decide (z < 4096)) = decide (0 ≤ z ∧ z < 4096) := fun z => by simp
  simp only [bindS, e]
  cases decide (0 ≤ a ∧ a < 4096)
  · rfl
  · simp only [cond_true, bindS]
    cases decide (0 ≤ c ∧ c < 4096)
    · rfl
    · simp only [cond_true, dist_e, bindS, Bool.true_and]

theorem L16_e (x : Tld × Sender × Int) (hs : x.2.1.Out.length ≤ 100000) (hv : Valid x.2.1) : ∀ (l : List Unacked) (i n : Nat), x.2.1.Out.drop i = l → l.length < n →
    hotspotlaw19_SenderOnce_L16 (seqs x.2.1.Out) x n (i : Int) = some (Ex.go ()) := by
  intro l
  induction l with
  | nil =>
    intro i n h hn
    obtain ⟨n, rfl⟩ : ∃ m, n = m + 1 := ⟨n - 1, by simp at hn; omega⟩
    rw [hotspotlaw19_SenderOnce_L16, ge_dec (by simp only [seqs, List.length_map]; exact drop_n h)]; rfl
  | cons y l ih =>
    intro i n h hn
    obtain ⟨n, rfl⟩ : ∃ m, n = m + 1 := ⟨n - 1, by simp at hn; omega⟩
    obtain ⟨h1, h2, h3⟩ := drop_c h
    simp only [List.length_cons] at hn
    rw [hotspotlaw19_SenderOnce_L16, lt_dec (by simp only [seqs, List.length_map]; exact h3)]
    have hy : y ∈ x.2.1.Out := List.mem_of_getElem? h1
    have e2 : (seqs x.2.1.Out)[i]? = some y.Frame.Head.Seq := by simp [seqs, h1]
    have hs' : sender_Start x.2.1 = some (startOf x.2.1) := by
      unfold sender_Start
      rw [check_e _ (by omega), bindS, if_pos hv, show ((0 : Int) != 0) = false from rfl, cond_false, start_e]; rfl
    simp only [cond_true, idxN, h1, e2, bindS, hs']
    rw [show (y.Frame.Head.Seq != y.Frame.Head.Seq) = false by simp, cond_false]
    have hP := hv.P
    have hst : 0 ≤ startOf x.2.1 ∧ startOf x.2.1 < 4096 := by
      unfold startOf
      cases ho : x.2.1.Out with
      | nil => simp only; obtain ⟨_, _, _, a4, _⟩ := hv; omega
      | cons z r =>
        have := hP.good z (by rw [ho]; simp)
        simp only; have a := this.1; have b := this.2.1; omega
    have g := hP.good y hy
    have hd : dist (startOf x.2.1) y.Frame.Head.Seq < x.2.1.Size := by
      have a := hP.dd y hy
      obtain ⟨_, _, _, _, _, _, _, _, a9, _⟩ := hv
      unfold dq at a; omega
    rw [in_e, bindS, decide_eq_true hst, decide_eq_true (⟨g.1, by have := g.2.1; omega⟩ : 0 ≤ y.Frame.Head.Seq ∧ y.Frame.Head.Seq < 4096), decide_eq_true hd, bindS]
    simp only [Bool.and_self, Bool.not_true, cond_false]
    rw [wrapN (by omega)]
    exact ih (i + 1) n h2 (by omega)

theorem seqs_nodup {st dd lim : Int} {l : List Unacked} (h : OkP st dd lim l) : (seqs l).Nodup := by
  unfold seqs
  refine List.pairwise_map.2 (h.pw.imp fun {x y} hxy hq => ?_)
  have := hxy.1
  unfold dq at this
  rw [hq] at this; omega

theorem seqs_filter {st dd lim : Int} {l : List Unacked} (h : OkP st dd lim l) (p : Unacked → Bool) : (seqs l).filter (fun y => !((seqs (l.filter p)).contains y)) = seqs (l.filter fun x => !p x) := by
  unfold seqs
  rw [List.filter_map]
  congr 1
  apply List.filter_congr
  intro x hx
  simp only [Function.comp]
  congr 1
  rw [Bool.eq_iff_iff]
  simp only [List.contains_iff_mem, List.mem_map, List.mem_filter]
  constructor
  · rintro ⟨y, ⟨hy, hp⟩, he⟩
    have : x = y := by
      rcases Classical.em (x = y) with q | q
      · exact q
      · exfalso
        have hn := seqs_nodup h
        unfold seqs at hn
        have := List.pairwise_map.1 hn
        rcases List.pairwise_iff_getElem.1 this with hh
        obtain ⟨i, hi, ei⟩ := List.getElem_of_mem hx
        obtain ⟨j, hj, ej⟩ := List.getElem_of_mem hy
        rcases Nat.lt_trichotomy i j with hij | hij | hij
        · exact hh i j hi hj hij (by rw [ei, ej]; exact he.symm)
        · subst hij; exact q (ei.symm.trans ej)
        · exact hh j i hj hi hij (by rw [ei, ej]; exact he)
    rw [this]; exact hp
  · intro hp
    exact ⟨x, ⟨hx, hp⟩, rfl⟩

structure Onc (start : Int) (i : Nat) (s : Sender) (acc : Int) (op : List Int) : Prop where
  len : s.Out.length ≤ i
  body : ∀ y ∈ s.Out, y.Frame.Body.length ≤ 2400
  valid : Valid s
  op : op = seqs s.Out
  accb : 0 ≤ acc ∧ acc ≤ i
  next : s.Next = (start + acc) % 4096

theorem seqs_len (l : List Unacked) : (seqs l).length = l.length := by simp [seqs]
theorem seqs_unfly (l : List Unacked) : seqs (l.map unfly) = seqs l := by simp [seqs, unfly]
theorem seqs_pick (lim k : Int) : ∀ (c : Nat) (l : List Unacked), seqs (pickR lim k c l).1 = seqs l
  | _, [] => rfl
  | c, x :: l => by
    unfold pickR
    split
    · rfl
    · split
      · have := seqs_pick lim k c l; simp only [seqs, List.map_cons] at this ⊢; rw [this]
      · have := seqs_pick lim k (c + 1) l; simp only [seqs, List.map_cons] at this ⊢; rw [this]

/-- What a step tells, and how what is outstanding changes. -/
theorem Did.nums {s : Sender} {x : Stp} {t : Tld} {n : Sender} (h : Did s x t n) (hv : Valid s) :
    (x.Kind = 3 ∧ t.Frames = [offF s x.Frame] ∧ t.Numbers = [] ∧ seqs n.Out = seqs s.Out ++ [s.Next] ∧ n.Next = (s.Next + 1) % 4096) ∨
    (x.Kind ≠ 3 ∧ n.Next = s.Next ∧ ∃ p, t.Numbers = seqs (s.Out.filter p) ∧ seqs n.Out = seqs (s.Out.filter fun y => !p y)) := by
  have none : ∀ l : List Unacked, l.filter (fun y => !(fun _ => false) y) = l := fun l => List.filter_eq_self.2 fun _ _ => rfl
  have no2 : ∀ l : List Unacked, l.filter (fun _ => false) = [] := fun l => List.filter_eq_nil_iff.2 fun _ _ => by simp
  cases h with
  | ask k g1 g2 ht hn => subst ht; subst hn; exact .inr ⟨by rw [k]; decide, rfl, fun _ => false, by rw [no2]; rfl, by rw [none]; rfl⟩
  | ans k g1 g2 g3 ht hn =>
    subst ht; subst hn
    have e1 : (ansS s x.A).Out = s.Out := by unfold ansS; split <;> rfl
    have e2 : (ansS s x.A).Next = s.Next := by unfold ansS; split <;> rfl
    exact .inr ⟨by rw [k]; decide, e2, fun _ => false, by rw [no2]; rfl, by rw [none, e1]⟩
  | close k ht hn =>
    subst ht; subst hn
    exact .inr ⟨by rw [k]; decide, rfl, fun _ => true, by rw [List.filter_eq_self.2 fun _ _ => rfl], by simp [closeS, seqs]⟩
  | offer k g1 g2 g3 g4 ht hn =>
    subst ht; subst hn
    exact .inl ⟨k, rfl, rfl, by simp [offS, seqs, offF], rfl⟩
  | pick k g1 g2 ht hn => subst ht; subst hn; exact .inr ⟨by rw [k]; decide, rfl, fun _ => false, by rw [no2]; rfl, by rw [none, seqs_pick]⟩
  | ack k g1 g2 ht hn => subst ht; subst hn; exact .inr ⟨by rw [k]; decide, rfl, pA x.W, rfl, by simp only [ackS, seqs_unfly]⟩
  | lost k g2 ht hn => subst ht; subst hn; exact .inr ⟨by rw [k]; decide, rfl, fun _ => false, by rw [no2]; rfl, by rw [none, seqs_unfly]⟩
  | expire k g1 g2 ht hn => subst ht; subst hn; exact .inr ⟨by rw [k]; decide, rfl, pX s.Limit s.Life x.N, rfl, rfl⟩
  | barred k g1 g2 ht hn => subst ht; subst hn; exact .inr ⟨by rw [k]; decide, rfl, fun _ => false, by rw [no2]; rfl, by rw [none]⟩

theorem once_loop (L : List Stp) (start : Int) (hs0 : 0 ≤ start ∧ start ≤ 4095) (hL : L.length ≤ 300) (hb : ∀ x ∈ L, x.Frame.Body.length ≤ 2400) : ∀ (l : List Stp) (i n : Nat) (s : Sender) (acc : Int) (op : List Int), L.drop i = l → l.length < n → Onc start i s acc op →
    hotspotlaw19_SenderOnce_L3 L start n (s, acc, op, (i : Int)) = some (Ex.go ()) := by
  intro l
  induction l with
  | nil =>
    intro i n s acc op h hn hA
    obtain ⟨n, rfl⟩ : ∃ m, n = m + 1 := ⟨n - 1, by simp at hn; omega⟩
    rw [hotspotlaw19_SenderOnce_L3, ge_dec (drop_n h)]; rfl
  | cons x l ih =>
    intro i n s acc op h hn hA
    obtain ⟨n, rfl⟩ : ∃ m, n = m + 1 := ⟨n - 1, by simp at hn; omega⟩
    obtain ⟨h1, h2, h3⟩ := drop_c h
    simp only [List.length_cons] at hn
    rw [hotspotlaw19_SenderOnce_L3, lt_dec h3]
    have hx : x.Frame.Body.length ≤ 2400 := hb x (List.mem_of_getElem? h1)
    have hlen := hA.len
    obtain ⟨⟨t, nx, e⟩, hr, hd⟩ := do_e (s := s) ⟨by omega, hA.body⟩ (by omega) x hx
    simp only [cond_true, idxN, h1, bindS]
    rw [show ({ s with Out := s.Out } : Sender) = s from rfl, hr, bindS]
    by_cases he : e = 0
    · subst he
      obtain ⟨hv, hd⟩ := hd rfl
      have HD : Did s x t nx := hd
      obtain ⟨f1, f2⟩ := HD.fit hA.body hx
      have hvn := HD.valid hv
      have hP := hv.P
      have hPn := hvn.P
      simp only [show ((0 : Int) != 0) = false from rfl, cond_false]
      have hnl : nx.Out.length ≤ 100000 := by omega
      have hstart : sender_Start nx = some (startOf nx) := by
        unfold sender_Start
        rw [check_e _ (by omega), bindS, if_pos hvn, show ((0 : Int) != 0) = false from rfl, cond_false, start_e]; rfl
      -- from what is open on
      have rest : ∀ (acc' : Int) (op' : List Int), op'.Nodup → (∀ v ∈ t.Numbers, v ∈ op') → t.Numbers.Nodup → op'.length ≤ 100000 → t.Numbers.length ≤ 100000 → op'.filter (fun y => !(t.Numbers.contains y)) = seqs nx.Out → (0 ≤ acc' ∧ acc' ≤ (i + 1 : Nat)) → nx.Next = (start + acc') % 4096 →
          (((hotspotlaw19_SenderOnce_L9 (t, nx, 0) big (op', 0)).bind fun o59 => o59.kE fun d58 =>
            ((bif ((((d58).length : Nat) : Int) != (nx.Out.length : Int)) then some true else ((sender_Check nx).bind fun x71 => some (x71 != 0))).bind fun x72 =>
            ((bif x72 then some true else ((sender_Start nx).bind fun x73 => ((window_Dist x73 nx.Next).bind fun x74 => some (decide (nx.Size < x74))))).bind fun x75 =>
            bif x75 then some (Ex.ret false) else ((hotspotlaw19_SenderOnce_L16 d58 (t, nx, 0) big 0).bind fun o77 => (o77.kE fun d76 => some (Ex.go (nx, acc', d58))))))).bind fun o48 =>
          (o48.kE fun d47 => hotspotlaw19_SenderOnce_L3 L start n ({ d47.1 with Out := (d47.1).Out }, d47.2.1, d47.2.2, IntKind.wrap .i64 ((i : Int) + 1)))) = some (Ex.go ()) := by
        intro acc' op' k1 k2 k3 k4 k5 k6 k7 k8
        have e9 := L9_e (t, nx, 0) k5 t.Numbers op' 0 big rfl (big_lt (by omega)) k1 k3 k2 k4
        simp only [Int.ofNat_zero, Int.natCast_zero] at e9
        rw [e9, bindS, Ex.kE_go', k6]
        have hv9 := hvn
        obtain ⟨_, _, _, _, _, _, _, _, a9, _⟩ := hv9
        rw [show ((((seqs nx.Out).length : Nat) : Int) != (nx.Out.length : Int)) = false by rw [seqs_len]; simp, cond_false, check_e _ (by omega), if_pos hvn, bindS, bindS, show ((0 : Int) != 0) = false from rfl, cond_false, hstart, bindS, dist_e, bindS, bindS, decide_eq_false (by omega : ¬ nx.Size < dist (startOf nx) nx.Next), cond_false]
        have e16 := L16_e (t, nx, 0) hnl hvn nx.Out 0 big rfl (big_lt (by omega))
        simp only [Int.ofNat_zero, Int.natCast_zero] at e16
        rw [e16, bindS, Ex.kE_go', bindS, Ex.kE_go', wrapN (by omega)]
        exact ih (i + 1) n nx acc' (seqs nx.Out) h2 (by omega) ⟨by omega, f2, hvn, rfl, k7, k8⟩
      rcases HD.nums hv with ⟨k, q1, q2, q3, q4⟩ | ⟨k, q1, p, q2, q3⟩
      · have e3 : (x.Kind == 3) = true := by simpa using k
        have hnx : nx.Out.length = s.Out.length + 1 := by
          have := congrArg List.length q3
          rw [seqs_len, List.length_append, seqs_len] at this; simpa using this
        rw [e3, cond_true, q1]
        rw [show ((([offF s x.Frame] : List Frame).length : Int) != 1) = false from rfl, cond_false, show idx [offF s x.Frame] 0 = some (offF s x.Frame) from rfl, bindS, add_e, bindS, bindS]
        have e4 : ((offF s x.Frame).Head.Seq != (start + acc) % 4096) = false := by
          have : (offF s x.Frame).Head.Seq = s.Next := rfl
          rw [this, hA.next]; simp
        rw [e4, cond_false, bindS]
        have hoplen : op.length ≤ i := by rw [hA.op, seqs_len]; exact hlen
        rw [chk_d (by omega), bindS, bindS, Ex.kE_go']
        have ha := hA.accb
        rw [wrapI (by omega) (by omega)]
        have hN : op ++ [(offF s x.Frame).Head.Seq] = seqs nx.Out := by rw [q3, hA.op]; rfl
        refine rest (acc + 1) (op ++ [(offF s x.Frame).Head.Seq]) ?_ ?_ ?_ ?_ ?_ ?_ ?_ ?_
        · rw [hN]; exact seqs_nodup hPn
        · rw [q2]; simp
        · rw [q2]; exact List.nodup_nil
        · simp; omega
        · rw [q2]; simp
        · rw [q2, hN]; exact List.filter_eq_self.2 fun _ _ => rfl
        · omega
        · rw [q4, hA.next]; omega
      · have e3 : (x.Kind == 3) = false := by simpa using k
        rw [e3, cond_false, bindS, Ex.kE_go']
        have ha := hA.accb
        have hfl := List.length_filter_le p s.Out
        refine rest acc op ?_ ?_ ?_ ?_ ?_ ?_ ?_ ?_
        · rw [hA.op]; exact seqs_nodup hP
        · rw [q2, hA.op]
          intro v hv'
          unfold seqs at hv' ⊢
          obtain ⟨y, hy, rfl⟩ := List.mem_map.1 hv'
          exact List.mem_map.2 ⟨y, (List.mem_filter.1 hy).1, rfl⟩
        · rw [q2]; exact seqs_nodup (hP.filter p)
        · rw [hA.op, seqs_len]; omega
        · rw [q2, seqs_len]; omega
        · rw [q2, hA.op, q3]; exact seqs_filter hP p
        · omega
        · rw [q1]; exact hA.next
    · have : (e != 0) = true := by simpa using he
      simp only [this, cond_true, bindS, Ex.kE_go']
      rw [wrapN (by omega)]
      have ha := hA.accb
      exact ih (i + 1) n s acc op h2 (by omega) ⟨by omega, hA.body, hA.valid, hA.op, by omega, hA.next⟩

theorem once_e (a b c d : Int) (L : List Stp) : hotspotlaw19_SenderOnce a b c d L = some true := by
  unfold hotspotlaw19_SenderOnce
  rw [alive_e, bindS, new_e, bindS]
  by_cases hv : Valid (newS a b c d)
  · simp only [if_pos hv]
    obtain ⟨g, hg, hb⟩ := great_e L
    rw [show ((0 : Int) != 0) = false from rfl, cond_false, hg, bindS, bindS]
    cases g
    · obtain ⟨h1, h2⟩ := hb rfl
      have hv4 := hv
      obtain ⟨_, _, _, a4, _⟩ := hv4
      have a4 : 0 ≤ b ∧ b ≤ 4095 := a4
      have := once_loop L b a4 h1 h2 L 0 big (newS a b c d) 0 [] rfl (big_lt (by omega)) ⟨Nat.zero_le _, by simp [newS, Sender.z], hv, rfl, by omega, by show b = _; omega⟩
      simp only [Int.ofNat_zero, Int.natCast_zero] at this
      rw [show (false || !true) = false from rfl, cond_false, this]; rfl
    · rfl
  · simp only [if_neg hv]; rfl
end Go.AX.Z.TS

/-! (TSX) -/

set_option linter.unusedVariables false
set_option linter.unusedSimpArgs false
namespace Go.AX.Z.TS
open Go.AX

/-! ## No frame is sent too often -/

theorem idxA_e {l : List Int} {i : Int} {v : Int} (h0 : 0 ≤ i) (h1 : i < 4096) (h : l[i.toNat]? = some v) : idxA 4096 l i = some v := by
  unfold idxA
  rw [decide_eq_true h0, decide_eq_true h1]; exact h

def sn (x : Unacked) : Nat := x.Frame.Head.Seq.toNat

theorem L10_e (X : Tld × Sender × Int) (lim k : Int) (hk : lim ≤ 16) (hF : X.1.Frames.length ≤ 100000) : ∀ (l : List Unacked) (c i n : Nat) (sent flies : List Int), X.1.Frames.drop i = (pickR lim k c l).2 → l.length < n → (∀ x ∈ l, Good lim x) → (l.map sn).Nodup →
    sent.length = 4096 → flies.length = 4096 → (∀ x ∈ l, sent[sn x]? = some x.Tries) → (∀ x ∈ l, x.Flying = false → ∀ v, flies[sn x]? = some v → v ≤ 0) →
    ∃ sent' flies', hotspotlaw19_SenderTries_L10 X lim n (sent, flies, (i : Int)) = some (Ex.go (sent', flies')) ∧ sent'.length = 4096 ∧ flies'.length = 4096 ∧ (∀ y ∈ (pickR lim k c l).1, sent'[sn y]? = some y.Tries) ∧
      (∀ m, m ∉ l.map sn → sent'[m]? = sent[m]?) ∧ (∀ m v, flies'[m]? = some v → 0 < v → flies[m]? = some v ∨ ∃ y ∈ (pickR lim k c l).1, sn y = m ∧ y.Flying = true) := by
  intro l
  induction l with
  | nil =>
    intro c i n sent flies h hn hg hd h1 h2 h3 h4
    obtain ⟨n, rfl⟩ : ∃ m, n = m + 1 := ⟨n - 1, by simp at hn; omega⟩
    refine ⟨sent, flies, ?_, h1, h2, by simp [pickR], fun _ _ => rfl, fun m v hv _ => .inl hv⟩
    rw [hotspotlaw19_SenderTries_L10, ge_dec (drop_n h)]; rfl
  | cons x l ih =>
    intro c i n sent flies h hn hg hd h1 h2 h3 h4
    obtain ⟨n, rfl⟩ : ∃ m, n = m + 1 := ⟨n - 1, by simp at hn; omega⟩
    simp only [List.length_cons] at hn
    rw [List.map_cons] at hd
    obtain ⟨d1, d2⟩ := List.nodup_cons.1 hd
    have hgx := hg x (by simp)
    have hgl : ∀ y ∈ l, Good lim y := fun y hy => hg y (by simp [hy])
    unfold pickR at h ⊢
    by_cases hc : (c : Int) = k
    · rw [if_pos hc] at h ⊢
      refine ⟨sent, flies, ?_, h1, h2, h3, fun _ _ => rfl, fun m v hv _ => .inl hv⟩
      rw [hotspotlaw19_SenderTries_L10, ge_dec (drop_n h)]; rfl
    · rw [if_neg hc] at h ⊢
      by_cases hx : (x.Flying || (x.Tries == lim)) = true
      · rw [if_pos hx] at h ⊢
        obtain ⟨s', f', e, q1, q2, q3, q4, q5⟩ := ih c i (n + 1) sent flies h (by omega) hgl d2 h1 h2 (fun y hy => h3 y (by simp [hy])) (fun y hy => h4 y (by simp [hy]))
        refine ⟨s', f', e, q1, q2, fun y hy => ?_, fun m hm => ?_, fun m v hv hp => ?_⟩
        · rcases List.mem_cons.1 hy with rfl | hy
          · rw [q4 _ d1]; exact h3 _ (by simp)
          · exact q3 y hy
        · exact q4 m fun hq => hm (by rw [List.map_cons]; exact List.mem_cons_of_mem _ hq)
        · rcases q5 m v hv hp with q | ⟨y, hy, q⟩
          · exact .inl q
          · exact .inr ⟨y, List.mem_cons_of_mem _ hy, q⟩
      · rw [if_neg hx] at h ⊢
        have hfl : x.Flying = false := by
          cases hf : x.Flying
          · rfl
          · rw [hf] at hx; exact absurd rfl hx
        have htl : x.Tries ≠ lim := by
          intro q; apply hx; simp [q]
        obtain ⟨e1, e2, e3⟩ := drop_c h
        obtain ⟨a, b, _, _, g5, g6, _⟩ := hgx
        have hs : sent[x.Frame.Head.Seq.toNat]? = some x.Tries := h3 x (by simp)
        have hsl : x.Frame.Head.Seq.toNat < flies.length := by omega
        have hf : flies[x.Frame.Head.Seq.toNat]? = some flies[x.Frame.Head.Seq.toNat] := by simp [hsl]
        have hf0 := h4 x (by simp) hfl _ hf
        have hlt : x.Frame.Head.Seq < 4096 := by omega
        have hne : ∀ y ∈ l, sn x ≠ sn y := by
          intro y hy q
          apply d1
          rw [q]
          exact List.mem_map.2 ⟨y, hy, rfl⟩
        obtain ⟨s', f', e, q1, q2, q3, q4, q5⟩ := ih (c + 1) (i + 1) n (sent.set (sn x) (IntKind.wrap .i64 (x.Tries + 1))) (flies.set (sn x) (IntKind.wrap .i64 (flies[x.Frame.Head.Seq.toNat] + 1))) e2 (by omega) hgl d2 (by simpa using h1) (by simpa using h2)
          (fun y hy => by rw [List.getElem?_set_ne (hne y hy)]; exact h3 y (by simp [hy])) (fun y hy => by rw [List.getElem?_set_ne (hne y hy)]; exact h4 y (by simp [hy]))
        refine ⟨s', f', ?_, q1, q2, fun y hy => ?_, fun m hm => ?_, fun m v hv hp => ?_⟩
        · rw [hotspotlaw19_SenderTries_L10, lt_dec e3]
          simp only [cond_true, idxN, e1, bindS]
          rw [decide_eq_false (by omega : ¬ x.Frame.Head.Seq < 0), decide_eq_false (by omega : ¬ 4095 < x.Frame.Head.Seq), Bool.or_false, cond_false, idxA_e a hlt hs, bindS, bindS]
          rw [show (!(decide (0 < x.Tries) == decide (0 < x.Tries))) = false by simp, cond_false, idxA_e a hlt hf, bindS, bindS, decide_eq_false (by omega : ¬ 0 < flies[x.Frame.Head.Seq.toNat]), cond_false, bindS, bindS]
          rw [wrapI (i := x.Tries + 1) (by omega) (by omega), decide_eq_false (by omega : ¬ lim < x.Tries + 1), cond_false, wrapN (by omega)]
          rw [wrapI (i := x.Tries + 1) (by omega) (by omega)] at e
          exact e
        · rcases List.mem_cons.1 hy with rfl | hy
          · show s'[sn x]? = some (IntKind.wrap .i64 (x.Tries + 1))
            have hx4 : x.Frame.Head.Seq.toNat < sent.length := by omega
            rw [q4 _ d1]
            show (sent.set x.Frame.Head.Seq.toNat _)[x.Frame.Head.Seq.toNat]? = _
            simp [hx4]
          · exact q3 y hy
        · rw [List.map_cons] at hm
          have m1 : m ≠ sn x := fun q => hm (by rw [q]; simp)
          rw [q4 m fun q => hm (List.mem_cons_of_mem _ q), List.getElem?_set_ne (Ne.symm m1)]
        · rcases q5 m v hv hp with q | ⟨y, hy, q⟩
          · by_cases hm : sn x = m
            · exact .inr ⟨_, List.mem_cons_self .., hm, rfl⟩
            · rw [List.getElem?_set_ne hm] at q; exact .inl q
          · exact .inr ⟨y, List.mem_cons_of_mem _ hy, q⟩

structure Tri (lim : Int) (i : Nat) (s : Sender) (sent flies : List Int) : Prop where
  len : s.Out.length ≤ i
  body : ∀ y ∈ s.Out, y.Frame.Body.length ≤ 2400
  valid : Valid s
  limit : s.Limit = lim
  sl : sent.length = 4096
  fl : flies.length = 4096
  sent : ∀ x ∈ s.Out, sent[sn x]? = some x.Tries
  flies : ∀ m v, flies[m]? = some v → 0 < v → ∃ x ∈ s.Out, sn x = m ∧ x.Flying = true

theorem sn_nodup {st dd lim : Int} {l : List Unacked} (h : OkP st dd lim l) : (l.map sn).Nodup := by
  refine List.pairwise_map.2 (List.Pairwise.imp_of_mem ?_ h.pw)
  intro x y hx hy hxy hq
  have a := h.good x hx
  have b := h.good y hy
  have : x.Frame.Head.Seq = y.Frame.Head.Seq := by
    have a1 := a.1; have b1 := b.1
    unfold sn at hq; omega
  have := hxy.1
  unfold dq at this
  simp_all

theorem nodup_inj {l : List Unacked} (h : (l.map sn).Nodup) {x y : Unacked} (hx : x ∈ l) (hy : y ∈ l) (he : sn x = sn y) : x = y := by
  induction l with
  | nil => cases hx
  | cons z l ih =>
    rw [List.map_cons] at h
    obtain ⟨h1, h2⟩ := List.nodup_cons.1 h
    rcases List.mem_cons.1 hx with e1 | k1 <;> rcases List.mem_cons.1 hy with e2 | k2
    · rw [e1, e2]
    · exact absurd (List.mem_map.2 ⟨y, k2, by rw [← he, e1]⟩) h1
    · exact absurd (List.mem_map.2 ⟨x, k1, by rw [he, e2]⟩) h1
    · exact ih h2 k1 k2

theorem zget {m : Nat} {v : Int} (h : (zarr 4096 (0 : Int))[m]? = some v) : v = 0 := by
  rw [zarr_eq] at h
  rw [List.getElem?_replicate] at h
  split at h
  · cases h; rfl
  · cases h

theorem Did.limit {s : Sender} {x : Stp} {t : Tld} {n : Sender} (h : Did s x t n) : n.Limit = s.Limit := by
  cases h with
  | ans k g1 g2 g3 ht hn => subst hn; unfold ansS; split <;> rfl
  | _ => subst_vars; rfl

theorem tries_step {lim : Int} {i : Nat} {s : Sender} {sent flies : List Int} (hA : Tri lim i s sent flies) (hi : i ≤ 1000) {x : Stp} {t : Tld} {nx : Sender} (hd : Did s x t nx) (hb : x.Frame.Body.length ≤ 2400) :
    ∃ s' f', Tri lim (i + 1) nx s' f' ∧
    ((bif (x.Kind == 3) then
              ((
                bif ((t.Frames.length : Int) != 1) then
                  some true
                else
                  ((idx t.Frames 0).bind fun x97 =>
                  some (decide (x97.Head.Seq < 0)))).bind fun x98 =>
              ((
                bif x98 then
                  some true
                else
                  ((idx t.Frames 0).bind fun x99 =>
                  some (decide (4095 < x99.Head.Seq)))).bind fun x100 =>
              bif x100 then
                some (Ex.ret false)
              else
                ((idx t.Frames 0).bind fun x101 =>
                ((idxA 4096 sent x101.Head.Seq).bind fun x102 =>
                some (Ex.go ((sent.set ((x101.Head.Seq).toNat) 0), flies))))))
            else
              ((
                bif (x.Kind == 5) then
                  some (x.Kind == 5)
                else
                  bif (x.Kind == 6) then
                    some (x.Kind == 6)
                  else
                    some (x.Kind == 2)).bind fun d103 =>
              bif d103 then
                ((chk (decide (flies.length = 4096))).bind fun x104 =>
                some (Ex.go (sent, (zarr 4096 0))))
              else
                bif (x.Kind == 4) then
                  ((
                    hotspotlaw19_SenderTries_L10 (t, nx, 0) lim big (sent, flies, 0)).bind fun o106 =>
                  (o106.kE fun d105 =>
                  some (Ex.go (d105.1, d105.2))))
                else
                  some (Ex.go (sent, flies)))) : Option (Ex Bool (List Int × List Int))) = some (Ex.go (s', f')) := by
  have hP := hA.valid.P
  have hvn := hd.valid hA.valid
  have hPn := hvn.P
  obtain ⟨f1, f2⟩ := hd.fit hA.body hb
  have hlim : nx.Limit = lim := by rw [hd.limit]; exact hA.limit
  have hlen := hA.len
  have mk : ∀ s' f', s'.length = 4096 → f'.length = 4096 → (∀ x ∈ nx.Out, s'[sn x]? = some x.Tries) → (∀ m v, f'[m]? = some v → 0 < v → ∃ x ∈ nx.Out, sn x = m ∧ x.Flying = true) → Tri lim (i + 1) nx s' f' :=
    fun s' f' a b c d => ⟨by omega, f2, hvn, hlim, a, b, c, d⟩
  have zero : ∀ m v, (zarr 4096 (0 : Int))[m]? = some v → 0 < v → ∃ x ∈ nx.Out, sn x = m ∧ x.Flying = true := fun m v h hp => by have := zget h; omega
  cases hd with
  | ask k g1 g2 ht hn =>
    subst ht; subst hn
    refine ⟨sent, flies, mk _ _ hA.sl hA.fl hA.sent hA.flies, ?_⟩
    simp only [k, Int.reduceBEq, cond_false, bindS]
  | ans k g1 g2 g3 ht hn =>
    subst ht; subst hn
    have e : (ansS s x.A).Out = s.Out := by unfold ansS; split <;> rfl
    refine ⟨sent, flies, mk _ _ hA.sl hA.fl (by rw [e]; exact hA.sent) (by rw [e]; exact hA.flies), ?_⟩
    simp only [k, Int.reduceBEq, cond_false, bindS]
  | close k ht hn =>
    subst ht; subst hn
    refine ⟨sent, zarr 4096 0, mk _ _ hA.sl (zarr_len _ _) (fun x hx => by cases hx) zero, ?_⟩
    simp only [k, Int.reduceBEq, cond_false, bindS, cond_true]
    rw [chk_d hA.fl]; rfl
  | offer k g1 g2 g3 g4 ht hn =>
    subst ht; subst hn
    have hq : (offF s x.Frame).Head.Seq = s.Next := rfl
    have a4 : 0 ≤ s.Next ∧ s.Next ≤ 4095 := by obtain ⟨_, _, _, a4, _⟩ := hA.valid; exact a4
    have hsl : s.Next.toNat < sent.length := by have := hA.sl; omega
    have hnd := sn_nodup hPn
    refine ⟨sent.set s.Next.toNat 0, flies, mk _ _ (by simpa using hA.sl) hA.fl ?_ ?_, ?_⟩
    · intro y hy
      rcases List.mem_append.1 hy with hy | hy
      · have hne : s.Next.toNat ≠ sn y := by
          intro q
          have m1 : y ∈ (offS s x.Frame x.N).Out := List.mem_append_left _ hy
          have m2 : ({ Unacked.z with At := x.N, Frame := offF s x.Frame } : Unacked) ∈ (offS s x.Frame x.N).Out := List.mem_append_right _ (by simp)
          have := nodup_inj hnd m1 m2 (by rw [← q]; rfl)
          have hd1 := hP.dd y hy
          rw [this] at hd1
          unfold dq at hd1
          rw [show ({ Unacked.z with At := x.N, Frame := offF s x.Frame } : Unacked).Frame.Head.Seq = s.Next from rfl] at hd1
          omega
        rw [List.getElem?_set_ne hne]; exact hA.sent y hy
      · simp at hy; subst hy
        show (sent.set s.Next.toNat 0)[s.Next.toNat]? = some 0
        simp [hsl]
    · intro m v h hp
      obtain ⟨y, hy, q⟩ := hA.flies m v h hp
      exact ⟨y, List.mem_append_left _ hy, q⟩
    · have hg : sent[s.Next.toNat]? = some sent[s.Next.toNat] := by simp [hsl]
      rw [show (x.Kind == 3) = true by rw [k]; rfl, cond_true]
      rw [show ((([offF s x.Frame] : List Frame).length : Int) != 1) = false from rfl, cond_false, show idx [offF s x.Frame] 0 = some (offF s x.Frame) from rfl, bindS, bindS, hq, decide_eq_false (by omega : ¬ s.Next < 0), cond_false, bindS, bindS, hq, decide_eq_false (by omega : ¬ 4095 < s.Next), cond_false, bindS, hq, idxA_e a4.1 (by omega) hg, bindS]
  | pick k g1 g2 ht hn =>
    subst ht; subst hn
    have hfr : (pickR s.Limit x.N 0 s.Out).2.length ≤ 100000 := by
      have : ∀ (c : Nat) (l : List Unacked), (pickR s.Limit x.N c l).2.length ≤ l.length := by
        intro c l
        induction l generalizing c with
        | nil => simp [pickR]
        | cons z l ih =>
          unfold pickR
          split
          · simp
          · split
            · have := ih c; simp only [List.length_cons]; omega
            · have := ih (c + 1); simp only [List.length_cons]; omega
      have := this 0 s.Out; omega
    have hl16 : s.Limit ≤ 16 := by obtain ⟨_, _, _, _, a5, _⟩ := hA.valid; exact a5.2
    have e := L10_e ({ Hotspotref19_Told.z with Frames := (pickR s.Limit x.N 0 s.Out).2 }, { s with Out := (pickR s.Limit x.N 0 s.Out).1 }, 0) s.Limit x.N hl16 hfr s.Out 0 0 big sent flies rfl (big_lt (by omega)) hP.good (sn_nodup hP) hA.sl hA.fl hA.sent (fun y hy hf v hv => by
      apply Int.not_lt.1
      intro hp
      obtain ⟨z, hz, q1, q2⟩ := hA.flies _ _ hv hp
      have := nodup_inj (sn_nodup hP) hz hy q1
      rw [this, hf] at q2; cases q2)
    obtain ⟨s', f', e, q1, q2, q3, q4, q5⟩ := e
    refine ⟨s', f', mk _ _ q1 q2 q3 (fun m v h hp => ?_), ?_⟩
    · rcases q5 m v h hp with q | ⟨y, hy, q⟩
      · obtain ⟨z, hz, r1, r2⟩ := hA.flies m v q hp
        -- a frame that flies is left as it is
        have keep : ∀ (c : Nat) (l : List Unacked), z ∈ l → z ∈ (pickR s.Limit x.N c l).1 := by
          intro c l
          induction l generalizing c with
          | nil => intro h; cases h
          | cons w l ih =>
            intro h
            unfold pickR
            split
            · exact h
            · split
              · rcases List.mem_cons.1 h with rfl | h
                · simp
                · exact List.mem_cons_of_mem _ (ih c h)
              · rename_i hw
                rcases List.mem_cons.1 h with rfl | h
                · exact absurd (by simp [r2]) hw
                · exact List.mem_cons_of_mem _ (ih (c + 1) h)
        exact ⟨z, keep 0 s.Out hz, r1, r2⟩
      · exact ⟨y, hy, q⟩
    · simp only [Int.natCast_zero] at e
      rw [← hA.limit]
      simp only [k, Int.reduceBEq, cond_false, bindS, cond_true]
      rw [e]; rfl
  | ack k g1 g2 ht hn =>
    subst ht; subst hn
    refine ⟨sent, zarr 4096 0, mk _ _ hA.sl (zarr_len _ _) (fun y hy => ?_) zero, ?_⟩
    · obtain ⟨z, hz, rfl⟩ := List.mem_map.1 hy
      exact hA.sent z (List.mem_filter.1 hz).1
    · simp only [k, Int.reduceBEq, cond_false, bindS, cond_true]
      rw [chk_d hA.fl]; rfl
  | lost k g2 ht hn =>
    subst ht; subst hn
    refine ⟨sent, zarr 4096 0, mk _ _ hA.sl (zarr_len _ _) (fun y hy => ?_) zero, ?_⟩
    · obtain ⟨z, hz, rfl⟩ := List.mem_map.1 hy
      exact hA.sent z hz
    · simp only [k, Int.reduceBEq, cond_false, bindS, cond_true]
      rw [chk_d hA.fl]; rfl
  | expire k g1 g2 ht hn =>
    subst ht; subst hn
    refine ⟨sent, flies, mk _ _ hA.sl hA.fl (fun y hy => hA.sent y (List.mem_filter.1 hy).1) (fun m v h hp => ?_), ?_⟩
    · obtain ⟨z, hz, r1, r2⟩ := hA.flies m v h hp
      exact ⟨z, List.mem_filter.2 ⟨hz, by unfold pX; rw [r2]; rfl⟩, r1, r2⟩
    · simp only [k, Int.reduceBEq, cond_false, bindS]
  | barred k g1 g2 ht hn =>
    subst ht; subst hn
    refine ⟨sent, flies, mk _ _ hA.sl hA.fl hA.sent hA.flies, ?_⟩
    simp only [k, Int.reduceBEq, cond_false, bindS]

theorem tries_loop (L : List Stp) (lim : Int) (hL : L.length ≤ 300) (hb : ∀ x ∈ L, x.Frame.Body.length ≤ 2400) : ∀ (l : List Stp) (i n : Nat) (s : Sender) (sent flies : List Int), L.drop i = l → l.length < n → Tri lim i s sent flies →
    hotspotlaw19_SenderTries_L3 L lim n (s, sent, flies, (i : Int)) = some (Ex.go ()) := by
  intro l
  induction l with
  | nil =>
    intro i n s sent flies h hn hA
    obtain ⟨n, rfl⟩ : ∃ m, n = m + 1 := ⟨n - 1, by simp at hn; omega⟩
    rw [hotspotlaw19_SenderTries_L3, ge_dec (drop_n h)]; rfl
  | cons x l ih =>
    intro i n s sent flies h hn hA
    obtain ⟨n, rfl⟩ : ∃ m, n = m + 1 := ⟨n - 1, by simp at hn; omega⟩
    obtain ⟨h1, h2, h3⟩ := drop_c h
    simp only [List.length_cons] at hn
    rw [hotspotlaw19_SenderTries_L3, lt_dec h3]
    have hx : x.Frame.Body.length ≤ 2400 := hb x (List.mem_of_getElem? h1)
    have hlen := hA.len
    obtain ⟨⟨t, nx, e⟩, hr, hd⟩ := do_e (s := s) ⟨by omega, hA.body⟩ (by omega) x hx
    simp only [cond_true, idxN, h1, bindS]
    rw [show ({ s with Out := s.Out } : Sender) = s from rfl, hr, bindS]
    by_cases he : e = 0
    · subst he
      obtain ⟨hv, hd⟩ := hd rfl
      obtain ⟨s', f', hT, hE⟩ := tries_step hA (by omega) (show Did s x t nx from hd) hx
      simp only [show ((0 : Int) != 0) = false from rfl, cond_false]
      rw [hE, bindS, Ex.kE_go', bindS, Ex.kE_go', wrapN (by omega)]
      exact ih (i + 1) n nx s' f' h2 (by omega) hT
    · have : (e != 0) = true := by simpa using he
      simp only [this, cond_true, bindS, Ex.kE_go']
      rw [wrapN (by omega)]
      exact ih (i + 1) n s sent flies h2 (by omega) ⟨by omega, hA.body, hA.valid, hA.limit, hA.sl, hA.fl, hA.sent, hA.flies⟩

theorem tries_e (a b c d : Int) (L : List Stp) : hotspotlaw19_SenderTries a b c d L = some true := by
  unfold hotspotlaw19_SenderTries
  rw [alive_e, bindS, new_e, bindS]
  by_cases hv : Valid (newS a b c d)
  · simp only [if_pos hv]
    obtain ⟨g, hg, hb⟩ := great_e L
    rw [show ((0 : Int) != 0) = false from rfl, cond_false, hg, bindS, bindS]
    cases g
    · obtain ⟨h1, h2⟩ := hb rfl
      have := tries_loop L c h1 h2 L 0 big (newS a b c d) (zarr 4096 0) (zarr 4096 0) rfl (big_lt (by omega)) ⟨Nat.zero_le _, by simp [newS, Sender.z], hv, rfl, zarr_len _ _, zarr_len _ _, by simp [newS, Sender.z], fun m v h hp => by have := zget h; omega⟩
      simp only [Int.natCast_zero] at this
      rw [show (false || !true) = false from rfl, cond_false, this]; rfl
    · rfl
  · simp only [if_neg hv]; rfl
end Go.AX.Z.TS

/-! (TSY) -/

set_option linter.unusedVariables false
namespace Go.AX.Z.TS
open Go.AX Go.Proofs

/-! ## Arguments, read -/

theorem ud3 : K.P.underlying 3 = some (.int .i64) := by kernel_rfl

theorem ud5 : K.P.underlying 5 = some (.int .u8) := by kernel_rfl

theorem ud4 : K.P.underlying 4 = some (.bool) := by kernel_rfl

def W_Addr (B : Nat) (x : Addr) : Prop := ((Lit.int .u8 x.a0).wf = true) ∧ ((Lit.int .u8 x.a1).wf = true) ∧ ((Lit.int .u8 x.a2).wf = true) ∧ ((Lit.int .u8 x.a3).wf = true) ∧ ((Lit.int .u8 x.a4).wf = true) ∧ ((Lit.int .u8 x.a5).wf = true)

theorem ud27 : K.P.underlying 27 = some (.array 6 5) := by kernel_rfl

theorem rd27 {B n : Nat} {l : List AV} (h : Ty K.P B n 27 l) : ∃ x : Addr, l = e_Addr x ∧ W_Addr B x := by
  obtain ⟨m, ls, rfl, h1, h2⟩ := ty_array ud27 h
  obtain ⟨vs, h3, h4, h5⟩ := ty_ints ud5 ls h2
  match vs, (h4.trans h1 : vs.length = 6) with
  | [a0, a1, a2, a3, a4, a5], _ => exact ⟨⟨a0, a1, a2, a3, a4, a5⟩, h3, h5 _ (by simp), h5 _ (by simp), h5 _ (by simp), h5 _ (by simp), h5 _ (by simp), h5 _ (by simp)⟩

def W_Header (B : Nat) (x : Header) : Prop := ((Lit.int .u8 x.Kind).wf = true) ∧ ((Lit.int .u8 x.Sub).wf = true) ∧ ((Lit.int .i64 x.Duration).wf = true) ∧ (W_Addr B x.A1) ∧ (W_Addr B x.A2) ∧ (W_Addr B x.A3) ∧ (W_Addr B x.A4) ∧ ((Lit.int .i64 x.Seq).wf = true) ∧ ((Lit.int .i64 x.Frag).wf = true) ∧ ((Lit.int .i64 x.Tid).wf = true) ∧ ((Lit.int .u8 x.Ack).wf = true)

theorem rd29 {B n : Nat} {l : List AV} (h : Ty K.P B n 29 l) : ∃ x : Header, l = e_Header x ∧ W_Header B x := by
  obtain ⟨m, h⟩ := ty_struct Try.underlying29 h
  have h' : TyAll (Ty K.P B m) [5, 5, 4, 4, 4, 4, 4, 4, 4, 3, 27, 27, 27, 27, 3, 3, 3, 5, 4, 4] l := h
  obtain ⟨_, _, rfl, h0, _, _, rfl, h1, _, _, rfl, h2, _, _, rfl, h3, _, _, rfl, h4, _, _, rfl, h5, _, _, rfl, h6, _, _, rfl, h7, _, _, rfl, h8, _, _, rfl, h9, _, _, rfl, h10, _, _, rfl, h11, _, _, rfl, h12, _, _, rfl, h13, _, _, rfl, h14, _, _, rfl, h15, _, _, rfl, h16, _, _, rfl, h17, _, _, rfl, h18, _, _, rfl, h19, rfl⟩ := h'
  obtain ⟨v0, rfl, w0⟩ := ty_int ud5 h0
  obtain ⟨v1, rfl, w1⟩ := ty_int ud5 h1
  obtain ⟨v2, rfl⟩ := ty_bool ud4 h2
  obtain ⟨v3, rfl⟩ := ty_bool ud4 h3
  obtain ⟨v4, rfl⟩ := ty_bool ud4 h4
  obtain ⟨v5, rfl⟩ := ty_bool ud4 h5
  obtain ⟨v6, rfl⟩ := ty_bool ud4 h6
  obtain ⟨v7, rfl⟩ := ty_bool ud4 h7
  obtain ⟨v8, rfl⟩ := ty_bool ud4 h8
  obtain ⟨v9, rfl, w9⟩ := ty_int ud3 h9
  obtain ⟨v10, rfl, w10⟩ := rd27 h10
  obtain ⟨v11, rfl, w11⟩ := rd27 h11
  obtain ⟨v12, rfl, w12⟩ := rd27 h12
  obtain ⟨v13, rfl, w13⟩ := rd27 h13
  obtain ⟨v14, rfl, w14⟩ := ty_int ud3 h14
  obtain ⟨v15, rfl, w15⟩ := ty_int ud3 h15
  obtain ⟨v16, rfl, w16⟩ := ty_int ud3 h16
  obtain ⟨v17, rfl, w17⟩ := ty_int ud5 h17
  obtain ⟨v18, rfl⟩ := ty_bool ud4 h18
  obtain ⟨v19, rfl⟩ := ty_bool ud4 h19
  exact ⟨⟨v0, v1, v2, v3, v4, v5, v6, v7, v8, v9, v10, v11, v12, v13, v14, v15, v16, v17, v18, v19⟩, rfl, ⟨w0, w1, w9, w10, w11, w12, w13, w14, w15, w16, w17⟩⟩

theorem ud30 : K.P.underlying 30 = some (.slice 5) := by kernel_rfl

theorem rs30 {B n : Nat} {x : AV} (h : Ty K.P B n 30 [x]) : ∃ l : (List Int), x = S_vu l ∧ l.length ≤ B ∧ ∀ z ∈ l, (Lit.int .u8 z).wf = true := by
  obtain ⟨vs, rfl, h1, h2⟩ := ty_slice_ints ud30 ud5 h
  exact ⟨vs, rfl, h1, h2⟩

def W_Frame (B : Nat) (x : Frame) : Prop := (W_Header B x.Head) ∧ (x.Body.length ≤ B ∧ ∀ z ∈ x.Body, (Lit.int .u8 z).wf = true)

theorem rd32 {B n : Nat} {l : List AV} (h : Ty K.P B n 32 l) : ∃ x : Frame, l = E_Frame x ∧ W_Frame B x := by
  obtain ⟨m, h⟩ := ty_struct Try.underlying32 h
  have h' : TyAll (Ty K.P B m) [29, 30] l := h
  obtain ⟨_, _, rfl, h0, _, _, rfl, h1, rfl⟩ := h'
  obtain ⟨v0, rfl, w0⟩ := rd29 h0
  obtain ⟨s1, rfl⟩ : ∃ x, _ = [x] := ty_single h1 (by rw [ud30]; intro _ hh; cases hh) (by rw [ud30]; intro _ _ hh; cases hh)
  obtain ⟨v1, rfl, w1⟩ := rs30 h1
  exact ⟨⟨v0, v1⟩, rfl, ⟨w0, w1⟩⟩

theorem ud51 : K.P.underlying 51 = some (.int .u64) := by kernel_rfl

def W_Window (B : Nat) (x : Window) : Prop := ((Lit.int .i64 x.Start).wf = true) ∧ ((Lit.int .u64 x.Bits).wf = true)

theorem rd53 {B n : Nat} {l : List AV} (h : Ty K.P B n 53 l) : ∃ x : Window, l = e_Window x ∧ W_Window B x := by
  obtain ⟨m, h⟩ := ty_struct Try.underlying53 h
  have h' : TyAll (Ty K.P B m) [3, 51] l := h
  obtain ⟨_, _, rfl, h0, _, _, rfl, h1, rfl⟩ := h'
  obtain ⟨v0, rfl, w0⟩ := ty_int ud3 h0
  obtain ⟨v1, rfl, w1⟩ := ty_int ud51 h1
  exact ⟨⟨v0, v1⟩, rfl, ⟨w0, w1⟩⟩

def W_BlockAnswer (B : Nat) (x : BlockAnswer) : Prop := ((Lit.int .i64 x.Token).wf = true) ∧ ((Lit.int .i64 x.Tid).wf = true) ∧ ((Lit.int .i64 x.Status).wf = true) ∧ ((Lit.int .i64 x.Size).wf = true)

theorem rd73 {B n : Nat} {l : List AV} (h : Ty K.P B n 73 l) : ∃ x : BlockAnswer, l = e_BlockAnswer x ∧ W_BlockAnswer B x := by
  obtain ⟨m, h⟩ := ty_struct Try.underlying73 h
  have h' : TyAll (Ty K.P B m) [3, 3, 3, 3] l := h
  obtain ⟨_, _, rfl, h0, _, _, rfl, h1, _, _, rfl, h2, _, _, rfl, h3, rfl⟩ := h'
  obtain ⟨v0, rfl, w0⟩ := ty_int ud3 h0
  obtain ⟨v1, rfl, w1⟩ := ty_int ud3 h1
  obtain ⟨v2, rfl, w2⟩ := ty_int ud3 h2
  obtain ⟨v3, rfl, w3⟩ := ty_int ud3 h3
  exact ⟨⟨v0, v1, v2, v3⟩, rfl, ⟨w0, w1, w2, w3⟩⟩

def W_Hotspotref19_Step (B : Nat) (x : Hotspotref19_Step) : Prop := ((Lit.int .i64 x.Kind).wf = true) ∧ ((Lit.int .i64 x.N).wf = true) ∧ (W_Frame B x.Frame) ∧ (W_Window B x.W) ∧ (W_BlockAnswer B x.A)

theorem rd75 {B n : Nat} {l : List AV} (h : Ty K.P B n 75 l) : ∃ x : Hotspotref19_Step, l = E_Hotspotref19_Step x ∧ W_Hotspotref19_Step B x := by
  obtain ⟨m, h⟩ := ty_struct Try.underlying75 h
  have h' : TyAll (Ty K.P B m) [3, 3, 32, 53, 73] l := h
  obtain ⟨_, _, rfl, h0, _, _, rfl, h1, _, _, rfl, h2, _, _, rfl, h3, _, _, rfl, h4, rfl⟩ := h'
  obtain ⟨v0, rfl, w0⟩ := ty_int ud3 h0
  obtain ⟨v1, rfl, w1⟩ := ty_int ud3 h1
  obtain ⟨v2, rfl, w2⟩ := rd32 h2
  obtain ⟨v3, rfl, w3⟩ := rd53 h3
  obtain ⟨v4, rfl, w4⟩ := rd73 h4
  exact ⟨⟨v0, v1, v2, v3, v4⟩, rfl, ⟨w0, w1, w2, w3, w4⟩⟩

theorem ud63 : K.P.underlying 63 = some (.slice 75) := by kernel_rfl

theorem rs63 {B n : Nat} {x : AV} (h : Ty K.P B n 63 [x]) : ∃ l : (List Hotspotref19_Step), x = S_Hotspotref19_Step l ∧ l.length ≤ B ∧ ∀ z ∈ l, W_Hotspotref19_Step B z := by
  obtain ⟨l, rfl, h1, h2⟩ := ty_slice_rows (W_Hotspotref19_Step B) ud63 (fun _ _ h => rd75 h) h
  exact ⟨l, rfl, h1, h2⟩

end Go.AX.Z.TS

/-! (TSU) -/

/- How bulks bound what a reading holds. -/
namespace Go.Proofs.Ytjijidmbpfjioaa.bulks
open Go.AX

theorem one_le {H : Type} (d : DataW H) : 1 ≤ Rows.uptoBulk d := by
  cases d with
  | lit l => cases l <;> simp [Rows.uptoBulk]
  | nil => simp [Rows.uptoBulk]
  | ptr d => simp [Rows.uptoBulk]
  | slice elems spare => simp [Rows.uptoBulk]
  | agg parts => simp [Rows.uptoBulk]
  | iface t d => simp [Rows.uptoBulk]
  | map entries => simp [Rows.uptoBulk]
  | held h => simp [Rows.uptoBulk]

theorem part_le {H : Type} {d : DataW H} {l : List (DataW H)} (h : d ∈ l) : Rows.uptoBulk d ≤ Rows.uptoBulkAll l := by
  induction l with
  | nil => cases h
  | cons x r ih =>
    simp only [Rows.uptoBulkAll]
    cases List.mem_cons.1 h with
    | inl e => subst e; omega
    | inr e => have := ih e; omega

theorem length_le {H : Type} (l : List (DataW H)) : l.length ≤ Rows.uptoBulkAll l := by
  induction l with
  | nil => simp [Rows.uptoBulkAll]
  | cons x r ih => have := one_le x; simp only [Rows.uptoBulkAll, List.length_cons]; omega

theorem bulk {H : Type} : Bulk (H := H) Rows.uptoBulk where
  ptr d := by simp [Rows.uptoBulk]
  elems es sp d h := by have := part_le h; simp only [Rows.uptoBulk]; omega
  len es sp := by have := length_le es; simp only [Rows.uptoBulk]; omega
  agg ds d h := by have := part_le h; simp only [Rows.uptoBulk]; omega
  str bs := by simp [Rows.uptoBulk]

theorem bound {H : Type} {l : List (DataW H)} (hk : Rows.uptoSmall H l = true) : Rows.uptoBulkAll l ≤ 1048576 := by
  have := of_decide_eq_true hk
  exact this

end Go.Proofs.Ytjijidmbpfjioaa.bulks

/-! (TSTSenderTries) -/

/- SenderTries: the law returns true whatever its arguments. -/
namespace Go.Proofs.Ytjijidmbpfjioaa.senderTries
open Go.ChangeShapes Go.WideShapes Go.ChangeAt Go.RowKit Go.AX Go.AX.Z Go.AX.Z.TS

theorem own : ownKnob Try.prog.godebug = none := by kernel_rfl
theorem laid : laidOutB K.P = true := by kernel_rfl
theorem par : parB K.P Try.f5.params.toList = true := by kernel_rfl

theorem law (B : Nat) (xs : List AV) (h : TyArgs K.P B Try.f5.params.toList xs) : SndP K 5 xs (.v (.bool true)) := by
  have h' : TyArgs K.P B [3, 3, 3, 3, 63] xs := h
  obtain ⟨_, _, rfl, h0, _, _, rfl, h1, _, _, rfl, h2, _, _, rfl, h3, _, _, rfl, h4, rfl⟩ := h'
  obtain ⟨p0, rfl, wp0⟩ := tyV_int ud3 h0
  obtain ⟨p1, rfl, wp1⟩ := tyV_int ud3 h1
  obtain ⟨p2, rfl, wp2⟩ := tyV_int ud3 h2
  obtain ⟨p3, rfl, wp3⟩ := tyV_int ud3 h3
  obtain ⟨_, qp4⟩ := tyV_one ud63 h4
  obtain ⟨p4, rfl, wp4⟩ := rs63 qp4
  exact hotspotlaw19_SenderTries_p p0 p1 p2 p3 p4 (tries_e p0 p1 p2 p3 p4)

set_option maxRecDepth 100000 in
theorem lifted (os : Os) (started : os.Started) (H : Type) (enc : TypeId × Value → H) :
    ReturnsInHanded {} Try.checked os 5 .any (Rows.senderTriesSpec.pre6 enc Try.prog Try.f5 Rows.senderTriesRow.domain false) (Rows.senderTriesSpec.post enc Try.prog Try.f5 false true false false) := by
  refine returnsInHanded_of_change (C := Try.checked) own started (by kernel_rfl) Try.func5
    (ChangeSpec.witness6 (enc := enc) (C := Try.checked) false ⟨#[], #[.int .i64 0, .int .i64 0, .int .i64 0, .int .i64 0, .slice none 0 0], []⟩ 8 (by kernel_rfl) (by kernel_rfl) (by kernel_rfl) (by kernel_rfl)) ?_
  intro W base args ds gs before hval hW hcnd _
  exact law_contract (C := K) (f := 5) ⟨Try.f5, Try.func5, rfl, by decide +kernel⟩ (fn := Try.f5) (tb := 4) (B := Rows.uptoBulkAll ds) (bk := Rows.uptoBulk) rfl laid par rfl Try.underlying4 (law _) rfl
    (fun ds hds => by match ds, hds with | [d1, d2, d3, d4, d5], _ => rfl) bulks.bulk hval hW (fun d hd => bulks.part_le hd)

theorem over : Rows.SenderTriesSaid :=
  OpenClaim.holds_of_wide 5 Try.f5 rfl rfl rfl rfl rfl rfl rfl ⟨rfl, rfl, rfl, rfl, rfl⟩ rfl rfl rfl rfl rfl (by kernel_rfl) Try.func5 (by kernel_rfl)
    (of_decide_eq_true (by kernel_rfl)) (by unfold Func.isWrapper; first | (rw [if_pos (by decide +kernel)]; kernel_rfl) | (rw [if_neg (by decide +kernel)]; exact ⟨rfl, rfl⟩))
    (fun os started H enc _ => lifted os started H enc)

end Go.Proofs.Ytjijidmbpfjioaa.senderTries
