/- SenderWhole: the law returns true whatever its arguments. -/
import Derived.Test.YtjijidmbpfjioaaWalkb
import Derived.Test.YtjijidmbpfjioaaRows
import Derived.WalkKit
import Derived.ProofKit
import Derived.OpenShut
import Derived.JoinedCond
set_option linter.unusedVariables false
set_option linter.unusedSimpArgs false

/-! (TSP) -/

set_option linter.unusedVariables false
set_option linter.unusedSimpArgs false
namespace Go.AX.Z.TS
open Go.AX

/-! ## The sender's functions, plainly -/

theorem dist_e (a b : Int) : window_Dist a b = some (dist a b) := by rw [window_Dist, dist_bits]
theorem add_e (a b : Int) : window_Add a b = some ((a + b) % 4096) := by rw [window_Add, add_bits]
theorem dist_nn (a b : Int) : 0 ≤ dist a b ∧ dist a b < 4096 := by unfold dist; omega

def OkE (st dd lim last at' : Int) (x : Unacked) : Prop :=
  0 ≤ x.Frame.Head.Seq ∧ x.Frame.Head.Seq ≤ 4095 ∧ last < dist st x.Frame.Head.Seq ∧ dist st x.Frame.Head.Seq < dd ∧ at' ≤ x.At ∧ x.At ≤ 1099511627776 ∧ 0 ≤ x.Tries ∧ x.Tries ≤ lim ∧ (x.Flying = true → x.Tries ≠ 0)
instance (st dd lim last at' : Int) (x : Unacked) : Decidable (OkE st dd lim last at' x) := by unfold OkE; infer_instance

def OkL (st dd lim : Int) : Int → Int → List Unacked → Prop
  | _, _, [] => True
  | last, at', x :: l => OkE st dd lim last at' x ∧ OkL st dd lim (dist st x.Frame.Head.Seq) x.At l
def decL (st dd lim : Int) : (last at' : Int) → (l : List Unacked) → Decidable (OkL st dd lim last at' l)
  | _, _, [] => .isTrue trivial
  | last, at', x :: l => by
    have := decL st dd lim (dist st x.Frame.Head.Seq) x.At l
    unfold OkL; infer_instance
instance (st dd lim last at' : Int) (l : List Unacked) : Decidable (OkL st dd lim last at' l) := decL st dd lim last at' l

theorem check_loop (s : Sender) (st dd : Int) (hs : s.Out.length < 4611686018427387904) : ∀ (l : List Unacked) (i n : Nat) (last at' : Int), s.Out.drop i = l → l.length < n →
    sender_Check_L4 s st dd n (last, at', (i : Int)) = some (if OkL st dd s.Limit last at' l then Ex.go () else Ex.ret 8)
  | [], i, n + 1, last, at', h, hn => by
    have := drop_n h
    rw [sender_Check_L4, ge_dec this]
    simp [OkL]
  | x :: l, i, n + 1, last, at', h, hn => by
    obtain ⟨h1, h2, h3⟩ := drop_c h
    have ih := check_loop s st dd hs l (i + 1) n (dist st x.Frame.Head.Seq) x.At h2 (by simpa using hn)
    rw [sender_Check_L4, lt_dec h3]
    simp only [cond_true, idxN, h1, bindS, dist_e, sender_within, wrapN (show i < _ by omega), ih, OkL]
    by_cases hx : OkE st dd s.Limit last at' x
    · have hx' := hx
      obtain ⟨a, b, c, d, e, f, g, k, m⟩ := hx
      have e1 : ((!(decide (0 ≤ x.Frame.Head.Seq) && decide (x.Frame.Head.Seq ≤ 4095)) || decide (dist st x.Frame.Head.Seq ≤ last)) || decide (dd ≤ dist st x.Frame.Head.Seq)) = false := by
        simp [a, b]; omega
      have e2 : (!(decide (at' ≤ x.At) && decide (x.At ≤ 1099511627776))) = false := by simp [e, f]
      have e3 : (!(decide (0 ≤ x.Tries) && decide (x.Tries ≤ s.Limit))) = false := by simp [g, k]
      have e4 : (x.Flying && x.Tries == 0) = false := by
        cases hf : x.Flying
        · rfl
        · simpa using m hf
      simp only [e1, e2, e3, e4, cond_false, cond_true, bindS, Bool.or_false, hx', true_and]
    · simp only [hx, false_and, if_false]
      cases e1 : ((!(decide (0 ≤ x.Frame.Head.Seq) && decide (x.Frame.Head.Seq ≤ 4095)) || decide (dist st x.Frame.Head.Seq ≤ last)) || decide (dd ≤ dist st x.Frame.Head.Seq))
      · cases e2 : (!(decide (at' ≤ x.At) && decide (x.At ≤ 1099511627776)))
        · cases e3 : (!(decide (0 ≤ x.Tries) && decide (x.Tries ≤ s.Limit)))
          · cases e4 : (x.Flying && x.Tries == 0)
            · exfalso
              apply hx
              simp at e1 e2 e3 e4
              refine ⟨by omega, by omega, by omega, by omega, by omega, by omega, by omega, by omega, fun hf => ?_⟩
              exact e4 hf
            · simp only [e4, cond_false, cond_true, bindS, Bool.or_true, Bool.or_false]
          · simp only [e3, cond_false, cond_true, bindS, Bool.or_true, Bool.true_or, Bool.or_false]
        · simp only [e2, cond_false, cond_true, bindS, Bool.or_true, Bool.true_or, Bool.or_false]
      · simp only [e1, cond_false, cond_true, bindS, Bool.or_true, Bool.true_or, Bool.or_false]

def startOf (s : Sender) : Int := match s.Out with | [] => s.Next | x :: _ => x.Frame.Head.Seq
theorem start_e (s : Sender) : sender_start s = some (startOf s) := by
  unfold sender_start startOf
  cases h : s.Out with
  | nil => simp
  | cons x l => simp [idx]

def Valid (s : Sender) : Prop :=
  (0 ≤ s.Tid ∧ s.Tid ≤ 7) ∧ s.Phase ≤ 2 ∧ (0 ≤ s.Token ∧ s.Token ≤ 255) ∧ (0 ≤ s.Next ∧ s.Next ≤ 4095) ∧ (1 ≤ s.Limit ∧ s.Limit ≤ 16) ∧ (1 ≤ s.Life ∧ s.Life ≤ 1073741824) ∧
    (if s.Phase = 0 then s.Size = 0 else 1 ≤ s.Size ∧ s.Size ≤ 64) ∧ (s.Phase ≠ 2 → s.Out = [] ∧ s.Bar = false) ∧ dist (startOf s) s.Next ≤ s.Size ∧
    OkL (startOf s) (dist (startOf s) s.Next) s.Limit (-1) 0 s.Out
instance (s : Sender) : Decidable (Valid s) := by unfold Valid; infer_instance

theorem check_e (s : Sender) (hs : s.Out.length < 4611686018427387904) : sender_Check s = some (if Valid s then 0 else 8) := by
  have hL := check_loop s (startOf s) (dist (startOf s) s.Next) hs s.Out 0 big (-1) 0 rfl (big_lt hs)
  simp only [Int.ofNat_zero, Int.natCast_zero] at hL
  unfold sender_Check
  simp only [sender_within, bindS, start_e, dist_e, hL]
  have b1 : ∀ (a b : Bool), (bif a then some b else some false) = some (a && b) := by intro a b; cases a <;> rfl
  have b2 : ∀ (a b c : Bool), (bif a then some b else some c) = some (bif a then b else c) := by intro a b c; cases a <;> rfl
  simp only [b1, b2, bindS]
  by_cases h1 : (((!((((((decide (0 ≤ s.Tid) && decide (s.Tid ≤ 7)) && decide (s.Phase ≤ 2)) && (decide (0 ≤ s.Token) && decide (s.Token ≤ 255))) && (decide (0 ≤ s.Next) && decide (s.Next ≤ 4095))) && (decide (1 ≤ s.Limit) && decide (s.Limit ≤ 16))) && (decide (1 ≤ s.Life) && decide (s.Life ≤ 1073741824)))) || (!(bif s.Phase == 0 then s.Size == 0 else (decide (1 ≤ s.Size) && decide (s.Size ≤ 64))))) || ((s.Phase != 2) && ((decide (0 < (s.Out.length : Int))) || s.Bar))) = true
  · rw [h1]
    have : ¬ Valid s := by
      rintro ⟨a, b, c, d, e, f, g, k, _⟩
      simp only [Bool.or_eq_true, Bool.and_eq_true, Bool.not_eq_true', Bool.and_eq_false_iff, decide_eq_true_eq, decide_eq_false_iff_not] at h1
      rcases h1 with (h1 | h1) | h1
      · omega
      · by_cases hp : s.Phase = 0
        · rw [if_pos hp] at g; simp [hp, g] at h1
        · rw [if_neg hp] at g
          have : (s.Phase == 0) = false := by simpa using hp
          rw [this] at h1
          simp at h1; omega
      · obtain ⟨h2, h3⟩ := h1
        have := k (by simpa using h2)
        simp [this.1, this.2] at h3
    rw [if_neg this]; rfl
  · rw [Bool.not_eq_true] at h1
    rw [h1, cond_false]
    simp only [Bool.or_eq_false_iff, Bool.and_eq_false_iff, Bool.not_eq_false', Bool.and_eq_true, decide_eq_true_eq, decide_eq_false_iff_not] at h1
    obtain ⟨⟨⟨⟨⟨⟨⟨a, b⟩, c⟩, d⟩, e⟩, f⟩, g⟩, k⟩ := h1
    have a := a
    have g' : (if s.Phase = 0 then s.Size = 0 else 1 ≤ s.Size ∧ s.Size ≤ 64) := by
      by_cases hp : s.Phase = 0
      · rw [if_pos hp]; simpa [hp] using g
      · rw [if_neg hp]
        have : (s.Phase == 0) = false := by simpa using hp
        rw [this] at g
        simpa using g
    have k' : s.Phase ≠ 2 → s.Out = [] ∧ s.Bar = false := by
      intro hp
      rcases k with k | k
      · exact absurd (by simpa using k) hp
      · refine ⟨?_, k.2⟩
        have := k.1
        rw [← List.length_eq_zero_iff]; omega
    by_cases h2 : s.Size < dist (startOf s) s.Next
    · rw [decide_eq_true h2, cond_true, if_neg (by rintro ⟨_, _, _, _, _, _, _, _, q, _⟩; omega)]
    · rw [decide_eq_false h2, cond_false]
      by_cases h3 : OkL (startOf s) (dist (startOf s) s.Next) s.Limit (-1) 0 s.Out
      · rw [if_pos h3, if_pos ⟨a, b, c, d, e, f, g', k', by omega, h3⟩]; rfl
      · rw [if_neg h3, if_neg (by rintro ⟨_, _, _, _, _, _, _, _, _, q⟩; exact h3 q)]; rfl

/-! A state of moderate size -/

def Fit (s : Sender) : Prop := s.Out.length ≤ 100000 ∧ ∀ x ∈ s.Out, x.Frame.Body.length ≤ 2400
theorem Fit.len {s : Sender} (h : Fit s) : s.Out.length < 4611686018427387904 := by have := h.1; omega

theorem twinF {f : Frame} (h : f.Body.length ≤ 2400) : header_Twin f = some f := by
  unfold header_Twin
  rw [chk_d (by omega)]; rfl

theorem twin_loop (s : Sender) (hs : s.Out.length ≤ 100000) : ∀ (l acc : List Unacked) (i n : Nat), s.Out.drop i = l → l.length < n → (∀ x ∈ l, x.Frame.Body.length ≤ 2400) → acc.length + l.length ≤ 100000 →
    sender_twin_L2 s n (acc, (i : Int)) = some (acc ++ l)
  | [], acc, i, n + 1, h, hn, hb, ha => by
    rw [sender_twin_L2, ge_dec (drop_n h)]; simp
  | x :: l, acc, i, n + 1, h, hn, hb, ha => by
    obtain ⟨h1, h2, h3⟩ := drop_c h
    simp only [List.length_cons] at ha hn
    rw [sender_twin_L2, lt_dec h3]
    have ih := twin_loop s hs l (acc ++ [x]) (i + 1) n h2 (by omega) (fun y hy => hb y (by simp [hy])) (by simp; omega)
    simp only [cond_true, idxN, h1, bindS, twinF (hb x (by simp))]
    rw [chk_d (by omega)]
    simp only [bindS, wrapN (show i < _ by omega)]
    rw [show ({ x with Frame := { x.Frame with Body := x.Frame.Body } } : Unacked) = x from rfl, ih]
    simp

theorem twin_e {s : Sender} (h : Fit s) : sender_twin s = some s := by
  unfold sender_twin
  have := twin_loop s h.1 s.Out [] 0 big rfl (big_lt h.len) h.2 (by simpa using h.1)
  simp only [Int.ofNat_zero, Int.natCast_zero] at this
  rw [this]; rfl

theorem open_e {s : Sender} (h : Fit s) (b : Bool) : sender_open s b = some (if Valid s then (if b = true then (if s.Phase = 2 then (s, 0) else (Sender.z, 20)) else (Sender.z, 2)) else (Sender.z, 8)) := by
  unfold sender_open
  rw [check_e s h.len, bindS]
  by_cases hv : Valid s
  · simp only [if_pos hv]
    cases b
    · rfl
    · by_cases hp : s.Phase = 2
      · simp [hp, twin_e h]
      · have e : (s.Phase != 2) = true := by simpa using hp
        simp [hp, e]
  · simp only [if_neg hv]; rfl
end Go.AX.Z.TS

/-! (TSQ) -/

set_option linter.unusedVariables false
set_option linter.unusedSimpArgs false
namespace Go.AX.Z.TS
open Go.AX

/-! ## What each function does, plainly -/

def newS (a b c d : Int) : Sender := { Sender.z with Life := d, Limit := c, Next := b, Tid := a }
theorem newS_fit (a b c d : Int) : Fit (newS a b c d) := ⟨by simp [newS, Sender.z], by simp [newS, Sender.z]⟩
theorem new_e (a b c d : Int) : sender_New a b c d = some (if Valid (newS a b c d) then (newS a b c d, 0) else (Sender.z, 2)) := by
  unfold sender_New
  rw [show ({ Sender.z with Life := d, Limit := c, Next := b, Tid := a } : Sender) = newS a b c d from rfl, check_e _ (newS_fit a b c d).len, bindS]
  by_cases hv : Valid (newS a b c d)
  · simp only [if_pos hv]; rfl
  · simp only [if_neg hv]; rfl

def tok (s : Sender) : Int := IntKind.wrap .i64 (s.Token.tmod 255 + 1)
def askB (s : Sender) (n : Int) : BlockAsk := { BlockAsk.z with Size := n, Start := s.Next, Tid := s.Tid, Token := tok s }
def askS (s : Sender) (n : Int) : Sender := { s with Phase := 1, Size := n, Token := tok s }
theorem ask_e {s : Sender} (h : Fit s) (n : Int) : sender_Ask s n = some (if Valid s then (if 1 ≤ n ∧ n ≤ 64 then (if s.Phase = 2 then (BlockAsk.z, Sender.z, 20) else (askB s n, askS s n, 0)) else (BlockAsk.z, Sender.z, 2)) else (BlockAsk.z, Sender.z, 8)) := by
  unfold sender_Ask
  rw [check_e s h.len, bindS]
  by_cases hv : Valid s
  · simp only [if_pos hv, sender_within, bindS]
    by_cases hn : 1 ≤ n ∧ n ≤ 64
    · have e : (!(decide (1 ≤ n) && decide (n ≤ 64))) = false := by simp [hn]
      simp only [if_pos hn, e]
      by_cases hp : s.Phase = 2
      · simp [hp]
      · have hf : Fit (askS s n) := ⟨h.1, h.2⟩
        have e2 : (s.Phase == 2) = false := by simpa using hp
        simp only [if_neg hp, e2, cond_false]
        rw [show ({ s with Phase := 1, Size := n, Token := IntKind.wrap .i64 (s.Token.tmod 255 + 1) } : Sender) = askS s n from rfl, twin_e hf, bindS]
        rfl
    · have e : (!(decide (1 ≤ n) && decide (n ≤ 64))) = true := by
        simp only [Bool.not_eq_true', Bool.and_eq_false_iff, decide_eq_false_iff_not]; omega
      simp only [if_neg hn, e]; rfl
  · simp only [if_neg hv]; rfl

def ansS (s : Sender) (a : BlockAnswer) : Sender := if a.Status = 0 then { s with Phase := 2, Size := a.Size } else { s with Phase := 0, Size := 0 }
theorem ansS_fit {s : Sender} (h : Fit s) (a : BlockAnswer) : Fit (ansS s a) := by
  unfold ansS; split <;> exact ⟨h.1, h.2⟩
theorem answer_e {s : Sender} (h : Fit s) (a : BlockAnswer) : sender_Answer s a = some (if Valid s then (if s.Phase = 1 then (if a.Token = s.Token ∧ a.Tid = s.Tid then (if a.Status = 0 ∧ ¬ (1 ≤ a.Size ∧ a.Size ≤ s.Size) then (Sender.z, 2) else (ansS s a, 0)) else (Sender.z, 21)) else (Sender.z, 20)) else (Sender.z, 8)) := by
  unfold sender_Answer
  rw [check_e s h.len, bindS]
  by_cases hv : Valid s
  · simp only [if_pos hv]
    by_cases hp : s.Phase = 1
    · have e1 : (s.Phase != 1) = false := by simp [hp]
      simp only [if_pos hp, e1, cond_false]
      by_cases ht : a.Token = s.Token ∧ a.Tid = s.Tid
      · have e2 : ((a.Token != s.Token) || (a.Tid != s.Tid)) = false := by simp [ht.1, ht.2]
        simp only [if_pos ht, e2, cond_false]
        by_cases hs : a.Status = 0
        · have e3 : (a.Status != 0) = false := by simp [hs]
          simp only [e3, cond_false, sender_within, bindS]
          by_cases hz : 1 ≤ a.Size ∧ a.Size ≤ s.Size
          · have e4 : (!(decide (1 ≤ a.Size) && decide (a.Size ≤ s.Size))) = false := by simp [hz]
            have e5 : ¬ (a.Status = 0 ∧ ¬ (1 ≤ a.Size ∧ a.Size ≤ s.Size)) := fun h => h.2 hz
            have hf := ansS_fit h a
            have e6 : ansS s a = { s with Phase := 2, Size := a.Size } := by unfold ansS; rw [if_pos hs]
            simp only [e4, cond_false, bindS, Ex.k_go', if_neg e5]
            rw [show ((0 : Int) != 0) = false from rfl, cond_false, bindS, Ex.k_go', ← e6, twin_e hf]; rfl
          · have e4 : (!(decide (1 ≤ a.Size) && decide (a.Size ≤ s.Size))) = true := by
              simp only [Bool.not_eq_true', Bool.and_eq_false_iff, decide_eq_false_iff_not]; omega
            have e5 : (a.Status = 0 ∧ ¬ (1 ≤ a.Size ∧ a.Size ≤ s.Size)) := ⟨hs, hz⟩
            simp only [e4, cond_true, bindS, Ex.k_ret', if_pos e5]; rfl
        · have e3 : (a.Status != 0) = true := by simpa using hs
          have e5 : ¬ (a.Status = 0 ∧ ¬ (1 ≤ a.Size ∧ a.Size ≤ s.Size)) := fun h => hs h.1
          have hf := ansS_fit h a
          have e6 : ansS s a = { s with Phase := 0, Size := 0 } := by unfold ansS; rw [if_neg hs]
          simp only [e3, cond_true, if_neg e5]
          rw [show ((0 : Int) != 0) = false from rfl, cond_false, bindS, Ex.k_go', ← e6, twin_e hf]; rfl
      · have e2 : ((a.Token != s.Token) || (a.Tid != s.Tid)) = true := by
          simp only [Bool.or_eq_true, bne_iff_ne]
          rcases Classical.em (a.Token = s.Token) with h1 | h1
          · exact .inr fun h2 => ht ⟨h1, h2⟩
          · exact .inl h1
        simp only [if_neg ht, e2]; rfl
    · have e1 : (s.Phase != 1) = true := by simpa using hp
      simp only [if_neg hp, e1]; rfl
  · simp only [if_neg hv]; rfl

def seqs (l : List Unacked) : List Int := l.map fun x => x.Frame.Head.Seq

theorem close_loop (s : Sender) (hs : s.Out.length ≤ 100000) : ∀ (l : List Unacked) (acc : List Int) (i n : Nat), s.Out.drop i = l → l.length < n → acc.length + l.length ≤ 100000 →
    sender_Close_L2 s n (acc, (i : Int)) = some (acc ++ seqs l)
  | [], acc, i, n + 1, h, hn, ha => by
    rw [sender_Close_L2, ge_dec (drop_n h)]; simp [seqs]
  | x :: l, acc, i, n + 1, h, hn, ha => by
    obtain ⟨h1, h2, h3⟩ := drop_c h
    simp only [List.length_cons] at ha hn
    rw [sender_Close_L2, lt_dec h3]
    have ih := close_loop s hs l (acc ++ [x.Frame.Head.Seq]) (i + 1) n h2 (by omega) (by simp; omega)
    simp only [cond_true, idxN, h1, bindS]
    rw [chk_d (by omega)]
    simp only [bindS, wrapN (show i < _ by omega), ih]
    simp [seqs]

def closeS (s : Sender) : Sender := { s with Bar := false, Out := [], Phase := 0, Size := 0 }
theorem close_e {s : Sender} (h : Fit s) : sender_Close s = some (if Valid s then (seqs s.Out, closeS s, 0) else ([], Sender.z, 8)) := by
  unfold sender_Close
  rw [check_e s h.len, bindS]
  by_cases hv : Valid s
  · simp only [if_pos hv]
    have := close_loop s h.1 s.Out [] 0 big rfl (big_lt h.len) (by simpa using h.1)
    simp only [Int.ofNat_zero, Int.natCast_zero, List.nil_append] at this
    rw [this]; rfl
  · simp only [if_neg hv]; rfl

def lastAt (s : Sender) : Int := match s.Out.getLast? with | some x => x.At | none => 0
def offF (s : Sender) (f : Frame) : Frame := { f with Head := { f.Head with Retry := false, Seq := s.Next, Tid := s.Tid } }
def offS (s : Sender) (f : Frame) (n : Int) : Sender := { s with Next := (s.Next + 1) % 4096, Out := s.Out ++ [{ Unacked.z with At := n, Frame := offF s f }] }
theorem offer_e {s : Sender} (h : Fit s) (f : Frame) (hf : f.Body.length ≤ 2400) (n : Int) (hl : s.Out.length < 90000) : sender_Offer s f n =
    some (if Valid s then (if 0 ≤ n ∧ n ≤ 1099511627776 then (if s.Phase = 2 then (if s.Out ≠ [] ∧ n < lastAt s then (Frame.z, Sender.z, 20) else if s.Size ≤ dist (startOf s) s.Next then (Frame.z, Sender.z, 22) else (offF s f, offS s f n, 0)) else (Frame.z, Sender.z, 20)) else (Frame.z, Sender.z, 2)) else (Frame.z, Sender.z, 8)) := by
  unfold sender_Offer
  simp only [sender_within, bindS]
  rw [open_e h]
  by_cases hv : Valid s
  · simp only [if_pos hv]
    by_cases hn : 0 ≤ n ∧ n ≤ 1099511627776
    · have e1 : (decide (0 ≤ n) && decide (n ≤ 1099511627776)) = true := by simp [hn]
      simp only [e1, if_true, if_pos hn]
      by_cases hp : s.Phase = 2
      · simp only [if_pos hp, bindS]
        rw [show ((0 : Int) != 0) = false from rfl, cond_false]
        have key : ((bif decide (0 < ((s.Out.length : Nat) : Int)) then ((idx s.Out (IntKind.wrap .i64 (((s.Out.length : Nat) : Int) - 1))).bind fun x16 => some (decide (n < x16.At))) else some false) : Option Bool) = some (decide (s.Out ≠ [] ∧ n < lastAt s)) := by
          cases ho : s.Out with
          | nil => simp
          | cons x l =>
            have hl' : (x :: l).length = l.length + 1 := rfl
            have hlen : s.Out.length = l.length + 1 := by rw [ho]; rfl
            rw [show decide (0 < (((x :: l).length : Nat) : Int)) = true by simp, cond_true, show IntKind.wrap .i64 ((((x :: l).length : Nat) : Int) - 1) = ((l.length : Nat) : Int) by rw [hl', wrapI (by omega) (by omega)]; omega, idxN]
            have : (x :: l)[l.length]? = (x :: l).getLast? := by rw [List.getLast?_eq_getElem?]; rfl
            rw [this]
            have hne : (x :: l).getLast? = some ((x :: l).getLast (by simp)) := List.getLast?_eq_some_getLast (by simp)
            rw [hne, bindS]
            simp [lastAt, ho, hne]
        rw [key, bindS]
        by_cases hw : s.Out ≠ [] ∧ n < lastAt s
        · rw [decide_eq_true hw, if_pos hw]; rfl
        · rw [decide_eq_false hw, if_neg hw, cond_false, start_e, bindS, dist_e, bindS]
          by_cases hz : s.Size ≤ dist (startOf s) s.Next
          · rw [decide_eq_true hz, if_pos hz]; rfl
          · rw [decide_eq_false hz, if_neg hz, cond_false, twinF hf, bindS, chk_d (by omega), bindS, add_e, bindS]
            rw [twinF (f := { f with Head := { f.Head with Retry := false, Seq := s.Next, Tid := s.Tid } }) hf]
            rfl
      · simp only [if_neg hp]; rfl
    · have e1 : (decide (0 ≤ n) && decide (n ≤ 1099511627776)) = false := by
        simp only [Bool.and_eq_false_iff, decide_eq_false_iff_not]; omega
      simp only [e1, if_neg hn]; rfl
  · simp only [if_neg hv]; rfl

/-! Pick -/

def pickR (lim k : Int) : Nat → List Unacked → List Unacked × List Frame
  | _, [] => ([], [])
  | c, x :: l => if (c : Int) = k then (x :: l, []) else
      if (x.Flying || (x.Tries == lim)) = true then (x :: (pickR lim k c l).1, (pickR lim k c l).2)
      else ({ x with Tries := IntKind.wrap .i64 (x.Tries + 1), Flying := true } :: (pickR lim k (c + 1) l).1, { x.Frame with Head := { x.Frame.Head with Retry := decide (0 < x.Tries) } } :: (pickR lim k (c + 1) l).2)

theorem mod_mid {α : Type} (f : α → α) : ∀ (pre : List α) (x : α) (l : List α), (pre ++ x :: l).modify pre.length f = pre ++ f x :: l
  | [], x, l => by simp
  | p :: pre, x, l => by simp [mod_mid f pre x l]

theorem pick_loop (r : Sender × Int) (k : Int) : ∀ (l pre : List Unacked) (fr : List Frame) (n : Nat), pre.length + l.length = r.1.Out.length → r.1.Out.length ≤ 100000 → l.length < n → (∀ x ∈ l, x.Frame.Body.length ≤ 2400) → fr.length + l.length ≤ 100000 →
    sender_Pick_L3 r k n (pre ++ l, fr, (pre.length : Int)) = some (pre ++ (pickR r.1.Limit k fr.length l).1, fr ++ (pickR r.1.Limit k fr.length l).2)
  | [], pre, fr, n + 1, h, hL, hn, hb, ha => by
    rw [sender_Pick_L3, ge_dec (by simp at h; omega)]; simp [pickR]
  | x :: l, pre, fr, n + 1, h, hL, hn, hb, ha => by
    simp only [List.length_cons] at h ha hn
    rw [sender_Pick_L3, lt_dec (by omega)]
    have e : idx (pre ++ x :: l) (pre.length : Int) = some x := by rw [idxN]; simp
    simp only [cond_true, e, bindS, pickR]
    by_cases hk : (fr.length : Int) = k
    · rw [show (((fr.length : Nat) : Int) == k) = true by simpa using hk, if_pos hk]; simp
    · rw [show (((fr.length : Nat) : Int) == k) = false by simpa using hk, if_neg hk, cond_false]
      cases hx : (x.Flying || (x.Tries == r.1.Limit))
      · simp only [cond_false, Bool.false_eq_true, if_false]
        rw [twinF (hb x (by simp)), bindS, chk_d (by omega), bindS, show (pre.length : Int).toNat = pre.length by omega, mod_mid, mod_mid, wrapN (by omega)]
        have ih := pick_loop r k l (pre ++ [{ x with Tries := IntKind.wrap .i64 (x.Tries + 1), Flying := true }]) (fr ++ [{ x.Frame with Head := { x.Frame.Head with Retry := decide (0 < x.Tries) } }]) n (by simp; omega) hL (by omega) (fun y hy => hb y (by simp [hy])) (by simp; omega)
        simp only [List.append_assoc, List.cons_append, List.nil_append, List.length_append, List.length_cons, List.length_nil, Nat.zero_add] at ih
        exact ih
      · simp only [cond_true, if_true]
        rw [wrapN (by omega)]
        have ih := pick_loop r k l (pre ++ [x]) fr n (by simp; omega) hL (by omega) (fun y hy => hb y (by simp [hy])) (by omega)
        simp only [List.append_assoc, List.cons_append, List.nil_append, List.length_append, List.length_cons, List.length_nil, Nat.zero_add] at ih
        exact ih

theorem pick_e {s : Sender} (h : Fit s) (k : Int) : sender_Pick s k = some (if Valid s then (if 0 ≤ k then (if s.Phase = 2 then ((pickR s.Limit k 0 s.Out).2, { s with Out := (pickR s.Limit k 0 s.Out).1 }, 0) else ([], Sender.z, 20)) else ([], Sender.z, 2)) else ([], Sender.z, 8)) := by
  unfold sender_Pick
  rw [open_e h]
  by_cases hv : Valid s
  · simp only [if_pos hv]
    by_cases hk : 0 ≤ k
    · simp only [decide_eq_true hk, if_true, if_pos hk]
      by_cases hp : s.Phase = 2
      · simp only [if_pos hp, bindS]
        have := pick_loop (s, 0) k s.Out [] [] big (by simp) h.1 (big_lt h.len) h.2 (by simpa using h.1)
        simp only [List.nil_append, List.length_nil, Int.ofNat_zero, Int.natCast_zero] at this
        rw [show ((0 : Int) != 0) = false from rfl, cond_false, this]; rfl
      · simp only [if_neg hp]; rfl
    · simp only [decide_eq_false hk, if_neg hk]; rfl
  · simp only [if_neg hv]; rfl

/-! Flying no more -/

def unfly (x : Unacked) : Unacked := { x with Flying := false }
theorem land_loop (s : Sender) : ∀ (l pre : List Unacked) (n : Nat), pre.length + l.length = s.Out.length → s.Out.length ≤ 100000 → l.length < n →
    sender_land_L2 s n (pre ++ l, (pre.length : Int)) = some (pre ++ l.map unfly)
  | [], pre, n + 1, h, hL, hn => by
    rw [sender_land_L2, ge_dec (by simp at h; omega)]; simp
  | x :: l, pre, n + 1, h, hL, hn => by
    simp only [List.length_cons] at h hn
    rw [sender_land_L2, lt_dec (by omega)]
    have e : idx (pre ++ x :: l) (pre.length : Int) = some x := by rw [idxN]; simp
    simp only [cond_true, e, bindS]
    rw [show (pre.length : Int).toNat = pre.length by omega, mod_mid, wrapN (by omega)]
    have ih := land_loop s l (pre ++ [unfly x]) n (by simp; omega) hL (by omega)
    simp only [List.append_assoc, List.cons_append, List.nil_append, List.length_append, List.length_cons, List.length_nil, Nat.zero_add] at ih
    exact ih
theorem land_e {s : Sender} (h : s.Out.length ≤ 100000) : sender_land s = some (s.Out.map unfly) := by
  unfold sender_land
  have := land_loop s s.Out [] big (by simp) h (big_lt (by omega))
  simp only [List.nil_append, List.length_nil, Int.ofNat_zero, Int.natCast_zero] at this
  rw [this]; rfl

theorem lost_e {s : Sender} (h : Fit s) : sender_Lost s = some (if Valid s then (if s.Phase = 2 then ({ s with Out := s.Out.map unfly }, 0) else (Sender.z, 20)) else (Sender.z, 8)) := by
  unfold sender_Lost
  rw [open_e h]
  by_cases hv : Valid s
  · simp only [if_pos hv, if_true]
    by_cases hp : s.Phase = 2
    · simp only [if_pos hp, bindS]
      rw [show ((0 : Int) != 0) = false from rfl, cond_false, land_e h.1]; rfl
    · simp only [if_neg hp]; rfl
  · simp only [if_neg hv]; rfl

theorem barred_e {s : Sender} (h : Fit s) : sender_Barred s = some (if Valid s then (if s.Phase = 2 then (if s.Bar = true then ({ s with Bar := false }, 0) else (Sender.z, 20)) else (Sender.z, 20)) else (Sender.z, 8)) := by
  unfold sender_Barred
  rw [open_e h]
  by_cases hv : Valid s
  · simp only [if_pos hv, if_true]
    by_cases hp : s.Phase = 2
    · simp only [if_pos hp, bindS]
      cases hb : s.Bar <;> simp [hb]
    · simp only [if_neg hp]; rfl
  · simp only [if_neg hv]; rfl
end Go.AX.Z.TS

/-! (TSR) -/

set_option linter.unusedVariables false
set_option linter.unusedSimpArgs false
namespace Go.AX.Z.TS
open Go.AX

/-! ## Removing -/

def okW (w : Window) : Prop := 0 ≤ w.Start ∧ w.Start < 4096
instance (w : Window) : Decidable (okW w) := by unfold okW; infer_instance
theorem wcheck_e (w : Window) : window_Check w = some (if okW w then 0 else 8) := by
  unfold window_Check window_number
  by_cases h : okW w
  · have e : (decide (0 ≤ w.Start) && decide (w.Start < 4096)) = true := by simpa using (show 0 ≤ w.Start ∧ w.Start < 4096 from h)
    rw [bindS, e, if_pos h]; rfl
  · have e : (decide (0 ≤ w.Start) && decide (w.Start < 4096)) = false := by
      simp only [Bool.and_eq_false_iff, decide_eq_false_iff_not]; unfold okW at h; omega
    rw [bindS, e, if_neg h]; rfl

def hasB (w : Window) (n : Int) : Bool :=
  decide (okW w ∧ 0 ≤ n ∧ n < 4096 ∧ dist w.Start n < 64) && ((IntKind.wrap .u64 ((BitVec.ofInt 64 ((w.Bits).fdiv (2 ^ (min (dist w.Start n).toNat 64))) &&& BitVec.ofInt 64 1).toNat : Int)) == 1)
theorem whas_e (w : Window) (n : Int) : window_Has w n = some (hasB w n) := by
  unfold window_Has window_check
  rw [wcheck_e, bindS]
  by_cases h : okW w
  · rw [if_pos h]
    unfold window_number
    by_cases hn : 0 ≤ n ∧ n < 4096
    · have e : (decide (0 ≤ n) && decide (n < 4096)) = true := by simpa using hn
      rw [show ((0 : Int) != 0) = false from rfl, cond_false, bindS, e]
      simp only [Bool.not_true, cond_false, bindS]
      rw [show ((0 : Int) != 0) = false from rfl, cond_false, dist_e, bindS]
      unfold hasB
      by_cases hd : dist w.Start n < 64
      · have := (dist_nn w.Start n).1
        rw [decide_eq_true hd, cond_true, chk_d (by omega), bindS, bindS, decide_eq_true ⟨h, hn.1, hn.2, hd⟩, Bool.true_and]
      · rw [decide_eq_false hd, cond_false, bindS, decide_eq_false (fun q => hd q.2.2.2), Bool.false_and]
    · have e : (decide (0 ≤ n) && decide (n < 4096)) = false := by
        simp only [Bool.and_eq_false_iff, decide_eq_false_iff_not]; omega
      rw [show ((0 : Int) != 0) = false from rfl, cond_false, bindS, e]
      unfold hasB
      rw [decide_eq_false (fun q => hn ⟨q.2.1, q.2.2.1⟩)]; rfl
  · rw [if_neg h]
    unfold hasB
    rw [decide_eq_false (fun q => h q.1)]; rfl

def pA (w : Window) (x : Unacked) : Bool := decide (0 < x.Tries) && hasB w x.Frame.Head.Seq
theorem acked1_e (x : Unacked) (w : Window) : sender_Acked_1 x w = some (pA w x) := by
  unfold sender_Acked_1 pA
  cases h : decide (0 < x.Tries)
  · rfl
  · rw [cond_true, whas_e]; rfl
theorem rem_e (x : Unacked) (w : Window) (l : List Int) (h : l.length ≤ 100000) : sender_remove_1_2 x w l = some (pA w x, if pA w x = true then l ++ [x.Frame.Head.Seq] else l) := by
  unfold sender_remove_1_2
  rw [acked1_e, bindS]
  cases pA w x
  · rfl
  · rw [cond_true, chk_d (by omega), bindS]; rfl

/-- Where the first element is that p holds of. -/
def ff (p : Unacked → Bool) : Nat → List Unacked → Option (Nat × Unacked)
  | _, [] => none
  | i, x :: l => if p x = true then some (i, x) else ff p (i + 1) l

theorem ff_none {p : Unacked → Bool} : ∀ {l : List Unacked} {i : Nat}, ff p i l = none → l.filter (fun x => !p x) = l ∧ l.filter p = []
  | [], _, _ => ⟨rfl, rfl⟩
  | x :: l, i, h => by
    unfold ff at h
    by_cases hx : p x = true
    · rw [if_pos hx] at h; cases h
    · rw [if_neg hx] at h
      obtain ⟨h1, h2⟩ := ff_none h
      rw [Bool.not_eq_true] at hx
      simp [hx, h1, h2]
theorem ff_some {p : Unacked → Bool} : ∀ {l : List Unacked} {i j : Nat} {x : Unacked}, ff p i l = some (j, x) → ∃ a b, l = a ++ x :: b ∧ j = i + a.length ∧ p x = true ∧ ∀ y ∈ a, p y = false
  | [], i, j, x, h => by simp [ff] at h
  | y :: l, i, j, x, h => by
    unfold ff at h
    by_cases hx : p y = true
    · rw [if_pos hx] at h; cases h; exact ⟨[], l, rfl, rfl, hx, by simp⟩
    · rw [if_neg hx] at h
      obtain ⟨a, b, rfl, rfl, h3, h4⟩ := ff_some h
      rw [Bool.not_eq_true] at hx
      exact ⟨y :: a, b, rfl, by simp; omega, h3, by intro z hz; rcases List.mem_cons.1 hz with rfl | hz; exact hx; exact h4 z hz⟩

theorem index_loop (L : List Unacked) (w : Window) (hL : L.length ≤ 100000) : ∀ (l : List Unacked) (i n : Nat), L.drop i = l → l.length < n →
    slices_IndexFunc_api_Unacked_api_Unacked_L2 L w n ([], (i : Int)) = some (match ff (pA w) i l with | some (j, x) => Ex.ret ((j : Int), [x.Frame.Head.Seq]) | none => Ex.go [])
  | [], i, n + 1, h, hn => by
    rw [slices_IndexFunc_api_Unacked_api_Unacked_L2, ge_dec (drop_n h)]; rfl
  | x :: l, i, n + 1, h, hn => by
    obtain ⟨h1, h2, h3⟩ := drop_c h
    rw [slices_IndexFunc_api_Unacked_api_Unacked_L2, lt_dec h3]
    have ih := index_loop L w hL l (i + 1) n h2 (by simpa using hn)
    simp only [cond_true, idxN, h1, bindS]
    rw [rem_e x w [] (by simp), bindS]
    unfold ff
    cases hx : pA w x
    · simp only [cond_false, Bool.false_eq_true, if_false, wrapN (show i < _ by omega)]; exact ih
    · simp only [cond_true, if_true, List.nil_append]

theorem del_loop (w : Window) : ∀ (l cur : List Unacked) (nums : List Int) (i j n : Nat), cur.drop j = l → i ≤ j → j ≤ cur.length → cur.length ≤ 50000 → nums.length ≤ j → l.length < n →
    ∃ cur' i', slices_DeleteFunc_api_Unacked_api_Unacked_L2 w n (cur, nums, (i : Int), (j : Int)) = some (cur', ((i' : Nat) : Int), nums ++ seqs (l.filter (pA w))) ∧ cur'.length = cur.length ∧ i' ≤ cur.length ∧ cur'.take i' = cur.take i ++ l.filter (fun x => !pA w x)
  | [], cur, nums, i, j, n + 1, h, hij, hj, hc, hm, hn => by
    refine ⟨cur, i, ?_, rfl, by omega, by simp⟩
    rw [slices_DeleteFunc_api_Unacked_api_Unacked_L2, ge_dec (drop_n h)]
    simp [seqs]
  | x :: l, cur, nums, i, j, n + 1, h, hij, hj, hc, hm, hn => by
    obtain ⟨h1, h2, h3⟩ := drop_c h
    simp only [List.length_cons] at hn
    have hi : i < cur.length := by omega
    rw [slices_DeleteFunc_api_Unacked_api_Unacked_L2, lt_dec h3]
    simp only [cond_true, idxN, h1, bindS]
    rw [rem_e x w nums (by omega), bindS]
    cases hx : pA w x
    · simp only [Bool.not_false, cond_true, Bool.false_eq_true, if_false]
      have hg : cur[i]? = some cur[i] := by simp [hi]
      rw [hg, bindS, wrapN (by omega), wrapN (by omega), show (i : Int).toNat = i by omega]
      have hd : (cur.set i x).drop (j + 1) = l := by rw [drop_set_lt x (by omega)]; exact h2
      obtain ⟨cur', i', e1, e2, e3, e4⟩ := del_loop w l (cur.set i x) nums (i + 1) (j + 1) n hd (by omega) (by simp; omega) (by simpa using hc) (by omega) (by omega)
      refine ⟨cur', i', ?_, by simpa using e2, by simpa using e3, ?_⟩
      · rw [e1]; simp [hx]
      · rw [e4, take_set_succ x hi]; simp [hx]
    · simp only [Bool.not_true, cond_false, if_true]
      rw [wrapN (by omega)]
      obtain ⟨cur', i', e1, e2, e3, e4⟩ := del_loop w l cur (nums ++ [x.Frame.Head.Seq]) i (j + 1) n h2 (by omega) (by omega) hc (by simp; omega) (by omega)
      refine ⟨cur', i', ?_, e2, e3, ?_⟩
      · rw [e1]; simp [hx, seqs]
      · rw [e4]; simp [hx]

theorem filter_pre {p : Unacked → Bool} {a : List Unacked} (h : ∀ y ∈ a, p y = false) : a.filter p = [] ∧ a.filter (fun x => !p x) = a :=
  ⟨List.filter_eq_nil_iff.2 fun y hy => by simp [h y hy], List.filter_eq_self.2 fun y hy => by simp [h y hy]⟩

theorem delete_e (w : Window) (L : List Unacked) (hL : L.length ≤ 50000) : slices_DeleteFunc_api_Unacked_api_Unacked w L = some (L.filter (fun x => !pA w x), seqs (L.filter (pA w))) := by
  unfold slices_DeleteFunc_api_Unacked_api_Unacked slices_IndexFunc_api_Unacked_api_Unacked
  have := index_loop L w (by omega) L 0 big rfl (big_lt (by omega))
  simp only [Int.ofNat_zero, Int.natCast_zero] at this
  rw [this, bindS]
  cases hf : ff (pA w) 0 L with
  | none =>
    obtain ⟨h1, h2⟩ := ff_none hf
    rw [h1, h2]
    rfl
  | some q =>
    obtain ⟨j, x⟩ := q
    obtain ⟨a, b, h1, h2, h3, h4⟩ := ff_some hf
    rw [Nat.zero_add] at h2
    subst h2
    obtain ⟨f1, f2⟩ := filter_pre h4
    simp only [Ex.k_ret', bindS]
    have hne : (((a.length : Nat) : Int) == -1) = false := by
      simp
    rw [hne, cond_false]
    have hlen : L.length = a.length + (b.length + 1) := by rw [h1]; simp
    rw [wrapN (by omega)]
    have hd : L.drop (a.length + 1) = b := by rw [h1]; simp
    obtain ⟨cur', i', e1, e2, e3, e4⟩ := del_loop w b L [x.Frame.Head.Seq] a.length (a.length + 1) big hd (by omega) (by omega) hL (by simp) (big_lt (by omega))
    rw [e1, bindS]
    have hc : chk (decide (0 ≤ ((i' : Nat) : Int)) && decide (((i' : Nat) : Int) ≤ (cur'.length : Int))) = some () := chk_t (by simp; omega)
    simp only [hc, bindS, show ((i' : Nat) : Int).toNat = i' by omega]
    rw [e4, h1]
    simp [f1, f2, h3, seqs]

theorem remove_e (s : Sender) (w : Window) (h : s.Out.length ≤ 50000) : sender_remove s w = some (seqs (s.Out.filter (pA w)), s.Out.filter (fun x => !pA w x)) := by
  unfold sender_remove
  rw [delete_e w s.Out h]; rfl

def ackS (s : Sender) (w : Window) : Sender := { s with Out := (s.Out.filter (fun x => !pA w x)).map unfly }
theorem acked_e {s : Sender} (h : Fit s) (hl : s.Out.length ≤ 50000) (w : Window) : sender_Acked s w = some (if Valid s then (if okW w then (if s.Phase = 2 then (seqs (s.Out.filter (pA w)), ackS s w, 0) else ([], Sender.z, 20)) else ([], Sender.z, 2)) else ([], Sender.z, 8)) := by
  unfold sender_Acked
  rw [wcheck_e, bindS, open_e h]
  by_cases hv : Valid s
  · simp only [if_pos hv]
    by_cases hw : okW w
    · simp only [if_pos hw]
      by_cases hp : s.Phase = 2
      · rw [show ((0 : Int) == 0) = true from rfl]
        simp only [if_pos hp, if_true, bindS]
        rw [show ((0 : Int) != 0) = false from rfl, cond_false, remove_e s w hl, bindS, land_e (by have := List.length_filter_le (fun x => !pA w x) s.Out; simp only; omega)]
        rfl
      · simp only [if_neg hp]; rfl
    · simp only [if_neg hw]; rfl
  · simp only [if_neg hv]; rfl

/-! Expire -/

def pX (lim life now : Int) (x : Unacked) : Bool := (!x.Flying) && ((x.Tries == lim) || (decide ((IntKind.wrap .i64 (x.At + life)) ≤ now)))
theorem remX_e (x : Unacked) (s : Sender) (t : Int) (l : List Int) (h : l.length ≤ 100000) : sender_remove_1_4 x s t l = some (pX s.Limit s.Life t x, if pX s.Limit s.Life t x = true then l ++ [x.Frame.Head.Seq] else l) := by
  unfold sender_remove_1_4 sender_Expire_1
  rw [bindS]
  show (bif pX s.Limit s.Life t x then _ else _) = _
  cases hx : pX s.Limit s.Life t x
  · simp only [cond_false, Bool.false_eq_true, if_false]; rw [show ((!x.Flying) && ((x.Tries == s.Limit) || (decide ((IntKind.wrap .i64 (x.At + s.Life)) ≤ t)))) = false from hx]
  · rw [cond_true, chk_d (by omega), bindS]; rw [show ((!x.Flying) && ((x.Tries == s.Limit) || (decide ((IntKind.wrap .i64 (x.At + s.Life)) ≤ t)))) = true from hx]; rfl

theorem indexX_loop (s : Sender) (t : Int) (hL : s.Out.length ≤ 100000) : ∀ (l : List Unacked) (i n : Nat), s.Out.drop i = l → l.length < n →
    slices_IndexFunc_api_Unacked_api_Unacked_2_L2 s t n ([], (i : Int)) = some (match ff (pX s.Limit s.Life t) i l with | some (j, x) => Ex.ret ((j : Int), [x.Frame.Head.Seq]) | none => Ex.go [])
  | [], i, n + 1, h, hn => by
    rw [slices_IndexFunc_api_Unacked_api_Unacked_2_L2, ge_dec (drop_n h)]; rfl
  | x :: l, i, n + 1, h, hn => by
    obtain ⟨h1, h2, h3⟩ := drop_c h
    rw [slices_IndexFunc_api_Unacked_api_Unacked_2_L2, lt_dec h3]
    have ih := indexX_loop s t hL l (i + 1) n h2 (by simpa using hn)
    simp only [cond_true, idxN, h1, bindS]
    rw [remX_e x s t [] (by simp), bindS]
    unfold ff
    cases hx : pX s.Limit s.Life t x
    · simp only [cond_false, Bool.false_eq_true, if_false, wrapN (show i < _ by omega)]; exact ih
    · simp only [cond_true, if_true, List.nil_append]

theorem delX_loop (t lim life : Int) : ∀ (l cur : List Unacked) (S : Sender) (nums : List Int) (i j n : Nat), S.Limit = lim → S.Life = life → cur.drop j = l → i ≤ j → j ≤ cur.length → cur.length ≤ 50000 → nums.length ≤ j → l.length < n →
    ∃ cur' i' o, slices_DeleteFunc_api_Unacked_api_Unacked_2_L2 t n (cur, S, nums, (i : Int), (j : Int)) = some (cur', ((i' : Nat) : Int), { S with Out := o }, nums ++ seqs (l.filter (pX lim life t))) ∧ cur'.length = cur.length ∧ i' ≤ cur.length ∧ cur'.take i' = cur.take i ++ l.filter (fun x => !pX lim life t x)
  | [], cur, S, nums, i, j, n + 1, e1, e2, h, hij, hj, hc, hm, hn => by
    refine ⟨cur, i, S.Out, ?_, rfl, by omega, by simp⟩
    rw [slices_DeleteFunc_api_Unacked_api_Unacked_2_L2, ge_dec (drop_n h)]
    simp [seqs]
  | x :: l, cur, S, nums, i, j, n + 1, q1, q2, h, hij, hj, hc, hm, hn => by
    obtain ⟨h1, h2, h3⟩ := drop_c h
    simp only [List.length_cons] at hn
    have hi : i < cur.length := by omega
    rw [slices_DeleteFunc_api_Unacked_api_Unacked_2_L2, lt_dec h3]
    simp only [cond_true, idxN, h1, bindS]
    rw [remX_e x { S with Out := cur } t nums (by omega), bindS]
    subst q1; subst q2
    cases hx : pX S.Limit S.Life t x
    · simp only [Bool.not_false, cond_true, Bool.false_eq_true, if_false]
      have hg : cur[i]? = some cur[i] := by simp [hi]
      rw [hg, bindS, wrapN (by omega), wrapN (by omega), show (i : Int).toNat = i by omega]
      have hd : (cur.set i x).drop (j + 1) = l := by rw [drop_set_lt x (by omega)]; exact h2
      obtain ⟨cur', i', o, e1, e2, e3, e4⟩ := delX_loop t S.Limit S.Life l (cur.set i x) { S with Out := cur } nums (i + 1) (j + 1) n rfl rfl hd (by omega) (by simp; omega) (by simpa using hc) (by omega) (by omega)
      refine ⟨cur', i', o, ?_, by simpa using e2, by simpa using e3, ?_⟩
      · rw [e1]; simp [hx]
      · rw [e4, take_set_succ x hi]; simp [hx]
    · simp only [Bool.not_true, cond_false, if_true]
      rw [wrapN (by omega)]
      obtain ⟨cur', i', o, e1, e2, e3, e4⟩ := delX_loop t S.Limit S.Life l cur { S with Out := cur } (nums ++ [x.Frame.Head.Seq]) i (j + 1) n rfl rfl h2 (by omega) (by omega) hc (by simp; omega) (by omega)
      refine ⟨cur', i', o, ?_, e2, e3, ?_⟩
      · rw [e1]; simp [hx, seqs]
      · rw [e4]; simp [hx]

theorem deleteX_e (s : Sender) (t : Int) (hL : s.Out.length ≤ 50000) : ∃ o, slices_DeleteFunc_api_Unacked_api_Unacked_2 s t = some (s.Out.filter (fun x => !pX s.Limit s.Life t x), { s with Out := o }, seqs (s.Out.filter (pX s.Limit s.Life t))) := by
  unfold slices_DeleteFunc_api_Unacked_api_Unacked_2 slices_IndexFunc_api_Unacked_api_Unacked_2
  have := indexX_loop s t (by omega) s.Out 0 big rfl (big_lt (by omega))
  simp only [Int.ofNat_zero, Int.natCast_zero] at this
  rw [this, bindS]
  cases hf : ff (pX s.Limit s.Life t) 0 s.Out with
  | none =>
    obtain ⟨h1, h2⟩ := ff_none hf
    refine ⟨s.Out, ?_⟩
    rw [h1, h2]
    rfl
  | some q =>
    obtain ⟨j, x⟩ := q
    obtain ⟨a, b, h1, h2, h3, h4⟩ := ff_some hf
    rw [Nat.zero_add] at h2
    subst h2
    obtain ⟨f1, f2⟩ := filter_pre h4
    simp only [Ex.k_ret', bindS]
    have hne : (((a.length : Nat) : Int) == -1) = false := by
      simp
    rw [hne, cond_false]
    have hlen : s.Out.length = a.length + (b.length + 1) := by rw [h1]; simp
    rw [wrapN (by omega)]
    have hd : s.Out.drop (a.length + 1) = b := by rw [h1]; simp
    obtain ⟨cur', i', o, e1, e2, e3, e4⟩ := delX_loop t s.Limit s.Life b s.Out s [x.Frame.Head.Seq] a.length (a.length + 1) big rfl rfl hd (by omega) (by omega) hL (by simp) (big_lt (by omega))
    refine ⟨o, ?_⟩
    rw [e1, bindS]
    have hc : chk (decide (0 ≤ ((i' : Nat) : Int)) && decide (((i' : Nat) : Int) ≤ (cur'.length : Int))) = some () := chk_t (by simp; omega)
    simp only [hc, bindS, show ((i' : Nat) : Int).toNat = i' by omega]
    have hta : s.Out.take a.length = a := by rw [h1]; simp
    rw [e4, hta]
    have g1 : s.Out.filter (fun x => !pX s.Limit s.Life t x) = a ++ b.filter (fun x => !pX s.Limit s.Life t x) := by
      conv => lhs; rw [h1]
      simp [f2, h3]
    have g2 : seqs (s.Out.filter (pX s.Limit s.Life t)) = [x.Frame.Head.Seq] ++ seqs (b.filter (pX s.Limit s.Life t)) := by
      conv => lhs; rw [h1]
      simp [f1, h3, seqs]
    rw [g1, g2]

def expN (s : Sender) (t : Int) : List Int := seqs (s.Out.filter (pX s.Limit s.Life t))
def expS (s : Sender) (t : Int) : Sender := { s with Bar := (s.Bar || (decide (0 < (((expN s t).length : Nat) : Int)))), Out := s.Out.filter (fun x => !pX s.Limit s.Life t x) }
theorem expire_e {s : Sender} (h : Fit s) (hl : s.Out.length ≤ 50000) (t : Int) : sender_Expire s t = some (if Valid s then (if 0 ≤ t ∧ t ≤ 1099511627776 then (if s.Phase = 2 then (expN s t, expS s t, 0) else ([], Sender.z, 20)) else ([], Sender.z, 2)) else ([], Sender.z, 8)) := by
  unfold sender_Expire
  simp only [sender_within, bindS]
  rw [open_e h]
  by_cases hv : Valid s
  · simp only [if_pos hv]
    by_cases hn : 0 ≤ t ∧ t ≤ 1099511627776
    · have e1 : (decide (0 ≤ t) && decide (t ≤ 1099511627776)) = true := by simp [hn]
      simp only [e1, if_true, if_pos hn]
      by_cases hp : s.Phase = 2
      · simp only [if_pos hp, bindS]
        obtain ⟨o, ho⟩ := deleteX_e s t hl
        unfold sender_remove_2
        rw [show ((0 : Int) != 0) = false from rfl, cond_false, ho]; rfl
      · simp only [if_neg hp]; rfl
    · have e1 : (decide (0 ≤ t) && decide (t ≤ 1099511627776)) = false := by
        simp only [Bool.and_eq_false_iff, decide_eq_false_iff_not]; omega
      simp only [e1, if_neg hn]; rfl
  · simp only [if_neg hv]; rfl
end Go.AX.Z.TS

/-! (TSA) -/

set_option linter.unusedVariables false
set_option linter.unusedSimpArgs false
namespace Go.AX.Z.TS
open Go.AX

/-! ## A step -/

abbrev Stp := Hotspotref19_Step
abbrev Tld := Hotspotref19_Told

/-- What a step that succeeds did. -/
inductive Did (s : Sender) (x : Stp) (t : Tld) (n : Sender) : Prop
  | ask (k : x.Kind = 0) (h1 : 1 ≤ x.N ∧ x.N ≤ 64) (h2 : s.Phase ≠ 2) (ht : t = { Hotspotref19_Told.z with Ask := askB s x.N }) (hn : n = (askS s x.N))
  | ans (k : x.Kind = 1) (h1 : s.Phase = 1) (h2 : x.A.Token = s.Token ∧ x.A.Tid = s.Tid) (h3 : ¬ (x.A.Status = 0 ∧ ¬ (1 ≤ x.A.Size ∧ x.A.Size ≤ s.Size))) (ht : t = Hotspotref19_Told.z) (hn : n = (ansS s x.A))
  | close (k : x.Kind = 2) (ht : t = { Hotspotref19_Told.z with Numbers := seqs s.Out }) (hn : n = (closeS s))
  | offer (k : x.Kind = 3) (h1 : 0 ≤ x.N ∧ x.N ≤ 1099511627776) (h2 : s.Phase = 2) (h3 : ¬ (s.Out ≠ [] ∧ x.N < lastAt s)) (h4 : ¬ s.Size ≤ dist (startOf s) s.Next) (ht : t = { Hotspotref19_Told.z with Frames := [offF s x.Frame] }) (hn : n = (offS s x.Frame x.N))
  | pick (k : x.Kind = 4) (h1 : 0 ≤ x.N) (h2 : s.Phase = 2) (ht : t = { Hotspotref19_Told.z with Frames := (pickR s.Limit x.N 0 s.Out).2 }) (hn : n = { s with Out := (pickR s.Limit x.N 0 s.Out).1 })
  | ack (k : x.Kind = 5) (h1 : okW x.W) (h2 : s.Phase = 2) (ht : t = { Hotspotref19_Told.z with Numbers := seqs (s.Out.filter (pA x.W)) }) (hn : n = (ackS s x.W))
  | lost (k : x.Kind = 6) (h2 : s.Phase = 2) (ht : t = Hotspotref19_Told.z) (hn : n = { s with Out := s.Out.map unfly })
  | expire (k : x.Kind = 7) (h1 : 0 ≤ x.N ∧ x.N ≤ 1099511627776) (h2 : s.Phase = 2) (ht : t = { Hotspotref19_Told.z with Numbers := expN s x.N }) (hn : n = (expS s x.N))
  | barred (k : x.Kind = 8) (h1 : s.Bar = true) (h2 : s.Phase = 2) (ht : t = Hotspotref19_Told.z) (hn : n = { s with Bar := false })

theorem fin_bad {s : Sender} {x : Stp} (t : Tld) (n : Sender) {e : Int} (he : e ≠ 0) : ∃ r : Tld × Sender × Int, some (t, n, e) = some r ∧ (r.2.2 = 0 → Valid s ∧ Did s x r.1 r.2.1) :=
  ⟨_, rfl, fun h => absurd h he⟩
theorem fin_ok {s : Sender} {x : Stp} {t : Tld} {n : Sender} (hv : Valid s) (h : Did s x t n) : ∃ r : Tld × Sender × Int, some (t, n, (0 : Int)) = some r ∧ (r.2.2 = 0 → Valid s ∧ Did s x r.1 r.2.1) :=
  ⟨_, rfl, fun _ => ⟨hv, h⟩⟩

theorem do_e {s : Sender} (h : Fit s) (hl : s.Out.length ≤ 40000) (x : Stp) (hb : x.Frame.Body.length ≤ 2400) :
    ∃ r, hotspotlaw19_do s x = some r ∧ (r.2.2 = 0 → Valid s ∧ Did s x r.1 r.2.1) := by
  unfold hotspotlaw19_do
  by_cases k0 : x.Kind = 0
  · simp only [k0, Int.reduceBEq, cond_true, cond_false, ask_e h, bindS]
    by_cases hv : Valid s
    · by_cases hn : 1 ≤ x.N ∧ x.N ≤ 64
      · by_cases hp : s.Phase = 2
        · simp only [if_pos hv, if_pos hn, if_pos hp]; exact fin_bad _ _ (by decide)
        · simp only [if_pos hv, if_pos hn, if_neg hp]; exact fin_ok hv (.ask k0 hn hp rfl rfl)
      · simp only [if_pos hv, if_neg hn]; exact fin_bad _ _ (by decide)
    · simp only [if_neg hv]; exact fin_bad _ _ (by decide)
  by_cases k1 : x.Kind = 1
  · simp only [k1, Int.reduceBEq, cond_true, cond_false, answer_e h, bindS]
    by_cases hv : Valid s
    · by_cases hp : s.Phase = 1
      · by_cases ht : x.A.Token = s.Token ∧ x.A.Tid = s.Tid
        · by_cases hz : x.A.Status = 0 ∧ ¬ (1 ≤ x.A.Size ∧ x.A.Size ≤ s.Size)
          · simp only [if_pos hv, if_pos hp, if_pos ht, if_pos hz]; exact fin_bad _ _ (by decide)
          · simp only [if_pos hv, if_pos hp, if_pos ht, if_neg hz]; exact fin_ok hv (.ans k1 hp ht hz rfl rfl)
        · simp only [if_pos hv, if_pos hp, if_neg ht]; exact fin_bad _ _ (by decide)
      · simp only [if_pos hv, if_neg hp]; exact fin_bad _ _ (by decide)
    · simp only [if_neg hv]; exact fin_bad _ _ (by decide)
  by_cases k2 : x.Kind = 2
  · simp only [k2, Int.reduceBEq, cond_true, cond_false, close_e h, bindS]
    by_cases hv : Valid s
    · simp only [if_pos hv]; exact fin_ok hv (.close k2 rfl rfl)
    · simp only [if_neg hv]; exact fin_bad _ _ (by decide)
  by_cases k3 : x.Kind = 3
  · simp only [k3, Int.reduceBEq, cond_true, cond_false, offer_e h x.Frame hb x.N (by omega), bindS]
    by_cases hv : Valid s
    · by_cases hn : 0 ≤ x.N ∧ x.N ≤ 1099511627776
      · by_cases hp : s.Phase = 2
        · by_cases hw : s.Out ≠ [] ∧ x.N < lastAt s
          · simp only [if_pos hv, if_pos hn, if_pos hp, if_pos hw]; exact fin_bad _ _ (by decide)
          · by_cases hz : s.Size ≤ dist (startOf s) s.Next
            · simp only [if_pos hv, if_pos hn, if_pos hp, if_neg hw, if_pos hz]; exact fin_bad _ _ (by decide)
            · simp only [if_pos hv, if_pos hn, if_pos hp, if_neg hw, if_neg hz]; exact fin_ok hv (.offer k3 hn hp hw hz rfl rfl)
        · simp only [if_pos hv, if_pos hn, if_neg hp]; exact fin_bad _ _ (by decide)
      · simp only [if_pos hv, if_neg hn]; exact fin_bad _ _ (by decide)
    · simp only [if_neg hv]; exact fin_bad _ _ (by decide)
  by_cases k4 : x.Kind = 4
  · simp only [k4, Int.reduceBEq, cond_true, cond_false, pick_e h, bindS]
    by_cases hv : Valid s
    · by_cases hn : 0 ≤ x.N
      · by_cases hp : s.Phase = 2
        · simp only [if_pos hv, if_pos hn, if_pos hp]; exact fin_ok hv (.pick k4 hn hp rfl rfl)
        · simp only [if_pos hv, if_pos hn, if_neg hp]; exact fin_bad _ _ (by decide)
      · simp only [if_pos hv, if_neg hn]; exact fin_bad _ _ (by decide)
    · simp only [if_neg hv]; exact fin_bad _ _ (by decide)
  by_cases k5 : x.Kind = 5
  · simp only [k5, Int.reduceBEq, cond_true, cond_false, acked_e h (by omega), bindS]
    by_cases hv : Valid s
    · by_cases hn : okW x.W
      · by_cases hp : s.Phase = 2
        · simp only [if_pos hv, if_pos hn, if_pos hp]; exact fin_ok hv (.ack k5 hn hp rfl rfl)
        · simp only [if_pos hv, if_pos hn, if_neg hp]; exact fin_bad _ _ (by decide)
      · simp only [if_pos hv, if_neg hn]; exact fin_bad _ _ (by decide)
    · simp only [if_neg hv]; exact fin_bad _ _ (by decide)
  by_cases k6 : x.Kind = 6
  · simp only [k6, Int.reduceBEq, cond_true, cond_false, lost_e h, bindS]
    by_cases hv : Valid s
    · by_cases hp : s.Phase = 2
      · simp only [if_pos hv, if_pos hp]; exact fin_ok hv (.lost k6 hp rfl rfl)
      · simp only [if_pos hv, if_neg hp]; exact fin_bad _ _ (by decide)
    · simp only [if_neg hv]; exact fin_bad _ _ (by decide)
  by_cases k7 : x.Kind = 7
  · simp only [k7, Int.reduceBEq, cond_true, cond_false, expire_e h (by omega), bindS]
    by_cases hv : Valid s
    · by_cases hn : 0 ≤ x.N ∧ x.N ≤ 1099511627776
      · by_cases hp : s.Phase = 2
        · simp only [if_pos hv, if_pos hn, if_pos hp]; exact fin_ok hv (.expire k7 hn hp rfl rfl)
        · simp only [if_pos hv, if_pos hn, if_neg hp]; exact fin_bad _ _ (by decide)
      · simp only [if_pos hv, if_neg hn]; exact fin_bad _ _ (by decide)
    · simp only [if_neg hv]; exact fin_bad _ _ (by decide)
  by_cases k8 : x.Kind = 8
  · simp only [k8, Int.reduceBEq, cond_true, cond_false, barred_e h, bindS]
    by_cases hv : Valid s
    · by_cases hp : s.Phase = 2
      · by_cases hb : s.Bar = true
        · simp only [if_pos hv, if_pos hp, if_pos hb]; exact fin_ok hv (.barred k8 hb hp rfl rfl)
        · simp only [if_pos hv, if_pos hp, if_neg hb]; exact fin_bad _ _ (by decide)
      · simp only [if_pos hv, if_neg hp]; exact fin_bad _ _ (by decide)
    · simp only [if_neg hv]; exact fin_bad _ _ (by decide)
  have e : ∀ k : Int, x.Kind ≠ k → (x.Kind == k) = false := fun k hk => by simpa using hk
  simp only [e _ k0, e _ k1, e _ k2, e _ k3, e _ k4, e _ k5, e _ k6, e _ k7, e _ k8, cond_false]
  exact fin_bad _ _ (by decide)

theorem pickR_len (lim k : Int) : ∀ (c : Nat) (l : List Unacked), (pickR lim k c l).1.length = l.length
  | _, [] => rfl
  | c, x :: l => by
    unfold pickR
    split
    · rfl
    · split
      · simp [pickR_len lim k c l]
      · simp [pickR_len lim k (c + 1) l]
theorem pickR_body (lim k : Int) : ∀ (c : Nat) (l : List Unacked), (∀ y ∈ l, y.Frame.Body.length ≤ 2400) → ∀ y ∈ (pickR lim k c l).1, y.Frame.Body.length ≤ 2400
  | _, [], _ => by simp [pickR]
  | c, x :: l, h => by
    unfold pickR
    have hx := h x (by simp)
    have hl : ∀ y ∈ l, y.Frame.Body.length ≤ 2400 := fun y hy => h y (by simp [hy])
    split
    · exact h
    · split
      · intro y hy
        rcases List.mem_cons.1 hy with rfl | hy
        · exact hx
        · exact pickR_body lim k c l hl y hy
      · intro y hy
        rcases List.mem_cons.1 hy with rfl | hy
        · exact hx
        · exact pickR_body lim k (c + 1) l hl y hy

theorem Did.fit {s : Sender} {x : Stp} {t : Tld} {n : Sender} (h : Did s x t n) (hs : ∀ y ∈ s.Out, y.Frame.Body.length ≤ 2400) (hb : x.Frame.Body.length ≤ 2400) :
    n.Out.length ≤ s.Out.length + 1 ∧ ∀ y ∈ n.Out, y.Frame.Body.length ≤ 2400 := by
  cases h with
  | ask _ _ _ ht hn => subst hn; exact ⟨Nat.le_succ _, hs⟩
  | ans _ _ _ _ ht hn =>
    subst hn
    have : (ansS s x.A).Out = s.Out := by unfold ansS; split <;> rfl
    rw [this]; exact ⟨Nat.le_succ _, hs⟩
  | close _ ht hn => subst hn; exact ⟨Nat.zero_le _, by simp [closeS]⟩
  | offer _ _ _ _ _ ht hn =>
    subst hn
    refine ⟨by simp [offS], fun y hy => ?_⟩
    simp only [offS, List.mem_append, List.mem_singleton] at hy
    rcases hy with hy | rfl
    · exact hs y hy
    · exact hb
  | pick _ _ _ ht hn => subst hn; exact ⟨by simp [pickR_len], pickR_body _ _ _ _ hs⟩
  | ack _ _ _ ht hn =>
    subst hn
    refine ⟨by simp only [ackS, List.length_map]; exact Nat.le_succ_of_le (List.length_filter_le _ _), fun y hy => ?_⟩
    simp only [ackS, List.mem_map] at hy
    obtain ⟨z, hz, rfl⟩ := hy
    exact hs z ((List.mem_filter.1 hz).1)
  | lost _ _ ht hn =>
    subst hn
    refine ⟨by simp, fun y hy => ?_⟩
    simp only [List.mem_map] at hy
    obtain ⟨z, hz, rfl⟩ := hy
    exact hs z hz
  | expire _ _ _ ht hn => subst hn; exact ⟨Nat.le_succ_of_le (List.length_filter_le _ _), fun y hy => hs y ((List.mem_filter.1 hy).1)⟩
  | barred _ _ _ ht hn => subst hn; exact ⟨Nat.le_succ _, hs⟩

/-! Great -/

theorem great_frame (f : Frame) : hotspotref05_Great f = some (decide (2400 < f.Body.length)) := by
  unfold hotspotref05_Great
  congr 1
  exact decide_eq_decide.2 (by omega)
theorem great_state (f : Frame) : hotspotref19_Great Sender.z f = some (decide (2400 < f.Body.length)) := by
  unfold hotspotref19_Great
  rw [show decide (70 < (Sender.z.Out.length : Int)) = false from rfl, cond_false, great_frame, bindS, bindS]
  cases h : decide (2400 < f.Body.length)
  · rw [cond_false, show big = 4611686018427387903 + 1 from rfl, hotspotref19_Great_L2]; rfl
  · rfl
theorem great_loop (L : List Stp) (hL : L.length ≤ 300) : ∀ (l : List Stp) (i n : Nat), L.drop i = l → l.length < n →
    ∃ o, hotspotlaw19_great_L2 L n (i : Int) = some o ∧ (o = Ex.ret true ∨ (o = Ex.go () ∧ ∀ x ∈ l, x.Frame.Body.length ≤ 2400))
  | [], i, n + 1, h, hn => by
    rw [hotspotlaw19_great_L2, ge_dec (drop_n h)]; exact ⟨_, rfl, .inr ⟨rfl, by simp⟩⟩
  | x :: l, i, n + 1, h, hn => by
    obtain ⟨h1, h2, h3⟩ := drop_c h
    rw [hotspotlaw19_great_L2, lt_dec h3]
    simp only [cond_true, idxN, h1, bindS, great_state]
    by_cases hx : 2400 < x.Frame.Body.length
    · rw [decide_eq_true hx]; exact ⟨_, rfl, .inl rfl⟩
    · rw [decide_eq_false hx, cond_false, wrapN (by omega)]
      obtain ⟨o, h4, h5⟩ := great_loop L hL l (i + 1) n h2 (by simpa using hn)
      refine ⟨o, h4, ?_⟩
      rcases h5 with h5 | ⟨h5, h6⟩
      · exact .inl h5
      · refine .inr ⟨h5, fun y hy => ?_⟩
        rcases List.mem_cons.1 hy with rfl | hy
        · omega
        · exact h6 y hy
theorem great_e (L : List Stp) : ∃ b, hotspotlaw19_great L = some b ∧ (b = false → L.length ≤ 300 ∧ ∀ x ∈ L, x.Frame.Body.length ≤ 2400) := by
  unfold hotspotlaw19_great
  by_cases h : 300 < L.length
  · rw [decide_eq_true (by omega)]; exact ⟨_, rfl, by simp⟩
  · rw [decide_eq_false (by omega), cond_false]
    obtain ⟨o, h1, h2⟩ := great_loop L (by omega) L 0 big rfl (big_lt (by omega))
    simp only [Int.ofNat_zero, Int.natCast_zero] at h1
    rw [h1, bindS]
    rcases h2 with rfl | ⟨rfl, h3⟩
    · exact ⟨_, rfl, by simp⟩
    · exact ⟨_, rfl, fun _ => ⟨by omega, h3⟩⟩

theorem alive_e : hotspotlaw19_alive = some true := by decide +kernel

/-! ## Agreements -/

structure Agr (tid : Int) (i : Nat) (s : Sender) (asked : BlockAsk) (op : Bool) : Prop where
  len : s.Out.length ≤ i
  body : ∀ y ∈ s.Out, y.Frame.Body.length ≤ 2400
  tid : s.Tid = tid
  tok : asked.Token = s.Token
  op : op = (s.Phase == 2)
  size : s.Phase = 1 → asked.Size = s.Size

theorem tok_e {s : Sender} (h : Valid s) : tok s = s.Token % 255 + 1 ∧ tok s ≠ s.Token := by
  obtain ⟨_, _, ⟨a, b⟩, _⟩ := h
  unfold tok
  rw [Int.tmod_eq_emod_of_nonneg a, wrapI (by omega) (by omega)]
  exact ⟨rfl, by omega⟩

theorem stay_e {x : Stp} {t : Tld} {s nx : Sender} {asked : BlockAsk} {op : Bool} {tid : Int} (q0 : x.Kind ≠ 0) (q1 : x.Kind ≠ 1) (q2 : x.Kind ≠ 2) (ho : op = true) (K : BlockAsk × Bool → Option (Ex Bool Unit)) (hK : K (asked, true) = some (Ex.go ())) :
    ((bif x.Kind == 0 then (bif (((op || (t.Ask.Token == asked.Token)) || (t.Ask.Start != s.Next)) || (t.Ask.Tid != tid)) then some (Ex.ret false) else some (Ex.go (t.Ask, op))) else bif x.Kind == 1 then (bif (((x.A.Token != asked.Token) || (x.A.Tid != tid)) || ((x.A.Status == 0) && ((decide (asked.Size < x.A.Size)) || (x.A.Size != nx.Size)))) then some (Ex.ret false) else some (Ex.go (asked, (x.A.Status == 0)))) else bif x.Kind == 2 then some (Ex.go (asked, false)) else bif (!op) then some (Ex.ret false) else some (Ex.go (asked, op)) : Option (Ex Bool (BlockAsk × Bool))).bind fun o31 => o31.kE K) = some (Ex.go ()) := by
  have e0 : (x.Kind == 0) = false := by simpa using q0
  have e1 : (x.Kind == 1) = false := by simpa using q1
  have e2 : (x.Kind == 2) = false := by simpa using q2
  rw [e0, e1, e2, ho]; exact hK

theorem agrees_loop (L : List Stp) (tid : Int) (hL : L.length ≤ 300) (hb : ∀ x ∈ L, x.Frame.Body.length ≤ 2400) : ∀ (l : List Stp) (i n : Nat) (s : Sender) (asked : BlockAsk) (op : Bool), L.drop i = l → l.length < n → Agr tid i s asked op →
    hotspotlaw19_SenderAgrees_L3 L tid n (s, asked, op, (i : Int)) = some (Ex.go ()) := by
  intro l
  induction l with
  | nil =>
    intro i n s asked op h hn hA
    obtain ⟨n, rfl⟩ : ∃ m, n = m + 1 := ⟨n - 1, by simp at hn; omega⟩
    rw [hotspotlaw19_SenderAgrees_L3, ge_dec (drop_n h)]; rfl
  | cons x l ih =>
    intro i n s asked op h hn hA
    obtain ⟨n, rfl⟩ : ∃ m, n = m + 1 := ⟨n - 1, by simp at hn; omega⟩
    obtain ⟨h1, h2, h3⟩ := drop_c h
    rw [hotspotlaw19_SenderAgrees_L3, lt_dec h3]
    have hx : x.Frame.Body.length ≤ 2400 := hb x (List.mem_of_getElem? h1)
    have hlen := hA.len
    obtain ⟨⟨t, nx, e⟩, hr, hd⟩ := do_e (s := s) ⟨by omega, hA.body⟩ (by omega) x hx
    simp only [cond_true, idxN, h1, bindS]
    rw [show ({ s with Out := s.Out } : Sender) = s from rfl, hr, bindS]
    by_cases he : e = 0
    · subst he
      obtain ⟨hv, hd⟩ := hd rfl
      obtain ⟨f1, f2⟩ := hd.fit hA.body hx
      have F1 : nx.Out.length ≤ i + 1 := Nat.le_trans f1 (by omega)
      have F2 : ∀ y ∈ nx.Out, y.Frame.Body.length ≤ 2400 := f2
      have HD : Did s x t nx := hd
      clear hd f1 f2
      have next : ∀ asked' op', Agr tid (i + 1) nx asked' op' → hotspotlaw19_SenderAgrees_L3 L tid n (nx, asked', op', IntKind.wrap .i64 ((i : Int) + 1)) = some (Ex.go ()) := by
        intro asked' op' hA'
        rw [wrapN (by omega)]
        exact ih (i + 1) n nx asked' op' h2 (by simpa using hn) hA'
      simp only [show ((0 : Int) != 0) = false from rfl, cond_false]
      have stay : x.Kind ≠ 0 → x.Kind ≠ 1 → x.Kind ≠ 2 → s.Phase = 2 → _ := fun q0 q1 q2 p1 => stay_e (tid := tid) (t := t) (s := s) (nx := nx) (asked := asked) q0 q1 q2 (show op = true by rw [hA.op]; simp [p1])
      have fin : s.Phase = 2 → nx.Phase = 2 → nx.Tid = s.Tid → nx.Token = s.Token → (bif (!((nx.Phase == 2) == true)) then some (Ex.ret false) else hotspotlaw19_SenderAgrees_L3 L tid n (nx, asked, true, IntKind.wrap .i64 ((i : Int) + 1))) = some (Ex.go ()) := by
        intro p0 p1 p2 p3
        rw [p1]
        exact next _ _ ⟨F1, F2, by rw [p2, hA.tid], by rw [p3, hA.tok], by simp [p1], fun q => by simp [p1] at q⟩
      cases HD with
      | ask k g1 g2 ht hn' =>
        subst ht; subst hn'
        have e0 : (x.Kind == 0) = true := by simpa using k
        have ho : op = false := by rw [hA.op]; simpa using g2
        have c1 : (((op || ((askB s x.N).Token == asked.Token)) || ((askB s x.N).Start != s.Next)) || ((askB s x.N).Tid != tid)) = false := by
          rw [ho, hA.tok]
          have := (tok_e hv).2
          simp [askB, hA.tid, this]
        simp only [e0, cond_true, c1, cond_false, bindS, Ex.kE_go']
        rw [show (!(((askS s x.N).Phase == 2) == op)) = false by rw [ho]; rfl, cond_false]
        exact next _ _ ⟨by simpa [askS] using Nat.le_succ_of_le hA.len, hA.body, hA.tid, rfl, by rw [ho]; rfl, fun _ => rfl⟩
      | ans k g1 g2 g3 ht hn' =>
        subst ht; subst hn'
        have e0 : (x.Kind == 0) = false := by rw [k]; rfl
        have e1 : (x.Kind == 1) = true := by rw [k]; rfl
        have c1 : (((x.A.Token != asked.Token) || (x.A.Tid != tid)) || ((x.A.Status == 0) && ((decide (asked.Size < x.A.Size)) || (x.A.Size != (ansS s x.A).Size)))) = false := by
          rw [hA.tok, g2.1, g2.2, hA.tid, hA.size g1]
          by_cases hs : x.A.Status = 0
          · have hz : 1 ≤ x.A.Size ∧ x.A.Size ≤ s.Size := Classical.byContradiction fun q => g3 ⟨hs, q⟩
            have : (ansS s x.A).Size = x.A.Size := by unfold ansS; rw [if_pos hs]
            rw [this]
            simp; omega
          · simp [hs]
        simp only [e0, e1, cond_true, c1, cond_false, bindS, Ex.kE_go']
        have hph : (ansS s x.A).Phase = if x.A.Status = 0 then 2 else 0 := by unfold ansS; split <;> rfl
        have c2 : (!(((ansS s x.A).Phase == 2) == (x.A.Status == 0))) = false := by
          rw [hph]
          by_cases hs : x.A.Status = 0
          · simp [hs]
          · rw [if_neg hs, show (x.A.Status == 0) = false by simpa using hs]; rfl
        rw [c2, cond_false]
        have ho : (ansS s x.A).Out = s.Out := by unfold ansS; split <;> rfl
        refine next _ _ ⟨by rw [ho]; exact Nat.le_succ_of_le hA.len, by rw [ho]; exact hA.body, ?_, ?_, ?_, ?_⟩
        · rw [← hA.tid]; unfold ansS; split <;> rfl
        · rw [hA.tok]; unfold ansS; split <;> rfl
        · rw [hph]
          by_cases hs : x.A.Status = 0
          · simp [hs]
          · rw [if_neg hs, show (x.A.Status == 0) = false by simpa using hs]; rfl
        · rw [hph]; intro hq; split at hq <;> simp at hq
      | close k ht hn' =>
        subst ht; subst hn'
        have e0 : (x.Kind == 0) = false := by rw [k]; rfl
        have e1 : (x.Kind == 1) = false := by rw [k]; rfl
        have e2 : (x.Kind == 2) = true := by rw [k]; rfl
        simp only [e0, e1, e2, cond_true, cond_false, bindS, Ex.kE_go']
        rw [show (!(((closeS s).Phase == 2) == false)) = false from rfl, cond_false]
        exact next _ _ ⟨Nat.zero_le _, by simp [closeS], hA.tid, hA.tok, rfl, by simp [closeS]⟩
      | offer k g1 g2 g3 g4 ht hn' =>
        subst ht; subst hn'
        refine stay (by rw [k]; decide) (by rw [k]; decide) (by rw [k]; decide) g2 _ ?_
        exact fin g2 g2 rfl rfl
      | pick k g1 g2 ht hn' =>
        subst ht; subst hn'
        refine stay (by rw [k]; decide) (by rw [k]; decide) (by rw [k]; decide) g2 _ ?_
        exact fin g2 g2 rfl rfl
      | ack k g1 g2 ht hn' =>
        subst ht; subst hn'
        refine stay (by rw [k]; decide) (by rw [k]; decide) (by rw [k]; decide) g2 _ ?_
        exact fin g2 g2 rfl rfl
      | lost k g2 ht hn' =>
        subst ht; subst hn'
        refine stay (by rw [k]; decide) (by rw [k]; decide) (by rw [k]; decide) g2 _ ?_
        exact fin g2 g2 rfl rfl
      | expire k g1 g2 ht hn' =>
        subst ht; subst hn'
        refine stay (by rw [k]; decide) (by rw [k]; decide) (by rw [k]; decide) g2 _ ?_
        exact fin g2 g2 rfl rfl
      | barred k g1 g2 ht hn' =>
        subst ht; subst hn'
        refine stay (by rw [k]; decide) (by rw [k]; decide) (by rw [k]; decide) g2 _ ?_
        exact fin g2 g2 rfl rfl
    · have : (e != 0) = true := by simpa using he
      simp only [this, cond_true]
      rw [wrapN (by omega)]
      exact ih (i + 1) n s asked op h2 (by simpa using hn) ⟨by omega, hA.body, hA.tid, hA.tok, hA.op, hA.size⟩

theorem agrees_e (a b c d : Int) (L : List Stp) : hotspotlaw19_SenderAgrees a b c d L = some true := by
  unfold hotspotlaw19_SenderAgrees
  rw [alive_e, bindS, new_e, bindS]
  by_cases hv : Valid (newS a b c d)
  · simp only [if_pos hv]
    obtain ⟨g, hg, hb⟩ := great_e L
    rw [show ((0 : Int) != 0) = false from rfl, cond_false, hg, bindS, bindS]
    cases g
    · obtain ⟨h1, h2⟩ := hb rfl
      have := agrees_loop L a h1 h2 L 0 big (newS a b c d) BlockAsk.z false rfl (big_lt (by omega)) ⟨Nat.zero_le _, by simp [newS, Sender.z], rfl, rfl, rfl, fun q => by simp [newS, Sender.z] at q⟩
      simp only [Int.ofNat_zero, Int.natCast_zero] at this
      rw [this]; rfl
    · rfl
  · simp only [if_neg hv]; rfl
end Go.AX.Z.TS

/-! (TSV) -/

set_option linter.unusedVariables false
set_option linter.unusedSimpArgs false
namespace Go.AX.Z.TS
open Go.AX

/-! ## States stay valid -/

def Good (lim : Int) (x : Unacked) : Prop := 0 ≤ x.Frame.Head.Seq ∧ x.Frame.Head.Seq ≤ 4095 ∧ 0 ≤ x.At ∧ x.At ≤ 1099511627776 ∧ 0 ≤ x.Tries ∧ x.Tries ≤ lim ∧ (x.Flying = true → x.Tries ≠ 0)
abbrev dq (st : Int) (x : Unacked) : Int := dist st x.Frame.Head.Seq
structure OkP (st dd lim : Int) (l : List Unacked) : Prop where
  good : ∀ x ∈ l, Good lim x
  dd : ∀ x ∈ l, dq st x < dd
  pw : l.Pairwise fun x y => dq st x < dq st y ∧ x.At ≤ y.At

theorem OkL.toP {st dd lim : Int} : ∀ {l : List Unacked} {last at' : Int}, 0 ≤ at' → OkL st dd lim last at' l → OkP st dd lim l ∧ ∀ x ∈ l, last < dq st x ∧ at' ≤ x.At
  | [], _, _, _, _ => ⟨⟨by simp, by simp, .nil⟩, by simp⟩
  | x :: l, last, at', h0, h => by
    obtain ⟨⟨a, b, c, d, e, f, g, k, m⟩, h2⟩ := h
    obtain ⟨h3, h4⟩ := OkL.toP (l := l) (show 0 ≤ x.At by omega) h2
    refine ⟨⟨?_, ?_, ?_⟩, ?_⟩
    · intro y hy
      rcases List.mem_cons.1 hy with rfl | hy
      · exact ⟨a, b, by omega, f, g, k, m⟩
      · exact h3.good y hy
    · intro y hy
      rcases List.mem_cons.1 hy with rfl | hy
      · exact d
      · exact h3.dd y hy
    · exact List.pairwise_cons.2 ⟨fun y hy => h4 y hy, h3.pw⟩
    · intro y hy
      rcases List.mem_cons.1 hy with rfl | hy
      · exact ⟨c, e⟩
      · have := h4 y hy; unfold dq at this ⊢; omega

theorem OkP.toL {st dd lim : Int} : ∀ {l : List Unacked} {last at' : Int}, OkP st dd lim l → (∀ x ∈ l, last < dq st x ∧ at' ≤ x.At) → OkL st dd lim last at' l
  | [], _, _, _, _ => trivial
  | x :: l, last, at', h, h2 => by
    obtain ⟨a, b, c, d, e, f, g⟩ := h.good x (by simp)
    have hx := h2 x (by simp)
    obtain ⟨p1, p2⟩ := List.pairwise_cons.1 h.pw
    exact ⟨⟨a, b, hx.1, h.dd x (by simp), hx.2, d, e, f, g⟩, OkP.toL ⟨fun y hy => h.good y (by simp [hy]), fun y hy => h.dd y (by simp [hy]), p2⟩ p1⟩

theorem dist_sub {a b c : Int} (h : dist a b ≤ dist a c) : dist b c = dist a c - dist a b := by unfold dist at *; omega
theorem dist_self (a : Int) : dist a a = 0 := by unfold dist; simp

theorem Valid.P {s : Sender} (h : Valid s) : OkP (startOf s) (dist (startOf s) s.Next) s.Limit s.Out := by
  obtain ⟨_, _, _, _, _, _, _, _, _, q⟩ := h
  exact (OkL.toP (by omega) q).1

/-- The same with other outstanding frames. -/
theorem valid_sub {s : Sender} (h : Valid s) (hp : s.Phase = 2) {l : List Unacked} (hl : OkP (startOf s) (dist (startOf s) s.Next) s.Limit l) (b : Bool) : Valid { s with Out := l, Bar := b } := by
  obtain ⟨a1, a2, a3, a4, a5, a6, a7, a8, a9, a10⟩ := h
  refine ⟨a1, a2, a3, a4, a5, a6, a7, fun hq => absurd hp hq, ?_, ?_⟩
  · cases l with
    | nil =>
      have e : startOf { s with Out := [], Bar := b } = s.Next := rfl
      rw [e, dist_self]
      have : s.Phase ≠ 0 := by omega
      rw [if_neg this] at a7
      show 0 ≤ s.Size
      omega
    | cons x l =>
      have e : startOf { s with Out := x :: l, Bar := b } = x.Frame.Head.Seq := rfl
      rw [e]
      have h1 := hl.dd x (by simp)
      show dist x.Frame.Head.Seq s.Next ≤ s.Size
      rw [dist_sub (a := startOf s) (by unfold dq at h1; omega)]
      have := dist_nn (startOf s) x.Frame.Head.Seq
      omega
  · cases l with
    | nil => exact trivial
    | cons x l =>
      have e : startOf { s with Out := x :: l, Bar := b } = x.Frame.Head.Seq := rfl
      rw [e]
      show OkL x.Frame.Head.Seq (dist x.Frame.Head.Seq s.Next) s.Limit (-1) 0 (x :: l)
      have hx := hl.dd x (by simp)
      obtain ⟨p1, p2⟩ := List.pairwise_cons.1 hl.pw
      have hle : ∀ y ∈ x :: l, dq (startOf s) x ≤ dq (startOf s) y := by
        intro y hy
        rcases List.mem_cons.1 hy with rfl | hy
        · exact Int.le_refl _
        · have := (p1 y hy).1; omega
      have sh : ∀ y ∈ x :: l, dq x.Frame.Head.Seq y = dq (startOf s) y - dq (startOf s) x := fun y hy => dist_sub (hle y hy)
      refine OkP.toL ⟨hl.good, fun y hy => ?_, ?_⟩ fun y hy => ⟨?_, (hl.good y hy).2.2.1⟩
      · rw [sh y hy, dist_sub (a := startOf s) (by unfold dq at hx; omega)]
        have := hl.dd y hy
        unfold dq at this ⊢; omega
      · refine List.Pairwise.imp_of_mem ?_ hl.pw
        intro y z hy hz hyz
        rw [sh y hy, sh z hz]
        exact ⟨by omega, hyz.2⟩
      · have := (dist_nn x.Frame.Head.Seq y.Frame.Head.Seq).1
        unfold dq; omega

theorem OkP.map {st dd lim : Int} {l : List Unacked} (h : OkP st dd lim l) (f : Unacked → Unacked) (h1 : ∀ x, (f x).Frame.Head.Seq = x.Frame.Head.Seq) (h2 : ∀ x, (f x).At = x.At) (h3 : ∀ x ∈ l, Good lim (f x)) : OkP st dd lim (l.map f) := by
  refine ⟨fun y hy => ?_, fun y hy => ?_, ?_⟩
  · obtain ⟨x, hx, rfl⟩ := List.mem_map.1 hy; exact h3 x hx
  · obtain ⟨x, hx, rfl⟩ := List.mem_map.1 hy
    have := h.dd x hx
    unfold dq at this ⊢; rw [h1]; exact this
  · refine List.pairwise_map.2 (h.pw.imp fun {x y} hxy => ?_)
    unfold dq at hxy ⊢
    rw [h1, h1, h2, h2]; exact hxy
theorem OkP.filter {st dd lim : Int} {l : List Unacked} (h : OkP st dd lim l) (p : Unacked → Bool) : OkP st dd lim (l.filter p) :=
  ⟨fun y hy => h.good y (List.mem_filter.1 hy).1, fun y hy => h.dd y (List.mem_filter.1 hy).1, h.pw.filter p⟩

theorem good_unfly {lim : Int} {x : Unacked} (h : Good lim x) : Good lim (unfly x) :=
  ⟨h.1, h.2.1, h.2.2.1, h.2.2.2.1, h.2.2.2.2.1, h.2.2.2.2.2.1, fun q => by simp [unfly] at q⟩

/-- What Pick does to each. -/
theorem pickR_rel (lim k : Int) : ∀ (c : Nat) (l : List Unacked), (∀ x ∈ l, Good lim x) → lim ≤ 16 →
    F2 (fun x y => y.Frame.Head.Seq = x.Frame.Head.Seq ∧ y.At = x.At ∧ Good lim y) l (pickR lim k c l).1
  | _, [], _, _ => .nil
  | c, x :: l, h, hl => by
    have hx := h x (by simp)
    have ht : ∀ y ∈ l, Good lim y := fun y hy => h y (by simp [hy])
    have self : ∀ (m : List Unacked), (∀ y ∈ m, Good lim y) → F2 (fun x y => y.Frame.Head.Seq = x.Frame.Head.Seq ∧ y.At = x.At ∧ Good lim y) m m := by
      intro m
      induction m with
      | nil => intro _; exact .nil
      | cons z m ih => intro hm; exact .cons ⟨rfl, rfl, hm z (by simp)⟩ (ih fun y hy => hm y (by simp [hy]))
    unfold pickR
    split
    · exact self _ h
    · split
      · exact .cons ⟨rfl, rfl, hx⟩ (pickR_rel lim k c l ht hl)
      · rename_i h1 h2
        refine .cons ⟨rfl, rfl, ?_⟩ (pickR_rel lim k (c + 1) l ht hl)
        obtain ⟨a, b, c', d, e, f, g⟩ := hx
        have hne : x.Tries ≠ lim := by
          intro q
          apply h2
          simp [q]
        refine ⟨a, b, c', d, ?_, ?_, ?_⟩
        all_goals (simp only; rw [wrapI (by omega) (by omega)]; omega)

theorem F2_key {st lim : Int} {x y : Unacked} {l m : List Unacked} (hxy : y.Frame.Head.Seq = x.Frame.Head.Seq ∧ y.At = x.At ∧ Good lim y) (p1 : ∀ z ∈ l, dq st x < dq st z ∧ x.At ≤ z.At)
    (t : F2 (fun x y => y.Frame.Head.Seq = x.Frame.Head.Seq ∧ y.At = x.At ∧ Good lim y) l m) : ∀ z ∈ m, dq st y < dq st z ∧ y.At ≤ z.At := by
  induction t with
  | nil => simp
  | @cons a b l m hab t ih =>
    intro z hz
    rcases List.mem_cons.1 hz with rfl | hz
    · have := p1 a (by simp)
      unfold dq at this ⊢
      rw [hxy.1, hab.1, hxy.2.1, hab.2.1]; exact this
    · exact ih (fun w hw => p1 w (by simp [hw])) z hz

theorem OkP.rel {st dd lim : Int} {l m : List Unacked} (h : OkP st dd lim l) (hm : F2 (fun x y => y.Frame.Head.Seq = x.Frame.Head.Seq ∧ y.At = x.At ∧ Good lim y) l m) : OkP st dd lim m := by
  induction hm with
  | nil => exact h
  | @cons x y l m hxy t ih =>
    obtain ⟨p1, p2⟩ := List.pairwise_cons.1 h.pw
    have ih := ih ⟨fun z hz => h.good z (by simp [hz]), fun z hz => h.dd z (by simp [hz]), p2⟩
    have key := F2_key hxy p1 t
    have hd : dq st y < dd := by
      have := h.dd x (by simp)
      unfold dq at this ⊢; rw [hxy.1]; exact this
    refine ⟨fun z hz => ?_, fun z hz => ?_, List.pairwise_cons.2 ⟨key, ih.pw⟩⟩
    · rcases List.mem_cons.1 hz with rfl | hz
      · exact hxy.2.2
      · exact ih.good z hz
    · rcases List.mem_cons.1 hz with rfl | hz
      · exact hd
      · exact ih.dd z hz

theorem valid_idle {s : Sender} (h : Valid s) (hp : s.Phase ≠ 2) : s.Out = [] ∧ s.Bar = false := by
  obtain ⟨_, _, _, _, _, _, _, a8, _⟩ := h
  exact a8 hp

theorem last_le {s : Sender} (h : OkP (startOf s) (dist (startOf s) s.Next) s.Limit s.Out) {n : Int} (hn : ¬ (s.Out ≠ [] ∧ n < lastAt s)) : ∀ x ∈ s.Out, x.At ≤ n := by
  intro x hx
  have hne : s.Out ≠ [] := by intro q; rw [q] at hx; cases hx
  have h1 : lastAt s ≤ n := by
    apply Int.not_lt.1
    intro q; exact hn ⟨hne, q⟩
  have h2 : s.Out.getLast? = some (s.Out.getLast hne) := List.getLast?_eq_some_getLast hne
  have h3 : lastAt s = (s.Out.getLast hne).At := by unfold lastAt; rw [h2]
  have h4 : x.At ≤ (s.Out.getLast hne).At := by
    have e : s.Out = s.Out.dropLast ++ [s.Out.getLast hne] := (List.dropLast_concat_getLast hne).symm
    have pw := h.pw
    rw [e] at hx pw
    rcases List.mem_append.1 hx with hx | hx
    · exact ((List.pairwise_append.1 pw).2.2 x hx _ (by simp)).2
    · simp at hx; rw [hx]; exact Int.le_refl _
  omega

theorem startOf_off {s : Sender} (f : Frame) (n : Int) : startOf (offS s f n) = startOf s := by
  unfold startOf offS
  cases s.Out <;> rfl

theorem Did.valid {s : Sender} {x : Stp} {t : Tld} {n : Sender} (h : Did s x t n) (hv : Valid s) : Valid n := by
  have hP := hv.P
  obtain ⟨a1, a2, a3, a4, a5, a6, a7, a8, a9, a10⟩ := hv
  have hv : Valid s := ⟨a1, a2, a3, a4, a5, a6, a7, a8, a9, a10⟩
  cases h with
  | ask k g1 g2 ht hn =>
    subst hn
    obtain ⟨o1, o2⟩ := a8 g2
    have ht := (tok_e hv).1
    have e : startOf (askS s x.N) = s.Next := by unfold startOf askS; simp only [o1]
    refine ⟨a1, by show (1 : Int) ≤ 2; decide, ?_, a4, a5, a6, ?_, fun _ => ⟨o1, o2⟩, ?_, ?_⟩
    · show 0 ≤ tok s ∧ tok s ≤ 255; rw [ht]; omega
    · show (if (1 : Int) = 0 then x.N = 0 else 1 ≤ x.N ∧ x.N ≤ 64)
      rw [if_neg (by decide)]; exact g1
    · rw [e]; show dist s.Next s.Next ≤ x.N; rw [dist_self]; omega
    · show OkL _ _ _ (-1) 0 s.Out; rw [o1]; exact trivial
  | ans k g1 g2 g3 ht hn =>
    subst hn
    obtain ⟨o1, o2⟩ := a8 (by omega)
    rw [if_neg (show ¬ s.Phase = 0 by omega)] at a7
    unfold ansS
    by_cases hs : x.A.Status = 0
    · rw [if_pos hs]
      have hz : 1 ≤ x.A.Size ∧ x.A.Size ≤ s.Size := Classical.byContradiction fun q => g3 ⟨hs, q⟩
      have e : startOf { s with Phase := 2, Size := x.A.Size } = s.Next := by unfold startOf; simp only [o1]
      refine ⟨a1, by show (2 : Int) ≤ 2; decide, a3, a4, a5, a6, ?_, fun q => absurd rfl q, ?_, ?_⟩
      · show (if (2 : Int) = 0 then x.A.Size = 0 else 1 ≤ x.A.Size ∧ x.A.Size ≤ 64)
        rw [if_neg (by decide)]; omega
      · rw [e]; show dist s.Next s.Next ≤ x.A.Size; rw [dist_self]; omega
      · show OkL _ _ _ (-1) 0 s.Out; rw [o1]; exact trivial
    · rw [if_neg hs]
      have e : startOf { s with Phase := 0, Size := 0 } = s.Next := by unfold startOf; simp only [o1]
      refine ⟨a1, by show (0 : Int) ≤ 2; decide, a3, a4, a5, a6, ?_, fun q => ⟨o1, o2⟩, ?_, ?_⟩
      · show (if (0 : Int) = 0 then (0 : Int) = 0 else _)
        rw [if_pos rfl]
      · rw [e]; show dist s.Next s.Next ≤ 0; rw [dist_self]; exact Int.le_refl _
      · show OkL _ _ _ (-1) 0 s.Out; rw [o1]; exact trivial
  | close k ht hn =>
    subst hn
    refine ⟨a1, by show (0 : Int) ≤ 2; decide, a3, a4, a5, a6, ?_, fun q => ⟨rfl, rfl⟩, ?_, trivial⟩
    · show (if (0 : Int) = 0 then (0 : Int) = 0 else _)
      rw [if_pos rfl]
    · show dist s.Next s.Next ≤ 0; rw [dist_self]; exact Int.le_refl _
  | offer k g1 g2 g3 g4 ht hn =>
    subst hn
    rw [if_neg (show ¬ s.Phase = 0 by omega)] at a7
    have dn := dist_nn (startOf s) s.Next
    have e : dist (startOf s) ((s.Next + 1) % 4096) = dist (startOf s) s.Next + 1 := by
      have : dist (startOf s) s.Next < 4095 := by omega
      unfold dist at this ⊢; omega
    have hle := last_le hP g3
    refine ⟨a1, a2, a3, by show 0 ≤ (s.Next + 1) % 4096 ∧ (s.Next + 1) % 4096 ≤ 4095; omega, a5, a6, by rw [show (offS s x.Frame x.N).Phase = s.Phase from rfl, if_neg (show ¬ s.Phase = 0 by omega)]; exact a7, fun q => absurd g2 q, ?_, ?_⟩
    · rw [startOf_off]
      show dist (startOf s) ((s.Next + 1) % 4096) ≤ s.Size
      rw [e]; omega
    · rw [startOf_off]
      show OkL (startOf s) (dist (startOf s) ((s.Next + 1) % 4096)) s.Limit (-1) 0 (s.Out ++ [{ Unacked.z with At := x.N, Frame := offF s x.Frame }])
      rw [e]
      have gn : Good s.Limit { Unacked.z with At := x.N, Frame := offF s x.Frame } := ⟨a4.1, a4.2, g1.1, g1.2, Int.le_refl _, by show (0 : Int) ≤ s.Limit; omega, fun q => by cases q⟩
      refine OkP.toL ⟨fun y hy => ?_, fun y hy => ?_, ?_⟩ fun y hy => ⟨?_, ?_⟩
      · rcases List.mem_append.1 hy with hy | hy
        · exact hP.good y hy
        · simp at hy; subst hy; exact gn
      · rcases List.mem_append.1 hy with hy | hy
        · have := hP.dd y hy; omega
        · simp at hy; subst hy; show dist (startOf s) s.Next < _; omega
      · refine List.pairwise_append.2 ⟨hP.pw, List.pairwise_singleton _ _, fun y hy z hz => ?_⟩
        simp at hz; subst hz
        exact ⟨hP.dd y hy, hle y hy⟩
      · have := (dist_nn (startOf s) y.Frame.Head.Seq).1; unfold dq; omega
      · rcases List.mem_append.1 hy with hy | hy
        · exact (hP.good y hy).2.2.1
        · simp at hy; subst hy; exact g1.1
  | pick k g1 g2 ht hn => subst hn; exact valid_sub hv g2 (hP.rel (pickR_rel _ _ _ _ hP.good (by omega))) s.Bar
  | ack k g1 g2 ht hn =>
    subst hn
    exact valid_sub hv g2 ((hP.filter _).map unfly (fun _ => rfl) (fun _ => rfl) fun y hy => good_unfly ((hP.filter _).good y hy)) s.Bar
  | lost k g2 ht hn =>
    subst hn
    exact valid_sub hv g2 (hP.map unfly (fun _ => rfl) (fun _ => rfl) fun y hy => good_unfly (hP.good y hy)) s.Bar
  | expire k g1 g2 ht hn => subst hn; exact valid_sub hv g2 (hP.filter _) _
  | barred k g1 g2 ht hn => subst hn; exact valid_sub hv g2 hP false
end Go.AX.Z.TS

/-! (TSZ) -/

set_option linter.unusedVariables false
set_option linter.unusedSimpArgs false
namespace Go.AX.Z.TS
open Go.AX

/-! ## Without losses -/

/-- Frames with numbers from b on that were not sent yet. -/
def Fresh : Int → List Unacked → Prop
  | _, [] => True
  | b, x :: l => (x.Frame.Head.Seq = b % 4096 ∧ x.Tries = 0 ∧ x.Flying = false) ∧ Fresh (b + 1) l

theorem Fresh.app : ∀ {l : List Unacked} {b : Int} {x : Unacked}, Fresh b l → x.Frame.Head.Seq = (b + l.length) % 4096 → x.Tries = 0 → x.Flying = false → Fresh b (l ++ [x])
  | [], b, x, _, h1, h2, h3 => ⟨⟨by simpa using h1, h2, h3⟩, trivial⟩
  | y :: l, b, x, h, h1, h2, h3 => ⟨h.1, Fresh.app h.2 (by rw [h1]; simp only [List.length_cons]; congr 1; omega) h2 h3⟩
theorem Fresh.drop : ∀ {l : List Unacked} {b : Int} (n : Nat), Fresh b l → n ≤ l.length → Fresh (b + n) (l.drop n)
  | l, b, 0, h, _ => by simpa using h
  | x :: l, b, n + 1, h, hn => by
    have := Fresh.drop (l := l) n h.2 (by simpa using hn)
    rw [List.drop_succ_cons]
    rw [show b + ((n + 1 : Nat) : Int) = b + 1 + (n : Int) by omega]; exact this
theorem Fresh.tries : ∀ {l : List Unacked} {b : Int}, Fresh b l → ∀ x ∈ l, x.Tries = 0 ∧ x.Flying = false
  | [], _, _, x, hx => by cases hx
  | y :: l, b, h, x, hx => by
    rcases List.mem_cons.1 hx with rfl | hx
    · exact h.1.2
    · exact Fresh.tries h.2 x hx

def mark1 (x : Unacked) : Unacked := { x with Tries := 1, Flying := true }
def fr1 (x : Unacked) : Frame := { x.Frame with Head := { x.Frame.Head with Retry := false } }

theorem pick_fresh (k : Int) : ∀ (l : List Unacked) (b : Int) (c m : Nat), Fresh b l → ((c + m : Nat) : Int) ≤ k → (((c + m : Nat) : Int) = k ∨ m = l.length) → m ≤ l.length →
    pickR 1 k c l = ((l.take m).map mark1 ++ l.drop m, (l.take m).map fr1)
  | [], b, c, m, h, h1, h2, h3 => by
    have : m = 0 := by simpa using h3
    subst this; rfl
  | x :: l, b, c, m, h, h1, h2, h3 => by
    obtain ⟨⟨a1, a2, a3⟩, a4⟩ := h
    unfold pickR
    by_cases hk : (c : Int) = k
    · have : m = 0 := by omega
      subst this
      rw [if_pos hk]; rfl
    · rw [if_neg hk, a2, a3]
      obtain ⟨m, rfl⟩ : ∃ q, m = q + 1 := ⟨m - 1, by
        rcases h2 with h2 | h2
        · omega
        · simp at h2; omega⟩
      have ih := pick_fresh k l (b + 1) (c + 1) m a4 (by omega) (by
        rcases h2 with h2 | h2
        · exact .inl (by omega)
        · exact .inr (by simpa using h2)) (by simpa using h3)
      rw [if_neg (by decide)]
      rw [ih]
      rfl

theorem or_step : ∀ j : Fin 64, IntKind.wrap .u64 ((BitVec.ofInt 64 ((2 : Int) ^ j.val - 1) ||| BitVec.ofInt 64 (IntKind.wrap .u64 (1 * 2 ^ (min ((j.val : Nat) : Int).toNat 64)))).toNat : Int) = (2 : Int) ^ (j.val + 1) - 1 := by decide +kernel
theorem bit_in : ∀ j : Fin 65, ∀ d : Fin 64, d.val < j.val → ((IntKind.wrap .u64 ((BitVec.ofInt 64 (((2 : Int) ^ j.val - 1).fdiv (2 ^ (min ((d.val : Nat) : Int).toNat 64))) &&& BitVec.ofInt 64 1).toNat : Int)) == 1) = true := by decide +kernel

theorem mark_e (w : Window) (h : okW w) (n : Int) (hn : 0 ≤ n ∧ n < 4096) (j : Nat) (hj : j < 64) (hd : dist w.Start n = j) (hb : w.Bits = (2 : Int) ^ j - 1) : window_Mark w n = some ({ w with Bits := (2 : Int) ^ (j + 1) - 1 }, 0) := by
  unfold window_Mark window_check
  rw [wcheck_e, bindS, if_pos h]
  unfold window_number
  rw [show ((0 : Int) != 0) = false from rfl, cond_false, bindS, show (decide (0 ≤ n) && decide (n < 4096)) = true by simpa using hn]
  simp only [Bool.not_true, cond_false, bindS]
  rw [show ((0 : Int) != 0) = false from rfl, cond_false, dist_e, bindS, hd, decide_eq_false (by omega), cond_false, chk_d (by omega), bindS, hb]
  rw [or_step ⟨j, hj⟩]

theorem L12_e (x : List Frame × Sender × Int) (st : Int) (hst : 0 ≤ st ∧ st < 4096) (hl : x.1.length ≤ 64) (hf : ∀ (j : Nat) (f : Frame), x.1[j]? = some f → f.Head.Seq = (st + j) % 4096) : ∀ (l : List Frame) (i n : Nat), x.1.drop i = l → l.length < n → i ≤ x.1.length →
    hotspotlaw19_SenderWhole_L12 x n (⟨st, (2 : Int) ^ i - 1⟩, 0, (i : Int)) = some (⟨st, (2 : Int) ^ x.1.length - 1⟩, 0) := by
  intro l
  induction l with
  | nil =>
    intro i n h hn hi
    obtain ⟨n, rfl⟩ : ∃ m, n = m + 1 := ⟨n - 1, by simp at hn; omega⟩
    have := drop_n h
    have e : i = x.1.length := by omega
    subst e
    rw [hotspotlaw19_SenderWhole_L12, ge_dec (Nat.le_refl _)]; rfl
  | cons f l ih =>
    intro i n h hn hi
    obtain ⟨n, rfl⟩ : ∃ m, n = m + 1 := ⟨n - 1, by simp at hn; omega⟩
    obtain ⟨h1, h2, h3⟩ := drop_c h
    simp only [List.length_cons] at hn
    rw [hotspotlaw19_SenderWhole_L12, lt_dec h3]
    have hs := hf i f h1
    simp only [show ((0 : Int) == 0) = true from rfl, Bool.true_and, cond_true, idxN, h1, bindS]
    rw [mark_e ⟨st, (2 : Int) ^ i - 1⟩ hst f.Head.Seq (by omega) i (by omega) (by show dist st f.Head.Seq = _; rw [hs]; unfold dist; omega) rfl, bindS, wrapN (by omega)]
    exact ih (i + 1) n h2 (by omega) (by omega)

structure Wh (start size many : Int) (dn rd : Nat) (s : Sender) (off : Int) : Prop where
  valid : Valid s
  phase : s.Phase = 2
  size : s.Size = size
  limit : s.Limit = 1
  life : s.Life = 1073741824
  bar : s.Bar = false
  fresh : Fresh (start + dn) s.Out
  next : s.Next = (start + off) % 4096
  offe : off = dn + s.Out.length
  le : off ≤ many
  at_ : ∀ x ∈ s.Out, 0 ≤ x.At ∧ x.At ≤ rd
  body : ∀ x ∈ s.Out, x.Frame.Body.length ≤ 2400

theorem Wh.startE {start size many : Int} {dn rd : Nat} {s : Sender} {off : Int} (h : Wh start size many dn rd s off) : startOf s = (start + dn) % 4096 := by
  unfold startOf
  have := h.fresh
  cases ho : s.Out with
  | nil => simp only; rw [h.next, h.offe, ho]; simp
  | cons x l => rw [ho] at this; exact this.1.1
theorem Wh.distE {start size many : Int} {dn rd : Nat} {s : Sender} {off : Int} (h : Wh start size many dn rd s off) (hm : many ≤ 300) : dist (startOf s) s.Next = s.Out.length := by
  have e := h.offe
  have := h.le
  rw [h.startE, h.next]
  unfold Go.AX.dist
  omega
theorem Wh.len {start size many : Int} {dn rd : Nat} {s : Sender} {off : Int} (h : Wh start size many dn rd s off) (hm : many ≤ 300) : (s.Out.length : Int) ≤ size ∧ size ≤ 64 := by
  have e := h.distE hm
  obtain ⟨_, _, _, _, _, _, a7, _, a9, _⟩ := h.valid
  rw [if_neg (by rw [h.phase]; decide), h.size] at a7
  rw [e, h.size] at a9
  exact ⟨a9, a7.2⟩

theorem lastAt_le {s : Sender} {n : Int} (h : ∀ x ∈ s.Out, x.At ≤ n) : ¬ (s.Out ≠ [] ∧ n < lastAt s) := by
  rintro ⟨h1, h2⟩
  have e : s.Out.getLast? = some (s.Out.getLast h1) := List.getLast?_eq_some_getLast h1
  unfold lastAt at h2
  rw [e] at h2
  have := h _ (List.getLast_mem h1)
  simp only at h2
  omega

theorem L7_e (start size many : Int) (hm : many ≤ 300) (dn rd : Nat) (hr : rd ≤ 1000) (d36 : Sender × Int × Int × Int) (hd : d36.2.2.2 = rd) : ∀ (m : Nat) (s : Sender) (off : Int) (n : Nat), Wh start size many dn rd s off → (many - off).toNat ≤ m → m < n →
    ∃ s' off', hotspotlaw19_SenderWhole_L7 many d36 n (s, off) = some (Ex.go (s', off')) ∧ Wh start size many dn rd s' off' ∧ (off' = many ∨ (s'.Out.length : Int) = size) := by
  intro m
  induction m with
  | zero =>
    intro s off n h h1 h2
    obtain ⟨n, rfl⟩ : ∃ m, n = m + 1 := ⟨n - 1, by omega⟩
    have := h.le
    rw [hotspotlaw19_SenderWhole_L7, decide_eq_false (by simp only; omega)]
    exact ⟨s, off, rfl, h, .inl (by omega)⟩
  | succ m ih =>
    intro s off n h h1 h2
    obtain ⟨n, rfl⟩ : ∃ m, n = m + 1 := ⟨n - 1, by omega⟩
    rw [hotspotlaw19_SenderWhole_L7]
    by_cases ho : off < many
    · rw [decide_eq_true ho, cond_true, hd]
      have hl := h.len hm
      have hnl := lastAt_le (s := s) (n := rd) (fun x hx => (h.at_ x hx).2)
      show ∃ s' off', ((sender_Offer s Frame.z (rd : Int)).bind _) = _ ∧ _
      rw [offer_e ⟨by omega, h.body⟩ Frame.z (by simp [Frame.z]) (rd : Int) (by omega), if_pos h.valid, if_pos (by omega), if_pos h.phase, if_neg hnl]
      by_cases hz : s.Size ≤ dist (startOf s) s.Next
      · rw [if_pos hz, bindS]
        rw [h.distE hm, h.size] at hz
        exact ⟨s, off, rfl, h, .inr (by omega)⟩
      · rw [if_neg hz, bindS]
        simp only [show ((0 : Int) == 22) = false from rfl, show ((0 : Int) != 0) = false from rfl, cond_false]
        have hoff := h.offe
        rw [wrapI (by omega) (by omega)]
        have hd' : Did s { Hotspotref19_Step.z with Kind := 3, N := (rd : Int) } { Hotspotref19_Told.z with Frames := [offF s Frame.z] } (offS s Frame.z (rd : Int)) := .offer rfl (by show (0 : Int) ≤ (rd : Int) ∧ (rd : Int) ≤ _; omega) h.phase hnl hz rfl rfl
        have hnx := h.next
        refine ih (offS s Frame.z (rd : Int)) (off + 1) n ⟨hd'.valid h.valid, h.phase, h.size, h.limit, h.life, h.bar, ?_, ?_, ?_, by omega, ?_, ?_⟩ (by omega) (by omega)
        · refine Fresh.app h.fresh ?_ rfl rfl
          show s.Next = _
          rw [hnx, hoff]; congr 1; omega
        · show (s.Next + 1) % 4096 = _
          rw [hnx]; omega
        · show off + 1 = dn + ((s.Out ++ [_]).length : Nat)
          rw [hoff]; simp; omega
        · intro x hx
          rcases List.mem_append.1 hx with hx | hx
          · exact h.at_ x hx
          · simp at hx; subst hx; exact ⟨Int.natCast_nonneg _, Int.le_refl _⟩
        · intro x hx
          rcases List.mem_append.1 hx with hx | hx
          · exact h.body x hx
          · simp at hx; subst hx; exact Nat.zero_le _
    · rw [decide_eq_false ho]
      exact ⟨s, off, rfl, h, .inl (by have := h.le; omega)⟩

theorem L16w_e (x : List Int × Sender × Int) (start : Int) (hl : x.1.length ≤ 100) : ∀ (l : List Int) (dn i n : Nat), x.1.drop i = l → l.length < n → dn + l.length ≤ 1000 → (∀ (j : Nat) (v : Int), l[j]? = some v → v = (start + ((dn + j : Nat) : Int)) % 4096) →
    hotspotlaw19_SenderWhole_L16 x start n ((dn : Int), (i : Int)) = some (Ex.go ((dn + l.length : Nat) : Int)) := by
  intro l
  induction l with
  | nil =>
    intro dn i n h hn hd hv
    obtain ⟨n, rfl⟩ : ∃ m, n = m + 1 := ⟨n - 1, by simp at hn; omega⟩
    rw [hotspotlaw19_SenderWhole_L16, ge_dec (drop_n h)]; rfl
  | cons v l ih =>
    intro dn i n h hn hd hv
    obtain ⟨n, rfl⟩ : ∃ m, n = m + 1 := ⟨n - 1, by simp at hn; omega⟩
    obtain ⟨h1, h2, h3⟩ := drop_c h
    simp only [List.length_cons] at hn
    rw [hotspotlaw19_SenderWhole_L16, lt_dec h3]
    have hv0 := hv 0 v rfl
    simp only [cond_true, idxN, h1, bindS, add_e]
    simp only [List.length_cons] at hd
    rw [show (v != (start + (dn : Int)) % 4096) = false by simpa using hv0, cond_false, wrapN (by omega), wrapN (by omega)]
    have := ih (dn + 1) (i + 1) n h2 (by omega) (by omega) (fun j w hw => by
      have := hv (j + 1) w (by simpa using hw)
      rw [this]; congr 2; omega)
    rw [this]
    simp only [List.length_cons]
    congr 2; omega

theorem answer_ok {s : Sender} {a : BlockAnswer} (h : Fit s) (hv : Valid s) (hp : s.Phase = 1) (h1 : a.Token = s.Token) (h2 : a.Tid = s.Tid) (h3 : ¬ (a.Status = 0 ∧ ¬ (1 ≤ a.Size ∧ a.Size ≤ s.Size))) : sender_Answer s a = some (ansS s a, 0) := by
  rw [answer_e h, if_pos hv, if_pos hp, if_pos ⟨h1, h2⟩, if_neg h3]

theorem opened_e (start size : Int) (h1 : 0 ≤ start ∧ start ≤ 4095) (h2 : 1 ≤ size ∧ size ≤ 64) : ∃ s, hotspotlaw19_opened 2 start 1 1073741824 size = some (s, true) ∧ ∀ many, 0 ≤ many → Wh start size many 0 0 s 0 := by
  unfold hotspotlaw19_opened
  have v1 : Valid (newS 2 start 1 1073741824) := by
    refine ⟨by show (0 : Int) ≤ 2 ∧ (2 : Int) ≤ 7; decide, by show (0 : Int) ≤ 2; decide, by show (0 : Int) ≤ 0 ∧ (0 : Int) ≤ 255; decide, h1, by show (1 : Int) ≤ 1 ∧ (1 : Int) ≤ 16; decide, by show (1 : Int) ≤ 1073741824 ∧ (1073741824 : Int) ≤ 1073741824; decide, rfl, fun _ => ⟨rfl, rfl⟩, ?_, trivial⟩
    show dist start start ≤ 0
    rw [dist_self]; exact Int.le_refl _
  have f1 := newS_fit 2 start 1 1073741824
  have d2 : Did (newS 2 start 1 1073741824) { Hotspotref19_Step.z with Kind := 0, N := 64 } { Hotspotref19_Told.z with Ask := askB (newS 2 start 1 1073741824) 64 } (askS (newS 2 start 1 1073741824) 64) := .ask rfl (by show (1 : Int) ≤ 64 ∧ (64 : Int) ≤ 64; decide) (by show (0 : Int) ≠ 2; decide) rfl rfl
  have v2 := d2.valid v1
  have f2 : Fit (askS (newS 2 start 1 1073741824) 64) := f1
  have hans : ¬ ((0 : Int) = 0 ∧ ¬ (1 ≤ size ∧ size ≤ 64)) := fun q => q.2 h2
  rw [new_e, if_pos v1, bindS, ask_e f1, if_pos v1, if_pos (by decide), if_neg (by show ¬ (0 : Int) = 2; decide), bindS]
  have ea : sender_Answer (askS (newS 2 start 1 1073741824) 64) { BlockAnswer.z with Size := size, Tid := 2, Token := (askB (newS 2 start 1 1073741824) 64).Token } = some (ansS (askS (newS 2 start 1 1073741824) 64) { BlockAnswer.z with Size := size, Tid := 2, Token := (askB (newS 2 start 1 1073741824) 64).Token }, 0) := by
    exact answer_ok f2 v2 rfl rfl rfl hans
  rw [ea, bindS]
  refine ⟨_, rfl, fun many hm => ?_⟩
  have d3 : Did (askS (newS 2 start 1 1073741824) 64) { Hotspotref19_Step.z with Kind := 1, A := { BlockAnswer.z with Size := size, Tid := 2, Token := (askB (newS 2 start 1 1073741824) 64).Token } } Hotspotref19_Told.z (ansS (askS (newS 2 start 1 1073741824) 64) { BlockAnswer.z with Size := size, Tid := 2, Token := (askB (newS 2 start 1 1073741824) 64).Token }) := .ans rfl rfl ⟨rfl, rfl⟩ hans rfl rfl
  refine ⟨d3.valid v2, rfl, rfl, rfl, rfl, rfl, trivial, ?_, rfl, hm, ?_, ?_⟩
  · show start = (start + 0) % 4096; omega
  · intro x hx; cases hx
  · intro x hx; cases hx

theorem nat_min (many dn size : Int) (k : Nat) (h : (k : Int) ≤ many - dn) (h' : (k : Int) ≤ size) (h2 : dn + k = many ∨ (k : Int) = size) (hb : -1000 ≤ many - dn ∧ many - dn ≤ 1000) :
    (if IntKind.wrap .i64 (many - dn) < size then IntKind.wrap .i64 (many - dn) else size) = k := by
  rw [wrapI (by omega) (by omega)]
  split <;> omega

theorem fr1_seq (x : Unacked) : (fr1 x).Head.Seq = x.Frame.Head.Seq := rfl
theorem Fresh.seq : ∀ {l : List Unacked} {b : Int}, Fresh b l → ∀ (j : Nat) (x : Unacked), l[j]? = some x → x.Frame.Head.Seq = (b + j) % 4096
  | [], _, _, j, x, hx => by simp at hx
  | y :: l, b, h, 0, x, hx => by
    simp at hx; subst hx
    rw [h.1.1]; congr 1; omega
  | y :: l, b, h, j + 1, x, hx => by
    simp at hx
    rw [Fresh.seq h.2 j x hx]; congr 1; omega

theorem whole_loop (start size burst many : Int) (h1 : 0 ≤ start ∧ start ≤ 4095) (hb : 1 ≤ burst ∧ burst ≤ 64) (hs : 1 ≤ size) (hm : 0 ≤ many ∧ many ≤ 300) : ∀ (m dn rd : Nat) (s : Sender) (off : Int) (n : Nat), Wh start size many dn rd s off → many - dn ≤ (m : Int) → rd ≤ dn → m < n →
    ∃ s', hotspotlaw19_SenderWhole_L3 many burst size start n (s, off, (dn : Int), (rd : Int)) = some (Ex.go (s', many)) ∧ startOf s' = (start + many) % 4096 ∧ Valid s' ∧ s'.Out.length ≤ 300 := by
  intro m
  induction m with
  | zero =>
    intro dn rd s off n h g1 g2 g3
    obtain ⟨n, rfl⟩ : ∃ m, n = m + 1 := ⟨n - 1, by omega⟩
    have := h.le
    have := h.offe
    rw [hotspotlaw19_SenderWhole_L3, decide_eq_false (by simp only; omega)]
    refine ⟨s, ?_, ?_, h.valid, by omega⟩
    · simp only [cond_false]
      rw [show off = many by omega]
    · rw [h.startE]; congr 1; omega
  | succ m ih =>
    intro dn rd s off n h g1 g2 g3
    obtain ⟨n, rfl⟩ : ∃ m, n = m + 1 := ⟨n - 1, by omega⟩
    have hle := h.le
    have hoff := h.offe
    rw [hotspotlaw19_SenderWhole_L3]
    by_cases hd : (dn : Int) < many
    · rw [decide_eq_true hd, cond_true]
      obtain ⟨s1, off1, e7, w1, q1⟩ := L7_e start size many hm.2 dn rd (by omega) (s, off, (dn : Int), (rd : Int)) rfl (many - off).toNat s off big h (Nat.le_refl _) (big_lt (by omega))
      show ∃ s', ((((hotspotlaw19_SenderWhole_L7 many (s, off, (dn : Int), (rd : Int)) big (s, off)).bind _).bind _) = _) ∧ _
      rw [e7, bindS, Ex.kE_go']
      have hl := w1.len hm.2
      have ho1 := w1.offe
      have hle1 := w1.le
      -- how many are picked
      obtain ⟨k, hk⟩ : ∃ k, k = s1.Out.length := ⟨_, rfl⟩
      obtain ⟨p, hp⟩ : ∃ p : Nat, p = min burst.toNat k := ⟨_, rfl⟩
      have hp1 : p ≤ k := by omega
      have hp2 : 1 ≤ p := by omega
      have hpf := pick_fresh burst s1.Out (start + dn) 0 p w1.fresh (by omega) (by omega) (by omega)
      have hpf : pickR s1.Limit burst 0 s1.Out = ((s1.Out.take p).map mark1 ++ s1.Out.drop p, (s1.Out.take p).map fr1) := by rw [w1.limit]; exact hpf
      have fit1 : Fit s1 := ⟨by omega, w1.body⟩
      show ∃ s', (((sender_Pick s1 burst).bind _).bind _ = _) ∧ _
      rw [pick_e fit1, if_pos w1.valid, if_pos (by omega), if_pos w1.phase, bindS, hpf]
      have hd4 : Did s1 { Hotspotref19_Step.z with Kind := 4, N := burst } { Hotspotref19_Told.z with Frames := (pickR s1.Limit burst 0 s1.Out).2 } { s1 with Out := (pickR s1.Limit burst 0 s1.Out).1 } := .pick rfl (by show 0 ≤ burst; omega) w1.phase rfl rfl
      have v2 := hd4.valid w1.valid
      rw [hpf] at v2
      simp only at v2
      obtain ⟨s2, hs2⟩ : ∃ s2, s2 = { s1 with Out := (s1.Out.take p).map mark1 ++ s1.Out.drop p } := ⟨_, rfl⟩
      rw [← hs2] at v2
      obtain ⟨fs, hfs⟩ : ∃ fs, fs = (s1.Out.take p).map fr1 := ⟨_, rfl⟩
      rw [← hs2, ← hfs]
      have hfl : fs.length = p := by rw [hfs]; simp; omega
      have hmin : (if (if IntKind.wrap .i64 (many - (dn : Int)) < size then IntKind.wrap .i64 (many - (dn : Int)) else size) < burst then (if IntKind.wrap .i64 (many - (dn : Int)) < size then IntKind.wrap .i64 (many - (dn : Int)) else size) else burst) = p := by
        rw [nat_min many dn size k (by omega) (by omega) (by omega) (by omega)]
        split <;> omega
      simp only [show ((0 : Int) != 0) = false from rfl, Bool.false_or, hmin, hfl]
      rw [show (((p : Nat) : Int) != ((p : Nat) : Int)) = false by simp, cond_false]
      have hst : sender_Start s1 = some (startOf s1) := by
        unfold sender_Start
        rw [check_e _ (by omega), bindS, if_pos w1.valid, show ((0 : Int) != 0) = false from rfl, cond_false, start_e]; rfl
      have sb : 0 ≤ startOf s1 ∧ startOf s1 < 4096 := by rw [w1.startE]; omega
      show ∃ s', (((sender_Start s1).bind _).bind _ = _) ∧ _
      rw [hst, bindS]
      unfold window_New window_number
      rw [bindS, show (decide (0 ≤ startOf s1) && decide (startOf s1 < 4096)) = true by simpa using sb]
      simp only [Bool.not_true, cond_false, bindS]
      have e12 := L12_e (fs, s2, 0) (startOf s1) sb (by simp only [hfl]; omega) (fun j f hj => by
        simp only [hfs, List.getElem?_map, Option.map_eq_some_iff] at hj
        obtain ⟨x, hx, rfl⟩ := hj
        rw [List.getElem?_take] at hx
        split at hx
        · rw [fr1_seq, Fresh.seq w1.fresh j x hx, w1.startE]; omega
        · cases hx) fs 0 big rfl (big_lt (by omega)) (Nat.zero_le _)
      simp only [Int.natCast_zero, hfl] at e12
      rw [show ({ Window.z with Start := startOf s1 } : Window) = ⟨startOf s1, (2 : Int) ^ 0 - 1⟩ from rfl, e12, bindS]
      obtain ⟨W, hW⟩ : ∃ W : Window, W = ⟨startOf s1, (2 : Int) ^ p - 1⟩ := ⟨_, rfl⟩
      rw [← hW]
      have okw : okW W := by rw [hW]; exact sb
      -- what is acknowledged
      have pm : ∀ x ∈ (s1.Out.take p).map mark1, pA W x = true := by
        intro x hx
        obtain ⟨y, hy, rfl⟩ := List.mem_map.1 hx
        obtain ⟨j, hj, ej⟩ := List.getElem_of_mem hy
        have hj' : j < p := by simp at hj; omega
        have ey : s1.Out[j]? = some y := by
          have : (s1.Out.take p)[j]? = some y := by simp only [List.getElem?_eq_getElem hj, ej]
          rw [List.getElem?_take, if_pos hj'] at this; exact this
        have sq := Fresh.seq w1.fresh j y ey
        unfold pA
        have dj : dist W.Start (mark1 y).Frame.Head.Seq = j := by
          show dist W.Start y.Frame.Head.Seq = j
          rw [hW, sq]
          show dist (startOf s1) _ = _
          rw [w1.startE]; unfold dist; omega
        have h0 : decide (0 < (mark1 y).Tries) = true := rfl
        rw [h0, Bool.true_and]
        unfold hasB
        rw [dj, decide_eq_true ⟨okw, by show 0 ≤ y.Frame.Head.Seq; rw [sq]; omega, by show y.Frame.Head.Seq < 4096; rw [sq]; omega, by omega⟩, Bool.true_and, hW]
        exact bit_in ⟨p, by omega⟩ ⟨j, by omega⟩ hj'
      have pd : ∀ x ∈ s1.Out.drop p, pA W x = false := by
        intro x hx
        have := (Fresh.tries w1.fresh x (List.mem_of_mem_drop hx)).1
        unfold pA; rw [this]; rfl
      have f1 : s2.Out.filter (pA W) = (s1.Out.take p).map mark1 := by
        rw [hs2]; show ((s1.Out.take p).map mark1 ++ s1.Out.drop p).filter _ = _
        rw [List.filter_append, List.filter_eq_self.2 pm, List.filter_eq_nil_iff.2 fun x hx => by rw [pd x hx]; decide, List.append_nil]
      have f2 : s2.Out.filter (fun x => !pA W x) = s1.Out.drop p := by
        rw [hs2]; show ((s1.Out.take p).map mark1 ++ s1.Out.drop p).filter _ = _
        rw [List.filter_append, List.filter_eq_nil_iff.2 fun x hx => by rw [pm x hx]; decide, List.filter_eq_self.2 fun x hx => by rw [pd x hx]; rfl, List.nil_append]
      have b2 : ∀ x ∈ s2.Out, x.Frame.Body.length ≤ 2400 := by
        rw [hs2]; intro x hx
        rcases List.mem_append.1 hx with hx | hx
        · obtain ⟨y, hy, rfl⟩ := List.mem_map.1 hx
          exact w1.body y (List.mem_of_mem_take hy)
        · exact w1.body x (List.mem_of_mem_drop hx)
      have l2 : s2.Out.length = k := by rw [hs2]; simp; omega
      have p2 : s2.Phase = 2 := by rw [hs2]; exact w1.phase
      rw [acked_e ⟨by omega, b2⟩ (by omega) W, if_pos v2, if_pos okw, if_pos p2, bindS, f1]
      have hd5 : Did s2 { Hotspotref19_Step.z with Kind := 5, W := W } { Hotspotref19_Told.z with Numbers := seqs (s2.Out.filter (pA W)) } (ackS s2 W) := .ack rfl okw p2 rfl rfl
      have v3 := hd5.valid v2
      obtain ⟨s3, hs3⟩ : ∃ s3, s3 = ackS s2 W := ⟨_, rfl⟩
      rw [← hs3] at v3 ⊢
      have fd : Fresh (start + ((dn + p : Nat) : Int)) (s1.Out.drop p) := by
        have := w1.fresh.drop p (by omega)
        rw [show start + ((dn + p : Nat) : Int) = start + (dn : Int) + (p : Int) by omega]; exact this
      have mu : (s1.Out.drop p).map unfly = s1.Out.drop p := by
        have : ∀ x ∈ s1.Out.drop p, unfly x = x := by
          intro x hx
          have := (Fresh.tries w1.fresh x (List.mem_of_mem_drop hx)).2
          unfold unfly; cases x; simp only at this; subst this; rfl
        rw [List.map_congr_left this, List.map_id']
      have o3 : s3.Out = s1.Out.drop p := by rw [hs3]; show (s2.Out.filter (fun x => !pA W x)).map unfly = _; rw [f2, mu]
      have w3 : Wh start size many (dn + p) (rd + 1) s3 off1 := by
        have g : ∀ {x}, x ∈ s3.Out → x ∈ s1.Out := fun {x} hx => by rw [o3] at hx; exact List.mem_of_mem_drop hx
        refine ⟨v3, by rw [hs3]; exact p2, by rw [hs3, hs2]; exact w1.size, by rw [hs3, hs2]; exact w1.limit, by rw [hs3, hs2]; exact w1.life, by rw [hs3, hs2]; exact w1.bar, by rw [o3]; exact fd, by rw [hs3, hs2]; exact w1.next, by rw [o3, List.length_drop]; omega, hle1, fun x hx => ?_, fun x hx => w1.body x (g hx)⟩
        have := w1.at_ x (g hx)
        exact ⟨this.1, by omega⟩
      have l3 : s3.Out.length = k - p := by rw [o3, List.length_drop, hk]
      -- nothing is due
      have px : ∀ x ∈ s3.Out, pX s3.Limit s3.Life (rd : Int) x = false := by
        intro x hx
        have t := Fresh.tries w3.fresh x hx
        have a := w1.at_ x (by rw [o3] at hx; exact List.mem_of_mem_drop hx)
        unfold pX
        rw [w3.limit, w3.life, t.1, t.2, wrapI (by omega) (by omega), decide_eq_false (by omega)]; rfl
      have x1 : s3.Out.filter (pX s3.Limit s3.Life (rd : Int)) = [] := List.filter_eq_nil_iff.2 fun x hx => by rw [px x hx]; decide
      have x2 : s3.Out.filter (fun x => !pX s3.Limit s3.Life (rd : Int) x) = s3.Out := List.filter_eq_self.2 fun x hx => by rw [px x hx]; rfl
      have xn : expN s3 (rd : Int) = [] := by unfold expN; rw [x1]; rfl
      have xs : expS s3 (rd : Int) = s3 := by
        unfold expS
        rw [xn, x2]
        have : (s3.Bar || decide (0 < (((([] : List Int).length) : Nat) : Int))) = s3.Bar := by cases s3.Bar <;> rfl
        rw [this]
      show ∃ s', (((sender_Expire s3 (rd : Int)).bind _).bind _ = _) ∧ _
      rw [expire_e ⟨by omega, w3.body⟩ (by omega), if_pos v3, if_pos (by omega), if_pos w3.phase, bindS, xn, xs]
      have sl : (seqs ((s1.Out.take p).map mark1)).length = p := by simp [seqs]; omega
      simp only [show ((0 : Int) != 0) = false from rfl, Bool.false_or, sl, hfl, w3.bar]
      rw [show (((p : Nat) : Int) != ((p : Nat) : Int)) = false by simp, show decide (0 < (((([] : List Int).length) : Nat) : Int)) = false from rfl, Bool.false_or, Bool.false_or, cond_false]
      have e16 := L16w_e (seqs ((s1.Out.take p).map mark1), s3, 0) start (by simp only [sl]; omega) (seqs ((s1.Out.take p).map mark1)) dn 0 big rfl (big_lt (by rw [sl]; omega)) (by rw [sl]; omega) (fun j v hv => by
        simp only [seqs, List.getElem?_map, Option.map_eq_some_iff, List.map_map] at hv
        obtain ⟨x, hx, rfl⟩ := hv
        rw [List.getElem?_take] at hx
        split at hx
        · show x.Frame.Head.Seq = _
          rw [Fresh.seq w1.fresh j x hx]; congr 1; omega
        · cases hx)
      simp only [Int.natCast_zero, sl] at e16
      rw [e16, bindS, Ex.kE_go', bindS, Ex.kE_go', wrapN (by omega)]
      exact ih (dn + p) (rd + 1) s3 off1 n w3 (by omega) (by omega) (by omega)
    · rw [decide_eq_false hd]
      refine ⟨s, ?_, ?_, h.valid, by omega⟩
      · simp only [cond_false]
        rw [show off = many by omega]
      · rw [h.startE]; congr 1; omega

theorem whole_e (a b c d : Int) : hotspotlaw19_SenderWhole a b c d = some true := by
  unfold hotspotlaw19_SenderWhole
  rw [alive_e, bindS]
  by_cases h : 0 ≤ a ∧ a ≤ 4095 ∧ 1 ≤ b ∧ b ≤ 64 ∧ 1 ≤ c ∧ c ≤ 64 ∧ 0 ≤ d ∧ d ≤ 300
  · obtain ⟨h1, h2, h3, h4, h5, h6, h7, h8⟩ := h
    have e : (((((((((decide (a < 0)) || (decide (4095 < a))) || (decide (b < 1))) || (decide (64 < b))) || (decide (c < 1))) || (decide (64 < c))) || (decide (d < 0))) || (decide (300 < d))) || (!true)) = false := by
      simp; omega
    rw [e, cond_false]
    obtain ⟨s, hs, hw⟩ := opened_e a b ⟨h1, h2⟩ ⟨h3, h4⟩
    rw [hs, bindS]
    obtain ⟨s', e3, q1, q2, q3⟩ := whole_loop a b c d ⟨h1, h2⟩ ⟨h5, h6⟩ h3 ⟨h7, h8⟩ d.toNat 0 0 s 0 big (hw d h7) (by omega) (Nat.le_refl _) (big_lt (by omega))
    simp only [Int.natCast_zero] at e3
    have hst : sender_Start s' = some (startOf s') := by
      unfold sender_Start
      rw [check_e _ (by omega), bindS, if_pos q2, show ((0 : Int) != 0) = false from rfl, cond_false, start_e]; rfl
    simp only [Bool.not_true, cond_false]
    rw [e3, bindS, Ex.k_go']
    simp only [Bool.true_and, beq_self_eq_true, cond_true]
    show (((sender_Start s').bind _).bind _) = _
    rw [hst, bindS, add_e, bindS, q1, bindS]
    simp
  · have e : (((((((((decide (a < 0)) || (decide (4095 < a))) || (decide (b < 1))) || (decide (64 < b))) || (decide (c < 1))) || (decide (64 < c))) || (decide (d < 0))) || (decide (300 < d))) || (!true)) = true := by
      simp; omega
    rw [e]; rfl
end Go.AX.Z.TS

/-! (TSY) -/

set_option linter.unusedVariables false
namespace Go.AX.Z.TS
open Go.AX Go.Proofs

/-! ## Arguments, read -/

theorem ud3 : K.P.underlying 3 = some (.int .i64) := by kernel_rfl

theorem ud5 : K.P.underlying 5 = some (.int .u8) := by kernel_rfl

theorem ud4 : K.P.underlying 4 = some (.bool) := by kernel_rfl

def W_Addr (B : Nat) (x : Addr) : Prop := ((Lit.int .u8 x.a0).wf = true) ∧ ((Lit.int .u8 x.a1).wf = true) ∧ ((Lit.int .u8 x.a2).wf = true) ∧ ((Lit.int .u8 x.a3).wf = true) ∧ ((Lit.int .u8 x.a4).wf = true) ∧ ((Lit.int .u8 x.a5).wf = true)

theorem ud27 : K.P.underlying 27 = some (.array 6 5) := by kernel_rfl

theorem rd27 {B n : Nat} {l : List AV} (h : Ty K.P B n 27 l) : ∃ x : Addr, l = e_Addr x ∧ W_Addr B x := by
  obtain ⟨m, ls, rfl, h1, h2⟩ := ty_array ud27 h
  obtain ⟨vs, h3, h4, h5⟩ := ty_ints ud5 ls h2
  match vs, (h4.trans h1 : vs.length = 6) with
  | [a0, a1, a2, a3, a4, a5], _ => exact ⟨⟨a0, a1, a2, a3, a4, a5⟩, h3, h5 _ (by simp), h5 _ (by simp), h5 _ (by simp), h5 _ (by simp), h5 _ (by simp), h5 _ (by simp)⟩

def W_Header (B : Nat) (x : Header) : Prop := ((Lit.int .u8 x.Kind).wf = true) ∧ ((Lit.int .u8 x.Sub).wf = true) ∧ ((Lit.int .i64 x.Duration).wf = true) ∧ (W_Addr B x.A1) ∧ (W_Addr B x.A2) ∧ (W_Addr B x.A3) ∧ (W_Addr B x.A4) ∧ ((Lit.int .i64 x.Seq).wf = true) ∧ ((Lit.int .i64 x.Frag).wf = true) ∧ ((Lit.int .i64 x.Tid).wf = true) ∧ ((Lit.int .u8 x.Ack).wf = true)

theorem rd29 {B n : Nat} {l : List AV} (h : Ty K.P B n 29 l) : ∃ x : Header, l = e_Header x ∧ W_Header B x := by
  obtain ⟨m, h⟩ := ty_struct Try.underlying29 h
  have h' : TyAll (Ty K.P B m) [5, 5, 4, 4, 4, 4, 4, 4, 4, 3, 27, 27, 27, 27, 3, 3, 3, 5, 4, 4] l := h
  obtain ⟨_, _, rfl, h0, _, _, rfl, h1, _, _, rfl, h2, _, _, rfl, h3, _, _, rfl, h4, _, _, rfl, h5, _, _, rfl, h6, _, _, rfl, h7, _, _, rfl, h8, _, _, rfl, h9, _, _, rfl, h10, _, _, rfl, h11, _, _, rfl, h12, _, _, rfl, h13, _, _, rfl, h14, _, _, rfl, h15, _, _, rfl, h16, _, _, rfl, h17, _, _, rfl, h18, _, _, rfl, h19, rfl⟩ := h'
  obtain ⟨v0, rfl, w0⟩ := ty_int ud5 h0
  obtain ⟨v1, rfl, w1⟩ := ty_int ud5 h1
  obtain ⟨v2, rfl⟩ := ty_bool ud4 h2
  obtain ⟨v3, rfl⟩ := ty_bool ud4 h3
  obtain ⟨v4, rfl⟩ := ty_bool ud4 h4
  obtain ⟨v5, rfl⟩ := ty_bool ud4 h5
  obtain ⟨v6, rfl⟩ := ty_bool ud4 h6
  obtain ⟨v7, rfl⟩ := ty_bool ud4 h7
  obtain ⟨v8, rfl⟩ := ty_bool ud4 h8
  obtain ⟨v9, rfl, w9⟩ := ty_int ud3 h9
  obtain ⟨v10, rfl, w10⟩ := rd27 h10
  obtain ⟨v11, rfl, w11⟩ := rd27 h11
  obtain ⟨v12, rfl, w12⟩ := rd27 h12
  obtain ⟨v13, rfl, w13⟩ := rd27 h13
  obtain ⟨v14, rfl, w14⟩ := ty_int ud3 h14
  obtain ⟨v15, rfl, w15⟩ := ty_int ud3 h15
  obtain ⟨v16, rfl, w16⟩ := ty_int ud3 h16
  obtain ⟨v17, rfl, w17⟩ := ty_int ud5 h17
  obtain ⟨v18, rfl⟩ := ty_bool ud4 h18
  obtain ⟨v19, rfl⟩ := ty_bool ud4 h19
  exact ⟨⟨v0, v1, v2, v3, v4, v5, v6, v7, v8, v9, v10, v11, v12, v13, v14, v15, v16, v17, v18, v19⟩, rfl, ⟨w0, w1, w9, w10, w11, w12, w13, w14, w15, w16, w17⟩⟩

theorem ud30 : K.P.underlying 30 = some (.slice 5) := by kernel_rfl

theorem rs30 {B n : Nat} {x : AV} (h : Ty K.P B n 30 [x]) : ∃ l : (List Int), x = S_vu l ∧ l.length ≤ B ∧ ∀ z ∈ l, (Lit.int .u8 z).wf = true := by
  obtain ⟨vs, rfl, h1, h2⟩ := ty_slice_ints ud30 ud5 h
  exact ⟨vs, rfl, h1, h2⟩

def W_Frame (B : Nat) (x : Frame) : Prop := (W_Header B x.Head) ∧ (x.Body.length ≤ B ∧ ∀ z ∈ x.Body, (Lit.int .u8 z).wf = true)

theorem rd32 {B n : Nat} {l : List AV} (h : Ty K.P B n 32 l) : ∃ x : Frame, l = E_Frame x ∧ W_Frame B x := by
  obtain ⟨m, h⟩ := ty_struct Try.underlying32 h
  have h' : TyAll (Ty K.P B m) [29, 30] l := h
  obtain ⟨_, _, rfl, h0, _, _, rfl, h1, rfl⟩ := h'
  obtain ⟨v0, rfl, w0⟩ := rd29 h0
  obtain ⟨s1, rfl⟩ : ∃ x, _ = [x] := ty_single h1 (by rw [ud30]; intro _ hh; cases hh) (by rw [ud30]; intro _ _ hh; cases hh)
  obtain ⟨v1, rfl, w1⟩ := rs30 h1
  exact ⟨⟨v0, v1⟩, rfl, ⟨w0, w1⟩⟩

theorem ud51 : K.P.underlying 51 = some (.int .u64) := by kernel_rfl

def W_Window (B : Nat) (x : Window) : Prop := ((Lit.int .i64 x.Start).wf = true) ∧ ((Lit.int .u64 x.Bits).wf = true)

theorem rd53 {B n : Nat} {l : List AV} (h : Ty K.P B n 53 l) : ∃ x : Window, l = e_Window x ∧ W_Window B x := by
  obtain ⟨m, h⟩ := ty_struct Try.underlying53 h
  have h' : TyAll (Ty K.P B m) [3, 51] l := h
  obtain ⟨_, _, rfl, h0, _, _, rfl, h1, rfl⟩ := h'
  obtain ⟨v0, rfl, w0⟩ := ty_int ud3 h0
  obtain ⟨v1, rfl, w1⟩ := ty_int ud51 h1
  exact ⟨⟨v0, v1⟩, rfl, ⟨w0, w1⟩⟩

def W_BlockAnswer (B : Nat) (x : BlockAnswer) : Prop := ((Lit.int .i64 x.Token).wf = true) ∧ ((Lit.int .i64 x.Tid).wf = true) ∧ ((Lit.int .i64 x.Status).wf = true) ∧ ((Lit.int .i64 x.Size).wf = true)

theorem rd73 {B n : Nat} {l : List AV} (h : Ty K.P B n 73 l) : ∃ x : BlockAnswer, l = e_BlockAnswer x ∧ W_BlockAnswer B x := by
  obtain ⟨m, h⟩ := ty_struct Try.underlying73 h
  have h' : TyAll (Ty K.P B m) [3, 3, 3, 3] l := h
  obtain ⟨_, _, rfl, h0, _, _, rfl, h1, _, _, rfl, h2, _, _, rfl, h3, rfl⟩ := h'
  obtain ⟨v0, rfl, w0⟩ := ty_int ud3 h0
  obtain ⟨v1, rfl, w1⟩ := ty_int ud3 h1
  obtain ⟨v2, rfl, w2⟩ := ty_int ud3 h2
  obtain ⟨v3, rfl, w3⟩ := ty_int ud3 h3
  exact ⟨⟨v0, v1, v2, v3⟩, rfl, ⟨w0, w1, w2, w3⟩⟩

def W_Hotspotref19_Step (B : Nat) (x : Hotspotref19_Step) : Prop := ((Lit.int .i64 x.Kind).wf = true) ∧ ((Lit.int .i64 x.N).wf = true) ∧ (W_Frame B x.Frame) ∧ (W_Window B x.W) ∧ (W_BlockAnswer B x.A)

theorem rd75 {B n : Nat} {l : List AV} (h : Ty K.P B n 75 l) : ∃ x : Hotspotref19_Step, l = E_Hotspotref19_Step x ∧ W_Hotspotref19_Step B x := by
  obtain ⟨m, h⟩ := ty_struct Try.underlying75 h
  have h' : TyAll (Ty K.P B m) [3, 3, 32, 53, 73] l := h
  obtain ⟨_, _, rfl, h0, _, _, rfl, h1, _, _, rfl, h2, _, _, rfl, h3, _, _, rfl, h4, rfl⟩ := h'
  obtain ⟨v0, rfl, w0⟩ := ty_int ud3 h0
  obtain ⟨v1, rfl, w1⟩ := ty_int ud3 h1
  obtain ⟨v2, rfl, w2⟩ := rd32 h2
  obtain ⟨v3, rfl, w3⟩ := rd53 h3
  obtain ⟨v4, rfl, w4⟩ := rd73 h4
  exact ⟨⟨v0, v1, v2, v3, v4⟩, rfl, ⟨w0, w1, w2, w3, w4⟩⟩

theorem ud63 : K.P.underlying 63 = some (.slice 75) := by kernel_rfl

theorem rs63 {B n : Nat} {x : AV} (h : Ty K.P B n 63 [x]) : ∃ l : (List Hotspotref19_Step), x = S_Hotspotref19_Step l ∧ l.length ≤ B ∧ ∀ z ∈ l, W_Hotspotref19_Step B z := by
  obtain ⟨l, rfl, h1, h2⟩ := ty_slice_rows (W_Hotspotref19_Step B) ud63 (fun _ _ h => rd75 h) h
  exact ⟨l, rfl, h1, h2⟩

end Go.AX.Z.TS

/-! (TSU) -/

/- How bulks bound what a reading holds. -/
namespace Go.Proofs.Ytjijidmbpfjioaa.bulks
open Go.AX

theorem one_le {H : Type} (d : DataW H) : 1 ≤ Rows.uptoBulk d := by
  cases d with
  | lit l => cases l <;> simp [Rows.uptoBulk]
  | nil => simp [Rows.uptoBulk]
  | ptr d => simp [Rows.uptoBulk]
  | slice elems spare => simp [Rows.uptoBulk]
  | agg parts => simp [Rows.uptoBulk]
  | iface t d => simp [Rows.uptoBulk]
  | map entries => simp [Rows.uptoBulk]
  | held h => simp [Rows.uptoBulk]

theorem part_le {H : Type} {d : DataW H} {l : List (DataW H)} (h : d ∈ l) : Rows.uptoBulk d ≤ Rows.uptoBulkAll l := by
  induction l with
  | nil => cases h
  | cons x r ih =>
    simp only [Rows.uptoBulkAll]
    cases List.mem_cons.1 h with
    | inl e => subst e; omega
    | inr e => have := ih e; omega

theorem length_le {H : Type} (l : List (DataW H)) : l.length ≤ Rows.uptoBulkAll l := by
  induction l with
  | nil => simp [Rows.uptoBulkAll]
  | cons x r ih => have := one_le x; simp only [Rows.uptoBulkAll, List.length_cons]; omega

theorem bulk {H : Type} : Bulk (H := H) Rows.uptoBulk where
  ptr d := by simp [Rows.uptoBulk]
  elems es sp d h := by have := part_le h; simp only [Rows.uptoBulk]; omega
  len es sp := by have := length_le es; simp only [Rows.uptoBulk]; omega
  agg ds d h := by have := part_le h; simp only [Rows.uptoBulk]; omega
  str bs := by simp [Rows.uptoBulk]

theorem bound {H : Type} {l : List (DataW H)} (hk : Rows.uptoSmall H l = true) : Rows.uptoBulkAll l ≤ 1048576 := by
  have := of_decide_eq_true hk
  exact this

end Go.Proofs.Ytjijidmbpfjioaa.bulks

/-! (TSTSenderWhole) -/

/- SenderWhole: the law returns true whatever its arguments. -/
namespace Go.Proofs.Ytjijidmbpfjioaa.senderWhole
open Go.ChangeShapes Go.WideShapes Go.ChangeAt Go.RowKit Go.AX Go.AX.Z Go.AX.Z.TS

theorem own : ownKnob Try.prog.godebug = none := by kernel_rfl
theorem laid : laidOutB K.P = true := by kernel_rfl
theorem par : parB K.P Try.f4.params.toList = true := by kernel_rfl

theorem law (B : Nat) (xs : List AV) (h : TyArgs K.P B Try.f4.params.toList xs) : SndP K 4 xs (.v (.bool true)) := by
  have h' : TyArgs K.P B [3, 3, 3, 3] xs := h
  obtain ⟨_, _, rfl, h0, _, _, rfl, h1, _, _, rfl, h2, _, _, rfl, h3, rfl⟩ := h'
  obtain ⟨p0, rfl, wp0⟩ := tyV_int ud3 h0
  obtain ⟨p1, rfl, wp1⟩ := tyV_int ud3 h1
  obtain ⟨p2, rfl, wp2⟩ := tyV_int ud3 h2
  obtain ⟨p3, rfl, wp3⟩ := tyV_int ud3 h3
  exact hotspotlaw19_SenderWhole_p p0 p1 p2 p3 (whole_e p0 p1 p2 p3)

set_option maxRecDepth 100000 in
theorem lifted (os : Os) (started : os.Started) (H : Type) (enc : TypeId × Value → H) :
    ReturnsInHanded {} Try.checked os 4 .any (Rows.senderWholeSpec.pre6 enc Try.prog Try.f4 Rows.senderWholeRow.domain false) (Rows.senderWholeSpec.post enc Try.prog Try.f4 false true false false) := by
  refine returnsInHanded_of_change (C := Try.checked) own started (by kernel_rfl) Try.func4
    (ChangeSpec.witness6 (enc := enc) (C := Try.checked) false ⟨#[], #[.int .i64 0, .int .i64 0, .int .i64 0, .int .i64 0], []⟩ 8 (by kernel_rfl) (by kernel_rfl) (by kernel_rfl) (by kernel_rfl)) ?_
  intro W base args ds gs before hval hW hcnd _
  exact law_contract (C := K) (f := 4) ⟨Try.f4, Try.func4, rfl, by decide +kernel⟩ (fn := Try.f4) (tb := 4) (B := Rows.uptoBulkAll ds) (bk := Rows.uptoBulk) rfl laid par rfl Try.underlying4 (law _) rfl
    (fun ds hds => by match ds, hds with | [d1, d2, d3, d4], _ => rfl) bulks.bulk hval hW (fun d hd => bulks.part_le hd)

theorem over : Rows.SenderWholeSaid :=
  OpenClaim.holds_of_wide 4 Try.f4 rfl rfl rfl rfl rfl rfl rfl ⟨rfl, rfl, rfl, rfl, rfl⟩ rfl rfl rfl rfl rfl (by kernel_rfl) Try.func4 (by kernel_rfl)
    (of_decide_eq_true (by kernel_rfl)) (by unfold Func.isWrapper; first | (rw [if_pos (by decide +kernel)]; kernel_rfl) | (rw [if_neg (by decide +kernel)]; exact ⟨rfl, rfl⟩))
    (fun os started H enc _ => lifted os started H enc)

end Go.Proofs.Ytjijidmbpfjioaa.senderWhole
