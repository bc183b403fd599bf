/- The plain law behind the sum of bytes: one round of the division by bits is linear and loses nothing. No condition. -/
import Derived.RowKit
namespace Go.Proofs.Ytdpoifaeimmdmaa.Crc
set_option linter.unusedVariables false
set_option linter.unusedSimpArgs false

theorem xlc (a b c : BitVec 32) : a ^^^ (b ^^^ c) = b ^^^ (a ^^^ c) := by rw [← BitVec.xor_assoc, BitVec.xor_comm a b, BitVec.xor_assoc]
def pol : BitVec 32 := 3988292384#32
/-- One round. -/
def rnd (r : BitVec 32) : BitVec 32 := (r >>> 1) ^^^ (if r.getLsbD 0 then pol else 0#32)
def rn : Nat → BitVec 32 → BitVec 32
  | 0, r => r
  | n + 1, r => rn n (rnd r)
theorem rnd_zero : rnd 0#32 = 0#32 := by decide
theorem rnd_xor (a b : BitVec 32) : rnd (a ^^^ b) = rnd a ^^^ rnd b := by
  unfold rnd
  rw [BitVec.ushiftRight_xor_distrib, BitVec.getLsbD_xor]
  apply BitVec.eq_of_getLsbD_eq
  intro i _
  cases a.getLsbD 0 <;> cases b.getLsbD 0 <;> simp <;> cases pol.getLsbD i <;> cases (a.getLsbD (1 + i)) <;> cases (b.getLsbD (1 + i)) <;> rfl
theorem rnd_ker (a : BitVec 32) (h : rnd a = 0#32) : a = 0#32 := by
  have h31 : (rnd a).getLsbD 31 = false := by rw [h]; decide
  have h0 : a.getLsbD 0 = false := by
    unfold rnd at h31
    rw [BitVec.getLsbD_xor, BitVec.getLsbD_ushiftRight, BitVec.getLsbD_of_ge a (1 + 31) (by omega)] at h31
    cases e : a.getLsbD 0 with
    | false => rfl
    | true => rw [e] at h31; revert h31; decide
  unfold rnd at h
  rw [h0] at h
  simp at h
  apply BitVec.eq_of_getLsbD_eq
  intro i hi
  rw [BitVec.getLsbD_zero]
  cases i with
  | zero => exact h0
  | succ i =>
    have := congrArg (fun v => BitVec.getLsbD v i) h
    simp only [BitVec.getLsbD_ushiftRight, BitVec.getLsbD_zero] at this
    rw [Nat.add_comm]; exact this
theorem rn_zero (n : Nat) : rn n 0#32 = 0#32 := by
  induction n with
  | zero => rfl
  | succ n ih => rw [rn, rnd_zero]; exact ih
theorem rn_xor (n : Nat) : ∀ a b : BitVec 32, rn n (a ^^^ b) = rn n a ^^^ rn n b := by
  induction n with
  | zero => intro a b; rfl
  | succ n ih => intro a b; rw [rn, rnd_xor, ih]; rfl
theorem rn_ker (n : Nat) : ∀ a : BitVec 32, rn n a = 0#32 → a = 0#32 := by
  induction n with
  | zero => intro a h; exact h
  | succ n ih => intro a h; exact rnd_ker a (ih _ h)
theorem rn_add (m n : Nat) : ∀ a : BitVec 32, rn (m + n) a = rn n (rn m a) := by
  induction m with
  | zero => intro a; rw [Nat.zero_add]; rfl
  | succ m ih => intro a; rw [show m + 1 + n = (m + n) + 1 by omega, rn, ih]; rfl

/-- A byte, in the lowest places. -/
def by8 (c : Int) : BitVec 32 := BitVec.ofInt 32 c
def bstep (r : BitVec 32) (c : Int) : BitVec 32 := rn 8 (r ^^^ by8 c)
def crc (r : BitVec 32) (l : List Int) : BitVec 32 := l.foldl bstep r
theorem crc_append (r : BitVec 32) (l m : List Int) : crc r (l ++ m) = crc (crc r l) m := by simp [crc, List.foldl_append]
theorem crc_cons (r : BitVec 32) (c : Int) (m : List Int) : crc r (c :: m) = crc (bstep r c) m := rfl
/-- What differs ahead of a list differs behind it, by what the rounds make of it. -/
theorem crc_diff (l : List Int) : ∀ r e : BitVec 32, crc (r ^^^ e) l = crc r l ^^^ rn (8 * l.length) e := by
  induction l with
  | nil => intro r e; rfl
  | cons c l ih =>
    intro r e
    rw [crc_cons, crc_cons]
    have : bstep (r ^^^ e) c = bstep r c ^^^ rn 8 e := by
      unfold bstep
      rw [← rn_xor]
      congr 1
      rw [BitVec.xor_assoc, BitVec.xor_assoc, BitVec.xor_comm e]
    rw [this, ih, ← rn_add]
    congr 2
    simp; omega
/-- Four lists, the last the xor of the others. -/
theorem crc_four (a b c d : List Int) : ∀ (n : Nat) (p q r s : BitVec 32), a.length = n → b.length = n → c.length = n → d.length = n →
    (∀ i, i < n → by8 (d.getD i 0) = by8 (a.getD i 0) ^^^ by8 (b.getD i 0) ^^^ by8 (c.getD i 0)) → p ^^^ q ^^^ r ^^^ s = 0#32 →
    crc p a ^^^ crc q b ^^^ crc r c ^^^ crc s d = 0#32 := by
  induction a generalizing b c d with
  | nil =>
    intro n p q r s ha hb hc hd _ h
    simp at ha; subst ha
    rw [List.eq_nil_of_length_eq_zero hb, List.eq_nil_of_length_eq_zero hc, List.eq_nil_of_length_eq_zero hd]
    exact h
  | cons x a ih =>
    intro n p q r s ha hb hc hd hx h
    match b, c, d, hb, hc, hd, hx with
    | [], _, _, hb, _, _, _ => simp at ha hb; omega
    | _ :: _, [], _, _, hc, _, _ => simp at ha hc; omega
    | _ :: _, _ :: _, [], _, _, hd, _ => simp at ha hd; omega
    | y :: b, z :: c, u :: d, hb, hc, hd, hx =>
      simp only [List.length_cons] at ha hb hc hd
      refine ih b c d (n - 1) _ _ _ _ (by omega) (by omega) (by omega) (by omega) (fun i hi => ?_) ?_
      · have := hx (i + 1) (by omega)
        simpa using this
      · unfold bstep
        rw [← rn_xor, ← rn_xor, ← rn_xor]
        have h0 := hx 0 (by omega)
        simp only [List.getD_cons_zero] at h0
        rw [h0]
        have : p ^^^ by8 x ^^^ (q ^^^ by8 y) ^^^ (r ^^^ by8 z) ^^^ (s ^^^ (by8 x ^^^ by8 y ^^^ by8 z)) = p ^^^ q ^^^ r ^^^ s := by
          apply BitVec.eq_of_getLsbD_eq
          intro i _
          simp only [BitVec.getLsbD_xor]
          cases p.getLsbD i <;> cases q.getLsbD i <;> cases r.getLsbD i <;> cases s.getLsbD i <;> cases (by8 x).getLsbD i <;> cases (by8 y).getLsbD i <;> cases (by8 z).getLsbD i <;> rfl
        rw [this, h, rn_zero]

/-- The lowest j bytes of a word; its byte j. -/
def low (x : BitVec 32) (j : Nat) : BitVec 32 := (x.setWidth (8 * j)).setWidth 32
def bOf (x : BitVec 32) (j : Nat) : BitVec 32 := ((x >>> (8 * j)).setWidth 8).setWidth 32
theorem low_zero (x : BitVec 32) : low x 0 = 0#32 := by
  apply BitVec.eq_of_getLsbD_eq
  intro i _
  simp [low]
theorem low_succ (x : BitVec 32) (j : Nat) : low x (j + 1) = low x j ^^^ bOf x j <<< (8 * j) := by
  apply BitVec.eq_of_getLsbD_eq
  intro i hi
  simp only [low, bOf, BitVec.getLsbD_xor, BitVec.getLsbD_setWidth, BitVec.getLsbD_shiftLeft, BitVec.getLsbD_ushiftRight]
  by_cases a : i < 8 * j
  · have b : i < 8 * (j + 1) := by omega
    simp [a, b, hi]
  · by_cases b : i < 8 * (j + 1)
    · have c : i - 8 * j < 8 := by omega
      have d : 8 * j + (i - 8 * j) = i := by omega
      have e : i - 8 * j < 32 := by omega
      simp [a, b, c, d, e, hi]
    · have c : ¬ i - 8 * j < 8 := by omega
      simp [a, b, c, hi]
theorem rnd_shl (x : BitVec 32) (h : x.getLsbD 31 = false) : rnd (x <<< 1) = x := by
  unfold rnd
  have h0 : (x <<< 1).getLsbD 0 = false := by simp
  rw [h0]
  simp only [Bool.false_eq_true, if_false, BitVec.xor_zero]
  apply BitVec.eq_of_getLsbD_eq
  intro i hi
  rw [BitVec.getLsbD_ushiftRight, BitVec.getLsbD_shiftLeft]
  by_cases a : i = 31
  · subst a; rw [h]; rfl
  · have b : 1 + i < 32 := by omega
    have c : ¬ 1 + i < 1 := by omega
    have d : 1 + i - 1 = i := by omega
    simp [b, c, d]
theorem rn_shl (n : Nat) : ∀ x : BitVec 32, (∀ i, 32 ≤ i + n → x.getLsbD i = false) → rn n (x <<< n) = x := by
  induction n with
  | zero => intro x _; simp [rn]
  | succ n ih =>
    intro x h
    rw [BitVec.shiftLeft_add, rn, rnd_shl, ih x (fun i hi => h i (by omega))]
    rw [BitVec.getLsbD_shiftLeft]
    by_cases a : 31 < n
    · simp [a]
    · simp [a, h (31 - n) (by omega)]
theorem byte_shl (x : BitVec 32) (j : Nat) (hj : j < 4) : rn (8 * j) (bOf x j <<< (8 * j)) = bOf x j := by
  apply rn_shl
  intro i hi
  simp only [bOf, BitVec.getLsbD_setWidth]
  have : ¬ i < 8 := by omega
  simp [this]
/-- What differs behind j bytes that differ by those of x. -/
def err (x : BitVec 32) (j : Nat) : BitVec 32 := rn (8 * j) (low x j)
theorem err_zero (x : BitVec 32) : err x 0 = 0#32 := low_zero x
theorem err_succ (x : BitVec 32) (j : Nat) (hj : j < 4) : err x (j + 1) = rn 8 (err x j ^^^ bOf x j) := by
  unfold err
  rw [low_succ, show 8 * (j + 1) = 8 * j + 8 by omega, rn_add, rn_xor, byte_shl x j hj]
theorem err_ker (x : BitVec 32) (j : Nat) : err x j = 0#32 ↔ low x j = 0#32 := ⟨rn_ker _ _, fun h => by unfold err; rw [h, rn_zero]⟩
theorem low_ker (x : BitVec 32) (j : Nat) (hj : j < 4) : low x (j + 1) = 0#32 ↔ low x j = 0#32 ∧ bOf x j = 0#32 := by
  constructor
  · intro h
    have hb : ∀ i, i < 8 * (j + 1) → x.getLsbD i = false := by
      intro i hi
      have := congrArg (fun v => BitVec.getLsbD v i) h
      simp only [low, BitVec.getLsbD_setWidth, BitVec.getLsbD_zero] at this
      have c : i < 32 := by omega
      simpa [hi, c] using this
    constructor
    · apply BitVec.eq_of_getLsbD_eq
      intro i hi
      simp only [low, BitVec.getLsbD_setWidth, BitVec.getLsbD_zero]
      by_cases a : i < 8 * j
      · simp [hb i (by omega)]
      · simp [a]
    · apply BitVec.eq_of_getLsbD_eq
      intro i hi
      simp only [bOf, BitVec.getLsbD_setWidth, BitVec.getLsbD_ushiftRight, BitVec.getLsbD_zero]
      by_cases a : i < 8
      · simp [hb (8 * j + i) (by omega)]
      · simp [a]
  · rintro ⟨h1, h2⟩
    rw [low_succ, h1, h2]; simp
theorem xor_ne {a e : BitVec 32} : a ^^^ e = a ↔ e = 0#32 := by
  constructor
  · intro h
    have : a ^^^ (a ^^^ e) = a ^^^ a := by rw [h]
    rw [← BitVec.xor_assoc, BitVec.xor_self, BitVec.zero_xor] at this
    exact this
  · rintro rfl; simp
end Go.Proofs.Ytdpoifaeimmdmaa.Crc
