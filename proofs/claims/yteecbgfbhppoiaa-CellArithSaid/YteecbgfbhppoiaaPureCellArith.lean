/- What comes of two numbers, and when it is too large: the program tells what the reference tells. No condition but that the numbers are of their kinds. -/
import Derived.Test.YteecbgfbhppoiaaPCellArithx3
namespace Go.Proofs.Yteecbgfbhppoiaa.Pure
set_option linter.unusedVariables false
set_option linter.unusedSimpArgs false
open Go.RowKit Go.Proofs.Yteecbgfbhppoiaa.PCellArith Go.Proofs.YteecbgfbhppoiaaW.PrintWords Go.Proofs.YteecbgfbhppoiaaW.PrintLast Go.Proofs.YteecbgfbhppoiaaW.PrintMore
theorem u64_and3 (c : Int) (h0 : 0 ≤ c) (h1 : c < 18446744073709551616) : Go.bits .and .u64 c 3 = c % 4 :=
  bits_mask .u64 64 (by decide) (fun n a b => by simp [IntKind.wrap, IntKind.bits, IntKind.signed]; omega) 2 (by decide) c h0 h1
theorem u64_or1 (c : Int) (h0 : 0 ≤ c) (h1 : c < 18446744073709551616) (h : c % 4 = 0) : Go.bits .or .u64 c 1 = c + 1 :=
  bits_join .u64 64 (by decide) (fun n a b => by simp [IntKind.wrap, IntKind.bits, IntKind.signed]; omega) 2 c 1 h0 h h1 (by decide) (by decide) (by decide)
theorem wrap_u64 (n : Int) : IntKind.u64.wrap n = n % 18446744073709551616 := by simp [IntKind.wrap, IntKind.bits, IntKind.signed]
theorem wf_u64 {n : Int} (h : (Lit.int .u64 n).wf = true) : 0 ≤ n ∧ n < 18446744073709551616 := by
  simp [Lit.wf, IntKind.min, IntKind.max, IntKind.signed, IntKind.bits] at h; omega
theorem wf_i64 {n : Int} (h : (Lit.int .i64 n).wf = true) : -9223372036854775808 ≤ n ∧ n < 9223372036854775808 := by
  simp [Lit.wf, IntKind.min, IntKind.max, IntKind.signed, IntKind.bits] at h; omega
/-- What a cell is. -/
def kd (c : Int) : Int := if c % 4 = 0 then (if c < 4611686018427387904 ∨ 13835058055282163712 ≤ c then 1 else 0) else if c % 4 = 1 then 2 else if c = 2 ∨ c = 6 then 3 else 0
theorem kind_eq (k : Nat) (c : Int) (h0 : 0 ≤ c) (h1 : c < 18446744073709551616) : cell_Kind.f (k + 1) c = some (kd c) := by
  unfold cell_Kind.f kd
  rw [u64_and3 c h0 h1]
  by_cases a : c % 4 = 0
  · rw [if_pos a, if_pos a]
    by_cases b : c < 4611686018427387904 ∨ 13835058055282163712 ≤ c
    · rw [if_pos b, if_pos (by unfold wrap64; omega)]
      simp only [cell_Kind.j0]
      rw [if_pos (by unfold wrap64; simp; omega)]
    · rw [if_neg b]
      have hne : c ≠ 2 ∧ c ≠ 6 := by omega
      split <;> simp only [cell_Kind.j0, cell_Flag.f]
      · rw [if_neg (by unfold wrap64 at *; simp; omega), u64_and3 c h0 h1, if_neg (by omega)]
        simp [hne.1, hne.2]
      · rw [if_neg (by simp), u64_and3 c h0 h1, if_neg (by omega)]
        simp [hne.1, hne.2]
  · rw [if_neg a, if_neg a]
    simp only [cell_Kind.j0, cell_Flag.f]
    rw [if_neg (by simp), u64_and3 c h0 h1]
    by_cases b : c % 4 = 1
    · rw [if_pos b, if_pos b]
    · rw [if_neg b, if_neg b]
      by_cases e : c = 2
      · subst e; simp
      · by_cases f : c = 6
        · subst f; simp
        · simp [e, f]
theorem awake_eq (k : Nat) : quirelaw05_awake.f (k + 1) = some true := by
  unfold quirelaw05_awake.f
  rw [kind_eq k 4 (by omega) (by omega)]
  rfl
/-- May a number be one? -/
def In (n : Int) : Prop := -1152921504606846976 ≤ n ∧ n ≤ 1152921504606846975
instance (n : Int) : Decidable (In n) := by unfold In; exact inferInstance
def fit (n : Int) : Int × Int := if In n then (n, 0) else (0, 18)
/-- What comes of two numbers. -/
def ar (op a b : Int) : Int × Int :=
  if In a ∧ In b then
    if op = 43 then fit (a + b) else if op = 45 then fit (a - b) else if op = 42 then fit (a * b)
    else if op = 47 then (if b = 0 then (0, 19) else fit (Int.tdiv a b))
    else if op = 37 then (if b = 0 then (0, 19) else (Int.tmod a b, 0)) else (0, 2)
  else (0, 2)
theorem fits_eq (n : Int) : cell_fits.f n = some (fit n) := by
  unfold cell_fits.f fit
  by_cases a : n < -1152921504606846976
  · rw [if_pos a, if_neg (show ¬ In n by unfold In; omega)]
  · rw [if_neg a]
    by_cases b : n > 1152921504606846975
    · rw [if_pos b, if_neg (show ¬ In n by unfold In; omega)]
    · rw [if_neg b, if_pos (show In n by unfold In; omega)]
theorem tdiv_abs (a b : Int) : (Int.tdiv a b).natAbs ≤ a.natAbs := by
  rw [Int.natAbs_tdiv]; exact Nat.div_le_self _ _
theorem mul_case (a b : Int) (ha : In a) (hb : In b) (h0 : a ≠ 0) :
    (if (wrap64 (Int.tdiv (wrap64 (a * b)) a)) = b then (if (Int.tmod (wrap64 (a * b)) a) = 0 then some (fit (wrap64 (a * b))) else some (0, 18)) else some (0, 18)) = some (fit (a * b)) := by
  unfold In at ha hb
  by_cases h : In (a * b)
  · have hw : wrap64 (a * b) = a * b := by unfold In at h; unfold wrap64; omega
    rw [hw, Int.mul_tdiv_cancel_left _ h0, Int.mul_tmod_right]
    have : wrap64 b = b := by unfold wrap64; omega
    rw [if_pos this, if_pos rfl]
  · have hf : fit (a * b) = (0, 18) := by unfold fit; rw [if_neg h]
    rw [hf]
    by_cases c : wrap64 (Int.tdiv (wrap64 (a * b)) a) = b
    · rw [if_pos c]
      by_cases d : Int.tmod (wrap64 (a * b)) a = 0
      · rw [if_pos d]
        have hq := tdiv_abs (wrap64 (a * b)) a
        have hm : a * (Int.tdiv (wrap64 (a * b)) a) + Int.tmod (wrap64 (a * b)) a = wrap64 (a * b) := Int.mul_tdiv_add_tmod _ _
        have hb1 : -9223372036854775808 ≤ wrap64 (a * b) ∧ wrap64 (a * b) < 9223372036854775808 := by unfold wrap64; omega
        generalize wrap64 (a * b) = n at *
        generalize Int.tdiv n a = q at *
        have hqb : q = b := by unfold wrap64 at c; omega
        rw [d, hqb] at hm
        have : n = a * b := by omega
        rw [this, hf]
      · rw [if_neg d]
    · rw [if_neg c]
theorem eta2 (p : Int × Int) : (some p).bind (fun bt => some (bt.1, bt.2)) = some p := rfl
theorem arith_eq (k : Nat) (op a b : Int) (ha : -9223372036854775808 ≤ a ∧ a < 9223372036854775808) (hb : -9223372036854775808 ≤ b ∧ b < 9223372036854775808) : cell_Arith.f (k + 2) op a b = some (ar op a b) := by
  have hout : ¬ (In a ∧ In b) → cell_Arith.f (k + 2) op a b = some (0, 2) := by
    intro h
    unfold cell_Arith.f mn mx
    unfold In at h
    by_cases c : (if b < a then b else a) < -1152921504606846976
    · rw [if_pos c, cell_Arith.j0, if_pos rfl]
    · rw [if_neg c, cell_Arith.j0, if_pos]
      simp
      split at c <;> split <;> omega
  unfold ar
  by_cases hi : In a ∧ In b
  · rw [if_pos hi]
    obtain ⟨hia, hib⟩ := hi
    have hia' := hia
    have hib' := hib
    unfold In at hia' hib'
    have h1 : ¬ (mn a b) < -1152921504606846976 := by unfold mn; split <;> omega
    have h2 : decide ((mx a b) > 1152921504606846975) = false := by unfold mx; simp; split <;> omega
    unfold cell_Arith.f
    rw [if_neg h1, h2, cell_Arith.j0, if_neg (by simp)]
    have w1 : wrap64 (a + b) = a + b := by unfold wrap64; omega
    have w2 : wrap64 (a - b) = a - b := by unfold wrap64; omega
    by_cases c1 : op = 43
    · rw [if_pos c1, if_pos c1, w1, fits_eq, eta2]
    rw [if_neg c1, if_neg c1]
    by_cases c2 : op = 45
    · rw [if_pos c2, if_pos c2, w2, fits_eq, eta2]
    rw [if_neg c2, if_neg c2]
    by_cases c3 : op = 42
    · rw [if_pos c3, if_pos c3]
      by_cases c : a = 0
      · rw [if_pos c, c, fits_eq, eta2]
        have : wrap64 (0 * b) = 0 * b := by rw [Int.zero_mul]; unfold wrap64; omega
        rw [this]
      · rw [if_neg c, fits_eq, eta2]
        exact mul_case a b hia hib c
    rw [if_neg c3, if_neg c3]
    have hq := tdiv_abs a b
    have wq : wrap64 (Int.tdiv a b) = Int.tdiv a b := by unfold wrap64; omega
    by_cases c4 : op = 47
    · rw [if_pos c4, if_pos c4, cell_Arith.j1, if_pos (by simp [c4])]
      by_cases c : b = 0
      · rw [if_pos c, if_pos c]
      · rw [if_neg c, if_neg c, if_neg (by omega), wq, fits_eq, eta2]
    rw [if_neg c4, if_neg c4]
    by_cases c5 : op = 37
    · rw [if_pos c5, cell_Arith.j1, if_pos (by simp [c5])]
      by_cases c : b = 0
      · rw [if_pos c, if_pos c]
      · rw [if_neg c, if_neg c, if_pos c5]
    · rw [if_neg c5, cell_Arith.j1, if_neg (by simp [c5])]
  · rw [if_neg hi]
    exact hout hi
theorem in_eq (n : Int) : quireref05_In.f n = some (decide (In n)) := by
  unfold quireref05_In.f
  by_cases a : n ≥ -1152921504606846976
  · rw [if_pos a]
    congr 1
    rw [Bool.eq_iff_iff]; simp; unfold In; omega
  · rw [if_neg a]
    congr 1
    rw [Bool.eq_iff_iff]; simp; unfold In; omega
theorem wrap_i (n : Int) (h : -9223372036854775808 ≤ n ∧ n < 9223372036854775808) : wrap64 n = n := by unfold wrap64; omega
theorem wrap_u (n : Int) (h : 0 ≤ n ∧ n < 18446744073709551616) : IntKind.u64.wrap n = n := by rw [wrap_u64]; omega
theorem size_eq (n : Int) (h : In n) : quireref05_size.f n = some (n.natAbs : Int) := by
  unfold In at h
  unfold quireref05_size.f
  by_cases a : n < 0
  · rw [if_pos a, wrap_i (-n) (by omega), wrap_u (-n) (by omega)]; congr 1; omega
  · rw [if_neg a, wrap_u n (by omega)]; congr 1; omega
theorem signed_eq (k : Nat) (x : Int) (m : Bool) (h : 0 ≤ x ∧ x ≤ 1152921504606846976) : quireref05_signed.f (k + 1) x m = some (fit (if m = true then -x else x)) := by
  unfold quireref05_signed.f
  cases m with
  | true =>
    rw [if_pos rfl, quireref05_signed.j0, if_pos (by simp; omega), wrap_i x (by omega), wrap_i (-x) (by omega), if_pos rfl]
    unfold fit
    rw [if_pos (show In (-x) by unfold In; omega)]
  | false =>
    rw [if_neg (by simp), quireref05_signed.j0, if_neg (by simp), if_neg (by simp)]
    have e : (if false = true then -x else x) = x := if_neg (by simp)
    rw [e]
    unfold fit
    by_cases a : x ≤ 1152921504606846975
    · rw [if_pos a, if_pos (show In x by unfold In; omega), wrap_i x (by omega)]
    · rw [if_neg a, if_neg (show ¬ In x by unfold In; omega)]
/-- A number by its size and its sign. -/
theorem by_sign (n : Int) : n = if n < 0 then -(n.natAbs : Int) else (n.natAbs : Int) := by split <;> omega
theorem tdiv_sign (a b : Int) : Int.tdiv a b = if ((decide (a < 0)) != (decide (b < 0))) = true then -((a.natAbs / b.natAbs : Nat) : Int) else ((a.natAbs / b.natAbs : Nat) : Int) := by
  have e : ∀ x y : Nat, Int.tdiv (x : Int) (y : Int) = ((x / y : Nat) : Int) := fun x y => by rw [Int.tdiv_eq_ediv_of_nonneg (by omega)]; simp
  rcases Int.lt_or_le a 0 with ha | ha <;> rcases Int.lt_or_le b 0 with hb | hb
  · have h1 : a = -(a.natAbs : Int) := by omega
    have h2 : b = -(b.natAbs : Int) := by omega
    rw [if_neg (by simp [ha, hb])]
    conv => lhs; rw [h1, h2]
    rw [Int.neg_tdiv, Int.tdiv_neg, Int.neg_neg, e]
  · have h1 : a = -(a.natAbs : Int) := by omega
    have h2 : b = (b.natAbs : Int) := by omega
    rw [if_pos (by simp [ha, Int.not_lt.2 hb])]
    conv => lhs; rw [h1, h2]
    rw [Int.neg_tdiv, e]
  · have h1 : a = (a.natAbs : Int) := by omega
    have h2 : b = -(b.natAbs : Int) := by omega
    rw [if_pos (by simp [hb, Int.not_lt.2 ha])]
    conv => lhs; rw [h1, h2]
    rw [Int.tdiv_neg, e]
  · have h1 : a = (a.natAbs : Int) := by omega
    have h2 : b = (b.natAbs : Int) := by omega
    rw [if_neg (by simp [Int.not_lt.2 ha, Int.not_lt.2 hb])]
    conv => lhs; rw [h1, h2]
    rw [e]
theorem tmod_sign (a b : Int) : Int.tmod a b = if (decide (a < 0)) = true then -((a.natAbs % b.natAbs : Nat) : Int) else ((a.natAbs % b.natAbs : Nat) : Int) := by
  have e : ∀ x y : Nat, Int.tmod (x : Int) (y : Int) = ((x % y : Nat) : Int) := fun x y => by rw [Int.tmod_eq_emod_of_nonneg (by omega)]; simp
  have hb : ∀ x : Int, Int.tmod x b = Int.tmod x (b.natAbs : Int) := by
    intro x
    rcases Int.natAbs_eq b with h | h
    · rw [← h]
    · conv => lhs; rw [h]
      rw [Int.tmod_neg]
  rw [hb]
  rcases Int.lt_or_le a 0 with ha | ha
  · have h1 : a = -(a.natAbs : Int) := by omega
    rw [if_pos (by simp [ha])]
    conv => lhs; rw [h1]
    rw [Int.neg_tmod, e]
  · have h1 : a = (a.natAbs : Int) := by omega
    rw [if_neg (by simp [Int.not_lt.2 ha])]
    conv => lhs; rw [h1]
    rw [e]
theorem mul_sign (a b : Int) : a * b = if ((decide (a < 0)) != (decide (b < 0))) = true then -((a.natAbs * b.natAbs : Nat) : Int) else ((a.natAbs * b.natAbs : Nat) : Int) := by
  rcases Int.lt_or_le a 0 with ha | ha <;> rcases Int.lt_or_le b 0 with hb | hb
  · have h1 : a = -(a.natAbs : Int) := by omega
    have h2 : b = -(b.natAbs : Int) := by omega
    rw [if_neg (by simp [ha, hb])]
    conv => lhs; rw [h1, h2]
    rw [Int.neg_mul_neg]; simp
  · have h1 : a = -(a.natAbs : Int) := by omega
    have h2 : b = (b.natAbs : Int) := by omega
    rw [if_pos (by simp [ha, Int.not_lt.2 hb])]
    conv => lhs; rw [h1, h2]
    rw [Int.neg_mul]; simp
  · have h1 : a = (a.natAbs : Int) := by omega
    have h2 : b = -(b.natAbs : Int) := by omega
    rw [if_pos (by simp [hb, Int.not_lt.2 ha])]
    conv => lhs; rw [h1, h2]
    rw [Int.mul_neg]; simp
  · have h1 : a = (a.natAbs : Int) := by omega
    have h2 : b = (b.natAbs : Int) := by omega
    rw [if_neg (by simp [Int.not_lt.2 ha, Int.not_lt.2 hb])]
    conv => lhs; rw [h1, h2]
    simp
theorem fit_zero : fit 0 = (0, 0) := rfl
theorem fit_mod (a b : Int) (ha : In a) : fit (Int.tmod a b) = (Int.tmod a b, 0) := by
  have h2 : (Int.tmod a b).natAbs ≤ a.natAbs := by rw [Int.natAbs_tmod]; exact Nat.mod_le _ _
  have hs := tmod_sign a b
  have hle : a.natAbs % b.natAbs ≤ a.natAbs := Nat.mod_le _ _
  unfold fit
  rw [if_pos]
  unfold In at *
  split at hs <;> rename_i h <;> simp at h <;> omega
theorem arith_ref (k : Nat) (op a b : Int) (ha : -9223372036854775808 ≤ a ∧ a < 9223372036854775808) (hb : -9223372036854775808 ≤ b ∧ b < 9223372036854775808) : quireref05_Arith.f (k + 9) op a b = some (ar op a b) := by
  unfold ar
  by_cases hi : In a ∧ In b
  case neg =>
    rw [if_neg hi]
    unfold quireref05_Arith.f
    have hj : ∀ m, quireref05_Arith.j0 (m + 1) op a b true = some (0, 2) := by intro m; rw [quireref05_Arith.j0, if_pos rfl]
    have hk : ((quireref05_In.f a).bind fun t115 => (if t115 = true then ((quireref05_In.f b).bind fun t116 => (quireref05_Arith.j0 (k + 9) op a b (!t116))) else (quireref05_Arith.j0 (k + 9) op a b true))) = some (0, 2) := by
      rw [in_eq a, in_eq b]
      simp only [Option.bind_some, decide_eq_true_eq]
      by_cases c : In a
      · rw [if_pos c, decide_eq_false (fun h => hi ⟨c, h⟩)]; exact hj _
      · rw [if_neg c]; exact hj _
    rw [hk, hj]
    (repeat' split) <;> rfl
  case pos =>
    rw [if_pos hi]
    obtain ⟨hia, hib⟩ := hi
    have hia' := hia
    have hib' := hib
    unfold In at hia' hib'
    have hk : ((quireref05_In.f a).bind fun t115 => (if t115 = true then ((quireref05_In.f b).bind fun t116 => (quireref05_Arith.j0 (k + 9) op a b (!t116))) else (quireref05_Arith.j0 (k + 9) op a b true))) = quireref05_Arith.j0 (k + 9) op a b false := by
      rw [in_eq a, in_eq b]
      simp only [Option.bind_some, decide_eq_true_eq]
      rw [if_pos hia, decide_eq_true hib]; rfl
    unfold quireref05_Arith.f
    rw [hk]
    have hin : ∀ n : Int, ((quireref05_In.f n).bind fun t125 => (if t125 = true then (some (n, 0)) else (some (0, 18)))) = some (fit n) := by
      intro n
      rw [in_eq n]
      simp only [Option.bind_some, decide_eq_true_eq]
      unfold fit
      split <;> rfl
    by_cases c1 : op = 43
    · subst c1
      rw [if_pos rfl, if_pos rfl, quireref05_Arith.j0, if_neg (by simp), if_neg (by decide), if_neg (by decide), quireref05_Arith.j1, if_neg (by simp), if_pos rfl, quireref05_Arith.j2, if_pos (by simp), if_neg (by decide), wrap_i (a + b) (by omega), hin]
    rw [if_neg c1]
    by_cases c2 : op = 45
    · subst c2
      rw [if_pos rfl, if_neg (by decide), if_pos rfl, quireref05_Arith.j0, if_neg (by simp), if_neg (by decide), if_neg (by decide), quireref05_Arith.j1, if_neg (by simp), if_neg (by decide), quireref05_Arith.j2, if_pos (by simp), if_pos rfl, wrap_i (a - b) (by omega), hin]
    rw [if_neg c2]
    have hqle : a.natAbs / b.natAbs ≤ a.natAbs := Nat.div_le_self _ _
    have hmle : a.natAbs % b.natAbs ≤ a.natAbs := Nat.mod_le _ _
    by_cases c3 : op = 42
    · subst c3
      rw [if_pos rfl, if_neg (by decide), if_neg (by decide), if_pos rfl, quireref05_Arith.j0, if_neg (by simp), if_neg (by decide), if_neg (by decide), quireref05_Arith.j1, if_neg (by simp), if_neg (by decide), quireref05_Arith.j2, if_neg (by decide), if_neg (by decide), if_neg (by decide), size_eq a hia, size_eq b hib]
      simp only [Option.bind_some]
      by_cases x0 : (a.natAbs : Int) = 0
      · rw [if_pos x0, quireref05_Arith.j3, if_pos rfl]
        have : a = 0 := by omega
        rw [this, Int.zero_mul, fit_zero]
      rw [if_neg x0, quireref05_Arith.j3]
      by_cases y0 : (b.natAbs : Int) = 0
      · rw [if_pos (by simp; omega)]
        have : b = 0 := by omega
        rw [this, Int.mul_zero, fit_zero]
      rw [if_neg (by simp; omega), if_neg x0]
      have hdiv : ∀ d : Int, d = Int.tdiv 1152921504606846976 (a.natAbs : Int) → d = ((1152921504606846976 / a.natAbs : Nat) : Int) := by
        intro d hd
        rw [hd, Int.tdiv_eq_ediv_of_nonneg (by omega)]
        simp
      have hdle : 1152921504606846976 / a.natAbs ≤ 1152921504606846976 := Nat.div_le_self _ _
      rw [hdiv _ rfl]
      have hcmp : b.natAbs ≤ 1152921504606846976 / a.natAbs ↔ b.natAbs * a.natAbs ≤ 1152921504606846976 := Nat.le_div_iff_mul_le (by omega)
      rw [Nat.mul_comm] at hcmp
      have hms := mul_sign a b
      have hprod : ((a.natAbs : Int) * (b.natAbs : Int)) = ((a.natAbs * b.natAbs : Nat) : Int) := by simp
      rw [hprod, hms]
      generalize a.natAbs * b.natAbs = m at *
      generalize 1152921504606846976 / a.natAbs = q at *
      rw [wrap_u (q : Int) (by omega)]
      by_cases big : (b.natAbs : Int) > (q : Int)
      · rw [if_pos big]
        have hm : ¬ m ≤ 1152921504606846976 := fun h => by have := hcmp.2 h; omega
        unfold fit
        rw [if_neg]
        unfold In
        split <;> omega
      · rw [if_neg big]
        have hm : m ≤ 1152921504606846976 := hcmp.1 (by omega)
        rw [wrap_u _ (by omega), signed_eq _ _ _ (by omega), eta2]
    rw [if_neg c3]
    by_cases c4 : op = 47
    · subst c4
      rw [if_pos rfl, if_neg (by decide), if_neg (by decide), if_neg (by decide), if_pos rfl, quireref05_Arith.j0, if_neg (by simp), if_pos rfl, quireref05_Arith.j1]
      by_cases b0 : b = 0
      · rw [if_pos (by simp [b0]), if_pos b0]
      · rw [if_neg (by simp [b0]), if_neg b0, if_neg (by decide), quireref05_Arith.j2, if_neg (by decide), if_pos rfl, size_eq a hia, size_eq b hib]
        simp only [Option.bind_some]
        have hd : Int.tdiv (a.natAbs : Int) (b.natAbs : Int) = ((a.natAbs / b.natAbs : Nat) : Int) := by rw [Int.tdiv_eq_ediv_of_nonneg (by omega)]; simp
        rw [if_neg (by omega), hd, tdiv_sign]
        generalize a.natAbs / b.natAbs = q at *
        rw [wrap_u (q : Int) (by omega)]
        by_cases s : ((decide (a < 0)) != (decide (b < 0))) = true
        · rw [if_pos s, if_pos s, signed_eq _ _ _ (by omega), eta2]
          congr 1
          by_cases z : (q : Int) > 0
          · rw [if_pos (by simpa using z)]
          · rw [if_neg (by simpa using z)]
            have : q = 0 := by omega
            rw [this]; rfl
        · rw [if_neg s, if_neg s, signed_eq _ _ _ (by omega), eta2, if_neg (by simp)]
    rw [if_neg c4]
    by_cases c5 : op = 37
    · subst c5
      rw [if_pos rfl, if_neg (by decide), if_neg (by decide), if_neg (by decide), if_neg (by decide), if_pos rfl, quireref05_Arith.j0, if_neg (by simp), if_neg (by decide), if_pos rfl, quireref05_Arith.j1]
      by_cases b0 : b = 0
      · rw [if_pos (by simp [b0]), if_pos b0]
      · have hd : Int.tmod (a.natAbs : Int) (b.natAbs : Int) = ((a.natAbs % b.natAbs : Nat) : Int) := by rw [Int.tmod_eq_emod_of_nonneg (by omega)]; simp
        rw [if_neg (by simp [b0]), if_neg b0, if_neg (by decide), quireref05_Arith.j2, if_neg (by decide), if_neg (by decide), if_pos rfl, size_eq a hia, size_eq b hib]
        simp only [Option.bind_some]
        have hts := tmod_sign a b
        rw [if_neg (by omega), hd, ← fit_mod a b hia, hts]
        generalize a.natAbs % b.natAbs = q at *
        rw [signed_eq _ _ _ (by omega), eta2]
    rw [if_neg c5, if_neg c1, if_neg c2, if_neg c3, if_neg c4, if_neg c5, quireref05_Arith.j0, if_pos rfl]
theorem CellArith : quirelaw05_CellArith.Pure := by
  intro op a b ho ha hb
  refine ⟨9, ?_⟩
  unfold quirelaw05_CellArith.f
  rw [awake_eq 8]
  simp only [Option.bind_some, if_true]
  rw [arith_eq 7 op a b (wf_i64 ha) (wf_i64 hb), arith_ref 0 op a b (wf_i64 ha) (wf_i64 hb)]
  simp

end Go.Proofs.Yteecbgfbhppoiaa.Pure
