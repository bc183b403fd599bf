/- What is added is taken away again; quotient times divisor and rest is the number; sums and products can be turned round. No condition but that the numbers are of their kinds. -/
import Derived.Test.YteecbgfbhppoiaaPCellLawsx2
namespace Go.Proofs.Yteecbgfbhppoiaa.Pure
set_option linter.unusedVariables false
set_option linter.unusedSimpArgs false
open Go.RowKit Go.Proofs.Yteecbgfbhppoiaa.PCellLaws Go.Proofs.YteecbgfbhppoiaaW.PrintWords Go.Proofs.YteecbgfbhppoiaaW.PrintLast Go.Proofs.YteecbgfbhppoiaaW.PrintMore
theorem u64_and3 (c : Int) (h0 : 0 ≤ c) (h1 : c < 18446744073709551616) : Go.bits .and .u64 c 3 = c % 4 :=
  bits_mask .u64 64 (by decide) (fun n a b => by simp [IntKind.wrap, IntKind.bits, IntKind.signed]; omega) 2 (by decide) c h0 h1
theorem u64_or1 (c : Int) (h0 : 0 ≤ c) (h1 : c < 18446744073709551616) (h : c % 4 = 0) : Go.bits .or .u64 c 1 = c + 1 :=
  bits_join .u64 64 (by decide) (fun n a b => by simp [IntKind.wrap, IntKind.bits, IntKind.signed]; omega) 2 c 1 h0 h h1 (by decide) (by decide) (by decide)
theorem wrap_u64 (n : Int) : IntKind.u64.wrap n = n % 18446744073709551616 := by simp [IntKind.wrap, IntKind.bits, IntKind.signed]
theorem wf_u64 {n : Int} (h : (Lit.int .u64 n).wf = true) : 0 ≤ n ∧ n < 18446744073709551616 := by
  simp [Lit.wf, IntKind.min, IntKind.max, IntKind.signed, IntKind.bits] at h; omega
theorem wf_i64 {n : Int} (h : (Lit.int .i64 n).wf = true) : -9223372036854775808 ≤ n ∧ n < 9223372036854775808 := by
  simp [Lit.wf, IntKind.min, IntKind.max, IntKind.signed, IntKind.bits] at h; omega
/-- What a cell is. -/
def kd (c : Int) : Int := if c % 4 = 0 then (if c < 4611686018427387904 ∨ 13835058055282163712 ≤ c then 1 else 0) else if c % 4 = 1 then 2 else if c = 2 ∨ c = 6 then 3 else 0
theorem kind_eq (k : Nat) (c : Int) (h0 : 0 ≤ c) (h1 : c < 18446744073709551616) : cell_Kind.f (k + 1) c = some (kd c) := by
  unfold cell_Kind.f kd
  rw [u64_and3 c h0 h1]
  by_cases a : c % 4 = 0
  · rw [if_pos a, if_pos a]
    by_cases b : c < 4611686018427387904 ∨ 13835058055282163712 ≤ c
    · rw [if_pos b, if_pos (by unfold wrap64; omega)]
      simp only [cell_Kind.j0]
      rw [if_pos (by unfold wrap64; simp; omega)]
    · rw [if_neg b]
      have hne : c ≠ 2 ∧ c ≠ 6 := by omega
      split <;> simp only [cell_Kind.j0, cell_Flag.f]
      · rw [if_neg (by unfold wrap64 at *; simp; omega), u64_and3 c h0 h1, if_neg (by omega)]
        simp [hne.1, hne.2]
      · rw [if_neg (by simp), u64_and3 c h0 h1, if_neg (by omega)]
        simp [hne.1, hne.2]
  · rw [if_neg a, if_neg a]
    simp only [cell_Kind.j0, cell_Flag.f]
    rw [if_neg (by simp), u64_and3 c h0 h1]
    by_cases b : c % 4 = 1
    · rw [if_pos b, if_pos b]
    · rw [if_neg b, if_neg b]
      by_cases e : c = 2
      · subst e; simp
      · by_cases f : c = 6
        · subst f; simp
        · simp [e, f]
theorem awake_eq (k : Nat) : quirelaw05_awake.f (k + 1) = some true := by
  unfold quirelaw05_awake.f
  rw [kind_eq k 4 (by omega) (by omega)]
  rfl
/-- May a number be one? -/
def In (n : Int) : Prop := -1152921504606846976 ≤ n ∧ n ≤ 1152921504606846975
instance (n : Int) : Decidable (In n) := by unfold In; exact inferInstance
def fit (n : Int) : Int × Int := if In n then (n, 0) else (0, 18)
/-- What comes of two numbers. -/
def ar (op a b : Int) : Int × Int :=
  if In a ∧ In b then
    if op = 43 then fit (a + b) else if op = 45 then fit (a - b) else if op = 42 then fit (a * b)
    else if op = 47 then (if b = 0 then (0, 19) else fit (Int.tdiv a b))
    else if op = 37 then (if b = 0 then (0, 19) else (Int.tmod a b, 0)) else (0, 2)
  else (0, 2)
theorem fits_eq (n : Int) : cell_fits.f n = some (fit n) := by
  unfold cell_fits.f fit
  by_cases a : n < -1152921504606846976
  · rw [if_pos a, if_neg (show ¬ In n by unfold In; omega)]
  · rw [if_neg a]
    by_cases b : n > 1152921504606846975
    · rw [if_pos b, if_neg (show ¬ In n by unfold In; omega)]
    · rw [if_neg b, if_pos (show In n by unfold In; omega)]
theorem tdiv_abs (a b : Int) : (Int.tdiv a b).natAbs ≤ a.natAbs := by
  rw [Int.natAbs_tdiv]; exact Nat.div_le_self _ _
theorem mul_case (a b : Int) (ha : In a) (hb : In b) (h0 : a ≠ 0) :
    (if (wrap64 (Int.tdiv (wrap64 (a * b)) a)) = b then (if (Int.tmod (wrap64 (a * b)) a) = 0 then some (fit (wrap64 (a * b))) else some (0, 18)) else some (0, 18)) = some (fit (a * b)) := by
  unfold In at ha hb
  by_cases h : In (a * b)
  · have hw : wrap64 (a * b) = a * b := by unfold In at h; unfold wrap64; omega
    rw [hw, Int.mul_tdiv_cancel_left _ h0, Int.mul_tmod_right]
    have : wrap64 b = b := by unfold wrap64; omega
    rw [if_pos this, if_pos rfl]
  · have hf : fit (a * b) = (0, 18) := by unfold fit; rw [if_neg h]
    rw [hf]
    by_cases c : wrap64 (Int.tdiv (wrap64 (a * b)) a) = b
    · rw [if_pos c]
      by_cases d : Int.tmod (wrap64 (a * b)) a = 0
      · rw [if_pos d]
        have hq := tdiv_abs (wrap64 (a * b)) a
        have hm : a * (Int.tdiv (wrap64 (a * b)) a) + Int.tmod (wrap64 (a * b)) a = wrap64 (a * b) := Int.mul_tdiv_add_tmod _ _
        have hb1 : -9223372036854775808 ≤ wrap64 (a * b) ∧ wrap64 (a * b) < 9223372036854775808 := by unfold wrap64; omega
        generalize wrap64 (a * b) = n at *
        generalize Int.tdiv n a = q at *
        have hqb : q = b := by unfold wrap64 at c; omega
        rw [d, hqb] at hm
        have : n = a * b := by omega
        rw [this, hf]
      · rw [if_neg d]
    · rw [if_neg c]
theorem eta2 (p : Int × Int) : (some p).bind (fun bt => some (bt.1, bt.2)) = some p := rfl
theorem arith_eq (k : Nat) (op a b : Int) (ha : -9223372036854775808 ≤ a ∧ a < 9223372036854775808) (hb : -9223372036854775808 ≤ b ∧ b < 9223372036854775808) : cell_Arith.f (k + 2) op a b = some (ar op a b) := by
  have hout : ¬ (In a ∧ In b) → cell_Arith.f (k + 2) op a b = some (0, 2) := by
    intro h
    unfold cell_Arith.f mn mx
    unfold In at h
    by_cases c : (if b < a then b else a) < -1152921504606846976
    · rw [if_pos c, cell_Arith.j0, if_pos rfl]
    · rw [if_neg c, cell_Arith.j0, if_pos]
      simp
      split at c <;> split <;> omega
  unfold ar
  by_cases hi : In a ∧ In b
  · rw [if_pos hi]
    obtain ⟨hia, hib⟩ := hi
    have hia' := hia
    have hib' := hib
    unfold In at hia' hib'
    have h1 : ¬ (mn a b) < -1152921504606846976 := by unfold mn; split <;> omega
    have h2 : decide ((mx a b) > 1152921504606846975) = false := by unfold mx; simp; split <;> omega
    unfold cell_Arith.f
    rw [if_neg h1, h2, cell_Arith.j0, if_neg (by simp)]
    have w1 : wrap64 (a + b) = a + b := by unfold wrap64; omega
    have w2 : wrap64 (a - b) = a - b := by unfold wrap64; omega
    by_cases c1 : op = 43
    · rw [if_pos c1, if_pos c1, w1, fits_eq, eta2]
    rw [if_neg c1, if_neg c1]
    by_cases c2 : op = 45
    · rw [if_pos c2, if_pos c2, w2, fits_eq, eta2]
    rw [if_neg c2, if_neg c2]
    by_cases c3 : op = 42
    · rw [if_pos c3, if_pos c3]
      by_cases c : a = 0
      · rw [if_pos c, c, fits_eq, eta2]
        have : wrap64 (0 * b) = 0 * b := by rw [Int.zero_mul]; unfold wrap64; omega
        rw [this]
      · rw [if_neg c, fits_eq, eta2]
        exact mul_case a b hia hib c
    rw [if_neg c3, if_neg c3]
    have hq := tdiv_abs a b
    have wq : wrap64 (Int.tdiv a b) = Int.tdiv a b := by unfold wrap64; omega
    by_cases c4 : op = 47
    · rw [if_pos c4, if_pos c4, cell_Arith.j1, if_pos (by simp [c4])]
      by_cases c : b = 0
      · rw [if_pos c, if_pos c]
      · rw [if_neg c, if_neg c, if_neg (by omega), wq, fits_eq, eta2]
    rw [if_neg c4, if_neg c4]
    by_cases c5 : op = 37
    · rw [if_pos c5, cell_Arith.j1, if_pos (by simp [c5])]
      by_cases c : b = 0
      · rw [if_pos c, if_pos c]
      · rw [if_neg c, if_neg c, if_pos c5]
    · rw [if_neg c5, cell_Arith.j1, if_neg (by simp [c5])]
  · rw [if_neg hi]
    exact hout hi
theorem in_eq (n : Int) : quireref05_In.f n = some (decide (In n)) := by
  unfold quireref05_In.f
  by_cases a : n ≥ -1152921504606846976
  · rw [if_pos a]
    congr 1
    rw [Bool.eq_iff_iff]; simp; unfold In; omega
  · rw [if_neg a]
    congr 1
    rw [Bool.eq_iff_iff]; simp; unfold In; omega
theorem tmod_facts (a b : Int) : (0 ≤ a → 0 ≤ Int.tmod a b ∧ Int.tmod a b ≤ a) ∧ (a ≤ 0 → Int.tmod a b ≤ 0 ∧ a ≤ Int.tmod a b) := by
  constructor
  · intro h
    have h1 := Int.tmod_nonneg b h
    have h2 : (Int.tmod a b).natAbs ≤ a.natAbs := by rw [Int.natAbs_tmod]; exact Nat.mod_le _ _
    omega
  · intro h
    have h1 := Int.tmod_nonneg b (show 0 ≤ -a by omega)
    rw [Int.neg_tmod] at h1
    have h2 : (Int.tmod a b).natAbs ≤ a.natAbs := by rw [Int.natAbs_tmod]; exact Nat.mod_le _ _
    omega
theorem quot_over (a b : Int) (ha : In a) (hb : In b) (h0 : b ≠ 0) (h : ¬ In (Int.tdiv a b)) : a = -1152921504606846976 ∧ b = -1 ∧ Int.tmod a b = 0 := by
  unfold In at *
  have hq := tdiv_abs a b
  have hm := Int.mul_tdiv_add_tmod a b
  obtain ⟨f1, f2⟩ := tmod_facts a b
  have hqa : Int.tdiv a b = 1152921504606846976 := by omega
  have haa : a = -1152921504606846976 := by omega
  rw [hqa] at hm
  obtain ⟨g1, g2⟩ := f2 (by omega)
  refine ⟨haa, by omega, by omega⟩
theorem fit_in {n : Int} (h : In n) : fit n = (n, 0) := if_pos h
theorem fit_out {n : Int} (h : ¬ In n) : fit n = (0, 18) := if_neg h
theorem CellLaws : quirelaw05_CellLaws.Pure := by
  intro a b ha hb
  have ha := wf_i64 ha
  have hb := wf_i64 hb
  refine ⟨9, ?_⟩
  unfold quirelaw05_CellLaws.f
  rw [awake_eq 8]
  simp only [Option.bind_some, if_true]
  have hbad : ¬ (In a ∧ In b) → quirelaw05_CellLaws.j0 9 a b true = some true := by
    intro h
    rw [quirelaw05_CellLaws.j0, if_pos rfl, arith_eq 6 43 a b ha hb]
    unfold ar
    rw [if_neg h]
    rfl
  rw [in_eq a]
  simp only [Option.bind_some, decide_eq_true_eq]
  by_cases ia : In a
  · rw [if_pos ia, in_eq b]
    simp only [Option.bind_some]
    by_cases ib : In b
    · have iab : In a ∧ In b := ⟨ia, ib⟩
      have iba : In b ∧ In a := ⟨ib, ia⟩
      rw [decide_eq_true ib, quirelaw05_CellLaws.j0, if_neg (by simp), arith_eq 6 43 a b ha hb, arith_eq 6 43 b a hb ha, arith_eq 6 42 a b ha hb, arith_eq 6 42 b a hb ha]
      have e1 : ar 43 a b = fit (a + b) := by unfold ar; rw [if_pos iab, if_pos rfl]
      have e2 : ar 43 b a = fit (a + b) := by unfold ar; rw [if_pos iba, if_pos rfl, Int.add_comm]
      have e3 : ar 42 a b = fit (a * b) := by unfold ar; rw [if_pos iab, if_neg (by decide), if_neg (by decide), if_pos rfl]
      have e4 : ar 42 b a = fit (a * b) := by unfold ar; rw [if_pos iba, if_neg (by decide), if_neg (by decide), if_pos rfl, Int.mul_comm]
      rw [e1, e2, e3, e4]
      simp only [Option.bind_some, if_true, bne_self_eq_false]
      rw [quirelaw05_CellLaws.j1, if_neg (by simp)]
      have t2 : quirelaw05_CellLaws.j2 7 a b (fit (a * b)).1 = some true := by
        rw [quirelaw05_CellLaws.j2, arith_eq 4 47 a b ha hb, arith_eq 4 37 a b ha hb]
        by_cases b0 : b = 0
        · rw [if_pos b0]
          have d1 : ar 47 a b = (0, 19) := by unfold ar; rw [if_pos iab, if_neg (by decide), if_neg (by decide), if_neg (by decide), if_pos rfl, if_pos b0]
          have d2 : ar 37 a b = (0, 19) := by unfold ar; rw [if_pos iab, if_neg (by decide), if_neg (by decide), if_neg (by decide), if_neg (by decide), if_pos rfl, if_pos b0]
          have d3 : (fit (a * b)).1 = 0 := by rw [b0, Int.mul_zero]; rfl
          rw [d1, d2, d3]
          rfl
        · rw [if_neg b0]
          have d1 : ar 47 a b = fit (Int.tdiv a b) := by unfold ar; rw [if_pos iab, if_neg (by decide), if_neg (by decide), if_neg (by decide), if_pos rfl, if_neg b0]
          have d2 : ar 37 a b = (Int.tmod a b, 0) := by unfold ar; rw [if_pos iab, if_neg (by decide), if_neg (by decide), if_neg (by decide), if_neg (by decide), if_pos rfl, if_neg b0]
          rw [d1, d2]
          simp only [Option.bind_some, if_true]
          by_cases iq : In (Int.tdiv a b)
          · rw [fit_in iq]
            simp only [if_true]
            have hm := Int.mul_tdiv_add_tmod a b
            obtain ⟨f1, f2⟩ := tmod_facts a b
            have iq' := iq
            have ia' := ia
            unfold In at iq' ia'
            have hmm : Int.tdiv a b * b = a - Int.tmod a b := by rw [Int.mul_comm]; omega
            have im : In (Int.tdiv a b * b) := by
              rw [hmm]; unfold In
              rcases Int.le_total 0 a with h | h
              · have := f1 h; omega
              · have := f2 h; omega
            have it : In (Int.tmod a b) := by
              unfold In
              rcases Int.le_total 0 a with h | h
              · have := f1 h; omega
              · have := f2 h; omega
            have im' := im
            have it' := it
            unfold In at im' it'
            rw [arith_eq 4 42 _ b (by omega) hb]
            have d3 : ar 42 (Int.tdiv a b) b = (Int.tdiv a b * b, 0) := by unfold ar; rw [if_pos ⟨iq, ib⟩, if_neg (by decide), if_neg (by decide), if_pos rfl, fit_in im]
            rw [d3]
            simp only [Option.bind_some]
            rw [arith_eq 4 43 _ _ (by omega) (by omega)]
            have d4 : ar 43 (Int.tdiv a b * b) (Int.tmod a b) = (a, 0) := by
              unfold ar
              rw [if_pos ⟨im, it⟩, if_pos rfl, hmm, show a - Int.tmod a b + Int.tmod a b = a by omega, fit_in ia]
            rw [d4]
            simp only [Option.bind_some, if_true]
            by_cases r0 : Int.tmod a b = 0
            · rw [if_pos r0]
            · rw [if_neg r0]
              congr 1
              rw [beq_iff_eq, Bool.eq_iff_iff]
              simp
              constructor
              · intro h
                rcases Int.lt_or_le a 0 with g | g
                · exact g
                · have := f1 g; omega
              · intro h
                have := f2 (by omega); omega
          · obtain ⟨q1, q2, q3⟩ := quot_over a b ia ib b0 iq
            rw [fit_out iq, q3]
            simp [q1, q2]
      by_cases is : In (a + b)
      · rw [fit_in is]
        simp only [if_true]
        have is' := is
        unfold In at is'
        rw [arith_eq 5 45 _ b (by omega) hb]
        have d1 : ar 45 (a + b) b = (a, 0) := by
          unfold ar; rw [if_pos ⟨is, ib⟩, if_neg (by decide), if_pos rfl, show a + b - b = a by omega, fit_in ia]
        rw [d1]
        simpa using t2
      · rw [fit_out is]
        simpa using t2
    · rw [decide_eq_false ib]
      exact hbad (fun h => ib h.2)
  · rw [if_neg ia]
    exact hbad (fun h => ia h.1)

end Go.Proofs.Yteecbgfbhppoiaa.Pure
