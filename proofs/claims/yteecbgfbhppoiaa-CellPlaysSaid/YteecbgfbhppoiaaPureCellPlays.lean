/- The cells of a number, an address and a flag, and what any cell is, as the program tells them, are what the reference tells. No condition but that the numbers are of their kinds. -/
import Derived.Test.YteecbgfbhppoiaaPCellPlaysx2
namespace Go.Proofs.Yteecbgfbhppoiaa.Pure
set_option linter.unusedVariables false
set_option linter.unusedSimpArgs false
open Go.RowKit Go.Proofs.Yteecbgfbhppoiaa.PCellPlays Go.Proofs.YteecbgfbhppoiaaW.PrintWords Go.Proofs.YteecbgfbhppoiaaW.PrintLast

theorem u64_and3 (c : Int) (h0 : 0 ≤ c) (h1 : c < 18446744073709551616) : Go.bits .and .u64 c 3 = c % 4 :=
  bits_mask .u64 64 (by decide) (fun n a b => by simp [IntKind.wrap, IntKind.bits, IntKind.signed]; omega) 2 (by decide) c h0 h1
theorem u64_or1 (c : Int) (h0 : 0 ≤ c) (h1 : c < 18446744073709551616) (h : c % 4 = 0) : Go.bits .or .u64 c 1 = c + 1 :=
  bits_join .u64 64 (by decide) (fun n a b => by simp [IntKind.wrap, IntKind.bits, IntKind.signed]; omega) 2 c 1 h0 h h1 (by decide) (by decide) (by decide)
theorem wrap_u64 (n : Int) : IntKind.u64.wrap n = n % 18446744073709551616 := by simp [IntKind.wrap, IntKind.bits, IntKind.signed]
theorem wf_u64 {n : Int} (h : (Lit.int .u64 n).wf = true) : 0 ≤ n ∧ n < 18446744073709551616 := by
  simp [Lit.wf, IntKind.min, IntKind.max, IntKind.signed, IntKind.bits] at h; omega
theorem wf_i64 {n : Int} (h : (Lit.int .i64 n).wf = true) : -9223372036854775808 ≤ n ∧ n < 9223372036854775808 := by
  simp [Lit.wf, IntKind.min, IntKind.max, IntKind.signed, IntKind.bits] at h; omega
/-- What a cell is. -/
def kd (c : Int) : Int := if c % 4 = 0 then (if c < 4611686018427387904 ∨ 13835058055282163712 ≤ c then 1 else 0) else if c % 4 = 1 then 2 else if c = 2 ∨ c = 6 then 3 else 0
theorem kind_eq (k : Nat) (c : Int) (h0 : 0 ≤ c) (h1 : c < 18446744073709551616) : cell_Kind.f (k + 1) c = some (kd c) := by
  unfold cell_Kind.f kd
  rw [u64_and3 c h0 h1]
  by_cases a : c % 4 = 0
  · rw [if_pos a, if_pos a]
    by_cases b : c < 4611686018427387904 ∨ 13835058055282163712 ≤ c
    · rw [if_pos b, if_pos (by unfold wrap64; omega)]
      simp only [cell_Kind.j0]
      rw [if_pos (by unfold wrap64; simp; omega)]
    · rw [if_neg b]
      have hne : c ≠ 2 ∧ c ≠ 6 := by omega
      split <;> simp only [cell_Kind.j0, cell_Flag.f]
      · rw [if_neg (by unfold wrap64 at *; simp; omega), u64_and3 c h0 h1, if_neg (by omega)]
        simp [hne.1, hne.2]
      · rw [if_neg (by simp), u64_and3 c h0 h1, if_neg (by omega)]
        simp [hne.1, hne.2]
  · rw [if_neg a, if_neg a]
    simp only [cell_Kind.j0, cell_Flag.f]
    rw [if_neg (by simp), u64_and3 c h0 h1]
    by_cases b : c % 4 = 1
    · rw [if_pos b, if_pos b]
    · rw [if_neg b, if_neg b]
      by_cases e : c = 2
      · subst e; simp
      · by_cases f : c = 6
        · subst f; simp
        · simp [e, f]
theorem awake_eq (k : Nat) : quirelaw05_awake.f (k + 1) = some true := by
  unfold quirelaw05_awake.f
  rw [kind_eq k 4 (by omega) (by omega)]
  rfl
theorem rkind_eq (c : Int) (h0 : 0 ≤ c) (h1 : c < 18446744073709551616) : quireref05_Kind.f c = some (kd c) := by
  unfold quireref05_Kind.f kd quireref05_whole.f quireref05_In.f
  rw [Int.tmod_eq_emod_of_nonneg h0]
  by_cases a : c % 4 = 0
  · rw [if_pos a, if_pos a]
    simp only [Option.bind_some]
    have hw : wrap64 (Int.tdiv (wrap64 c) 4) = if c < 9223372036854775808 then c / 4 else (c - 18446744073709551616) / 4 := by
      split
      · have : wrap64 c = c := by unfold wrap64; omega
        rw [this, Int.tdiv_eq_ediv_of_nonneg h0]
        unfold wrap64; omega
      · have : wrap64 c = -(18446744073709551616 - c) := by unfold wrap64; omega
        rw [this, Int.neg_tdiv, Int.tdiv_eq_ediv_of_nonneg (by omega)]
        unfold wrap64; omega
    rw [hw]
    by_cases b : c < 4611686018427387904 ∨ 13835058055282163712 ≤ c
    · rw [if_pos b, if_pos (by split <;> omega)]
      simp
      split <;> omega
    · rw [if_neg b]
      by_cases d : c < 9223372036854775808
      · rw [if_pos d, if_pos (by omega)]
        simp; omega
      · rw [if_neg d, if_neg (by omega)]
        simp
  · rw [if_neg a, if_neg a]
    by_cases b : c % 4 = 1
    · rw [if_pos b, if_pos b]
    · rw [if_neg b, if_neg b]
      by_cases e : c = 2
      · subst e; simp
      · by_cases f : c = 6
        · subst f; simp
        · simp [e, f]
theorem whole_eq (c : Int) (h0 : 0 ≤ c) (h1 : c < 18446744073709551616) (h : c % 4 = 0) : quireref05_whole.f c = some (wrap64 c / 4) := by
  unfold quireref05_whole.f
  by_cases d : c < 9223372036854775808
  · have : wrap64 c = c := by unfold wrap64; omega
    rw [this, Int.tdiv_eq_ediv_of_nonneg h0]
    congr 1; unfold wrap64; omega
  · have : wrap64 c = -(18446744073709551616 - c) := by unfold wrap64; omega
    rw [this, Int.neg_tdiv, Int.tdiv_eq_ediv_of_nonneg (by omega)]
    congr 1; unfold wrap64; omega
theorem fix_eq (n : Int) (h : -9223372036854775808 ≤ n ∧ n < 9223372036854775808) : cell_Fix.f n = quireref05_Fix.f n := by
  unfold cell_Fix.f quireref05_Fix.f quireref05_In.f
  by_cases a : n < -1152921504606846976
  · rw [if_pos a, if_neg (by omega)]; simp
  · rw [if_neg a, if_pos (show n ≥ -1152921504606846976 by omega)]
    by_cases b : n > 1152921504606846975
    · rw [if_pos b]; simp; omega
    · rw [if_neg b]
      have : decide (n ≤ 1152921504606846975) = true := by simp; omega
      rw [this]
      simp only [Option.bind_some, if_true, wrap_u64]
      congr 2
      unfold wrap64; omega
theorem ptr_eq (n : Int) (h : 0 ≤ n ∧ n < 18446744073709551616) : cell_Ptr.f n = quireref05_Ptr.f n := by
  unfold cell_Ptr.f quireref05_Ptr.f
  by_cases a : n ≥ 4611686018427387904
  · rw [if_pos a, if_pos a]
  · rw [if_neg a, if_neg a]
    simp only [wrap_u64]
    rw [u64_or1 _ (by omega) (by omega) (by omega)]
    congr 2; omega
theorem kd_one {c : Int} (h : kd c = 1) : c % 4 = 0 := by
  unfold kd at h
  by_cases a : c % 4 = 0
  · exact a
  · rw [if_neg a] at h; split at h <;> (try split at h) <;> omega
theorem num_eq (k : Nat) (c : Int) (h0 : 0 ≤ c) (h1 : c < 18446744073709551616) : cell_Num.f (k + 1) c = quireref05_Num.f c := by
  unfold cell_Num.f quireref05_Num.f
  rw [kind_eq k c h0 h1, rkind_eq c h0 h1]
  simp only [Option.bind_some]
  by_cases a : kd c = 1
  · rw [if_pos a, if_pos a, whole_eq c h0 h1 (kd_one a)]; rfl
  · rw [if_neg a, if_neg a]
theorem addr_eq (k : Nat) (c : Int) (h0 : 0 ≤ c) (h1 : c < 18446744073709551616) : cell_Addr.f (k + 1) c = quireref05_Addr.f c := by
  unfold cell_Addr.f quireref05_Addr.f
  rw [kind_eq k c h0 h1, rkind_eq c h0 h1]
  simp only [Option.bind_some]
  by_cases a : kd c = 2
  · rw [if_pos a, if_pos a, wrap_u64, Int.tdiv_eq_ediv_of_nonneg h0]
    congr 2; omega
  · rw [if_neg a, if_neg a]
theorem bool_eq (k : Nat) (c : Int) (h0 : 0 ≤ c) (h1 : c < 18446744073709551616) : cell_Bool.f (k + 1) c = quireref05_Bool.f c := by
  unfold cell_Bool.f quireref05_Bool.f
  rw [kind_eq k c h0 h1, rkind_eq c h0 h1]
  simp [cell_Flag.f]
theorem rfix_some (n : Int) : ∃ x, quireref05_Fix.f n = some x := by
  unfold quireref05_Fix.f quireref05_In.f
  split <;> simp <;> split <;> exact ⟨_, _, rfl⟩
theorem rptr_some (n : Int) : ∃ x, quireref05_Ptr.f n = some x := by
  unfold quireref05_Ptr.f
  split <;> exact ⟨_, rfl⟩
theorem rnum_some (n : Int) (h0 : 0 ≤ n) (h1 : n < 18446744073709551616) : ∃ x, quireref05_Num.f n = some x := by
  unfold quireref05_Num.f quireref05_whole.f
  rw [rkind_eq n h0 h1]
  simp only [Option.bind_some]
  split <;> exact ⟨_, rfl⟩
theorem raddr_some (n : Int) (h0 : 0 ≤ n) (h1 : n < 18446744073709551616) : ∃ x, quireref05_Addr.f n = some x := by
  unfold quireref05_Addr.f
  rw [rkind_eq n h0 h1]
  simp only [Option.bind_some]
  split <;> exact ⟨_, rfl⟩
theorem rbool_some (n : Int) (h0 : 0 ≤ n) (h1 : n < 18446744073709551616) : ∃ x, quireref05_Bool.f n = some x := by
  unfold quireref05_Bool.f
  rw [rkind_eq n h0 h1]
  simp only [Option.bind_some]
  split <;> exact ⟨_, rfl⟩
theorem CellPlays : quirelaw05_CellPlays.Pure := by
  intro n a c hn ha hc
  obtain ⟨c0, c1⟩ := wf_u64 hc
  obtain ⟨x, hx⟩ := rfix_some n
  obtain ⟨y, hy⟩ := rptr_some a
  obtain ⟨z, hz⟩ := rnum_some c c0 c1
  obtain ⟨u, hu⟩ := raddr_some c c0 c1
  obtain ⟨v, hv⟩ := rbool_some c c0 c1
  refine ⟨3, ?_⟩
  unfold quirelaw05_CellPlays.f
  rw [awake_eq 2, fix_eq n (wf_i64 hn), ptr_eq a (wf_u64 ha), kind_eq 2 c c0 c1, rkind_eq c c0 c1, hx, hy]
  simp only [Option.bind_some, if_true, bne_self_eq_false, quirelaw05_CellPlays.j0]
  rw [num_eq 1 c c0 c1, addr_eq 1 c c0 c1, bool_eq 1 c c0 c1, hz, hu, hv]
  simp

end Go.Proofs.Yteecbgfbhppoiaa.Pure
