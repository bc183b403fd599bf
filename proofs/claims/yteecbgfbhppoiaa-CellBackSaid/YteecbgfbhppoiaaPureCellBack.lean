/- A number, an address and a flag are read from their cells again, each as its own kind alone. No condition but that the numbers are of their kinds. -/
import Derived.Test.YteecbgfbhppoiaaPCellBackx2
namespace Go.Proofs.Yteecbgfbhppoiaa.Pure
set_option linter.unusedVariables false
set_option linter.unusedSimpArgs false
open Go.RowKit Go.Proofs.Yteecbgfbhppoiaa.PCellBack Go.Proofs.YteecbgfbhppoiaaW.PrintWords Go.Proofs.YteecbgfbhppoiaaW.PrintLast Go.Proofs.YteecbgfbhppoiaaW.PrintMore
theorem u64_and3 (c : Int) (h0 : 0 ≤ c) (h1 : c < 18446744073709551616) : Go.bits .and .u64 c 3 = c % 4 :=
  bits_mask .u64 64 (by decide) (fun n a b => by simp [IntKind.wrap, IntKind.bits, IntKind.signed]; omega) 2 (by decide) c h0 h1
theorem u64_or1 (c : Int) (h0 : 0 ≤ c) (h1 : c < 18446744073709551616) (h : c % 4 = 0) : Go.bits .or .u64 c 1 = c + 1 :=
  bits_join .u64 64 (by decide) (fun n a b => by simp [IntKind.wrap, IntKind.bits, IntKind.signed]; omega) 2 c 1 h0 h h1 (by decide) (by decide) (by decide)
theorem wrap_u64 (n : Int) : IntKind.u64.wrap n = n % 18446744073709551616 := by simp [IntKind.wrap, IntKind.bits, IntKind.signed]
theorem wf_u64 {n : Int} (h : (Lit.int .u64 n).wf = true) : 0 ≤ n ∧ n < 18446744073709551616 := by
  simp [Lit.wf, IntKind.min, IntKind.max, IntKind.signed, IntKind.bits] at h; omega
theorem wf_i64 {n : Int} (h : (Lit.int .i64 n).wf = true) : -9223372036854775808 ≤ n ∧ n < 9223372036854775808 := by
  simp [Lit.wf, IntKind.min, IntKind.max, IntKind.signed, IntKind.bits] at h; omega
/-- What a cell is. -/
def kd (c : Int) : Int := if c % 4 = 0 then (if c < 4611686018427387904 ∨ 13835058055282163712 ≤ c then 1 else 0) else if c % 4 = 1 then 2 else if c = 2 ∨ c = 6 then 3 else 0
theorem kind_eq (k : Nat) (c : Int) (h0 : 0 ≤ c) (h1 : c < 18446744073709551616) : cell_Kind.f (k + 1) c = some (kd c) := by
  unfold cell_Kind.f kd
  rw [u64_and3 c h0 h1]
  by_cases a : c % 4 = 0
  · rw [if_pos a, if_pos a]
    by_cases b : c < 4611686018427387904 ∨ 13835058055282163712 ≤ c
    · rw [if_pos b, if_pos (by unfold wrap64; omega)]
      simp only [cell_Kind.j0]
      rw [if_pos (by unfold wrap64; simp; omega)]
    · rw [if_neg b]
      have hne : c ≠ 2 ∧ c ≠ 6 := by omega
      split <;> simp only [cell_Kind.j0, cell_Flag.f]
      · rw [if_neg (by unfold wrap64 at *; simp; omega), u64_and3 c h0 h1, if_neg (by omega)]
        simp [hne.1, hne.2]
      · rw [if_neg (by simp), u64_and3 c h0 h1, if_neg (by omega)]
        simp [hne.1, hne.2]
  · rw [if_neg a, if_neg a]
    simp only [cell_Kind.j0, cell_Flag.f]
    rw [if_neg (by simp), u64_and3 c h0 h1]
    by_cases b : c % 4 = 1
    · rw [if_pos b, if_pos b]
    · rw [if_neg b, if_neg b]
      by_cases e : c = 2
      · subst e; simp
      · by_cases f : c = 6
        · subst f; simp
        · simp [e, f]
theorem awake_eq (k : Nat) : quirelaw05_awake.f (k + 1) = some true := by
  unfold quirelaw05_awake.f
  rw [kind_eq k 4 (by omega) (by omega)]
  rfl
theorem CellBack : quirelaw05_CellBack.Pure := by
  intro n a b hn ha
  obtain ⟨n0, n1⟩ := wf_i64 hn
  obtain ⟨a0, a1⟩ := wf_u64 ha
  refine ⟨9, ?_⟩
  unfold quirelaw05_CellBack.f
  rw [awake_eq 8]
  simp only [Option.bind_some, if_true]
  -- behind the number
  have tail : ∀ e : Int, (e = 0 ↔ (-1152921504606846976 ≤ n ∧ n ≤ 1152921504606846975)) → quirelaw05_CellBack.j0 9 n a b e = some true := by
    intro e he
    rw [quirelaw05_CellBack.j0]
    have t1 : quirelaw05_CellBack.j1 8 n b e = some true := by
      rw [quirelaw05_CellBack.j1]
      have hk : ∀ m : Nat, cell_Kind.f (m + 1) (if b = true then 6 else 2) = some 3 := by
        intro m
        rw [kind_eq m _ (by split <;> omega) (by split <;> omega)]
        cases b <;> rfl
      have hf : cell_Flag.f b = some (if b = true then 6 else 2) := by unfold cell_Flag.f; split <;> rfl
      rw [hf]
      simp only [Option.bind_some]
      unfold cell_Bool.f
      rw [hk 6]
      simp only [Option.bind_some, cell_Flag.f, if_true]
      have hb : (((if b = true then (6 : Int) else 2) == 6) == b) = true := by cases b <;> rfl
      rw [if_pos hb]
      unfold quireref05_In.f
      by_cases c : n ≥ -1152921504606846976
      · rw [if_pos c]
        simp only [Option.bind_some]
        congr 1
        rw [beq_iff_eq, Bool.eq_iff_iff]
        simp [he]; omega
      · rw [if_neg c]
        simp only [Option.bind_some]
        congr 1
        rw [beq_iff_eq, Bool.eq_iff_iff]
        simp [he]; omega
    by_cases c : a ≥ 4611686018427387904
    · have : cell_Ptr.f a = some (0, 18) := by unfold cell_Ptr.f; rw [if_pos c]
      rw [this]
      simp only [Option.bind_some]
      rw [if_neg (by decide)]
      exact t1
    · have hp : cell_Ptr.f a = some (4 * a + 1, 0) := by
        unfold cell_Ptr.f
        rw [if_neg c, wrap_u64, u64_or1 _ (by omega) (by omega) (by omega)]
        congr 2; omega
      have hkd : kd (4 * a + 1) = 2 := by unfold kd; rw [if_neg (by omega), if_pos (by omega)]
      have hk : ∀ m : Nat, cell_Kind.f (m + 1) (4 * a + 1) = some 2 := by
        intro m; rw [kind_eq m _ (by omega) (by omega), hkd]
      rw [hp]
      simp only [Option.bind_some, if_true]
      unfold cell_Addr.f cell_Num.f
      rw [hk 7]
      have e : (4 * a + 1) / 4 = a := by omega
      simp [e]
      exact t1
  by_cases c : -1152921504606846976 ≤ n ∧ n ≤ 1152921504606846975
  · obtain ⟨x, hx, x0, x1, x4, xn⟩ : ∃ x : Int, cell_Fix.f n = some (x, 0) ∧ 0 ≤ x ∧ x < 18446744073709551616 ∧ x % 4 = 0 ∧ wrap64 x / 4 = n := by
      refine ⟨IntKind.u64.wrap (IntKind.u64.wrap n * 4), ?_, ?_, ?_, ?_, ?_⟩
      · unfold cell_Fix.f; rw [if_neg (by omega), if_neg (by omega)]
      · rw [wrap_u64]; omega
      · rw [wrap_u64]; omega
      · rw [wrap_u64, wrap_u64]; omega
      · rw [wrap_u64, wrap_u64]; unfold wrap64; omega
    have hkd : kd x = 1 := by
      unfold kd
      rw [if_pos x4, if_pos]
      unfold wrap64 at xn
      omega
    have hk : ∀ m : Nat, cell_Kind.f (m + 1) x = some 1 := by
      intro m; rw [kind_eq m _ x0 x1, hkd]
    rw [hx]
    simp only [Option.bind_some, if_true]
    unfold cell_Addr.f cell_Num.f cell_Bool.f
    rw [hk 8]
    simp [xn]
    exact tail 0 (by simpa using c)
  · have : cell_Fix.f n = some (0, 18) := by
      unfold cell_Fix.f
      by_cases d : n < -1152921504606846976
      · rw [if_pos d]
      · rw [if_neg d, if_pos (by omega)]
    rw [this]
    simp only [Option.bind_some]
    rw [if_neg (by decide)]
    exact tail 18 (by constructor <;> intro h <;> omega)

end Go.Proofs.Yteecbgfbhppoiaa.Pure
