/- What the sum of bytes is, the bytes of a number, and which number stands at a place: the program tells what the reference tells. No condition but that the values are of their kinds. -/
import Derived.Test.YtgiidddmhnnnjaaPPagesApartx1
import Derived.Test.YtgiidddmhnnnjaaCrc
namespace Go.Proofs.Ytgiidddmhnnnjaa.Pure
set_option linter.unusedVariables false
set_option linter.unusedSimpArgs false
open Go.RowKit Go.Proofs.Ytgiidddmhnnnjaa.PPagesApart Go.Proofs.YtgiidddmhnnnjaaW.PrintWords Go.Proofs.YtgiidddmhnnnjaaW.PrintLast Go.Proofs.YtgiidddmhnnnjaaW.PrintMore
open Go.Proofs.Ytgiidddmhnnnjaa.Crc
theorem u32_lt (v : BitVec 32) : IntKind.u32.wrap ((v.toNat : Nat) : Int) = v.toNat := by
  have := v.isLt
  simp [IntKind.wrap, IntKind.bits, IntKind.signed]; omega
theorem xor32 (a b : BitVec 32) : Go.bits .xor .u32 (a.toNat : Int) (b.toNat : Int) = ((a ^^^ b).toNat : Int) := by
  show IntKind.u32.wrap (((BitVec.ofInt 32 (a.toNat : Int)) ^^^ (BitVec.ofInt 32 (b.toNat : Int))).toNat : Int) = _
  rw [u32_lt]; simp
theorem by8_nat {c : Int} (h : 0 ≤ c ∧ c < 256) : ((by8 c).toNat : Int) = c % 4294967296 := by
  obtain ⟨n, rfl⟩ := Int.eq_ofNat_of_zero_le h.1
  simp [by8]
theorem xor8 (a : BitVec 32) {c : Int} (h : 0 ≤ c ∧ c < 256) : Go.bits .xor .u32 (a.toNat : Int) (c % 4294967296) = ((a ^^^ by8 c).toNat : Int) := by
  rw [← by8_nat h, xor32]
theorem xorP (a : BitVec 32) : Go.bits .xor .u32 (a.toNat : Int) 3988292384 = ((a ^^^ pol).toNat : Int) := xor32 a pol
theorem notU (a : BitVec 32) : Go.bits .xor .u32 (-1) (a.toNat : Int) = ((BitVec.allOnes 32 ^^^ a).toNat : Int) := by
  show IntKind.u32.wrap (((BitVec.ofInt 32 (-1)) ^^^ (BitVec.ofInt 32 (a.toNat : Int))).toNat : Int) = _
  rw [u32_lt]
  have : BitVec.ofInt 32 (-1) = BitVec.allOnes 32 := by decide
  rw [this]; simp
theorem lsb (a : BitVec 32) : a.getLsbD 0 = decide (a.toNat % 2 = 1) := by
  rw [BitVec.getLsbD, Nat.testBit_zero]
theorem and1 (a : BitVec 32) : Go.bits .and .u32 (a.toNat : Int) 1 = if a.getLsbD 0 then 1 else 0 := by
  show IntKind.u32.wrap (((BitVec.ofInt 32 (a.toNat : Int)) &&& (BitVec.ofInt 32 1)).toNat : Int) = _
  rw [u32_lt, BitVec.toNat_and]
  have h1 : (BitVec.ofInt 32 1).toNat = 2 ^ 1 - 1 := by decide
  have h2 : (BitVec.ofInt 32 (a.toNat : Int)).toNat = a.toNat := by simp
  rw [h1, h2, Nat.and_two_pow_sub_one_eq_mod, lsb]
  by_cases h : a.toNat % 2 = 1
  · simp [h]
  · have : a.toNat % 2 = 0 := by omega
    simp [this]
theorem half (a : BitVec 32) : (a.toNat : Int) / (2 : Int) = ((a >>> 1).toNat : Int) := by
  rw [BitVec.toNat_ushiftRight, Nat.shiftRight_eq_div_pow]; simp
theorem rnd_yes {a : BitVec 32} (h : a.getLsbD 0 = true) : rnd a = (a >>> 1) ^^^ pol := by unfold rnd; rw [h]; simp
theorem rnd_no {a : BitVec 32} (h : a.getLsbD 0 = false) : rnd a = a >>> 1 := by unfold rnd; rw [h]; simp
theorem w64 {i : Int} (h0 : -1000 ≤ i) (h : i ≤ 140737488355328) : wrap64 i = i := by unfold wrap64; omega
/-- The eight rounds of a byte. -/
theorem sum_l1 (d : Nat) : ∀ (k : Nat) (r : BitVec 32) (xs : List Int) (n at_ i : Int), 0 ≤ i → i + d = 8 → 0 ≤ at_ → at_ ≤ 140737488351232 →
    sum_Sum.l1 (k + d + 1) (r.toNat : Int) xs n at_ i = sum_Sum.l0 k ((rn d r).toNat : Int) xs n (at_ + 1) := by
  induction d with
  | zero =>
    intro k r xs n at_ i h0 h1 h2 h3
    simp only [sum_Sum.l1]
    rw [if_neg (by omega), w64 (by omega) (by omega)]
    rfl
  | succ d ih =>
    intro k r xs n at_ i h0 h1 h2 h3
    rw [show k + (d + 1) + 1 = (k + d + 1) + 1 by omega, sum_Sum.l1]
    rw [if_pos (by omega), and1, half, xorP, w64 (i := i + 1) (by omega) (by omega)]
    cases h : r.getLsbD 0 with
    | true =>
      rw [if_pos rfl, if_pos rfl, ← rnd_yes h, ih k (rnd r) xs n at_ (i + 1) (by omega) (by omega) h2 h3]
      rfl
    | false =>
      rw [if_neg (by simp), ← rnd_no h, ih k (rnd r) xs n at_ (i + 1) (by omega) (by omega) h2 h3]
      rfl
theorem sum_l0 (xs : List Int) (hx : ∀ x ∈ xs, 0 ≤ x ∧ x < 256) (hn : xs.length ≤ 140737488351232) (d : Nat) : ∀ (k : Nat) (r : BitVec 32) (i : Nat), i + d = xs.length → 10 * d + 1 ≤ k →
    sum_Sum.l0 k (r.toNat : Int) xs (xs.length : Int) (i : Int) = some ((BitVec.allOnes 32 ^^^ crc r (xs.drop i)).toNat : Int) := by
  induction d with
  | zero =>
    intro k r i h hk
    obtain ⟨k, rfl⟩ : ∃ m, k = m + 1 := ⟨k - 1, by omega⟩
    simp only [sum_Sum.l0]
    rw [if_neg (by omega), notU, List.drop_of_length_le (by omega)]
    rfl
  | succ d ih =>
    intro k r i h hk
    obtain ⟨k, rfl⟩ : ∃ m, k = m + 10 := ⟨k - 10, by omega⟩
    have hi : i < xs.length := by omega
    have hr : rd xs (i : Int) = xs[i] := by simp [rd, hi]
    simp only [sum_Sum.l0]
    rw [if_pos (by omega), if_pos (by omega), if_pos (by omega), hr, xor8 r (hx _ (List.getElem_mem hi)), sum_l1 8 k _ xs _ _ 0 (by omega) (by omega) (by omega) (by omega)]
    have := ih k (rn 8 (r ^^^ by8 xs[i])) (i + 1) (by omega) (by omega)
    rw [show ((i + 1 : Nat) : Int) = (i : Int) + 1 by omega] at this
    rw [this, List.drop_eq_getElem_cons hi]
    rfl
/-- The sum of bytes. -/
def sumOf (xs : List Int) : Int := ((BitVec.allOnes 32 ^^^ crc (BitVec.allOnes 32) xs).toNat : Int)
theorem sum_eq (xs : List Int) (hx : ∀ x ∈ xs, 0 ≤ x ∧ x < 256) (hn : xs.length ≤ 140737488351232) (k : Nat) (hk : 10 * xs.length + 1 ≤ k) : sum_Sum.f k xs = some (sumOf xs) := by
  unfold sum_Sum.f
  have := sum_l0 xs hx hn xs.length k (BitVec.allOnes 32) 0 (by omega) hk
  exact this
theorem wf_u8 {n : Int} (h : (Lit.int .u8 n).wf = true) : 0 ≤ n ∧ n < 256 := by
  simp [Lit.wf, IntKind.min, IntKind.max, IntKind.signed, IntKind.bits] at h; omega
theorem wf_i64 {n : Int} (h : (Lit.int .i64 n).wf = true) : -9223372036854775808 ≤ n ∧ n < 9223372036854775808 := by
  simp [Lit.wf, IntKind.min, IntKind.max, IntKind.signed, IntKind.bits] at h; omega
theorem wf_u32 {n : Int} (h : (Lit.int .u32 n).wf = true) : 0 ≤ n ∧ n < 4294967296 := by
  simp [Lit.wf, IntKind.min, IntKind.max, IntKind.signed, IntKind.bits] at h; omega
theorem wf_u64 {n : Int} (h : (Lit.int .u64 n).wf = true) : 0 ≤ n ∧ n < 18446744073709551616 := by
  simp [Lit.wf, IntKind.min, IntKind.max, IntKind.signed, IntKind.bits] at h; omega
end Go.Proofs.Ytgiidddmhnnnjaa.Pure
