/- What the sum of bytes is, the bytes of a number, and which number stands at a place: the program tells what the reference tells. No condition but that the values are of their kinds. -/
import Derived.Test.YtdpoifaeimmdmaaPSumPlaysx2
import Derived.Test.YtdpoifaeimmdmaaCrc
namespace Go.Proofs.Ytdpoifaeimmdmaa.Pure
set_option linter.unusedVariables false
set_option linter.unusedSimpArgs false
open Go.RowKit Go.Proofs.Ytdpoifaeimmdmaa.PSumPlays Go.Proofs.YtdpoifaeimmdmaaW.PrintWords Go.Proofs.YtdpoifaeimmdmaaW.PrintLast Go.Proofs.YtdpoifaeimmdmaaW.PrintMore
open Go.Proofs.Ytdpoifaeimmdmaa.Crc
theorem u32_lt (v : BitVec 32) : IntKind.u32.wrap ((v.toNat : Nat) : Int) = v.toNat := by
  have := v.isLt
  simp [IntKind.wrap, IntKind.bits, IntKind.signed]; omega
theorem xor32 (a b : BitVec 32) : Go.bits .xor .u32 (a.toNat : Int) (b.toNat : Int) = ((a ^^^ b).toNat : Int) := by
  show IntKind.u32.wrap (((BitVec.ofInt 32 (a.toNat : Int)) ^^^ (BitVec.ofInt 32 (b.toNat : Int))).toNat : Int) = _
  rw [u32_lt]; simp
theorem by8_nat {c : Int} (h : 0 ≤ c ∧ c < 256) : ((by8 c).toNat : Int) = c % 4294967296 := by
  obtain ⟨n, rfl⟩ := Int.eq_ofNat_of_zero_le h.1
  simp [by8]
theorem xor8 (a : BitVec 32) {c : Int} (h : 0 ≤ c ∧ c < 256) : Go.bits .xor .u32 (a.toNat : Int) (c % 4294967296) = ((a ^^^ by8 c).toNat : Int) := by
  rw [← by8_nat h, xor32]
theorem xorP (a : BitVec 32) : Go.bits .xor .u32 (a.toNat : Int) 3988292384 = ((a ^^^ pol).toNat : Int) := xor32 a pol
theorem notU (a : BitVec 32) : Go.bits .xor .u32 (-1) (a.toNat : Int) = ((BitVec.allOnes 32 ^^^ a).toNat : Int) := by
  show IntKind.u32.wrap (((BitVec.ofInt 32 (-1)) ^^^ (BitVec.ofInt 32 (a.toNat : Int))).toNat : Int) = _
  rw [u32_lt]
  have : BitVec.ofInt 32 (-1) = BitVec.allOnes 32 := by decide
  rw [this]; simp
theorem lsb (a : BitVec 32) : a.getLsbD 0 = decide (a.toNat % 2 = 1) := by
  rw [BitVec.getLsbD, Nat.testBit_zero]
theorem and1 (a : BitVec 32) : Go.bits .and .u32 (a.toNat : Int) 1 = if a.getLsbD 0 then 1 else 0 := by
  show IntKind.u32.wrap (((BitVec.ofInt 32 (a.toNat : Int)) &&& (BitVec.ofInt 32 1)).toNat : Int) = _
  rw [u32_lt, BitVec.toNat_and]
  have h1 : (BitVec.ofInt 32 1).toNat = 2 ^ 1 - 1 := by decide
  have h2 : (BitVec.ofInt 32 (a.toNat : Int)).toNat = a.toNat := by simp
  rw [h1, h2, Nat.and_two_pow_sub_one_eq_mod, lsb]
  by_cases h : a.toNat % 2 = 1
  · simp [h]
  · have : a.toNat % 2 = 0 := by omega
    simp [this]
theorem half (a : BitVec 32) : (a.toNat : Int) / (2 : Int) = ((a >>> 1).toNat : Int) := by
  rw [BitVec.toNat_ushiftRight, Nat.shiftRight_eq_div_pow]; simp
theorem rnd_yes {a : BitVec 32} (h : a.getLsbD 0 = true) : rnd a = (a >>> 1) ^^^ pol := by unfold rnd; rw [h]; simp
theorem rnd_no {a : BitVec 32} (h : a.getLsbD 0 = false) : rnd a = a >>> 1 := by unfold rnd; rw [h]; simp
theorem w64 {i : Int} (h0 : -1000 ≤ i) (h : i ≤ 140737488355328) : wrap64 i = i := by unfold wrap64; omega
/-- The eight rounds of a byte. -/
theorem sum_l1 (d : Nat) : ∀ (k : Nat) (r : BitVec 32) (xs : List Int) (n at_ i : Int), 0 ≤ i → i + d = 8 → 0 ≤ at_ → at_ ≤ 140737488351232 →
    sum_Sum.l1 (k + d + 1) (r.toNat : Int) xs n at_ i = sum_Sum.l0 k ((rn d r).toNat : Int) xs n (at_ + 1) := by
  induction d with
  | zero =>
    intro k r xs n at_ i h0 h1 h2 h3
    simp only [sum_Sum.l1]
    rw [if_neg (by omega), w64 (by omega) (by omega)]
    rfl
  | succ d ih =>
    intro k r xs n at_ i h0 h1 h2 h3
    rw [show k + (d + 1) + 1 = (k + d + 1) + 1 by omega, sum_Sum.l1]
    rw [if_pos (by omega), and1, half, xorP, w64 (i := i + 1) (by omega) (by omega)]
    cases h : r.getLsbD 0 with
    | true =>
      rw [if_pos rfl, if_pos rfl, ← rnd_yes h, ih k (rnd r) xs n at_ (i + 1) (by omega) (by omega) h2 h3]
      rfl
    | false =>
      rw [if_neg (by simp), ← rnd_no h, ih k (rnd r) xs n at_ (i + 1) (by omega) (by omega) h2 h3]
      rfl
theorem sum_l0 (xs : List Int) (hx : ∀ x ∈ xs, 0 ≤ x ∧ x < 256) (hn : xs.length ≤ 140737488351232) (d : Nat) : ∀ (k : Nat) (r : BitVec 32) (i : Nat), i + d = xs.length → 10 * d + 1 ≤ k →
    sum_Sum.l0 k (r.toNat : Int) xs (xs.length : Int) (i : Int) = some ((BitVec.allOnes 32 ^^^ crc r (xs.drop i)).toNat : Int) := by
  induction d with
  | zero =>
    intro k r i h hk
    obtain ⟨k, rfl⟩ : ∃ m, k = m + 1 := ⟨k - 1, by omega⟩
    simp only [sum_Sum.l0]
    rw [if_neg (by omega), notU, List.drop_of_length_le (by omega)]
    rfl
  | succ d ih =>
    intro k r i h hk
    obtain ⟨k, rfl⟩ : ∃ m, k = m + 10 := ⟨k - 10, by omega⟩
    have hi : i < xs.length := by omega
    have hr : rd xs (i : Int) = xs[i] := by simp [rd, hi]
    simp only [sum_Sum.l0]
    rw [if_pos (by omega), if_pos (by omega), if_pos (by omega), hr, xor8 r (hx _ (List.getElem_mem hi)), sum_l1 8 k _ xs _ _ 0 (by omega) (by omega) (by omega) (by omega)]
    have := ih k (rn 8 (r ^^^ by8 xs[i])) (i + 1) (by omega) (by omega)
    rw [show ((i + 1 : Nat) : Int) = (i : Int) + 1 by omega] at this
    rw [this, List.drop_eq_getElem_cons hi]
    rfl
/-- The sum of bytes. -/
def sumOf (xs : List Int) : Int := ((BitVec.allOnes 32 ^^^ crc (BitVec.allOnes 32) xs).toNat : Int)
theorem sum_eq (xs : List Int) (hx : ∀ x ∈ xs, 0 ≤ x ∧ x < 256) (hn : xs.length ≤ 140737488351232) (k : Nat) (hk : 10 * xs.length + 1 ≤ k) : sum_Sum.f k xs = some (sumOf xs) := by
  unfold sum_Sum.f
  have := sum_l0 xs hx hn xs.length k (BitVec.allOnes 32) 0 (by omega) hk
  exact this
theorem own_eq (xs : List Int) (hn : xs.length ≤ 140737488351232) : quirelaw02_own.f xs = some xs := by
  unfold quirelaw02_own.f
  rw [Option.bind_some, if_pos (by simp; omega)]
  rfl
theorem wf_u8 {n : Int} (h : (Lit.int .u8 n).wf = true) : 0 ≤ n ∧ n < 256 := by
  simp [Lit.wf, IntKind.min, IntKind.max, IntKind.signed, IntKind.bits] at h; omega
theorem wf_i64 {n : Int} (h : (Lit.int .i64 n).wf = true) : -9223372036854775808 ≤ n ∧ n < 9223372036854775808 := by
  simp [Lit.wf, IntKind.min, IntKind.max, IntKind.signed, IntKind.bits] at h; omega
theorem wf_u32 {n : Int} (h : (Lit.int .u32 n).wf = true) : 0 ≤ n ∧ n < 4294967296 := by
  simp [Lit.wf, IntKind.min, IntKind.max, IntKind.signed, IntKind.bits] at h; omega
theorem wf_u64 {n : Int} (h : (Lit.int .u64 n).wf = true) : 0 ≤ n ∧ n < 18446744073709551616 := by
  simp [Lit.wf, IntKind.min, IntKind.max, IntKind.signed, IntKind.bits] at h; omega
theorem awake0 : quirelaw02_awake.f 60 = some true := by decide +kernel
theorem shrB {c : Int} (h : 0 ≤ c ∧ c < 256) (i : Nat) (hi : i ≤ 8) : (shr .u8 c (IntKind.u64.wrap (i : Int))) % 4294967296 = ((by8 c >>> i).toNat : Int) := by
  obtain ⟨n, rfl⟩ := Int.eq_ofNat_of_zero_le h.1
  have hw : IntKind.u64.wrap (i : Int) = i := by simp [IntKind.wrap, IntKind.bits, IntKind.signed]; omega
  have hn : n % 4294967296 = n := by omega
  have hm : min i IntKind.u8.bits = i := by show min i 8 = i; omega
  have hlt : n / 2 ^ i < 4294967296 := Nat.lt_of_le_of_lt (Nat.div_le_self _ _) (by omega)
  unfold shr
  rw [hw, Int.toNat_natCast, hm]
  have e : ((n : Int) / 2 ^ i) = ((n / 2 ^ i : Nat) : Int) := by simp
  rw [e, BitVec.toNat_ushiftRight, Nat.shiftRight_eq_div_pow]
  have e2 : (by8 (n : Int)).toNat = n := by simp [by8]; omega
  rw [e2]
  generalize n / 2 ^ i = q at *
  omega
theorem tmod2 (a : BitVec 32) : (Int.tmod (a.toNat : Int) 2 = 1) ↔ a.getLsbD 0 = true := by
  rw [lsb, Int.tmod_eq_emod_of_nonneg (by omega)]
  simp; omega
theorem tdiv2 (a : BitVec 32) : (Int.tdiv (a.toNat : Int) (2 : Int)) % (4294967296 : Int) = ((a >>> 1).toNat : Int) := by
  rw [Int.tdiv_eq_ediv_of_nonneg (by omega), half]
  have := (a >>> 1).isLt
  omega
theorem shr_succ (x : BitVec 32) (i : Nat) : x >>> i >>> 1 = x >>> (i + 1) := by rw [BitVec.shiftRight_add]
theorem ref_l1 (d : Nat) : ∀ (k : Nat) (r : BitVec 32) (xs : List Int) (at_ i : Nat) (c : Int), at_ < xs.length → xs.length ≤ 140737488351232 → rd xs (at_ : Int) = c → 0 ≤ c ∧ c < 256 → i + d = 8 →
    quireref02_Sum.l1 (k + d + 1) xs (r.toNat : Int) (at_ : Int) (i : Int) = quireref02_Sum.l0 k xs ((rn d (r ^^^ (by8 c >>> i))).toNat : Int) ((at_ + 1 : Nat) : Int) := by
  induction d with
  | zero =>
    intro k r xs at_ i c h1 h2 h3 h4 h5
    rw [quireref02_Sum.l1, if_neg (by omega), w64 (by omega) (by omega)]
    have hz : by8 c >>> i = 0#32 := by
      apply BitVec.eq_of_toNat_eq
      rw [BitVec.toNat_ushiftRight, Nat.shiftRight_eq_div_pow, show i = 8 by omega]
      have := by8_nat h4
      simp; omega
    rw [hz, BitVec.xor_zero]
    rfl
  | succ d ih =>
    intro k r xs at_ i c h1 h2 h3 h4 h5
    rw [show k + (d + 1) + 1 = (k + d + 1) + 1 by omega, quireref02_Sum.l1, if_pos (by omega), if_pos (by omega), if_pos (by omega), h3, shrB h4 i (by omega), xor32, tdiv2, xorP, w64 (i := (i : Int) + 1) (by omega) (by omega), show (i : Int) + 1 = ((i + 1 : Nat) : Int) by omega]
    have hnn : 0 ≤ IntKind.u64.wrap (i : Int) := by simp [IntKind.wrap, IntKind.bits, IntKind.signed]; omega
    rw [if_pos hnn]
    have hr : rn (d + 1) (r ^^^ by8 c >>> i) = rn d (rnd (r ^^^ by8 c >>> i)) := rfl
    rw [hr]
    unfold rnd
    by_cases h : (r ^^^ by8 c >>> i).getLsbD 0 = true
    · rw [if_pos ((tmod2 _).2 h), ih k _ xs at_ (i + 1) c h1 h2 h3 h4 (by omega), h, if_pos rfl, BitVec.ushiftRight_xor_distrib, shr_succ]
      congr 3
      rw [BitVec.xor_assoc, BitVec.xor_assoc, BitVec.xor_comm pol]
    · rw [if_neg (fun e => h ((tmod2 _).1 e)), ih k _ xs at_ (i + 1) c h1 h2 h3 h4 (by omega), if_neg h, BitVec.ushiftRight_xor_distrib, shr_succ, BitVec.xor_zero]
theorem ref_l0 (xs : List Int) (hx : ∀ x ∈ xs, 0 ≤ x ∧ x < 256) (hn : xs.length ≤ 140737488351232) (d : Nat) : ∀ (k : Nat) (r : BitVec 32) (i : Nat), i + d = xs.length → 10 * d + 1 ≤ k →
    quireref02_Sum.l0 k xs (r.toNat : Int) (i : Int) = some ((BitVec.allOnes 32 ^^^ crc r (xs.drop i)).toNat : Int) := by
  induction d with
  | zero =>
    intro k r i h hk
    obtain ⟨k, rfl⟩ : ∃ m, k = m + 1 := ⟨k - 1, by omega⟩
    rw [quireref02_Sum.l0, if_neg (by omega), show (4294967295 : Int) = ((BitVec.allOnes 32).toNat : Int) by decide, xor32, List.drop_of_length_le (by omega), BitVec.xor_comm]
    rfl
  | succ d ih =>
    intro k r i h hk
    obtain ⟨k, rfl⟩ : ∃ m, k = m + 10 := ⟨k - 10, by omega⟩
    have hi : i < xs.length := by omega
    have hr : rd xs (i : Int) = xs[i] := by simp [rd, hi]
    rw [show k + 10 = (k + 8 + 1) + 1 by omega, quireref02_Sum.l0, if_pos (by omega)]
    have := ref_l1 8 k r xs i 0 xs[i] hi hn hr (hx _ (List.getElem_mem hi)) (by omega)
    rw [show ((0 : Nat) : Int) = 0 by omega] at this
    rw [this, ih k _ (i + 1) (by omega) (by omega), List.drop_eq_getElem_cons hi, crc_cons]
    simp [bstep]
theorem ref_eq (xs : List Int) (hx : ∀ x ∈ xs, 0 ≤ x ∧ x < 256) (hn : xs.length ≤ 140737488351232) (k : Nat) (hk : 10 * xs.length + 1 ≤ k) : quireref02_Sum.f k xs = some (sumOf xs) := by
  unfold quireref02_Sum.f
  have := ref_l0 xs hx hn xs.length k (BitVec.allOnes 32) 0 (by omega) hk
  exact this
theorem awake_eq (k : Nat) (h : 60 ≤ k) : quirelaw02_awake.f k = some true := at_rounds quirelaw02_awake.mono h awake0
theorem wrap_u64 (n : Int) : IntKind.u64.wrap n = n % 18446744073709551616 := by simp [IntKind.wrap, IntKind.bits, IntKind.signed]
theorem wrap_u8 (n : Int) : IntKind.u8.wrap n = n % 256 := by simp [IntKind.wrap, IntKind.bits, IntKind.signed]
theorem u64_63 (c : Int) (h0 : 0 ≤ c) (h1 : c < 18446744073709551616) : Go.bits .and .u64 c 9223372036854775807 = c % 9223372036854775808 :=
  bits_mask .u64 64 (by decide) (fun n a b => by rw [wrap_u64]; omega) 63 (by decide) c h0 h1
theorem u8_127 (c : Int) (h0 : 0 ≤ c) (h1 : c < 256) : Go.bits .and .u8 c 127 = c % 128 :=
  bits_mask .u8 8 (by decide) (fun n a b => by rw [wrap_u8]; omega) 7 (by decide) c h0 h1
theorem or128 (n : Int) (h0 : 0 ≤ n) : Go.bits .or .u8 (n % 256) 128 = 128 + n % 128 := by
  obtain ⟨m, rfl⟩ := Int.eq_ofNat_of_zero_le h0
  show IntKind.u8.wrap (((BitVec.ofInt 8 ((m : Int) % 256)) ||| (BitVec.ofInt 8 128)).toNat : Int) = _
  have h1 : (BitVec.ofInt 8 ((m : Int) % 256)).toNat = m % 256 := by
    have : ((m : Int) % 256) = ((m % 256 : Nat) : Int) := by omega
    rw [this, BitVec.ofInt_natCast, BitVec.toNat_ofNat]; omega
  have h2 : (BitVec.ofInt 8 128).toNat = 128 := by decide
  rw [BitVec.toNat_or, h1, h2, wrap_u8]
  have key : ∀ b : Nat, b < 256 → (b ||| 128) = 128 + b % 128 := by decide +kernel
  rw [key _ (by omega)]
  omega
theorem put_ref : ∀ (k : Nat) (xs : List Int) (n : Int), 0 ≤ n → n < 9223372036854775808 → sum_Put.l0 k xs n = quireref02_Number.l0 k n xs := by
  intro k
  induction k with
  | zero => intro xs n _ _; rfl
  | succ k ih =>
    intro xs n h0 h1
    rw [sum_Put.l0, quireref02_Number.l0, or128 n h0, Int.tdiv_eq_ediv_of_nonneg h0, Int.tmod_eq_emod_of_nonneg h0, wrap_u64, wrap_u64, show (128 + n % 128) % 18446744073709551616 % 256 = 128 + n % 128 by omega, show n / 128 % 18446744073709551616 = n / 128 by omega, ih _ (n / 128) (by omega) (by omega)]
theorem put_some (d : Nat) : ∀ (k : Nat) (xs : List Int) (n : Int), 0 ≤ n → n < 128 ^ (d + 1) → d + 1 ≤ k → xs.length + d + 1 ≤ 1000 → ∃ r, sum_Put.l0 k xs n = some r ∧ r.length ≤ 1000 := by
  induction d with
  | zero =>
    intro k xs n h0 h1 hk hx
    obtain ⟨k, rfl⟩ : ∃ m, k = m + 1 := ⟨k - 1, by omega⟩
    rw [sum_Put.l0, if_neg (by simp at h1; omega), if_pos (by omega)]
    exact ⟨_, rfl, by simp; omega⟩
  | succ d ih =>
    intro k xs n h0 h1 hk hx
    obtain ⟨k, rfl⟩ : ∃ m, k = m + 1 := ⟨k - 1, by omega⟩
    rw [sum_Put.l0]
    by_cases c : n ≥ 128
    · rw [if_pos c, if_pos (by omega)]
      refine ih k _ _ (by omega) ?_ (by omega) (by simp; omega)
      rw [Int.pow_succ] at h1
      omega
    · rw [if_neg c, if_pos (by omega)]
      exact ⟨_, rfl, by simp; omega⟩
theorem number_eq (k : Nat) (n : Int) (h : 0 ≤ n ∧ n < 18446744073709551616) (hk : 10 ≤ k) : ∃ r, sum_Number.f k n = some r ∧ quireref02_Number.f k n = some r ∧ r.length ≤ 1000 := by
  obtain ⟨r, hr, hl⟩ := put_some 9 k [] (n % 9223372036854775808) (by omega) (by omega) hk (by simp)
  refine ⟨r, ?_, ?_, hl⟩
  · unfold sum_Number.f sum_Put.f
    rw [u64_63 n h.1 h.2, hr]; rfl
  · unfold quireref02_Number.f
    rw [Int.tmod_eq_emod_of_nonneg h.1, ← put_ref _ _ _ (by omega) (by omega)]
    exact hr
theorem same_l0 (xs : List Int) (hn : xs.length ≤ 140737488355328) (d : Nat) : ∀ (k i : Nat), i + d = xs.length → d + 1 ≤ k → quireref01_SameBytes.l0 k xs xs (i : Int) = some true := by
  induction d with
  | zero =>
    intro k i h hk
    obtain ⟨k, rfl⟩ : ∃ m, k = m + 1 := ⟨k - 1, by omega⟩
    rw [quireref01_SameBytes.l0, if_neg (by omega)]
  | succ d ih =>
    intro k i h hk
    obtain ⟨k, rfl⟩ : ∃ m, k = m + 1 := ⟨k - 1, by omega⟩
    rw [quireref01_SameBytes.l0, if_pos (by omega), if_pos (by omega), if_pos (by omega), if_pos rfl, w64 (by omega) (by omega), show (i : Int) + 1 = ((i + 1 : Nat) : Int) by omega]
    exact ih k (i + 1) (by omega) (by omega)
theorem same_self (xs : List Int) (hn : xs.length ≤ 140737488355328) (k : Nat) (hk : xs.length + 1 ≤ k) : quireref01_SameBytes.f k xs xs = some true := by
  unfold quireref01_SameBytes.f
  rw [if_pos rfl]
  exact same_l0 xs hn xs.length k 0 (by omega) hk
/-- Seven bits more, above those that are there. -/
theorem join (i : Nat) (hi : i ≤ 8) (a c : Int) (ha : 0 ≤ a) (ha2 : a < 2 ^ (7 * i)) (hc : 0 ≤ c) (hc2 : c < 128) :
    Go.bits .or .u64 a (shl .u64 (IntKind.u64.wrap c) (wrap64 (7 * (i : Int)))) = a + c * 2 ^ (7 * i) ∧
    IntKind.u64.wrap (a + shl .u64 (IntKind.u64.wrap c) (IntKind.u64.wrap (wrap64 (7 * (i : Int))))) = a + c * 2 ^ (7 * i) ∧ a + c * 2 ^ (7 * i) < 2 ^ (7 * (i + 1)) := by
  obtain ⟨A, rfl⟩ := Int.eq_ofNat_of_zero_le ha
  obtain ⟨C, rfl⟩ := Int.eq_ofNat_of_zero_le hc
  have hA : A < 2 ^ (7 * i) := by exact_mod_cast ha2
  have hCw : IntKind.u64.wrap (C : Int) = C := by rw [wrap_u64]; omega
  have hs : wrap64 (7 * (i : Int)) = ((7 * i : Nat) : Int) := by rw [w64 (by omega) (by omega)]; omega
  have hs2 : IntKind.u64.wrap ((7 * i : Nat) : Int) = ((7 * i : Nat) : Int) := by rw [wrap_u64]; omega
  have hm : min (7 * i) IntKind.u64.bits = 7 * i := by simp [IntKind.bits]; omega
  have hp : 2 ^ (7 * i) ≤ 2 ^ 56 := Nat.pow_le_pow_right (by decide) (by omega)
  have hC : C * 2 ^ (7 * i) ≤ 127 * 2 ^ (7 * i) := Nat.mul_le_mul (by omega) (Nat.le_refl _)
  have hsum : A + C * 2 ^ (7 * i) < 2 ^ (7 * (i + 1)) := by
    rw [show 7 * (i + 1) = 7 * i + 7 by omega, Nat.pow_add]
    have : (2 : Nat) ^ 7 = 128 := rfl
    omega
  have hbig : C * 2 ^ (7 * i) < 2 ^ 64 := by
    have : (127 : Nat) * 2 ^ 56 < 2 ^ 64 := by decide
    omega
  have hsl : shl .u64 (C : Int) ((7 * i : Nat) : Int) = ((C * 2 ^ (7 * i) : Nat) : Int) := by
    unfold shl
    rw [Int.toNat_natCast, hm, wrap_u64]
    have : ((C : Int) * 2 ^ (7 * i)) = ((C * 2 ^ (7 * i) : Nat) : Int) := by simp
    rw [this]
    omega
  have hcast : ((A : Int) + (C : Int) * 2 ^ (7 * i)) = ((A + C * 2 ^ (7 * i) : Nat) : Int) := by simp
  rw [hs, hs2, hCw, hsl, hcast]
  have hA64 : A < 2 ^ 64 := by
    have : (2 : Nat) ^ 56 < 2 ^ 64 := by decide
    omega
  have hb64 : A + C * 2 ^ (7 * i) < 2 ^ 64 := by
    have : (128 : Nat) * 2 ^ 56 < 2 ^ 64 := by decide
    omega
  refine ⟨?_, ?_, by exact_mod_cast hsum⟩
  · show IntKind.u64.wrap (((BitVec.ofInt 64 (A : Int)) ||| (BitVec.ofInt 64 ((C * 2 ^ (7 * i) : Nat) : Int))).toNat : Int) = _
    have h1 : (BitVec.ofInt 64 (A : Int)).toNat = A := by simp; omega
    have h2 : (BitVec.ofInt 64 ((C * 2 ^ (7 * i) : Nat) : Int)).toNat = C * 2 ^ (7 * i) := by
      rw [BitVec.ofInt_natCast, BitVec.toNat_ofNat]; exact Nat.mod_eq_of_lt hbig
    rw [BitVec.toNat_or, h1, h2, Nat.or_comm, Nat.mul_comm, ← Nat.two_pow_add_eq_or_of_lt hA, wrap_u64]
    rw [Nat.mul_comm] at hb64
    rw [Nat.mul_comm]
    omega
  · rw [show ((A : Int) + ((C * 2 ^ (7 * i) : Nat) : Int)) = ((A + C * 2 ^ (7 * i) : Nat) : Int) by omega, wrap_u64]
    omega
set_option maxHeartbeats 1000000 in
theorem read_l0 (xs : List Int) (hx : ∀ x ∈ xs, 0 ≤ x ∧ x < 256) (hn : xs.length ≤ 140737488351232) (at_ : Nat) (hat : at_ ≤ xs.length) (d : Nat) : ∀ (k j i : Nat) (a : Int), i + d = 9 → 2 * d + 2 ≤ k → d + 1 ≤ j → 0 ≤ a → a < 2 ^ (7 * i) →
    ∃ R, sum_Read.l0 k xs (at_ : Int) a (i : Int) = some R ∧ quireref02_Read.l0 j xs (at_ : Int) a (i : Int) = some R := by
  induction d with
  | zero =>
    intro k j i a h hk hj h0 h1
    obtain ⟨k, rfl⟩ : ∃ m, k = m + 1 + 1 := ⟨k - 2, by omega⟩
    obtain ⟨j, rfl⟩ : ∃ m, j = m + 1 := ⟨j - 1, by omega⟩
    rw [sum_Read.l0, if_neg (by omega), sum_Read.j2, if_neg (by simp), quireref02_Read.l0, if_neg (by omega)]
    exact ⟨_, rfl, rfl⟩
  | succ d ih =>
    intro k j i a h hk hj h0 h1
    obtain ⟨k, rfl⟩ : ∃ m, k = m + 1 + 1 := ⟨k - 2, by omega⟩
    obtain ⟨j, rfl⟩ : ∃ m, j = m + 1 := ⟨j - 1, by omega⟩
    have hw : wrap64 ((at_ : Int) + (i : Int)) = ((at_ + i : Nat) : Int) := by rw [w64 (by omega) (by omega)]; omega
    have hw7 : 0 ≤ wrap64 (7 * (i : Int)) := by rw [w64 (by omega) (by omega)]; omega
    have hw8 : 0 ≤ IntKind.u64.wrap (wrap64 (7 * (i : Int))) := by rw [wrap_u64]; exact Int.emod_nonneg _ (by decide)
    by_cases c : at_ + i < xs.length
    · have hr : rd xs ((at_ + i : Nat) : Int) = xs[at_ + i] := by
        show xs.getD (((at_ + i : Nat) : Int)).toNat 0 = _
        rw [Int.toNat_natCast]; simp [c]
      have hb := hx _ (List.getElem_mem c)
      generalize xs[at_ + i] = b at *
      have hj1 := join i (by omega) a (b % 128) h0 h1 (by omega) (by omega)
      have hV0 : 0 ≤ a + b % 128 * 2 ^ (7 * i) := by
        have : 0 ≤ (b % 128) * 2 ^ (7 * i) := Int.mul_nonneg (by omega) (by exact_mod_cast Nat.zero_le _)
        omega
      generalize a + b % 128 * 2 ^ (7 * i) = V at *
      have P : sum_Read.l0 (k + 1 + 1) xs (at_ : Int) a (i : Int) = (if b < 128 then (if b = 0 then (if (i : Int) > 0 then some (0, 0, 9) else some (V, wrap64 (((at_ + i : Nat) : Int) + 1), 0)) else some (V, wrap64 (((at_ + i : Nat) : Int) + 1), 0)) else sum_Read.l0 k xs (at_ : Int) V (wrap64 ((i : Int) + 1))) := by
        rw [sum_Read.l0, if_pos (by omega), hw, sum_Read.j2, if_pos (by simp; omega), hw, hr, if_pos (by omega), if_pos (by omega), if_pos hw7, u8_127 b hb.1 hb.2, hj1.1]
      have Q : quireref02_Read.l0 (j + 1) xs (at_ : Int) a (i : Int) = (if b ≥ 128 then quireref02_Read.l0 j xs (at_ : Int) V (wrap64 ((i : Int) + 1)) else (if b = 0 then (if (i : Int) > 0 then some (0, 0, 9) else some (V, wrap64 (((at_ + i : Nat) : Int) + 1), 0)) else some (V, wrap64 (((at_ + i : Nat) : Int) + 1), 0))) := by
        rw [quireref02_Read.l0, if_pos (by omega), hw, hr, if_neg (by omega), if_pos (by omega), if_pos (by omega), if_pos hw8, Int.tmod_eq_emod_of_nonneg hb.1, hj1.2.1]
      rw [P, Q]
      by_cases e : b < 128
      · rw [if_pos e, if_neg (show ¬ b ≥ 128 by omega)]
        by_cases f : b = 0
        · rw [if_pos f]
          by_cases g : (i : Int) > 0
          · rw [if_pos g]; exact ⟨_, rfl, rfl⟩
          · rw [if_neg g]; exact ⟨_, rfl, rfl⟩
        · rw [if_neg f]; exact ⟨_, rfl, rfl⟩
      · rw [if_neg e, if_pos (show b ≥ 128 by omega), w64 (i := (i : Int) + 1) (by omega) (by omega), show (i : Int) + 1 = ((i + 1 : Nat) : Int) by omega]
        exact ih k j (i + 1) _ (by omega) (by omega) (by omega) hV0 hj1.2.2
    · rw [sum_Read.l0, if_pos (by omega), quireref02_Read.l0, if_pos (by omega), hw, sum_Read.j2, if_neg (by simp; omega), if_pos (by omega)]
      exact ⟨_, rfl, rfl⟩
theorem read_eq (xs : List Int) (hx : ∀ x ∈ xs, 0 ≤ x ∧ x < 256) (hn : xs.length ≤ 140737488351232) (a : Int) (k : Nat) (hk : 30 ≤ k) : ∃ R, sum_Read.f k xs a = some R ∧ quireref02_Read.f k xs a = some R := by
  obtain ⟨k, rfl⟩ : ∃ m, k = m + 1 := ⟨k - 1, by omega⟩
  unfold sum_Read.f quireref02_Read.f
  by_cases c : a < 0
  · rw [if_pos c, if_pos c, sum_Read.j0, quireref02_Read.j0, if_pos rfl, if_pos rfl]; exact ⟨_, rfl, rfl⟩
  · rw [if_neg c, if_neg c, sum_Read.j0, quireref02_Read.j0]
    by_cases e : a > (xs.length : Int)
    · rw [if_pos (by simpa using e), if_pos (by simpa using e)]; exact ⟨_, rfl, rfl⟩
    · rw [if_neg (by simpa using e), if_neg (by simpa using e)]
      obtain ⟨n, rfl⟩ := Int.eq_ofNat_of_zero_le (show 0 ≤ a by omega)
      exact read_l0 xs hx hn n (by omega) 9 k k 0 0 rfl (by omega) (by omega) (by omega) (by decide)
theorem SumPlays : quirelaw02_SumPlays.Pure := by
  intro xs n a h1 h2 h3 h4 h5
  have hx : ∀ y ∈ xs, 0 ≤ y ∧ y < 256 := fun y hy => wf_u8 (h3 y hy)
  have hn : xs.length ≤ 140737488351232 := by omega
  obtain ⟨r, r1, r2, r3⟩ := number_eq (10 * xs.length + 2000) n (wf_u64 h4) (by omega)
  obtain ⟨R, R1, R2⟩ := read_eq xs hx hn a (10 * xs.length + 1999) (by omega)
  refine ⟨10 * xs.length + 2000, ?_⟩
  unfold quirelaw02_SumPlays.f
  rw [awake_eq _ (by omega)]
  simp only [Option.bind_some, if_true]
  rw [own_eq xs hn]
  simp only [Option.bind_some]
  rw [sum_eq xs hx hn _ (by omega), ref_eq xs hx hn _ (by omega)]
  simp only [Option.bind_some, if_true]
  rw [r1, r2]
  simp only [Option.bind_some]
  rw [same_self r (by omega) _ (by omega)]
  simp only [Option.bind_some]
  rw [quirelaw02_SumPlays.j0, if_neg (by simp), own_eq xs hn]
  simp only [Option.bind_some]
  rw [R1, R2]
  simp

end Go.Proofs.Ytdpoifaeimmdmaa.Pure
