/- The sums of four lists of one length, of which the last is the xor of the others, come to 0 together. No condition. -/
import Derived.Test.YtdpoifaeimmdmaaPSumXorx2
import Derived.Test.YtdpoifaeimmdmaaCrc
namespace Go.Proofs.Ytdpoifaeimmdmaa.Pure
set_option linter.unusedVariables false
set_option linter.unusedSimpArgs false
open Go.RowKit Go.Proofs.Ytdpoifaeimmdmaa.PSumXor Go.Proofs.YtdpoifaeimmdmaaW.PrintWords Go.Proofs.YtdpoifaeimmdmaaW.PrintLast Go.Proofs.YtdpoifaeimmdmaaW.PrintMore
open Go.Proofs.Ytdpoifaeimmdmaa.Crc
theorem u32_lt (v : BitVec 32) : IntKind.u32.wrap ((v.toNat : Nat) : Int) = v.toNat := by
  have := v.isLt
  simp [IntKind.wrap, IntKind.bits, IntKind.signed]; omega
theorem xor32 (a b : BitVec 32) : Go.bits .xor .u32 (a.toNat : Int) (b.toNat : Int) = ((a ^^^ b).toNat : Int) := by
  show IntKind.u32.wrap (((BitVec.ofInt 32 (a.toNat : Int)) ^^^ (BitVec.ofInt 32 (b.toNat : Int))).toNat : Int) = _
  rw [u32_lt]; simp
theorem by8_nat {c : Int} (h : 0 ≤ c ∧ c < 256) : ((by8 c).toNat : Int) = c % 4294967296 := by
  obtain ⟨n, rfl⟩ := Int.eq_ofNat_of_zero_le h.1
  simp [by8]
theorem xor8 (a : BitVec 32) {c : Int} (h : 0 ≤ c ∧ c < 256) : Go.bits .xor .u32 (a.toNat : Int) (c % 4294967296) = ((a ^^^ by8 c).toNat : Int) := by
  rw [← by8_nat h, xor32]
theorem xorP (a : BitVec 32) : Go.bits .xor .u32 (a.toNat : Int) 3988292384 = ((a ^^^ pol).toNat : Int) := xor32 a pol
theorem notU (a : BitVec 32) : Go.bits .xor .u32 (-1) (a.toNat : Int) = ((BitVec.allOnes 32 ^^^ a).toNat : Int) := by
  show IntKind.u32.wrap (((BitVec.ofInt 32 (-1)) ^^^ (BitVec.ofInt 32 (a.toNat : Int))).toNat : Int) = _
  rw [u32_lt]
  have : BitVec.ofInt 32 (-1) = BitVec.allOnes 32 := by decide
  rw [this]; simp
theorem lsb (a : BitVec 32) : a.getLsbD 0 = decide (a.toNat % 2 = 1) := by
  rw [BitVec.getLsbD, Nat.testBit_zero]
theorem and1 (a : BitVec 32) : Go.bits .and .u32 (a.toNat : Int) 1 = if a.getLsbD 0 then 1 else 0 := by
  show IntKind.u32.wrap (((BitVec.ofInt 32 (a.toNat : Int)) &&& (BitVec.ofInt 32 1)).toNat : Int) = _
  rw [u32_lt, BitVec.toNat_and]
  have h1 : (BitVec.ofInt 32 1).toNat = 2 ^ 1 - 1 := by decide
  have h2 : (BitVec.ofInt 32 (a.toNat : Int)).toNat = a.toNat := by simp
  rw [h1, h2, Nat.and_two_pow_sub_one_eq_mod, lsb]
  by_cases h : a.toNat % 2 = 1
  · simp [h]
  · have : a.toNat % 2 = 0 := by omega
    simp [this]
theorem half (a : BitVec 32) : (a.toNat : Int) / (2 : Int) = ((a >>> 1).toNat : Int) := by
  rw [BitVec.toNat_ushiftRight, Nat.shiftRight_eq_div_pow]; simp
theorem rnd_yes {a : BitVec 32} (h : a.getLsbD 0 = true) : rnd a = (a >>> 1) ^^^ pol := by unfold rnd; rw [h]; simp
theorem rnd_no {a : BitVec 32} (h : a.getLsbD 0 = false) : rnd a = a >>> 1 := by unfold rnd; rw [h]; simp
theorem w64 {i : Int} (h0 : -1000 ≤ i) (h : i ≤ 140737488355328) : wrap64 i = i := by unfold wrap64; omega
/-- The eight rounds of a byte. -/
theorem sum_l1 (d : Nat) : ∀ (k : Nat) (r : BitVec 32) (xs : List Int) (n at_ i : Int), 0 ≤ i → i + d = 8 → 0 ≤ at_ → at_ ≤ 140737488351232 →
    sum_Sum.l1 (k + d + 1) (r.toNat : Int) xs n at_ i = sum_Sum.l0 k ((rn d r).toNat : Int) xs n (at_ + 1) := by
  induction d with
  | zero =>
    intro k r xs n at_ i h0 h1 h2 h3
    simp only [sum_Sum.l1]
    rw [if_neg (by omega), w64 (by omega) (by omega)]
    rfl
  | succ d ih =>
    intro k r xs n at_ i h0 h1 h2 h3
    rw [show k + (d + 1) + 1 = (k + d + 1) + 1 by omega, sum_Sum.l1]
    rw [if_pos (by omega), and1, half, xorP, w64 (i := i + 1) (by omega) (by omega)]
    cases h : r.getLsbD 0 with
    | true =>
      rw [if_pos rfl, if_pos rfl, ← rnd_yes h, ih k (rnd r) xs n at_ (i + 1) (by omega) (by omega) h2 h3]
      rfl
    | false =>
      rw [if_neg (by simp), ← rnd_no h, ih k (rnd r) xs n at_ (i + 1) (by omega) (by omega) h2 h3]
      rfl
theorem sum_l0 (xs : List Int) (hx : ∀ x ∈ xs, 0 ≤ x ∧ x < 256) (hn : xs.length ≤ 140737488351232) (d : Nat) : ∀ (k : Nat) (r : BitVec 32) (i : Nat), i + d = xs.length → 10 * d + 1 ≤ k →
    sum_Sum.l0 k (r.toNat : Int) xs (xs.length : Int) (i : Int) = some ((BitVec.allOnes 32 ^^^ crc r (xs.drop i)).toNat : Int) := by
  induction d with
  | zero =>
    intro k r i h hk
    obtain ⟨k, rfl⟩ : ∃ m, k = m + 1 := ⟨k - 1, by omega⟩
    simp only [sum_Sum.l0]
    rw [if_neg (by omega), notU, List.drop_of_length_le (by omega)]
    rfl
  | succ d ih =>
    intro k r i h hk
    obtain ⟨k, rfl⟩ : ∃ m, k = m + 10 := ⟨k - 10, by omega⟩
    have hi : i < xs.length := by omega
    have hr : rd xs (i : Int) = xs[i] := by simp [rd, hi]
    simp only [sum_Sum.l0]
    rw [if_pos (by omega), if_pos (by omega), if_pos (by omega), hr, xor8 r (hx _ (List.getElem_mem hi)), sum_l1 8 k _ xs _ _ 0 (by omega) (by omega) (by omega) (by omega)]
    have := ih k (rn 8 (r ^^^ by8 xs[i])) (i + 1) (by omega) (by omega)
    rw [show ((i + 1 : Nat) : Int) = (i : Int) + 1 by omega] at this
    rw [this, List.drop_eq_getElem_cons hi]
    rfl
/-- The sum of bytes. -/
def sumOf (xs : List Int) : Int := ((BitVec.allOnes 32 ^^^ crc (BitVec.allOnes 32) xs).toNat : Int)
theorem sum_eq (xs : List Int) (hx : ∀ x ∈ xs, 0 ≤ x ∧ x < 256) (hn : xs.length ≤ 140737488351232) (k : Nat) (hk : 10 * xs.length + 1 ≤ k) : sum_Sum.f k xs = some (sumOf xs) := by
  unfold sum_Sum.f
  have := sum_l0 xs hx hn xs.length k (BitVec.allOnes 32) 0 (by omega) hk
  exact this
theorem own_eq (xs : List Int) (hn : xs.length ≤ 140737488351232) : quirelaw02_own.f xs = some xs := by
  unfold quirelaw02_own.f
  rw [Option.bind_some, if_pos (by simp; omega)]
  rfl
theorem wf_u8 {n : Int} (h : (Lit.int .u8 n).wf = true) : 0 ≤ n ∧ n < 256 := by
  simp [Lit.wf, IntKind.min, IntKind.max, IntKind.signed, IntKind.bits] at h; omega
theorem wf_i64 {n : Int} (h : (Lit.int .i64 n).wf = true) : -9223372036854775808 ≤ n ∧ n < 9223372036854775808 := by
  simp [Lit.wf, IntKind.min, IntKind.max, IntKind.signed, IntKind.bits] at h; omega
theorem wf_u32 {n : Int} (h : (Lit.int .u32 n).wf = true) : 0 ≤ n ∧ n < 4294967296 := by
  simp [Lit.wf, IntKind.min, IntKind.max, IntKind.signed, IntKind.bits] at h; omega
theorem wf_u64 {n : Int} (h : (Lit.int .u64 n).wf = true) : 0 ≤ n ∧ n < 18446744073709551616 := by
  simp [Lit.wf, IntKind.min, IntKind.max, IntKind.signed, IntKind.bits] at h; omega
theorem awake0 : quirelaw02_awake.f 60 = some true := by decide +kernel
theorem awake_eq (k : Nat) (h : 60 ≤ k) : quirelaw02_awake.f k = some true := at_rounds quirelaw02_awake.mono h awake0
theorem by8_xor {a b : Int} (ha : 0 ≤ a ∧ a < 256) (hb : 0 ≤ b ∧ b < 256) : by8 (Go.bits .xor .u8 a b) = by8 a ^^^ by8 b ∧ 0 ≤ Go.bits .xor .u8 a b ∧ Go.bits .xor .u8 a b < 256 := by
  obtain ⟨m, rfl⟩ := Int.eq_ofNat_of_zero_le ha.1
  obtain ⟨n, rfl⟩ := Int.eq_ofNat_of_zero_le hb.1
  have hlt : m ^^^ n < 2 ^ 8 := Nat.xor_lt_two_pow (by omega) (by omega)
  have e : Go.bits .xor .u8 (m : Int) (n : Int) = ((m ^^^ n : Nat) : Int) := by
    show IntKind.u8.wrap (((BitVec.ofInt 8 (m : Int)) ^^^ (BitVec.ofInt 8 (n : Int))).toNat : Int) = _
    have h1 : (BitVec.ofInt 8 (m : Int)).toNat = m := by simp; omega
    have h2 : (BitVec.ofInt 8 (n : Int)).toNat = n := by simp; omega
    rw [BitVec.toNat_xor, h1, h2]
    simp [IntKind.wrap, IntKind.bits, IntKind.signed]; omega
  rw [e]
  refine ⟨?_, by omega, by omega⟩
  simp [by8, BitVec.ofNat_xor]
/-- What stands of the fourth list when i places are filled. -/
structure Fill (a b c : List Int) (n i : Nat) (d : List Int) : Prop where
  len : d.length = n
  bytes : ∀ x ∈ d, 0 ≤ x ∧ x < 256
  eqs : ∀ j, j < i → by8 (d.getD j 0) = by8 (a.getD j 0) ^^^ by8 (b.getD j 0) ^^^ by8 (c.getD j 0)
theorem getD_byte {a : List Int} (ha : ∀ x ∈ a, 0 ≤ x ∧ x < 256) (i : Nat) : 0 ≤ a.getD i 0 ∧ a.getD i 0 < 256 := by
  rw [List.getD_eq_getElem?_getD]
  cases h : a[i]? with
  | none => simp
  | some x => simpa using ha x (List.mem_of_getElem? h)
theorem getD_set_self (d : List Int) (i : Nat) (v : Int) (h : i < d.length) : (d.set i v).getD i 0 = v := by simp [h]
theorem getD_set_ne (d : List Int) (i j : Nat) (v : Int) (h : i ≠ j) : (d.set i v).getD j 0 = d.getD j 0 := by simp [List.getElem?_set_ne h]
theorem finish (a b c d : List Int) (n : Nat) (ha : ∀ x ∈ a, 0 ≤ x ∧ x < 256) (hb : ∀ x ∈ b, 0 ≤ x ∧ x < 256) (hc : ∀ x ∈ c, 0 ≤ x ∧ x < 256) (la : n ≤ a.length) (lb : n ≤ b.length) (lc : n ≤ c.length) (h : Fill a b c n n d) :
    Go.bits .xor .u32 (Go.bits .xor .u32 (Go.bits .xor .u32 (sumOf (a.take n)) (sumOf (b.take n))) (sumOf (c.take n))) (sumOf d) = 0 := by
  unfold sumOf
  rw [xor32, xor32, xor32]
  have key := crc_four (a.take n) (b.take n) (c.take n) d n (BitVec.allOnes 32) (BitVec.allOnes 32) (BitVec.allOnes 32) (BitVec.allOnes 32) (by simp; omega) (by simp; omega) (by simp; omega) h.len
    (fun i hi => by
      have := h.eqs i hi
      simp only [List.getD_eq_getElem?_getD, List.getElem?_take, if_pos hi] at this ⊢
      exact this) (by decide)
  have e : ∀ p q r s : BitVec 32, (BitVec.allOnes 32 ^^^ p ^^^ (BitVec.allOnes 32 ^^^ q) ^^^ (BitVec.allOnes 32 ^^^ r) ^^^ (BitVec.allOnes 32 ^^^ s)) = p ^^^ q ^^^ r ^^^ s := by
    intro p q r s
    apply BitVec.eq_of_getLsbD_eq
    intro i hi
    simp only [BitVec.getLsbD_xor]
    cases (BitVec.allOnes 32).getLsbD i <;> cases p.getLsbD i <;> cases q.getLsbD i <;> cases r.getLsbD i <;> cases s.getLsbD i <;> rfl
  rw [e, key]
  rfl
theorem loop (a b c : List Int) (n : Nat) (ha : ∀ x ∈ a, 0 ≤ x ∧ x < 256) (hb : ∀ x ∈ b, 0 ≤ x ∧ x < 256) (hc : ∀ x ∈ c, 0 ≤ x ∧ x < 256) (la : n ≤ a.length) (lb : n ≤ b.length) (lc : n ≤ c.length) (hn : n ≤ 140737488351232) (r : Nat) :
    ∀ (k i : Nat) (d : List Int), i + r = n → r + 10 * n + 2 ≤ k → Fill a b c n i d → quirelaw02_SumXor.l0 k a b c (n : Int) d (i : Int) = some true := by
  induction r with
  | zero =>
    intro k i d h hk hf
    obtain ⟨k, rfl⟩ : ∃ m, k = m + 1 := ⟨k - 1, by omega⟩
    obtain rfl : i = n := by omega
    have ht : ∀ l : List Int, i ≤ l.length → (l.take i).length = i := fun l hl => by simp; omega
    have hm : ∀ l : List Int, (∀ x ∈ l, 0 ≤ x ∧ x < 256) → ∀ x ∈ l.take i, 0 ≤ x ∧ x < 256 := fun l hl x hx => hl x (List.mem_of_mem_take hx)
    rw [quirelaw02_SumXor.l0, if_neg (by omega), if_pos (by omega), if_pos (by omega), Int.toNat_natCast, own_eq _ (by rw [ht a la]; exact hn)]
    simp only [Option.bind_some]
    rw [sum_eq _ (hm a ha) (by rw [ht a la]; exact hn) k (by rw [ht a la]; omega)]
    simp only [Option.bind_some]
    rw [if_pos (by omega), own_eq _ (by rw [ht b lb]; exact hn)]
    simp only [Option.bind_some]
    rw [sum_eq _ (hm b hb) (by rw [ht b lb]; exact hn) k (by rw [ht b lb]; omega)]
    simp only [Option.bind_some]
    rw [if_pos (by omega), own_eq _ (by rw [ht c lc]; exact hn)]
    simp only [Option.bind_some]
    rw [sum_eq _ (hm c hc) (by rw [ht c lc]; exact hn) k (by rw [ht c lc]; omega)]
    simp only [Option.bind_some]
    rw [sum_eq d hf.bytes (by rw [hf.len]; exact hn) k (by rw [hf.len]; omega)]
    simp only [Option.bind_some]
    rw [finish a b c d i ha hb hc la lb lc hf]
    rfl
  | succ r ih =>
    intro k i d h hk hf
    obtain ⟨k, rfl⟩ : ∃ m, k = m + 1 := ⟨k - 1, by omega⟩
    rw [quirelaw02_SumXor.l0, if_pos (by omega), if_pos (by omega), if_pos (by omega), if_pos (by omega), if_pos (by omega), if_pos (by rw [hf.len]; omega), w64 (by omega) (by omega), show (i : Int) + 1 = ((i + 1 : Nat) : Int) by omega, Int.toNat_natCast]
    have hra : rd a (i : Int) = a.getD i 0 := rfl
    have hrb : rd b (i : Int) = b.getD i 0 := rfl
    have hrc : rd c (i : Int) = c.getD i 0 := rfl
    rw [hra, hrb, hrc]
    have x1 := by8_xor (getD_byte ha i) (getD_byte hb i)
    have x2 := by8_xor x1.2 (getD_byte hc i)
    refine ih k (i + 1) _ (by omega) (by omega) ⟨by simp [hf.len], ?_, ?_⟩
    · intro x hx
      rcases List.mem_or_eq_of_mem_set hx with hx | hx
      · exact hf.bytes x hx
      · rw [hx]; exact x2.2
    · intro j hj
      by_cases e : i = j
      · subst e
        rw [getD_set_self _ _ _ (by rw [hf.len]; omega), x2.1, x1.1]
      · rw [getD_set_ne _ _ _ _ e]
        exact hf.eqs j (by omega)
theorem SumXor : quirelaw02_SumXor.Pure := by
  intro a b c a1 a2 a3 b1 b2 b3 c1 c2 c3
  have ha : ∀ y ∈ a, 0 ≤ y ∧ y < 256 := fun y hy => wf_u8 (a3 y hy)
  have hb : ∀ y ∈ b, 0 ≤ y ∧ y < 256 := fun y hy => wf_u8 (b3 y hy)
  have hc : ∀ y ∈ c, 0 ≤ y ∧ y < 256 := fun y hy => wf_u8 (c3 y hy)
  obtain ⟨n, hn, la, lb, lc⟩ : ∃ n : Nat, mn (mn (a.length : Int) (b.length : Int)) (c.length : Int) = (n : Int) ∧ n ≤ a.length ∧ n ≤ b.length ∧ n ≤ c.length := by
    refine ⟨min (min a.length b.length) c.length, ?_, by omega, by omega, by omega⟩
    unfold mn
    (repeat' split) <;> omega
  refine ⟨11 * n + 100, ?_⟩
  unfold quirelaw02_SumXor.f
  rw [awake_eq _ (by omega), hn]
  simp only [Option.bind_some, if_true]
  rw [if_pos (by omega), if_pos (by omega), Int.toNat_natCast]
  refine loop a b c n ha hb hc la lb lc (by omega) n _ 0 _ (by omega) (by omega) ⟨by simp, ?_, fun j hj => absurd hj (by omega)⟩
  intro x hx
  rw [List.eq_of_mem_replicate hx]
  omega

end Go.Proofs.Ytdpoifaeimmdmaa.Pure
