/- The sum of bytes tells any one byte that differs, and any two lists of one length that differ within four bytes side by side. No condition. -/
import Derived.Test.YtdpoifaeimmdmaaPSumBitsx2
import Derived.Test.YtdpoifaeimmdmaaCrc
namespace Go.Proofs.Ytdpoifaeimmdmaa.Pure
set_option linter.unusedVariables false
set_option linter.unusedSimpArgs false
open Go.RowKit Go.Proofs.Ytdpoifaeimmdmaa.PSumBits Go.Proofs.YtdpoifaeimmdmaaW.PrintWords Go.Proofs.YtdpoifaeimmdmaaW.PrintLast Go.Proofs.YtdpoifaeimmdmaaW.PrintMore
open Go.Proofs.Ytdpoifaeimmdmaa.Crc
theorem u32_lt (v : BitVec 32) : IntKind.u32.wrap ((v.toNat : Nat) : Int) = v.toNat := by
  have := v.isLt
  simp [IntKind.wrap, IntKind.bits, IntKind.signed]; omega
theorem xor32 (a b : BitVec 32) : Go.bits .xor .u32 (a.toNat : Int) (b.toNat : Int) = ((a ^^^ b).toNat : Int) := by
  show IntKind.u32.wrap (((BitVec.ofInt 32 (a.toNat : Int)) ^^^ (BitVec.ofInt 32 (b.toNat : Int))).toNat : Int) = _
  rw [u32_lt]; simp
theorem by8_nat {c : Int} (h : 0 ≤ c ∧ c < 256) : ((by8 c).toNat : Int) = c % 4294967296 := by
  obtain ⟨n, rfl⟩ := Int.eq_ofNat_of_zero_le h.1
  simp [by8]
theorem xor8 (a : BitVec 32) {c : Int} (h : 0 ≤ c ∧ c < 256) : Go.bits .xor .u32 (a.toNat : Int) (c % 4294967296) = ((a ^^^ by8 c).toNat : Int) := by
  rw [← by8_nat h, xor32]
theorem xorP (a : BitVec 32) : Go.bits .xor .u32 (a.toNat : Int) 3988292384 = ((a ^^^ pol).toNat : Int) := xor32 a pol
theorem notU (a : BitVec 32) : Go.bits .xor .u32 (-1) (a.toNat : Int) = ((BitVec.allOnes 32 ^^^ a).toNat : Int) := by
  show IntKind.u32.wrap (((BitVec.ofInt 32 (-1)) ^^^ (BitVec.ofInt 32 (a.toNat : Int))).toNat : Int) = _
  rw [u32_lt]
  have : BitVec.ofInt 32 (-1) = BitVec.allOnes 32 := by decide
  rw [this]; simp
theorem lsb (a : BitVec 32) : a.getLsbD 0 = decide (a.toNat % 2 = 1) := by
  rw [BitVec.getLsbD, Nat.testBit_zero]
theorem and1 (a : BitVec 32) : Go.bits .and .u32 (a.toNat : Int) 1 = if a.getLsbD 0 then 1 else 0 := by
  show IntKind.u32.wrap (((BitVec.ofInt 32 (a.toNat : Int)) &&& (BitVec.ofInt 32 1)).toNat : Int) = _
  rw [u32_lt, BitVec.toNat_and]
  have h1 : (BitVec.ofInt 32 1).toNat = 2 ^ 1 - 1 := by decide
  have h2 : (BitVec.ofInt 32 (a.toNat : Int)).toNat = a.toNat := by simp
  rw [h1, h2, Nat.and_two_pow_sub_one_eq_mod, lsb]
  by_cases h : a.toNat % 2 = 1
  · simp [h]
  · have : a.toNat % 2 = 0 := by omega
    simp [this]
theorem half (a : BitVec 32) : (a.toNat : Int) / (2 : Int) = ((a >>> 1).toNat : Int) := by
  rw [BitVec.toNat_ushiftRight, Nat.shiftRight_eq_div_pow]; simp
theorem rnd_yes {a : BitVec 32} (h : a.getLsbD 0 = true) : rnd a = (a >>> 1) ^^^ pol := by unfold rnd; rw [h]; simp
theorem rnd_no {a : BitVec 32} (h : a.getLsbD 0 = false) : rnd a = a >>> 1 := by unfold rnd; rw [h]; simp
theorem w64 {i : Int} (h0 : -1000 ≤ i) (h : i ≤ 140737488355328) : wrap64 i = i := by unfold wrap64; omega
/-- The eight rounds of a byte. -/
theorem sum_l1 (d : Nat) : ∀ (k : Nat) (r : BitVec 32) (xs : List Int) (n at_ i : Int), 0 ≤ i → i + d = 8 → 0 ≤ at_ → at_ ≤ 140737488351232 →
    sum_Sum.l1 (k + d + 1) (r.toNat : Int) xs n at_ i = sum_Sum.l0 k ((rn d r).toNat : Int) xs n (at_ + 1) := by
  induction d with
  | zero =>
    intro k r xs n at_ i h0 h1 h2 h3
    simp only [sum_Sum.l1]
    rw [if_neg (by omega), w64 (by omega) (by omega)]
    rfl
  | succ d ih =>
    intro k r xs n at_ i h0 h1 h2 h3
    rw [show k + (d + 1) + 1 = (k + d + 1) + 1 by omega, sum_Sum.l1]
    rw [if_pos (by omega), and1, half, xorP, w64 (i := i + 1) (by omega) (by omega)]
    cases h : r.getLsbD 0 with
    | true =>
      rw [if_pos rfl, if_pos rfl, ← rnd_yes h, ih k (rnd r) xs n at_ (i + 1) (by omega) (by omega) h2 h3]
      rfl
    | false =>
      rw [if_neg (by simp), ← rnd_no h, ih k (rnd r) xs n at_ (i + 1) (by omega) (by omega) h2 h3]
      rfl
theorem sum_l0 (xs : List Int) (hx : ∀ x ∈ xs, 0 ≤ x ∧ x < 256) (hn : xs.length ≤ 140737488351232) (d : Nat) : ∀ (k : Nat) (r : BitVec 32) (i : Nat), i + d = xs.length → 10 * d + 1 ≤ k →
    sum_Sum.l0 k (r.toNat : Int) xs (xs.length : Int) (i : Int) = some ((BitVec.allOnes 32 ^^^ crc r (xs.drop i)).toNat : Int) := by
  induction d with
  | zero =>
    intro k r i h hk
    obtain ⟨k, rfl⟩ : ∃ m, k = m + 1 := ⟨k - 1, by omega⟩
    simp only [sum_Sum.l0]
    rw [if_neg (by omega), notU, List.drop_of_length_le (by omega)]
    rfl
  | succ d ih =>
    intro k r i h hk
    obtain ⟨k, rfl⟩ : ∃ m, k = m + 10 := ⟨k - 10, by omega⟩
    have hi : i < xs.length := by omega
    have hr : rd xs (i : Int) = xs[i] := by simp [rd, hi]
    simp only [sum_Sum.l0]
    rw [if_pos (by omega), if_pos (by omega), if_pos (by omega), hr, xor8 r (hx _ (List.getElem_mem hi)), sum_l1 8 k _ xs _ _ 0 (by omega) (by omega) (by omega) (by omega)]
    have := ih k (rn 8 (r ^^^ by8 xs[i])) (i + 1) (by omega) (by omega)
    rw [show ((i + 1 : Nat) : Int) = (i : Int) + 1 by omega] at this
    rw [this, List.drop_eq_getElem_cons hi]
    rfl
/-- The sum of bytes. -/
def sumOf (xs : List Int) : Int := ((BitVec.allOnes 32 ^^^ crc (BitVec.allOnes 32) xs).toNat : Int)
theorem sum_eq (xs : List Int) (hx : ∀ x ∈ xs, 0 ≤ x ∧ x < 256) (hn : xs.length ≤ 140737488351232) (k : Nat) (hk : 10 * xs.length + 1 ≤ k) : sum_Sum.f k xs = some (sumOf xs) := by
  unfold sum_Sum.f
  have := sum_l0 xs hx hn xs.length k (BitVec.allOnes 32) 0 (by omega) hk
  exact this
theorem own_eq (xs : List Int) (hn : xs.length ≤ 140737488351232) : quirelaw02_own.f xs = some xs := by
  unfold quirelaw02_own.f
  rw [Option.bind_some, if_pos (by simp; omega)]
  rfl
theorem wf_u8 {n : Int} (h : (Lit.int .u8 n).wf = true) : 0 ≤ n ∧ n < 256 := by
  simp [Lit.wf, IntKind.min, IntKind.max, IntKind.signed, IntKind.bits] at h; omega
theorem wf_i64 {n : Int} (h : (Lit.int .i64 n).wf = true) : -9223372036854775808 ≤ n ∧ n < 9223372036854775808 := by
  simp [Lit.wf, IntKind.min, IntKind.max, IntKind.signed, IntKind.bits] at h; omega
theorem wf_u32 {n : Int} (h : (Lit.int .u32 n).wf = true) : 0 ≤ n ∧ n < 4294967296 := by
  simp [Lit.wf, IntKind.min, IntKind.max, IntKind.signed, IntKind.bits] at h; omega
theorem wf_u64 {n : Int} (h : (Lit.int .u64 n).wf = true) : 0 ≤ n ∧ n < 18446744073709551616 := by
  simp [Lit.wf, IntKind.min, IntKind.max, IntKind.signed, IntKind.bits] at h; omega
theorem awake0 : quirelaw02_awake.f 60 = some true := by decide +kernel
theorem awake_eq (k : Nat) (h : 60 ≤ k) : quirelaw02_awake.f k = some true := at_rounds quirelaw02_awake.mono h awake0
theorem by8_xor {a b : Int} (ha : 0 ≤ a ∧ a < 256) (hb : 0 ≤ b ∧ b < 256) : by8 (Go.bits .xor .u8 a b) = by8 a ^^^ by8 b ∧ 0 ≤ Go.bits .xor .u8 a b ∧ Go.bits .xor .u8 a b < 256 := by
  obtain ⟨m, rfl⟩ := Int.eq_ofNat_of_zero_le ha.1
  obtain ⟨n, rfl⟩ := Int.eq_ofNat_of_zero_le hb.1
  have hlt : m ^^^ n < 2 ^ 8 := Nat.xor_lt_two_pow (by omega) (by omega)
  have e : Go.bits .xor .u8 (m : Int) (n : Int) = ((m ^^^ n : Nat) : Int) := by
    show IntKind.u8.wrap (((BitVec.ofInt 8 (m : Int)) ^^^ (BitVec.ofInt 8 (n : Int))).toNat : Int) = _
    have h1 : (BitVec.ofInt 8 (m : Int)).toNat = m := by simp; omega
    have h2 : (BitVec.ofInt 8 (n : Int)).toNat = n := by simp; omega
    rw [BitVec.toNat_xor, h1, h2]
    simp [IntKind.wrap, IntKind.bits, IntKind.signed]; omega
  rw [e]
  refine ⟨?_, by omega, by omega⟩
  simp [by8, BitVec.ofNat_xor]
theorem byte_nat (X : BitVec 32) (j : Nat) : (bOf X j).toNat = X.toNat / 2 ^ (8 * j) % 256 := by
  unfold bOf
  rw [BitVec.toNat_setWidth, BitVec.toNat_setWidth, BitVec.toNat_ushiftRight, Nat.shiftRight_eq_div_pow]
  omega
theorem byte_of {x : Int} (h0 : 0 ≤ x) (h1 : x < 4294967296) (j : Nat) (hj : j < 4) : (shr .u32 x (IntKind.u64.wrap (wrap64 (8 * (j : Int))))) % 256 = ((bOf (BitVec.ofInt 32 x) j).toNat : Int) := by
  obtain ⟨n, rfl⟩ := Int.eq_ofNat_of_zero_le h0
  have hn : (BitVec.ofInt 32 (n : Int)).toNat = n := by simp; omega
  rw [byte_nat, hn]
  match j, hj with
  | 0, _ => rw [show IntKind.u64.wrap (wrap64 (8 * ((0 : Nat) : Int))) = 0 by decide +kernel]; simp [shr]
  | 1, _ => rw [show IntKind.u64.wrap (wrap64 (8 * ((1 : Nat) : Int))) = 8 by decide +kernel]; simp [shr, IntKind.bits]
  | 2, _ => rw [show IntKind.u64.wrap (wrap64 (8 * ((2 : Nat) : Int))) = 16 by decide +kernel]; simp [shr, IntKind.bits]
  | 3, _ => rw [show IntKind.u64.wrap (wrap64 (8 * ((3 : Nat) : Int))) = 24 by decide +kernel]; simp [shr, IntKind.bits]
theorem by8_byte (X : BitVec 32) (j : Nat) : by8 ((bOf X j).toNat : Int) = bOf X j := by simp [by8]
theorem byte_lt (X : BitVec 32) (j : Nat) : (0 : Int) ≤ ((bOf X j).toNat : Int) ∧ ((bOf X j).toNat : Int) < 256 := by
  have := byte_nat X j; omega
/-- What stands when i bytes have been turned. -/
structure Inv (xs : List Int) (at_ : Nat) (X : BitVec 32) (i : Nat) (c : List Int) (df : Bool) : Prop where
  len : c.length = xs.length
  bytes : ∀ x ∈ c, 0 ≤ x ∧ x < 256
  head : crc (BitVec.allOnes 32) (c.take (at_ + i)) = crc (BitVec.allOnes 32) (xs.take (at_ + i)) ^^^ err X i
  rest : c.drop (at_ + i) = xs.drop (at_ + i)
  differ : df = !(low X i == 0#32)
theorem Inv.start {xs : List Int} (hx : ∀ x ∈ xs, 0 ≤ x ∧ x < 256) (at_ : Nat) (X : BitVec 32) : Inv xs at_ X 0 xs false :=
  ⟨rfl, hx, by rw [err_zero]; simp, rfl, by rw [low_zero]; rfl⟩
theorem Inv.next {xs : List Int} {at_ : Nat} {X : BitVec 32} {i : Nat} {c : List Int} {df : Bool} (h : Inv xs at_ X i c df) (hi : i < 4) (hl : at_ + i < xs.length) :
    Inv xs at_ X (i + 1) (c.set (at_ + i) (Go.bits .xor .u8 (c.getD (at_ + i) 0) ((bOf X i).toNat : Int))) (df || !(bOf X i == 0#32)) := by
  have hlc : at_ + i < c.length := by rw [h.len]; exact hl
  have hg : c.getD (at_ + i) 0 = c[at_ + i] := by simp [hlc]
  have hb := h.bytes _ (List.getElem_mem hlc)
  have hxor := by8_xor hb (byte_lt X i)
  rw [hg]
  have hsame : c[at_ + i] = xs[at_ + i] := by
    have h0 := h.rest
    rw [List.drop_eq_getElem_cons hlc, List.drop_eq_getElem_cons hl] at h0
    exact (List.cons.inj h0).1
  refine ⟨by simp [h.len], ?_, ?_, ?_, ?_⟩
  · intro x hx
    rcases List.mem_or_eq_of_mem_set hx with hx | hx
    · exact h.bytes x hx
    · rw [hx]; exact hxor.2
  · rw [show at_ + (i + 1) = (at_ + i) + 1 by omega, List.take_succ_eq_append_getElem (by simpa using hlc), List.take_succ_eq_append_getElem hl, List.take_set_of_le (by omega), crc_append, crc_append, h.head]
    simp only [List.getElem_set_self]
    show bstep _ _ = bstep _ _ ^^^ _
    unfold bstep
    rw [hxor.1, by8_byte, err_succ X i hi, ← rn_xor, hsame]
    congr 1
    apply BitVec.eq_of_getLsbD_eq
    intro b _
    simp only [BitVec.getLsbD_xor]
    cases (crc (BitVec.allOnes 32) (List.take (at_ + i) xs)).getLsbD b <;> cases (err X i).getLsbD b <;> cases (by8 xs[at_ + i]).getLsbD b <;> cases (bOf X i).getLsbD b <;> rfl
  · rw [show at_ + (i + 1) = (at_ + i) + 1 by omega, List.drop_set_of_lt (by omega)]
    have h0 := h.rest
    rw [List.drop_eq_getElem_cons hlc, List.drop_eq_getElem_cons hl] at h0
    exact (List.cons.inj h0).2
  · rw [h.differ, Bool.eq_iff_iff]
    have := low_ker X i hi
    simp [this]
    by_cases a : low X i = 0#32 <;> simp [a]
theorem sum_ne (a b : List Int) : (sumOf a != sumOf b) = !(crc (BitVec.allOnes 32) a == crc (BitVec.allOnes 32) b) := by
  rw [Bool.eq_iff_iff]
  simp only [bne_iff_ne, ne_eq, Bool.not_eq_true', beq_eq_false_iff_ne]
  constructor
  · intro h e
    exact h (by unfold sumOf; rw [e])
  · intro h e
    apply h
    unfold sumOf at e
    have e2 : BitVec.allOnes 32 ^^^ crc (BitVec.allOnes 32) a = BitVec.allOnes 32 ^^^ crc (BitVec.allOnes 32) b := BitVec.eq_of_toNat_eq (by exact_mod_cast e)
    have e3 := congrArg (fun v => BitVec.allOnes 32 ^^^ v) e2
    simpa [← BitVec.xor_assoc] using e3
theorem Inv.told {xs : List Int} {at_ : Nat} {X : BitVec 32} {i : Nat} {c : List Int} {df : Bool} (h : Inv xs at_ X i c df) : ((sumOf xs != sumOf c) == df) = true := by
  rw [sum_ne, h.differ]
  have hc : crc (BitVec.allOnes 32) c = crc (BitVec.allOnes 32) xs ^^^ rn (8 * (xs.drop (at_ + i)).length) (err X i) := by
    rw [← List.take_append_drop (at_ + i) c, crc_append, h.head, h.rest, crc_diff, ← crc_append, List.take_append_drop]
  rw [hc]
  have : (crc (BitVec.allOnes 32) xs == crc (BitVec.allOnes 32) xs ^^^ rn (8 * (xs.drop (at_ + i)).length) (err X i)) = (low X i == 0#32) := by
    rw [Bool.eq_iff_iff, beq_iff_eq, beq_iff_eq, eq_comm, xor_ne, ← err_ker]
    exact ⟨rn_ker _ _, fun h => by rw [h, rn_zero]⟩
  rw [this]
  simp
theorem loop {xs : List Int} (hx : ∀ x ∈ xs, 0 ≤ x ∧ x < 256) (hn : xs.length ≤ 140737488351232) {at_ : Nat} (hat : at_ < xs.length) {x : Int} (hX : 0 ≤ x ∧ x < 4294967296) (d : Nat) :
    ∀ (k i : Nat) (c : List Int) (df : Bool), i + d = 4 → d + 10 * xs.length + 3 ≤ k → Inv xs at_ (BitVec.ofInt 32 x) i c df → quirelaw02_SumBits.l0 k xs (at_ : Int) x c df (i : Int) = some true := by
  have fin : ∀ (k i : Nat) (c : List Int) (df : Bool), 10 * xs.length + 1 ≤ k → Inv xs at_ (BitVec.ofInt 32 x) i c df →
      ((quirelaw02_own.f xs).bind fun t135 => ((sum_Sum.f k t135).bind fun t138 => ((sum_Sum.f k c).bind fun t139 => (some ((t138 != t139) == df))))) = some true := by
    intro k i c df hk h
    rw [own_eq xs hn]
    simp only [Option.bind_some]
    rw [sum_eq xs hx hn k hk, sum_eq c h.bytes (by rw [h.len]; exact hn) k (by rw [h.len]; exact hk)]
    simp only [Option.bind_some]
    rw [h.told]
  induction d with
  | zero =>
    intro k i c df hd hk h
    obtain ⟨k, rfl⟩ : ∃ m, k = m + 1 := ⟨k - 1, by omega⟩
    simp only [quirelaw02_SumBits.l0]
    rw [if_neg (by omega)]
    exact fin k i c df (by omega) h
  | succ d ih =>
    intro k i c df hd hk h
    obtain ⟨k, rfl⟩ : ∃ m, k = m + 1 := ⟨k - 1, by omega⟩
    have hw : wrap64 ((at_ : Int) + (i : Int)) = ((at_ + i : Nat) : Int) := by rw [w64 (by omega) (by omega)]; omega
    simp only [quirelaw02_SumBits.l0]
    rw [if_pos (by omega), hw]
    by_cases hlt : at_ + i < xs.length
    · have hnn : 0 ≤ IntKind.u64.wrap (wrap64 (8 * (i : Int))) := by
        simp [IntKind.wrap, IntKind.bits, IntKind.signed]; omega
      rw [if_pos (by rw [h.len]; omega), if_pos hnn, if_pos (by omega)]
      simp only [Option.bind_some]
      rw [byte_of hX.1 hX.2 i (by omega), w64 (i := (i : Int) + 1) (by omega) (by omega), show (i : Int) + 1 = ((i + 1 : Nat) : Int) by omega]
      have hN := h.next (i := i) (by omega) hlt
      have hrd : rd c ((at_ + i : Nat) : Int) = c.getD (at_ + i) 0 := rfl
      rw [hrd, show ((at_ + i : Nat) : Int).toNat = at_ + i by omega]
      have hne : (((bOf (BitVec.ofInt 32 x) i).toNat : Int) != 0) = !(bOf (BitVec.ofInt 32 x) i == 0#32) := by
        rw [Bool.eq_iff_iff]
        simp only [bne_iff_ne, ne_eq, Bool.not_eq_true', beq_eq_false_iff_ne]
        constructor
        · intro a b; apply a; rw [b]; rfl
        · intro a b; apply a; apply BitVec.eq_of_toNat_eq; simpa using b
      cases df with
      | true =>
        rw [if_pos rfl]
        exact ih k (i + 1) _ _ (by omega) (by omega) (by simpa using hN)
      | false =>
        rw [if_neg (by simp), hne]
        exact ih k (i + 1) _ _ (by omega) (by omega) (by simpa using hN)
    · rw [if_neg (by rw [h.len]; omega)]
      exact fin k i c df (by omega) h
theorem SumBits : quirelaw02_SumBits.Pure := by
  intro xs a x h1 h2 h3 h4 h5
  have hx : ∀ y ∈ xs, 0 ≤ y ∧ y < 256 := fun y hy => wf_u8 (h3 y hy)
  have hX := wf_u32 h5
  refine ⟨10 * xs.length + 61, ?_⟩
  unfold quirelaw02_SumBits.f
  rw [awake_eq _ (by omega)]
  simp only [Option.bind_some, if_true]
  by_cases c1 : a < 0
  · rw [if_pos c1]; rw [quirelaw02_SumBits.j0, if_pos rfl]
  · rw [if_neg c1]
    by_cases c2 : a ≥ (xs.length : Int)
    · rw [if_pos c2]; rw [quirelaw02_SumBits.j0, if_pos rfl]
    · rw [if_neg c2]
      simp only [quirelaw02_SumBits.j0]
      by_cases c3 : x = 0
      · rw [if_pos (by simp [c3])]
      · rw [if_neg (by simp [c3]), own_eq xs (by omega)]
        simp only [Option.bind_some]
        obtain ⟨n, rfl⟩ := Int.eq_ofNat_of_zero_le (show 0 ≤ a by omega)
        exact loop hx (by omega) (by omega) hX 4 _ 0 xs false rfl (by omega) (Inv.start hx n _)

end Go.Proofs.Ytdpoifaeimmdmaa.Pure
