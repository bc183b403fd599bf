/- What the program's reader and writer of numbers answer, in plain words (Sp.rdP, Sp.enc); no condition but that bytes are bytes. -/
import Derived.Test.YtdpoifaeimmdmaaPureSumPlays
import Derived.Test.YtdpoifaeimmdmaaSumSp
namespace Go.Proofs.Ytdpoifaeimmdmaa.Rd
set_option linter.unusedVariables false
set_option linter.unusedSimpArgs false
open Go.RowKit Go.Proofs.Ytdpoifaeimmdmaa.PSumPlays Go.Proofs.YtdpoifaeimmdmaaW.PrintWords Go.Proofs.YtdpoifaeimmdmaaW.PrintLast Go.Proofs.YtdpoifaeimmdmaaW.PrintMore
open Go.Proofs.Ytdpoifaeimmdmaa.Pure Go.Proofs.Ytdpoifaeimmdmaa.Sp
/-- What Read answers at a place. -/
def rdV (xs : List Int) (at_ : Nat) : Int × Int × Int := match rdP 9 true (xs.drop at_) with
  | none => (0, 0, 9)
  | some (n, r) => ((n : Int), ((xs.length - r.length : Nat) : Int), 0)
def rdW (xs : List Int) (at_ i d : Nat) (a : Int) : Int × Int × Int := match rdP d (decide (i = 0)) (xs.drop (at_ + i)) with
  | none => (0, 0, 9)
  | some (n, r) => (a + (n : Int) * 2 ^ (7 * i), ((xs.length - r.length : Nat) : Int), 0)
theorem rd_at (xs : List Int) (p : Nat) (h : p < xs.length) : xs.drop p = xs[p] :: xs.drop (p + 1) := List.drop_eq_getElem_cons h
set_option maxHeartbeats 1000000 in
theorem readv_l0 (xs : List Int) (hx : ∀ x ∈ xs, 0 ≤ x ∧ x < 256) (hn : xs.length ≤ 140737488351232) (at_ : Nat) (hat : at_ ≤ xs.length) (d : Nat) : ∀ (k i : Nat) (a : Int), i + d = 9 → 2 * d + 2 ≤ k → 0 ≤ a → a < 2 ^ (7 * i) →
    sum_Read.l0 k xs (at_ : Int) a (i : Int) = some (rdW xs at_ i d a) := by
  induction d with
  | zero =>
    intro k i a h hk h0 h1
    obtain ⟨k, rfl⟩ : ∃ m, k = m + 1 + 1 := ⟨k - 2, by omega⟩
    rw [sum_Read.l0, if_neg (by omega), sum_Read.j2, if_neg (by simp)]
    rfl
  | succ d ih =>
    intro k i a h hk h0 h1
    obtain ⟨k, rfl⟩ : ∃ m, k = m + 1 + 1 := ⟨k - 2, by omega⟩
    have hw : wrap64 ((at_ : Int) + (i : Int)) = ((at_ + i : Nat) : Int) := by rw [w64 (by omega) (by omega)]; omega
    have hw7 : 0 ≤ wrap64 (7 * (i : Int)) := by rw [w64 (by omega) (by omega)]; omega
    by_cases c : at_ + i < xs.length
    · have hr : rd xs ((at_ + i : Nat) : Int) = xs[at_ + i] := by
        show xs.getD (((at_ + i : Nat) : Int)).toNat 0 = _
        rw [Int.toNat_natCast]; simp [c]
      have hb := hx _ (List.getElem_mem c)
      have hd := rd_at xs (at_ + i) c
      generalize xs[at_ + i] = b at *
      have hj1 := join i (by omega) a (b % 128) h0 h1 (by omega) (by omega)
      have hV0 : 0 ≤ a + b % 128 * 2 ^ (7 * i) := by
        have : 0 ≤ (b % 128) * 2 ^ (7 * i) := Int.mul_nonneg (by omega) (by exact_mod_cast Nat.zero_le _)
        omega
      obtain ⟨V, hV⟩ : ∃ V, a + b % 128 * 2 ^ (7 * i) = V := ⟨_, rfl⟩
      rw [hV] at hj1 hV0
      have P : sum_Read.l0 (k + 1 + 1) xs (at_ : Int) a (i : Int) = (if b < 128 then (if b = 0 then (if (i : Int) > 0 then some (0, 0, 9) else some (V, wrap64 (((at_ + i : Nat) : Int) + 1), 0)) else some (V, wrap64 (((at_ + i : Nat) : Int) + 1), 0)) else sum_Read.l0 k xs (at_ : Int) V (wrap64 ((i : Int) + 1))) := by
        rw [sum_Read.l0, if_pos (by omega), hw, sum_Read.j2, if_pos (by simp; omega), hw, hr, if_pos (by omega), if_pos (by omega), if_pos hw7, u8_127 b hb.1 hb.2, hj1.1]
      have hw1 : wrap64 (((at_ + i : Nat) : Int) + 1) = ((xs.length - (xs.drop (at_ + i + 1)).length : Nat) : Int) := by
        rw [w64 (by omega) (by omega), List.length_drop]; omega
      rw [P, hw1]
      unfold rdW
      rw [hd, rdP]
      by_cases e : b < 128
      · have hVb : a + (b.toNat : Int) * 2 ^ (7 * i) = V := by rw [← hV, show (b.toNat : Int) = b % 128 by omega]
        rw [if_pos e, if_pos e]
        by_cases f : b = 0
        · rw [if_pos f]
          by_cases g : (i : Int) > 0
          · rw [if_pos g, if_pos ⟨f, by simp; omega⟩]
          · rw [if_neg g, if_neg (by rintro ⟨_, h2⟩; simp at h2; omega)]
            show _ = some (_, _, _)
            rw [hVb]
        · rw [if_neg f, if_neg (by rintro ⟨h2, _⟩; exact f h2)]
          show _ = some (_, _, _)
          rw [hVb]
      · rw [if_neg e, if_neg e, w64 (i := (i : Int) + 1) (by omega) (by omega), show (i : Int) + 1 = ((i + 1 : Nat) : Int) by omega, ih k (i + 1) _ (by omega) (by omega) hV0 hj1.2.2]
        unfold rdW
        rw [show at_ + (i + 1) = at_ + i + 1 by omega, show decide (i + 1 = 0) = false by simp]
        cases rdP d false (xs.drop (at_ + i + 1)) with
        | none => rfl
        | some p =>
          obtain ⟨n, r⟩ := p
          simp only [Option.map_some, Option.some.injEq, Prod.mk.injEq, and_true]
          rw [← hV, show ((b.toNat - 128 + 128 * n : Nat) : Int) = b % 128 + 128 * (n : Int) by omega, show 7 * (i + 1) = 7 * i + 7 by omega, Int.pow_add, Int.add_mul]
          have : (2 : Int) ^ 7 = 128 := rfl
          rw [this, Int.add_assoc]
          congr 2
          rw [Int.mul_comm 128 (n : Int), Int.mul_assoc, Int.mul_comm 128]
    · rw [sum_Read.l0, if_pos (by omega), hw, sum_Read.j2, if_neg (by simp; omega)]
      unfold rdW
      rw [List.drop_eq_nil_of_le (by omega)]
      rfl
theorem read_val (xs : List Int) (hx : ∀ x ∈ xs, 0 ≤ x ∧ x < 256) (hn : xs.length ≤ 140737488351232) (a : Nat) (ha : a ≤ xs.length) (k : Nat) (hk : 30 ≤ k) : sum_Read.f k xs (a : Int) = some (rdV xs a) := by
  obtain ⟨k, rfl⟩ : ∃ m, k = m + 1 := ⟨k - 1, by omega⟩
  unfold sum_Read.f
  rw [if_neg (by omega), sum_Read.j0, if_neg (by simp; omega)]
  have := readv_l0 xs hx hn a ha 9 k 0 0 rfl (by omega) (by omega) (by decide)
  rw [show ((0 : Nat) : Int) = 0 from rfl] at this
  rw [this]
  unfold rdW rdV
  rw [show decide ((0 : Nat) = 0) = true by simp, Nat.add_zero]
  cases rdP 9 true (xs.drop a) with
  | none => rfl
  | some p => simp
theorem ref_val (xs : List Int) (hx : ∀ x ∈ xs, 0 ≤ x ∧ x < 256) (hn : xs.length ≤ 140737488351232) (a : Nat) (ha : a ≤ xs.length) (k : Nat) (hk : 30 ≤ k) : quireref02_Read.f k xs (a : Int) = some (rdV xs a) := by
  obtain ⟨R, h1, h2⟩ := read_eq xs hx hn (a : Int) k hk
  rw [read_val xs hx hn a ha k hk] at h1
  rw [h2, ← h1]
theorem put_val (d : Nat) : ∀ (k : Nat) (xs : List Int) (n : Nat), n < 128 ^ (d + 1) → d + 1 ≤ k → xs.length + d + 1 ≤ 140737488355328 → sum_Put.l0 k xs (n : Int) = some (xs ++ enc n) := by
  induction d with
  | zero =>
    intro k xs n h1 hk hx
    obtain ⟨k, rfl⟩ : ∃ m, k = m + 1 := ⟨k - 1, by omega⟩
    rw [sum_Put.l0, if_neg (by simp at h1; omega), if_pos (by omega), enc_small (by simpa using h1)]
    simp at h1
    rw [show (n : Int) % 256 = n by omega]
  | succ d ih =>
    intro k xs n h1 hk hx
    obtain ⟨k, rfl⟩ : ∃ m, k = m + 1 := ⟨k - 1, by omega⟩
    rw [sum_Put.l0]
    by_cases c : n < 128
    · rw [if_neg (by omega), if_pos (by omega), enc_small c, show (n : Int) % 256 = n by omega]
    · rw [if_pos (by omega), if_pos (by omega), or128 _ (by omega), show (n : Int) / 128 = ((n / 128 : Nat) : Int) by omega,
        ih k _ (n / 128) (by rw [Nat.pow_succ] at h1; omega) (by omega) (by simp; omega), enc_big c]
      simp
theorem put_f (k : Nat) (xs : List Int) (n : Nat) (hn : n < 9223372036854775808) (hk : 9 ≤ k) (hx : xs.length + 9 ≤ 140737488355328) : sum_Put.f k xs (n : Int) = some (xs ++ enc n) := by
  unfold sum_Put.f
  rw [u64_63 _ (by omega) (by omega), show (n : Int) % 9223372036854775808 = (n : Int) by omega]
  exact put_val 8 k xs n (by have : (128 : Nat) ^ (8 + 1) = 9223372036854775808 := by decide
                             omega) hk hx
theorem put_fw (k : Nat) (xs : List Int) (n : Int) (h0 : 0 ≤ n) (hn : n < 18446744073709551616) (hk : 9 ≤ k) (hx : xs.length + 9 ≤ 140737488355328) : sum_Put.f k xs n = some (xs ++ enc (n % 9223372036854775808).toNat) := by
  unfold sum_Put.f
  rw [u64_63 _ h0 hn]
  have := put_val 8 k xs (n % 9223372036854775808).toNat (by have : (128 : Nat) ^ (8 + 1) = 9223372036854775808 := by decide
                                                             omega) hk hx
  rw [← this]
  congr 1
  omega
theorem number_val (k : Nat) (n : Int) (h0 : 0 ≤ n) (hn : n < 18446744073709551616) (hk : 9 ≤ k) : sum_Number.f k n = some (enc (n % 9223372036854775808).toNat) := by
  unfold sum_Number.f
  rw [put_fw k [] n h0 hn hk (by simp)]
  rfl
theorem refNumber_val (k : Nat) (n : Int) (h0 : 0 ≤ n) (hn : n < 18446744073709551616) (hk : 10 ≤ k) : quireref02_Number.f k n = some (enc (n % 9223372036854775808).toNat) := by
  obtain ⟨r, h1, h2, _⟩ := number_eq k n ⟨h0, hn⟩ hk
  rw [number_val k n h0 hn (by omega)] at h1
  rw [h2, ← h1]
end Go.Proofs.Ytdpoifaeimmdmaa.Rd
