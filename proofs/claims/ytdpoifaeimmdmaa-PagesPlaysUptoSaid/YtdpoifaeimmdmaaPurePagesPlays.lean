/- A page's bytes, what bytes hold as a page and which numbers are free: the code and the document's answer are one. -/
import Derived.Test.YtdpoifaeimmdmaaPPagesPlaysx3
import Derived.Test.YtdpoifaeimmdmaaPagesPure
namespace Go.Proofs.Ytdpoifaeimmdmaa.Pure
set_option linter.unusedVariables false
set_option linter.unusedSimpArgs false
open Go.RowKit Go.Proofs.YtdpoifaeimmdmaaW.PrintWords
namespace PagesPlaysP
open Go.Proofs.Ytdpoifaeimmdmaa.Hand Go.Proofs.Ytdpoifaeimmdmaa.Pp Go.Proofs.Ytdpoifaeimmdmaa.Crc
theorem all_b {xs : List Int} (h : ∀ x ∈ xs, 0 ≤ x ∧ x < 256) : (xs.all fun x => decide (0 ≤ x) && decide (x < 256)) = true := by
  rw [List.all_eq_true]
  intro x hx
  have := h x hx
  simp [this]
theorem pack_f (a : Int) (xs : List Int) (ha : 0 ≤ a ∧ a < 4294967296) (h : ∀ x ∈ xs, 0 ≤ x ∧ x < 256) : PPagesPlays.pages_Pack.f a xs = some (pck a xs) := by
  unfold PPagesPlays.pages_Pack.f
  rw [if_pos ha.1, if_pos ha.2, if_pos (all_b h)]
theorem awake3 : PPagesPlays.quirelaw03_awake.f = some true := by
  unfold PPagesPlays.quirelaw03_awake.f
  rw [pack_f 7 [1] (by omega) (by intro x hx; simp at hx; omega)]
  have hp : pck 7 [1] = (packed 7 [1], 0) := if_pos (by decide)
  have hl := packed_length 7 [1] (by decide)
  rw [hp]
  simp only [Option.bind_some, if_true]
  have hr : rd (packed 7 [1]) 4 = 7 := by decide
  rw [hl, if_pos (show ((128 : Nat) : Int) = 128 from rfl), if_pos (by decide), hr]
  rfl
/-- The places of a list that are free, from i on. -/
def frees : Nat → List Bool → List Int
  | _, [] => []
  | i, b :: t => if b = true then frees (i + 1) t else (i : Int) :: frees (i + 1) t
theorem rdOf_drop (l : List Bool) (i : Nat) (h : i < l.length) : l.drop i = rdOf false l (i : Int) :: l.drop (i + 1) := by
  rw [List.drop_eq_getElem_cons h]
  congr 1
  show l[i] = l.getD (Int.toNat i) false
  rw [Int.toNat_natCast]
  simp [h]
theorem frees_step (l : List Bool) (i : Nat) (h : i < l.length) : frees i (l.drop i) = if rdOf false l (i : Int) = true then frees (i + 1) (l.drop (i + 1)) else (i : Int) :: frees (i + 1) (l.drop (i + 1)) := by
  rw [rdOf_drop l i h, frees]
theorem first_l0 (l : List Bool) (hl : l.length ≤ 2097152) (a : Nat) (d : Nat) : ∀ (k i : Nat) (acc : List Int), i + d = l.length → d + 1 ≤ k → acc.length ≤ i → acc.length ≤ a →
    PPagesPlays.pages_First.l0 k (a : Int) acc l (l.length : Int) (i : Int) = some (if acc.length + (frees i (l.drop i)).length < a then ([], 7) else (acc ++ (frees i (l.drop i)).take (a - acc.length), 0)) := by
  induction d with
  | zero =>
    intro k i acc h hk h1 h2
    obtain ⟨k, rfl⟩ : ∃ m, k = m + 1 := ⟨k - 1, by omega⟩
    rw [PPagesPlays.pages_First.l0, if_neg (by omega)]
    have e : l.drop i = [] := List.drop_eq_nil_of_le (by omega)
    rw [e]
    by_cases hlt : acc.length < a
    · rw [if_pos (by omega), if_pos (by simp [frees]; exact hlt)]
    · rw [if_neg (by omega), if_neg (by simp [frees]; omega)]
      simp [frees]
  | succ d ih =>
    intro k i acc h hk h1 h2
    obtain ⟨k, rfl⟩ : ∃ m, k = m + 1 := ⟨k - 1, by omega⟩
    rw [PPagesPlays.pages_First.l0, if_pos (by omega), if_pos (by omega), if_pos (by omega), frees_step l i (by omega), w64 (by omega) (by omega), show (i : Int) + 1 = ((i + 1 : Nat) : Int) by omega]
    by_cases hb : rdOf false l (i : Int) = true
    · rw [if_pos hb, if_pos hb]
      exact ih k (i + 1) acc (by omega) (by omega) (by omega) (by omega)
    · rw [if_neg hb, if_neg hb]
      by_cases hlt : acc.length < a
      · rw [if_pos (by omega), if_pos (by omega), ih k (i + 1) (acc ++ [(i : Int)]) (by omega) (by omega) (by simp; omega) (by simp; omega)]
        obtain ⟨m, hm⟩ : ∃ m, a - acc.length = m + 1 := ⟨a - acc.length - 1, by omega⟩
        have hm2 : a - (acc ++ [(i : Int)]).length = m := by simp; omega
        rw [hm2, hm, List.take_succ_cons, List.length_cons, List.length_append, List.length_singleton]
        have e1 : (acc.length + 1 + (frees (i + 1) (l.drop (i + 1))).length < a) = (acc.length + ((frees (i + 1) (l.drop (i + 1))).length + 1) < a) := by
          apply propext; omega
        simp only [e1, List.append_assoc, List.singleton_append]
      · have ea : a = acc.length := by omega
        rw [if_neg (by omega), ih k (i + 1) acc (by omega) (by omega) (by omega) (by omega)]
        rw [if_neg (by omega), if_neg (by simp; omega), show a - acc.length = 0 by omega, List.take_zero, List.take_zero]
theorem first_f (l : List Bool) (hl : l.length ≤ 2097152) (a : Nat) (k : Nat) (hk : l.length + 1 ≤ k) :
    PPagesPlays.pages_First.f k l (a : Int) = some (if (frees 0 l).length < a then ([], 7) else ((frees 0 l).take a, 0)) := by
  unfold PPagesPlays.pages_First.f
  rw [if_neg (by omega), show (0 : Int) = ((0 : Nat) : Int) from rfl, first_l0 l hl a l.length k 0 [] (by omega) hk (by simp) (by simp)]
  simp
theorem frees_len (l : List Bool) : ∀ i, (frees i l).length ≤ l.length := by
  induction l with
  | nil => intro i; simp [frees]
  | cons b t ih =>
    intro i
    rw [frees]
    split
    · have := ih (i + 1); simp; omega
    · have := ih (i + 1); simp; omega
open PPagesPlays
theorem shrB {c : Int} (h : 0 ≤ c ∧ c < 256) (i : Nat) (hi : i ≤ 8) : (shr .u8 c (IntKind.u64.wrap (i : Int))) % 4294967296 = ((by8 c >>> i).toNat : Int) := by
  obtain ⟨n, rfl⟩ := Int.eq_ofNat_of_zero_le h.1
  have hw : IntKind.u64.wrap (i : Int) = i := by simp [IntKind.wrap, IntKind.bits, IntKind.signed]; omega
  have hn : n % 4294967296 = n := by omega
  have hm : min i IntKind.u8.bits = i := by show min i 8 = i; omega
  have hlt : n / 2 ^ i < 4294967296 := Nat.lt_of_le_of_lt (Nat.div_le_self _ _) (by omega)
  unfold shr
  rw [hw, Int.toNat_natCast, hm]
  have e : ((n : Int) / 2 ^ i) = ((n / 2 ^ i : Nat) : Int) := by simp
  rw [e, BitVec.toNat_ushiftRight, Nat.shiftRight_eq_div_pow]
  have e2 : (by8 (n : Int)).toNat = n := by simp [by8]; omega
  rw [e2]
  generalize n / 2 ^ i = q at *
  omega
theorem tmod2 (a : BitVec 32) : (Int.tmod (a.toNat : Int) 2 = 1) ↔ a.getLsbD 0 = true := by
  rw [lsb, Int.tmod_eq_emod_of_nonneg (by omega)]
  simp; omega
theorem tdiv2 (a : BitVec 32) : (Int.tdiv (a.toNat : Int) (2 : Int)) % (4294967296 : Int) = ((a >>> 1).toNat : Int) := by
  rw [Int.tdiv_eq_ediv_of_nonneg (by omega), half]
  have := (a >>> 1).isLt
  omega
theorem shr_succ (x : BitVec 32) (i : Nat) : x >>> i >>> 1 = x >>> (i + 1) := by rw [BitVec.shiftRight_add]
theorem ref_l1 (d : Nat) : ∀ (k : Nat) (r : BitVec 32) (xs : List Int) (at_ i : Nat) (c : Int), at_ < xs.length → xs.length ≤ 140737488351232 → rd xs (at_ : Int) = c → 0 ≤ c ∧ c < 256 → i + d = 8 →
    quireref02_Sum.l1 (k + d + 1) xs (r.toNat : Int) (at_ : Int) (i : Int) = quireref02_Sum.l0 k xs ((rn d (r ^^^ (by8 c >>> i))).toNat : Int) ((at_ + 1 : Nat) : Int) := by
  induction d with
  | zero =>
    intro k r xs at_ i c h1 h2 h3 h4 h5
    rw [quireref02_Sum.l1, if_neg (by omega), w64 (by omega) (by omega)]
    have hz : by8 c >>> i = 0#32 := by
      apply BitVec.eq_of_toNat_eq
      rw [BitVec.toNat_ushiftRight, Nat.shiftRight_eq_div_pow, show i = 8 by omega]
      have := by8_nat h4
      simp; omega
    rw [hz, BitVec.xor_zero]
    rfl
  | succ d ih =>
    intro k r xs at_ i c h1 h2 h3 h4 h5
    rw [show k + (d + 1) + 1 = (k + d + 1) + 1 by omega, quireref02_Sum.l1, if_pos (by omega), if_pos (by omega), if_pos (by omega), h3, shrB h4 i (by omega), xor32, tdiv2, xorP, w64 (i := (i : Int) + 1) (by omega) (by omega), show (i : Int) + 1 = ((i + 1 : Nat) : Int) by omega]
    have hnn : 0 ≤ IntKind.u64.wrap (i : Int) := by simp [IntKind.wrap, IntKind.bits, IntKind.signed]; omega
    rw [if_pos hnn]
    have hr : rn (d + 1) (r ^^^ by8 c >>> i) = rn d (rnd (r ^^^ by8 c >>> i)) := rfl
    rw [hr]
    unfold rnd
    by_cases h : (r ^^^ by8 c >>> i).getLsbD 0 = true
    · rw [if_pos ((tmod2 _).2 h), ih k _ xs at_ (i + 1) c h1 h2 h3 h4 (by omega), h, if_pos rfl, BitVec.ushiftRight_xor_distrib, shr_succ]
      congr 3
      rw [BitVec.xor_assoc, BitVec.xor_assoc, BitVec.xor_comm pol]
    · rw [if_neg (fun e => h ((tmod2 _).1 e)), ih k _ xs at_ (i + 1) c h1 h2 h3 h4 (by omega), if_neg h, BitVec.ushiftRight_xor_distrib, shr_succ, BitVec.xor_zero]
theorem ref_l0 (xs : List Int) (hx : ∀ x ∈ xs, 0 ≤ x ∧ x < 256) (hn : xs.length ≤ 140737488351232) (d : Nat) : ∀ (k : Nat) (r : BitVec 32) (i : Nat), i + d = xs.length → 10 * d + 1 ≤ k →
    quireref02_Sum.l0 k xs (r.toNat : Int) (i : Int) = some ((BitVec.allOnes 32 ^^^ crc r (xs.drop i)).toNat : Int) := by
  induction d with
  | zero =>
    intro k r i h hk
    obtain ⟨k, rfl⟩ : ∃ m, k = m + 1 := ⟨k - 1, by omega⟩
    rw [quireref02_Sum.l0, if_neg (by omega), show (4294967295 : Int) = ((BitVec.allOnes 32).toNat : Int) by decide, xor32, List.drop_of_length_le (by omega), BitVec.xor_comm]
    rfl
  | succ d ih =>
    intro k r i h hk
    obtain ⟨k, rfl⟩ : ∃ m, k = m + 10 := ⟨k - 10, by omega⟩
    have hi : i < xs.length := by omega
    have hr : rd xs (i : Int) = xs[i] := by simp [rd, hi]
    rw [show k + 10 = (k + 8 + 1) + 1 by omega, quireref02_Sum.l0, if_pos (by omega)]
    have := ref_l1 8 k r xs i 0 xs[i] hi hn hr (hx _ (List.getElem_mem hi)) (by omega)
    rw [show ((0 : Nat) : Int) = 0 by omega] at this
    rw [this, ih k _ (i + 1) (by omega) (by omega), List.drop_eq_getElem_cons hi, crc_cons]
    simp [bstep]
theorem ref_eq (xs : List Int) (hx : ∀ x ∈ xs, 0 ≤ x ∧ x < 256) (hn : xs.length ≤ 140737488351232) (k : Nat) (hk : 10 * xs.length + 1 ≤ k) : quireref02_Sum.f k xs = some (sumOf xs) := by
  unfold quireref02_Sum.f
  have := ref_l0 xs hx hn xs.length k (BitVec.allOnes 32) 0 (by omega) hk
  exact this

theorem own_eq3 (xs : List Int) (hn : xs.length ≤ 140737488351232) : PPagesPlays.quirelaw03_own.f xs = some xs := by
  unfold PPagesPlays.quirelaw03_own.f
  rw [Option.bind_some, if_pos (by simp; omega)]
  rfl
theorem unpack_f (xs : List Int) (h : ∀ x ∈ xs, 0 ≤ x ∧ x < 256) : PPagesPlays.pages_Unpack.f xs = some (unp xs) := by
  unfold PPagesPlays.pages_Unpack.f
  rw [if_pos (all_b h)]
theorem same_dec (xs ys : List Int) (hn : xs.length ≤ 140737488351232) (he : xs.length = ys.length) (d : Nat) : ∀ (k i : Nat), i + d = xs.length → d + 1 ≤ k → quireref01_SameBytes.l0 k xs ys (i : Int) = some (decide (xs.drop i = ys.drop i)) := by
  induction d with
  | zero =>
    intro k i h hk
    obtain ⟨k, rfl⟩ : ∃ m, k = m + 1 := ⟨k - 1, by omega⟩
    rw [quireref01_SameBytes.l0, if_neg (by omega), List.drop_eq_nil_of_le (by omega), List.drop_eq_nil_of_le (by omega)]
    simp
  | succ d ih =>
    intro k i h hk
    obtain ⟨k, rfl⟩ : ∃ m, k = m + 1 := ⟨k - 1, by omega⟩
    have h1 : i < xs.length := by omega
    have h2 : i < ys.length := by omega
    have r1 : rd xs (i : Int) = xs[i] := by simp [rd, h1]
    have r2 : rd ys (i : Int) = ys[i] := by simp [rd, h2]
    rw [quireref01_SameBytes.l0, if_pos (by omega), if_pos (by omega), if_pos (by omega), r1, r2, List.drop_eq_getElem_cons h1, List.drop_eq_getElem_cons h2]
    by_cases e : xs[i] = ys[i]
    · rw [if_pos e, w64 (by omega) (by omega), show (i : Int) + 1 = ((i + 1 : Nat) : Int) by omega, ih k (i + 1) (by omega) (by omega)]
      simp only [e, List.cons.injEq, true_and]
    · rw [if_neg e]
      simp only [List.cons.injEq, e, false_and, decide_false]
theorem same_f (xs ys : List Int) (hn : xs.length ≤ 140737488351232) (k : Nat) (hk : xs.length + 1 ≤ k) : quireref01_SameBytes.f k xs ys = some (decide (xs = ys)) := by
  unfold quireref01_SameBytes.f
  by_cases e : xs.length = ys.length
  · rw [if_pos (by omega)]
    exact same_dec xs ys hn e xs.length k 0 (by omega) hk
  · rw [if_neg (by omega)]
    have : xs ≠ ys := fun h => e (by rw [h])
    simp [this]
theorem ints_l0 (xs : List Int) (hn : xs.length ≤ 140737488351232) (d : Nat) : ∀ (k i : Nat), i + d = xs.length → d + 1 ≤ k → quireref01_SameInts.l0 k xs xs (i : Int) = some true := by
  induction d with
  | zero =>
    intro k i h hk
    obtain ⟨k, rfl⟩ : ∃ m, k = m + 1 := ⟨k - 1, by omega⟩
    rw [quireref01_SameInts.l0, if_neg (by omega)]
  | succ d ih =>
    intro k i h hk
    obtain ⟨k, rfl⟩ : ∃ m, k = m + 1 := ⟨k - 1, by omega⟩
    rw [quireref01_SameInts.l0, if_pos (by omega), if_pos (by omega), if_pos (by omega), if_pos rfl, w64 (by omega) (by omega), show (i : Int) + 1 = ((i + 1 : Nat) : Int) by omega]
    exact ih k (i + 1) (by omega) (by omega)
theorem ints_self (xs : List Int) (hn : xs.length ≤ 140737488351232) (k : Nat) (hk : xs.length + 1 ≤ k) : quireref01_SameInts.f k xs xs = some true := by
  unfold quireref01_SameInts.f
  rw [if_pos rfl]
  exact ints_l0 xs hn xs.length k 0 (by omega) hk
theorem lay_eq (a : Int) (k : Nat) (hk : 5 ≤ k) : quireref02_Lay.f k a 4 = some (le32 a) := by
  obtain ⟨k, rfl⟩ : ∃ m, k = m + 1 + 1 + 1 + 1 + 1 := ⟨k - 5, by omega⟩
  have s0 : (shr .u64 a (IntKind.u64.wrap (wrap64 (8 * 0)))) % 256 = byteN a 0 := by
    rw [show IntKind.u64.wrap (wrap64 (8 * 0)) = 0 by decide +kernel]; rfl
  have s1 : (shr .u64 a (IntKind.u64.wrap (wrap64 (8 * 1)))) % 256 = byteN a 1 := by
    rw [show IntKind.u64.wrap (wrap64 (8 * 1)) = 8 by decide +kernel]; rfl
  have s2 : (shr .u64 a (IntKind.u64.wrap (wrap64 (8 * 2)))) % 256 = byteN a 2 := by
    rw [show IntKind.u64.wrap (wrap64 (8 * 2)) = 16 by decide +kernel]; rfl
  have s3 : (shr .u64 a (IntKind.u64.wrap (wrap64 (8 * 3)))) % 256 = byteN a 3 := by
    rw [show IntKind.u64.wrap (wrap64 (8 * 3)) = 24 by decide +kernel]; rfl
  have e1 : wrap64 (0 + 1) = 1 := by decide +kernel
  have e2 : wrap64 (1 + 1) = 2 := by decide +kernel
  have e3 : wrap64 (2 + 1) = 3 := by decide +kernel
  have e4 : wrap64 (3 + 1) = 4 := by decide +kernel
  unfold quireref02_Lay.f
  rw [quireref02_Lay.l0, if_pos (by decide), if_pos (by decide +kernel), if_pos (by simp), s0, e1]
  rw [quireref02_Lay.l0, if_pos (by decide), if_pos (by decide +kernel), if_pos (by simp), s1, e2]
  rw [quireref02_Lay.l0, if_pos (by decide), if_pos (by decide +kernel), if_pos (by simp), s2, e3]
  rw [quireref02_Lay.l0, if_pos (by decide), if_pos (by decide +kernel), if_pos (by simp), s3, e4]
  rw [quireref02_Lay.l0, if_neg (by decide)]
  rfl
theorem laid_eq (a b c d : Int) (ha : 0 ≤ a ∧ a < 256) (hb : 0 ≤ b ∧ b < 256) (hc : 0 ≤ c ∧ c < 256) (hd : 0 ≤ d ∧ d < 256) (k : Nat) (hk : 5 ≤ k) : quireref02_Laid.f k [a, b, c, d] = some (ld32 [a, b, c, d]) := by
  obtain ⟨k, rfl⟩ : ∃ m, k = m + 1 + 1 + 1 + 1 + 1 := ⟨k - 5, by omega⟩
  have e0 : wrap64 ((([a, b, c, d] : List Int).length : Int) - 1) = 3 := by simp [wrap64]
  have e1 : wrap64 (3 - 1) = 2 := by decide +kernel
  have e2 : wrap64 (2 - 1) = 1 := by decide +kernel
  have e3 : wrap64 (1 - 1) = 0 := by decide +kernel
  have e4 : wrap64 (0 - 1) = -1 := by decide +kernel
  have u : ∀ n : Int, IntKind.u64.wrap n = n % 18446744073709551616 := fun n => by simp [IntKind.wrap, IntKind.bits, IntKind.signed]
  unfold quireref02_Laid.f
  rw [e0]
  rw [quireref02_Laid.l0, if_pos (by decide), if_pos (by decide), if_pos (by simp), show rd [a, b, c, d] 3 = d from rfl, e1]
  rw [quireref02_Laid.l0, if_pos (by decide), if_pos (by decide), if_pos (by simp), show rd [a, b, c, d] 2 = c from rfl, e2]
  rw [quireref02_Laid.l0, if_pos (by decide), if_pos (by decide), if_pos (by simp), show rd [a, b, c, d] 1 = b from rfl, e3]
  rw [quireref02_Laid.l0, if_pos (by decide), if_pos (by decide), if_pos (by simp), show rd [a, b, c, d] 0 = a from rfl, e4]
  rw [quireref02_Laid.l0, if_neg (by decide)]
  congr 1
  simp only [u]
  show _ = a + 256 * b + 65536 * c + 16777216 * d
  omega
theorem four {l : List Int} (h : l.length = 4) : ∃ a b c d, l = [a, b, c, d] := by
  match l, h with
  | [a, b, c, d], _ => exact ⟨a, b, c, d, rfl⟩
theorem laid4 (l : List Int) (h : l.length = 4) (hx : ∀ x ∈ l, 0 ≤ x ∧ x < 256) (k : Nat) (hk : 5 ≤ k) : quireref02_Laid.f k l = some (ld32 l) := by
  obtain ⟨a, b, c, d, rfl⟩ := four h
  exact laid_eq a b c d (hx _ (by simp)) (hx _ (by simp)) (hx _ (by simp)) (hx _ (by simp)) k hk
theorem le32_ld32 (l : List Int) (h : l.length = 4) (hx : ∀ x ∈ l, 0 ≤ x ∧ x < 256) : le32 (ld32 l) = l := by
  obtain ⟨a, b, c, d, rfl⟩ := four h
  have ha := hx a (by simp)
  have hb := hx b (by simp)
  have hc := hx c (by simp)
  have hd := hx d (by simp)
  have e : ld32 [a, b, c, d] = a + 256 * b + 65536 * c + 16777216 * d := rfl
  rw [e]
  unfold le32
  rw [byteN_0, byteN_1, byteN_2, byteN_3]
  congr 1
  · omega
  congr 1
  · omega
  congr 1
  · omega
  congr 1
  omega
theorem ld32_take (l : List Int) : ld32 (l.take 4) = ld32 l := by
  unfold ld32
  simp [List.getD_eq_getElem?_getD, List.getElem?_take]
theorem cut4 (l : List Int) (o : Nat) (h : o + 4 ≤ l.length) (hx : ∀ x ∈ l, 0 ≤ x ∧ x < 256) (k : Nat) (hk : 5 ≤ k) : quireref02_Laid.f k ((l.take (o + 4)).drop o) = some (ld32 (l.drop o)) := by
  have e : (l.take (o + 4)).drop o = (l.drop o).take 4 := by rw [List.drop_take]; congr 1; omega
  rw [e, laid4 _ (by rw [List.length_take, List.length_drop]; omega) (fun x hh => hx x (List.mem_of_mem_drop (List.mem_of_mem_take hh))) k hk, ld32_take]
theorem ld32_range (l : List Int) (hx : ∀ x ∈ l, 0 ≤ x ∧ x < 256) : 0 ≤ ld32 l ∧ ld32 l < 4294967296 := by
  have r : ∀ j, 0 ≤ l.getD j 0 ∧ l.getD j 0 < 256 := by
    intro j
    by_cases hj : j < l.length
    · have : l.getD j 0 = l[j] := by simp [hj]
      rw [this]; exact hx _ (List.getElem_mem _)
    · have : l.getD j 0 = 0 := by simp [hj]
      rw [this]; omega
  have r0 := r 0
  have r1 := r 1
  have r2 := r 2
  have r3 := r 3
  unfold ld32
  omega
theorem pad (d : Nat) : ∀ (k : Nat) (x : List Int), x.length + d = 124 → quireref02_Pack.l0 (k + d) x = quireref02_Pack.l0 k (x ++ zeros d) := by
  induction d with
  | zero => intro k x h; simp [zeros]
  | succ d ih =>
    intro k x h
    rw [show k + (d + 1) = (k + d) + 1 by omega, quireref02_Pack.l0, if_pos (by omega), if_pos (by omega), ih k (x ++ [0]) (by simp; omega)]
    congr 1
    rw [List.append_assoc]
    congr 1
theorem u64_id {a : Int} (h : 0 ≤ a ∧ a < 4294967296) : IntKind.u64.wrap a = a := by
  simp [IntKind.wrap, IntKind.bits, IntKind.signed]; omega
theorem refpack_eq (id : Int) (data : List Int) (hid : 0 ≤ id ∧ id < 4294967296) (hd : ∀ x ∈ data, 0 ≤ x ∧ x < 256) (k : Nat) (hk : 3000 ≤ k) : quireref02_Pack.f k id data = some (pck id data) := by
  unfold quireref02_Pack.f
  by_cases hl : data.length ≤ 116
  · rw [if_neg (by omega), u64_id hid, u64_id (show 0 ≤ ((data.length : Nat) : Int) ∧ ((data.length : Nat) : Int) < 4294967296 by omega), lay_eq _ _ (by omega), lay_eq _ _ (by omega)]
    simp only [Option.bind_some]
    rw [if_pos (by simp [le32]), if_pos (by simp [le32]; omega)]
    have hp : pck id data = (packed id data, 0) := if_pos hl
    have e : (le32 id ++ le32 (data.length : Int) ++ data).length + (116 - data.length) = 124 := by simp [le32]; omega
    obtain ⟨k, rfl⟩ : ∃ m, k = (m + 1) + (116 - data.length) := ⟨k - 1 - (116 - data.length), by omega⟩
    have e2 : le32 id ++ le32 (data.length : Int) ++ data ++ zeros (116 - data.length) = restOf id data := by simp [restOf, List.append_assoc]
    have hrl := rest_length id data hl
    rw [pad _ _ _ e, e2, quireref02_Pack.l0, if_neg (by omega), ref_eq _ (rest_bytes id data hd) (by omega) _ (by omega)]
    simp only [Option.bind_some]
    rw [u64_id (sumOf_range _), lay_eq _ _ (by omega)]
    simp only [Option.bind_some]
    rw [if_pos (by rw [hrl]; simp [le32]), hp]
    rfl
  · have hp : pck id data = ([], 11) := if_neg hl
    rw [if_pos (by omega), hp]
theorem unp_is_packed (l : List Int) (hl : l.length = 128) (hx : ∀ x ∈ l, 0 ≤ x ∧ x < 256) (hs : ld32 l = sumOf (l.drop 4)) (n : Nat) (hn : ld32 (l.drop 8) = n) (hn2 : n ≤ 116) (hz : (l.drop (12 + n)).all (· == 0) = true) : packed (ld32 (l.drop 4)) ((l.drop 12).take n) = l := by
  have a4 : ∀ o, o + 4 ≤ 128 → le32 (ld32 (l.drop o)) = (l.drop o).take 4 := by
    intro o ho
    rw [← ld32_take, le32_ld32 _ (by rw [List.length_take, List.length_drop]; omega) (fun x hh => hx x (List.mem_of_mem_drop (List.mem_of_mem_take hh)))]
  have hlen : ((l.drop 12).take n).length = n := by rw [List.length_take, List.length_drop]; omega
  have hzz : l.drop (12 + n) = zeros (116 - n) := by
    rw [zeros, List.eq_replicate_iff]
    refine ⟨by rw [List.length_drop]; omega, fun x hh => ?_⟩
    have := List.all_eq_true.1 hz x hh
    simpa using this
  have hrest : restOf (ld32 (l.drop 4)) ((l.drop 12).take n) = l.drop 4 := by
    unfold restOf
    rw [hlen, ← hn, a4 4 (by omega), a4 8 (by omega), ← hzz]
    have e1 : l.drop (12 + n) = (l.drop 12).drop n := by rw [List.drop_drop]
    have e2 : l.drop 12 = (l.drop 8).drop 4 := by rw [List.drop_drop]
    have e3 : l.drop 8 = (l.drop 4).drop 4 := by rw [List.drop_drop]
    rw [e1, List.take_append_drop, e2, List.take_append_drop, e3, List.take_append_drop]
  unfold packed
  rw [hrest, ← hs]
  have := a4 0 (by omega)
  rw [List.drop_zero] at this
  rw [this, List.take_append_drop]
theorem refunp_eq (l : List Int) (hx : ∀ x ∈ l, 0 ≤ x ∧ x < 256) (hlb : l.length ≤ 140737488351232) (k : Nat) (hk : 3000 ≤ k) : quireref02_Unpack.f k l = some (unp l) := by
  unfold quireref02_Unpack.f
  by_cases hl : l.length = 128
  · rw [if_pos (by omega), if_pos (by omega), if_pos (by omega), cut4 l 8 (by omega) hx k (by omega)]
    simp only [Option.bind_some]
    have hr8 := ld32_range (l.drop 8) (fun x hh => hx x (List.mem_of_mem_drop hh))
    have hr4 := ld32_range (l.drop 4) (fun x hh => hx x (List.mem_of_mem_drop hh))
    by_cases hn : ld32 (l.drop 8) > 116
    · rw [if_pos hn]
      unfold unp
      rw [if_neg (by omega), if_pos (.inr hn)]
    · rw [if_neg hn, if_pos (by omega), if_pos (by omega), cut4 l 4 (by omega) hx k (by omega)]
      simp only [Option.bind_some]
      obtain ⟨n, hn2⟩ := Int.eq_ofNat_of_zero_le hr8.1
      have hn3 : n ≤ 116 := by omega
      have hw : wrap64 (12 + wrap64 (ld32 (l.drop 8))) = ((12 + n : Nat) : Int) := by
        have hin : wrap64 (ld32 (l.drop 8)) = ld32 (l.drop 8) := w64 (by omega) (by omega)
        rw [hin, w64 (by omega) (by omega), hn2]; omega
      have hm : ld32 (l.drop 4) % 4294967296 = ld32 (l.drop 4) := by omega
      have hc : (l.take (12 + n)).drop 12 = (l.drop 12).take n := by rw [List.drop_take]; congr 1; omega
      have hb : ∀ x ∈ (l.drop 12).take n, 0 ≤ x ∧ x < 256 := fun x hh => hx x (List.mem_of_mem_drop (List.mem_of_mem_take hh))
      have hlen : ((l.drop 12).take n).length = n := by rw [List.length_take, List.length_drop]; omega
      rw [hw, if_pos (by omega), if_pos (by omega), hm, Int.toNat_natCast, hc, refpack_eq _ _ hr4 hb k hk]
      have hp : pck (ld32 (l.drop 4)) ((l.drop 12).take n) = (packed (ld32 (l.drop 4)) ((l.drop 12).take n), 0) := if_pos (by omega)
      have hpl := packed_length (ld32 (l.drop 4)) ((l.drop 12).take n) (by omega)
      rw [hp]
      simp only [Option.bind_some]
      rw [same_f _ _ (by omega) k (by omega)]
      simp only [Option.bind_some]
      by_cases e : packed (ld32 (l.drop 4)) ((l.drop 12).take n) = l
      · have hu := unp_packed (ld32 (l.drop 4)) ((l.drop 12).take n) hr4 (by omega)
        rw [e] at hu
        rw [if_pos (decide_eq_true e), if_pos (by simp; omega), hu]
        rfl
      · rw [if_neg (by simpa using e)]
        unfold unp
        rw [if_neg (by omega)]
        by_cases hs : ld32 l = sumOf (l.drop 4)
        · rw [if_neg (by intro hh; rcases hh with hh | hh; exact hh hs; exact hn hh), if_neg]
          rw [hn2]
          intro hz
          exact e (unp_is_packed l hl hx hs n hn2 hn3 hz)
        · rw [if_pos (.inl hs)]
  · rw [if_neg (by omega)]
    unfold unp
    rw [if_pos hl]
theorem reffirst_l0 (l : List Bool) (hl : l.length ≤ 2097152) (a : Nat) (d : Nat) : ∀ (k i : Nat) (acc : List Int), i + d = l.length → 2 * d + 2 ≤ k → acc.length ≤ i → acc.length ≤ a →
    quireref02_First.l0 k l (a : Int) acc (i : Int) = some (if acc.length + (frees i (l.drop i)).length < a then ([], 7) else (acc ++ (frees i (l.drop i)).take (a - acc.length), 0)) := by
  induction d with
  | zero =>
    intro k i acc h hk h1 h2
    obtain ⟨k, rfl⟩ : ∃ m, k = m + 2 := ⟨k - 2, by omega⟩
    rw [quireref02_First.l0, if_neg (by omega), quireref02_First.j1, if_neg (by decide)]
    have e : l.drop i = [] := List.drop_eq_nil_of_le (by omega)
    rw [e]
    by_cases hlt : acc.length < a
    · rw [if_pos (by omega), if_pos (by simp [frees]; exact hlt)]
    · rw [if_neg (by omega), if_neg (by simp [frees]; omega)]
      simp [frees]
  | succ d ih =>
    intro k i acc h hk h1 h2
    obtain ⟨k, rfl⟩ : ∃ m, k = m + 2 := ⟨k - 2, by omega⟩
    rw [quireref02_First.l0, if_pos (by omega), quireref02_First.j1]
    by_cases hlt : acc.length < a
    · rw [if_pos (by simp; omega), if_pos (by omega), if_pos (by omega), frees_step l i (by omega), w64 (by omega) (by omega), show (i : Int) + 1 = ((i + 1 : Nat) : Int) by omega]
      by_cases hb : rdOf false l (i : Int) = true
      · rw [if_pos hb, if_pos hb]
        exact ih k (i + 1) acc (by omega) (by omega) (by omega) (by omega)
      · rw [if_neg hb, if_neg hb, if_pos (by omega), ih k (i + 1) (acc ++ [(i : Int)]) (by omega) (by omega) (by simp; omega) (by simp; omega)]
        obtain ⟨m, hm⟩ : ∃ m, a - acc.length = m + 1 := ⟨a - acc.length - 1, by omega⟩
        have hm2 : a - (acc ++ [(i : Int)]).length = m := by simp; omega
        rw [hm2, hm, List.take_succ_cons, List.length_cons, List.length_append, List.length_singleton]
        have e1 : (acc.length + 1 + (frees (i + 1) (l.drop (i + 1))).length < a) = (acc.length + ((frees (i + 1) (l.drop (i + 1))).length + 1) < a) := by
          apply propext; omega
        simp only [e1, List.append_assoc, List.singleton_append]
    · rw [if_neg (by simp; omega), if_neg (by omega), if_neg (by omega), show a - acc.length = 0 by omega, List.take_zero, List.append_nil]
theorem first_both (l : List Bool) (hl : l.length ≤ 2097152) (n : Int) (k : Nat) (hk : 2 * l.length + 2 ≤ k) : ∃ r : List Int × Int, PPagesPlays.pages_First.f k l n = some r ∧ quireref02_First.f k l n = some r ∧ r.1.length ≤ l.length := by
  by_cases hn : n < 0
  · refine ⟨([], 2), ?_, ?_, by simp⟩
    · unfold PPagesPlays.pages_First.f
      rw [if_pos hn]
    · unfold quireref02_First.f
      rw [if_pos hn]
  · obtain ⟨a, rfl⟩ := Int.eq_ofNat_of_zero_le (show 0 ≤ n by omega)
    refine ⟨_, first_f l hl a k (by omega), ?_, ?_⟩
    · unfold quireref02_First.f
      rw [if_neg (by omega), show (0 : Int) = ((0 : Nat) : Int) from rfl, reffirst_l0 l hl a l.length k 0 [] (by omega) hk (by simp) (by simp)]
      simp
    · have := frees_len l 0
      split
      · simp
      · rw [List.length_take]; omega
end PagesPlaysP
open PagesPlaysP Go.Proofs.Ytdpoifaeimmdmaa.Hand Go.Proofs.Ytdpoifaeimmdmaa.Pp in
theorem PagesPlays (id : Int) (data b : List Int) (l : List Bool) (n : Int) (hid : 0 ≤ id ∧ id < 4294967296) (hd : ∀ x ∈ data, 0 ≤ x ∧ x < 256) (hb : ∀ x ∈ b, 0 ≤ x ∧ x < 256) (h1 : data.length ≤ 1048576) (h2 : b.length ≤ 1048576) (h3 : l.length ≤ 1048576) : ∃ k, PPagesPlays.quirelaw03_PagesPlays.f k id data b l n = some true := by
  obtain ⟨r, r1, r2, r3⟩ := first_both l (by omega) n (2 * l.length + b.length + 3000) (by omega)
  refine ⟨2 * l.length + b.length + 3000, ?_⟩
  have hpl : (pck id data).1.length ≤ 128 := by
    by_cases hl : data.length ≤ 116
    · have hp : pck id data = (packed id data, 0) := if_pos hl
      rw [hp]
      have := packed_length id data hl
      simp only; omega
    · have hp : pck id data = ([], 11) := if_neg hl
      rw [hp]; simp
  have hul : (unp b).2.1.length ≤ b.length := by
    unfold unp
    split
    · simp
    · split
      · simp
      · split
        · simp only [List.length_take, List.length_drop]; omega
        · simp
  unfold PPagesPlays.quirelaw03_PagesPlays.f
  rw [awake3]
  simp only [Option.bind_some, if_true]
  rw [own_eq3 data (by omega)]
  simp only [Option.bind_some]
  rw [pack_f id data hid hd, refpack_eq id data hid hd _ (by omega)]
  simp only [Option.bind_some]
  rw [own_eq3 b (by omega)]
  simp only [Option.bind_some]
  rw [unpack_f b hb, refunp_eq b hb (by omega) _ (by omega)]
  simp only [Option.bind_some, List.nil_append, List.length_nil, Nat.zero_add]
  rw [if_pos (by omega), r1, r2]
  simp only [Option.bind_some]
  rw [same_f _ _ (by omega) _ (by omega)]
  simp only [Option.bind_some, decide_true, if_true]
  rw [same_f _ _ (by omega) _ (by omega)]
  simp only [Option.bind_some, decide_true, if_true]
  rw [ints_self _ (by omega) _ (by omega)]
  simp
end Go.Proofs.Ytdpoifaeimmdmaa.Pure
