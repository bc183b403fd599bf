/- What the lists' writer, its reference and their helpers answer, in plain words (Sp.joinP, Spl.ansS); no condition but that bytes are bytes and sizes fit. -/
import Derived.Test.YtdpoifaeimmdmaaPSumListsx3
import Derived.Test.YtdpoifaeimmdmaaSplit2
namespace Go.Proofs.Ytdpoifaeimmdmaa.PSumListsLv
set_option linter.unusedVariables false
set_option linter.unusedSimpArgs false
open Go.RowKit Go.Proofs.YtdpoifaeimmdmaaW.PrintWords Go.Proofs.YtdpoifaeimmdmaaW.PrintLast Go.Proofs.YtdpoifaeimmdmaaW.PrintMore
open Go.Proofs.Ytdpoifaeimmdmaa.Pure (w64 wrap_u64) 
open Go.Proofs.Ytdpoifaeimmdmaa.Sp Go.Proofs.Ytdpoifaeimmdmaa.Spl Go.Proofs.Ytdpoifaeimmdmaa.Rd Go.Proofs.Ytdpoifaeimmdmaa.PSumLists
theorem eOwn : PSumLists.quirelaw02_own.f = PSumPlays.quirelaw02_own.f := by kernel_rfl
theorem ePut : PSumLists.sum_Put.f = PSumPlays.sum_Put.f := by kernel_rfl
theorem eNumber : PSumLists.sum_Number.f = PSumPlays.sum_Number.f := by kernel_rfl
theorem eSame : PSumLists.quireref01_SameBytes.f = PSumPlays.quireref01_SameBytes.f := by kernel_rfl
theorem eAwake : PSumLists.quirelaw02_awake.f = PSumPlays.quirelaw02_awake.f := by kernel_rfl
theorem own_val (xs : List Int) (hn : xs.length ≤ 140737488351232) : quirelaw02_own.f xs = some xs := by rw [eOwn]; exact Pure.own_eq xs hn
theorem put_val (k : Nat) (xs : List Int) (n : Nat) (hn : n < 9223372036854775808) (hk : 9 ≤ k) (hx : xs.length + 9 ≤ 140737488355328) : sum_Put.f k xs (n : Int) = some (xs ++ enc n) := by rw [ePut]; exact put_f k xs n hn hk hx
theorem num_val (k n : Nat) (hn : n < 9223372036854775808) (hk : 9 ≤ k) : sum_Number.f k (n : Int) = some (enc n) := by
  rw [eNumber, number_val k n (by omega) (by omega) hk]
  congr 2
  omega
theorem same_val (xs : List Int) (hn : xs.length ≤ 140737488355328) (k : Nat) (hk : xs.length + 1 ≤ k) : quireref01_SameBytes.f k xs xs = some true := by rw [eSame]; exact Pure.same_self xs hn k hk
theorem awake_val (k : Nat) (h : 60 ≤ k) : quirelaw02_awake.f k = some true := by rw [eAwake]; exact Pure.awake_eq k h
theorem rdL {l : List (List Int)} {i : Nat} (h : i < l.length) : rd_L1 l (i : Int) = l[i] := by
  show l.getD ((i : Int)).toNat [] = _
  rw [Int.toNat_natCast]; simp [h]
theorem owns_l0 (l : List (List Int)) (hl : l.length ≤ 5000000000000) (hb : ∀ b ∈ l, b.length ≤ 140737488351232) (d : Nat) : ∀ (k i : Nat) (acc : List (List Int)), i + d = l.length → d + 1 ≤ k → acc.length = i →
    quirelaw02_owns.l0 k l acc (i : Int) = some (acc ++ l.drop i) := by
  induction d with
  | zero =>
    intro k i acc h hk ha
    obtain ⟨k, rfl⟩ : ∃ m, k = m + 1 := ⟨k - 1, by omega⟩
    rw [quirelaw02_owns.l0, if_neg (by omega), List.drop_eq_nil_of_le (by omega), List.append_nil]
  | succ d ih =>
    intro k i acc h hk ha
    obtain ⟨k, rfl⟩ : ∃ m, k = m + 1 := ⟨k - 1, by omega⟩
    have hi : i < l.length := by omega
    rw [quirelaw02_owns.l0, if_pos (by omega), if_pos (by omega), rdL hi, own_val _ (hb _ (List.getElem_mem hi)), Option.bind_some, if_pos (by omega), w64 (by omega) (by omega), show (i : Int) + 1 = ((i + 1 : Nat) : Int) by omega,
      ih k (i + 1) _ (by omega) (by omega) (by simp [ha]), List.drop_eq_getElem_cons hi, List.append_assoc]
    rfl
theorem owns_val (l : List (List Int)) (hl : l.length ≤ 5000000000000) (hb : ∀ b ∈ l, b.length ≤ 140737488351232) (k : Nat) (hk : l.length + 1 ≤ k) : quirelaw02_owns.f k l = some l :=
  owns_l0 l hl hb l.length k 0 [] (by omega) hk rfl
theorem join_l0 (l : List (List Int)) (hl : l.length ≤ 5000000000000) (d : Nat) : ∀ (k i : Nat) (acc : List Int), i + d = l.length → d + 10 ≤ k → acc.length + (cat (l.drop i)).length ≤ 140737488300000 →
    sum_Join.l0 k acc l (l.length : Int) (i : Int) = some (acc ++ cat (l.drop i)) := by
  induction d with
  | zero =>
    intro k i acc h hk ha
    obtain ⟨k, rfl⟩ : ∃ m, k = m + 1 := ⟨k - 1, by omega⟩
    rw [sum_Join.l0, if_neg (by omega), List.drop_eq_nil_of_le (by omega), cat, List.append_nil]
  | succ d ih =>
    intro k i acc h hk ha
    obtain ⟨k, rfl⟩ : ∃ m, k = m + 1 := ⟨k - 1, by omega⟩
    have hi : i < l.length := by omega
    rw [List.drop_eq_getElem_cons hi, cat] at ha ⊢
    simp only [List.length_append] at ha
    rw [sum_Join.l0, if_pos (by omega), if_pos (by omega), if_pos (by omega), rdL hi, wrap_u64, show ((l[i].length : Int)) % 18446744073709551616 = ((l[i].length : Nat) : Int) by omega, put_val k acc _ (by omega) (by omega) (by omega), Option.bind_some,
      if_pos (by simp only [List.length_append]; omega), w64 (by omega) (by omega), show (i : Int) + 1 = ((i + 1 : Nat) : Int) by omega, ih k (i + 1) _ (by omega) (by omega) (by simp only [List.length_append]; omega)]
    simp only [List.append_assoc]
theorem join_val (l : List (List Int)) (hl : l.length ≤ 5000000000000) (h : (joinP l).length ≤ 140737488300000) (k : Nat) (hk : l.length + 10 ≤ k) : sum_Join.f k l = some (joinP l) := by
  unfold sum_Join.f
  rw [wrap_u64, show ((l.length : Int)) % 18446744073709551616 = ((l.length : Nat) : Int) by omega, num_val k _ (by omega) (by omega), Option.bind_some]
  unfold joinP at h ⊢
  rw [List.length_append] at h
  exact join_l0 l hl l.length k 0 _ (by omega) hk h
theorem sameLists_l0 (l : List (List Int)) (hl : l.length ≤ 5000000000000) (n : Nat) (hb : ∀ b ∈ l, b.length ≤ n) (hn : n ≤ 140737488351232) (d : Nat) : ∀ (k i : Nat), i + d = l.length → d + n + 1 ≤ k → quireref01_SameLists.l0 k l l (i : Int) = some true := by
  induction d with
  | zero =>
    intro k i h hk
    obtain ⟨k, rfl⟩ : ∃ m, k = m + 1 := ⟨k - 1, by omega⟩
    rw [quireref01_SameLists.l0, if_neg (by omega)]
  | succ d ih =>
    intro k i h hk
    obtain ⟨k, rfl⟩ : ∃ m, k = m + 1 := ⟨k - 1, by omega⟩
    have hi : i < l.length := by omega
    have h1 := hb _ (List.getElem_mem hi)
    rw [quireref01_SameLists.l0, if_pos (by omega), if_pos (by omega), if_pos (by omega), rdL hi, same_val _ (by omega) k (by omega), Option.bind_some, if_pos rfl, w64 (by omega) (by omega), show (i : Int) + 1 = ((i + 1 : Nat) : Int) by omega]
    exact ih k (i + 1) (by omega) (by omega)
theorem sameLists_val (l : List (List Int)) (hl : l.length ≤ 5000000000000) (n : Nat) (hb : ∀ b ∈ l, b.length ≤ n) (hn : n ≤ 140737488351232) (k : Nat) (hk : l.length + n + 1 ≤ k) : quireref01_SameLists.f k l l = some true := by
  unfold quireref01_SameLists.f
  rw [if_pos rfl]
  exact sameLists_l0 l hl n hb hn l.length k 0 (by omega) hk
theorem cat_le (M : Nat) : ∀ l : List (List Int), (∀ b ∈ l, b.length ≤ M) → M < 9223372036854775808 → (cat l).length ≤ l.length * (M + 9)
  | [], _, _ => by simp [cat]
  | b :: r, h, hM => by
    have h1 := h b List.mem_cons_self
    have h2 := enc_len 8 b.length (by have : (128 : Nat) ^ (8 + 1) = 9223372036854775808 := by decide
                                      omega)
    have h3 := cat_le M r (fun c hc => h c (List.mem_cons_of_mem _ hc)) hM
    rw [cat, List.length_append, List.length_append, List.length_cons, Nat.add_mul, Nat.one_mul]
    omega
/-- What comes in, up to the bulk. -/
theorem join_le (l : List (List Int)) (hl : l.length ≤ 1048576) (h : ∀ b ∈ l, b.length ≤ 1048576) : (joinP l).length ≤ 2000000000000 := by
  have h1 := cat_le 1048576 l h (by omega)
  have h2 := enc_len 8 l.length (by have : (128 : Nat) ^ (8 + 1) = 9223372036854775808 := by decide
                                    omega)
  have h3 : l.length * (1048576 + 9) ≤ 1048576 * (1048576 + 9) := Nat.mul_le_mul_right _ hl
  unfold joinP
  rw [List.length_append]
  omega
theorem split_f (xs : List Int) (hx : ∀ x ∈ xs, 0 ≤ x ∧ x < 256) (hn : xs.length ≤ 5000000000000) : sum_Split.f xs = some (ansS xs) := by
  unfold sum_Split.f
  rw [if_pos (by rw [List.all_eq_true]; intro x h; have := hx x h; simp; exact this), if_pos hn]
theorem ans_of (xs : List Int) (hx : ∀ x ∈ xs, 0 ≤ x ∧ x < 256) : (∃ z, splitP xs = some z ∧ ansS xs = (z, 0) ∧ xs = joinP z) ∨ (splitP xs = none ∧ ansS xs = ([], 9)) := by
  unfold ansS
  cases h : splitP xs with
  | none => exact .inr ⟨rfl, rfl⟩
  | some z => exact .inl ⟨z, rfl, rfl, (split_back hx h).1⟩
/-- The lists that are read are no more and no longer than the bytes. -/
theorem lists_le (z : List (List Int)) (n : Nat) (h : (joinP z).length ≤ n) : z.length ≤ n ∧ ∀ b ∈ z, b.length ≤ n := by
  have h1 := cat_len z
  unfold joinP at h
  rw [List.length_append] at h
  refine ⟨by omega, ?_⟩
  have : ∀ l : List (List Int), ∀ b ∈ l, b.length ≤ (cat l).length := by
    intro l
    induction l with
    | nil => intro b hb; cases hb
    | cons c r ih =>
      intro b hb
      rw [cat, List.length_append, List.length_append]
      rcases List.mem_cons.1 hb with rfl | hb
      · omega
      · have := ih b hb; omega
  intro b hb
  have := this z b hb
  omega
end Go.Proofs.Ytdpoifaeimmdmaa.PSumListsLv
