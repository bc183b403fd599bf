/- What the reference's Join and Split, and SameLists, answer, in plain words. -/
import Derived.Test.YtdpoifaeimmdmaaSumLv
namespace Go.Proofs.Ytdpoifaeimmdmaa.PSumListsLv
set_option linter.unusedVariables false
set_option linter.unusedSimpArgs false
open Go.RowKit Go.Proofs.YtdpoifaeimmdmaaW.PrintWords Go.Proofs.YtdpoifaeimmdmaaW.PrintLast Go.Proofs.YtdpoifaeimmdmaaW.PrintMore
open Go.Proofs.Ytdpoifaeimmdmaa.Pure (w64 wrap_u64) 
open Go.Proofs.Ytdpoifaeimmdmaa.Sp Go.Proofs.Ytdpoifaeimmdmaa.Spl Go.Proofs.Ytdpoifaeimmdmaa.Rd Go.Proofs.Ytdpoifaeimmdmaa.PSumLists
theorem eRefNumber : PSumLists.quireref02_Number.f = PSumPlays.quireref02_Number.f := by kernel_rfl
theorem eRefRead : PSumLists.quireref02_Read.f = PSumPlays.quireref02_Read.f := by kernel_rfl
theorem refNum_val (k n : Nat) (hn : n < 9223372036854775808) (hk : 10 ≤ k) : quireref02_Number.f k (n : Int) = some (enc n) := by
  rw [eRefNumber, refNumber_val k n (by omega) (by omega) hk]
  congr 2
  omega
theorem refRead_val (xs : List Int) (hx : ∀ x ∈ xs, 0 ≤ x ∧ x < 256) (hn : xs.length ≤ 140737488351232) (a : Nat) (ha : a ≤ xs.length) (k : Nat) (hk : 30 ≤ k) : quireref02_Read.f k xs (a : Int) = some (rdV xs a) := by rw [eRefRead]; exact ref_val xs hx hn a ha k hk
theorem w64add (t q : Nat) (h : t + q ≤ 5000000000000) : wrap64 ((t : Int) + (q : Int)) = ((t + q : Nat) : Int) := by
  rw [show (t : Int) + (q : Int) = ((t + q : Nat) : Int) by omega]
  exact w64 (by omega) (by omega)
theorem w64nat (q : Nat) (h : q ≤ 5000000000000) : wrap64 (q : Int) = (q : Int) := w64 (by omega) (by omega)
theorem rd_lt {xs : List Int} (hx : ∀ x ∈ xs, 0 ≤ x ∧ x < 256) {a q : Nat} {r : List Int} (h1 : rdP 9 true (xs.drop a) = some (q, r)) : q < 9223372036854775808 := by
  obtain ⟨_, h9, _⟩ := rd_back 9 true (xs.drop a) q r (fun x hm => hx x (List.mem_of_mem_drop hm)) h1
  have h99 : (128 : Nat) ^ 9 = 9223372036854775808 := by decide
  omega
theorem refJoin_l0 (l : List (List Int)) (hl : l.length ≤ 5000000000000) (d : Nat) : ∀ (k i : Nat) (acc : List Int), i + d = l.length → d + 11 ≤ k → acc.length + (cat (l.drop i)).length ≤ 140737488300000 →
    quireref02_Join.l0 k l acc (i : Int) = some (acc ++ cat (l.drop i)) := by
  induction d with
  | zero =>
    intro k i acc h hk ha
    obtain ⟨k, rfl⟩ : ∃ m, k = m + 1 := ⟨k - 1, by omega⟩
    rw [quireref02_Join.l0, if_neg (by omega), List.drop_eq_nil_of_le (by omega), cat, List.append_nil]
  | succ d ih =>
    intro k i acc h hk ha
    obtain ⟨k, rfl⟩ : ∃ m, k = m + 1 := ⟨k - 1, by omega⟩
    have hi : i < l.length := by omega
    rw [List.drop_eq_getElem_cons hi, cat] at ha ⊢
    simp only [List.length_append] at ha
    rw [quireref02_Join.l0, if_pos (by omega), if_pos (by omega), rdL hi, wrap_u64, show ((l[i].length : Int)) % 18446744073709551616 = ((l[i].length : Nat) : Int) by omega, refNum_val k _ (by omega) (by omega), Option.bind_some,
      if_pos (by omega), Option.bind_some, if_pos (by simp only [List.length_append]; omega), w64 (by omega) (by omega), show (i : Int) + 1 = ((i + 1 : Nat) : Int) by omega, ih k (i + 1) _ (by omega) (by omega) (by simp only [List.length_append]; omega)]
    simp only [List.append_assoc]
theorem refJoin_val (l : List (List Int)) (hl : l.length ≤ 5000000000000) (h : (joinP l).length ≤ 140737488300000) (k : Nat) (hk : l.length + 11 ≤ k) : quireref02_Join.f k l = some (joinP l) := by
  unfold quireref02_Join.f
  rw [wrap_u64, show ((l.length : Int)) % 18446744073709551616 = ((l.length : Nat) : Int) by omega, refNum_val k _ (by omega) (by omega), Option.bind_some]
  unfold joinP at h ⊢
  rw [List.length_append] at h
  exact refJoin_l0 l hl l.length k 0 _ (by omega) hk h
def resS (acc : List (List Int)) : Option (List (List Int) × List Int) → List (List Int) × Int
  | some (z, []) => (acc ++ z, 0)
  | _ => ([], 9)
set_option maxHeartbeats 1000000 in
theorem refSplit_l0 (xs : List Int) (hx : ∀ x ∈ xs, 0 ≤ x ∧ x < 256) (hn : xs.length ≤ 5000000000000) (n : Nat) (hN : n ≤ xs.length) (m : Nat) : ∀ (k i a : Nat) (acc : List (List Int)), i + m = n → m + 31 ≤ k → a ≤ xs.length → acc.length = i →
    quireref02_Split.l0 k xs (n : Int) (a : Int) acc (i : Int) = some (resS acc (splN m (xs.drop a))) := by
  induction m with
  | zero =>
    intro k i a acc h hk ha hl
    obtain ⟨k, rfl⟩ : ∃ m, k = m + 1 := ⟨k - 1, by omega⟩
    rw [quireref02_Split.l0, w64 (by omega) (by omega), if_neg (by omega), splN]
    by_cases c : a = xs.length
    · subst c
      rw [if_pos rfl, List.drop_length]
      simp [resS]
    · rw [if_neg (by omega)]
      cases e : xs.drop a with
      | nil => rw [List.drop_eq_nil_iff] at e; omega
      | cons x r => rfl
  | succ m ih =>
    intro k i a acc h hk ha hl
    obtain ⟨k, rfl⟩ : ∃ m, k = m + 1 := ⟨k - 1, by omega⟩
    rw [quireref02_Split.l0, w64 (i := (n : Int)) (by omega) (by omega), if_pos (by omega), refRead_val xs hx (by omega) a ha k (by omega), Option.bind_some, splN]
    unfold rdV
    cases h1 : rdP 9 true (xs.drop a) with
    | none =>
      simp only
      rw [if_neg (by decide)]
      rfl
    | some p =>
      obtain ⟨q, r⟩ := p
      obtain ⟨d1, d2, d3⟩ := drop_len hx h1
      have h9 := rd_lt hx h1
      obtain ⟨t, ht⟩ : ∃ t, xs.length - r.length = t := ⟨_, rfl⟩
      rw [ht] at d1 d2 d3
      simp only [ht]
      rw [if_pos trivial, w64 (i := (xs.length : Int) - (t : Int)) (by omega) (by omega), wrap_u64, show ((xs.length : Int) - (t : Int)) % 18446744073709551616 = (r.length : Int) by omega]
      by_cases c : r.length < q
      · rw [if_pos (by omega), if_pos c]
        rfl
      · have hqr : q ≤ r.length := by omega
        have htr : t + r.length ≤ 5000000000000 := by omega
        have hq5 : q ≤ 5000000000000 := by omega
        have htq5 : t + q ≤ 5000000000000 := by omega
        have hcut : (xs.take (t + q)).drop t = r.take q := by rw [List.drop_take, d1]; congr 1; omega
        have hlen : (r.take q).length = q := by rw [List.length_take]; omega
        have hd : xs.drop (t + q) = r.drop q := by rw [← List.drop_drop, d1]
        rw [if_neg (by omega), if_neg c, Option.bind_some, w64nat q hq5, w64add t q htq5, if_pos (by omega), if_pos (by omega), if_pos (by omega), Int.toNat_natCast, Int.toNat_natCast, hcut, if_pos (by rw [hlen]; simp; omega), if_pos (by omega), List.nil_append,
          w64 (i := (i : Int) + 1) (by omega) (by omega), show (i : Int) + 1 = ((i + 1 : Nat) : Int) by omega, ih k (i + 1) (t + q) _ (by omega) (by omega) (by omega) (by simp [hl]), hd]
        cases splN m (r.drop q) with
        | none => rfl
        | some p =>
          obtain ⟨z, w⟩ := p
          cases w with
          | nil => simp [resS]
          | cons x w => rfl
theorem refSplit_val (xs : List Int) (hx : ∀ x ∈ xs, 0 ≤ x ∧ x < 256) (hn : xs.length ≤ 5000000000000) (k : Nat) (hk : xs.length + 32 ≤ k) : quireref02_Split.f k xs = some (ansS xs) := by
  obtain ⟨k, rfl⟩ : ∃ m, k = m + 1 := ⟨k - 1, by omega⟩
  unfold quireref02_Split.f
  have h0 := refRead_val xs hx (by omega) 0 (by omega) (k + 1) (by omega)
  rw [show ((0 : Nat) : Int) = 0 from rfl] at h0
  rw [h0, Option.bind_some]
  unfold rdV
  rw [List.drop_zero]
  cases h1 : rdP 9 true xs with
  | none =>
    simp only
    rw [if_neg (by decide), quireref02_Split.j0, if_pos rfl, ans_first_bad xs h1]
  | some p =>
    obtain ⟨n, r⟩ := p
    have h1' : rdP 9 true (xs.drop 0) = some (n, r) := h1
    obtain ⟨d1, d2, d3⟩ := drop_len hx h1'
    have h99 : n < 9223372036854775808 := rd_lt hx h1'
    simp only
    rw [if_pos trivial, wrap_u64, show ((xs.length : Int)) % 18446744073709551616 = (xs.length : Int) by omega, quireref02_Split.j0]
    by_cases c : xs.length < n
    · rw [if_pos (by simp; omega), ans_big xs n r h1 c]
    · rw [if_neg (by simp; omega)]
      have := refSplit_l0 xs hx hn n (by omega) n k 0 (xs.length - r.length) [] (by omega) (by omega) d2 rfl
      rw [show ((0 : Nat) : Int) = 0 from rfl] at this
      rw [this, d1]
      unfold ansS splitP
      rw [h1]
      simp only
      rw [if_neg c]
      cases splN n r with
      | none => rfl
      | some p =>
        obtain ⟨z, w⟩ := p
        cases w with
        | nil => rfl
        | cons x w => rfl
end Go.Proofs.Ytdpoifaeimmdmaa.PSumListsLv
