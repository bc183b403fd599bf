/- SumBack: what was written is read again, what was joined is split again, and nothing else. No condition but that bytes are bytes, and the bulk. -/
import Derived.Test.YtdpoifaeimmdmaaSumLvB
namespace Go.Proofs.Ytdpoifaeimmdmaa.PSumBackLv
set_option linter.unusedVariables false
set_option linter.unusedSimpArgs false
open Go.RowKit Go.Proofs.YtdpoifaeimmdmaaW.PrintWords Go.Proofs.YtdpoifaeimmdmaaW.PrintLast Go.Proofs.YtdpoifaeimmdmaaW.PrintMore
open Go.Proofs.Ytdpoifaeimmdmaa.Pure (w64 wrap_u64) 
open Go.Proofs.Ytdpoifaeimmdmaa.Sp Go.Proofs.Ytdpoifaeimmdmaa.Spl Go.Proofs.Ytdpoifaeimmdmaa.Rd Go.Proofs.Ytdpoifaeimmdmaa.PSumBack
theorem eRead : PSumBack.sum_Read.f = PSumPlays.sum_Read.f := by kernel_rfl
theorem num_valI (k : Nat) (n : Int) (h0 : 0 ≤ n) (hn : n < 18446744073709551616) (hk : 9 ≤ k) : sum_Number.f k n = some (enc (n % 9223372036854775808).toNat) := by rw [eNumber]; exact number_val k n h0 hn hk
theorem read_back (b : List Int) (hb : ∀ x ∈ b, 0 ≤ x ∧ x < 256) (hn : b.length ≤ 1048576) (m : Nat) (hm : m < 9223372036854775808) (k : Nat) (hk : 30 ≤ k) : sum_Read.f k (b ++ enc m) (b.length : Int) = some ((m : Int), ((b.length + (enc m).length : Nat) : Int), 0) := by
  have he := enc_len 8 m (by have : (128 : Nat) ^ (8 + 1) = 9223372036854775808 := by decide
                             omega)
  rw [eRead, read_val (b ++ enc m) (fun x hx => by
    rcases List.mem_append.1 hx with hx | hx
    · exact hb x hx
    · exact enc_byte m x hx) (by rw [List.length_append]; omega) b.length (by rw [List.length_append]; omega) k hk]
  unfold rdV
  have h1 := rd_enc 8 m true [] (by have : (128 : Nat) ^ (8 + 1) = 9223372036854775808 := by decide
                                    omega) (.inr rfl)
  rw [List.append_nil] at h1
  rw [List.drop_left, h1]
  simp
theorem ans_some {xs : List Int} {z : List (List Int)} (h : splitP xs = some z) : ansS xs = (z, 0) := by unfold ansS; rw [h]
theorem ans_none {xs : List Int} (h : splitP xs = none) : ansS xs = ([], 9) := by unfold ansS; rw [h]
theorem law (l0 : List Int) (a1 : Int) (l2 : List (List Int)) (a3 : Int) (h0 : l0.length ≤ 1048576) (h1 : ∀ x ∈ l0, 0 ≤ x ∧ x < 256) (ha : 0 ≤ a1 ∧ a1 < 18446744073709551616) (h2 : l2.length ≤ 1048576) (h3 : ∀ b ∈ l2, b.length ≤ 1048576) (h4 : ∀ b ∈ l2, ∀ x ∈ b, 0 ≤ x ∧ x < 256)
    (hc : 0 ≤ a3 ∧ a3 < 65536) : ∃ k, quirelaw02_SumBack.f k l0 a1 l2 a3 = some true := by
  obtain ⟨k, hk⟩ : ∃ k : Nat, 9000000000000 ≤ k := ⟨_, Nat.le_refl _⟩
  obtain ⟨k, rfl⟩ : ∃ m, k = m + 1 + 1 := ⟨k - 2, by omega⟩
  have hj := join_le l2 h2 h3
  have hjb := join_byte l2 h4
  have h9 : (128 : Nat) ^ 9 = 9223372036854775808 := by decide
  have hm : (a1 % 9223372036854775808).toNat < 9223372036854775808 := by omega
  have he := enc_len 8 _ (show (a1 % 9223372036854775808).toNat < 128 ^ (8 + 1) by omega)
  have hbl : ∀ b ∈ l2, b.length < 128 ^ 9 := fun b hb => by have := h3 b hb; omega
  have hsj := split_join l2 (by omega) hbl
  have hjp : 1 ≤ (joinP l2).length := by unfold joinP; rw [List.length_append]; have := enc_pos l2.length; omega
  have hv : ((a1 % 9223372036854775808).toNat : Int) = Int.tmod a1 9223372036854775808 := by rw [Int.tmod_eq_emod_of_nonneg ha.1]; omega
  refine ⟨k + 1 + 1, ?_⟩
  unfold quirelaw02_SumBack.f
  rw [awake_val _ (by omega), Option.bind_some, if_pos rfl, own_val l0 (by omega), Option.bind_some, num_valI _ a1 ha.1 ha.2 (by omega), Option.bind_some, if_pos (by omega), read_back l0 h1 h0 _ hm _ (by omega), Option.bind_some]
  simp only
  rw [if_pos trivial, if_pos hv, Option.bind_some, w64 (by omega) (by omega), show ((((l0.length + (enc (a1 % 9223372036854775808).toNat).length : Nat) : Int)) != (l0.length : Int) + ((enc (a1 % 9223372036854775808).toNat).length : Int)) = false by simp, quirelaw02_SumBack.j0, if_neg (by simp)]
  clear hv hm he
  rw [owns_val l2 (by omega) (fun b hb => by have := h3 b hb; omega) _ (by omega), Option.bind_some, join_val l2 (by omega) (by omega) _ (by omega), Option.bind_some, if_neg (by omega), own_val _ (by omega), Option.bind_some, split_f _ hjb (by omega), Option.bind_some, ans_some hsj]
  obtain ⟨J, hJ⟩ : ∃ J, joinP l2 = J := ⟨_, rfl⟩
  have hmore := split_more l2 (by omega) hbl 0 []
  have hless := split_less l2 (by omega) hbl hjb
  rw [hJ] at hj hjb hjp hmore hless ⊢
  have hw3 : wrap64 a3 = a3 := w64 (by omega) (by omega)
  obtain ⟨t, ht, htl⟩ : ∃ t : Nat, Int.tmod (wrap64 a3) (J.length : Int) = (t : Int) ∧ t < J.length := by
    rw [hw3, Int.tmod_eq_emod_of_nonneg hc.1]
    have h5 := Int.emod_nonneg a3 (show (J.length : Int) ≠ 0 by omega)
    have h6 := Int.emod_lt_of_pos a3 (show (0 : Int) < (J.length : Int) by omega)
    exact ⟨(a3 % (J.length : Int)).toNat, by omega, by omega⟩
  have hless2 : splitP (J.take t) = none := by
    refine hless (J.take t) J[t] (J.drop (t + 1)) ?_
    rw [← List.drop_eq_getElem_cons htl, List.take_append_drop]
  clear hw3
  rw [Option.bind_some, if_pos (by omega), split_f (J ++ [0]) (fun x hx => by
    rcases List.mem_append.1 hx with hx | hx
    · exact hjb x hx
    · simp at hx; omega) (by rw [List.length_append]; simp; omega), Option.bind_some, ans_none hmore, ht, if_pos (by omega), if_pos (by omega), Int.toNat_natCast,
    own_val (J.take t) (by rw [List.length_take]; omega), Option.bind_some, split_f (J.take t) (fun x hx => hjb x (List.mem_of_mem_take hx)) (by rw [List.length_take]; omega), Option.bind_some, ans_none hless2]
  simp only
  rw [if_pos trivial, sameLists_val l2 (by omega) 1048576 h3 (by omega) _ (by omega), Option.bind_some, if_pos rfl, if_pos trivial, show ((9 : Int) != 9) = false by decide, quirelaw02_SumBack.j1, if_neg (by simp), own_val l0 (by omega), Option.bind_some, split_f l0 h1 (by omega), Option.bind_some]
  rcases ans_of l0 h1 with ⟨z, _, e, ez⟩ | ⟨_, e⟩
  · have hz := lists_le z 1048576 (by rw [← ez]; exact h0)
    rw [e]
    simp only
    rw [if_pos trivial, join_val z (by omega) (by rw [← ez]; omega) _ (by omega), Option.bind_some, ← ez, same_val l0 (by omega) _ (by omega), Option.bind_some]
  · rw [e]
    simp only
    rw [if_neg (by decide), if_pos (by simp)]
end Go.Proofs.Ytdpoifaeimmdmaa.PSumBackLv
