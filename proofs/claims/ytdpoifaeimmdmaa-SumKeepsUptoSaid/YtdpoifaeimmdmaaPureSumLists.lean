/- SumLists: the program's Join and Split answer what the reference's answer. No condition but that bytes are bytes, and the bulk. -/
import Derived.Test.YtdpoifaeimmdmaaSumLw
namespace Go.Proofs.Ytdpoifaeimmdmaa.PSumListsLv
set_option linter.unusedVariables false
set_option linter.unusedSimpArgs false
open Go.RowKit Go.Proofs.YtdpoifaeimmdmaaW.PrintWords Go.Proofs.YtdpoifaeimmdmaaW.PrintLast Go.Proofs.YtdpoifaeimmdmaaW.PrintMore
open Go.Proofs.Ytdpoifaeimmdmaa.Sp Go.Proofs.Ytdpoifaeimmdmaa.Spl Go.Proofs.Ytdpoifaeimmdmaa.Rd Go.Proofs.Ytdpoifaeimmdmaa.PSumLists
theorem law (l0 : List (List Int)) (l1 : List Int) (h0 : l0.length ≤ 1048576) (h1 : ∀ b ∈ l0, b.length ≤ 1048576) (h2 : l1.length ≤ 1048576) (h3 : ∀ x ∈ l1, 0 ≤ x ∧ x < 256) : ∃ k, quirelaw02_SumLists.f k l0 l1 = some true := by
  obtain ⟨k, hk⟩ : ∃ k : Nat, 3000000000000 ≤ k := ⟨_, Nat.le_refl _⟩
  obtain ⟨k, rfl⟩ : ∃ m, k = m + 1 := ⟨k - 1, by omega⟩
  have hj := join_le l0 h0 h1
  refine ⟨k + 1, ?_⟩
  unfold quirelaw02_SumLists.f
  rw [awake_val _ (by omega), Option.bind_some, if_pos rfl, owns_val l0 (by omega) (fun b hb => by have := h1 b hb; omega) _ (by omega), Option.bind_some, join_val l0 (by omega) (by omega) _ (by omega), Option.bind_some,
    refJoin_val l0 (by omega) (by omega) _ (by omega), Option.bind_some, same_val _ (by omega) _ (by omega), Option.bind_some, quirelaw02_SumLists.j0, if_neg (by simp), own_val l1 (by omega), Option.bind_some,
    split_f l1 h3 (by omega), Option.bind_some, refSplit_val l1 h3 (by omega) _ (by omega), Option.bind_some]
  have hs : (ansS l1).1.length ≤ 1048576 ∧ ∀ b ∈ (ansS l1).1, b.length ≤ 1048576 := by
    rcases ans_of l1 h3 with ⟨z, _, e, ez⟩ | ⟨_, e⟩
    · rw [e]; exact lists_le z _ (by rw [← ez]; exact h2)
    · rw [e]; exact ⟨by simp, fun b hb => by cases hb⟩
  rw [sameLists_val _ (by omega) 1048576 hs.2 (by omega) _ (by omega), Option.bind_some, if_pos rfl]
  simp
end Go.Proofs.Ytdpoifaeimmdmaa.PSumListsLv
