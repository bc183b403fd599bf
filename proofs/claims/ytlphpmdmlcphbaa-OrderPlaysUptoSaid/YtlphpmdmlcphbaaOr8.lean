/- Seat E: net.wanted: its loop. -/
import Derived.Test.YtlphpmdmlcphbaaOr7
namespace Go.Proofs.Ytlphpmdmlcphbaa.Or
open Go.RowKit Go.Proofs.Ytlphpmdmlcphbaa.Mem Go.Proofs.YtlphpmdmlcphbaaW.PrintWords Go.Maps Go.Proofs.Ytlphpmdmlcphbaa.Om
set_option linter.unusedVariables false
set_option linter.unusedSimpArgs false
set_option maxRecDepth 100000
set_option maxHeartbeats 4000000
/-- All that is wanted, and what of it is missing. -/
noncomputable def want (l : List Vo) (H : List ByteArray) : Nat → List ByteArray → List ByteArray → List ByteArray → Option (List ByteArray × List ByteArray)
  | 0, _, _, _ => none
  | n + 1, st, seen, miss => if st.length = 0 then some (seen, miss) else
      if st.getLastD ByteArray.empty ∈ H ∨ st.getLastD ByteArray.empty ∈ seen then want l H n st.dropLast seen miss else
      if usesOf l (st.getLastD ByteArray.empty) = none then want l H n st.dropLast (st.getLastD ByteArray.empty :: seen) (miss ++ [st.getLastD ByteArray.empty])
      else want l H n (st.dropLast ++ uses l (st.getLastD ByteArray.empty)) (st.getLastD ByteArray.empty :: seen) miss
theorem want_succ (l : List Vo) (H : List ByteArray) (q : Nat) (rs : List ByteArray) (x : ByteArray) (seen miss : List ByteArray) :
    want l H (q + 1) (rs ++ [x]) seen miss = if x ∈ H ∨ x ∈ seen then want l H q rs seen miss else if usesOf l x = none then want l H q rs (x :: seen) (miss ++ [x]) else want l H q (rs ++ uses l x) (x :: seen) miss := by
  have h1 : (rs ++ [x]).getLastD ByteArray.empty = x := by simp
  have h2 : (rs ++ [x]).dropLast = rs := by simp
  rw [want, if_neg (by simp), h1, h2]
theorem want_total (l : List Vo) (H : List ByteArray) : ∀ (n : Nat) (st seen miss : List ByteArray), st.length + ub l seen < n → ∃ r, want l H n st seen miss = some r
  | 0, _, _, _, h => absurd h (Nat.not_lt_zero _)
  | n + 1, st, seen, miss, h => by
    unfold want
    by_cases h0 : st.length = 0
    · exact ⟨(seen, miss), if_pos h0⟩
    · rw [if_neg h0]
      by_cases h1 : st.getLastD ByteArray.empty ∈ H ∨ st.getLastD ByteArray.empty ∈ seen
      · rw [if_pos h1]
        exact want_total l H n _ _ _ (by rw [List.length_dropLast]; omega)
      · rw [if_neg h1]
        have := ub_step l seen (st.getLastD ByteArray.empty) (fun h => h1 (.inr h))
        by_cases h2 : usesOf l (st.getLastD ByteArray.empty) = none
        · rw [if_pos h2]
          exact want_total l H n _ _ _ (by rw [List.length_dropLast]; omega)
        · rw [if_neg h2]
          exact want_total l H n _ _ _ (by rw [List.length_append, List.length_dropLast]; omega)
theorem UM.ok {w : World} {l : List Vo} {m : ByteArray → Option Value} (h : UM w l m) (x : ByteArray) : (m x).isSome = (usesOf l x).isSome := by
  have h1 := h x
  cases hu : usesOf l x with
  | none => rw [hu] at h1; simp only [] at h1; rw [h1]; rfl
  | some us => rw [hu] at h1; obtain ⟨A, c, e1, _⟩ := h1; rw [e1]; rfl
end Go.Proofs.Ytlphpmdmlcphbaa.Or
