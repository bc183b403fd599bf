/- Seat E: circles: plain. -/
import Derived.Test.YtlphpmdmlcphbaaCloneS
namespace Go.Proofs.Ytlphpmdmlcphbaa.Or
open Go.RowKit Go.Proofs.Ytlphpmdmlcphbaa.Mem Go.Proofs.YtlphpmdmlcphbaaW.PrintWords Go.Maps Go.Proofs.Ytlphpmdmlcphbaa.Om
set_option linter.unusedVariables false
set_option linter.unusedSimpArgs false
def uses (l : List Vo) (x : ByteArray) : List ByteArray := (usesOf l x).getD []
/-- Does a name lie on a circle? A stack of names that are looked at yet (its top is its end), and those that were. -/
noncomputable def circ (l : List Vo) (H : List ByteArray) (name : ByteArray) : Nat → List ByteArray → List ByteArray → Option Bool
  | 0, _, _ => none
  | n + 1, st, seen => if st.length = 0 then some false else
      if st.getLastD ByteArray.empty ∈ H ∨ st.getLastD ByteArray.empty ∈ seen then circ l H name n st.dropLast seen else
      if st.getLastD ByteArray.empty = name then some true else circ l H name n (st.dropLast ++ uses l (st.getLastD ByteArray.empty)) (st.getLastD ByteArray.empty :: seen)
noncomputable def ub (l : List Vo) (seen : List ByteArray) : Nat := (l.map (fun v => if v.1 ∈ seen then 0 else v.2.length)).sum
theorem ub_cons (v : Vo) (l : List Vo) (seen : List ByteArray) : ub (v :: l) seen = (if v.1 ∈ seen then 0 else v.2.length) + ub l seen := by simp [ub]
theorem ub_acc (x : ByteArray) (seen : List ByteArray) (hx : x ∉ seen) : ∀ (l : List Vo) (a : Option (List ByteArray)), ub l (x :: seen) + ((l.foldl (fun a v => if x = v.1 then some v.2 else a) a).getD []).length ≤ ub l seen + (a.getD []).length
  | [], a => by simp [ub]
  | v :: r, a => by
    rw [ub_cons, ub_cons, List.foldl_cons]
    have h := ub_acc x seen hx r (if x = v.1 then some v.2 else a)
    by_cases hv : x = v.1
    · rw [if_pos hv] at h
      rw [if_pos (show v.1 ∈ x :: seen by rw [hv]; exact List.mem_cons_self ..), if_neg (show ¬ v.1 ∈ seen by rw [← hv]; exact hx), if_pos hv]
      simp only [Option.getD_some] at h ⊢
      omega
    · rw [if_neg hv] at h
      rw [if_neg hv]
      by_cases hs : v.1 ∈ seen
      · rw [if_pos (List.mem_cons_of_mem _ hs), if_pos hs]; omega
      · rw [if_neg (fun h => by rcases List.mem_cons.1 h with h | h; exact hv h.symm; exact hs h), if_neg hs]; omega
theorem ub_step (l : List Vo) (seen : List ByteArray) (x : ByteArray) (hx : x ∉ seen) : ub l (x :: seen) + (uses l x).length ≤ ub l seen := by
  have h := ub_acc x seen hx l none
  simpa [uses, usesOf] using h
theorem ub_tot (l : List Vo) : ub l [] ≤ tot l := by
  induction l with
  | nil => simp [ub]
  | cons v r ih =>
    have h3 : tot (v :: r) = v.2.length + 1 + tot r := by simp [tot]
    rw [ub_cons, h3]
    simp
    omega
theorem circ_total (l : List Vo) (H : List ByteArray) (name : ByteArray) : ∀ (n : Nat) (st seen : List ByteArray), st.length + ub l seen < n → ∃ r, circ l H name n st seen = some r
  | 0, _, _, h => absurd h (Nat.not_lt_zero _)
  | n + 1, st, seen, h => by
    unfold circ
    by_cases h0 : st.length = 0
    · exact ⟨false, if_pos h0⟩
    · rw [if_neg h0]
      by_cases h1 : st.getLastD ByteArray.empty ∈ H ∨ st.getLastD ByteArray.empty ∈ seen
      · rw [if_pos h1]
        exact circ_total l H name n _ _ (by rw [List.length_dropLast]; omega)
      · rw [if_neg h1]
        by_cases h2 : st.getLastD ByteArray.empty = name
        · exact ⟨true, if_pos h2⟩
        · rw [if_neg h2]
          have := ub_step l seen (st.getLastD ByteArray.empty) (fun h => h1 (.inr h))
          exact circ_total l H name n _ _ (by rw [List.length_append, List.length_dropLast]; omega)
end Go.Proofs.Ytlphpmdmlcphbaa.Or
