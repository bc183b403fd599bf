/- Seat E: vocabularies and names that come in, opened. -/
import Derived.Test.YtlphpmdmlcphbaaOr22
import Derived.Test.YtlphpmdmlcphbaaOpenW
namespace Go.Proofs.Ytlphpmdmlcphbaa.Or
open Go.RowKit Go.Proofs.YtlphpmdmlcphbaaW.PrintWords
set_option linter.unusedVariables false
abbrev wN : ByteArray → Nat := fun s => s.size + 1
abbrev wNs : List ByteArray → Nat := fun l => (l.map wN).sum + 1
abbrev wV : Vo → Nat := fun a => wN a.1 + wNs a.2
theorem opens_name : Upw.Opens Try.prog 9 Kd.string wN := Upw.opens_string (P := Try.prog) (t := 9) Try.underlying9 (by kernel_rfl)
theorem opens_vocab : Upw.Opens Try.prog 33 kV wV := by
  refine Upw.opens_struct (wt := wV) Try.underlying33 (by kernel_rfl) ?_
  refine Upw.opensF_cons (w1 := wN) (w2 := wNs) rfl opens_name ?_ (by decide)
  exact Upw.opensF_one rfl (Upw.opens_slice (P := Try.prog) (t := 23) 9 Try.underlying23 (by kernel_rfl) opens_name (of_decide_eq_true (by kernel_rfl)))
theorem sum_mem {α : Type} (f : α → Nat) {x : α} : ∀ {l : List α}, x ∈ l → f x ≤ (l.map f).sum
  | y :: r, h => by
    rw [List.map_cons, List.sum_cons]
    rcases List.mem_cons.1 h with e | h
    · rw [e]; omega
    · have := sum_mem f h; omega
theorem len_sum (l : List ByteArray) : l.length ≤ (l.map wN).sum := by
  induction l with
  | nil => exact Nat.le_refl _
  | cons x r ih =>
    rw [List.map_cons, List.sum_cons, List.length_cons]
    have e : wN x = x.size + 1 := rfl
    omega
theorem names_of {l : List ByteArray} (h : (l.map wN).sum ≤ 1048576) : Names l :=
  ⟨fun u hu => by have h1 := sum_mem wN hu; have e : wN u = u.size + 1 := rfl; unfold maxLen; omega, Nat.le_trans (len_sum l) h⟩
theorem fine_of {l : List Vo} (h : (l.map wV).sum ≤ 1048576) : Fine l := by
  have ht : tot l ≤ (l.map wV).sum ∧ l.length ≤ (l.map wV).sum := by
    unfold tot
    clear h
    induction l with
    | nil => exact ⟨Nat.le_refl _, Nat.le_refl _⟩
    | cons v r ih =>
      rw [List.map_cons, List.sum_cons, List.map_cons, List.sum_cons, List.length_cons]
      have := len_sum v.2
      have e : wV v = (v.1.size + 1) + ((v.2.map wN).sum + 1) := rfl
      omega
  refine ⟨fun v hv => ?_, by omega, by omega⟩
  have h1 := sum_mem wV hv
  have e : wV v = (v.1.size + 1) + ((v.2.map wN).sum + 1) := rfl
  refine ⟨by unfold maxLen; omega, fun u hu => ?_⟩
  have h2 := sum_mem wN hu
  have e2 : wN u = u.size + 1 := rfl
  unfold maxLen
  omega
end Go.Proofs.Ytlphpmdmlcphbaa.Or
