/- awake: a disk of two sectors, a write, a read. -/
import Derived.Test.YtochnokfcfmgnaaDisk6
namespace Go.Proofs.Ytochnokfcfmgnaa.Dk
open Go.RowKit Go.Proofs.Ytochnokfcfmgnaa.Mem Go.Proofs.YtochnokfcfmgnaaW.PrintWords
set_option linter.unusedVariables false
set_option linter.unusedSimpArgs false
theorem C_of_blk {w : World} {g o n : Nat} {t : TypeId} {k : IntKind} {xs : List Int} (hb : Blk w g t (icells k xs)) (h : o + n ≤ xs.length) (hx : xs.length ≤ 9223372036854775807) : (Kd.int k).C w (some ⟨g, o, none⟩) n ((xs.drop o).take n) := by
  have hl : ((xs.drop o).take n).length = n := by simp; omega
  refine ⟨hl, by omega, fun _ => ⟨_, rfl, fun j p hj => ⟨[.int k p], rfl, rfl, fun i u hu => ?_⟩⟩⟩
  match i, hu with
  | 0, hu =>
    simp at hu
    subst hu
    rw [add_flat, show (Kd.int k).sz = 1 from rfl, show o + (j * 1 + 0) = o + j by omega]
    have hjn : j < n := by
      have := (List.getElem?_eq_some_iff.1 hj).1
      omega
    rw [List.getElem?_take, if_pos hjn, List.getElem?_drop] at hj
    exact hb.cell_at _ _ (by simp [icells, hj])
theorem zeros_bytes (n : Nat) : ∀ y ∈ zeros n, 0 ≤ y ∧ y < 256 := by
  intro y hy
  have := List.eq_of_mem_replicate hy
  omega
theorem good_new (n : Nat) (h1 : 1 ≤ n) (h2 : n ≤ 8192) : Good ⟨zeros (n * 32), zeros (n * 32), [], -1⟩ n :=
  ⟨h1, h2, zeros_length _, zeros_length _, zeros_bytes _, zeros_bytes _, fun p hp => absurd hp List.not_mem_nil, ⟨Int.le_refl _, show (-1 : Int) ≤ 9223372036854775807 by decide⟩⟩
end Go.Proofs.Ytochnokfcfmgnaa.Dk
