/- Seat E: slices.Clone of names, off the shelf; nil too. -/
import Derived.Shelf.Lay
import Derived.Shelf.LaySoft
import Derived.Ground.SlgnProg
import Derived.Shelf.SlicesE.Clone
import Derived.Test.YtlphpmdmlcphbaaOr4
namespace Go.Proofs
open Go.Shelf
shelf_lay_g SlLaysE0.n41 Slgn 41 at Try 36 as Try.laysCloneS
end Go.Proofs
namespace Go.Proofs.Ytlphpmdmlcphbaa.Or
open Go.RowKit Go.Proofs.Ytlphpmdmlcphbaa.Mem Go.Proofs.YtlphpmdmlcphbaaW.PrintWords
set_option linter.unusedVariables false
set_option maxRecDepth 10000
theorem clone_s (A : Option Addr) (c : Nat) (xs : List ByteArray) (w : World) (hC : Kd.string.C w A xs.length xs) (hn : xs.length ≤ 8388608) (hfl : Flat A c) :
    Calls Try.prog 36 #[.slice A xs.length c] w fun e w' => ∃ v, e = .returned v ∧ Kd.string.R 9 w' w.heap.size (fun _ => True) v xs ∧ Below w.heap.size w w' := by
  obtain ⟨i0, hi, hz0, hz1, hz2⟩ := info9
  rcases hfl with ⟨rfl, rfl⟩ | ⟨b, o, rfl⟩
  · have h0 : xs = [] := by
      rcases Nat.eq_zero_or_pos xs.length with h | h
      · exact List.eq_nil_of_length_eq_zero h
      · obtain ⟨ad, hA, _⟩ := name_at hC rfl 0 h
        cases hA
    subst h0
    refine (AnyE.slices_Clone_nil Try.laysCloneS 0 0 w).mono ?_
    rintro e w' ⟨rfl, rfl⟩
    exact ⟨_, rfl, Kd.R_nil _ _ _ _ _, Below.refl _ _⟩
  · refine (AnyE.slices_Clone Try.laysCloneS i0 (.string ByteArray.empty) 1 16 hi hz0 hz1 hz2 rfl (by decide) (fun w => by kernel_rfl) b o xs.length c (xs.map Value.string) w (by simp) (by unfold maxLen; omega) (by omega) (fun j u hu => ?_) (by intro u hu; obtain ⟨x, _, rfl⟩ := List.mem_map.1 hu; rfl)).mono ?_
    · have hj : j < xs.length := by have := (List.getElem?_eq_some_iff.1 hu).1; simpa using this
      obtain ⟨ad, hA, hcell⟩ := name_at hC rfl j hj
      obtain rfl : (⟨b, o, none⟩ : Addr) = ad := by injection hA
      rw [add_flat] at hcell
      rw [hcell]
      rw [List.getElem?_map, List.getElem?_eq_getElem hj] at hu
      exact hu
    · rintro e w' ⟨v, rfl, ho, _, hb⟩
      exact ⟨v, rfl, Kd.R_of_own ho (fun _ _ => trivial), hb⟩
end Go.Proofs.Ytlphpmdmlcphbaa.Or
