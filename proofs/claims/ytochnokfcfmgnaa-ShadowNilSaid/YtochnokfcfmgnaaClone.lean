/- slices.Clone of bytes, off the shelf. -/
import Derived.Shelf.Lay
import Derived.Shelf.LaySoft
import Derived.Ground.SlgnProg
import Derived.Shelf.SlicesE.Clone
import Derived.Test.YtochnokfcfmgnaaDisk0
import Derived.Test.YtochnokfcfmgnaaProg
namespace Go.Proofs
open Go.Shelf
shelf_lay_g SlLaysE0.n41 Slgn 41 at Try 33 as Try.laysClone
end Go.Proofs
namespace Go.Proofs.Ytochnokfcfmgnaa.Dk
open Go.RowKit Go.Proofs.Ytochnokfcfmgnaa.Mem Go.Proofs.YtochnokfcfmgnaaW.PrintWords
set_option linter.unusedVariables false
theorem info5 : (Try.prog.info? 5).map (fun i => (i.zero, i.size, i.bytes)) = some (some (.int .u8 0), 1, 1) := by kernel_rfl
theorem clone_any (b off : Nat) (n c : Nat) (xs : List Int) (w : World) (hl : xs.length = n) (hn : n ≤ 140737488351232) (hc : ∀ j v, (icells .u8 xs)[j]? = some v → w.cell? (Addr.add ⟨b, off, none⟩ j) = some v) :
    Calls Try.prog 33 #[.slice (some ⟨b, off, none⟩) n c] w fun e w' => ∃ v, e = .returned v ∧ (Kd.int .u8).R 5 w' w.heap.size (fun _ => True) v xs ∧ Below w.heap.size w w' := by
  obtain ⟨i0, hi, hz0, hz1, hz2⟩ := info_parts info5
  refine (AnyE.slices_Clone Try.laysClone i0 (.int .u8 0) 1 1 hi hz0 hz1 hz2 rfl (by omega) (fun w => by kernel_rfl) b off n c (icells .u8 xs) w (by rw [icells_length]; omega) (by unfold maxLen; omega) (by omega) (fun j u hu => ?_) (icells_one _ _)).mono ?_
  · have := hc j u hu
    rwa [add_flat] at this
  · rintro e w' ⟨v, rfl, ho, _, hb⟩
    subst hl
    exact ⟨v, rfl, Kd.R_of_own ho (fun _ _ => trivial), hb⟩
end Go.Proofs.Ytochnokfcfmgnaa.Dk
