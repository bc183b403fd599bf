/- Who owns what: blocks by their owners' numbers. -/
import Derived.Test.YtlphpmdmlcphbaaRows
import Derived.Test.YtlphpmdmlcphbaaMem
import Derived.Test.YtlphpmdmlcphbaaWMore
namespace Go.Proofs.Ytlphpmdmlcphbaa.Dk
open Go.RowKit Go.Proofs.Ytlphpmdmlcphbaa.Mem Go.Proofs.YtlphpmdmlcphbaaW.PrintWords
set_option linter.unusedVariables false
set_option linter.unusedSimpArgs false
/-- Behind a step the blocks that are new (from S on) belong to j. -/
def upd (own : Nat → Nat) (S j : Nat) : Nat → Nat := fun k => if k < S then own k else j
section
variable {w w' : World} {base g n : Nat} {own : Nat → Nat} {i j : Nat} {S : Nat → Prop}
variable {α : Type} {d : Kd α} {e : Nat} {v : Value} {xs : List α}
theorem R_own_old (h : d.R e w base (fun k => own k = i) v xs) (o : Only w w' S) (hs : ∀ k, own k = i → ¬ S k) (j : Nat) : d.R e w' base (fun k => upd own w.heap.size j k = i) v xs :=
  Kd.R_mono (Kd.R_step (Kd.R_bound h) (fun k hk hlt => o.block k hlt (hs k hk.1))) (fun k hk => by unfold upd; rw [if_pos hk.2.2.1]; exact hk.1)
theorem R_own_mod {B : Nat} (h : d.R e w' base (fun k => own k = j ∨ B ≤ k) v xs) : d.R e w' base (fun k => upd own B j k = j) v xs :=
  Kd.R_mono h (fun k hk => by
    unfold upd
    split
    · rcases hk with hk | hk
      · exact hk
      · omega
    · rfl)
theorem R_own_new {B : Nat} (h : d.R e w' B (fun _ => True) v xs) (hb : base ≤ B) (own : Nat → Nat) (j : Nat) : d.R e w' base (fun k => upd own B j k = j) v xs :=
  Kd.R_lower (Kd.R_mono (Kd.R_bound h) (fun k hk => by unfold upd; rw [if_neg (by omega)])) hb
end
end Go.Proofs.Ytlphpmdmlcphbaa.Dk
