/- Seat D: effect.fits and effect.Then (and the reference's): what they answer. -/
import Derived.Test.YtkdamjbbepfeoaaDoorRows
import Derived.WalkKit
import Derived.WalkSpells
import Derived.WalkLawsBesides
import Derived.Below
import Derived.Laws.ResultCell
namespace Go.Proofs.YtkdamjbbepfeoaaDoor
open Go.RowKit
set_option linter.unusedVariables false
/-- Within the limits. -/
def okE (i o : Int) : Bool := decide (0 ≤ i) && decide (0 ≤ o) && decide (i ≤ 16) && decide (o ≤ 16)
def eff (i o : Int) : Value := .agg #[.int .i64 i, .int .i64 o]
/-- One effect behind another. -/
def thenE (a b c d : Int) : Int × Int × Int :=
  if okE a b && okE c d then
    if okE (a + max 0 (c - b)) (d + max 0 (b - c)) then (a + max 0 (c - b), d + max 0 (b - c), 0) else (0, 0, 11)
  else (0, 0, 2)
set_option maxHeartbeats 4000000 in
set_option maxRecDepth 100000 in
theorem fits_c (i o : Int) (w : World) :
    Calls Tryd.prog 13 #[eff i o] w fun e w' => e = .returned (.bool (okE i o)) ∧ w' = w.alloc (.cells #[.int .i64 i, .int .i64 o] 23) := by
  unfold eff
  go_enter Tryd.func13, Tryd.ntmps13
  go_wp2
  all_goals (go_ret; refine ⟨congrArg Ending.returned (congrArg Value.bool (?_ : (_ : Bool) = _)), rfl⟩; unfold okE; rw [Bool.eq_iff_iff]; simp; omega)
set_option maxHeartbeats 4000000 in
set_option maxRecDepth 100000 in
theorem in_c (i : Int) (w : World) :
    Calls Tryd.prog 14 #[.int .i64 i] w fun e w' => e = .returned (.bool (decide (0 ≤ i) && decide (i ≤ 16))) ∧ w' = w := by
  go_enter Tryd.func14, Tryd.ntmps14
  go_wp2
  all_goals (go_ret; refine ⟨congrArg Ending.returned (congrArg Value.bool (?_ : (_ : Bool) = _)), rfl⟩; rw [Bool.eq_iff_iff]; simp; omega)
theorem okE_iff (i o : Int) : okE i o = true ↔ (0 ≤ i ∧ 0 ≤ o) ∧ i ≤ 16 ∧ o ≤ 16 := by unfold okE; simp; omega
theorem okE_not (i o : Int) : okE i o = false ↔ ¬ ((0 ≤ i ∧ 0 ≤ o) ∧ i ≤ 16 ∧ o ≤ 16) := by rw [← okE_iff]; simp
set_option maxHeartbeats 8000000 in
set_option maxRecDepth 100000 in
theorem then_c (a b c d : Int) (w : World) :
    Calls Tryd.prog 8 #[eff a b, eff c d] w fun e w' => e = .returned (.tuple #[eff (thenE a b c d).1 (thenE a b c d).2.1, .int .i64 (thenE a b c d).2.2]) ∧ Below w.heap.size w w' := by
  have cf : ∀ (i o : Int) (w : World), Calls Tryd.prog 13 #[.agg #[.int .i64 i, .int .i64 o]] w fun e w' => e = .returned (.bool (okE i o)) ∧ w' = w.alloc (.cells #[.int .i64 i, .int .i64 o] 23) := fits_c
  unfold eff
  cases h1 : okE a b with
  | false =>
    go_enter Tryd.func8, Tryd.ntmps8
    go_wp2_with (go_at_call 13; refine (cf _ _ _).mono ?_; rintro e w' ⟨rfl, rfl⟩; rw [h1])
    refine bodyPost_ret (v := .tuple #[eff 0 0, .int .i64 2]) ?_ rfl ⟨by simp [thenE, h1, eff], ?_⟩
    · rw [results_cell_tmp rfl]; go_simp; rfl
    · repeat (first | exact Below.refl _ _ | refine Below.alloc ?_ (by simp <;> omega) _)
  | true =>
    cases h2 : okE c d with
    | false =>
      go_enter Tryd.func8, Tryd.ntmps8
      go_wp2_with (go_at_call 13; refine (cf _ _ _).mono ?_; rintro e w' ⟨rfl, rfl⟩; first | rw [h1] | rw [h2])
      refine bodyPost_ret (v := .tuple #[eff 0 0, .int .i64 2]) ?_ rfl ⟨by simp [thenE, h1, h2, eff], ?_⟩
      · rw [results_cell_tmp rfl]; go_simp; rfl
      · repeat (first | exact Below.refl _ _ | refine Below.alloc ?_ (by simp <;> omega) _)
    | true =>
      obtain ⟨⟨a0, b0⟩, a1, b1⟩ := (okE_iff a b).1 h1
      obtain ⟨⟨c0, d0⟩, c1, d1⟩ := (okE_iff c d).1 h2
      have hx : max 0 (c - b) = if b < c then c - b else 0 := by split <;> omega
      have hy : max 0 (b - c) = if c < b then b - c else 0 := by split <;> omega
      cases h3 : okE (a + if b < c then c - b else 0) (d + if c < b then b - c else 0) with
      | false =>
        have h4 : thenE a b c d = (0, 0, 11) := by simp [thenE, h1, h2, hx, hy, h3]
        rw [h4]; clear h4 hx hy
        go_enter Tryd.func8, Tryd.ntmps8
        go_wp2_with (go_at_call 13; refine (cf _ _ _).mono ?_; rintro e w' ⟨rfl, rfl⟩; first | rw [h1] | rw [h2] | rw [h3])
        all_goals refine bodyPost_ret (v := .tuple #[eff 0 0, .int .i64 11]) ?_ rfl ⟨rfl, ?_⟩
        all_goals first
          | (rw [results_cell_tmp rfl]; go_simp; done)
          | (rw [results_cell_tmp rfl]; go_simp; rfl)
          | (repeat (first | exact Below.refl _ _ | refine Below.alloc ?_ (by simp <;> omega) _))
      | true =>
        have h4 : thenE a b c d = (a + max 0 (c - b), d + max 0 (b - c), 0) := by simp [thenE, h1, h2, hx, hy, h3]
        rw [h4]; clear h4 hx hy
        go_enter Tryd.func8, Tryd.ntmps8
        go_wp2_with (go_at_call 13; refine (cf _ _ _).mono ?_; rintro e w' ⟨rfl, rfl⟩; first | rw [h1] | rw [h2] | rw [h3])
        all_goals first
          | (exfalso; omega)
          | (refine bodyPost_ret (v := .tuple #[eff (a + (c - b)) d, .int .i64 0]) (by rw [results_cell_tmp rfl]; go_simp; rfl) rfl ⟨by rw [show max 0 (c - b) = c - b by omega, show max 0 (b - c) = 0 by omega, Int.add_zero]; rfl, ?_⟩)
          | (refine bodyPost_ret (v := .tuple #[eff a (d + (b - c)), .int .i64 0]) (by rw [results_cell_tmp rfl]; go_simp; rfl) rfl ⟨by rw [show max 0 (c - b) = 0 by omega, show max 0 (b - c) = b - c by omega, Int.add_zero]; rfl, ?_⟩)
          | (refine bodyPost_ret (v := .tuple #[eff a d, .int .i64 0]) (by rw [results_cell_tmp rfl]; go_simp; rfl) rfl ⟨by rw [show max 0 (c - b) = 0 by omega, show max 0 (b - c) = 0 by omega, Int.add_zero, Int.add_zero]; rfl, ?_⟩)
        all_goals (repeat (first | exact Below.refl _ _ | refine Below.alloc ?_ (by simp <;> omega) _))
end Go.Proofs.YtkdamjbbepfeoaaDoor
