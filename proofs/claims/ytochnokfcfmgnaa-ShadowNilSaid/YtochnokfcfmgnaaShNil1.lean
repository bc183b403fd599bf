/- Seat F: ShadowNil: a nil store. -/
import Derived.Test.YtochnokfcfmgnaaPg1
namespace Go.Proofs.Ytochnokfcfmgnaa.Sh
open Go.RowKit Go.Proofs.Ytochnokfcfmgnaa.Mem Go.Proofs.YtochnokfcfmgnaaW.PrintWords Go.Proofs.Ytochnokfcfmgnaa.Dk
set_option linter.unusedVariables false
set_option linter.unusedSimpArgs false
theorem check_nil (i : Int) (w : World) : Calls Try.prog 32 #[.pointer none, .int .i64 i] w fun e w' => e = .returned (.int .i64 2) ∧ w' = w := by
  go_enter Try.func32, Try.ntmps32
  go_wp2
  go_ret
  exact ⟨rfl, rfl⟩
theorem get_nil (w : World) : Calls Try.prog 11 #[.pointer none, .int .i64 0] w fun e w' => e = .returned (.tuple #[.slice none 0 0, .int .i64 2]) ∧ w' = w := by
  go_enter Try.func11, Try.ntmps11
  go_wp2_with (go_at_call 32; refine (check_nil _ _).mono ?_; rintro e wz ⟨rfl, hwz⟩; rw [hwz]; clear hwz)
  go_ret2
  exact ⟨rfl, rfl⟩
theorem put_nil (w : World) : Calls Try.prog 12 #[.pointer none, .int .i64 0, .slice none 0 0] w fun e w' => e = .returned (.int .i64 2) ∧ w' = w := by
  go_enter Try.func12, Try.ntmps12
  go_wp2_with (go_at_call 32; refine (check_nil _ _).mono ?_; rintro e wz ⟨rfl, hwz⟩; rw [hwz]; clear hwz)
  go_ret
  exact ⟨rfl, rfl⟩
theorem drop_nil (w : World) : Calls Try.prog 15 #[.pointer none, .int .i64 0] w fun e w' => e = .returned (.int .i64 2) ∧ w' = w := by
  go_enter Try.func15, Try.ntmps15
  go_wp2_with (go_at_call 32; refine (check_nil _ _).mono ?_; rintro e wz ⟨rfl, hwz⟩; rw [hwz]; clear hwz)
  go_ret
  exact ⟨rfl, rfl⟩
theorem commit_nil (w : World) : Calls Try.prog 23 #[.pointer none] w fun e w' => e = .returned (.int .i64 2) ∧ w' = w := by
  go_enter Try.func23, Try.ntmps23
  go_wp2_with (go_at_call 32; refine (check_nil _ _).mono ?_; rintro e wz ⟨rfl, hwz⟩; rw [hwz]; clear hwz)
  go_ret
  exact ⟨rfl, rfl⟩
theorem rollback_nil (w : World) : Calls Try.prog 27 #[.pointer none] w fun e w' => e = .returned (.int .i64 2) ∧ w' = w := by
  go_enter Try.func27, Try.ntmps27
  go_wp2_with (go_at_call 32; refine (check_nil _ _).mono ?_; rintro e wz ⟨rfl, hwz⟩; rw [hwz]; clear hwz)
  go_ret
  exact ⟨rfl, rfl⟩
theorem epoch_nil (w : World) : Calls Try.prog 22 #[.pointer none] w fun e w' => e = .returned (.int .u64 0) ∧ w' = w := by
  go_enter Try.func22, Try.ntmps22
  go_wp2
  go_ret
  exact ⟨rfl, rfl⟩
theorem room_nil (w : World) : Calls Try.prog 20 #[.pointer none] w fun e w' => e = .returned (.tuple #[.int .i64 0, .int .i64 0]) ∧ w' = w := by
  go_enter Try.func20, Try.ntmps20
  go_wp2
  go_ret2
  exact ⟨rfl, rfl⟩
theorem format_nil (w : World) : Calls Try.prog 28 #[.pointer none] w fun e w' => e = .returned (.tuple #[.pointer none, .int .i64 2]) ∧ w' = w := by
  go_enter Try.func28, Try.ntmps28
  go_wp2
  go_ret2
  exact ⟨rfl, rfl⟩
theorem open_nil (w : World) : Calls Try.prog 26 #[.pointer none] w fun e w' => e = .returned (.tuple #[.pointer none, .int .i64 2]) ∧ w' = w := by
  go_enter Try.func26, Try.ntmps26
  go_wp2
  go_ret2
  exact ⟨rfl, rfl⟩
/-- The errors of a store that is awake. -/
theorem check_ok (g : Nat) (a b c d e f : Value) (i : Int) (w : World) (h : Blk w g 76 [a, b, c, d, e, f, .bool false]) (h0 : 0 ≤ i) (h1 : i < 728) :
    Calls Try.prog 32 #[.pointer (some ⟨g, 0, none⟩), .int .i64 i] w fun e w' => e = .returned (.int .i64 0) ∧ w' = w := by
  have h6 := h.cell_at 6 _ rfl
  have g1 : decide (i < 0) = false := decide_eq_false (by omega)
  have g2 : decide (728 ≤ i) = false := decide_eq_false (by omega)
  go_enter Try.func32, Try.ntmps32
  go_wp2
  all_goals go_ret
  all_goals exact ⟨rfl, rfl⟩
theorem epoch_ok (g : Nat) (a b d e f : Value) (n : Int) (w : World) (h : Blk w g 76 [a, b, .int .u64 n, d, e, f, .bool false]) :
    Calls Try.prog 22 #[.pointer (some ⟨g, 0, none⟩)] w fun e w' => e = .returned (.int .u64 n) ∧ w' = w := by
  have h6 := h.cell_at 6 _ rfl
  have h2 := h.cell_at 2 _ rfl
  go_enter Try.func22, Try.ntmps22
  go_wp2
  go_ret
  exact ⟨rfl, rfl⟩
end Go.Proofs.Ytochnokfcfmgnaa.Sh
