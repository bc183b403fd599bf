/- Seat F: ShadowNil, walked. -/
import Derived.Test.YtochnokfcfmgnaaSh6
namespace Go.Proofs.Ytochnokfcfmgnaa.Sh
open Go.RowKit Go.Proofs.Ytochnokfcfmgnaa.Mem
set_option linter.unusedVariables false
set_option maxRecDepth 100000
set_option maxHeartbeats 2000000
theorem shadowNil_c (w : World) : Calls Try.prog 7 #[] w fun e w' => e = .returned (.bool true) ∧ Below w.heap.size w w' := by
  have HB : Hid (Below w.heap.size w w) := Lib.hid (Below.refl _ w)
  go_enter Try.func7, Try.ntmps7
  go_wp2_with (first
    | (go_at_call 17; refine (callsIn_wide.1 (listed_in _)).mono ?_; rintro e wz ⟨rfl, b⟩; replace HB := Lib.hid (HB.out.trans (b.mono HB.out.size)); clear b)
    | (go_at_call 10; refine (awake_c _).mono ?_; rintro e wz ⟨rfl, b⟩; replace HB := Lib.hid (HB.out.trans (b.mono HB.out.size)); clear b)
    | (go_at_call 28; refine (format_nil _).mono ?_; rintro e wz ⟨rfl, hwz⟩; rw [hwz]; clear hwz)
    | (go_at_call 26; refine (open_nil _).mono ?_; rintro e wz ⟨rfl, hwz⟩; rw [hwz]; clear hwz)
    | (go_at_call 11; refine (get_nil _).mono ?_; rintro e wz ⟨rfl, hwz⟩; rw [hwz]; clear hwz)
    | (go_at_call 20; refine (room_nil _).mono ?_; rintro e wz ⟨rfl, hwz⟩; rw [hwz]; clear hwz)
    | (go_at_call 12; refine (put_nil _).mono ?_; rintro e wz ⟨rfl, hwz⟩; rw [hwz]; clear hwz)
    | (go_at_call 15; refine (drop_nil _).mono ?_; rintro e wz ⟨rfl, hwz⟩; rw [hwz]; clear hwz)
    | (go_at_call 23; refine (commit_nil _).mono ?_; rintro e wz ⟨rfl, hwz⟩; rw [hwz]; clear hwz)
    | (go_at_call 27; refine (rollback_nil _).mono ?_; rintro e wz ⟨rfl, hwz⟩; rw [hwz]; clear hwz)
    | (go_at_call 22; refine (epoch_nil _).mono ?_; rintro e wz ⟨rfl, hwz⟩; rw [hwz]; clear hwz)
    | fail)
  go_ret
  exact ⟨rfl, HB.out⟩
end Go.Proofs.Ytochnokfcfmgnaa.Sh
