/- Seat E: text, walked. -/
import Derived.Test.YtlphpmdmlcphbaaOr22
import Derived.Test.YtlphpmdmlcphbaaApartG
import Derived.Laws.BytesArg
namespace Go.Proofs.Ytlphpmdmlcphbaa.ApG
open Go Go.RowKit Go.Proofs.Ytlphpmdmlcphbaa.Mem Go.Proofs.YtlphpmdmlcphbaaW.PrintWords Go.Proofs.Ytlphpmdmlcphbaa.Dk
set_option linter.unusedVariables false
set_option linter.unusedSimpArgs false
set_option maxRecDepth 100000
set_option maxHeartbeats 400000
/-- The text of a number. -/
def tx (n : Int) : ByteArray := strOfNums [n % 256, n / 256 % 256, n / 65536 % 256]
theorem text_c (n : Int) (h0 : 0 ≤ n) (h1 : n ≤ 1152921504607846976) (w : World) : Calls Try.prog 43 #[.int .i64 n] w fun e w' => e = .returned (.string (tx n)) ∧ Below w.heap.size w w' := by
  have X := Blk.new w 5 [.int .u8 (n % 256), .int .u8 (n / 256 % 256), .int .u8 (n / 65536 % 256)]
  have hcv : (convert 104 9 (.slice (some ⟨w.heap.size, 0, none⟩) 3 3)).run Try.prog (w.alloc (.cells #[.int .u8 (n % 256), .int .u8 (n / 256 % 256), .int .u8 (n / 65536 % 256)] 5)) = .ok (.string (tx n)) (w.alloc (.cells #[.int .u8 (n % 256), .int .u8 (n / 256 % 256), .int .u8 (n / 65536 % 256)] 5)) := by
    refine run_convert_bytes_arg _ 104 5 (by kernel_rfl) (by kernel_rfl) w.heap.size 0 3 3 _ rfl (fun i hi => ?_) 9 (by kernel_rfl)
    rw [Nat.zero_add]
    match i, hi with
    | 0, _ => exact X.cell_at 0 _ rfl
    | 1, _ => exact X.cell_at 1 _ rfl
    | 2, _ => exact X.cell_at 2 _ rfl
  have B := (((Only.refl w (fun _ => False)).alloc (.cells #[.int .u8 (n % 256), .int .u8 (n / 256 % 256), .int .u8 (n / 65536 % 256)] 5))).below_all
  clear X
  go_enter Try.func43, Try.ntmps43
  go_wp2_with fail
  go_ret
  exact ⟨rfl, B⟩
end Go.Proofs.Ytlphpmdmlcphbaa.ApG
