/- Bytes and lists of bytes that come in, opened. -/
import Derived.Test.YtdpoifaeimmdmaaOpenUp
namespace Go.Proofs.Ytdpoifaeimmdmaa.SumOpen
open Go.RowKit Go.Proofs.YtdpoifaeimmdmaaW.PrintWords
set_option linter.unusedVariables false
abbrev WfB : Int → Prop := fun a => (Lit.int .u8 a).wf = true
theorem o8 : Up.Opens Try.prog 5 (Kd.int .u8) WfB := Up.opens_int (P := Try.prog) (t := 5) (k := .u8) Try.underlying5 (by kernel_rfl)
abbrev PB : List Int → Prop := fun l => l.length ≤ 1048576 ∧ ∀ a ∈ l, WfB a
theorem oB : Up.Opens Try.prog 22 (Kd.slice 5 (Kd.int .u8)) PB := Up.opens_slice (P := Try.prog) (t := 22) 5 Try.underlying22 (by kernel_rfl) o8 (of_decide_eq_true (by kernel_rfl))
theorem wf8 {a : Int} (h : WfB a) : 0 ≤ a ∧ a < 256 := by
  simp [WfB, Lit.wf, IntKind.min, IntKind.max, IntKind.signed, IntKind.bits] at h; omega
theorem wf16 {a : Int} (h : (Lit.int .u16 a).wf = true) : 0 ≤ a ∧ a < 65536 := by
  simp [Lit.wf, IntKind.min, IntKind.max, IntKind.signed, IntKind.bits] at h; omega
theorem ob : Up.Opens Try.prog 4 Kd.bool (fun _ => True) := Up.opens_bool (P := Try.prog) (t := 4) Try.underlying4 (by kernel_rfl)
end Go.Proofs.Ytdpoifaeimmdmaa.SumOpen
