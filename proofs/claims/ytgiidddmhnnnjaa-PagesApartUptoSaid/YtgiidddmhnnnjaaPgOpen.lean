/- Ops of pages handed in, opened. -/
import Derived.Test.YtgiidddmhnnnjaaPg4
import Derived.Test.YtgiidddmhnnnjaaOpenUp
namespace Go.Proofs.Ytgiidddmhnnnjaa.Pg
open Go.RowKit Go.Proofs.Ytgiidddmhnnnjaa.Mem Go.Proofs.YtgiidddmhnnnjaaW.PrintWords Go.Proofs.Ytgiidddmhnnnjaa.Dk
set_option linter.unusedVariables false
abbrev PB : List Int → Prop := fun l => l.length ≤ 1048576 ∧ ∀ a ∈ l, Wf .u8 a
abbrev P4 : Int × List Int → Prop := fun r => Wf .u32 r.1 ∧ PB r.2
abbrev P3 : Int × Int × List Int → Prop := fun r => Wf .i64 r.1 ∧ P4 r.2
abbrev P2 : Int × Int × Int × List Int → Prop := fun r => Wf .i64 r.1 ∧ P3 r.2
def OpPGood : OpP → Prop := fun r => Wf .i64 r.1 ∧ P2 r.2
theorem opens_opP : Up.Opens Try.prog 63 kOpP OpPGood := by
  have i64 := Up.opens_int (P := Try.prog) (t := 3) (k := .i64) Try.underlying3 (by kernel_rfl)
  have u32 := Up.opens_int (P := Try.prog) (t := 52) (k := .u32) Try.underlying52 (by kernel_rfl)
  have u8 := Up.opens_int (P := Try.prog) (t := 5) (k := .u8) Try.underlying5 (by kernel_rfl)
  have bs := Up.opens_slice (P := Try.prog) (t := 29) 5 Try.underlying29 (by kernel_rfl) u8 (of_decide_eq_true (by kernel_rfl))
  refine Up.opens_struct (good := OpPGood) Try.underlying63 (by kernel_rfl) ?_
  refine Up.opensF_cons (g1 := Wf .i64) (g2 := P2) rfl i64 ?_ (by decide)
  refine Up.opensF_cons (g1 := Wf .i64) (g2 := P3) rfl i64 ?_ (by decide)
  refine Up.opensF_cons (g1 := Wf .i64) (g2 := P4) rfl i64 ?_ (by decide)
  refine Up.opensF_cons (g1 := Wf .u32) (g2 := PB) rfl u32 ?_ (by decide)
  exact Up.opensF_one rfl bs
theorem wf_u32 {a : Int} (h : Wf .u32 a) : 0 ≤ a ∧ a < 4294967296 := by
  have h : (Lit.int .u32 a).wf = true := h
  have h1 : IntKind.u32.min = 0 := by decide
  have h2 : IntKind.u32.max = 4294967295 := by decide
  simp [Lit.wf, h1, h2] at h
  omega
theorem scriptP_of {W : World} {A : Option Addr} {c : Nat} {l : List OpP} (hC : kOpP.C W A l.length l) (hc : l.length ≤ c) (hb : l.length ≤ 1048576) (hg : ∀ a ∈ l, OpPGood a) : ScriptP W A c l :=
  ⟨hC, hc, fun o ho => ⟨wf_u32 (hg o ho).2.2.2.1, fun y hy => wf_u8 ((hg o ho).2.2.2.2.2 y hy)⟩, hb, fun o ho => by have := (hg o ho).2.2.2.2.1; omega⟩
end Go.Proofs.Ytgiidddmhnnnjaa.Pg
