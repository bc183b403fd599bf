/- What is handed in, opened: scripts. -/
import Derived.Test.YtgiidddmhnnnjaaDisk13
namespace Go.Proofs.Ytgiidddmhnnnjaa.Dk
open Go.RowKit Go.Proofs.Ytgiidddmhnnnjaa.Mem Go.Proofs.YtgiidddmhnnnjaaW.PrintWords
set_option linter.unusedVariables false
def Wf (k : IntKind) : Int → Prop := fun a => (Lit.int k a).wf = true
abbrev GB : List Int → Prop := fun l => l.length * Try.prog.bytesOf 5 ≤ reachBytes ∧ ∀ a ∈ l, Wf .u8 a
abbrev GK : List Bool → Prop := fun l => l.length * Try.prog.bytesOf 4 ≤ reachBytes ∧ ∀ a ∈ l, True
abbrev G6 : List Int × List Bool → Prop := fun r => GB r.1 ∧ GK r.2
abbrev G5 : Bool × List Int × List Bool → Prop := fun r => True ∧ G6 r.2
abbrev G4 : Int × Bool × List Int × List Bool → Prop := fun r => Wf .i64 r.1 ∧ G5 r.2
abbrev G3 : Int × Int × Bool × List Int × List Bool → Prop := fun r => Wf .i64 r.1 ∧ G4 r.2
abbrev G2 : Int × Int × Int × Bool × List Int × List Bool → Prop := fun r => Wf .i64 r.1 ∧ G3 r.2
def OpGood : OpV → Prop := fun r => Wf .i64 r.1 ∧ G2 r.2
theorem opens_op : Op.Opens Try.prog 33 kOp OpGood := by
  have i64 := Op.opens_int (P := Try.prog) (t := 3) (k := .i64) Try.underlying3 (by kernel_rfl)
  have u8 := Op.opens_int (P := Try.prog) (t := 5) (k := .u8) Try.underlying5 (by kernel_rfl)
  have bo := Op.opens_bool (P := Try.prog) (t := 4) Try.underlying4 (by kernel_rfl)
  have bs := Op.opens_slice (P := Try.prog) (t := 29) 5 Try.underlying29 (by kernel_rfl) u8 (of_decide_eq_true (by kernel_rfl))
  have ks := Op.opens_slice (P := Try.prog) (t := 23) 4 Try.underlying23 (by kernel_rfl) bo (of_decide_eq_true (by kernel_rfl))
  refine Op.opens_struct (good := OpGood) Try.underlying33 (by kernel_rfl) ?_
  refine Op.opensF_cons (g1 := Wf .i64) (g2 := G2) rfl i64 ?_ (by decide)
  refine Op.opensF_cons (g1 := Wf .i64) (g2 := G3) rfl i64 ?_ (by decide)
  refine Op.opensF_cons (g1 := Wf .i64) (g2 := G4) rfl i64 ?_ (by decide)
  refine Op.opensF_cons (g1 := Wf .i64) (g2 := G5) rfl i64 ?_ (by decide)
  refine Op.opensF_cons (g1 := fun _ => True) (g2 := G6) rfl bo ?_ (by decide)
  refine Op.opensF_cons (g1 := GB) (g2 := GK) rfl bs ?_ (by decide)
  exact Op.opensF_one rfl ks
theorem wf_u8 {a : Int} (h : Wf .u8 a) : 0 ≤ a ∧ a < 256 := by
  have h : (Lit.int .u8 a).wf = true := h
  have h1 : IntKind.u8.min = 0 := by decide
  have h2 : IntKind.u8.max = 255 := by decide
  simp [Lit.wf, h1, h2] at h
  omega
theorem script_of {W : World} {A : Option Addr} {c : Nat} {l : List OpV} (hC : kOp.C W A l.length l) (hc : l.length ≤ c) (hb : l.length * Try.prog.bytesOf 33 ≤ reachBytes) (hg : ∀ a ∈ l, OpGood a) : Script W A c l := by
  have e1 : Try.prog.bytesOf 33 = 88 := by kernel_rfl
  have e2 : Try.prog.bytesOf 5 = 1 := by kernel_rfl
  have e3 : Try.prog.bytesOf 4 = 1 := by kernel_rfl
  have e4 : reachBytes = 140737488351232 := by decide
  rw [e1, e4] at hb
  refine ⟨hC, hc, fun o ho => ?_, hb, fun o ho => ?_⟩
  · intro y hy
    exact wf_u8 ((hg o ho).2.2.2.2.2.1.2 y hy)
  · have h1 := (hg o ho).2.2.2.2.2.1.1
    have h2 := (hg o ho).2.2.2.2.2.2.1
    rw [e2, e4] at h1
    rw [e3, e4] at h2
    omega
theorem bools_le {l : List Bool} (hb : l.length * Try.prog.bytesOf 4 ≤ reachBytes) : l.length ≤ 140737488351232 := by
  have e3 : Try.prog.bytesOf 4 = 1 := by kernel_rfl
  have e4 : reachBytes = 140737488351232 := by decide
  rw [e3, e4] at hb
  omega
theorem bytes_le {l : List Int} (hb : l.length * Try.prog.bytesOf 5 ≤ reachBytes) : l.length ≤ 140737488351232 := by
  have e3 : Try.prog.bytesOf 5 = 1 := by kernel_rfl
  have e4 : reachBytes = 140737488351232 := by decide
  rw [e3, e4] at hb
  omega
end Go.Proofs.Ytgiidddmhnnnjaa.Dk
