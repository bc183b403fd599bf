/- 'PagesFirst' where what comes in is of bulk at most 1048576. -/
import Derived.Test.YtdpoifaeimmdmaaRows
import Derived.Test.YtdpoifaeimmdmaaPPagesFirstx2
import Derived.Test.YtdpoifaeimmdmaaPurePagesFirst
import Derived.Test.YtdpoifaeimmdmaaBulk
import Derived.WalkKit
import Derived.ProofKit
import Derived.OpenShut
import Derived.ShutString
import Derived.ChangeOld
import Derived.Below
import Derived.SizedLaws
import Derived.JoinedCond
import Derived.Deep.Grids
import Derived.Test.YtdpoifaeimmdmaaWSized
namespace Go.Proofs.Ytdpoifaeimmdmaa.pagesFirst
open Go.ChangeShapes Go.WideShapes Go.ChangeAt Go.RowKit
open Go.Proofs.YtdpoifaeimmdmaaW.PrintWords Go.Proofs.Ytdpoifaeimmdmaa.bulks
set_option linter.unusedVariables false
theorem own : ownKnob Try.prog.godebug = none := by kernel_rfl
theorem laidOut : laidOutB Try.prog = true := by kernel_rfl
theorem contract (H : Type) (enc : TypeId × Value → H) (W : World) (base : Nat) (args : Array Value) (ds gs : List (DataW H)) (before : List MemPlace)
    (hval : ∀ (j : Nat) t v, Try.f6.params[j]? = some t → args[j]? = some v → Value.okWide Try.prog W .any base t v)
    (hW : DataW.Whole enc Try.prog Try.f6.params.toList Rows.pagesFirstSpec.vars false W args.toList ds gs before) (hk : Rows.uptoSmall H (ds ++ gs) = true) :
    Calls Try.prog 6 args W fun e W' => ∃ v, e = .returned v ∧ Rows.pagesFirstSpec.post enc Try.prog Try.f6 false true false false W args v W' := by
  have hW' := hW
  obtain ⟨p, q, hA0, hV, rfl, hfz, hnd⟩ := hW
  have hA : DataW.TrodAll enc Try.prog W 0 (fun _ => true) true Try.f6.params.toList args.toList ds p := hA0
  rw [Try.params6] at hA hval
  obtain ⟨v0, vs0, d0, ds0, p0, q0, hargs, rfl, rfl, h0, r0⟩ := trodAll_cons hA
  obtain ⟨v1, vs1, d1, ds1, p1, q1, rfl, rfl, rfl, h1, r1⟩ := trodAll_cons r0
  obtain ⟨rfl, rfl, rfl⟩ := trodAll_nil r1
  obtain rfl : args = #[v0, v1] := by cases args; simp_all
  obtain ⟨rfl, rfl⟩ := trodVars_none hV
  have k0 := h0
  have lt0 : ∀ x ∈ p0, x.block < W.heap.size := by obtain ⟨m, hm⟩ := k0; exact DataW.trod_lt m _ _ _ hm
  obtain ⟨a1, rfl, rfl, rfl, w1⟩ := open_int Try.underlying3 (hval 1 3 v1 rfl rfl) h1
  have hb : Rows.uptoBulkAll ([d0, DataW.lit (H := H) (.int .i64 a1)] ++ []) ≤ 1048576 := of_decide_eq_true hk
  have hb0 : Rows.uptoBulk d0 ≤ 1048576 := by simp only [List.append_nil, Rows.uptoBulkAll] at hb; omega
  obtain ⟨a0, len0, cap0, rfl⟩ := okWide_slice Try.underlying37 (hval 0 37 v0 rfl rfl)
  have z0 : ∃ l0 : List Bool, l0.length = len0 ∧ len0 ≤ 1048576 ∧ len0 ≤ cap0 ∧ Kd.C Kd.bool W a0 len0 l0 := by
    obtain ⟨fuel, hf⟩ := h0
    rcases Go.Deep.open_bools Try.underlying37 Try.underlying4 (by kernel_rfl) hf with ⟨hcs, hx⟩ | ⟨a, len, cap, B, hcs, _, hl, hm, hx, hcell⟩
    · simp [Value.cells] at hcs
      obtain ⟨rfl, rfl, rfl⟩ := hcs
      exact ⟨[], rfl, by omega, by omega, Kd.C_of_reads (d := false) (h1 := fun _ => rfl) ⟨rfl, by omega, fun h => absurd h (by omega)⟩⟩
    · simp [Value.cells] at hcs
      obtain ⟨rfl, rfl, rfl⟩ := hcs
      obtain ⟨rfl, _⟩ := Prod.mk.inj hx
      have h2 := slice_le (H := H) ((List.range len0).map fun i => .lit (.bool (B i))) ((List.range (cap0 - len0)).map fun j => .lit (.bool (B (len0 + j))))
      simp only [Go.Deep.boolRow] at hb0
      have h3 := Nat.le_trans h2 hb0
      simp only [List.length_map, List.length_range] at h3
      refine ⟨(List.range len0).map B, by simp, by omega, hl, Kd.C_of_reads (d := false) (h1 := fun _ => rfl) ⟨by simp, by omega, fun h => ⟨a, rfl, fun j hj => ?_⟩⟩⟩
      rw [hcell j (by omega)]
      simp [hj]
  obtain ⟨l0, rfl, hl0, hc0, hr0⟩ := z0
  obtain ⟨k, hf⟩ := Pure.PagesFirst l0 a1 hl0
  refine (PPagesFirst.quirelaw03_PagesFirst.calls k a0 cap0 l0 a1 true W hr0 hc0 hf).mono fun e W' ⟨he, bel⟩ => ?_
  subst he
  exact ⟨_, rfl, _, _, _, [], _, [], hW', trodAll_mk1 (shut_bool Try.underlying4 _), (trodAll_cons_mk (Below.trod laidOut (by kernel_rfl) (of_decide_eq_true (by kernel_rfl)) k0 bel lt0) (trodAll_cons_mk (shut_int Try.underlying3 w1) trodAll_mk0)), rfl, bel.frame _, fun h => by cases h⟩
set_option maxRecDepth 100000 in
theorem lifted (os : Os) (started : os.Started) (H : Type) (enc : TypeId × Value → H) (F : Stop.Interp) :
    ReturnsInHanded {} Try.checked os 6 .any ((Rows.OpenSpec.upto Rows.pagesFirstSpec).pre6 enc Try.prog Try.f6 Rows.pagesFirstUptoRow.domain false) (((Rows.OpenSpec.upto Rows.pagesFirstSpec).at F).post enc Try.prog Try.f6 false true false false) := by
  refine returnsInHanded_of_cond (C := Try.checked) (s := Rows.OpenSpec.upto Rows.pagesFirstSpec) (k := Rows.uptoSmall) rfl own started (by kernel_rfl) Try.func6
    (OpenSpec.witness (enc := enc) (C := Try.checked) (s := Rows.OpenSpec.upto Rows.pagesFirstSpec) (k := Rows.uptoSmall) rfl false ⟨#[], #[.slice none 0 0, .int .i64 0], []⟩ 8 (by kernel_rfl) (by kernel_rfl) (by kernel_rfl)
      (x := ([.nil, .lit (.int .i64 0)], [], [])) (by kernel_rfl) rfl (by kernel_rfl)) ?_
  intro W base args ds gs before hval hW _ hk _
  exact contract H enc W base args ds gs before hval hW hk
theorem proved : Rows.PagesFirstUptoSaid :=
  OpenClaim.holds_of_cond 6 Try.f6 rfl rfl rfl rfl rfl rfl rfl ⟨rfl, rfl, rfl, rfl, rfl⟩ rfl rfl rfl rfl rfl (by kernel_rfl) Try.func6 (by kernel_rfl)
    (of_decide_eq_true (by kernel_rfl)) (by unfold Func.isWrapper; first | (rw [if_pos (by decide +kernel)]; kernel_rfl) | (rw [if_neg (by decide +kernel)]; exact ⟨rfl, rfl⟩))
    (fun os started H enc _ F => lifted os started H enc F)
#print axioms proved
end Go.Proofs.Ytdpoifaeimmdmaa.pagesFirst
namespace Go.Proofs.Ytdpoifaeimmdmaa
/-- The row, under a short name, for the claim. -/
theorem pagesFirst_holds : Rows.PagesFirstUptoSaid := pagesFirst.proved
end Go.Proofs.Ytdpoifaeimmdmaa
