/- Seat D: EffectPrims: the row and the card. -/
import Derived.Test.YtkdamjbbepfeoaaDoorEff7
import Derived.Test.YtkdamjbbepfeoaaDoorTie
import Derived.Test.YtkdamjbbepfeoaaDoorCards
import Derived.ProofKit
import Derived.OpenShut
import Derived.ShutString
import Derived.ChangeMaps5
import Derived.LaidMore
import Derived.Lay
import Derived.SevenTiedAt
import Derived.Lib.SmallJoins
namespace Go.Proofs.YtkdamjbbepfeoaaDoor.RowPrims
open Go Go.ChangeShapes Go.WideShapes Go.RowKit
set_option linter.unusedVariables false
set_option maxRecDepth 100000
theorem own : ownKnob Tryd.prog.godebug = none := by kernel_rfl
theorem cells23 : Tryd.prog.cellsOf 23 = 2 := by kernel_rfl
theorem shelf0 {W : World} (hsh : W.ShapedOpen Tryd.prog) (hL : laidMetH Tryd.prog Rows.effectPrimsRow.laid W) : Shelf0 W := by
  refine ⟨?_, Tryd.laysM145.s1_3 W hsh⟩
  rw [MakeChecks.laidMetH_plain _ _ _ (by kernel_rfl)] at hL
  obtain ⟨ps, ⟨g1, t1, cs1, fu1, p1, q1, _, _, _, _, hrest, _⟩, _⟩ := hL
  obtain ⟨g', t', cs, fuel, p, q, hg', ht', hvar, hd, _, _⟩ := hrest
  obtain rfl := Option.some.inj (gN.symm.trans hg')
  obtain rfl := Option.some.inj ((show (Tryd.prog.globals[Tryd.laysM157_ren.g 0]?).map (·.type) = some 43 by kernel_rfl).symm.trans ht')
  have hd' : DataW.trod (fun _ => ()) Tryd.prog W 0 (fun _ => true) false fuel 43 cs.toList = some (Lib.tabData .u8 Lib.asciiSpaceTab, p) := by
    rw [show (Lib.tabData .u8 Lib.asciiSpaceTab : DataW Unit) = Rows.laid_strings_asciiSpace by kernel_rfl]; exact hd
  unfold Lib.TabIs
  rw [hvar, ← Lib.cells_of_tab Tryd.underlying43 Tryd.underlying5 (by kernel_rfl) (by kernel_rfl) hd']
theorem contract (H : Type) (enc : TypeId × Value → H) (W : World) (base : Nat) (args : Array Value) (ds gs : List (DataW H)) (before : List MemPlace)
    (hval : ∀ (j : Nat) t v, Tryd.f3.params[j]? = some t → args[j]? = some v → Value.okWide Tryd.prog W .any base t v)
    (hW : DataW.Whole enc Tryd.prog Tryd.f3.params.toList Rows.effectPrimsSpec.vars false W args.toList ds gs before) (hS : Shelf0 W) :
    Calls Tryd.prog 3 args W fun e W' => ∃ v, e = .returned v ∧ Rows.effectPrimsSpec.post enc Tryd.prog Tryd.f3 false true false false W args v W' := by
  have hW' := hW
  obtain ⟨p, q, hA0, hV, rfl, hfz, hnd⟩ := hW
  have hA : DataW.TrodAll enc Tryd.prog W 0 (fun _ => true) true Tryd.f3.params.toList args.toList ds p := hA0
  rw [Tryd.params3] at hA hval
  obtain ⟨v0, vs0, d0, ds0, p0, q0, hargs, rfl, rfl, h0, r0⟩ := trodAll_cons hA
  obtain ⟨v1, vs1, d1, ds1, p1, q1, rfl, rfl, rfl, h1, r1⟩ := trodAll_cons r0
  obtain ⟨v2, vs2, d2, ds2, p2, q2, rfl, rfl, rfl, h2, r2⟩ := trodAll_cons r1
  obtain ⟨rfl, rfl, rfl⟩ := trodAll_nil r2
  obtain rfl : args = #[v0, v1, v2] := by cases args; simp_all
  obtain ⟨rfl, rfl⟩ := trodVars_none hV
  obtain ⟨str, rfl, rfl, rfl, hstr⟩ := Go.ChangeMaps.open_string Tryd.underlying9 (hval 0 9 v0 rfl rfl) h0
  obtain ⟨x1, z1, y1, m1, n1, rfl, rfl, rfl, k1, l1⟩ := Joins.open_agg2 Tryd.underlying23 (by kernel_rfl) cells23 (hval 1 23 v1 rfl rfl) h1
  obtain ⟨c, ec, rfl, wc⟩ := DataW.trod_int Tryd.underlying3 k1
  obtain ⟨d, ed, rfl, wd⟩ := DataW.trod_int Tryd.underlying3 l1
  simp at ec ed; subst ec ed
  obtain ⟨x2, z2, y2, m2, n2, rfl, rfl, rfl, k2, l2⟩ := Joins.open_agg2 Tryd.underlying23 (by kernel_rfl) cells23 (hval 2 23 v2 rfl rfl) h2
  obtain ⟨e, ee, rfl, we⟩ := DataW.trod_int Tryd.underlying3 k2
  obtain ⟨f, ef, rfl, wf⟩ := DataW.trod_int Tryd.underlying3 l2
  simp at ee ef; subst ee ef
  refine (effPrims_c str c d e f W hS).mono fun r W' ⟨he, bel⟩ => ?_
  subst he
  exact ⟨_, rfl, _, _, _, [], _, [], hW', trodAll_mk1 (shut_bool Tryd.underlying4 _),
    (trodAll_cons_mk (Go.ChangeMaps.shut_string Tryd.underlying9 hstr)
    (trodAll_cons_mk (Joins.shut_agg2 (y0 := (.lit (.int .i64 c), [])) (y1 := (.lit (.int .i64 d), [])) Tryd.underlying23 (by kernel_rfl) cells23 ⟨1, by simp [DataW.trod, Tryd.underlying3, wc]⟩ ⟨1, by simp [DataW.trod, Tryd.underlying3, wd]⟩)
    (trodAll_cons_mk (Joins.shut_agg2 (y0 := (.lit (.int .i64 e), [])) (y1 := (.lit (.int .i64 f), [])) Tryd.underlying23 (by kernel_rfl) cells23 ⟨1, by simp [DataW.trod, Tryd.underlying3, we]⟩ ⟨1, by simp [DataW.trod, Tryd.underlying3, wf]⟩) trodAll_mk0))), rfl, bel.frame _, fun h => by cases h⟩
theorem lifted (os : Os) (started : os.Started) (H : Type) (enc : TypeId × Value → H) :
    ReturnsInHanded {} Tryd.checked os 3 .any (fun w args => (Rows.effectPrimsSpec.pre enc Tryd.prog Tryd.f3 Rows.effectPrimsRow.domain false w args ∧ laidMetH Tryd.prog Rows.effectPrimsRow.laid w) ∧ sizedMet enc Tryd.prog Tryd.f3 (OpenSpec.ofChange Rows.effectPrimsSpec) false w args)
      (Rows.effectPrimsSpec.post enc Tryd.prog Tryd.f3 false true false false) := by
  refine returnsInHanded_of_calls (C := Tryd.checked) own started (by kernel_rfl)
    (ChangeSpec.witness_shaped (enc := enc) (C := Tryd.checked) (os := os) (X := fun w _ => laidMetH Tryd.prog Rows.effectPrimsRow.laid w) false (World.laidAll Tryd.prog os Rows.effectPrimsRow.laid) #[.string ⟨#[]⟩, .agg #[.int .i64 0, .int .i64 0], .agg #[.int .i64 0, .int .i64 0]] 8 (World.laidAll_os _ _ _)
      (World.shaped_of_ZipB (by kernel_rfl) (by kernel_rfl)) (by kernel_rfl) (by kernel_rfl) (by kernel_rfl)
      (by rw [MakeChecks.laidMetH_plain _ _ _ (by kernel_rfl)]; exact laidMet_laidAll _ (by kernel_rfl) (by kernel_rfl))) ?_
  intro w tape i _ hsh _ hok hpre hholds
  obtain ⟨_, _, _, fn', hfn', _, _, _, _, hval⟩ := hok
  obtain rfl : fn' = Tryd.f3 := Option.some.inj (hfn'.symm.trans Tryd.func3)
  obtain ⟨⟨⟨ds, gs, before, hw, hc⟩, hx⟩, hz⟩ := hpre
  have hW := DataW.Whole.of_heap (w' := w.forCall tape i) (by rfl) hw
  have hL : laidMetH Tryd.prog Rows.effectPrimsRow.laid (w.forCall tape i) := laidMetH.of_heap (by rfl) hx
  refine (contract H enc (w.forCall tape i) w.heap.size i.args ds gs before hval hW (shelf0 hsh hL)).mono fun e W' ⟨v, he, hp⟩ => ?_
  subst he
  exact ChangeSpec.post_blind hp
theorem holds : Rows.EffectPrimsSaid :=
  OpenClaim.holds_of_wide 3 Tryd.f3 rfl rfl rfl rfl rfl rfl rfl ⟨rfl, rfl, rfl, rfl, rfl⟩ rfl rfl rfl rfl rfl (by kernel_rfl) Tryd.func3 (by kernel_rfl)
    (of_decide_eq_true (by kernel_rfl)) (by unfold Func.isWrapper; first | (rw [if_pos (by decide +kernel)]; kernel_rfl) | (rw [if_neg (by decide +kernel)]; exact ⟨rfl, rfl⟩))
    (fun os started H enc _ => lifted os started H enc)
theorem card : Rows.EffectPrimsCardSaid :=
  Claim7.holds_tied_plain_at .later [] [.listed, .data] true (true, "57170cf414af57247b10f76175583a7a0eaf2cec2b0a24fd45afddbea0a08dbf") false holds (fun _ h => by cases h) (by kernel_rfl) (fun _ h => by cases h) effectPrims_row_tie rfl ⟨rfl, rfl⟩ (by kernel_rfl) rfl
    (fun f fn hf hfn => by
      obtain rfl : f = 3 := Option.some.inj ((show Tryd.prog.funcNamed "quire/quirelaw09.EffectPrims" = some 3 by kernel_rfl).symm.trans hf) |>.symm
      obtain rfl : fn = Tryd.f3 := (Option.some.inj (Tryd.func3.symm.trans hfn)).symm
      exact ⟨by kernel_rfl, fun j t ht => by
        rw [Tryd.params3] at ht
        have hm : t ∈ [9, 23, 23] := by simpa using Array.mem_of_getElem? ht
        have hall : ([9, 23, 23].all fun u => !Tryd.prog.wantsStandIn u) = true := by kernel_rfl
        exact (show Tryd.prog.wantsStandIn t = false by simpa using List.all_eq_true.1 hall t hm)⟩)
    (by kernel_rfl)
#print axioms card
end Go.Proofs.YtkdamjbbepfeoaaDoor.RowPrims
namespace Go.Proofs.YtkdamjbbepfeoaaDoor
/-- The card, under a short name, for the claim. -/
theorem effectPrims_holds : Rows.EffectPrimsCardSaid := RowPrims.card
end Go.Proofs.YtkdamjbbepfeoaaDoor
