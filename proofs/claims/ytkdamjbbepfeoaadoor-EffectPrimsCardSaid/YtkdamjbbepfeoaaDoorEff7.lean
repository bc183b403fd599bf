/- Seat D: EffectPrims: the walk. -/
import Derived.Test.YtkdamjbbepfeoaaDoorEff6
namespace Go.Proofs.YtkdamjbbepfeoaaDoor
open Go.RowKit
set_option linter.unusedVariables false
set_option linter.unusedSimpArgs false
set_option maxRecDepth 100000
def namesM : List (List UInt8) := [[100, 117, 112], [100, 114, 111, 112], [115, 119, 97, 112], [111, 118, 101, 114], [114, 111, 116], [110, 105, 112], [116, 117, 99, 107]]
theorem mvL_none (s : List UInt8) (h : s ∉ namesM) : mvL s = (0, 0, false) := by
  simp only [namesM, List.mem_cons, List.not_mem_nil, or_false, not_or] at h
  unfold mvL
  simp [h]
theorem known_same : (namesM ++ namesR).all (fun s => decide (refL s = look s wordsL)) = true := by decide +kernel
def bears (x : List UInt8) : Bool := match Lib.cut x [58] with
  | ([_, _], y, true) => (namesM ++ namesR).contains y
  | _ => true
theorem words_bear : wordsL.all bears = true := by decide +kernel
theorem look_none (s : List UInt8) (hs : s ∉ namesM ++ namesR) : ∀ L : List (List UInt8), (∀ x ∈ L, bears x = true) → look s L = (0, 0, false)
  | [], _ => rfl
  | x :: r, h => by
    have hx := h x List.mem_cons_self
    have ih := look_none s hs r (fun y hy => h y (List.mem_cons_of_mem _ hy))
    rw [look]
    split
    · rename_i a b y e
      unfold bears at hx
      rw [e] at hx
      simp only [List.contains_iff_mem] at hx
      rw [if_neg (by rintro rfl; exact hs hx)]
      exact ih
    · exact ih
theorem ref_same (s : List UInt8) : refL s = look s wordsL := by
  by_cases h : s ∈ namesM ++ namesR
  · exact of_decide_eq_true (List.all_eq_true.1 known_same s h)
  · rw [look_none s h wordsL (fun x hx => List.all_eq_true.1 words_bear x hx)]
    have h1 : s ∉ namesM := fun e => h (List.mem_append_left _ e)
    have h2 : s ∉ namesR := fun e => h (List.mem_append_right _ e)
    unfold refL
    rw [mvL_none s h1, restL_none s h2]
    rfl
set_option maxHeartbeats 8000000 in
theorem effPrims_c (s : ByteArray) (a b c d : Int) (w : World) (h : Shelf0 w) :
    Calls Tryd.prog 3 #[.string s, eff a b, eff c d] w fun r w' => r = .returned (.bool true) ∧ Below w.heap.size w w' := by
  obtain ⟨⟨p, q, x⟩, h1⟩ : ∃ r, prim s = r := ⟨_, rfl⟩
  obtain ⟨⟨y, z, k⟩, h2⟩ : ∃ r, thenE a b c d = r := ⟨_, rfl⟩
  have h3 : refL s.toList = (p, q, x) := by rw [ref_same, Go.ByteArray.toList_eq]; exact h1
  have cP : ∀ w, Shelf0 w → Calls Tryd.prog 6 #[.string s] w fun e w' => e = .returned (.tuple #[.agg #[.int .i64 p, .int .i64 q], .bool x]) ∧ Below w.heap.size w w' := fun w hw => by
    have := prim_c s w hw; rw [h1] at this; exact this
  have cR : ∀ w, Calls Tryd.prog 7 #[.string s] w fun e w' => e = .returned (.tuple #[.int .i64 p, .int .i64 q, .bool x]) ∧ Below w.heap.size w w' := fun w => by
    have := refPrim_c s w; unfold Rf at this; rw [h3] at this; exact this
  have cT : ∀ w, Calls Tryd.prog 8 #[.agg #[.int .i64 a, .int .i64 b], .agg #[.int .i64 c, .int .i64 d]] w fun e w' => e = .returned (.tuple #[.agg #[.int .i64 y, .int .i64 z], .int .i64 k]) ∧ Below w.heap.size w w' := fun w => by
    have := then_c a b c d w; rw [h2] at this; exact this
  have cU : ∀ w, Calls Tryd.prog 9 #[.agg #[.int .i64 a, .int .i64 b], .agg #[.int .i64 c, .int .i64 d]] w fun e w' => e = .returned (.tuple #[.agg #[.int .i64 y, .int .i64 z], .int .i64 k]) ∧ Below w.heap.size w w' := fun w => by
    have := refThen_c a b c d w; unfold ThP at this; rw [h2] at this; exact this
  have B := ((Below.refl w.heap.size w).alloc (Nat.le_refl _) (.cells #[.int .i64 a, .int .i64 b] 23)).alloc (by simp <;> omega) (.cells #[.int .i64 c, .int .i64 d] 23)
  have b0 := (Box.here w a b).alloc (.cells #[.int .i64 c, .int .i64 d] 23)
  have b1 := Box.here (w.alloc (.cells #[.int .i64 a, .int .i64 b] 23)) c d
  have cA := awake_c _ (h.below B)
  simp only [World.size_alloc] at b1
  have CP := Lib.hid cP; have CR := Lib.hid cR; have CT := Lib.hid cT; have CU := Lib.hid cU; have HB := Lib.hid B; have HH := Lib.hid h
  clear h1 h2 h3 cP cR cT cU B h
  unfold eff
  go_enter Tryd.func3, Tryd.ntmps3
  go_wp2_with fail
  (go_at_call 5; refine cA.mono ?_; rintro _ w1 ⟨rfl, B1⟩; have K1 := Lib.hid (HB.out.trans (B1.mono HB.out.size)); have d0 := b0.below B1; have d1 := b1.below B1; obtain ⟨f00, f01, f02⟩ := d0.facts; obtain ⟨f10, f11, f12⟩ := d1.facts; clear cA b0 b1 HB B1)
  go_wp2_with fail
  have cP := CP.out _ (HH.out.below K1.out)
  (go_at_call 6; refine cP.mono ?_; rintro _ w2 ⟨rfl, B2⟩; clear cP f00 f01 f02 f10 f11 f12; have K2 := Lib.hid (K1.out.trans (B2.mono K1.out.size)); have e0 := d0.below B2; have e1 := d1.below B2; clear d0 d1 B2 K1; obtain ⟨f00, f01, f02⟩ := e0.facts; obtain ⟨f10, f11, f12⟩ := e1.facts)
  go_wp2_with fail
  (go_at_call 7; refine (CR.out _).mono ?_; rintro _ w3 ⟨rfl, B3⟩; clear f00 f01 f02 f10 f11 f12; have K3 := Lib.hid ((K2.out.alloc K2.out.size (.cells #[.int .i64 p, .int .i64 q] 23)).trans (B3.mono (K2.out.alloc K2.out.size (.cells #[.int .i64 p, .int .i64 q] 23)).size)); have d0 := (e0.alloc (.cells #[.int .i64 p, .int .i64 q] 23)).below B3; have d1 := (e1.alloc (.cells #[.int .i64 p, .int .i64 q] 23)).below B3; have dp := (Box.here w2 p q).below B3; clear e0 e1 B3 K2; obtain ⟨f00, f01, f02⟩ := d0.facts; obtain ⟨f10, f11, f12⟩ := d1.facts; obtain ⟨f20, f21, f22⟩ := dp.facts)
  go_wp2_with fail
  (go_at_call 8; refine (CT.out _).mono ?_; rintro _ w4 ⟨rfl, B4⟩; clear f00 f01 f02 f10 f11 f12 f20 f21 f22; have K4 := Lib.hid (K3.out.trans (B4.mono K3.out.size)); have e0 := d0.below B4; have e1 := d1.below B4; have ep := dp.below B4; clear d0 d1 dp B4 K3; obtain ⟨f00, f01, f02⟩ := e0.facts; obtain ⟨f10, f11, f12⟩ := e1.facts; obtain ⟨f20, f21, f22⟩ := ep.facts)
  go_wp2_with fail
  (go_at_call 9; refine (CU.out _).mono ?_; rintro _ w5 ⟨rfl, B5⟩; clear f00 f01 f02 f10 f11 f12 f20 f21 f22; have K5 := Lib.hid ((K4.out.alloc K4.out.size (.cells #[.int .i64 y, .int .i64 z] 23)).trans (B5.mono (K4.out.alloc K4.out.size (.cells #[.int .i64 y, .int .i64 z] 23)).size)); have dp := (ep.alloc (.cells #[.int .i64 y, .int .i64 z] 23)).below B5; have dy := (Box.here w4 y z).below B5; clear e0 e1 ep B5 K4; obtain ⟨f20, f21, f22⟩ := dp.facts; obtain ⟨f30, f31, f32⟩ := dy.facts)
  cases x with
  | true =>
    go_wp2
    go_ret
    exact ⟨rfl, K5.out.alloc K5.out.size _⟩
  | false =>
    go_wp2
    go_ret
    exact ⟨rfl, K5.out.alloc K5.out.size _⟩
end Go.Proofs.YtkdamjbbepfeoaaDoor
