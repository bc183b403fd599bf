/- Seat D: EffectThen: the walk. -/
import Derived.Test.YtkdamjbbepfeoaaDoorEff3
namespace Go.Proofs.YtkdamjbbepfeoaaDoor
open Go.RowKit
set_option linter.unusedVariables false
set_option maxRecDepth 100000
set_option maxHeartbeats 8000000 in
theorem effThen_c (a b c d e f : Int) (w : World) (h : Shelf0 w) :
    Calls Tryd.prog 4 #[eff a b, eff c d, eff e f] w fun r w' => r = .returned (.bool true) ∧ Below w.heap.size w w' := by
  have hE := then_err a b c d
  have hF := then_err c d e f
  have cT : ∀ (a b c d : Int) (w : World), Calls Tryd.prog 8 #[.agg #[.int .i64 a, .int .i64 b], .agg #[.int .i64 c, .int .i64 d]] w fun e w' => e = .returned (.tuple #[.agg #[.int .i64 (thenE a b c d).1, .int .i64 (thenE a b c d).2.1], .int .i64 (thenE a b c d).2.2]) ∧ Below w.heap.size w w' := then_c
  obtain ⟨⟨p, q, x⟩, h1⟩ : ∃ r, thenE a b c d = r := ⟨_, rfl⟩
  obtain ⟨⟨r, s, y⟩, h2⟩ : ∃ r, thenE c d e f = r := ⟨_, rfl⟩
  obtain ⟨⟨x1, x2, g⟩, h3⟩ : ∃ t, thenE p q e f = t := ⟨_, rfl⟩
  obtain ⟨⟨y1, y2, k⟩, h4⟩ : ∃ t, thenE a b r s = t := ⟨_, rfl⟩
  have c1 := cT a b c d; have c2 := cT c d e f; have c3 := cT p q e f; have c4 := cT a b r s; have c5 := cT a b 0 0
  rw [h1] at c1 hE; rw [h2] at c2 hF; rw [h3] at c3; rw [h4] at c4
  simp only at c1 c2 c3 c4 hE hF
  have B := ((Below.refl w.heap.size w).alloc (Nat.le_refl _) (.cells #[.int .i64 a, .int .i64 b] 23)).alloc (by simp <;> omega) (.cells #[.int .i64 c, .int .i64 d] 23) |>.alloc (by simp <;> omega) (.cells #[.int .i64 e, .int .i64 f] 23)
  have b0 := ((Box.here w a b).alloc (.cells #[.int .i64 c, .int .i64 d] 23)).alloc (.cells #[.int .i64 e, .int .i64 f] 23)
  have b1 := (Box.here (w.alloc (.cells #[.int .i64 a, .int .i64 b] 23)) c d).alloc (.cells #[.int .i64 e, .int .i64 f] 23)
  have b2 := Box.here ((w.alloc (.cells #[.int .i64 a, .int .i64 b] 23)).alloc (.cells #[.int .i64 c, .int .i64 d] 23)) e f
  have cA := awake_c _ (h.below B)
  simp only [World.size_alloc] at b1 b2
  have hG := then_err p q e f; have hK := then_err a b r s
  rw [h3] at hG; rw [h4] at hK
  simp only at hG hK
  by_cases hx : x = 0
  · subst hx
    obtain ⟨⟨⟨a0, b0', a1, b1'⟩, ⟨c0, d0', c1', d1'⟩, p0, q0, p1, q1⟩, hp, hq⟩ := then_ok h1
    have hd : q - p = b - a + d - c := by omega
    by_cases hy : y = 0
    · subst hy
      rw [then_zero ⟨a0, b0', a1, b1'⟩] at c5
      simp only at c5
      by_cases hgk : g = 0 ∧ k = 0
      · obtain ⟨rfl, rfl⟩ := hgk
        obtain ⟨rfl, rfl⟩ := then_assoc h1 h2 h3 h4
        clear hE hF hG hK h1 h2 h3 h4 hp hq cT
        unfold eff
        go_enter Tryd.func4, Tryd.ntmps4
        go_wp2_with fail
        (go_at_call 5; refine cA.mono ?_; rintro _ w1 ⟨rfl, B1⟩; have K1 := B.trans (B1.mono B.size); have d0 := b0.below B1; have d1 := b1.below B1; have d2 := b2.below B1; obtain ⟨f00, f01, f02⟩ := d0.facts; obtain ⟨f10, f11, f12⟩ := d1.facts; obtain ⟨f20, f21, f22⟩ := d2.facts)
        go_wp2_with fail
        (go_at_call 8; refine (c1 _).mono ?_; rintro _ w2 ⟨rfl, B2⟩; clear f00 f01 f02 f10 f11 f12 f20 f21 f22; have K2 := K1.trans (B2.mono K1.size); have e0 := d0.below B2; have e1 := d1.below B2; have e2 := d2.below B2; obtain ⟨f00, f01, f02⟩ := e0.facts; obtain ⟨f10, f11, f12⟩ := e1.facts; obtain ⟨f20, f21, f22⟩ := e2.facts)
        go_wp2_with fail
        (go_at_call 8; refine (c2 _).mono ?_; rintro _ w3 ⟨rfl, B3⟩; clear f00 f01 f02 f10 f11 f12 f20 f21 f22; have K3 := (K2.alloc K2.size (.cells #[.int .i64 p, .int .i64 q] 23)).trans (B3.mono (K2.alloc K2.size (.cells #[.int .i64 p, .int .i64 q] 23)).size); have g0 := (e0.alloc (.cells #[.int .i64 p, .int .i64 q] 23)).below B3; have g1 := (e1.alloc (.cells #[.int .i64 p, .int .i64 q] 23)).below B3; have g2 := (e2.alloc (.cells #[.int .i64 p, .int .i64 q] 23)).below B3; have gp := (Box.here w2 p q).below B3; obtain ⟨f00, f01, f02⟩ := g0.facts; obtain ⟨f10, f11, f12⟩ := g1.facts; obtain ⟨f20, f21, f22⟩ := g2.facts; obtain ⟨f30, f31, f32⟩ := gp.facts)
        go_wp2_with fail
        (go_at_call 8; refine (c3 _).mono ?_; rintro _ w4 ⟨rfl, B4⟩; clear f00 f01 f02 f10 f11 f12 f20 f21 f22 f30 f31 f32; have K4 := (K3.alloc K3.size (.cells #[.int .i64 r, .int .i64 s] 23)).trans (B4.mono (K3.alloc K3.size (.cells #[.int .i64 r, .int .i64 s] 23)).size); have h0 := (g0.alloc (.cells #[.int .i64 r, .int .i64 s] 23)).below B4; have hr := (Box.here w3 r s).below B4; obtain ⟨f00, f01, f02⟩ := h0.facts; obtain ⟨f10, f11, f12⟩ := hr.facts)
        go_wp2_with fail
        (go_at_call 8; refine (c4 _).mono ?_; rintro _ w5 ⟨rfl, B5⟩; clear f00 f01 f02 f10 f11 f12; have K5 := (K4.alloc K4.size (.cells #[.int .i64 x1, .int .i64 x2] 23)).trans (B5.mono (K4.alloc K4.size (.cells #[.int .i64 x1, .int .i64 x2] 23)).size); have i0 := (h0.alloc (.cells #[.int .i64 x1, .int .i64 x2] 23)).below B5; have ix := (Box.here w4 x1 x2).below B5; obtain ⟨f00, f01, f02⟩ := i0.facts; obtain ⟨f10, f11, f12⟩ := ix.facts)
        go_wp2_with fail
        (go_at_call 8; refine (c5 _).mono ?_; rintro _ w6 ⟨rfl, B6⟩; clear f00 f01 f02 f10 f11 f12; have K6 := (K5.alloc K5.size (.cells #[.int .i64 x1, .int .i64 x2] 23)).trans (B6.mono (K5.alloc K5.size (.cells #[.int .i64 x1, .int .i64 x2] 23)).size); have j0 := (i0.alloc (.cells #[.int .i64 x1, .int .i64 x2] 23)).below B6; have jx := (ix.alloc (.cells #[.int .i64 x1, .int .i64 x2] 23)).below B6; have jy := (Box.here w5 x1 x2).below B6; obtain ⟨f00, f01, f02⟩ := j0.facts; obtain ⟨f10, f11, f12⟩ := jx.facts; obtain ⟨f20, f21, f22⟩ := jy.facts)
        go_wp2_with fail
        go_ret
        exact ⟨rfl, K6.alloc K6.size _⟩
      · have hgk' : (g = 2 ∨ g = 11) ∧ (k = 0 ∨ k = 2 ∨ k = 11) ∨ g = 0 ∧ (k = 2 ∨ k = 11) := by omega
        clear hE hF hG hK h1 h2 h3 h4 hp hq cT hgk
        unfold eff
        rcases hgk' with ⟨rfl | rfl, rfl | rfl | rfl⟩ | ⟨rfl, rfl | rfl⟩
        all_goals (
          go_enter Tryd.func4, Tryd.ntmps4
          go_wp2_with fail
          (go_at_call 5; refine cA.mono ?_; rintro _ w1 ⟨rfl, B1⟩; have K1 := B.trans (B1.mono B.size); have d0 := b0.below B1; have d1 := b1.below B1; have d2 := b2.below B1; obtain ⟨f00, f01, f02⟩ := d0.facts; obtain ⟨f10, f11, f12⟩ := d1.facts; obtain ⟨f20, f21, f22⟩ := d2.facts)
          go_wp2_with fail
          (go_at_call 8; refine (c1 _).mono ?_; rintro _ w2 ⟨rfl, B2⟩; clear f00 f01 f02 f10 f11 f12 f20 f21 f22; have K2 := K1.trans (B2.mono K1.size); have e0 := d0.below B2; have e1 := d1.below B2; have e2 := d2.below B2; obtain ⟨f00, f01, f02⟩ := e0.facts; obtain ⟨f10, f11, f12⟩ := e1.facts; obtain ⟨f20, f21, f22⟩ := e2.facts)
          go_wp2_with fail
          (go_at_call 8; refine (c2 _).mono ?_; rintro _ w3 ⟨rfl, B3⟩; clear f00 f01 f02 f10 f11 f12 f20 f21 f22; have K3 := (K2.alloc K2.size (.cells #[.int .i64 p, .int .i64 q] 23)).trans (B3.mono (K2.alloc K2.size (.cells #[.int .i64 p, .int .i64 q] 23)).size); have g0 := (e0.alloc (.cells #[.int .i64 p, .int .i64 q] 23)).below B3; have g1 := (e1.alloc (.cells #[.int .i64 p, .int .i64 q] 23)).below B3; have g2 := (e2.alloc (.cells #[.int .i64 p, .int .i64 q] 23)).below B3; have gp := (Box.here w2 p q).below B3; obtain ⟨f00, f01, f02⟩ := g0.facts; obtain ⟨f10, f11, f12⟩ := g1.facts; obtain ⟨f20, f21, f22⟩ := g2.facts; obtain ⟨f30, f31, f32⟩ := gp.facts)
          go_wp2_with fail
          (go_at_call 8; refine (c3 _).mono ?_; rintro _ w4 ⟨rfl, B4⟩; clear f00 f01 f02 f10 f11 f12 f20 f21 f22 f30 f31 f32; have K4 := (K3.alloc K3.size (.cells #[.int .i64 r, .int .i64 s] 23)).trans (B4.mono (K3.alloc K3.size (.cells #[.int .i64 r, .int .i64 s] 23)).size); have h0 := (g0.alloc (.cells #[.int .i64 r, .int .i64 s] 23)).below B4; have hr := (Box.here w3 r s).below B4; obtain ⟨f00, f01, f02⟩ := h0.facts; obtain ⟨f10, f11, f12⟩ := hr.facts)
          go_wp2_with fail
          (go_at_call 8; refine (c4 _).mono ?_; rintro _ w5 ⟨rfl, B5⟩; clear f00 f01 f02 f10 f11 f12; have K5 := (K4.alloc K4.size (.cells #[.int .i64 x1, .int .i64 x2] 23)).trans (B5.mono (K4.alloc K4.size (.cells #[.int .i64 x1, .int .i64 x2] 23)).size); have i0 := (h0.alloc (.cells #[.int .i64 x1, .int .i64 x2] 23)).below B5; have ix := (Box.here w4 x1 x2).below B5; obtain ⟨f00, f01, f02⟩ := i0.facts; obtain ⟨f10, f11, f12⟩ := ix.facts)
          go_wp2_with fail
          (go_at_call 8; refine (c5 _).mono ?_; rintro _ w6 ⟨rfl, B6⟩; clear f00 f01 f02 f10 f11 f12; have K6 := (K5.alloc K5.size (.cells #[.int .i64 y1, .int .i64 y2] 23)).trans (B6.mono (K5.alloc K5.size (.cells #[.int .i64 y1, .int .i64 y2] 23)).size); have j0 := (i0.alloc (.cells #[.int .i64 y1, .int .i64 y2] 23)).below B6; have jx := (ix.alloc (.cells #[.int .i64 y1, .int .i64 y2] 23)).below B6; have jy := (Box.here w5 y1 y2).below B6; obtain ⟨f00, f01, f02⟩ := j0.facts; obtain ⟨f10, f11, f12⟩ := jx.facts; obtain ⟨f20, f21, f22⟩ := jy.facts)
          go_wp2_with fail
          go_ret
          exact ⟨rfl, K6.alloc K6.size _⟩)
    · have hy' : y = 2 ∨ y = 11 := by omega
      clear hE hF hG hK h1 h2 h3 h4 hp hq cT c3 c4 c5
      unfold eff
      rcases hy' with rfl | rfl
      all_goals (
        go_enter Tryd.func4, Tryd.ntmps4
        go_wp2_with fail
        (go_at_call 5; refine cA.mono ?_; rintro _ w1 ⟨rfl, B1⟩; have K1 := B.trans (B1.mono B.size); have d0 := b0.below B1; have d1 := b1.below B1; have d2 := b2.below B1; obtain ⟨f00, f01, f02⟩ := d0.facts; obtain ⟨f10, f11, f12⟩ := d1.facts; obtain ⟨f20, f21, f22⟩ := d2.facts)
        go_wp2_with fail
        (go_at_call 8; refine (c1 _).mono ?_; rintro _ w2 ⟨rfl, B2⟩; clear f00 f01 f02 f10 f11 f12 f20 f21 f22; have K2 := K1.trans (B2.mono K1.size); have e0 := d0.below B2; have e1 := d1.below B2; have e2 := d2.below B2; obtain ⟨f00, f01, f02⟩ := e0.facts; obtain ⟨f10, f11, f12⟩ := e1.facts; obtain ⟨f20, f21, f22⟩ := e2.facts)
        go_wp2_with fail
        (go_at_call 8; refine (c2 _).mono ?_; rintro _ w3 ⟨rfl, B3⟩; clear f00 f01 f02 f10 f11 f12 f20 f21 f22; have K3 := (K2.alloc K2.size (.cells #[.int .i64 p, .int .i64 q] 23)).trans (B3.mono (K2.alloc K2.size (.cells #[.int .i64 p, .int .i64 q] 23)).size); have g0 := (e0.alloc (.cells #[.int .i64 p, .int .i64 q] 23)).below B3; have g1 := (e1.alloc (.cells #[.int .i64 p, .int .i64 q] 23)).below B3; have g2 := (e2.alloc (.cells #[.int .i64 p, .int .i64 q] 23)).below B3; have gp := (Box.here w2 p q).below B3; obtain ⟨f00, f01, f02⟩ := g0.facts; obtain ⟨f10, f11, f12⟩ := g1.facts; obtain ⟨f20, f21, f22⟩ := g2.facts; obtain ⟨f30, f31, f32⟩ := gp.facts)
        go_wp2_with fail
        go_ret
        exact ⟨rfl, K3.alloc K3.size _⟩)
  · have hx' : x = 2 ∨ x = 11 := by omega
    clear hE hF hG hK h1 h2 h3 h4 cT c3 c4 c5
    unfold eff
    rcases hx' with rfl | rfl
    all_goals (
      go_enter Tryd.func4, Tryd.ntmps4
      go_wp2_with fail
      (go_at_call 5; refine cA.mono ?_; rintro _ w1 ⟨rfl, B1⟩; have K1 := B.trans (B1.mono B.size); have d0 := b0.below B1; have d1 := b1.below B1; have d2 := b2.below B1; obtain ⟨f00, f01, f02⟩ := d0.facts; obtain ⟨f10, f11, f12⟩ := d1.facts; obtain ⟨f20, f21, f22⟩ := d2.facts)
      go_wp2_with fail
      (go_at_call 8; refine (c1 _).mono ?_; rintro _ w2 ⟨rfl, B2⟩; clear f00 f01 f02 f10 f11 f12 f20 f21 f22; have K2 := K1.trans (B2.mono K1.size); have e0 := d0.below B2; have e1 := d1.below B2; have e2 := d2.below B2; obtain ⟨f00, f01, f02⟩ := e0.facts; obtain ⟨f10, f11, f12⟩ := e1.facts; obtain ⟨f20, f21, f22⟩ := e2.facts)
      go_wp2_with fail
      (go_at_call 8; refine (c2 _).mono ?_; rintro _ w3 ⟨rfl, B3⟩; clear f00 f01 f02 f10 f11 f12 f20 f21 f22; have K3 := (K2.alloc K2.size (.cells #[.int .i64 p, .int .i64 q] 23)).trans (B3.mono (K2.alloc K2.size (.cells #[.int .i64 p, .int .i64 q] 23)).size); have g0 := (e0.alloc (.cells #[.int .i64 p, .int .i64 q] 23)).below B3; have g1 := (e1.alloc (.cells #[.int .i64 p, .int .i64 q] 23)).below B3; have g2 := (e2.alloc (.cells #[.int .i64 p, .int .i64 q] 23)).below B3; have gp := (Box.here w2 p q).below B3; obtain ⟨f00, f01, f02⟩ := g0.facts; obtain ⟨f10, f11, f12⟩ := g1.facts; obtain ⟨f20, f21, f22⟩ := g2.facts; obtain ⟨f30, f31, f32⟩ := gp.facts)
      go_wp2_with fail
      go_ret
      exact ⟨rfl, K3.alloc K3.size _⟩)
end Go.Proofs.YtkdamjbbepfeoaaDoor
