-- Written by a program: a turned copy of the print tool.
import Derived.Test.YteecbgfbhppoiaaPCellArithx0
import Derived.Test.YteecbgfbhppoiaaPCellArithx1
namespace Go.Proofs.Yteecbgfbhppoiaa.PCellArith
open Go.RowKit Go.Proofs.YteecbgfbhppoiaaW.PrintWords Go.Proofs.YteecbgfbhppoiaaW.PrintLast Go.Proofs.YteecbgfbhppoiaaW.PrintMore
attribute [local go_sem] max2_int min2_int max_two min_two max_three min_three max_four min_four   -- for this text's walks alone
set_option linter.unusedVariables false
set_option linter.unusedSimpArgs false

/-! ### quireref05_Arith: function 23 -/
mutual
def quireref05_Arith.j0 : Nat → Int → Int → Int → Bool → Option (Int × Int)
  | 0, _, _, _, _ => none
  | k + 1, x0, x1, x2, x41 => if x41 = true then (some (0, 2)) else (if x0 = 47 then (quireref05_Arith.j1 k x0 x1 x2 (x2 == 0)) else (if x0 = 37 then (quireref05_Arith.j1 k x0 x1 x2 (x2 == 0)) else (quireref05_Arith.j1 k x0 x1 x2 false)))
def quireref05_Arith.j1 : Nat → Int → Int → Int → Bool → Option (Int × Int)
  | 0, _, _, _, _ => none
  | k + 1, x0, x1, x2, x51 => if x51 = true then (some (0, 19)) else (if x0 = 43 then (quireref05_Arith.j2 k x0 x1 x2 ((decide (x1 < 0)) != (decide (x2 < 0))) x0 (x0 == 43)) else (quireref05_Arith.j2 k x0 x1 x2 ((decide (x1 < 0)) != (decide (x2 < 0))) x0 (x0 == 45)))
def quireref05_Arith.j2 : Nat → Int → Int → Int → Bool → Int → Bool → Option (Int × Int)
  | 0, _, _, _, _, _, _ => none
  | k + 1, x0, x1, x2, x8, x57, x58 => if x58 = true then (if x0 = 45 then ((quireref05_In.f (wrap64 (x1 - x2))).bind fun t125 => (if t125 = true then (some (wrap64 (x1 - x2), 0)) else (some (0, 18)))) else ((quireref05_In.f (wrap64 (x1 + x2))).bind fun t126 => (if t126 = true then (some (wrap64 (x1 + x2), 0)) else (some (0, 18))))) else (if x57 = 47 then ((quireref05_size.f x1).bind fun t127 => ((quireref05_size.f x2).bind fun t128 => (if t128 = 0 then (none) else (if x8 = true then ((quireref05_signed.f k (IntKind.u64.wrap (Int.tdiv t127 t128)) (decide ((IntKind.u64.wrap (Int.tdiv t127 t128)) > 0))).bind fun bt129 => (some (bt129.1, bt129.2))) else ((quireref05_signed.f k (IntKind.u64.wrap (Int.tdiv t127 t128)) false).bind fun bt131 => (some (bt131.1, bt131.2))))))) else (if x57 = 37 then ((quireref05_size.f x1).bind fun t133 => ((quireref05_size.f x2).bind fun t134 => (if t134 = 0 then (none) else ((quireref05_signed.f k (Int.tmod t133 t134) (decide (x1 < 0))).bind fun bt135 => (some (bt135.1, bt135.2)))))) else ((quireref05_size.f x1).bind fun t137 => ((quireref05_size.f x2).bind fun t138 => (if t137 = 0 then (quireref05_Arith.j3 k x8 t137 t138 true) else (quireref05_Arith.j3 k x8 t137 t138 (t138 == 0)))))))
def quireref05_Arith.j3 : Nat → Bool → Int → Int → Bool → Option (Int × Int)
  | 0, _, _, _, _ => none
  | k + 1, x8, x12, x13, x111 => if x111 = true then (some (0, 0)) else (if x12 = 0 then (none) else (if x13 > (IntKind.u64.wrap (Int.tdiv (1152921504606846976 : Int) x12)) then (some (0, 18)) else ((quireref05_signed.f k (IntKind.u64.wrap (x12 * x13)) x8).bind fun bt139 => (some (bt139.1, bt139.2)))))
end
def quireref05_Arith.f (k : Nat) (a0 : Int) (a1 : Int) (a2 : Int) : Option (Int × Int) := if a0 = 43 then ((quireref05_In.f a1).bind fun t115 => (if t115 = true then ((quireref05_In.f a2).bind fun t116 => (quireref05_Arith.j0 k a0 a1 a2 (!t116))) else (quireref05_Arith.j0 k a0 a1 a2 true))) else (if a0 = 45 then ((quireref05_In.f a1).bind fun t117 => (if t117 = true then ((quireref05_In.f a2).bind fun t118 => (quireref05_Arith.j0 k a0 a1 a2 (!t118))) else (quireref05_Arith.j0 k a0 a1 a2 true))) else (if a0 = 42 then ((quireref05_In.f a1).bind fun t119 => (if t119 = true then ((quireref05_In.f a2).bind fun t120 => (quireref05_Arith.j0 k a0 a1 a2 (!t120))) else (quireref05_Arith.j0 k a0 a1 a2 true))) else (if a0 = 47 then ((quireref05_In.f a1).bind fun t121 => (if t121 = true then ((quireref05_In.f a2).bind fun t122 => (quireref05_Arith.j0 k a0 a1 a2 (!t122))) else (quireref05_Arith.j0 k a0 a1 a2 true))) else (if a0 = 37 then ((quireref05_In.f a1).bind fun t123 => (if t123 = true then ((quireref05_In.f a2).bind fun t124 => (quireref05_Arith.j0 k a0 a1 a2 (!t124))) else (quireref05_Arith.j0 k a0 a1 a2 true))) else (quireref05_Arith.j0 k a0 a1 a2 true)))))
theorem quireref05_Arith.mono_l : ∀ k, (∀ y0 y1 y2 y3, LeO (quireref05_Arith.j0 k y0 y1 y2 y3) (quireref05_Arith.j0 (k + 1) y0 y1 y2 y3)) ∧ (∀ y0 y1 y2 y3, LeO (quireref05_Arith.j1 k y0 y1 y2 y3) (quireref05_Arith.j1 (k + 1) y0 y1 y2 y3)) ∧ (∀ y0 y1 y2 y3 y4 y5, LeO (quireref05_Arith.j2 k y0 y1 y2 y3 y4 y5) (quireref05_Arith.j2 (k + 1) y0 y1 y2 y3 y4 y5)) ∧ (∀ y0 y1 y2 y3, LeO (quireref05_Arith.j3 k y0 y1 y2 y3) (quireref05_Arith.j3 (k + 1) y0 y1 y2 y3))
  | 0 => ⟨fun _ _ _ _ r h => by simp [quireref05_Arith.j0] at h, fun _ _ _ _ r h => by simp [quireref05_Arith.j1] at h, fun _ _ _ _ _ _ r h => by simp [quireref05_Arith.j2] at h, fun _ _ _ _ r h => by simp [quireref05_Arith.j3] at h⟩
  | k + 1 => by
    obtain ⟨ih0, ih1, ih2, ih3⟩ := quireref05_Arith.mono_l k
    refine ⟨?_, ?_, ?_, ?_⟩
    · intro y0 y1 y2 y3
      unfold quireref05_Arith.j0
      repeat' first
      | (with_reducible exact ih0 _ _ _ _)
      | (with_reducible exact ih1 _ _ _ _)
      | (with_reducible exact ih2 _ _ _ _ _ _)
      | (with_reducible exact ih3 _ _ _ _)
      | (with_reducible exact quireref05_signed.mono _ _ _)
      | (with_reducible exact LeO.refl _)
      | (with_reducible exact LeO.none _)
      | (with_reducible refine LeO.ite ?_ ?_)
      | (with_reducible refine LeO.bind ?_ (fun _ => ?_))
      | exact ih0 _ _ _ _
      | exact ih1 _ _ _ _
      | exact ih2 _ _ _ _ _ _
      | exact ih3 _ _ _ _
      | exact quireref05_signed.mono _ _ _
      | exact LeO.none _
      | refine LeO.ite ?_ ?_
      | refine LeO.bind ?_ (fun _ => ?_)
    · intro y0 y1 y2 y3
      unfold quireref05_Arith.j1
      repeat' first
      | (with_reducible exact ih0 _ _ _ _)
      | (with_reducible exact ih1 _ _ _ _)
      | (with_reducible exact ih2 _ _ _ _ _ _)
      | (with_reducible exact ih3 _ _ _ _)
      | (with_reducible exact quireref05_signed.mono _ _ _)
      | (with_reducible exact LeO.refl _)
      | (with_reducible exact LeO.none _)
      | (with_reducible refine LeO.ite ?_ ?_)
      | (with_reducible refine LeO.bind ?_ (fun _ => ?_))
      | exact ih0 _ _ _ _
      | exact ih1 _ _ _ _
      | exact ih2 _ _ _ _ _ _
      | exact ih3 _ _ _ _
      | exact quireref05_signed.mono _ _ _
      | exact LeO.none _
      | refine LeO.ite ?_ ?_
      | refine LeO.bind ?_ (fun _ => ?_)
    · intro y0 y1 y2 y3 y4 y5
      unfold quireref05_Arith.j2
      repeat' first
      | (with_reducible exact ih0 _ _ _ _)
      | (with_reducible exact ih1 _ _ _ _)
      | (with_reducible exact ih2 _ _ _ _ _ _)
      | (with_reducible exact ih3 _ _ _ _)
      | (with_reducible exact quireref05_signed.mono _ _ _)
      | (with_reducible exact LeO.refl _)
      | (with_reducible exact LeO.none _)
      | (with_reducible refine LeO.ite ?_ ?_)
      | (with_reducible refine LeO.bind ?_ (fun _ => ?_))
      | exact ih0 _ _ _ _
      | exact ih1 _ _ _ _
      | exact ih2 _ _ _ _ _ _
      | exact ih3 _ _ _ _
      | exact quireref05_signed.mono _ _ _
      | exact LeO.none _
      | refine LeO.ite ?_ ?_
      | refine LeO.bind ?_ (fun _ => ?_)
    · intro y0 y1 y2 y3
      unfold quireref05_Arith.j3
      repeat' first
      | (with_reducible exact ih0 _ _ _ _)
      | (with_reducible exact ih1 _ _ _ _)
      | (with_reducible exact ih2 _ _ _ _ _ _)
      | (with_reducible exact ih3 _ _ _ _)
      | (with_reducible exact quireref05_signed.mono _ _ _)
      | (with_reducible exact LeO.refl _)
      | (with_reducible exact LeO.none _)
      | (with_reducible refine LeO.ite ?_ ?_)
      | (with_reducible refine LeO.bind ?_ (fun _ => ?_))
      | exact ih0 _ _ _ _
      | exact ih1 _ _ _ _
      | exact ih2 _ _ _ _ _ _
      | exact ih3 _ _ _ _
      | exact quireref05_signed.mono _ _ _
      | exact LeO.none _
      | refine LeO.ite ?_ ?_
      | refine LeO.bind ?_ (fun _ => ?_)
theorem quireref05_Arith.mono : ∀ a0 a1 a2 k, LeO (quireref05_Arith.f k a0 a1 a2) (quireref05_Arith.f (k + 1) a0 a1 a2) := by
  intro a0 a1 a2 k
  obtain ⟨ih0, ih1, ih2, ih3⟩ := quireref05_Arith.mono_l k
  unfold quireref05_Arith.f
  repeat' first
      | (with_reducible exact ih0 _ _ _ _)
      | (with_reducible exact ih1 _ _ _ _)
      | (with_reducible exact ih2 _ _ _ _ _ _)
      | (with_reducible exact ih3 _ _ _ _)
      | (with_reducible exact quireref05_signed.mono _ _ _)
      | (with_reducible exact LeO.refl _)
      | (with_reducible exact LeO.none _)
      | (with_reducible refine LeO.ite ?_ ?_)
      | (with_reducible refine LeO.bind ?_ (fun _ => ?_))
      | exact ih0 _ _ _ _
      | exact ih1 _ _ _ _
      | exact ih2 _ _ _ _ _ _
      | exact ih3 _ _ _ _
      | exact quireref05_signed.mono _ _ _
      | exact LeO.none _
      | refine LeO.ite ?_ ?_
      | refine LeO.bind ?_ (fun _ => ?_)
set_option maxHeartbeats 8000000 in
set_option maxRecDepth 100000 in
theorem quireref05_Arith.calls (k : Nat) (a0 : Int) (a1 : Int) (a2 : Int) (r1 : Int) (r2 : Int) (w : World) (h : quireref05_Arith.f k a0 a1 a2 = some (r1, r2)) :
    Calls Try.prog 23 #[.int .u8 a0, .int .i64 a1, .int .i64 a2] w fun e w' => e = .returned (.tuple #[.int .i64 r1, .int .i64 r2]) ∧ Drawn0 w w' := by
  have H : (if a0 = 43 then ((quireref05_In.f a1).bind fun t115 => (if t115 = true then ((quireref05_In.f a2).bind fun t116 => (quireref05_Arith.j0 k a0 a1 a2 (!t116))) else (quireref05_Arith.j0 k a0 a1 a2 true))) else (if a0 = 45 then ((quireref05_In.f a1).bind fun t117 => (if t117 = true then ((quireref05_In.f a2).bind fun t118 => (quireref05_Arith.j0 k a0 a1 a2 (!t118))) else (quireref05_Arith.j0 k a0 a1 a2 true))) else (if a0 = 42 then ((quireref05_In.f a1).bind fun t119 => (if t119 = true then ((quireref05_In.f a2).bind fun t120 => (quireref05_Arith.j0 k a0 a1 a2 (!t120))) else (quireref05_Arith.j0 k a0 a1 a2 true))) else (if a0 = 47 then ((quireref05_In.f a1).bind fun t121 => (if t121 = true then ((quireref05_In.f a2).bind fun t122 => (quireref05_Arith.j0 k a0 a1 a2 (!t122))) else (quireref05_Arith.j0 k a0 a1 a2 true))) else (if a0 = 37 then ((quireref05_In.f a1).bind fun t123 => (if t123 = true then ((quireref05_In.f a2).bind fun t124 => (quireref05_Arith.j0 k a0 a1 a2 (!t124))) else (quireref05_Arith.j0 k a0 a1 a2 true))) else (quireref05_Arith.j0 k a0 a1 a2 true)))))) = some (r1, r2) := h
  clear h
  have HC4 := Aside0.mk H
  clear H
  go_enter Try.func23, Try.ntmps23
  go_upto_region 1 with (fail)
  go_cut [41] (fun v41 wc => ∃ (kq : Nat) (x41_3 : Bool), v41 = .bool x41_3 ∧ Aside0 (quireref05_Arith.j0 kq a0 a1 a2 x41_3 = some (r1, r2)) ∧ Aside0 (kq ≤ k) ∧ Drawn0 w wc)
  case first =>
    have H := HC4.out
    clear HC4
    by_cases c5 : a0 = 43
    · rw [if_pos c5] at H
      have c5b0 : (a0 == 43) = true := beq_iff_eq.mpr c5
      have c5b1 : (a0 != 43) = false := bne_eq_false_iff_eq.mpr c5
      clear c5
      (first | rw [c5b0] | (simp only [i64_w, i32_w]; rw [c5b0]) | skip)
      replace H := Option.bind_eq_some_iff.mp H
      obtain ⟨t115, A60, H⟩ := H
      replace H : (if t115 = true then ((quireref05_In.f a2).bind fun t116 => (quireref05_Arith.j0 k a0 a1 a2 (!t116))) else (quireref05_Arith.j0 k a0 a1 a2 true)) = some (r1, r2) := H
      have A6 := Aside0.mk A60
      clear A60
      by_cases c7 : t115 = true
      · subst c7
        have H1 : ((quireref05_In.f a2).bind fun t116 => (quireref05_Arith.j0 k a0 a1 a2 (!t116))) = some (r1, r2) := by rw [if_pos rfl] at H; exact H
        clear H
        have H := H1
        clear H1
        replace H := Option.bind_eq_some_iff.mp H
        obtain ⟨t116, A80, H⟩ := H
        replace H : (quireref05_Arith.j0 k a0 a1 a2 (!t116)) = some (r1, r2) := H
        have A8 := Aside0.mk A80
        clear A80
        have H' := Aside0.mk H
        clear H
        go_wp2_with (first | (go_at_call 21; (with_reducible refine (quireref05_In.calls a1 true _ A6.out).mono ?_); rintro e w' ⟨rfl, ⟨nd, rfl⟩⟩) | (go_at_call 21; (with_reducible refine (quireref05_In.calls a2 t116 _ A8.out).mono ?_); rintro e w' ⟨rfl, ⟨nd, rfl⟩⟩))
        go_meet
        case rel => exact ⟨_, (!t116), (by first | rfl | (simp; done) | (simp [*]; done)), H', ⟨by first | omega | exact Nat.le_refl _⟩, by repeat (first | exact Drawn0.refl _ | apply Drawn0.step)⟩
      · replace c7 := Bool.eq_false_iff.mpr c7
        subst c7
        have H1 : (quireref05_Arith.j0 k a0 a1 a2 true) = some (r1, r2) := by rw [if_neg (show ¬ (false = true) by decide)] at H; exact H
        clear H
        have H := H1
        clear H1
        have H' := Aside0.mk H
        clear H
        go_wp2_with (first | (go_at_call 21; (with_reducible refine (quireref05_In.calls a1 false _ A6.out).mono ?_); rintro e w' ⟨rfl, ⟨nd, rfl⟩⟩))
        go_meet
        case rel => exact ⟨_, (true), (by first | rfl | (simp; done) | (simp [*]; done)), H', ⟨by first | omega | exact Nat.le_refl _⟩, by repeat (first | exact Drawn0.refl _ | apply Drawn0.step)⟩
    · rw [if_neg c5] at H
      have c5b0 : (a0 == 43) = false := beq_eq_false_iff_ne.mpr c5
      have c5b1 : (a0 != 43) = true := bne_iff_ne.mpr c5
      (first | rw [c5b0] | (simp only [i64_w, i32_w]; rw [c5b0]) | skip)
      by_cases c9 : a0 = 45
      · rw [if_pos c9] at H
        have c9b0 : (a0 == 45) = true := beq_iff_eq.mpr c9
        have c9b1 : (a0 != 45) = false := bne_eq_false_iff_eq.mpr c9
        clear c9
        replace H := Option.bind_eq_some_iff.mp H
        obtain ⟨t117, A100, H⟩ := H
        replace H : (if t117 = true then ((quireref05_In.f a2).bind fun t118 => (quireref05_Arith.j0 k a0 a1 a2 (!t118))) else (quireref05_Arith.j0 k a0 a1 a2 true)) = some (r1, r2) := H
        have A10 := Aside0.mk A100
        clear A100
        by_cases c11 : t117 = true
        · subst c11
          have H1 : ((quireref05_In.f a2).bind fun t118 => (quireref05_Arith.j0 k a0 a1 a2 (!t118))) = some (r1, r2) := by rw [if_pos rfl] at H; exact H
          clear H
          have H := H1
          clear H1
          replace H := Option.bind_eq_some_iff.mp H
          obtain ⟨t118, A120, H⟩ := H
          replace H : (quireref05_Arith.j0 k a0 a1 a2 (!t118)) = some (r1, r2) := H
          have A12 := Aside0.mk A120
          clear A120
          have H' := Aside0.mk H
          clear H
          go_wp2_with (first | (go_at_call 21; (with_reducible refine (quireref05_In.calls a1 true _ A10.out).mono ?_); rintro e w' ⟨rfl, ⟨nd, rfl⟩⟩) | (go_at_call 21; (with_reducible refine (quireref05_In.calls a2 t118 _ A12.out).mono ?_); rintro e w' ⟨rfl, ⟨nd, rfl⟩⟩))
          go_meet
          case rel => exact ⟨_, (!t118), (by first | rfl | (simp; done) | (simp [*]; done)), H', ⟨by first | omega | exact Nat.le_refl _⟩, by repeat (first | exact Drawn0.refl _ | apply Drawn0.step)⟩
        · replace c11 := Bool.eq_false_iff.mpr c11
          subst c11
          have H1 : (quireref05_Arith.j0 k a0 a1 a2 true) = some (r1, r2) := by rw [if_neg (show ¬ (false = true) by decide)] at H; exact H
          clear H
          have H := H1
          clear H1
          have H' := Aside0.mk H
          clear H
          go_wp2_with (first | (go_at_call 21; (with_reducible refine (quireref05_In.calls a1 false _ A10.out).mono ?_); rintro e w' ⟨rfl, ⟨nd, rfl⟩⟩))
          go_meet
          case rel => exact ⟨_, (true), (by first | rfl | (simp; done) | (simp [*]; done)), H', ⟨by first | omega | exact Nat.le_refl _⟩, by repeat (first | exact Drawn0.refl _ | apply Drawn0.step)⟩
      · rw [if_neg c9] at H
        have c9b0 : (a0 == 45) = false := beq_eq_false_iff_ne.mpr c9
        have c9b1 : (a0 != 45) = true := bne_iff_ne.mpr c9
        by_cases c13 : a0 = 42
        · rw [if_pos c13] at H
          have c13b0 : (a0 == 42) = true := beq_iff_eq.mpr c13
          have c13b1 : (a0 != 42) = false := bne_eq_false_iff_eq.mpr c13
          clear c13
          replace H := Option.bind_eq_some_iff.mp H
          obtain ⟨t119, A140, H⟩ := H
          replace H : (if t119 = true then ((quireref05_In.f a2).bind fun t120 => (quireref05_Arith.j0 k a0 a1 a2 (!t120))) else (quireref05_Arith.j0 k a0 a1 a2 true)) = some (r1, r2) := H
          have A14 := Aside0.mk A140
          clear A140
          by_cases c15 : t119 = true
          · subst c15
            have H1 : ((quireref05_In.f a2).bind fun t120 => (quireref05_Arith.j0 k a0 a1 a2 (!t120))) = some (r1, r2) := by rw [if_pos rfl] at H; exact H
            clear H
            have H := H1
            clear H1
            replace H := Option.bind_eq_some_iff.mp H
            obtain ⟨t120, A160, H⟩ := H
            replace H : (quireref05_Arith.j0 k a0 a1 a2 (!t120)) = some (r1, r2) := H
            have A16 := Aside0.mk A160
            clear A160
            have H' := Aside0.mk H
            clear H
            go_wp2_with (first | (go_at_call 21; (with_reducible refine (quireref05_In.calls a1 true _ A14.out).mono ?_); rintro e w' ⟨rfl, ⟨nd, rfl⟩⟩) | (go_at_call 21; (with_reducible refine (quireref05_In.calls a2 t120 _ A16.out).mono ?_); rintro e w' ⟨rfl, ⟨nd, rfl⟩⟩))
            go_meet
            case rel => exact ⟨_, (!t120), (by first | rfl | (simp; done) | (simp [*]; done)), H', ⟨by first | omega | exact Nat.le_refl _⟩, by repeat (first | exact Drawn0.refl _ | apply Drawn0.step)⟩
          · replace c15 := Bool.eq_false_iff.mpr c15
            subst c15
            have H1 : (quireref05_Arith.j0 k a0 a1 a2 true) = some (r1, r2) := by rw [if_neg (show ¬ (false = true) by decide)] at H; exact H
            clear H
            have H := H1
            clear H1
            have H' := Aside0.mk H
            clear H
            go_wp2_with (first | (go_at_call 21; (with_reducible refine (quireref05_In.calls a1 false _ A14.out).mono ?_); rintro e w' ⟨rfl, ⟨nd, rfl⟩⟩))
            go_meet
            case rel => exact ⟨_, (true), (by first | rfl | (simp; done) | (simp [*]; done)), H', ⟨by first | omega | exact Nat.le_refl _⟩, by repeat (first | exact Drawn0.refl _ | apply Drawn0.step)⟩
        · rw [if_neg c13] at H
          have c13b0 : (a0 == 42) = false := beq_eq_false_iff_ne.mpr c13
          have c13b1 : (a0 != 42) = true := bne_iff_ne.mpr c13
          by_cases c17 : a0 = 47
          · rw [if_pos c17] at H
            have c17b0 : (a0 == 47) = true := beq_iff_eq.mpr c17
            have c17b1 : (a0 != 47) = false := bne_eq_false_iff_eq.mpr c17
            clear c17
            replace H := Option.bind_eq_some_iff.mp H
            obtain ⟨t121, A180, H⟩ := H
            replace H : (if t121 = true then ((quireref05_In.f a2).bind fun t122 => (quireref05_Arith.j0 k a0 a1 a2 (!t122))) else (quireref05_Arith.j0 k a0 a1 a2 true)) = some (r1, r2) := H
            have A18 := Aside0.mk A180
            clear A180
            by_cases c19 : t121 = true
            · subst c19
              have H1 : ((quireref05_In.f a2).bind fun t122 => (quireref05_Arith.j0 k a0 a1 a2 (!t122))) = some (r1, r2) := by rw [if_pos rfl] at H; exact H
              clear H
              have H := H1
              clear H1
              replace H := Option.bind_eq_some_iff.mp H
              obtain ⟨t122, A200, H⟩ := H
              replace H : (quireref05_Arith.j0 k a0 a1 a2 (!t122)) = some (r1, r2) := H
              have A20 := Aside0.mk A200
              clear A200
              have H' := Aside0.mk H
              clear H
              go_wp2_with (first | (go_at_call 21; (with_reducible refine (quireref05_In.calls a1 true _ A18.out).mono ?_); rintro e w' ⟨rfl, ⟨nd, rfl⟩⟩) | (go_at_call 21; (with_reducible refine (quireref05_In.calls a2 t122 _ A20.out).mono ?_); rintro e w' ⟨rfl, ⟨nd, rfl⟩⟩))
              go_meet
              case rel => exact ⟨_, (!t122), (by first | rfl | (simp; done) | (simp [*]; done)), H', ⟨by first | omega | exact Nat.le_refl _⟩, by repeat (first | exact Drawn0.refl _ | apply Drawn0.step)⟩
            · replace c19 := Bool.eq_false_iff.mpr c19
              subst c19
              have H1 : (quireref05_Arith.j0 k a0 a1 a2 true) = some (r1, r2) := by rw [if_neg (show ¬ (false = true) by decide)] at H; exact H
              clear H
              have H := H1
              clear H1
              have H' := Aside0.mk H
              clear H
              go_wp2_with (first | (go_at_call 21; (with_reducible refine (quireref05_In.calls a1 false _ A18.out).mono ?_); rintro e w' ⟨rfl, ⟨nd, rfl⟩⟩))
              go_meet
              case rel => exact ⟨_, (true), (by first | rfl | (simp; done) | (simp [*]; done)), H', ⟨by first | omega | exact Nat.le_refl _⟩, by repeat (first | exact Drawn0.refl _ | apply Drawn0.step)⟩
          · rw [if_neg c17] at H
            have c17b0 : (a0 == 47) = false := beq_eq_false_iff_ne.mpr c17
            have c17b1 : (a0 != 47) = true := bne_iff_ne.mpr c17
            by_cases c21 : a0 = 37
            · rw [if_pos c21] at H
              have c21b0 : (a0 == 37) = true := beq_iff_eq.mpr c21
              have c21b1 : (a0 != 37) = false := bne_eq_false_iff_eq.mpr c21
              clear c21
              replace H := Option.bind_eq_some_iff.mp H
              obtain ⟨t123, A220, H⟩ := H
              replace H : (if t123 = true then ((quireref05_In.f a2).bind fun t124 => (quireref05_Arith.j0 k a0 a1 a2 (!t124))) else (quireref05_Arith.j0 k a0 a1 a2 true)) = some (r1, r2) := H
              have A22 := Aside0.mk A220
              clear A220
              by_cases c23 : t123 = true
              · subst c23
                have H1 : ((quireref05_In.f a2).bind fun t124 => (quireref05_Arith.j0 k a0 a1 a2 (!t124))) = some (r1, r2) := by rw [if_pos rfl] at H; exact H
                clear H
                have H := H1
                clear H1
                replace H := Option.bind_eq_some_iff.mp H
                obtain ⟨t124, A240, H⟩ := H
                replace H : (quireref05_Arith.j0 k a0 a1 a2 (!t124)) = some (r1, r2) := H
                have A24 := Aside0.mk A240
                clear A240
                have H' := Aside0.mk H
                clear H
                go_wp2_with (first | (go_at_call 21; (with_reducible refine (quireref05_In.calls a1 true _ A22.out).mono ?_); rintro e w' ⟨rfl, ⟨nd, rfl⟩⟩) | (go_at_call 21; (with_reducible refine (quireref05_In.calls a2 t124 _ A24.out).mono ?_); rintro e w' ⟨rfl, ⟨nd, rfl⟩⟩))
                go_meet
                case rel => exact ⟨_, (!t124), (by first | rfl | (simp; done) | (simp [*]; done)), H', ⟨by first | omega | exact Nat.le_refl _⟩, by repeat (first | exact Drawn0.refl _ | apply Drawn0.step)⟩
              · replace c23 := Bool.eq_false_iff.mpr c23
                subst c23
                have H1 : (quireref05_Arith.j0 k a0 a1 a2 true) = some (r1, r2) := by rw [if_neg (show ¬ (false = true) by decide)] at H; exact H
                clear H
                have H := H1
                clear H1
                have H' := Aside0.mk H
                clear H
                go_wp2_with (first | (go_at_call 21; (with_reducible refine (quireref05_In.calls a1 false _ A22.out).mono ?_); rintro e w' ⟨rfl, ⟨nd, rfl⟩⟩))
                go_meet
                case rel => exact ⟨_, (true), (by first | rfl | (simp; done) | (simp [*]; done)), H', ⟨by first | omega | exact Nat.le_refl _⟩, by repeat (first | exact Drawn0.refl _ | apply Drawn0.step)⟩
            · rw [if_neg c21] at H
              have c21b0 : (a0 == 37) = false := beq_eq_false_iff_ne.mpr c21
              have c21b1 : (a0 != 37) = true := bne_iff_ne.mpr c21
              have H' := Aside0.mk H
              clear H
              go_wp2
              go_meet
              case rel => exact ⟨_, (true), (by first | rfl | (simp; done) | (simp [*]; done)), H', ⟨by first | omega | exact Nat.le_refl _⟩, by repeat (first | exact Drawn0.refl _ | apply Drawn0.step)⟩
  case rest =>
    clear HC4
    try clear c1
    try clear c2
    try clear p2
    try clear c5
    try clear c5b0
    try clear c5b1
    try clear c7
    try clear c9
    try clear c9b0
    try clear c9b1
    try clear c11
    try clear c13
    try clear c13b0
    try clear c13b1
    try clear c15
    try clear c17
    try clear c17b0
    try clear c17b1
    try clear c19
    try clear c21
    try clear c21b0
    try clear c21b1
    try clear c23
    obtain ⟨kq, x41_3, rfl, HA, HJ3, ⟨mc3, rfl⟩⟩ := hcut
    cases kq with
    | zero => exact absurd HA.out (by simp [quireref05_Arith.j0])
    | succ kj3 =>
      have H := HA.out
      clear HA
      simp only [quireref05_Arith.j0] at H
      by_cases c25 : x41_3 = true
      · subst c25
        have H1 : (some (0, 2)) = some (r1, r2) := by rw [if_pos rfl] at H; exact H
        clear H
        have H := H1
        clear H1
        simp only [Option.some.injEq, Prod.mk.injEq] at H
        obtain ⟨rfl, rfl⟩ := H
        go_wp2
        go_ret2
        exact ⟨by first | rfl | (simp; done) | (simp [*]; done), by repeat (first | exact Drawn0.refl _ | apply Drawn0.step)⟩
      · replace c25 := Bool.eq_false_iff.mpr c25
        subst c25
        have H1 : (if a0 = 47 then (quireref05_Arith.j1 kj3 a0 a1 a2 (a2 == 0)) else (if a0 = 37 then (quireref05_Arith.j1 kj3 a0 a1 a2 (a2 == 0)) else (quireref05_Arith.j1 kj3 a0 a1 a2 false))) = some (r1, r2) := by rw [if_neg (show ¬ (false = true) by decide)] at H; exact H
        clear H
        have H := H1
        clear H1
        have HC26 := Aside0.mk H
        clear H
        go_upto_region 3 with (fail)
        go_cut [51] (fun v51 wc => ∃ (kq : Nat) (x51_25 : Bool), v51 = .bool x51_25 ∧ Aside0 (quireref05_Arith.j1 kq a0 a1 a2 x51_25 = some (r1, r2)) ∧ Aside0 (kq ≤ kj3) ∧ Drawn0 w wc)
        case first =>
          have H := HC26.out
          clear HC26
          by_cases c27 : a0 = 47
          · rw [if_pos c27] at H
            have c27b0 : (a0 == 47) = true := beq_iff_eq.mpr c27
            have c27b1 : (a0 != 47) = false := bne_eq_false_iff_eq.mpr c27
            clear c27
            (first | rw [c27b0] | (simp only [i64_w, i32_w]; rw [c27b0]) | skip)
            have H' := Aside0.mk H
            clear H
            go_wp2
            go_meet
            case rel => exact ⟨_, ((a2 == 0)), (by first | rfl | (simp; done) | (simp [*]; done)), H', ⟨by have := HJ3.out; first | omega | exact Nat.le_refl _⟩, by repeat (first | exact Drawn0.refl _ | apply Drawn0.step)⟩
          · rw [if_neg c27] at H
            have c27b0 : (a0 == 47) = false := beq_eq_false_iff_ne.mpr c27
            have c27b1 : (a0 != 47) = true := bne_iff_ne.mpr c27
            (first | rw [c27b0] | (simp only [i64_w, i32_w]; rw [c27b0]) | skip)
            by_cases c28 : a0 = 37
            · rw [if_pos c28] at H
              have c28b0 : (a0 == 37) = true := beq_iff_eq.mpr c28
              have c28b1 : (a0 != 37) = false := bne_eq_false_iff_eq.mpr c28
              clear c28
              have H' := Aside0.mk H
              clear H
              go_wp2
              go_meet
              case rel => exact ⟨_, ((a2 == 0)), (by first | rfl | (simp; done) | (simp [*]; done)), H', ⟨by have := HJ3.out; first | omega | exact Nat.le_refl _⟩, by repeat (first | exact Drawn0.refl _ | apply Drawn0.step)⟩
            · rw [if_neg c28] at H
              have c28b0 : (a0 == 37) = false := beq_eq_false_iff_ne.mpr c28
              have c28b1 : (a0 != 37) = true := bne_iff_ne.mpr c28
              have H' := Aside0.mk H
              clear H
              go_wp2
              go_meet
              case rel => exact ⟨_, (false), (by first | rfl | (simp; done) | (simp [*]; done)), H', ⟨by have := HJ3.out; first | omega | exact Nat.le_refl _⟩, by repeat (first | exact Drawn0.refl _ | apply Drawn0.step)⟩
        case rest =>
          clear HC26
          try clear c1
          try clear c2
          try clear p2
          try clear c3
          try clear c5
          try clear c5b0
          try clear c5b1
          try clear c7
          try clear c9
          try clear c9b0
          try clear c9b1
          try clear c11
          try clear c13
          try clear c13b0
          try clear c13b1
          try clear c15
          try clear c17
          try clear c17b0
          try clear c17b1
          try clear c19
          try clear c21
          try clear c21b0
          try clear c21b1
          try clear c23
          try clear c25
          try clear c27
          try clear c27b0
          try clear c27b1
          try clear c28
          try clear c28b0
          try clear c28b1
          try clear p2
          obtain ⟨kq, x51_25, rfl, HA, HJ25, ⟨mc25, rfl⟩⟩ := hcut
          cases kq with
          | zero => exact absurd HA.out (by simp [quireref05_Arith.j1])
          | succ kj25 =>
            have H := HA.out
            clear HA
            simp only [quireref05_Arith.j1] at H
            by_cases c29 : x51_25 = true
            · subst c29
              have H1 : (some (0, 19)) = some (r1, r2) := by rw [if_pos rfl] at H; exact H
              clear H
              have H := H1
              clear H1
              simp only [Option.some.injEq, Prod.mk.injEq] at H
              obtain ⟨rfl, rfl⟩ := H
              go_wp2
              go_ret2
              exact ⟨by first | rfl | (simp; done) | (simp [*]; done), by repeat (first | exact Drawn0.refl _ | apply Drawn0.step)⟩
            · replace c29 := Bool.eq_false_iff.mpr c29
              subst c29
              have H1 : (if a0 = 43 then (quireref05_Arith.j2 kj25 a0 a1 a2 ((decide (a1 < 0)) != (decide (a2 < 0))) a0 (a0 == 43)) else (quireref05_Arith.j2 kj25 a0 a1 a2 ((decide (a1 < 0)) != (decide (a2 < 0))) a0 (a0 == 45))) = some (r1, r2) := by rw [if_neg (show ¬ (false = true) by decide)] at H; exact H
              clear H
              have H := H1
              clear H1
              have HC30 := Aside0.mk H
              clear H
              go_upto_if 58 with (fail)
              go_cut [58] (fun v58 wc => ∃ (kq : Nat) (x58_29 : Bool), v58 = .bool x58_29 ∧ Aside0 (quireref05_Arith.j2 kq a0 a1 a2 ((decide (a1 < 0)) != (decide (a2 < 0))) a0 x58_29 = some (r1, r2)) ∧ Aside0 (kq ≤ kj25) ∧ Drawn0 w wc)
              case first =>
                have H := HC30.out
                clear HC30
                by_cases c31 : a0 = 43
                · rw [if_pos c31] at H
                  have c31b0 : (a0 == 43) = true := beq_iff_eq.mpr c31
                  have c31b1 : (a0 != 43) = false := bne_eq_false_iff_eq.mpr c31
                  clear c31
                  (first | rw [c31b0] | (simp only [i64_w, i32_w]; rw [c31b0]) | skip)
                  have H' := Aside0.mk H
                  clear H
                  go_wp2
                  go_meet
                  case rel => exact ⟨_, ((a0 == 43)), (by first | rfl | (simp; done) | (simp [*]; done)), H', ⟨by have := HJ3.out; have := HJ25.out; first | omega | exact Nat.le_refl _⟩, by repeat (first | exact Drawn0.refl _ | apply Drawn0.step)⟩
                · rw [if_neg c31] at H
                  have c31b0 : (a0 == 43) = false := beq_eq_false_iff_ne.mpr c31
                  have c31b1 : (a0 != 43) = true := bne_iff_ne.mpr c31
                  (first | rw [c31b0] | (simp only [i64_w, i32_w]; rw [c31b0]) | skip)
                  have H' := Aside0.mk H
                  clear H
                  go_wp2
                  go_meet
                  case rel => exact ⟨_, ((a0 == 45)), (by first | rfl | (simp; done) | (simp [*]; done)), H', ⟨by have := HJ3.out; have := HJ25.out; first | omega | exact Nat.le_refl _⟩, by repeat (first | exact Drawn0.refl _ | apply Drawn0.step)⟩
              case rest =>
                clear HC30
                try clear c1
                try clear c2
                try clear p2
                try clear c3
                try clear c5
                try clear c5b0
                try clear c5b1
                try clear c7
                try clear c9
                try clear c9b0
                try clear c9b1
                try clear c11
                try clear c13
                try clear c13b0
                try clear c13b1
                try clear c15
                try clear c17
                try clear c17b0
                try clear c17b1
                try clear c19
                try clear c21
                try clear c21b0
                try clear c21b1
                try clear c23
                try clear c25
                try clear c27
                try clear c27b0
                try clear c27b1
                try clear c28
                try clear c28b0
                try clear c28b1
                try clear c29
                try clear c31
                try clear c31b0
                try clear c31b1
                try clear p2
                obtain ⟨kq, x58_29, rfl, HA, HJ29, ⟨mc29, rfl⟩⟩ := hcut
                cases kq with
                | zero => exact absurd HA.out (by simp [quireref05_Arith.j2])
                | succ kj29 =>
                  have H := HA.out
                  clear HA
                  simp only [quireref05_Arith.j2] at H
                  by_cases c32 : x58_29 = true
                  · subst c32
                    have H1 : (if a0 = 45 then ((quireref05_In.f (wrap64 (a1 - a2))).bind fun t125 => (if t125 = true then (some (wrap64 (a1 - a2), 0)) else (some (0, 18)))) else ((quireref05_In.f (wrap64 (a1 + a2))).bind fun t126 => (if t126 = true then (some (wrap64 (a1 + a2), 0)) else (some (0, 18))))) = some (r1, r2) := by rw [if_pos rfl] at H; exact H
                    clear H
                    have H := H1
                    clear H1
                    by_cases c33 : a0 = 45
                    · rw [if_pos c33] at H
                      have c33b0 : (a0 == 45) = true := beq_iff_eq.mpr c33
                      have c33b1 : (a0 != 45) = false := bne_eq_false_iff_eq.mpr c33
                      clear c33
                      replace H := Option.bind_eq_some_iff.mp H
                      obtain ⟨t125, A340, H⟩ := H
                      replace H : (if t125 = true then (some (wrap64 (a1 - a2), 0)) else (some (0, 18))) = some (r1, r2) := H
                      have A34 := Aside0.mk A340
                      clear A340
                      by_cases c35 : t125 = true
                      · subst c35
                        have H1 : (some (wrap64 (a1 - a2), 0)) = some (r1, r2) := by rw [if_pos rfl] at H; exact H
                        clear H
                        have H := H1
                        clear H1
                        simp only [Option.some.injEq, Prod.mk.injEq] at H
                        obtain ⟨rfl, rfl⟩ := H
                        go_wp2_with (first | ((with_reducible refine gate_callee (f := 21) rfl ?_); refine goesL_ (some 70) rfl rfl Try.func21 (by kernel_rfl) rfl #[.int .i64 (wrap64 (a1 - a2))] rfl (by (try simp only [List.map_toArray, List.map_cons, List.map_nil]); first | done | rfl | (simp only [List.length_drop, List.length_take]; rfl)) ?_; (with_reducible refine (quireref05_In.calls (wrap64 (a1 - a2)) true _ A34.out).mono ?_); rintro e w' ⟨rfl, ⟨nd, rfl⟩⟩; refine ⟨_, rfl, ?_⟩))
                        go_ret2
                        exact ⟨by first | rfl | (simp; done) | (simp [*]; done), by repeat (first | exact Drawn0.refl _ | apply Drawn0.step)⟩
                      · replace c35 := Bool.eq_false_iff.mpr c35
                        subst c35
                        have H1 : (some (0, 18)) = some (r1, r2) := by rw [if_neg (show ¬ (false = true) by decide)] at H; exact H
                        clear H
                        have H := H1
                        clear H1
                        simp only [Option.some.injEq, Prod.mk.injEq] at H
                        obtain ⟨rfl, rfl⟩ := H
                        go_wp2_with (first | ((with_reducible refine gate_callee (f := 21) rfl ?_); refine goesL_ (some 70) rfl rfl Try.func21 (by kernel_rfl) rfl #[.int .i64 (wrap64 (a1 - a2))] rfl (by (try simp only [List.map_toArray, List.map_cons, List.map_nil]); first | done | rfl | (simp only [List.length_drop, List.length_take]; rfl)) ?_; (with_reducible refine (quireref05_In.calls (wrap64 (a1 - a2)) false _ A34.out).mono ?_); rintro e w' ⟨rfl, ⟨nd, rfl⟩⟩; refine ⟨_, rfl, ?_⟩))
                        go_ret2
                        exact ⟨by first | rfl | (simp; done) | (simp [*]; done), by repeat (first | exact Drawn0.refl _ | apply Drawn0.step)⟩
                    · rw [if_neg c33] at H
                      have c33b0 : (a0 == 45) = false := beq_eq_false_iff_ne.mpr c33
                      have c33b1 : (a0 != 45) = true := bne_iff_ne.mpr c33
                      replace H := Option.bind_eq_some_iff.mp H
                      obtain ⟨t126, A360, H⟩ := H
                      replace H : (if t126 = true then (some (wrap64 (a1 + a2), 0)) else (some (0, 18))) = some (r1, r2) := H
                      have A36 := Aside0.mk A360
                      clear A360
                      by_cases c37 : t126 = true
                      · subst c37
                        have H1 : (some (wrap64 (a1 + a2), 0)) = some (r1, r2) := by rw [if_pos rfl] at H; exact H
                        clear H
                        have H := H1
                        clear H1
                        simp only [Option.some.injEq, Prod.mk.injEq] at H
                        obtain ⟨rfl, rfl⟩ := H
                        go_wp2_with (first | ((with_reducible refine gate_callee (f := 21) rfl ?_); refine goesL_ (some 70) rfl rfl Try.func21 (by kernel_rfl) rfl #[.int .i64 (wrap64 (a1 + a2))] rfl (by (try simp only [List.map_toArray, List.map_cons, List.map_nil]); first | done | rfl | (simp only [List.length_drop, List.length_take]; rfl)) ?_; (with_reducible refine (quireref05_In.calls (wrap64 (a1 + a2)) true _ A36.out).mono ?_); rintro e w' ⟨rfl, ⟨nd, rfl⟩⟩; refine ⟨_, rfl, ?_⟩))
                        go_ret2
                        exact ⟨by first | rfl | (simp; done) | (simp [*]; done), by repeat (first | exact Drawn0.refl _ | apply Drawn0.step)⟩
                      · replace c37 := Bool.eq_false_iff.mpr c37
                        subst c37
                        have H1 : (some (0, 18)) = some (r1, r2) := by rw [if_neg (show ¬ (false = true) by decide)] at H; exact H
                        clear H
                        have H := H1
                        clear H1
                        simp only [Option.some.injEq, Prod.mk.injEq] at H
                        obtain ⟨rfl, rfl⟩ := H
                        go_wp2_with (first | ((with_reducible refine gate_callee (f := 21) rfl ?_); refine goesL_ (some 70) rfl rfl Try.func21 (by kernel_rfl) rfl #[.int .i64 (wrap64 (a1 + a2))] rfl (by (try simp only [List.map_toArray, List.map_cons, List.map_nil]); first | done | rfl | (simp only [List.length_drop, List.length_take]; rfl)) ?_; (with_reducible refine (quireref05_In.calls (wrap64 (a1 + a2)) false _ A36.out).mono ?_); rintro e w' ⟨rfl, ⟨nd, rfl⟩⟩; refine ⟨_, rfl, ?_⟩))
                        go_ret2
                        exact ⟨by first | rfl | (simp; done) | (simp [*]; done), by repeat (first | exact Drawn0.refl _ | apply Drawn0.step)⟩
                  · replace c32 := Bool.eq_false_iff.mpr c32
                    subst c32
                    have H1 : (if a0 = 47 then ((quireref05_size.f a1).bind fun t127 => ((quireref05_size.f a2).bind fun t128 => (if t128 = 0 then (none) else (if ((decide (a1 < 0)) != (decide (a2 < 0))) = true then ((quireref05_signed.f kj29 (IntKind.u64.wrap (Int.tdiv t127 t128)) (decide ((IntKind.u64.wrap (Int.tdiv t127 t128)) > 0))).bind fun bt129 => (some (bt129.1, bt129.2))) else ((quireref05_signed.f kj29 (IntKind.u64.wrap (Int.tdiv t127 t128)) false).bind fun bt131 => (some (bt131.1, bt131.2))))))) else (if a0 = 37 then ((quireref05_size.f a1).bind fun t133 => ((quireref05_size.f a2).bind fun t134 => (if t134 = 0 then (none) else ((quireref05_signed.f kj29 (Int.tmod t133 t134) (decide (a1 < 0))).bind fun bt135 => (some (bt135.1, bt135.2)))))) else ((quireref05_size.f a1).bind fun t137 => ((quireref05_size.f a2).bind fun t138 => (if t137 = 0 then (quireref05_Arith.j3 kj29 ((decide (a1 < 0)) != (decide (a2 < 0))) t137 t138 true) else (quireref05_Arith.j3 kj29 ((decide (a1 < 0)) != (decide (a2 < 0))) t137 t138 (t138 == 0))))))) = some (r1, r2) := by rw [if_neg (show ¬ (false = true) by decide)] at H; exact H
                    clear H
                    have H := H1
                    clear H1
                    by_cases c38 : a0 = 47
                    · rw [if_pos c38] at H
                      have c38b0 : (a0 == 47) = true := beq_iff_eq.mpr c38
                      have c38b1 : (a0 != 47) = false := bne_eq_false_iff_eq.mpr c38
                      clear c38
                      replace H := Option.bind_eq_some_iff.mp H
                      obtain ⟨t127, A390, H⟩ := H
                      replace H : ((quireref05_size.f a2).bind fun t128 => (if t128 = 0 then (none) else (if ((decide (a1 < 0)) != (decide (a2 < 0))) = true then ((quireref05_signed.f kj29 (IntKind.u64.wrap (Int.tdiv t127 t128)) (decide ((IntKind.u64.wrap (Int.tdiv t127 t128)) > 0))).bind fun bt129 => (some (bt129.1, bt129.2))) else ((quireref05_signed.f kj29 (IntKind.u64.wrap (Int.tdiv t127 t128)) false).bind fun bt131 => (some (bt131.1, bt131.2)))))) = some (r1, r2) := H
                      have A39 := Aside0.mk A390
                      clear A390
                      replace H := Option.bind_eq_some_iff.mp H
                      obtain ⟨t128, A400, H⟩ := H
                      replace H : (if t128 = 0 then (none) else (if ((decide (a1 < 0)) != (decide (a2 < 0))) = true then ((quireref05_signed.f kj29 (IntKind.u64.wrap (Int.tdiv t127 t128)) (decide ((IntKind.u64.wrap (Int.tdiv t127 t128)) > 0))).bind fun bt129 => (some (bt129.1, bt129.2))) else ((quireref05_signed.f kj29 (IntKind.u64.wrap (Int.tdiv t127 t128)) false).bind fun bt131 => (some (bt131.1, bt131.2))))) = some (r1, r2) := H
                      have A40 := Aside0.mk A400
                      clear A400
                      by_cases c41 : t128 = 0
                      · rw [if_pos c41] at H
                        exact absurd H (by simp)
                      · rw [if_neg c41] at H
                        have c41b0 : (t128 == 0) = false := beq_eq_false_iff_ne.mpr c41
                        have c41b1 : (t128 != 0) = true := bne_iff_ne.mpr c41
                        by_cases c42 : ((decide (a1 < 0)) != (decide (a2 < 0))) = true
                        · rw [if_pos c42] at H
                          have c42b0 : ((decide (a1 < 0)) != (decide (a2 < 0))) = true := c42
                          (try (have c42b1 : decide ((decide (a1 < 0)) = (decide (a2 < 0))) = false := by simpa using c42))
                          (try (have c42b2 : ((decide (a1 < 0)) == (decide (a2 < 0))) = false := by simpa using c42))
                          (try (have c42b3 : ¬ ((decide (a1 < 0)) = (decide (a2 < 0))) := by simpa using c42))
                          clear c42
                          replace H := Option.bind_eq_some_iff.mp H
                          obtain ⟨⟨t129, t130⟩, A430, H⟩ := H
                          replace H : (some (t129, t130)) = some (r1, r2) := H
                          have A43 := Aside0.mk A430
                          clear A430
                          simp only [Option.some.injEq, Prod.mk.injEq] at H
                          obtain ⟨rfl, rfl⟩ := H
                          go_wp2_with (first | ((with_reducible refine gate_callee (f := 26) rfl ?_); refine goesL_ (some 76) rfl rfl Try.func26 (by kernel_rfl) rfl #[.int .i64 a1] rfl (by (try simp only [List.map_toArray, List.map_cons, List.map_nil]); first | done | rfl | (simp only [List.length_drop, List.length_take]; rfl)) ?_; (with_reducible refine (quireref05_size.calls a1 t127 _ A39.out).mono ?_); rintro e w' ⟨rfl, ⟨nd, rfl⟩⟩; refine ⟨_, rfl, ?_⟩) | ((with_reducible refine gate_callee (f := 26) rfl ?_); refine goesL_ (some 78) rfl rfl Try.func26 (by kernel_rfl) rfl #[.int .i64 a2] rfl (by (try simp only [List.map_toArray, List.map_cons, List.map_nil]); first | done | rfl | (simp only [List.length_drop, List.length_take]; rfl)) ?_; (with_reducible refine (quireref05_size.calls a2 t128 _ A40.out).mono ?_); rintro e w' ⟨rfl, ⟨nd, rfl⟩⟩; refine ⟨_, rfl, ?_⟩) | ((with_reducible refine gate_callee (f := 27) rfl ?_); refine goesL_ (some 86) rfl rfl Try.func27 (by kernel_rfl) rfl #[.int .u64 (IntKind.u64.wrap (Int.tdiv t127 t128)), .bool (decide ((IntKind.u64.wrap (Int.tdiv t127 t128)) > 0))] rfl (by (try simp only [List.map_toArray, List.map_cons, List.map_nil]); first | done | rfl | (simp only [List.length_drop, List.length_take]; rfl)) ?_; (with_reducible refine (quireref05_signed.calls kj29 (IntKind.u64.wrap (Int.tdiv t127 t128)) (decide ((IntKind.u64.wrap (Int.tdiv t127 t128)) > 0)) t129 t130 _ A43.out).mono ?_); rintro e w' ⟨rfl, ⟨nd, rfl⟩⟩; refine ⟨_, rfl, ?_⟩))
                          go_ret2
                          exact ⟨by first | rfl | (simp; done) | (simp [*]; done), by repeat (first | exact Drawn0.refl _ | apply Drawn0.step)⟩
                        · rw [if_neg c42] at H
                          have c42b0 : ((decide (a1 < 0)) != (decide (a2 < 0))) = false := by simpa using c42
                          (try (have c42b1 : decide ((decide (a1 < 0)) = (decide (a2 < 0))) = true := by simpa using c42))
                          (try (have c42b2 : ((decide (a1 < 0)) == (decide (a2 < 0))) = true := by simpa using c42))
                          clear c42
                          replace H := Option.bind_eq_some_iff.mp H
                          obtain ⟨⟨t131, t132⟩, A440, H⟩ := H
                          replace H : (some (t131, t132)) = some (r1, r2) := H
                          have A44 := Aside0.mk A440
                          clear A440
                          simp only [Option.some.injEq, Prod.mk.injEq] at H
                          obtain ⟨rfl, rfl⟩ := H
                          go_wp2_with (first | ((with_reducible refine gate_callee (f := 26) rfl ?_); refine goesL_ (some 76) rfl rfl Try.func26 (by kernel_rfl) rfl #[.int .i64 a1] rfl (by (try simp only [List.map_toArray, List.map_cons, List.map_nil]); first | done | rfl | (simp only [List.length_drop, List.length_take]; rfl)) ?_; (with_reducible refine (quireref05_size.calls a1 t127 _ A39.out).mono ?_); rintro e w' ⟨rfl, ⟨nd, rfl⟩⟩; refine ⟨_, rfl, ?_⟩) | ((with_reducible refine gate_callee (f := 26) rfl ?_); refine goesL_ (some 78) rfl rfl Try.func26 (by kernel_rfl) rfl #[.int .i64 a2] rfl (by (try simp only [List.map_toArray, List.map_cons, List.map_nil]); first | done | rfl | (simp only [List.length_drop, List.length_take]; rfl)) ?_; (with_reducible refine (quireref05_size.calls a2 t128 _ A40.out).mono ?_); rintro e w' ⟨rfl, ⟨nd, rfl⟩⟩; refine ⟨_, rfl, ?_⟩) | ((with_reducible refine gate_callee (f := 27) rfl ?_); refine goesL_ (some 86) rfl rfl Try.func27 (by kernel_rfl) rfl #[.int .u64 (IntKind.u64.wrap (Int.tdiv t127 t128)), .bool false] rfl (by (try simp only [List.map_toArray, List.map_cons, List.map_nil]); first | done | rfl | (simp only [List.length_drop, List.length_take]; rfl)) ?_; (with_reducible refine (quireref05_signed.calls kj29 (IntKind.u64.wrap (Int.tdiv t127 t128)) false t131 t132 _ A44.out).mono ?_); rintro e w' ⟨rfl, ⟨nd, rfl⟩⟩; refine ⟨_, rfl, ?_⟩))
                          go_ret2
                          exact ⟨by first | rfl | (simp; done) | (simp [*]; done), by repeat (first | exact Drawn0.refl _ | apply Drawn0.step)⟩
                    · rw [if_neg c38] at H
                      have c38b0 : (a0 == 47) = false := beq_eq_false_iff_ne.mpr c38
                      have c38b1 : (a0 != 47) = true := bne_iff_ne.mpr c38
                      by_cases c45 : a0 = 37
                      · rw [if_pos c45] at H
                        have c45b0 : (a0 == 37) = true := beq_iff_eq.mpr c45
                        have c45b1 : (a0 != 37) = false := bne_eq_false_iff_eq.mpr c45
                        clear c45
                        replace H := Option.bind_eq_some_iff.mp H
                        obtain ⟨t133, A460, H⟩ := H
                        replace H : ((quireref05_size.f a2).bind fun t134 => (if t134 = 0 then (none) else ((quireref05_signed.f kj29 (Int.tmod t133 t134) (decide (a1 < 0))).bind fun bt135 => (some (bt135.1, bt135.2))))) = some (r1, r2) := H
                        have A46 := Aside0.mk A460
                        clear A460
                        replace H := Option.bind_eq_some_iff.mp H
                        obtain ⟨t134, A470, H⟩ := H
                        replace H : (if t134 = 0 then (none) else ((quireref05_signed.f kj29 (Int.tmod t133 t134) (decide (a1 < 0))).bind fun bt135 => (some (bt135.1, bt135.2)))) = some (r1, r2) := H
                        have A47 := Aside0.mk A470
                        clear A470
                        by_cases c48 : t134 = 0
                        · rw [if_pos c48] at H
                          exact absurd H (by simp)
                        · rw [if_neg c48] at H
                          have c48b0 : (t134 == 0) = false := beq_eq_false_iff_ne.mpr c48
                          have c48b1 : (t134 != 0) = true := bne_iff_ne.mpr c48
                          replace H := Option.bind_eq_some_iff.mp H
                          obtain ⟨⟨t135, t136⟩, A490, H⟩ := H
                          replace H : (some (t135, t136)) = some (r1, r2) := H
                          have A49 := Aside0.mk A490
                          clear A490
                          simp only [Option.some.injEq, Prod.mk.injEq] at H
                          obtain ⟨rfl, rfl⟩ := H
                          go_wp2_with (first | ((with_reducible refine gate_callee (f := 26) rfl ?_); refine goesL_ (some 92) rfl rfl Try.func26 (by kernel_rfl) rfl #[.int .i64 a1] rfl (by (try simp only [List.map_toArray, List.map_cons, List.map_nil]); first | done | rfl | (simp only [List.length_drop, List.length_take]; rfl)) ?_; (with_reducible refine (quireref05_size.calls a1 t133 _ A46.out).mono ?_); rintro e w' ⟨rfl, ⟨nd, rfl⟩⟩; refine ⟨_, rfl, ?_⟩) | ((with_reducible refine gate_callee (f := 26) rfl ?_); refine goesL_ (some 94) rfl rfl Try.func26 (by kernel_rfl) rfl #[.int .i64 a2] rfl (by (try simp only [List.map_toArray, List.map_cons, List.map_nil]); first | done | rfl | (simp only [List.length_drop, List.length_take]; rfl)) ?_; (with_reducible refine (quireref05_size.calls a2 t134 _ A47.out).mono ?_); rintro e w' ⟨rfl, ⟨nd, rfl⟩⟩; refine ⟨_, rfl, ?_⟩) | ((with_reducible refine gate_callee (f := 27) rfl ?_); refine goesL_ (some 99) rfl rfl Try.func27 (by kernel_rfl) rfl #[.int .u64 (Int.tmod t133 t134), .bool (decide (a1 < 0))] rfl (by (try simp only [List.map_toArray, List.map_cons, List.map_nil]); first | done | rfl | (simp only [List.length_drop, List.length_take]; rfl)) ?_; (with_reducible refine (quireref05_signed.calls kj29 (Int.tmod t133 t134) (decide (a1 < 0)) t135 t136 _ A49.out).mono ?_); rintro e w' ⟨rfl, ⟨nd, rfl⟩⟩; refine ⟨_, rfl, ?_⟩))
                          go_ret2
                          exact ⟨by first | rfl | (simp; done) | (simp [*]; done), by repeat (first | exact Drawn0.refl _ | apply Drawn0.step)⟩
                      · rw [if_neg c45] at H
                        have c45b0 : (a0 == 37) = false := beq_eq_false_iff_ne.mpr c45
                        have c45b1 : (a0 != 37) = true := bne_iff_ne.mpr c45
                        replace H := Option.bind_eq_some_iff.mp H
                        obtain ⟨t137, A500, H⟩ := H
                        replace H : ((quireref05_size.f a2).bind fun t138 => (if t137 = 0 then (quireref05_Arith.j3 kj29 ((decide (a1 < 0)) != (decide (a2 < 0))) t137 t138 true) else (quireref05_Arith.j3 kj29 ((decide (a1 < 0)) != (decide (a2 < 0))) t137 t138 (t138 == 0)))) = some (r1, r2) := H
                        have A50 := Aside0.mk A500
                        clear A500
                        replace H := Option.bind_eq_some_iff.mp H
                        obtain ⟨t138, A510, H⟩ := H
                        replace H : (if t137 = 0 then (quireref05_Arith.j3 kj29 ((decide (a1 < 0)) != (decide (a2 < 0))) t137 t138 true) else (quireref05_Arith.j3 kj29 ((decide (a1 < 0)) != (decide (a2 < 0))) t137 t138 (t138 == 0))) = some (r1, r2) := H
                        have A51 := Aside0.mk A510
                        clear A510
                        have HC52 := Aside0.mk H
                        clear H
                        go_upto_region 23 with (first | ((with_reducible refine gate_callee (f := 26) rfl ?_); refine goesL_ (some 103) rfl rfl Try.func26 (by kernel_rfl) rfl #[.int .i64 a1] rfl (by (try simp only [List.map_toArray, List.map_cons, List.map_nil]); first | done | rfl | (simp only [List.length_drop, List.length_take]; rfl)) ?_; (with_reducible refine (quireref05_size.calls a1 t137 _ A50.out).mono ?_); rintro e w' ⟨rfl, ⟨nd, rfl⟩⟩; refine ⟨_, rfl, ?_⟩) | ((with_reducible refine gate_callee (f := 26) rfl ?_); refine goesL_ (some 105) rfl rfl Try.func26 (by kernel_rfl) rfl #[.int .i64 a2] rfl (by (try simp only [List.map_toArray, List.map_cons, List.map_nil]); first | done | rfl | (simp only [List.length_drop, List.length_take]; rfl)) ?_; (with_reducible refine (quireref05_size.calls a2 t138 _ A51.out).mono ?_); rintro e w' ⟨rfl, ⟨nd, rfl⟩⟩; refine ⟨_, rfl, ?_⟩))
                        (try simp only [Act.put, List.setIfInBounds_toArray, List.set_cons_zero, List.set_cons_succ])
                        go_cut [111] (fun v111 wc => ∃ (kq : Nat) (x111_51 : Bool), v111 = .bool x111_51 ∧ Aside0 (quireref05_Arith.j3 kq ((decide (a1 < 0)) != (decide (a2 < 0))) t137 t138 x111_51 = some (r1, r2)) ∧ Aside0 (kq ≤ kj29) ∧ Drawn0 w wc)
                        case first =>
                          have H := HC52.out
                          clear HC52
                          by_cases c53 : t137 = 0
                          · rw [if_pos c53] at H
                            have c53b0 : (t137 == 0) = true := beq_iff_eq.mpr c53
                            have c53b1 : (t137 != 0) = false := bne_eq_false_iff_eq.mpr c53
                            clear c53
                            (first | rw [c53b0] | (simp only [i64_w, i32_w]; rw [c53b0]) | skip)
                            have H' := Aside0.mk H
                            clear H
                            go_wp2
                            go_meet
                            case rel => exact ⟨_, (true), (by first | rfl | (simp; done) | (simp [*]; done)), H', ⟨by have := HJ3.out; have := HJ25.out; have := HJ29.out; first | omega | exact Nat.le_refl _⟩, by repeat (first | exact Drawn0.refl _ | apply Drawn0.step)⟩
                          · rw [if_neg c53] at H
                            have c53b0 : (t137 == 0) = false := beq_eq_false_iff_ne.mpr c53
                            have c53b1 : (t137 != 0) = true := bne_iff_ne.mpr c53
                            (first | rw [c53b0] | (simp only [i64_w, i32_w]; rw [c53b0]) | skip)
                            have H' := Aside0.mk H
                            clear H
                            go_wp2
                            go_meet
                            case rel => exact ⟨_, ((t138 == 0)), (by first | rfl | (simp; done) | (simp [*]; done)), H', ⟨by have := HJ3.out; have := HJ25.out; have := HJ29.out; first | omega | exact Nat.le_refl _⟩, by repeat (first | exact Drawn0.refl _ | apply Drawn0.step)⟩
                        case rest =>
                          clear HC52
                          try clear c1
                          try clear c2
                          try clear p2
                          try clear c3
                          try clear c4
                          try clear c5
                          try clear c5b0
                          try clear c5b1
                          try clear p6
                          try clear c7
                          try clear c9
                          try clear c9b0
                          try clear c9b1
                          try clear c11
                          try clear c13
                          try clear c13b0
                          try clear c13b1
                          try clear c15
                          try clear c17
                          try clear c17b0
                          try clear c17b1
                          try clear c19
                          try clear c21
                          try clear c21b0
                          try clear c21b1
                          try clear c23
                          try clear c25
                          try clear c26
                          try clear c27
                          try clear c27b0
                          try clear c27b1
                          try clear c28
                          try clear c28b0
                          try clear c28b1
                          try clear c29
                          try clear c31
                          try clear c31b0
                          try clear c31b1
                          try clear c32
                          try clear c33
                          try clear c33b0
                          try clear c33b1
                          try clear c35
                          try clear c37
                          try clear c38
                          try clear c38b0
                          try clear c38b1
                          try clear c41
                          try clear c41b0
                          try clear c41b1
                          try clear c42
                          try clear c42b0
                          try clear c42b1
                          try clear c42b2
                          try clear c45
                          try clear c45b0
                          try clear c45b1
                          try clear c48
                          try clear c48b0
                          try clear c48b1
                          try clear c53
                          try clear c53b0
                          try clear c53b1
                          try clear p2
                          obtain ⟨kq, x111_51, rfl, HA, HJ51, ⟨mc51, rfl⟩⟩ := hcut
                          cases kq with
                          | zero => exact absurd HA.out (by simp [quireref05_Arith.j3])
                          | succ kj51 =>
                            have H := HA.out
                            clear HA
                            simp only [quireref05_Arith.j3] at H
                            by_cases c54 : x111_51 = true
                            · subst c54
                              have H1 : (some (0, 0)) = some (r1, r2) := by rw [if_pos rfl] at H; exact H
                              clear H
                              have H := H1
                              clear H1
                              simp only [Option.some.injEq, Prod.mk.injEq] at H
                              obtain ⟨rfl, rfl⟩ := H
                              go_wp2
                              go_ret2
                              exact ⟨by first | rfl | (simp; done) | (simp [*]; done), by repeat (first | exact Drawn0.refl _ | apply Drawn0.step)⟩
                            · replace c54 := Bool.eq_false_iff.mpr c54
                              subst c54
                              have H1 : (if t137 = 0 then (none) else (if t138 > (IntKind.u64.wrap (Int.tdiv (1152921504606846976 : Int) t137)) then (some (0, 18)) else ((quireref05_signed.f kj51 (IntKind.u64.wrap (t137 * t138)) ((decide (a1 < 0)) != (decide (a2 < 0)))).bind fun bt139 => (some (bt139.1, bt139.2))))) = some (r1, r2) := by rw [if_neg (show ¬ (false = true) by decide)] at H; exact H
                              clear H
                              have H := H1
                              clear H1
                              by_cases c55 : t137 = 0
                              · rw [if_pos c55] at H
                                exact absurd H (by simp)
                              · rw [if_neg c55] at H
                                have c55b0 : (t137 == 0) = false := beq_eq_false_iff_ne.mpr c55
                                have c55b1 : (t137 != 0) = true := bne_iff_ne.mpr c55
                                by_cases c56 : t138 > (IntKind.u64.wrap (Int.tdiv (1152921504606846976 : Int) t137))
                                · rw [if_pos c56] at H
                                  have c56b0 : decide ((IntKind.u64.wrap (Int.tdiv (1152921504606846976 : Int) t137)) < t138) = true := decide_eq_true c56
                                  clear c56
                                  simp only [Option.some.injEq, Prod.mk.injEq] at H
                                  obtain ⟨rfl, rfl⟩ := H
                                  go_wp2
                                  go_ret2
                                  exact ⟨by first | rfl | (simp; done) | (simp [*]; done), by repeat (first | exact Drawn0.refl _ | apply Drawn0.step)⟩
                                · rw [if_neg c56] at H
                                  have c56b0 : decide ((IntKind.u64.wrap (Int.tdiv (1152921504606846976 : Int) t137)) < t138) = false := decide_eq_false c56
                                  clear c56
                                  replace H := Option.bind_eq_some_iff.mp H
                                  obtain ⟨⟨t139, t140⟩, A570, H⟩ := H
                                  replace H : (some (t139, t140)) = some (r1, r2) := H
                                  have A57 := Aside0.mk A570
                                  clear A570
                                  simp only [Option.some.injEq, Prod.mk.injEq] at H
                                  obtain ⟨rfl, rfl⟩ := H
                                  go_wp2_with (first | ((with_reducible refine gate_callee (f := 27) rfl ?_); refine goesL_ (some 120) rfl rfl Try.func27 (by kernel_rfl) rfl #[.int .u64 (IntKind.u64.wrap (t137 * t138)), .bool ((decide (a1 < 0)) != (decide (a2 < 0)))] rfl (by (try simp only [List.map_toArray, List.map_cons, List.map_nil]); first | done | rfl | (simp only [List.length_drop, List.length_take]; rfl)) ?_; (with_reducible refine (quireref05_signed.calls kj51 (IntKind.u64.wrap (t137 * t138)) ((decide (a1 < 0)) != (decide (a2 < 0))) t139 t140 _ A57.out).mono ?_); rintro e w' ⟨rfl, ⟨nd, rfl⟩⟩; refine ⟨_, rfl, ?_⟩))
                                  go_ret2
                                  exact ⟨by first | rfl | (simp; done) | (simp [*]; done), by repeat (first | exact Drawn0.refl _ | apply Drawn0.step)⟩

end Go.Proofs.Yteecbgfbhppoiaa.PCellArith
