/- Seat D: the reference's Then: it answers what the program's answers. -/
import Derived.Test.YtkdamjbbepfeoaaDoorEff5
namespace Go.Proofs.YtkdamjbbepfeoaaDoor
open Go.RowKit
set_option linter.unusedVariables false
set_option linter.unusedSimpArgs false
set_option maxRecDepth 100000
def inB (x : Int) : Bool := decide (0 ≤ x) && decide (x ≤ 16)
theorem inB_iff (x : Int) : inB x = true ↔ 0 ≤ x ∧ x ≤ 16 := by unfold inB; simp
theorem inB_not (x : Int) : inB x = false ↔ ¬ (0 ≤ x ∧ x ≤ 16) := by rw [← inB_iff]; simp
theorem in_b (i : Int) (b : Bool) (h : inB i = b) (w : World) : Calls Tryd.prog 14 #[.int .i64 i] w fun e w' => e = .returned (.bool b) ∧ w' = w := by subst h; exact in_c i w
def ThP (a b c d : Int) (w : World) (e : Ending) (w' : World) : Prop := e = .returned (.tuple #[eff (thenE a b c d).1 (thenE a b c d).2.1, .int .i64 (thenE a b c d).2.2]) ∧ Below w.heap.size w w'
theorem then_arg {a b c d : Int} (h : inB a = false ∨ inB b = false ∨ inB c = false ∨ inB d = false) : thenE a b c d = (0, 0, 2) := by
  unfold thenE
  rw [if_neg]
  rw [Bool.and_eq_true, okE_iff, okE_iff]
  simp only [inB_not] at h
  omega
theorem then_in {a b c d : Int} (h1 : inB a = true) (h2 : inB b = true) (h3 : inB c = true) (h4 : inB d = true) :
    thenE a b c d = if a + max 0 (c - b) ≤ 16 ∧ d + max 0 (b - c) ≤ 16 then (a + max 0 (c - b), d + max 0 (b - c), 0) else (0, 0, 11) := by
  rw [inB_iff] at h1 h2 h3 h4
  unfold thenE
  rw [if_pos (by rw [Bool.and_eq_true, okE_iff, okE_iff]; omega)]
  by_cases h : a + max 0 (c - b) ≤ 16 ∧ d + max 0 (b - c) ≤ 16
  · rw [if_pos h, if_pos (by rw [okE_iff]; omega)]
  · rw [if_neg h, if_neg (by rw [okE_iff]; omega)]
set_option maxHeartbeats 8000000 in
theorem refThen_0 (a b c d : Int) (w : World)  (h0 : inB a = false) : Calls Tryd.prog 9 #[eff a b, eff c d] w (ThP a b c d w) := by
  unfold eff
  have HT := Lib.hid (then_arg (.inl h0 : inB a = false ∨ inB b = false ∨ inB c = false ∨ inB d = false))
  have c0 := Lib.hid (in_b a _ h0)
  clear h0
  go_enter Tryd.func9, Tryd.ntmps9
  go_wp2_with fail
  (go_at_call 14; refine (c0.out _).mono ?_; rintro e0 w' ⟨rfl, rfl⟩)
  go_wp2
  refine bodyPost_ret (v := .tuple #[eff 0 0, .int .i64 2]) ?_ rfl ⟨by rw [HT.out], ?_⟩
  · rw [results_cell_tmp rfl]; go_simp; rfl
  · (repeat (first | exact Below.refl _ _ | refine Below.setCell (p := ⟨_, _, _⟩) ?_ (by simp <;> omega) _ | refine Below.alloc ?_ (by simp <;> omega) _))
set_option maxHeartbeats 8000000 in
theorem refThen_1 (a b c d : Int) (w : World) (h0 : inB a = true) (h1 : inB b = false) : Calls Tryd.prog 9 #[eff a b, eff c d] w (ThP a b c d w) := by
  unfold eff
  have HT := Lib.hid (then_arg (.inr (.inl h1) : inB a = false ∨ inB b = false ∨ inB c = false ∨ inB d = false))
  have c0 := Lib.hid (in_b a _ h0)
  have c1 := Lib.hid (in_b b _ h1)
  clear h0 h1
  go_enter Tryd.func9, Tryd.ntmps9
  go_wp2_with fail
  (go_at_call 14; refine (c0.out _).mono ?_; rintro e0 w' ⟨rfl, rfl⟩)
  go_wp2_with fail
  (go_at_call 14; refine (c1.out _).mono ?_; rintro e1 w' ⟨rfl, rfl⟩)
  go_wp2
  refine bodyPost_ret (v := .tuple #[eff 0 0, .int .i64 2]) ?_ rfl ⟨by rw [HT.out], ?_⟩
  · rw [results_cell_tmp rfl]; go_simp; rfl
  · (repeat (first | exact Below.refl _ _ | refine Below.setCell (p := ⟨_, _, _⟩) ?_ (by simp <;> omega) _ | refine Below.alloc ?_ (by simp <;> omega) _))
set_option maxHeartbeats 8000000 in
theorem refThen_2 (a b c d : Int) (w : World) (h0 : inB a = true) (h1 : inB b = true) (h2 : inB c = false) : Calls Tryd.prog 9 #[eff a b, eff c d] w (ThP a b c d w) := by
  unfold eff
  have HT := Lib.hid (then_arg (.inr (.inr (.inl h2)) : inB a = false ∨ inB b = false ∨ inB c = false ∨ inB d = false))
  have c0 := Lib.hid (in_b a _ h0)
  have c1 := Lib.hid (in_b b _ h1)
  have c2 := Lib.hid (in_b c _ h2)
  clear h0 h1 h2
  go_enter Tryd.func9, Tryd.ntmps9
  go_wp2_with fail
  (go_at_call 14; refine (c0.out _).mono ?_; rintro e0 w' ⟨rfl, rfl⟩)
  go_wp2_with fail
  (go_at_call 14; refine (c1.out _).mono ?_; rintro e1 w' ⟨rfl, rfl⟩)
  go_wp2_with fail
  (go_at_call 14; refine (c2.out _).mono ?_; rintro e2 w' ⟨rfl, rfl⟩)
  go_wp2
  refine bodyPost_ret (v := .tuple #[eff 0 0, .int .i64 2]) ?_ rfl ⟨by rw [HT.out], ?_⟩
  · rw [results_cell_tmp rfl]; go_simp; rfl
  · (repeat (first | exact Below.refl _ _ | refine Below.setCell (p := ⟨_, _, _⟩) ?_ (by simp <;> omega) _ | refine Below.alloc ?_ (by simp <;> omega) _))
set_option maxHeartbeats 8000000 in
theorem refThen_3 (a b c d : Int) (w : World) (h0 : inB a = true) (h1 : inB b = true) (h2 : inB c = true) (h3 : inB d = false) : Calls Tryd.prog 9 #[eff a b, eff c d] w (ThP a b c d w) := by
  unfold eff
  have HT := Lib.hid (then_arg (.inr (.inr (.inr h3)) : inB a = false ∨ inB b = false ∨ inB c = false ∨ inB d = false))
  have c0 := Lib.hid (in_b a _ h0)
  have c1 := Lib.hid (in_b b _ h1)
  have c2 := Lib.hid (in_b c _ h2)
  have c3 := Lib.hid (in_b d _ h3)
  clear h0 h1 h2 h3
  go_enter Tryd.func9, Tryd.ntmps9
  go_wp2_with fail
  (go_at_call 14; refine (c0.out _).mono ?_; rintro e0 w' ⟨rfl, rfl⟩)
  go_wp2_with fail
  (go_at_call 14; refine (c1.out _).mono ?_; rintro e1 w' ⟨rfl, rfl⟩)
  go_wp2_with fail
  (go_at_call 14; refine (c2.out _).mono ?_; rintro e2 w' ⟨rfl, rfl⟩)
  go_wp2_with fail
  (go_at_call 14; refine (c3.out _).mono ?_; rintro e3 w' ⟨rfl, rfl⟩)
  go_wp2
  refine bodyPost_ret (v := .tuple #[eff 0 0, .int .i64 2]) ?_ rfl ⟨by rw [HT.out], ?_⟩
  · rw [results_cell_tmp rfl]; go_simp; rfl
  · (repeat (first | exact Below.refl _ _ | refine Below.setCell (p := ⟨_, _, _⟩) ?_ (by simp <;> omega) _ | refine Below.alloc ?_ (by simp <;> omega) _))
set_option maxHeartbeats 8000000 in
theorem refThen_4 (a b c d : Int) (w : World) (h0 : inB a = true) (h1 : inB b = true) (h2 : inB c = true) (h3 : inB d = true) (h4 : a + max 0 (c - b) ≤ 16) (h5 : d + max 0 (b - c) ≤ 16) : Calls Tryd.prog 9 #[eff a b, eff c d] w (ThP a b c d w) := by
  unfold eff
  have HT := Lib.hid ((then_in h0 h1 h2 h3).trans (if_pos ⟨h4, h5⟩))
  obtain ⟨ha0, ha1⟩ := (inB_iff a).1 h0
  obtain ⟨hb0, hb1⟩ := (inB_iff b).1 h1
  obtain ⟨hc0, hc1⟩ := (inB_iff c).1 h2
  obtain ⟨hd0, hd1⟩ := (inB_iff d).1 h3
  have c0 := Lib.hid (in_b a _ h0)
  have c1 := Lib.hid (in_b b _ h1)
  have c2 := Lib.hid (in_b c _ h2)
  have c3 := Lib.hid (in_b d _ h3)
  clear h0 h1 h2 h3
  go_enter Tryd.func9, Tryd.ntmps9
  go_wp2_with fail
  (go_at_call 14; refine (c0.out _).mono ?_; rintro e0 w' ⟨rfl, rfl⟩)
  go_wp2_with fail
  (go_at_call 14; refine (c1.out _).mono ?_; rintro e1 w' ⟨rfl, rfl⟩)
  go_wp2_with fail
  (go_at_call 14; refine (c2.out _).mono ?_; rintro e2 w' ⟨rfl, rfl⟩)
  go_wp2_with fail
  (go_at_call 14; refine (c3.out _).mono ?_; rintro e3 w' ⟨rfl, rfl⟩)
  go_wp2
  all_goals refine bodyPost_ret (v := .tuple #[eff (a + max 0 (c - b)) (d + max 0 (b - c)), .int .i64 0]) ?_ rfl ⟨by rw [HT.out], ?_⟩
  all_goals first
    | (rw [results_cell_tmp rfl]; go_simp; done)
    | (rw [results_cell_tmp rfl]; go_simp; rfl)
    | (repeat (first | exact Below.refl _ _ | refine Below.setCell (p := ⟨_, _, _⟩) ?_ (by simp <;> omega) _ | refine Below.alloc ?_ (by simp <;> omega) _))
set_option maxHeartbeats 8000000 in
theorem refThen_5 (a b c d : Int) (w : World) (h0 : inB a = true) (h1 : inB b = true) (h2 : inB c = true) (h3 : inB d = true) (h4 : ¬ (a + max 0 (c - b) ≤ 16 ∧ d + max 0 (b - c) ≤ 16)) : Calls Tryd.prog 9 #[eff a b, eff c d] w (ThP a b c d w) := by
  unfold eff
  have HT := Lib.hid ((then_in h0 h1 h2 h3).trans (if_neg h4))
  obtain ⟨ha0, ha1⟩ := (inB_iff a).1 h0
  obtain ⟨hb0, hb1⟩ := (inB_iff b).1 h1
  obtain ⟨hc0, hc1⟩ := (inB_iff c).1 h2
  obtain ⟨hd0, hd1⟩ := (inB_iff d).1 h3
  have c0 := Lib.hid (in_b a _ h0)
  have c1 := Lib.hid (in_b b _ h1)
  have c2 := Lib.hid (in_b c _ h2)
  have c3 := Lib.hid (in_b d _ h3)
  clear h0 h1 h2 h3
  have h4a : 16 < a + max 0 (c - b) ∨ 16 < d + max 0 (b - c) := by omega
  clear h4
  go_enter Tryd.func9, Tryd.ntmps9
  go_wp2_with fail
  (go_at_call 14; refine (c0.out _).mono ?_; rintro e0 w' ⟨rfl, rfl⟩)
  go_wp2_with fail
  (go_at_call 14; refine (c1.out _).mono ?_; rintro e1 w' ⟨rfl, rfl⟩)
  go_wp2_with fail
  (go_at_call 14; refine (c2.out _).mono ?_; rintro e2 w' ⟨rfl, rfl⟩)
  go_wp2_with fail
  (go_at_call 14; refine (c3.out _).mono ?_; rintro e3 w' ⟨rfl, rfl⟩)
  go_wp2
  all_goals refine bodyPost_ret (v := .tuple #[eff 0 0, .int .i64 11]) ?_ rfl ⟨by rw [HT.out], ?_⟩
  all_goals first
    | (rw [results_cell_tmp rfl]; go_simp; done)
    | (rw [results_cell_tmp rfl]; go_simp; rfl)
    | (repeat (first | exact Below.refl _ _ | refine Below.setCell (p := ⟨_, _, _⟩) ?_ (by simp <;> omega) _ | refine Below.alloc ?_ (by simp <;> omega) _))
theorem refThen_c (a b c d : Int) (w : World) : Calls Tryd.prog 9 #[eff a b, eff c d] w (ThP a b c d w) := by
  cases h0 : inB a with
  | false => exact refThen_0 a b c d w h0
  | true =>
    cases h1 : inB b with
    | false => exact refThen_1 a b c d w h0 h1
    | true =>
      cases h2 : inB c with
      | false => exact refThen_2 a b c d w h0 h1 h2
      | true =>
        cases h3 : inB d with
        | false => exact refThen_3 a b c d w h0 h1 h2 h3
        | true =>
          by_cases h4 : a + max 0 (c - b) ≤ 16 ∧ d + max 0 (b - c) ≤ 16
          · exact refThen_4 a b c d w h0 h1 h2 h3 h4.1 h4.2
          · exact refThen_5 a b c d w h0 h1 h2 h3 h4
end Go.Proofs.YtkdamjbbepfeoaaDoor
