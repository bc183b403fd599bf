/- Seat D: EffectThen: what it answers. -/
import Derived.Test.YtkdamjbbepfeoaaDoorEff2
namespace Go.Proofs.YtkdamjbbepfeoaaDoor
open Go.RowKit
set_option linter.unusedVariables false
set_option maxRecDepth 100000
theorem prim_dup : prim ⟨#[100, 117, 112]⟩ = (1, 2, true) := by decide +kernel
set_option maxHeartbeats 4000000 in
theorem awake_c (w : World) (h : Shelf0 w) : Calls Tryd.prog 5 #[] w fun e w' => e = .returned (.bool true) ∧ Below w.heap.size w w' := by
  have cP := prim_c ⟨#[100, 117, 112]⟩ w h
  rw [prim_dup] at cP
  unfold eff at cP
  go_enter Tryd.func5, Tryd.ntmps5
  go_wp2_with (go_at_call 6; refine cP.mono ?_; rintro e w' ⟨rfl, hB⟩)
  go_ret
  exact ⟨rfl, hB.trans ((Below.refl _ _).alloc hB.size _)⟩
def Box (w : World) (g : Nat) (x y : Int) : Prop := w.heap[g]? = some (.cells #[.int .i64 x, .int .i64 y] 23)
theorem Box.facts {w : World} {g : Nat} {x y : Int} (h : Box w g x y) : w.cell? ⟨g, 0, none⟩ = some (.int .i64 x) ∧ w.cell? ⟨g, 1, none⟩ = some (.int .i64 y) ∧ g < w.heap.size := by
  have h' : w.heap[g]? = some (.cells #[.int .i64 x, .int .i64 y] 23) := h
  refine ⟨by simp [World.cell?, h'], by simp [World.cell?, h'], (Array.getElem?_eq_some_iff.1 h').1⟩
theorem Box.alloc {w : World} {g : Nat} {x y : Int} (h : Box w g x y) (o : Obj) : Box (w.alloc o) g x y := by
  have h' : w.heap[g]? = some (.cells #[.int .i64 x, .int .i64 y] 23) := h
  have := (Array.getElem?_eq_some_iff.1 h').1
  show (w.heap.push o)[g]? = _
  rw [Array.getElem?_push_lt this]
  rw [← h', Array.getElem?_eq_getElem this]
theorem Box.here (w : World) (x y : Int) : Box (w.alloc (.cells #[.int .i64 x, .int .i64 y] 23)) w.heap.size x y := by
  show (w.heap.push _)[w.heap.size]? = _
  simp
theorem Box.below {w w' : World} {g : Nat} {x y : Int} (h : Box w g x y) (b : Below w.heap.size w w') : Box w' g x y := (b.block g h.facts.2.2).trans h
theorem then_err (a b c d : Int) : (thenE a b c d).2.2 = 0 ∨ (thenE a b c d).2.2 = 2 ∨ (thenE a b c d).2.2 = 11 := by
  unfold thenE; split
  · split <;> simp
  · simp
theorem then_ok {a b c d p q : Int} (h : thenE a b c d = (p, q, 0)) : ((0 ≤ a ∧ 0 ≤ b ∧ a ≤ 16 ∧ b ≤ 16) ∧ (0 ≤ c ∧ 0 ≤ d ∧ c ≤ 16 ∧ d ≤ 16) ∧ (0 ≤ p ∧ 0 ≤ q ∧ p ≤ 16 ∧ q ≤ 16)) ∧ p = a + max 0 (c - b) ∧ q = d + max 0 (b - c) := by
  unfold thenE at h
  split at h
  · rename_i h1
    rw [Bool.and_eq_true, okE_iff, okE_iff] at h1
    split at h
    · rename_i h2
      rw [okE_iff] at h2
      simp only [Prod.mk.injEq] at h
      obtain ⟨rfl, rfl, -⟩ := h
      omega
    · simp at h
  · simp at h
theorem then_zero {a b : Int} (h : 0 ≤ a ∧ 0 ≤ b ∧ a ≤ 16 ∧ b ≤ 16) : thenE a b 0 0 = (a, b, 0) := by
  have h1 : okE a b = true := (okE_iff a b).2 (by omega)
  have h2 : okE 0 0 = true := (okE_iff 0 0).2 (by omega)
  have e1 : a + max 0 (0 - b) = a := by omega
  have e2 : 0 + max 0 (b - 0) = b := by omega
  unfold thenE
  rw [e1, e2, h1, h2]; rfl
theorem then_assoc {a b c d e f p q r s x y z v : Int} (h1 : thenE a b c d = (p, q, 0)) (h2 : thenE c d e f = (r, s, 0)) (h3 : thenE p q e f = (x, y, 0)) (h4 : thenE a b r s = (z, v, 0)) : x = z ∧ y = v := by
  have k1 := then_ok h1; have k2 := then_ok h2; have k3 := then_ok h3; have k4 := then_ok h4
  omega
#print axioms then_assoc
end Go.Proofs.YtkdamjbbepfeoaaDoor
