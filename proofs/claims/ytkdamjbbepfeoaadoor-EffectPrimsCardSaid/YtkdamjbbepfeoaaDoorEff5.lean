/- Seat D: the reference's moves, Prim and Then: what they answer; and that it is what the program's answer. -/
import Derived.Test.YtkdamjbbepfeoaaDoorEff3
import Derived.Deep.Light
namespace Go.Proofs.YtkdamjbbepfeoaaDoor
open Go.RowKit
set_option linter.unusedVariables false
set_option linter.unusedSimpArgs false
set_option maxRecDepth 100000
/-- The primitives that move values. -/
def mvL (s : List UInt8) : Int × Nat × Bool :=
  if (s == [100, 117, 112]) = true then (1, 2, true) else if (s == [100, 114, 111, 112]) = true then (1, 0, true) else
  if (s == [115, 119, 97, 112]) = true then (2, 2, true) else if (s == [111, 118, 101, 114]) = true then (2, 3, true) else
  if (s == [114, 111, 116]) = true then (3, 3, true) else if (s == [110, 105, 112]) = true then (2, 1, true) else
  if (s == [116, 117, 99, 107]) = true then (2, 3, true) else (0, 0, false)
def Mv (s : ByteArray) (w : World) (e : Ending) (w' : World) : Prop := ∃ (A : Option Addr) (c : Nat), e = .returned (.tuple #[.int .i64 (mvL s.toList).1, .slice A (mvL s.toList).2.1 c, .bool (mvL s.toList).2.2]) ∧ Below w.heap.size w w'
set_option maxHeartbeats 4000000 in
theorem moves_c (s : ByteArray) (w : World) : Calls Tryd.prog 12 #[.string s] w (Mv s w) := by
  go_enter Tryd.func12, Tryd.ntmps12
  go_wp2
  all_goals (go_ret3; unfold Mv mvL; simp only [*]; refine ⟨_, _, rfl, ?_⟩; first | exact Below.refl _ _ | exact (Below.refl _ _).alloc (Nat.le_refl _) _)
/-- The others. -/
def restL (s : List UInt8) : Int × Int × Bool :=
  if ((s == [110, 101, 103]) || (s == [97, 98, 115]) || (s == [110, 111, 116]) || (s == [105, 110, 116, 63]) || (s == [115, 116, 114, 63]) || (s == [98, 111, 111, 108, 63]) || (s == [108, 105, 115, 116, 63]) || (s == [113, 117, 111, 116, 63]) || (s == [98, 111, 120, 63]) || (s == [108, 101, 110, 103, 116, 104]) || (s == [119, 114, 97, 112]) || (s == [114, 101, 118, 101, 114, 115, 101]) || (s == [62, 115, 116, 114]) || (s == [62, 105, 110, 116]) || (s == [98, 111, 120]) || (s == [103, 101, 116])) = true then (1, 1, true) else
  if ((s == [43]) || (s == [45]) || (s == [42]) || (s == [47]) || (s == [109, 111, 100]) || (s == [109, 105, 110]) || (s == [109, 97, 120]) || (s == [60]) || (s == [62]) || (s == [61]) || (s == [97, 110, 100]) || (s == [111, 114]) || (s == [97, 112, 112, 101, 110, 100]) || (s == [110, 116, 104]) || (s == [112, 97, 105, 114]) || (s == [99, 117, 114, 114, 121]) || (s == [99, 111, 109, 112, 111, 115, 101])) = true then (2, 1, true) else
  if (s == [115, 108, 105, 99, 101]) = true then (3, 1, true) else if (s == [117, 110, 112, 97, 105, 114]) = true then (1, 2, true) else if (s == [112, 117, 116]) = true then (2, 0, true) else
  if (s == [46]) = true then (1, 0, true) else (0, 0, false)
def refL (s : List UInt8) : Int × Int × Bool := if (mvL s).2.2 = true then ((mvL s).1, ((mvL s).2.1 : Int), true) else restL s
def Rf (s : ByteArray) (w : World) (e : Ending) (w' : World) : Prop := e = .returned (.tuple #[.int .i64 (refL s.toList).1, .int .i64 (refL s.toList).2.1, .bool (refL s.toList).2.2]) ∧ Below w.heap.size w w'
set_option maxHeartbeats 8000000 in
theorem refPrim_yes (s : ByteArray) (w : World) (i : Int) (n : Nat) (h : mvL s.toList = (i, n, true)) : Calls Tryd.prog 7 #[.string s] w (Rf s w) := by
  have hr : refL s.toList = (i, (n : Int), true) := by unfold refL; rw [h]; rfl
  have cM := moves_c s w
  have HR := Lib.hid hr
  have HC : Calls Tryd.prog 12 #[.string s] w fun e w' => ∃ (A : Option Addr) (c : Nat), e = .returned (.tuple #[.int .i64 i, .slice A n c, .bool true]) ∧ Below w.heap.size w w' := cM.mono fun e w' he => by
    unfold Mv at he; rw [h] at he; exact he
  have HC' := Lib.hid HC
  clear cM h hr HC
  go_enter Tryd.func7, Tryd.ntmps7
  go_wp2_with (go_at_call 12; refine HC'.out.mono ?_; rintro e w' ⟨A, c, rfl, hB⟩)
  go_ret3
  unfold Rf
  rw [HR.out]
  exact ⟨rfl, hB⟩
def namesR : List (List UInt8) := [[110, 101, 103], [97, 98, 115], [110, 111, 116], [105, 110, 116, 63], [115, 116, 114, 63], [98, 111, 111, 108, 63], [108, 105, 115, 116, 63], [113, 117, 111, 116, 63], [98, 111, 120, 63], [108, 101, 110, 103, 116, 104], [119, 114, 97, 112], [114, 101, 118, 101, 114, 115, 101], [62, 115, 116, 114], [62, 105, 110, 116], [98, 111, 120], [103, 101, 116], [43], [45], [42], [47], [109, 111, 100], [109, 105, 110], [109, 97, 120], [60], [62], [61], [97, 110, 100], [111, 114], [97, 112, 112, 101, 110, 100], [110, 116, 104], [112, 97, 105, 114], [99, 117, 114, 114, 121], [99, 111, 109, 112, 111, 115, 101], [115, 108, 105, 99, 101], [117, 110, 112, 97, 105, 114], [112, 117, 116], [46]]
theorem restL_none (s : List UInt8) (h : s ∉ namesR) : restL s = (0, 0, false) := by
  simp only [namesR, List.mem_cons, List.not_mem_nil, or_false, not_or] at h
  unfold restL
  simp [h]
def HM (s : ByteArray) (w : World) (i : Int) (n : Nat) : Prop := Calls Tryd.prog 12 #[.string s] w fun e w' => ∃ (A : Option Addr) (c : Nat), e = .returned (.tuple #[.int .i64 i, .slice A n c, .bool false]) ∧ Below w.heap.size w w'
theorem moves_no (s : ByteArray) (w : World) (i : Int) (n : Nat) (h : mvL s.toList = (i, n, false)) : HM s w i n := (moves_c s w).mono fun e w' he => by
  unfold Mv at he; rw [h] at he; exact he
set_option maxHeartbeats 16000000 in
theorem refPrim_some (s : ByteArray) (w : World) (i : Int) (n : Nat) (h : mvL s.toList = (i, n, false)) (hm : s.toList ∈ namesR) : Calls Tryd.prog 7 #[.string s] w (Rf s w) := by
  have hr : refL s.toList = restL s.toList := by unfold refL; rw [h]; rfl
  have cM := moves_no s w i n h
  have HR := Lib.hid hr
  clear h hr
  simp only [namesR, List.mem_cons, List.not_mem_nil, or_false] at hm
  rcases hm with h | h | h | h | h | h | h | h | h | h | h | h | h | h | h | h | h | h | h | h | h | h | h | h | h | h | h | h | h | h | h | h | h | h | h | h | h
  all_goals (
    have HV := Lib.hid (congrArg restL h)
    go_enter Tryd.func7, Tryd.ntmps7
    go_wp2_with (go_at_call 12; refine cM.mono ?_; rintro e w' ⟨A, c, rfl, hB⟩)
    go_ret3
    unfold Rf
    rw [HR.out, HV.out]
    exact ⟨rfl, hB⟩)
set_option maxHeartbeats 16000000 in
theorem refPrim_none (s : ByteArray) (w : World) (i : Int) (n : Nat) (h : mvL s.toList = (i, n, false)) (hm : s.toList ∉ namesR) : Calls Tryd.prog 7 #[.string s] w (Rf s w) := by
  have hr : refL s.toList = (0, 0, false) := by unfold refL; rw [h, restL_none _ hm]; rfl
  have cM := moves_no s w i n h
  have HR := Lib.hid hr
  clear h hr
  have hf : ∀ y ∈ namesR, (s.toList == y) = false := fun y hy => by
    rw [beq_eq_false_iff_ne]; rintro rfl; exact hm hy
  clear hm
  simp only [namesR, List.forall_mem_cons] at hf
  obtain ⟨h0, h1, h2, h3, h4, h5, h6, h7, h8, h9, h10, h11, h12, h13, h14, h15, h16, h17, h18, h19, h20, h21, h22, h23, h24, h25, h26, h27, h28, h29, h30, h31, h32, h33, h34, h35, h36, -⟩ := hf
  go_enter Tryd.func7, Tryd.ntmps7
  go_wp2_with (go_at_call 12; refine cM.mono ?_; rintro e w' ⟨A, c, rfl, hB⟩)
  go_ret3
  unfold Rf
  rw [HR.out]
  exact ⟨rfl, hB⟩
theorem refPrim_c (s : ByteArray) (w : World) : Calls Tryd.prog 7 #[.string s] w (Rf s w) := by
  rcases h : mvL s.toList with ⟨i, n, _ | _⟩
  · by_cases hm : s.toList ∈ namesR
    · exact refPrim_some s w i n h hm
    · exact refPrim_none s w i n h hm
  · exact refPrim_yes s w i n h
end Go.Proofs.YtkdamjbbepfeoaaDoor
