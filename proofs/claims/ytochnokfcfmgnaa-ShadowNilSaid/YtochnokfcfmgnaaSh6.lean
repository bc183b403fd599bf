/- Seat F: a nil store has no pages. -/
import Derived.RangeFuncNested
import Derived.RangeFuncBound
import Derived.RangeFuncCalls
import Derived.RangeFuncLeaves
import Derived.RangeFuncFrom
import Derived.Shelf.Abstract
import Derived.Shelf.RegionOpen
import Derived.WalkKit
import Derived.OwnWalkIn
import Derived.TacticsInMore
import Derived.LoopNIn
import Derived.LoopIn
import Derived.Test.YtochnokfcfmgnaaSh5
namespace Go.Proofs.Ytochnokfcfmgnaa.Sh
open Go.RowKit Go.Shelf Go.Proofs.Ytochnokfcfmgnaa.Mem
set_option linter.unusedVariables false
set_option linter.unusedSimpArgs false
attribute [local go_sem] Oper.semAt_some
set_option maxRecDepth 100000
set_option maxHeartbeats 2000000
theorem values1_nil_in (F : Fence) (n : Nat) (hf : F.fn 56) (hro : F.round = none) (l Bs : Nat) (J : List Int → World → Prop) (W : World) (hBs : W.cell? ⟨Bs, 0, none⟩ = some (.slice none 0 0)) (h0 : J [] W) :
    CallsIn F n Try.prog 56 #[.func (.yield l) #[] #[], .pointer (some ⟨Bs, 0, none⟩)] W fun e W' => (∃ v, e = .returned v) ∧ J [] W' := by
  refine callsIn_of_wp Try.func56 rfl hf ?_ hro
  simp only [Try.ntmps56, List.size_toArray, List.length_cons, List.length_nil, Nat.reduceAdd, Nat.reduceSub, Array.replicate_succ, Array.replicate_zero, List.push_toArray, List.append_toArray, List.nil_append, List.cons_append]
  gi_wp2
  gi_loopw [7] (fun i wr => i = .int .i64 0 ∧ J [] wr) (fun _ _ => 0)
  case atStart => exact ⟨rfl, h0⟩
  case round =>
    obtain ⟨rfl, hJs⟩ := hrel
    gi_wp2
    go_end0
    exact ⟨⟨_, rfl⟩, hJs⟩
theorem values_c (w : World) : Calls Try.prog 40 #[.slice none 0 0] w fun e w' => e = .returned (.func (.func 56) #[] #[.pointer (some ⟨w.heap.size, 0, none⟩)]) ∧ w' = w.alloc (.cells #[.slice none 0 0] 43) := by
  have hmf : ∀ (fn : Fn) (first cap : Array Value) (w : World), (Instr.makeFunc fn first cap).run Try.prog w = .ok (.func fn first cap) w := fun _ _ _ _ => rfl
  go_enter Try.func40, Try.ntmps40
  go_wp2
  go_ret
  exact ⟨rfl, rfl⟩
theorem pages_nil (w : World) : Calls Try.prog 18 #[.pointer none] w fun e w' => e = .returned (.func (.func 56) #[] #[.pointer (some ⟨w.heap.size, 0, none⟩)]) ∧ w' = w.alloc (.cells #[.slice none 0 0] 43) := by
  go_enter Try.func18, Try.ntmps18
  go_wp2_with (first
    | (go_at_call 40; refine (values_c _).mono ?_; rintro e wz ⟨rfl, hwz⟩; rw [hwz]; clear hwz)
    | fail)
  go_ret
  exact ⟨rfl, rfl⟩
theorem func_ne (x : Array Value) (w : World) : (binOp BinOp.eql 47 (.func (.func 56) #[] x) .nilFunc).run Try.prog w = .ok (.bool false) w := by kernel_rfl
theorem listed_in (w : World) : CallsIn Fence.wide 9 Try.prog 17 #[.pointer none] w fun e w' => e = .returned (.tuple #[.slice none 0 0, .bool true]) ∧ Below w.heap.size w w' := by
  have hfn := func_ne
  refine callsIn_of_wp_marks Try.func17 rfl trivial ?_ rfl
  simp only [Try.ntmps17, List.size_toArray, List.length_cons, List.length_nil, Nat.reduceAdd, Nat.reduceSub, Array.replicate_succ, Array.replicate_zero, List.push_toArray, List.append_toArray, List.nil_append, List.cons_append]
  gi_wp2_with (first
    | (refine ⟨trivial, ?_⟩; gi_at_call 18; refine (callsIn_wide.2 (pages_nil _)).mono ?_; rintro e wz ⟨rfl, hwz⟩; rw [hwz]; clear hwz)
    | fail)
  have B2 : Hid (Blk (((((w.alloc (.cells #[.slice none 0 0] 43)).alloc (.cells #[.bool false] 4)).alloc (.cells #[.slice none 0 0] 43)).alloc (.cells #[.slice none 0 0] 43))) w.heap.size 43 [.slice none 0 0]) := Lib.hid ((((Blk.new w 43 [.slice none 0 0]).alloc _).alloc _).alloc _)
  have B3 : Hid (Blk (((((w.alloc (.cells #[.slice none 0 0] 43)).alloc (.cells #[.bool false] 4)).alloc (.cells #[.slice none 0 0] 43)).alloc (.cells #[.slice none 0 0] 43))) (w.heap.size + 1) 4 [.bool false]) := Lib.hid (by have h := ((Blk.new (w.alloc (.cells #[.slice none 0 0] 43)) 4 [.bool false]).alloc (.cells #[.slice none 0 0] 43)).alloc (.cells #[.slice none 0 0] 43); simpa using h)
  have B4 : Hid (Blk (((((w.alloc (.cells #[.slice none 0 0] 43)).alloc (.cells #[.bool false] 4)).alloc (.cells #[.slice none 0 0] 43)).alloc (.cells #[.slice none 0 0] 43))) (w.heap.size + 1 + 1) 43 [.slice none 0 0]) := Lib.hid (by have h := (Blk.new ((w.alloc (.cells #[.slice none 0 0] 43)).alloc (.cells #[.bool false] 4)) 43 [.slice none 0 0]).alloc (.cells #[.slice none 0 0] 43); simpa using h)
  have B5 : Hid (Blk (((((w.alloc (.cells #[.slice none 0 0] 43)).alloc (.cells #[.bool false] 4)).alloc (.cells #[.slice none 0 0] 43)).alloc (.cells #[.slice none 0 0] 43))) (w.heap.size + 1 + 1 + 1) 43 [.slice none 0 0]) := Lib.hid (by have h := Blk.new (((w.alloc (.cells #[.slice none 0 0] 43)).alloc (.cells #[.bool false] 4)).alloc (.cells #[.slice none 0 0] 43)) 43 [.slice none 0 0]; simpa using h)
  have O1 : Hid (Below w.heap.size w (((((w.alloc (.cells #[.slice none 0 0] 43)).alloc (.cells #[.bool false] 4)).alloc (.cells #[.slice none 0 0] 43)).alloc (.cells #[.slice none 0 0] 43)))) := Lib.hid ((((((Only.refl w (fun _ => False)).alloc _).alloc _).alloc _).alloc _).below_all)
  have Z1 : Hid ((((((w.alloc (.cells #[.slice none 0 0] 43)).alloc (.cells #[.bool false] 4)).alloc (.cells #[.slice none 0 0] 43)).alloc (.cells #[.slice none 0 0] 43))).heap.size = w.heap.size + 4) := Lib.hid (by simp)
  clear hfn
  generalize ((((w.alloc (.cells #[.slice none 0 0] 43)).alloc (.cells #[.bool false] 4)).alloc (.cells #[.slice none 0 0] 43)).alloc (.cells #[.slice none 0 0] 43)) = w1 at *
  refine wpIn_rangeFunc_ownF (α := Int) rfl (by omega) (gf := 56) (lb := #[.pointer (some ⟨w.heap.size + 1 + 1, 0, none⟩)]) rfl trivial (enters_of Try.func56 (by kernel_rfl) rfl)
    (encs := fun x : Int => #[.int .i64 x]) (Kp := Below w1.heap.size) (S := fun xs => xs = []) (Sp := fun _ => False) (N := 0) (w0 := w1)
    (fun l J Jx W hW hJ hJx hY h0 => (values1_nil_in Fence.wide _ trivial rfl l _ J W ((B4.out.below hW B4.out.lt).cell_at 0 _ rfl) h0).mono fun e W' ⟨he, hj⟩ => ⟨he, .inl ⟨[], rfl, hj⟩⟩)
    belowK_t (belowK_b (Nat.le_refl _)) (Below.refl _ _) (fun _ => rfl)
    (fun pre W => Below w1.heap.size w1 W) (fun _ _ _ => False) (ownFrom_below (Nat.le_refl _) (Nat.le_refl _)) (fun _ _ _ _ _ hs _ _ => hs) (Below.refl _ _)
    (fun x => { tmps := #[.pointer none, undef, .pointer (some ⟨w.heap.size, 0, none⟩), .pointer (some ⟨w.heap.size + 1, 0, none⟩), .func (.func 56) #[] #[.pointer (some ⟨w.heap.size + 1 + 1, 0, none⟩)], .pointer (some ⟨w.heap.size + 1 + 1 + 1, 0, none⟩), .int .i64 x, .pointer none, .func (.func 56) #[] #[.pointer (some ⟨w.heap.size + 1 + 1, 0, none⟩)], .func (.func 56) #[] #[.pointer (some ⟨w.heap.size + 1 + 1, 0, none⟩)], .bool false, .func (.func 56) #[] #[.pointer (some ⟨w.heap.size + 1 + 1, 0, none⟩)], .int .i64 x, undef, undef, undef, undef, undef, undef, undef, undef], defers := [] }) ?assign ?body ?done ?stop
  case assign =>
    intro l x W K hK
    gi_wp2
    exact hK
  case body =>
    intro l pre x W _ h
    exact absurd h (by omega)
  case stop =>
    rintro D c pre W _ h _
    exact h.elim
  case done =>
    rintro D xs W hD rfl hB hK
    have b2 := B2.out.below hB B2.out.lt
    have b3 := B3.out.below hB B3.out.lt
    have b5 := B5.out.below hB B5.out.lt
    have c5 := b5.cell_at 0 _ rfl
    have c2 := b2.cell_at 0 _ rfl
    have c3 := b3.cell_at 0 _ rfl
    have f2 := b2.frozen 0
    have f3 := b3.frozen 0
    gi_wp2
    have hz := Z1.out
    have hK2 : ((W.setCell ⟨w.heap.size, 0, none⟩ (.slice none 0 0)).setCell ⟨w.heap.size + 1, 0, none⟩ (.bool true)).heap[D]? = some (.deferred (some [])) := (Below.heap_setCell _ _ _ D (by simp only []; omega)).trans ((Below.heap_setCell _ _ _ D (by simp only []; omega)).trans hK)
    have e2 := ((b2.set_ 0 (.slice none 0 0)).far (p := ⟨w.heap.size + 1, 0, none⟩) (by simp only []; omega) (.bool true))
    have e3 := ((b3.far (p := ⟨w.heap.size, 0, none⟩) (by simp only []; omega) (.slice none 0 0)).set_ 0 (.bool true))
    have O2 := ((((Only.of_below O1.out (fun k => w.heap.size ≤ k)).step (Only.of_below hB (fun k => False)) (fun _ _ h => h.elim)).setCell (p := ⟨w.heap.size, 0, none⟩) (fun _ => Nat.le_refl _) (.slice none 0 0)).setCell (p := ⟨w.heap.size + 1, 0, none⟩) (fun _ => by simp) (.bool true))
    generalize (W.setCell ⟨w.heap.size, 0, none⟩ (.slice none 0 0)).setCell ⟨w.heap.size + 1, 0, none⟩ (.bool true) = W2 at *
    refine ⟨by simp, .inl ⟨_, _, rfl, run_takeDeferred hK2, ?_⟩⟩
    have gk := grownBy_putObj' W2 D (.deferred none)
    have x2 : (W2.putObj D (.deferred none)).cell? ⟨w.heap.size, 0, none⟩ = some (.slice none 0 0) := (World.cell?_of_block (gk.block w.heap.size e2.lt (fun e => by injection e with e; omega))).trans (e2.cell_at 0 _ rfl)
    have x3 : (W2.putObj D (.deferred none)).cell? ⟨w.heap.size + 1, 0, none⟩ = some (.bool true) := (World.cell?_of_block (gk.block (w.heap.size + 1) e3.lt (fun e => by injection e with e; omega))).trans (e3.cell_at 0 _ rfl)
    have bel : Below w.heap.size w (W2.putObj D (.deferred none)) := (O2.step (Only.of_grown gk) (fun k _ h => by injection h with h; omega)).below (Nat.le_refl _) (fun k hk h => by omega)
    generalize W2.putObj D (.deferred none) = W3 at *
    have hres : Try.f17.results = #[.cell 2 43, .cell 3 4] := by kernel_rfl
    refine ⟨.tuple #[.slice none 0 0, .bool true], ?_, rfl, bel⟩
    simp [results, hres, asAddr, go_sem, x2, x3]
end Go.Proofs.Ytochnokfcfmgnaa.Sh
