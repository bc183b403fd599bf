/- Seat G: HeapNil: the addresses that are reached. -/
import Derived.Test.YtplngopjjpbbpaaHpNil5
import Derived.LoopN
namespace Go.Proofs.Ytplngopjjpbbpaa.Hp
open Go.RowKit Go.Proofs.Ytplngopjjpbbpaa.Mem Go.Maps Go.Proofs.YtplngopjjpbbpaaW.PrintWords
set_option linter.unusedVariables false
set_option linter.unusedSimpArgs false
set_option maxRecDepth 100000
set_option maxHeartbeats 2000000
theorem reached_new (g Y R : Nat) (c1 c2 : Nat) (M ws sm : Value) (y r : List Value) (w : World) (h : Blk w g 71 [.slice (some ⟨Y, 0, none⟩) 3 c1, .slice none 0 0, M, .slice (some ⟨R, 0, none⟩) 1 c2, .slice none 0 0, ws, sm]) (hc : 3 ≤ c1)
    (hY : Blk w Y 76 y) (hy : y.take 6 = [.bool false, .int .u64 131073, .bool false, .int .u64 0, .bool false, .int .u64 0]) (hR : Blk w R 76 r) (hr : r.take 2 = [.bool true, .int .u64 0]) :
    Calls Try.prog 49 #[.pointer (some ⟨g, 0, none⟩)] w fun e w' => ∃ L c l m, e = .returned (.tuple #[.slice (some ⟨L, 0, none⟩) 1 c, m]) ∧ Blk w' L 31 l ∧ l.take 1 = [.int .u64 0] ∧ Below w.heap.size w w' := by
  have H := Lib.hid h
  have HY := Lib.hid hY
  have HR := Lib.hid hR
  have H1 := Lib.hid (((h.alloc (.cells #[.slice none 0 0] 91)).alloc (.map #[] 0)).alloc (.cells #[.map (some (w.heap.size + 1))] 97))
  have Y1 := Lib.hid (((hY.alloc (.cells #[.slice none 0 0] 91)).alloc (.map #[] 0)).alloc (.cells #[.map (some (w.heap.size + 1))] 97))
  have R1 := Lib.hid (((hR.alloc (.cells #[.slice none 0 0] 91)).alloc (.map #[] 0)).alloc (.cells #[.map (some (w.heap.size + 1))] 97))
  have B4 : Hid (Blk (((w.alloc (.cells #[.slice none 0 0] 91)).alloc (.map #[] 0)).alloc (.cells #[.map (some (w.heap.size + 1))] 97)) w.heap.size 91 [.slice none 0 0]) := Lib.hid (((Blk.new w 91 [.slice none 0 0]).alloc (.map #[] 0)).alloc (.cells #[.map (some (w.heap.size + 1))] 97))
  have B5 : Hid (Blk (((w.alloc (.cells #[.slice none 0 0] 91)).alloc (.map #[] 0)).alloc (.cells #[.map (some (w.heap.size + 1))] 97)) (w.heap.size + 1 + 1) 97 [.map (some (w.heap.size + 1))]) := Lib.hid (by have h := Blk.new ((w.alloc (.cells #[.slice none 0 0] 91)).alloc (.map #[] 0)) 97 [.map (some (w.heap.size + 1))]; simpa using h)
  have M1 : Hid (NM (((w.alloc (.cells #[.slice none 0 0] 91)).alloc (.map #[] 0)).alloc (.cells #[.map (some (w.heap.size + 1))] 97)) (w.heap.size + 1) 0 (.map [])) := Lib.hid (by have h := (World.ownsMap_made (w.alloc (.cells #[.slice none 0 0] 91)) Try.prog 31 (plainElem (H := Nat) Try.prog 3)).alloc (.cells #[.map (some (w.heap.size + 1))] 97); simpa using h)
  have O1 : Hid (Below w.heap.size w (((w.alloc (.cells #[.slice none 0 0] 91)).alloc (.map #[] 0)).alloc (.cells #[.map (some (w.heap.size + 1))] 97))) := Lib.hid ((((Below.refl _ w).alloc (Nat.le_refl _) _).alloc (by simp) _).alloc (by simp; omega) _)
  have S1 : Hid ((((w.alloc (.cells #[.slice none 0 0] 91)).alloc (.map #[] 0)).alloc (.cells #[.map (some (w.heap.size + 1))] 97)).heap.size = w.heap.size + 3) := Lib.hid (by simp)
  have LG := Lib.hid h.lt
  have LY := Lib.hid hY.lt
  have LR := Lib.hid hR.lt
  have h3 := H1.out.cell_at 3 _ rfl
  have hmm := @run_makeMap Try.prog
  have hmf : ∀ (fn : Fn) (first cap : Array Value) (w : World), (Instr.makeFunc fn first cap).run Try.prog w = .ok (.func fn first cap) w := fun _ _ _ _ => rfl
  clear h hY hR
  go_enter Try.func49, Try.ntmps49
  go_wp2_with fail
  clear h3
  generalize (((w.alloc (.cells #[.slice none 0 0] 91)).alloc (.map #[] 0)).alloc (.cells #[.map (some (w.heap.size + 1))] 97)) = w1 at *
  have r0 := cell_take R1.out hr 0 _ rfl
  have r1 := cell_take R1.out hr 1 _ rfl
  refine wp_loop_rounds 2 ?_
  rw [rounds_succ]
  have NX := Lib.hid (show Blk (w1.alloc (.cells #[.bool true, .int .u64 0] 76)) (w.heap.size + 1 + 1) 97 [.map (some (w.heap.size + 1))] from B5.out.alloc _)
  go_wp2_with (first
    | (go_at_call 62; go_loud (refine (see_first (w.heap.size + 1 + 1) w.heap.size (w.heap.size + 1) (.map []) _ (B5.out.alloc (.cells #[.bool true, .int .u64 0] 76)) (B4.out.alloc _) (M1.out.alloc _) rfl).mono ?_); rintro e w2 ⟨rfl, L, cl, l, D', hL, b4, bL, tL, m2, o2⟩; have HL := Lib.hid hL; have B42 := Lib.hid b4; have BL2 := Lib.hid bL; have TL := Lib.hid tL; have M2 := Lib.hid m2; have O2 := Lib.hid o2; clear hL b4 bL tL m2 o2)
    | fail)
  have hSz : w1.heap.size = w.heap.size + 3 := S1.out
  have hg := LG.out
  have hYlt := LY.out
  have hRlt := LR.out
  have H2 := Lib.hid ((H1.out.alloc (.cells #[.bool true, .int .u64 0] 76)).keep O2.out (by omega))
  have Y2 := Lib.hid ((Y1.out.alloc (.cells #[.bool true, .int .u64 0] 76)).keep O2.out (by omega))
  have B52 := Lib.hid ((B5.out.alloc (.cells #[.bool true, .int .u64 0] 76)).keep O2.out (by omega))
  have P2 : Hid (Below w.heap.size w w2) := Lib.hid (O1.out.trans (((Only.refl w1 (fun k => k = w.heap.size + 1 ∨ k = w.heap.size)).alloc (.cells #[.bool true, .int .u64 0] 76) |>.step O2.out (fun _ _ h => h)).below (by omega) (fun k hk h => by omega)))
  have HL2 : Hid (w.heap.size + 3 < L) := Lib.hid (by have := HL.out; simp only [World.size_alloc] at this; omega)
  clear r0 r1 NX B4 B5 M1 O1 H1 Y1 R1 HL O2 hSz hg hYlt hRlt S1
  rw [rounds_succ]
  have h4 := H2.out.cell_at 4 _ rfl
  go_wp2_with fail
  refine wp_loop_rounds 1 ?_
  rw [rounds_succ]
  go_wp2_with fail
  have b4 := B42.out.cell_at 0 _ rfl
  have l0 := cell_take BL2.out TL.out 0 _ rfl
  refine wp_loop_rounds 2 ?_
  rw [rounds_succ]
  go_wp2_with fail
  have HO : Hid (∀ m, Calls Try.prog 44 #[.pointer (some ⟨g, 0, none⟩), .int .u64 0] (w2.drewN m) fun e w' => e = .returned (.tuple #[.int .u64 131073, .slice (some ⟨Y, 2, none⟩) 2 2]) ∧ ∃ k, w' = (w2.drewN m).drewN k) := Lib.hid fun m => object_new g Y c1 _ _ _ _ _ _ y _ (H2.out.drewN m) hc (Y2.out.drewN m) hy
  go_quiet ((go_at_call 44; exact Calls.quiet_of (HO.out _)))
  clear HO h4 b4 l0
  have H3 := Lib.hid (H2.out.drewN nq)
  have Y3 := Lib.hid (Y2.out.drewN nq)
  have B53 := Lib.hid (B52.out.drewN nq)
  have B43 := Lib.hid (B42.out.drewN nq)
  have BL3 := Lib.hid (BL2.out.drewN nq)
  have M3 : Hid (NM (w2.drewN nq) (w.heap.size + 1) 1 D') := Lib.hid M2.out
  have P3 : Hid (Below w.heap.size w (w2.drewN nq)) := Lib.hid ⟨P2.out.os, P2.out.tape, P2.out.output, P2.out.size, P2.out.block⟩
  clear H2 Y2 B52 B42 BL2 M2 P2
  generalize w2.drewN nq = w3 at *
  go_wp2_with fail
  have y2 := cell_take Y3.out hy 2 _ rfl
  have y3 := cell_take Y3.out hy 3 _ rfl
  refine wp_loop_rounds 3 ?_
  rw [rounds_succ]
  go_wp2_with (first
    | (go_at_call 62; go_loud (refine (see_num (w.heap.size + 1 + 1) w.heap.size (w.heap.size + 1) 1 D' _ (B53.out.alloc (.cells #[.bool false, .int .u64 0] 76)) (M3.out.alloc _)).mono ?_); rintro e w4 ⟨rfl, o4⟩; have O4 := Lib.hid o4; clear o4)
    | fail)
  have Q4 : Hid (Below w3.heap.size w3 w4) := Lib.hid (((Below.refl _ w3).alloc (Nat.le_refl _) (.cells #[.bool false, .int .u64 0] 76)).trans (O4.out.mono (by simp)))
  have Y4 := Lib.hid (Y3.out.below Q4.out Y3.out.lt)
  have B54 := Lib.hid (B53.out.below Q4.out B53.out.lt)
  have B44 := Lib.hid (B43.out.below Q4.out B43.out.lt)
  have BL4 := Lib.hid (BL3.out.below Q4.out BL3.out.lt)
  have M4 := Lib.hid (M3.out.kept (row := none) ⟨Q4.out.os, Q4.out.tape, Q4.out.output, Q4.out.size, fun k hk _ => Q4.out.block k hk⟩ (by simp))
  have P4 : Hid (Below w.heap.size w w4) := Lib.hid (P3.out.trans (Q4.out.mono P3.out.size))
  clear y2 y3 Y3 B53 B43 BL3 M3 P3 O4 Q4
  rw [rounds_succ]
  have z2 := cell_take Y4.out hy 4 _ rfl
  have z3 := cell_take Y4.out hy 5 _ rfl
  go_wp2_with (first
    | (go_at_call 62; go_loud (refine (see_num (w.heap.size + 1 + 1) w.heap.size (w.heap.size + 1) 1 D' _ (B54.out.alloc (.cells #[.bool false, .int .u64 0] 76)) (M4.out.alloc _)).mono ?_); rintro e w5 ⟨rfl, o4⟩; have O5 := Lib.hid o4; clear o4)
    | fail)
  have Q5 : Hid (Below w4.heap.size w4 w5) := Lib.hid (((Below.refl _ w4).alloc (Nat.le_refl _) (.cells #[.bool false, .int .u64 0] 76)).trans (O5.out.mono (by simp)))
  have Y5 := Lib.hid (Y4.out.below Q5.out Y4.out.lt)
  have B55 := Lib.hid (B54.out.below Q5.out B54.out.lt)
  have B45 := Lib.hid (B44.out.below Q5.out B44.out.lt)
  have BL5 := Lib.hid (BL4.out.below Q5.out BL4.out.lt)
  have M5 := Lib.hid (M4.out.kept (row := none) ⟨Q5.out.os, Q5.out.tape, Q5.out.output, Q5.out.size, fun k hk _ => Q5.out.block k hk⟩ (by simp))
  have P5 : Hid (Below w.heap.size w w5) := Lib.hid (P4.out.trans (Q5.out.mono P4.out.size))
  clear z2 z3 Y4 B54 B44 BL4 M4 P4 O5 Q5
  rw [rounds_succ]
  go_wp2_with fail
  rw [rounds_succ]
  have b4 := B45.out.cell_at 0 _ rfl
  have b5 := B55.out.cell_at 0 _ rfl
  go_wp2_with fail
  go_quiet (fail)
  go_wp2
  go_ret2
  exact ⟨L, cl, l, _, rfl, BL5.out.drewN _, TL.out, ⟨P5.out.os, P5.out.tape, P5.out.output, P5.out.size, P5.out.block⟩⟩
end Go.Proofs.Ytplngopjjpbbpaa.Hp
