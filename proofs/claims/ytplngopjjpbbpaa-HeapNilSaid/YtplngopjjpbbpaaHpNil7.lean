/- Seat G: HeapNil: what lives; the law's walk. -/
import Derived.Test.YtplngopjjpbbpaaHpNil6
namespace Go.Proofs.Ytplngopjjpbbpaa.Hp
open Go.RowKit Go.Proofs.Ytplngopjjpbbpaa.Mem Go.Maps Go.Proofs.YtplngopjjpbbpaaW.PrintWords
set_option linter.unusedVariables false
set_option linter.unusedSimpArgs false
set_option maxRecDepth 100000
set_option maxHeartbeats 2000000
theorem live_new (g Y R : Nat) (c1 c2 : Nat) (M ws sm : Value) (y r : List Value) (w : World) (h : Blk w g 71 [.slice (some ⟨Y, 0, none⟩) 3 c1, .slice none 0 0, M, .slice (some ⟨R, 0, none⟩) 1 c2, .slice none 0 0, ws, sm]) (hc : 3 ≤ c1)
    (hY : Blk w Y 76 y) (hy : y.take 6 = [.bool false, .int .u64 131073, .bool false, .int .u64 0, .bool false, .int .u64 0]) (hR : Blk w R 76 r) (hr : r.take 2 = [.bool true, .int .u64 0]) :
    Calls Try.prog 27 #[.pointer (some ⟨g, 0, none⟩)] w fun e w' => e = .returned (.int .i64 3) ∧ Below w.heap.size w w' := by
  have HRE := Lib.hid (reached_new g Y R c1 c2 M ws sm y r w h hc hY hy hR hr)
  have H := Lib.hid h
  have HY := Lib.hid hY
  clear h hY hR
  go_enter Try.func27, Try.ntmps27
  go_wp2_with (first
    | (go_at_call 49; refine HRE.out.mono ?_; rintro e w1 ⟨L, c, l, m, rfl, bL, tL, o1⟩; have BL := Lib.hid bL; have TL := Lib.hid tL; have O1 := Lib.hid o1; clear bL tL o1)
    | fail)
  have H1 := Lib.hid (H.out.below O1.out H.out.lt)
  have Y1 := Lib.hid (HY.out.below O1.out HY.out.lt)
  have l0 := cell_take BL.out TL.out 0 _ rfl
  clear H HY HRE
  refine wp_loop_rounds 2 ?_
  rw [rounds_succ]
  go_wp2_with (first
    | (go_at_call 44; refine (object_new g Y c1 _ _ _ _ _ _ y _ H1.out hc Y1.out hy).mono ?_; rintro e w2 ⟨rfl, k, rfl⟩)
    | fail)
  rw [rounds_succ]
  go_wp2_with fail
  go_ret
  exact ⟨rfl, ⟨O1.out.os, O1.out.tape, O1.out.output, O1.out.size, O1.out.block⟩⟩
theorem roots_new (g R c2 : Nat) (a b M p ws sm : Value) (w : World) (h : Blk w g 71 [a, b, M, .slice (some ⟨R, 0, none⟩) 1 c2, p, ws, sm]) :
    Calls Try.prog 26 #[.pointer (some ⟨g, 0, none⟩)] w fun e w' => e = .returned (.int .i64 1) ∧ w' = w := by
  have h3 := h.cell_at 3 _ rfl
  go_enter Try.func26, Try.ntmps26
  go_wp2
  go_ret
  exact ⟨rfl, rfl⟩
theorem awake_c (w : World) : Calls Try.prog 8 #[] w fun e w' => e = .returned (.bool true) ∧ Below w.heap.size w w' := by
  go_enter Try.func8, Try.ntmps8
  go_wp2_with (first
    | (go_at_call 9; refine (new_c _).mono ?_; rintro e w1 ⟨M, rfl, b1, o1⟩; have B1 := Lib.hid b1; have O1 := Lib.hid o1; clear b1 o1)
    | (go_at_call 20; go_loud (refine (alloc_new _ M _ B1.out).mono ?_); rintro e w2 ⟨rfl, Y, c1, y, R, c2, r, hY, hR, hc, b2, yb, yt, rb, rt, o2⟩; have B2 := Lib.hid b2; have YB := Lib.hid yb; have YT := Lib.hid yt; have RB := Lib.hid rb; have RT := Lib.hid rt; have O2 := Lib.hid o2; have HC := Lib.hid hc; clear b2 yb yt rb rt o2 hY hR hc)
    | (go_at_call 26; go_loud (refine (roots_new _ R c2 _ _ _ _ _ _ _ B2.out).mono ?_); rintro e w3 ⟨rfl, rfl⟩)
    | (go_at_call 27; go_loud (refine (live_new _ Y R c1 c2 M _ _ y r _ B2.out HC.out YB.out YT.out RB.out RT.out).mono ?_); rintro e w4 ⟨rfl, o4⟩; have O4 := Lib.hid o4; clear o4)
    | fail)
  go_ret
  exact ⟨rfl, O1.out.trans ((O2.out.below O1.out.size (fun k hk h => by omega)).trans (O4.out.mono (Nat.le_trans O1.out.size O2.out.size)))⟩
theorem heapNil_c (w : World) : Calls Try.prog 4 #[] w fun e w' => e = .returned (.bool true) ∧ Below w.heap.size w w' := by
  have HB : Hid (Below w.heap.size w w) := Lib.hid (Below.refl _ w)
  go_enter Try.func4, Try.ntmps4
  go_wp2_with (first
    | (go_at_call 14; refine (info_nil _).mono ?_; rintro e wz ⟨rfl, b⟩; replace HB := Lib.hid (HB.out.trans (b.mono HB.out.size)); clear b)
    | (go_at_call 15; refine (word_nil _).mono ?_; rintro e wz ⟨rfl, b⟩; replace HB := Lib.hid (HB.out.trans (b.mono HB.out.size)); clear b)
    | (go_at_call 16; refine (same_nil _).mono ?_; rintro e wz ⟨rfl, b⟩; replace HB := Lib.hid (HB.out.trans (b.mono HB.out.size)); clear b)
    | (go_at_call 22; refine (dup_nil _).mono ?_; rintro e wz ⟨rfl, b⟩; replace HB := Lib.hid (HB.out.trans (b.mono HB.out.size)); clear b)
    | (go_at_call 24; refine (get_nil _).mono ?_; rintro e wz ⟨rfl, b⟩; replace HB := Lib.hid (HB.out.trans (b.mono HB.out.size)); clear b)
    | (go_at_call 25; refine (set_nil _).mono ?_; rintro e wz ⟨rfl, b⟩; replace HB := Lib.hid (HB.out.trans (b.mono HB.out.size)); clear b)
    | (go_at_call 8; refine (awake_c _).mono ?_; rintro e wz ⟨rfl, b⟩; replace HB := Lib.hid (HB.out.trans (b.mono HB.out.size)); clear b)
    | (go_at_call 17; refine (minor_nil _).mono ?_; rintro e wz ⟨rfl, hwz⟩; rw [hwz]; clear hwz)
    | (go_at_call 18; refine (major_nil _).mono ?_; rintro e wz ⟨rfl, hwz⟩; rw [hwz]; clear hwz)
    | (go_at_call 19; refine (walk_nil _).mono ?_; rintro e wz ⟨rfl, hwz⟩; rw [hwz]; clear hwz)
    | (go_at_call 20; refine (alloc_nil _).mono ?_; rintro e wz ⟨rfl, hwz⟩; rw [hwz]; clear hwz)
    | (go_at_call 21; refine (num_nil _).mono ?_; rintro e wz ⟨rfl, hwz⟩; rw [hwz]; clear hwz)
    | (go_at_call 23; refine (slide_nil _).mono ?_; rintro e wz ⟨rfl, hwz⟩; rw [hwz]; clear hwz)
    | (go_at_call 26; refine (roots_nil _).mono ?_; rintro e wz ⟨rfl, hwz⟩; rw [hwz]; clear hwz)
    | (go_at_call 27; refine (live_nil _).mono ?_; rintro e wz ⟨rfl, hwz⟩; rw [hwz]; clear hwz)
    | (go_at_call 28; refine (used_nil _).mono ?_; rintro e wz ⟨rfl, hwz⟩; rw [hwz]; clear hwz)
    | (go_at_call 11; refine (copy_nil _).mono ?_; rintro e wz ⟨rfl, hwz⟩; rw [hwz]; clear hwz)
    | fail)
  go_ret
  exact ⟨rfl, HB.out⟩
end Go.Proofs.Ytplngopjjpbbpaa.Hp
