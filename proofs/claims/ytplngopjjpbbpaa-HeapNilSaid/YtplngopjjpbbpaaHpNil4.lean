/- Seat G: HeapNil: an object is made on a heap that is new. -/
import Derived.Test.YtplngopjjpbbpaaHpNil3
import Derived.Deep.RegionWith
import Derived.Deep.DeepMust
import Derived.Test.YtplngopjjpbbpaaWMore
namespace Go.Proofs.Ytplngopjjpbbpaa.Hp
open Go.RowKit Go.Proofs.Ytplngopjjpbbpaa.Mem Go.Maps Go.Proofs.YtplngopjjpbbpaaW.PrintWords
set_option linter.unusedVariables false
set_option linter.unusedSimpArgs false
set_option maxRecDepth 100000
set_option maxHeartbeats 2000000
theorem used_new (g : Nat) (M roots pins ws sm : Value) (w : World) (h : Blk w g 71 [.slice none 0 0, .slice none 0 0, M, roots, pins, ws, sm]) :
    Calls Try.prog 28 #[.pointer (some ⟨g, 0, none⟩)] w fun e w' => e = .returned (.int .i64 0) ∧ ∃ k, w' = w.drewN k := by
  have h0 := h.cell_at 0 _ rfl
  have h1 := h.cell_at 1 _ rfl
  go_enter Try.func28, Try.ntmps28
  go_wp2_with fail
  go_quiet (fail)
  all_goals go_wp2
  all_goals go_ret
  all_goals exact ⟨rfl, _, rfl⟩
theorem make3 (w : World) : Sem.run Try.prog (Instr.makeSlice 67 (.int .i64 3) (.int .i64 3)) w = .ok (.slice (some ⟨w.heap.size, 0, none⟩) 3 3) (w.alloc (.cells #[.bool false, .int .u64 0, .bool false, .int .u64 0, .bool false, .int .u64 0] 76)) := by
  obtain ⟨i, hi, hz, hs, hb⟩ := info76
  have h := run_make w 67 76 i _ (by kernel_rfl : Try.prog.underlying 67 = some (.slice 76)) hi hz .i64 .i64 3 3 (by decide) (by decide) (by rw [hb]; decide) (by decide)
  rw [hs] at h
  have hm : madeCells (Value.agg #[.bool false, .int .u64 0]).cells ((3 : Int).toNat * 2) = #[.bool false, .int .u64 0, .bool false, .int .u64 0, .bool false, .int .u64 0] := by kernel_rfl
  rw [hm] at h
  exact h
theorem head12 : bits BinOp.or IntKind.u64 1 131072 = 131073 := by decide +kernel
theorem alloc_new (g : Nat) (M : Value) (w : World) (h : Blk w g 71 [.slice none 0 0, .slice none 0 0, M, .slice none 0 0, .slice none 0 0, .int .i64 9, .int .i64 16]) :
    Calls Try.prog 20 #[.pointer (some ⟨g, 0, none⟩), .int .i64 1, .int .i64 2, .bool false] w fun e w' => e = .returned (.int .i64 0) ∧ ∃ Y c1 y R c2 r, w.heap.size ≤ Y ∧ w.heap.size ≤ R ∧ 3 ≤ c1 ∧
      Blk w' g 71 [.slice (some ⟨Y, 0, none⟩) 3 c1, .slice none 0 0, M, .slice (some ⟨R, 0, none⟩) 1 c2, .slice none 0 0, .int .i64 9, .int .i64 16] ∧
      Blk w' Y 76 y ∧ y.take 6 = [.bool false, .int .u64 131073, .bool false, .int .u64 0, .bool false, .int .u64 0] ∧ Blk w' R 76 r ∧ r.take 2 = [.bool true, .int .u64 0] ∧ Only w w' (fun k => k = g) := by
  have H0 := Lib.hid h
  have HL := Lib.hid h.lt
  have O0 := Lib.hid (Only.refl w (fun k => k = g))
  have h0 := H0.out.cell_at 0 _ rfl
  have h1 := H0.out.cell_at 1 _ rfl
  have h3 := H0.out.cell_at 3 _ rfl
  have h5 := H0.out.cell_at 5 _ rfl
  have h6 := H0.out.cell_at 6 _ rfl
  have HU : Hid (0 = 0) := Lib.hid rfl
  go_enter Try.func20, Try.ntmps20
  go_wp2_with fail
  go_quiet (fail)
  all_goals
    have H1 := Lib.hid (H0.out.drewN nq)
    have O1 := Lib.hid (O0.out.drewN nq)
    have Z1 := Lib.hid (show w.heap.size = (w.drewN nq).heap.size from rfl)
    clear h0 h1 h3 h5 h6 H0 HU O0
    generalize w.drewN nq = w1 at *
    have h0 := H1.out.cell_at 0 _ rfl
    have h1 := H1.out.cell_at 1 _ rfl
    have h3 := H1.out.cell_at 3 _ rfl
    have h5 := H1.out.cell_at 5 _ rfl
    have h6 := H1.out.cell_at 6 _ rfl
    have HU : Hid (∀ m, Calls Try.prog 28 #[.pointer (some ⟨g, 0, none⟩)] (w1.drewN m) fun e w' => e = .returned (.int .i64 0) ∧ ∃ k, w' = (w1.drewN m).drewN k) := Lib.hid fun m => used_new g M _ _ _ _ _ (H1.out.drewN m)
    go_wp2_with fail
    go_quiet ((go_at_call 28; exact Calls.quiet_of (HU.out _)))
  all_goals
    have H2 := Lib.hid (H1.out.drewN nq)
    have O2 := Lib.hid (O1.out.drewN nq)
    have Z2 := Lib.hid (show w1.heap.size = (w1.drewN nq).heap.size from rfl)
    clear h0 h1 h3 h5 h6 H1 HU O1
    generalize w1.drewN nq = w2 at *
    have h0 := H2.out.cell_at 0 _ rfl
    have h1 := H2.out.cell_at 1 _ rfl
    have h3 := H2.out.cell_at 3 _ rfl
    have h5 := H2.out.cell_at 5 _ rfl
    have h6 := H2.out.cell_at 6 _ rfl
    have HU : Hid (∀ m, Calls Try.prog 28 #[.pointer (some ⟨g, 0, none⟩)] (w2.drewN m) fun e w' => e = .returned (.int .i64 0) ∧ ∃ k, w' = (w2.drewN m).drewN k) := Lib.hid fun m => used_new g M _ _ _ _ _ (H2.out.drewN m)
    go_wp2_with fail
    go_quiet ((go_at_call 28; exact Calls.quiet_of (HU.out _)))
  all_goals
    have H3 := Lib.hid (H2.out.drewN nq)
    have O3 := Lib.hid (O2.out.drewN nq)
    have Z3 := Lib.hid (show w2.heap.size = (w2.drewN nq).heap.size from rfl)
    clear h0 h1 h3 h5 h6 H2 HU O2
    generalize w2.drewN nq = w3 at *
    have h0 := H3.out.cell_at 0 _ rfl
    have h1 := H3.out.cell_at 1 _ rfl
    have h3 := H3.out.cell_at 3 _ rfl
    have h5 := H3.out.cell_at 5 _ rfl
    have h6 := H3.out.cell_at 6 _ rfl
    have HU : Hid (∀ m, Calls Try.prog 28 #[.pointer (some ⟨g, 0, none⟩)] (w3.drewN m) fun e w' => e = .returned (.int .i64 0) ∧ ∃ k, w' = (w3.drewN m).drewN k) := Lib.hid fun m => used_new g M _ _ _ _ _ (H3.out.drewN m)
    obtain ⟨i, hi, hz0, hz1, hz2⟩ := info76
    have hmk := make3
    have hhd := head12
    have Q1 := Lib.hid (Blk.new w3 76 [.bool false, .int .u64 131073, .bool false, .int .u64 0, .bool false, .int .u64 0])
    have J1 := Lib.hid (H3.out.alloc (.cells #[.bool false, .int .u64 131073, .bool false, .int .u64 0, .bool false, .int .u64 0] 76))
    have h0b := J1.out.cell_at 0 _ rfl
    have h6b := J1.out.cell_at 6 _ rfl
    go_wp2_with fail
    go_quiet (fail)
  all_goals
    have H4 := Lib.hid (J1.out.drewN nq)
    have O4 := Lib.hid ((O3.out.alloc (.cells #[.bool false, .int .u64 131073, .bool false, .int .u64 0, .bool false, .int .u64 0] 76)).drewN nq)
    have Q4 := Lib.hid (Q1.out.drewN nq)
    have Z4 := Lib.hid (show ((w3.alloc (.cells #[.bool false, .int .u64 131073, .bool false, .int .u64 0, .bool false, .int .u64 0] 76)).drewN nq).heap.size = w3.heap.size + 1 by simp)
    clear h0 h1 h3 h5 h6 H3 HU O3 J1 Q1 h0b h6b hmk
    generalize (w3.alloc (.cells #[.bool false, .int .u64 131073, .bool false, .int .u64 0, .bool false, .int .u64 0] 76)).drewN nq = w4 at *
    have h0 := H4.out.cell_at 0 _ rfl
    have f0 := H4.out.frozen 0
    go_wp2_with (first | ((with_reducible refine gate_builtin (b := .append) (xs := #[.tmp 145, .tmp 146]) rfl ?_); at_builtin; go_must (refine wpList_append_grows w4 rfl (.tmp 145) (.tmp 146) 67 rfl 76 i (.agg #[.bool false, .int .u64 0]) 2 16 (by kernel_rfl) hi hz0 hz1 hz2 rfl (by decide) none 0 0 [] rfl (fun _ => ⟨rfl, rfl⟩) rfl (by intro b hb; cases hb) ⟨w3.heap.size, 0, none⟩ 3 3 [.bool false, .int .u64 131073, .bool false, .int .u64 0, .bool false, .int .u64 0] rfl rfl (fun j u hu => by rw [add_flat, Nat.zero_add]; exact (Q4.out.cell j).trans hu) (by simp [Value.oneCell']) (by decide) (by decide) (by decide) ?_; intro v' w5 hown hgrow; obtain ⟨Y, c1, y, rfl, hb, hlt, hc, hB, ht⟩ := own_look hown (by decide); have HC1 : Hid (3 ≤ c1) := Lib.hid hc; have HOWN := Lib.hid (And.intro hb (And.intro hB ht)); have HG := Lib.hid hgrow; have H5 := Lib.hid (H4.out.keep (Only.of_grown hgrow) (by simp)); have kg := H5.out.cell_at 0 _ rfl; have fg := H5.out.frozen 0; clear hown hgrow hb hB ht)) | fail)
  all_goals
    have hY : w.heap.size < Y := by
      have h := HOWN.out.1
      have z1 := Z1.out
      have z2 := Z2.out
      have z3 := Z3.out
      have z4 := Z4.out
      omega
    have hg : g < w.heap.size := HL.out
    have H6 := Lib.hid (H5.out.set_ 0 (.slice (some ⟨Y, 0, none⟩) 3 c1))
    have Y6 := Lib.hid (HOWN.out.2.1.far (p := ⟨g, 0, none⟩) (by simp only []; omega) (.slice (some ⟨Y, 0, none⟩) 3 c1))
    have T6 := Lib.hid HOWN.out.2.2
    have O6 := Lib.hid ((O4.out.step (Only.of_grown HG.out) (fun k _ h => by cases h)).setCell (p := ⟨g, 0, none⟩) (fun _ => rfl) (.slice (some ⟨Y, 0, none⟩) 3 c1))
    clear kg fg HG HOWN hlt h0 f0 H4 O4 Q4 H5
    generalize w5.setCell ⟨g, 0, none⟩ (.slice (some ⟨Y, 0, none⟩) 3 c1) = w6 at *
    refine (push_fresh g _ _ _ _ _ _ 0 w6 H6.out).mono ?_
    rintro e w7 ⟨rfl, R, c2, r, hR, h7, r7, t7, o7⟩
    have HH7 := Lib.hid h7
    have HR7 := Lib.hid r7
    have HT7 := Lib.hid t7
    have HO7 := Lib.hid o7
    have HZ := Lib.hid hR
    clear h7 r7 t7 o7 hR
    go_wp2
    go_ret
    refine ⟨rfl, Y, c1, y, R, c2, r, by omega, Nat.le_trans O6.out.size HZ.out, HC1.out, HH7.out, Y6.out.keep HO7.out (by omega), T6.out, HR7.out, HT7.out, O6.out.step HO7.out (fun k _ h => h)⟩
end Go.Proofs.Ytplngopjjpbbpaa.Hp
