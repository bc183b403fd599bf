/- Seat G: HeapNil: what is reached of the object that was made. -/
import Derived.Test.YtplngopjjpbbpaaHpNil4
namespace Go.Proofs.Ytplngopjjpbbpaa.Hp
open Go.RowKit Go.Proofs.Ytplngopjjpbbpaa.Mem Go.Maps Go.Proofs.YtplngopjjpbbpaaW.PrintWords
set_option linter.unusedVariables false
set_option linter.unusedSimpArgs false
set_option maxRecDepth 100000
set_option maxHeartbeats 2000000
theorem cell_take {w : World} {g : Nat} {t : TypeId} {cs xs : List Value} {n : Nat} (h : Blk w g t cs) (ht : cs.take n = xs) (i : Nat) (v : Value) (hv : xs[i]? = some v) : w.cell? ⟨g, i, none⟩ = some v := by
  refine h.cell_at i v ?_
  subst ht
  rw [List.getElem?_take] at hv
  split at hv
  · exact hv
  · cases hv
theorem at_new (g Y : Nat) (c1 : Nat) (old M roots pins ws sm : Value) (w : World) (h : Blk w g 71 [.slice (some ⟨Y, 0, none⟩) 3 c1, old, M, roots, pins, ws, sm]) (hc : 3 ≤ c1) :
    Calls Try.prog 60 #[.pointer (some ⟨g, 0, none⟩), .int .u64 0] w fun e w' => e = .returned (.slice (some ⟨Y, 0, none⟩) 3 c1) ∧ w' = w := by
  have h0 := h.cell_at 0 _ rfl
  have hc' : (3 : Int) ≤ (c1 : Int) := by omega
  go_enter Try.func60, Try.ntmps60
  go_wp2
  all_goals go_ret
  all_goals exact ⟨rfl, rfl⟩
theorem object_new (g Y : Nat) (c1 : Nat) (old M roots pins ws sm : Value) (y : List Value) (w : World) (h : Blk w g 71 [.slice (some ⟨Y, 0, none⟩) 3 c1, old, M, roots, pins, ws, sm]) (hc : 3 ≤ c1)
    (hY : Blk w Y 76 y) (hy : y.take 6 = [.bool false, .int .u64 131073, .bool false, .int .u64 0, .bool false, .int .u64 0]) :
    Calls Try.prog 44 #[.pointer (some ⟨g, 0, none⟩), .int .u64 0] w fun e w' => e = .returned (.tuple #[.int .u64 131073, .slice (some ⟨Y, 2, none⟩) 2 2]) ∧ ∃ k, w' = w.drewN k := by
  have HA := Lib.hid (at_new g Y c1 old M roots pins ws sm w h hc)
  have hc' : (3 : Int) ≤ (c1 : Int) := by omega
  have h1 := cell_take hY hy 1 _ rfl
  clear h hY hy
  go_enter Try.func44, Try.ntmps44
  go_wp2_with (first | (go_at_call 60; refine HA.out.mono ?_; rintro e w1 ⟨rfl, rfl⟩) | fail)
  all_goals go_quiet (fail)
  all_goals go_wp2
  all_goals go_ret2
  all_goals exact ⟨rfl, _, rfl⟩
/-- The numbers of the addresses that are reached. -/
abbrev NM (w : World) (b n : Nat) (D : DataW Nat) : Prop := w.ownsMap Try.prog 31 (plainElem Try.prog 3) b n D
theorem u31 : Try.prog.underlying 31 = some (.int .u64) := by kernel_rfl
theorem u3 : Try.prog.underlying 3 = some (.int .i64) := by kernel_rfl
theorem u97 : Try.prog.underlying 97 = some (.map 31 3) := by kernel_rfl
theorem law31 : Keyed Try.prog 31 := int_keyed u31
theorem zero3 (w : World) : (zeroValue 3).run Try.prog w = .ok (.int .i64 0) w := by
  have h : (Try.prog.info? 3).map (fun i => i.zero) = some (some (.int .i64 0)) := by kernel_rfl
  cases hi : Try.prog.info? 3 with
  | none => rw [hi] at h; cases h
  | some i => rw [hi] at h; injection h with h; simp [zeroValue, typeInfo, hi, h]
theorem key0 : keyOf Try.prog 31 (.int .u64 0) = some (.int .u64 0) := keyOf_int_mk u31 (by decide)
/-- A number is no address. -/
theorem see_num (t5 t4 mb n : Nat) (D : DataW Nat) (w : World) (h5 : Blk w t5 97 [.map (some mb)]) (hM : NM w mb n D) :
    Calls Try.prog 62 #[.agg #[.bool false, .int .u64 0], .pointer (some ⟨t5, 0, none⟩), .pointer (some ⟨t4, 0, none⟩)] w fun e w' => e = .returned (.tuple #[]) ∧ Below w.heap.size w w' := by
  have H5 := Lib.hid (h5.alloc (.cells #[.bool false, .int .u64 0] 76))
  have hb5 := H5.out.cell_at 0 _ rfl
  have HM := Lib.hid (hM.alloc (.cells #[.bool false, .int .u64 0] 76))
  clear h5 hM
  go_enter Try.func62, Try.ntmps62
  go_wp2_with (first | (at_lookup; go_loud (refine wpList_lookup_own_ok_int _ rfl _ _ 97 rfl 31 3 .i64 law31 u97 u3 (zero3 _) mb n D rfl HM.out _ _ rfl key0 ?_); intro c hc hwc; clear hc hwc) | fail)
  go_end0
  exact ⟨rfl, (Below.refl _ w).alloc (Nat.le_refl _) _⟩
theorem info31m : (Try.prog.info? 31).map (fun i => (i.zero, i.size, i.bytes)) = some (some (.int .u64 0), 1, 8) := by kernel_rfl
theorem info31 : ∃ i, Try.prog.info? 31 = some i ∧ i.zero = some (.int .u64 0) ∧ i.size = 1 ∧ i.bytes = 8 := by
  have h := info31m
  cases hi : Try.prog.info? 31 with
  | none => rw [hi] at h; cases h
  | some i => rw [hi] at h; injection h with h; injection h with h1 h; injection h with h2 h3; exact ⟨i, rfl, h1, h2, h3⟩
/-- The first address. -/
theorem see_first (t5 t4 mb : Nat) (D : DataW Nat) (w : World) (h5 : Blk w t5 97 [.map (some mb)]) (h4 : Blk w t4 91 [.slice none 0 0]) (hM : NM w mb 0 D) (hD : Maps.has D (.int .u64 0) = false) :
    Calls Try.prog 62 #[.agg #[.bool true, .int .u64 0], .pointer (some ⟨t5, 0, none⟩), .pointer (some ⟨t4, 0, none⟩)] w fun e w' => e = .returned (.tuple #[]) ∧ ∃ L c l D', w.heap.size ≤ L ∧
      Blk w' t4 91 [.slice (some ⟨L, 0, none⟩) 1 c] ∧ Blk w' L 31 l ∧ l.take 1 = [.int .u64 0] ∧ NM w' mb 1 D' ∧ Only w w' (fun k => k = mb ∨ k = t4) := by
  have H5 := Lib.hid (h5.alloc (.cells #[.bool true, .int .u64 0] 76))
  have H4 := Lib.hid (h4.alloc (.cells #[.bool true, .int .u64 0] 76))
  have hb5 := H5.out.cell_at 0 _ rfl
  have hb4 := H4.out.cell_at 0 _ rfl
  have HM := Lib.hid (hM.alloc (.cells #[.bool true, .int .u64 0] 76))
  have HP := Lib.hid (Blk.new w 76 [.bool true, .int .u64 0])
  have O := Lib.hid ((Only.refl w (fun k => k = mb ∨ k = t4)).alloc (.cells #[.bool true, .int .u64 0] 76))
  have hne5 : Hid (¬ some t5 = some mb) := by
    refine Lib.hid fun e => ?_
    obtain rfl : t5 = mb := by injection e
    obtain ⟨es, cl, hb, _⟩ := hM
    unfold Blk at h5
    rw [hb] at h5
    cases h5
  have hne4 : Hid (¬ some t4 = some mb) := by
    refine Lib.hid fun e => ?_
    obtain rfl : t4 = mb := by injection e
    obtain ⟨es, cl, hb, _⟩ := hM
    unfold Blk at h4
    rw [hb] at h4
    cases h4
  have hneP : Hid (¬ some w.heap.size = some mb) := by
    refine Lib.hid fun e => ?_
    obtain rfl : w.heap.size = mb := by injection e
    exact absurd hM.lt (Nat.lt_irrefl _)
  have L4 := Lib.hid h4.lt
  obtain ⟨i, hi, hz0, hz1, hz2⟩ := info31
  have hkl : Hid ((Lit.int IntKind.i64 0).wf = true) := Lib.hid (by decide)
  clear h5 h4 hM
  go_enter Try.func62, Try.ntmps62
  go_wp2_with (first
    | (at_lookup; go_loud (refine wpList_lookup_own_ok_int _ rfl _ _ 97 rfl 31 3 .i64 law31 u97 u3 (zero3 _) mb 0 D rfl HM.out _ _ rfl key0 ?_); intro c hc hwc; clear hc hwc; rw [hD])
    | (at_mapUpdate; go_loud (refine wpList_mapUpdate_own _ rfl _ _ _ 97 rfl 31 3 law31 u97 (plainElem Try.prog 3) mb 0 D rfl HM.out (by decide) _ _ _ rfl rfl key0 _ [] (plainElem_int u3 hkl.out) ?_); intro w1 hown1 hgrow1; have HM1 := Lib.hid hown1; have HG1 := Lib.hid hgrow1; have H51 := Lib.hid (H5.out.keep (Only.of_grown hgrow1) hne5.out); have H41 := Lib.hid (H4.out.keep (Only.of_grown hgrow1) hne4.out); have HP1 := Lib.hid (HP.out.keep (Only.of_grown hgrow1) hneP.out); have hb51 := H51.out.cell_at 0 _ rfl; have hb41 := H41.out.cell_at 0 _ rfl; have fb41 := H41.out.frozen 0; have hp1 := HP1.out.cell_at 1 _ rfl; clear hown1 hgrow1)
    | ((with_reducible refine gate_builtin (b := .append) (xs := #[.tmp 24, .tmp 27]) rfl ?_); at_builtin; go_loud (refine wpList_append_grows _ rfl (.tmp 24) (.tmp 27) 91 rfl 31 i (.int .u64 0) 1 8 (by kernel_rfl) hi hz0 hz1 hz2 rfl (by decide) none 0 0 [] rfl (fun _ => ⟨rfl, rfl⟩) rfl (by intro b hb; cases hb) ⟨w1.heap.size, 0, none⟩ 1 1 [.int .u64 0] rfl rfl (fun j u hu => by rw [add_flat, Nat.zero_add]; exact ((Blk.new w1 31 [.int .u64 0]).cell j).trans hu) (by simp [Value.oneCell']) (by decide) (by decide) (by decide) ?_); intro v' w5 hown hgrow; obtain ⟨L, cl, l, rfl, hb, hlt, hc, hB, ht⟩ := own_look hown (by decide); have HOWN := Lib.hid (And.intro hb (And.intro hB ht)); have HG := Lib.hid hgrow; have H6 := Lib.hid ((H41.out.alloc (.cells #[.int .u64 0] 31)).keep (Only.of_grown hgrow) (by simp)); have kg := H6.out.cell_at 0 _ rfl; have fg := H6.out.frozen 0; clear hown hgrow hb hB ht)
    | fail)
  all_goals
    have hsz : w.heap.size < L := by
      have h1 := HOWN.out.1
      have h2 := HG1.out.size
      simp only [World.size_alloc] at h1 h2
      omega
    have hL4 := L4.out
    have H7 := Lib.hid (H6.out.set_ 0 (.slice (some ⟨L, 0, none⟩) 1 cl))
    have K7 := Lib.hid (HOWN.out.2.1.far (p := ⟨t4, 0, none⟩) (by simp only []; omega) (.slice (some ⟨L, 0, none⟩) 1 cl))
    have M7 := Lib.hid (((HM1.out.alloc (.cells #[.int .u64 0] 31)).kept HG.out (by simp)).setCell (a := ⟨t4, 0, none⟩) (fun e => hne4.out (by simp only [] at e; rw [e])) (.slice (some ⟨L, 0, none⟩) 1 cl))
    have O7 := Lib.hid ((((O.out.step (Only.of_grown HG1.out) (fun k _ h => .inl (by injection h))).alloc (.cells #[.int .u64 0] 31)).step (Only.of_grown HG.out) (fun k _ h => by cases h)).setCell (p := ⟨t4, 0, none⟩) (fun _ => .inr rfl) (.slice (some ⟨L, 0, none⟩) 1 cl))
    have T7 := Lib.hid HOWN.out.2.2
    go_end0
    exact ⟨rfl, L, cl, l, _, by omega, H7.out, K7.out, T7.out, M7.out, O7.out⟩
end Go.Proofs.Ytplngopjjpbbpaa.Hp
