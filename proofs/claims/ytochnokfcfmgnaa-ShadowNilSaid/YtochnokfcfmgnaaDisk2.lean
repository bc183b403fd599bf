/- The contract of Write. -/
import Derived.Test.YtochnokfcfmgnaaDisk1
import Derived.Deep.RegionLaw
namespace Go.Proofs.Ytochnokfcfmgnaa.Dk
open Go.RowKit Go.Proofs.Ytochnokfcfmgnaa.Mem Go.Proofs.YtochnokfcfmgnaaW.PrintWords
set_option linter.unusedVariables false
set_option linter.unusedSimpArgs false
theorem info70 : (Try.prog.info? 98).map (fun i => (i.zero, i.size, i.bytes)) = some (some (.agg #[.int .i64 0, .slice none 0 0]), 2, 32) := by kernel_rfl
theorem spend_disk (g : Nat) (a b c : Value) (life : Int) (w : World) (hD : Blk w g 93 [a, b, c, .int .i64 life]) (hl : -1 ≤ life) (hl2 : life ≤ 9223372036854775807) :
    Calls Try.prog 69 #[.pointer (some ⟨g, 0, none⟩)] w fun e w' => e = .returned (.tuple #[]) ∧ Blk w' g 93 [a, b, c, .int .i64 (spent life)] ∧ Only w w' (fun k => k = g) := by
  refine (spend_cells g life w (hD.cell_at 3 _ rfl) (hD.frozen 3) hl hl2).mono ?_
  rintro e w' ⟨rfl, hw⟩
  refine ⟨rfl, ?_, ?_⟩
  · unfold spent
    by_cases c : 0 < life
    · rw [if_pos c] at hw ⊢
      rw [hw]
      exact hD.set_ 3 _
    · rw [if_neg c] at hw ⊢
      rw [hw]
      exact hD
  · by_cases c : 0 < life
    · rw [if_pos c] at hw
      rw [hw]
      exact (Only.refl _ (fun k => k = g)).setCell (p := ⟨g, 3, none⟩) (fun _ => rfl) _
    · rw [if_neg c] at hw
      rw [hw]
      exact Only.refl _ _
set_option maxHeartbeats 4000000 in
set_option maxRecDepth 100000 in
theorem write_ok (g gs cap n m : Nat) (base : Nat) (okP : Nat → Prop) (b : List Int) (ab ao : Nat) (c : Nat) (seen : List Int) (pend : List (Int × List Int)) (life : Int) (junk : List Value) (vk vp : Value) (w : World)
    (hD : Hid (Blk w g 93 [vk, .slice (some ⟨gs, 0, none⟩) seen.length cap, vp, .int .i64 life])) (hS : Hid (Blk w gs 5 (icells .u8 seen ++ junk))) (hl : seen.length = n * 32) (hn : n ≤ 8192) (hc : seen.length ≤ cap)
    (HP : Hid (Wr.R 98 w base (fun k => okP k ∧ k ≠ gs) vp pend)) (hbase : base ≤ w.heap.size) (hpl : (pend.length + 1) * 32 ≤ 140737488355328)
    (hm : m < n) (hlife : life ≠ 0) (hl1 : -1 ≤ life) (hl2 : life ≤ 9223372036854775807) (hb : Hid ((Kd.int .u8).C w (some ⟨ab, ao, none⟩) 32 b)) (hab : ab ≠ gs) (hable : ab < w.heap.size) :
    Calls Try.prog 48 #[.pointer (some ⟨g, 0, none⟩), .int .i64 (m : Int), .slice (some ⟨ab, ao, none⟩) 32 c] w fun e w' => e = .returned (.int .i64 0) ∧ ∃ vp',
      Blk w' g 93 [vk, .slice (some ⟨gs, 0, none⟩) seen.length cap, vp', .int .i64 (spent life)] ∧ Blk w' gs 5 (icells .u8 (splice seen (m * 32) b) ++ junk) ∧
      Wr.R 98 w' base (fun k => (okP k ∨ w.heap.size ≤ k) ∧ k ≠ gs) vp' (pend ++ [((m : Int), b)]) ∧ Only w w' (fun k => k = g ∨ k = gs ∨ some k = vp.ownBlock) := by
  have h1 := hD.out.cell_at 1 _ rfl
  have h2 := hD.out.cell_at 2 _ rfl
  have h3 := hD.out.cell_at 3 _ rfl
  have hck : Calls Try.prog 63 #[.pointer (some ⟨g, 0, none⟩), .int .i64 (m : Int)] w fun e w' => e = .returned (.int .i64 0) ∧ w = w' := by
    have := check_cells g seen.length cap _ life m w h1 h3 (by omega)
    have e : chk life m (seen.length / 32 : Nat) = 0 := by unfold chk; rw [if_neg hlife, if_neg (by omega)]
    rwa [e] at this
  have HC := Lib.hid hck
  have HL := Lib.hid hl
  clear h3 hck hl hlife
  go_enter Try.func48, Try.ntmps48
  go_wp2_with (first
      | (go_at_call 63; refine HC.out.mono ?_; rintro e w' ⟨rfl, rfl⟩)
      | (go_at_call 51; refine (sector_cells gs seen.length cap m w (by rw [HL.out]; omega) (by rw [HL.out]; omega) hc).mono ?_; rintro e w' ⟨rfl, rfl⟩)
      | ((with_reducible refine gate_dst (N := 28) rfl ?_); go_must (refine copy_blk rfl (.tmp 26) (.tmp 27) 23 23 rfl 5 Try.underlying23 (by kernel_rfl) _ _ 32 _ 32 c rfl rfl gs (m * 32) _ 5 hS (icells .u8 b) ?c1 ?c2 ?c3 ?c4 ?_))
      | fail)
  case c1 => rw [icells_length, hb.out.1]; rfl
  case c2 =>
    intro _
    obtain ⟨ad, had, hcell⟩ := C_cells hb.out (by omega)
    obtain rfl : (⟨ab, ao, none⟩ : Addr) = ad := by injection had
    first | exact hcell | (intro j v hv; have := hcell j v hv; rwa [add_flat] at this)
  case c3 => rw [icells_length, hb.out.1, List.length_append, icells_length, HL.out]; omega
  case c4 => exact icells_one _ _
  intro w1 hS1 ho1
  have hgs : g ≠ gs := Blk.ne_ hD.out hS.out (by decide)
  have hD1 := Lib.hid (hD.out.keep ho1.out hgs)
  have k2 := hD1.out.cell_at 2 _ rfl
  have hsrc : Hid (∀ j v, (icells .u8 b)[j]? = some v → w1.cell? (Addr.add ⟨ab, ao, none⟩ j) = some v) := by
    refine Lib.hid fun j v hv => ?_
    obtain ⟨ad, had, hcell⟩ := C_cells hb.out (by omega)
    obtain rfl : (⟨ab, ao, none⟩ : Addr) = ad := by injection had
    have h5 := hcell j v hv
    rw [ho1.out.cell (by rw [block_of_add]; exact hable) (by rw [block_of_add]; exact hab)]
    exact h5
  have HP1 : Hid (Wr.R 98 w1 base (fun k => okP k ∧ k ≠ gs) vp pend) := Lib.hid (Kd.R_step HP.out (fun k hk hlt => ho1.out.block k hlt hk.2))
  have hbl : b.length = 32 := hb.out.1
  have hgp : Hid (some g ≠ vp.ownBlock) := Lib.hid (Kd.R_ne HP1.out (show w1.heap[g]? = _ from hD1.out) (by decide))
  have f2 := hD1.out.frozen 2
  have HSZ := Lib.hid ho1.out.size
  have hgs := Lib.hid hgs
  clear h1 h2 HC hb HP
  go_wp2_with fail
  have hbase1 : base ≤ w1.heap.size := Nat.le_trans hbase HSZ.out
  have APP : Hid (∀ (w2 : World) (Av : Option Addr) (cv : Nat), (Kd.int .u8).R 5 w2 w1.drew.heap.size (fun _ => True) (.slice Av 32 cv) b → Below w1.drew.heap.size w1.drew w2 →
      Wr.M w2 base (fun k => w1.heap.size ≤ k) ((m : Int), b) [.int .i64 m, .slice Av 32 cv] ∧ (∀ k, w1.heap.size ≤ k → ((okP k ∨ w1.heap.size ≤ k) ∧ k ≠ gs) ∧ some k ≠ vp.ownBlock) ∧ (∀ k, w2.heap.size ≤ k → (okP k ∨ w1.heap.size ≤ k) ∧ k ≠ gs) ∧
      Wr.R 98 w2 base (fun k => (okP k ∨ w1.heap.size ≤ k) ∧ k ≠ gs) vp pend ∧ base ≤ w2.heap.size) := by
    refine Lib.hid fun w2 Av cv hr hb => ?_
    have hsz : w1.heap.size ≤ w2.heap.size := hb.size
    have hgl := hS1.out.lt
    refine ⟨⟨[.int .i64 m], [.slice Av 32 cv], rfl, rfl, ⟨_, rfl, Kd.R_lower (Kd.R_mono (Kd.R_bound hr) (fun k hk => hk.2.1)) hbase1⟩⟩, fun k hk => ⟨⟨.inr hk, by omega⟩, fun e => ?_⟩, fun k hk => ⟨.inr (by omega), by omega⟩, Kd.R_mono (Kd.R_below (Kd.R_drew HP1.out) hb) (fun k hk => ⟨.inl hk.1, hk.2⟩), by omega⟩
    have := Kd.R_lt HP1.out k e.symm
    omega
  have hglt : Hid (g < w1.heap.size) := Lib.hid hD1.out.lt
  go_region_law (first
    | (refine Kd.R_append_step Wr (w0 := w2) base rfl (.tmp 33) (.tmp 38) 91 98 (.agg #[.int .i64 0, .slice none 0 0]) 32 rfl Try.underlying91 info70 rfl (by decide) (by decide) vp pend ((m : Int), b) [.int .i64 m, .slice Av 32 cv] (fun k => (okP k ∨ w1.heap.size ≤ k) ∧ k ≠ gs) (fun k => w1.heap.size ≤ k) rfl rfl (APP.out w2 Av cv HR.out HB.out).1 (APP.out w2 Av cv HR.out HB.out).2.1 (APP.out w2 Av cv HR.out HB.out).2.2.1 (APP.out w2 Av cv HR.out HB.out).2.2.2.1 (Below.refl _ _) (APP.out w2 Av cv HR.out HB.out).2.2.2.2 hpl ?_; intro v1 w3 hR3 hb3 hg3 hat3; obtain ⟨A3, c3, ev3⟩ := Kd.R_slice hR3; subst ev3; have HR3 := Lib.hid hR3; have HG3 := Lib.hid hg3; have HAT := Lib.hid hat3; clear hR3 hb3 hg3 hat3; have k3 : w3.cell? ⟨g, 2, none⟩ = some vp := ((Only.of_grown HG3.out).cell (World.block_lt_of_cell? _ _ k2b) hgp.out).trans k2b; have f3 : w3.frozen? ⟨g, 2, none⟩ = false := ((Only.of_grown HG3.out).frozen (World.block_lt_of_cell? _ _ k2b) hgp.out).trans f2b)
    | (go_simp; go_at_call 33; refine (clone_any ab ao 32 _ b w1.drew hbl (by omega) (fun j v hv => hsrc.out j v hv)).mono ?_; rintro e w2 ⟨v, rfl, hr, hbl2⟩; obtain ⟨Av, cv, ev⟩ := Kd.R_slice hr; subst ev; rw [hbl] at hr; have HR := Lib.hid hr; have HB := Lib.hid hbl2; clear hr hbl2; have k2b : w2.cell? ⟨g, 2, none⟩ = some vp := (HB.out.cell hglt.out).trans k2; have k2c : ∀ o, (w2.alloc o).cell? ⟨g, 2, none⟩ = some vp := (fun o => ((Below.refl w2.heap.size w2).alloc (Nat.le_refl _) o).cell (World.block_lt_of_cell? _ _ k2b) |>.trans k2b); have f2b : w2.frozen? ⟨g, 2, none⟩ = false := (HB.out.frozen hglt.out).trans f2)
    | fail)
  all_goals
    have D4 := Lib.hid ((((hD1.out.drew).below HB.out hglt.out).keep (Only.of_grown HG3.out) hgp.out).set_ 2 (.slice A3 (pend.length + 1) c3))
  all_goals
    have S4 := Lib.hid ((((hS1.out.drew).below HB.out hS1.out.lt).keep (Only.of_grown HG3.out) (Kd.R_ne HP1.out (show w1.heap[gs]? = _ from hS1.out) (by decide))).far (p := ⟨g, 2, none⟩) (Ne.symm hgs.out) (.slice A3 (pend.length + 1) c3))
    have R4 := Lib.hid (Kd.R_set HR3.out (show w3.heap[g]? = _ from ((hD1.out.drew).below HB.out hglt.out).keep (Only.of_grown HG3.out) hgp.out) (by decide) 2 (.slice A3 (pend.length + 1) c3))
    have O4 := Lib.hid ((((ho1.out.mono (S' := fun k => k = g ∨ k = gs ∨ some k = vp.ownBlock) (fun k _ h => .inr (.inl h))).drew.step (Only.of_below HB.out (fun _ => False)) (fun _ _ h => h.elim)).step (Only.of_grown HG3.out) (fun _ _ h => .inr (.inr h))).setCell (p := ⟨g, 2, none⟩) (fun _ => .inl rfl) (.slice A3 (pend.length + 1) c3))
    clear k2 f2 k2b f2b k2c k3 f3 HR HB HR3 HG3 HAT
    generalize w3.setCell ⟨g, 2, none⟩ (.slice A3 (pend.length + 1) c3) = w4 at *
  all_goals
    go_wp2_with fail
    refine (spend_disk g vk _ (.slice A3 (pend.length + 1) c3) life w4 D4.out hl1 hl2).mono ?_
    rintro e w5 ⟨rfl, d5, o5⟩
    have D5 := Lib.hid d5
    have O5 := Lib.hid o5
    clear d5 o5
    go_wp2
    go_ret
    refine ⟨rfl, .slice A3 (pend.length + 1) c3, D5.out, ?_, ?_, O4.out.step O5.out (fun _ _ h => .inl h)⟩
    · have h5 := S4.out.keep O5.out (Ne.symm hgs.out)
      rw [splice_left _ _ _ _ (by rw [icells_length, icells_length, hbl, HL.out]; omega), icells_splice] at h5
      exact h5
    · have h6 := Kd.R_step (Kd.R_types R4.out (show w4.heap[g]? = _ from D4.out) (by decide)) (w1 := w5) (fun k hk hlt => O5.out.block k hlt hk.2)
      have e : (pend ++ [((m : Int), b)]).length = pend.length + 1 := by simp
      rw [e] at h6
      exact Kd.R_mono h6 (fun k hk => ⟨hk.1.1.imp id (fun h => Nat.le_trans HSZ.out h), hk.1.2⟩)
end Go.Proofs.Ytochnokfcfmgnaa.Dk
