/- The contract of Copy. -/
import Derived.Test.YtgiidddmhnnnjaaDisk7
import Derived.Deep.RegionHeld3
namespace Go.Proofs.Ytgiidddmhnnnjaa.Dk
open Go.RowKit Go.Proofs.Ytgiidddmhnnnjaa.Mem Go.Proofs.YtgiidddmhnnnjaaW.PrintWords
set_option linter.unusedVariables false
set_option linter.unusedSimpArgs false
/-- A pending write, read in place. -/
theorem pend_at {w : World} {base : Nat} {ok : Nat → Prop} {A : Option Addr} {N C : Nat} {pend : List (Int × List Int)} (h : Wr.R 70 w base ok (.slice A N C) pend) (k : Nat) (hk : k < N) (h32 : ∀ p ∈ pend, 0 < p.2.length) :
    ∃ gp gb cb p junk, A = some ⟨gp, 0, none⟩ ∧ pend[k]? = some p ∧ w.cell? ⟨gp, k * 2, none⟩ = some (.int .i64 p.1) ∧ w.cell? ⟨gp, k * 2 + 1, none⟩ = some (.slice (some ⟨gb, 0, none⟩) p.2.length cb) ∧ Blk w gb 5 (icells .u8 p.2 ++ junk) ∧ p.2.length ≤ cb := by
  have hn := (Kd.R_reads' h).1
  obtain ⟨gp, cap, he, _⟩ := Kd.R_form h (by omega)
  injection he with hA hN hC
  subst hA
  obtain ⟨c, hcl, hM, hcc, _⟩ := Kd.R_elem h (0, []) (k : Int) (by omega) (by omega)
  obtain ⟨c0, c1, rfl, h0, v, rfl, hv⟩ := hM
  have h0 : c0 = [.int .i64 _] := h0
  subst h0
  rw [Int.toNat_natCast] at hcc hv
  have hp : pend[k]? = some (pend.getD k (0, [])) := by simp [show k < pend.length by omega]
  have hmem := List.mem_of_getElem? hp
  obtain ⟨gb, cb, junk, rfl, _, _, q3, _, _, q6⟩ := R_open hv (h32 _ hmem)
  refine ⟨gp, gb, cb, pend.getD k (0, []), junk, rfl, hp, hcc 0 _ ?_, hcc 1 _ rfl, q6, q3⟩
  simp
set_option maxHeartbeats 4000000 in
set_option maxRecDepth 100000 in
theorem copy_ok (g ga ck gs cs n : Nat) (base : Nat) (ok : Nat → Prop) (kept seen : List Int) (pend : List (Int × List Int)) (life : Int) (jk js : List Value) (A : Option Addr) (N C : Nat) (w : World)
    (hD : Hid (Blk w g 67 [.slice (some ⟨ga, 0, none⟩) kept.length ck, .slice (some ⟨gs, 0, none⟩) seen.length cs, .slice A N C, .int .i64 life])) (hK : Hid (Blk w ga 5 (icells .u8 kept ++ jk))) (hS : Hid (Blk w gs 5 (icells .u8 seen ++ js)))
    (h32 : Hid (∀ p ∈ pend, 0 < p.2.length ∧ p.2.length ≤ 262144)) (hpl : Hid ((pend.length + 1) * 32 ≤ 140737488355328)) (HP : Hid (Wr.R 70 w base ok (.slice A N C) pend)) (hl : seen.length ≤ 262144) (hl' : kept.length ≤ 262144) :
    Calls Try.prog 18 #[.pointer (some ⟨g, 0, none⟩)] w fun e w' => ∃ g', e = .returned (.pointer (some ⟨g', 0, none⟩)) ∧ IsDisk w' w.heap.size (fun _ => True) g' ⟨kept, seen, pend, life⟩ ∧ Below w.heap.size w w' := by
  have h0 := hD.out.cell_at 0 _ rfl
  have h1 := hD.out.cell_at 1 _ rfl
  have h2 := hD.out.cell_at 2 _ rfl
  have h3 := hD.out.cell_at 3 _ rfl
  go_enter Try.func18, Try.ntmps18
  go_wp2_with fail
  have hlt : Hid (g < w.heap.size) := Lib.hid hD.out.lt
  have CK : Hid (∀ W, Below w.heap.size w W → ∀ j v, (icells .u8 kept)[j]? = some v → W.cell? (Addr.add ⟨ga, 0, none⟩ j) = some v) := Lib.hid fun W hb j v hv => (hK.out.below hb hK.out.lt).at_ 0 kept.length (by omega) j v (by simpa using hv)
  have CS : Hid (∀ W, Below w.heap.size w W → ∀ j v, (icells .u8 seen)[j]? = some v → W.cell? (Addr.add ⟨gs, 0, none⟩ j) = some v) := Lib.hid fun W hb j v hv => (hS.out.below hb hS.out.lt).at_ 0 seen.length (by omega) j v (by simpa using hv)
  have hlk : kept.length ≤ 140737488351232 := by omega
  have hls : seen.length ≤ 140737488351232 := by omega
  have HB : Hid (Below w.heap.size w w.drew) := Lib.hid ((Only.refl w (fun _ => False)).drew).below_all
  go_region_held3 (fun w' => w'.cell? ⟨g, 0, none⟩ = some (.slice (some ⟨ga, 0, none⟩) kept.length ck) ∧ w'.cell? ⟨g, 1, none⟩ = some (.slice (some ⟨gs, 0, none⟩) seen.length cs) ∧ w'.cell? ⟨g, 3, none⟩ = some (.int .i64 life)) (go_keep) (first
    | (go_at_call_of 34 (List.length kept); refine (clone_any ga 0 kept.length ck kept _ rfl hlk (CK.out _ HB.out)).mono ?_; rintro e wk ⟨vk, rfl, rx, bx⟩; obtain ⟨Ak, Dk, ex⟩ := Kd.R_slice rx; subst ex; have Rk := Lib.hid rx; have Bk := Lib.hid bx; have HB' := Lib.hid (((Only.of_below HB.out (fun _ => False)).step (Only.of_below bx (fun _ => False)) (fun _ _ h => h)).below_all); clear HB; have HB := HB'; clear HB' rx bx; have k0 := (HB.out.cell (p := ⟨g, 0, none⟩) hlt.out).trans h0; have k1 := (HB.out.cell (p := ⟨g, 1, none⟩) hlt.out).trans h1; have k3 := (HB.out.cell (p := ⟨g, 3, none⟩) hlt.out).trans h3)
    | (go_at_call_of 34 (List.length seen); refine (clone_any gs 0 seen.length cs seen _ rfl hls (CS.out _ HB.out)).mono ?_; rintro e ws ⟨vs, rfl, rx, bx⟩; obtain ⟨As, Ds, ex⟩ := Kd.R_slice rx; subst ex; have Rs := Lib.hid rx; have Bs := Lib.hid bx; have HB' := Lib.hid (((Only.of_below HB.out (fun _ => False)).step (Only.of_below bx (fun _ => False)) (fun _ _ h => h)).below_all); clear HB; have HB := HB'; clear HB' rx bx; have k0 := (HB.out.cell (p := ⟨g, 0, none⟩) hlt.out).trans h0; have k1 := (HB.out.cell (p := ⟨g, 1, none⟩) hlt.out).trans h1; have k3 := (HB.out.cell (p := ⟨g, 3, none⟩) hlt.out).trans h3))
  have hle : w.heap.size ≤ wk.heap.size := Bk.out.size
  have hle2 : wk.heap.size ≤ ws.heap.size := Bs.out.size
  have KEY := Lib.hid (show IsDisk (ws.alloc (.cells #[.slice Ak kept.length Dk, .slice As seen.length Ds, .slice none 0 0, .int .i64 life] 67)) w.heap.size (fun _ => True) ws.heap.size ⟨kept, seen, [], life⟩ from
    ⟨_, _, _, trivial, Nat.le_trans hle hle2, blk_new_at (cs := [_, _, _, _]) rfl, Kd.R_alloc (Kd.R_below Rk.out Bs.out) _, Kd.R_alloc (Kd.R_lower (Kd.R_new' Rs.out (Kd.R_lt Rk.out)) hle) _, Kd.R_nil _ _ _ _ _⟩)
  have B0 := Lib.hid (((Only.of_below HB.out (fun _ => False)).alloc (.cells #[.slice Ak kept.length Dk, .slice As seen.length Ds, .slice none 0 0, .int .i64 life] 67)).below_all)
  have h2' := (B0.out.cell (p := ⟨g, 2, none⟩) hlt.out).trans h2
  have HL := Lib.hid (Nat.le_trans hle hle2)
  clear h0 h1 h2 h3 k0 k1 k3 Bk Bs hle hle2 CK CS
  generalize hu : ws.alloc (.cells #[.slice Ak kept.length Dk, .slice As seen.length Ds, .slice none 0 0, .int .i64 life] 67) = u at *
  generalize hg' : ws.heap.size = g' at *
  clear hu hg' Rk Rs HB
  have HN := Lib.hid (show N = pend.length from (Kd.R_reads' HP.out).1)
  go_wp2_with fail
  go_loopg [29] N (fun m i wr => ∃ k : Nat, i = .int .i64 k ∧ Aside1 (k + m = N ∧ IsDisk wr w.heap.size (fun _ => True) g' ⟨kept, seen, pend.take k, life⟩ ∧ Below w.heap.size w wr))
  case atStart => exact ⟨0, rfl, ⟨Nat.zero_add _, by rw [List.take_zero]; exact KEY.out, B0.out⟩⟩
  case round =>
    obtain ⟨k, rfl, hA⟩ := hrel
    by_cases hk : k < N
    · obtain ⟨hm, hI, hB⟩ := hA.out
      obtain ⟨gp, gb, cb, p, junk, rfl, e1, e2, e3, e4, e5⟩ := pend_at HP.out k hk (fun p hp => (h32.out p hp).1)
      have x2 := (hB.cell (p := ⟨gp, k * 2, none⟩) (World.block_lt_of_cell? _ _ e2)).trans e2
      have x3 := (hB.cell (p := ⟨gp, k * 2 + 1, none⟩) (World.block_lt_of_cell? _ _ e3)).trans e3
      have PE := Lib.hid e1
      have PB := Lib.hid e4
      have HI := Lib.hid hI
      have HB := Lib.hid hB
      have HM := Lib.hid hm
      have hw1 : Hid (wrap64 ((k : Int) + 1) = ((k + 1 : Nat) : Int)) := Lib.hid (by have := hpl.out; have := HN.out; unfold wrap64; omega)
      have h1 : (k : Int) < (N : Int) := by omega
      have h2 : (0 : Int) ≤ (k : Int) := by omega
      clear hA hI hB e1 e2 e3 e4 hm KEY B0
      go_wp2_with fail
      obtain ⟨vk, vs, vp, -, hgb, d0, rk0, rs0, rp0⟩ := HI.out
      have b0 : Below w.heap.size w (wr.alloc (.cells #[.int .i64 p.1, .slice (some ⟨gb, 0, none⟩) p.2.length cb] 70)) := (((Only.of_below HB.out (fun _ => False)).alloc _).below_all)
      have HL0 := Lib.hid (show Blk (wr.alloc (.cells #[.int .i64 p.1, .slice (some ⟨gb, 0, none⟩) p.2.length cb] 70)) wr.heap.size 70 [.int .i64 p.1, .slice (some ⟨gb, 0, none⟩) p.2.length cb] from Blk.new _ _ _)
      have HD0 := Lib.hid (d0.alloc (.cells #[.int .i64 p.1, .slice (some ⟨gb, 0, none⟩) p.2.length cb] 70))
      have HRK := Lib.hid (Kd.R_alloc rk0 (.cells #[.int .i64 p.1, .slice (some ⟨gb, 0, none⟩) p.2.length cb] 70))
      have HRS := Lib.hid (Kd.R_alloc rs0 (.cells #[.int .i64 p.1, .slice (some ⟨gb, 0, none⟩) p.2.length cb] 70))
      have HRP := Lib.hid (Kd.R_alloc rp0 (.cells #[.int .i64 p.1, .slice (some ⟨gb, 0, none⟩) p.2.length cb] 70))
      have HB0 := Lib.hid b0
      have HLvp : Hid (some wr.heap.size ≠ vp.ownBlock) := Lib.hid (fun e => by have := Kd.R_lt rp0 _ e.symm; omega)
      have HG := Lib.hid hgb
      clear hgb d0 rk0 rs0 rp0 b0 x2 x3 HI HB k0 k1 k3 h2'
      generalize wr.alloc (.cells #[.int .i64 p.1, .slice (some ⟨gb, 0, none⟩) p.2.length cb] 70) = v0 at *
      generalize wr.heap.size = L at *
      have hLg : L ≠ g' := Blk.ne_ HL0.out HD0.out (by decide)
      have hLg2 : g' ≠ L := Ne.symm hLg
      have y0 := HL0.out.cell_at 0 _ rfl
      have y1 := HL0.out.cell_at 1 _ rfl
      have y2 := HD0.out.cell_at 2 _ rfl
      have f2 := HD0.out.frozen 2
      have hpb := h32.out p (List.mem_of_getElem? PE.out)
      have hp3 : p.2.length ≤ 140737488351232 := by omega
      have CB : Hid (∀ W, Below w.heap.size w W → ∀ j v, (icells .u8 p.2)[j]? = some v → W.cell? (Addr.add ⟨gb, 0, none⟩ j) = some v) := Lib.hid fun W hb j v hv => (PB.out.below hb PB.out.lt).at_ 0 p.2.length (by omega) j v (by simpa using hv)
      have HBd : Hid (Below w.heap.size w v0.drew) := Lib.hid ((Only.of_below HB0.out (fun _ => False)).drew).below_all
      have hgp : Hid (some g' ≠ vp.ownBlock) := Lib.hid (Kd.R_ne HRP.out (show v0.heap[g']? = _ from HD0.out) (by decide))
      have hglt : Hid (g' < v0.heap.size) := Lib.hid HD0.out.lt
      have hLlt : Hid (L < v0.heap.size) := Lib.hid HL0.out.lt
      have hpl2 : ((pend.take k).length + 1) * 32 ≤ 140737488355328 := by
        have := hpl.out
        rw [List.length_take]
        omega
      have APP : Hid (∀ (w2 : World) (Av : Option Addr) (cv : Nat), (Kd.int .u8).R 5 w2 v0.drew.heap.size (fun _ => True) (.slice Av p.2.length cv) p.2 → Below v0.drew.heap.size v0.drew w2 →
          Wr.M w2 w.heap.size (fun k => v0.heap.size ≤ k) (p.1, p.2) [.int .i64 p.1, .slice Av p.2.length cv] ∧ (∀ k, v0.heap.size ≤ k → (some k ≠ vk.ownBlock ∧ some k ≠ vs.ownBlock) ∧ some k ≠ vp.ownBlock) ∧ (∀ k, w2.heap.size ≤ k → some k ≠ vk.ownBlock ∧ some k ≠ vs.ownBlock) ∧
          Wr.R 70 w2 w.heap.size (fun k => some k ≠ vk.ownBlock ∧ some k ≠ vs.ownBlock) vp (pend.take k) ∧ w.heap.size ≤ w2.heap.size) := by
        refine Lib.hid fun w2 Av cv hr hb => ?_
        have hsz : v0.heap.size ≤ w2.heap.size := hb.size
        have hsz0 : w.heap.size ≤ v0.heap.size := HB0.out.size
        have nk : ∀ k, v0.heap.size ≤ k → some k ≠ vk.ownBlock := fun k hk e => by have := Kd.R_lt HRK.out k e.symm; omega
        have ns : ∀ k, v0.heap.size ≤ k → some k ≠ vs.ownBlock := fun k hk e => by have := Kd.R_lt HRS.out k e.symm; omega
        have np : ∀ k, v0.heap.size ≤ k → some k ≠ vp.ownBlock := fun k hk e => by have := Kd.R_lt HRP.out k e.symm; omega
        exact ⟨⟨[.int .i64 p.1], [.slice Av p.2.length cv], rfl, rfl, ⟨_, rfl, Kd.R_lower (Kd.R_mono (Kd.R_bound hr) (fun k hk => hk.2.1)) hsz0⟩⟩, fun k hk => ⟨⟨nk k hk, ns k hk⟩, np k hk⟩, fun k hk => ⟨nk k (by omega), ns k (by omega)⟩, Kd.R_mono (Kd.R_below (Kd.R_drew HRP.out) hb) (fun k hk => hk.2), by omega⟩
      go_region_law (first
        | (refine Kd.R_append_step Wr (w0 := w2) w.heap.size rfl (.tmp 37) (.tmp 44) 65 70 (.agg #[.int .i64 0, .slice none 0 0]) 32 rfl Try.underlying65 info70 rfl (by decide) (by decide) vp (pend.take k) (p.1, p.2) [.int .i64 p.1, .slice Av p.2.length cv] (fun k => some k ≠ vk.ownBlock ∧ some k ≠ vs.ownBlock) (fun k => v0.heap.size ≤ k) rfl rfl (APP.out w2 Av cv HR.out HB.out).1 (APP.out w2 Av cv HR.out HB.out).2.1 (APP.out w2 Av cv HR.out HB.out).2.2.1 (APP.out w2 Av cv HR.out HB.out).2.2.2.1 (Below.refl _ _) (APP.out w2 Av cv HR.out HB.out).2.2.2.2 hpl2 ?_; intro v1 w3 hR3 hb3 hg3 hat3; obtain ⟨A3, c3, ev3⟩ := Kd.R_slice hR3; obtain ⟨n3, hn3⟩ : ∃ n3, n3 = (pend.take k ++ [(p.1, p.2)]).length := ⟨_, rfl⟩; rw [← hn3] at ev3; clear hn3; subst ev3; have HR3 := Lib.hid hR3; have HG3 := Lib.hid hg3; clear hR3 hb3 hg3 hat3; have k3 : w3.cell? ⟨g', 2, none⟩ = some vp := ((Only.of_grown HG3.out).cell (World.block_lt_of_cell? _ _ k2b) hgp.out).trans k2b; have f3 : w3.frozen? ⟨g', 2, none⟩ = false := ((Only.of_grown HG3.out).frozen (World.block_lt_of_cell? _ _ k2b) hgp.out).trans f2b; have y03 : w3.cell? ⟨L, 0, none⟩ = some (.int .i64 p.1) := ((Only.of_grown HG3.out).cell (World.block_lt_of_cell? _ _ y0b) HLvp.out).trans y0b; have y13 : w3.cell? ⟨L, 1, none⟩ = some (.slice (some ⟨gb, 0, none⟩) p.2.length cb) := ((Only.of_grown HG3.out).cell (World.block_lt_of_cell? _ _ y1b) HLvp.out).trans y1b)
        | (go_simp; go_at_call 34; refine (clone_any gb 0 p.2.length cb p.2 v0.drew rfl hp3 (CB.out _ HBd.out)).mono ?_; rintro e w2 ⟨v, rfl, hr, hbl2⟩; obtain ⟨Av, cv, ev⟩ := Kd.R_slice hr; subst ev; have HR := Lib.hid hr; have HB := Lib.hid hbl2; clear hr hbl2; have y0b : w2.cell? ⟨L, 0, none⟩ = some (.int .i64 p.1) := (HB.out.cell hLlt.out).trans y0; have y1b : w2.cell? ⟨L, 1, none⟩ = some (.slice (some ⟨gb, 0, none⟩) p.2.length cb) := (HB.out.cell hLlt.out).trans y1; have k2b : w2.cell? ⟨g', 2, none⟩ = some vp := (HB.out.cell hglt.out).trans y2; have k2c : ∀ o, (w2.alloc o).cell? ⟨g', 2, none⟩ = some vp := (fun o => ((Below.refl w2.heap.size w2).alloc (Nat.le_refl _) o).cell (World.block_lt_of_cell? _ _ k2b) |>.trans k2b); have f2b : w2.frozen? ⟨g', 2, none⟩ = false := (HB.out.frozen hglt.out).trans f2)
        | fail)
      all_goals
        have t2 := Kd.R_typed (Kd.R_below (Kd.R_drew HRP.out) HB.out)
        have g3 : w3.heap[g']? = _ := ((HD0.out.drew).below HB.out hglt.out).keep (Only.of_grown HG3.out) hgp.out
        have D4 := Lib.hid ((((HD0.out.drew).below HB.out hglt.out).keep (Only.of_grown HG3.out) hgp.out).set_ 2 (.slice A3 n3 c3))
        have RK4 := Lib.hid (Kd.R_set (Kd.R_over' (Kd.R_below (Kd.R_drew HRK.out) HB.out) t2 (by decide) HG3.out) g3 (by decide) 2 (.slice A3 n3 c3))
        have RS4 := Lib.hid (Kd.R_set (Kd.R_over' (Kd.R_below (Kd.R_drew HRS.out) HB.out) t2 (by decide) HG3.out) g3 (by decide) 2 (.slice A3 n3 c3))
        have RP4 := Lib.hid (Kd.R_set HR3.out g3 (by decide) 2 (.slice A3 n3 c3))
        have B4 := Lib.hid (((((Only.of_below HB0.out (fun _ => False)).drew.step (Only.of_below HB.out (fun _ => False)) (fun _ _ h => h)).step (Only.of_grown HG3.out) (fun q hq e => by have := Kd.R_base HRP.out q e.symm; omega)).setCell (p := ⟨g', 2, none⟩) (fun hlt => by have := HG.out; simp only at hlt; omega) (.slice A3 n3 c3)).below_all)
      all_goals
        have FIN := Lib.hid (show IsDisk (w3.setCell ⟨g', 2, none⟩ (.slice A3 n3 c3)) w.heap.size (fun _ => True) g' ⟨kept, seen, pend.take (k + 1), life⟩ from by
          have e : pend.take (k + 1) = pend.take k ++ [(p.1, p.2)] := by
            rw [List.take_add_one, PE.out]
            rfl
          exact ⟨vk, vs, .slice A3 n3 c3, trivial, HG.out, D4.out, RK4.out, RS4.out, by rw [e]; exact Kd.R_mono RP4.out (fun q hq => ⟨trivial, hq⟩)⟩)
        clear t2 g3 D4 RK4 RS4 RP4
        generalize w3.setCell ⟨g', 2, none⟩ (.slice A3 n3 c3) = w4 at *
        go_wp2
        go_roundg (gk - 1)
        case measure => have := HM.out; omega
        case rel => exact ⟨k + 1, by first | exact congrArg (Value.int .i64) hw1.out | go_num, ⟨by have := HM.out; omega, FIN.out, B4.out⟩⟩
    · go_wp2
      go_ret
      obtain ⟨hm, hI, hB⟩ := hA.out
      have : k = N := by omega
      subst this
      rw [HN.out, List.take_length] at hI
      exact ⟨g', rfl, hI, hB⟩
end Go.Proofs.Ytgiidddmhnnnjaa.Dk
