/- The contract of pages.Unpack: a page that is full, read out of a row without spare room; and all cases in one. -/
import Derived.Test.YtdpoifaeimmdmaaUnpack
namespace Go.Proofs.Ytdpoifaeimmdmaa.Hand
open Go.RowKit Go.Proofs.Ytdpoifaeimmdmaa.Mem Go.Proofs.Ytdpoifaeimmdmaa.Pure Go.Proofs.Ytdpoifaeimmdmaa.PSumPlays Go.Proofs.YtdpoifaeimmdmaaW.PrintWords
set_option linter.unusedVariables false
set_option linter.unusedSimpArgs false

set_option maxRecDepth 100000 in
set_option maxHeartbeats 2000000 in
theorem unpack_full (ad : Addr) (b : List Int) (w : World) (hr : (Kd.int .u8).C w (some ad) 128 b) (hb : ∀ x ∈ b, 0 ≤ x ∧ x < 256) (hsum : ld32 b = sumOf (b.drop 4)) (hn : ld32 (b.drop 8) = 116) :
    Calls Try.prog 26 #[.slice (some ad) 128 128] w fun e w' => ∃ g, e = .returned (.tuple #[.int .u32 (ld32 (b.drop 4)), .slice (some ⟨g, 0, none⟩) 116 116, .int .i64 0]) ∧ w.heap.size ≤ g ∧ Blk w' g 5 (icells .u8 ((b.drop 12).take 116)) ∧ Only w w' (fun _ => False) := by
  have HR := Lib.hid hr
  have HB := Lib.hid hb
  have hl := hr.1
  have HL := Lib.hid hl
  have c8 : Calls Try.prog 40 #[.slice (some ⟨ad.block, ad.off + 8, none⟩) 120 120] (w.drewN 0) fun e w' => e = .returned (.int .u32 (ld32 (b.drop 8))) ∧ ∃ m, w' = w.drewN m := get32_row _ 120 _ _ w (C_cut hr 8 (by omega) (by omega)) (by omega) (drop_bytes hb 8)
  rw [hn] at c8
  have c0 : ∀ m, Calls Try.prog 40 #[.slice (some ad) 128 128] (w.drewN m) fun e w' => e = .returned (.int .u32 (ld32 b)) ∧ ∃ k, w' = (w.drewN m).drewN k := fun m => get32_row _ 128 _ _ _ (Kd.C_drewN hr m) (by omega) hb
  have cs : ∀ m, Calls Try.prog 15 #[.slice (some ⟨ad.block, ad.off + 4, none⟩) 124 124] (w.drewN m) fun e w' => e = .returned (.int .u32 (sumOf (b.drop 4))) ∧ ∃ k, w' = (w.drewN m).drewN k := fun m => (sum_any _ 124 _ _ _ (C_cut (Kd.C_drewN hr m) 4 (by omega) (by omega)) (by omega) (drop_bytes hb 4) (by rw [List.length_drop]; omega)).mono fun e w' ⟨h1, h2⟩ => ⟨h1, drawn_ex h2⟩
  have C8 := Lib.hid c8
  have C0 := Lib.hid c0
  have CS := Lib.hid cs
  have t1 : (ld32 b != sumOf (b.drop 4)) = false := by rw [hsum]; simp
  obtain ⟨ad', had, hcell⟩ := C_cells hr (by omega)
  obtain rfl : ad = ad' := by injection had
  have hcell' : ∀ j, j < 128 → w.cell? (ad.add j) = some (.int .u8 (b.getD j 0)) := fun j hj => hcell j _ (icells_getD _ _ _ (by omega))
  have HC := Lib.hid hcell'
  have HR2 := Lib.hid (C_cut hr 4 (by omega) (by omega))
  have HB4 := Lib.hid (drop_bytes hb 4)
  clear hr hb hl c8 c0 cs HR hsum hn had hcell hcell'
  generalize hg : ld32 b = g at *
  generalize hs : sumOf (b.drop 4) = s at *
  clear hg hs
  have hmk : ∀ w : World, (Instr.makeSlice 22 (.int .u32 116) (.int .u32 116)).run Try.prog w = .ok (.slice (some ⟨w.heap.size, 0, none⟩) 116 116) (w.alloc (.cells (icells .u8 (zeros 116)).toArray 5)) := makeN 116 (by omega)
  go_enter Try.func26, Try.ntmps26
  go_wp2_with fail
  refine C8.out.mono ?_
  rintro e w1 ⟨rfl, m1, hw1⟩
  have HW := Lib.hid hw1
  have C0W : Hid (∀ m, Calls Try.prog 40 #[.slice (some ad) 128 128] (w1.drewN m) fun e w' => e = .returned (.int .u32 g) ∧ ∃ k, w' = (w1.drewN m).drewN k) := Lib.hid (fun m => by rw [hw1, World.drewN_drewN]; exact C0.out _)
  have CSW : Hid (∀ m, Calls Try.prog 15 #[.slice (some ⟨ad.block, ad.off + 4, none⟩) 124 124] (w1.drewN m) fun e w' => e = .returned (.int .u32 s) ∧ ∃ k, w' = (w1.drewN m).drewN k) := Lib.hid (fun m => by rw [hw1, World.drewN_drewN]; exact CS.out _)
  clear hw1 C0 CS
  go_wp2_with fail
  go_quiet (first | (go_at_call 40; exact Calls.quiet_of (C0W.out _)) | (go_at_call 15; exact Calls.quiet_of (CSW.out _)))
  clear C0W CSW
  go_wp2
  go_loopg [29] 0 (fun m i wr => i = .int .i64 0 ∧ Aside1 (∃ q, wr = w.drewN q))
  case atStart => exact ⟨rfl, ⟨⟨_, by rw [HW.out, World.drewN_drewN]⟩⟩⟩
  case round =>
    obtain ⟨rfl, hA⟩ := hrel
    obtain ⟨q, hq⟩ := hA.out
    have Q := Lib.hid hq
    clear hq hA
    have o1 : Only w (wr.alloc (.cells (icells .u8 (zeros 116)).toArray 5)) (fun _ => False) := by rw [Q.out]; exact ((Only.refl _ _).drewN _).alloc _
    have b1 : Blk (wr.alloc (.cells (icells .u8 (zeros 116)).toArray 5)) wr.heap.size 5 (icells .u8 (zeros 116)) := Blk.new _ _ _
    have hsz : w.heap.size = wr.heap.size := by rw [Q.out]; rfl
    have O1 := Lib.hid o1
    have HSZ := Lib.hid hsz
    have B1r : Hid ((wr.alloc (.cells (icells .u8 (zeros 116)).toArray 5)).heap[wr.heap.size]? = some (.cells (icells .u8 (zeros 116)).toArray 5 (0, 0))) := b1
    clear o1 b1 hsz
    go_wp2_with ((with_reducible refine gate_dst (N := 45) rfl ?_); go_must (refine wpList_copy_splice rfl (.tmp 38) (.tmp 44) 22 22 rfl 5 Try.underlying22 (by kernel_rfl) (some ⟨wr.heap.size, 0, none⟩) _ 116 116 116 _ rfl rfl wr.heap.size 0 _ 5 B1r.out (icells .u8 ((b.drop 12).take 116)) ?c1 ?c2 ?c3 ?c4 w.heap.size w ?c5 ?c6 ?_))
    case c1 => rw [icells_length, mid_length HL.out _ (by omega)]; rfl
    case c2 =>
      intro hp
      have hsrc : ∀ j v, (icells .u8 ((b.drop 12).take 116))[j]? = some v → (wr.alloc (.cells (icells .u8 (zeros 116)).toArray 5)).cell? ((ad.add 12).add j) = some v := fun j v hv => pw_cell_below O1.out.below_all (mid_cells HC.out HL.out 116 (by omega) j v hv)
      have h5 : ∀ j v, (icells .u8 ((b.drop 12).take 116))[j]? = some v → (wr.alloc (.cells (icells .u8 (zeros 116)).toArray 5)).cell? ⟨ad.block, ad.off + 12 + j, none⟩ = some v := by
        intro j v hv
        have h5 := hsrc j v hv
        rw [add_of_add, show ad.add (12 + j) = ⟨ad.block, ad.off + 12 + j, none⟩ from by unfold Addr.add; rw [if_neg (by omega), Nat.add_assoc]] at h5
        exact h5
      first | exact h5 | exact ⟨rfl, _, rfl, hsrc⟩ | exact ⟨_, rfl, hsrc⟩ | exact ⟨rfl, _, rfl, h5⟩ | exact ⟨_, rfl, h5⟩
    case c3 => rw [icells_length, icells_length, mid_length HL.out _ (by omega), zeros_length]; omega
    case c4 => exact icells_one _ _
    case c5 => exact O1.out.below_all
    case c6 => rw [HSZ.out]; exact Nat.le_refl _
    intro w3 b3 o3
    have B3 : Hid (Blk w3 wr.heap.size 5 (icells .u8 ((b.drop 12).take 116))) := by
      have h3 := b3.out
      rw [icells_splice] at h3
      have e : splice (zeros 116) 0 ((b.drop 12).take 116) = (b.drop 12).take 116 := by
        have e1 : (zeros 116).drop (0 + ((b.drop 12).take 116).length) = [] := List.drop_of_length_le (by rw [mid_length HL.out _ (by omega), zeros_length]; omega)
        unfold splice
        rw [e1, List.take_zero, List.nil_append, List.append_nil]
      rw [e] at h3
      exact Lib.hid h3
    have O3 := Lib.hid (Only.of_below o3 (fun _ => False))
    clear b3 o3 B1r O1
    go_wp2_with fail
    refine (get32_row _ 124 _ _ _ (Kd.C_below HR2.out O3.out.below_all) (by omega) HB4.out).mono ?_
    rintro e w4 ⟨rfl, m4, hw4⟩
    have O4 := Lib.hid (show Only w w4 (fun _ => False) by rw [hw4]; exact O3.out.drewN _)
    have B4 := Lib.hid (show Blk w4 wr.heap.size 5 (icells .u8 ((b.drop 12).take 116)) by rw [hw4]; exact B3.out)
    clear hw4 O3 B3
    go_wp2
    go_ret3
    exact ⟨_, rfl, by rw [HSZ.out]; exact Nat.le_refl _, B4.out, O4.out⟩

/-- WHAT Unpack ANSWERS, for every row of bytes. -/
theorem unpack_any (A : Option Addr) (c : Nat) (b : List Int) (w : World) (hr : (Kd.int .u8).C w A b.length b) (hc : b.length ≤ c) (hb : ∀ x ∈ b, 0 ≤ x ∧ x < 256) :
    Calls Try.prog 26 #[.slice A b.length c] w fun e w' => ∃ v, e = .returned (.tuple #[.int .u32 (unp b).1, v, .int .i64 (unp b).2.2]) ∧ (Kd.int .u8).R 5 w' w.heap.size (fun _ => True) v (unp b).2.1 ∧ Below w.heap.size w w' := by
  by_cases hl : b.length = 128
  · have hr' := hr
    rw [hl] at hr' hc ⊢
    obtain ⟨ad, rfl, _⟩ := C_cells hr' (by omega)
    have hr8 := ld32_range (drop_bytes hb 8)
    by_cases hbad : ld32 b ≠ sumOf (b.drop 4) ∨ 116 < ld32 (b.drop 8)
    · have hu : unp b = (0, [], 5) := by unfold unp; rw [if_neg (by omega), if_pos hbad]
      rw [hu]
      refine (unpack_sum ad c b w hr' hc hb hbad).mono fun e w' ⟨he, m, hm⟩ => ?_
      subst hm
      exact ⟨_, he, Kd.R_nil _ _ _ _ _, ((Only.refl w (fun _ => False)).drewN m).below_all⟩
    · have h1 : ld32 b = sumOf (b.drop 4) := Classical.byContradiction fun h => hbad (.inl h)
      have h2 : ld32 (b.drop 8) ≤ 116 := Classical.byContradiction fun h => hbad (.inr (by omega))
      by_cases hz : (b.drop (12 + (ld32 (b.drop 8)).toNat)).all (· == 0) = true
      · have hu : unp b = (ld32 (b.drop 4), (b.drop 12).take (ld32 (b.drop 8)).toNat, 0) := by unfold unp; rw [if_neg (by omega), if_neg hbad, if_pos hz]
        have hlen : ((b.drop 12).take (ld32 (b.drop 8)).toNat).length = (ld32 (b.drop 8)).toNat := mid_length hl _ (by omega)
        have fin : ∀ e w', (∃ g, e = Ending.returned (.tuple #[.int .u32 (ld32 (b.drop 4)), .slice (some ⟨g, 0, none⟩) (ld32 (b.drop 8)).toNat (ld32 (b.drop 8)).toNat, .int .i64 0]) ∧ w.heap.size ≤ g ∧ Blk w' g 5 (icells .u8 ((b.drop 12).take (ld32 (b.drop 8)).toNat)) ∧ Only w w' (fun _ => False)) →
            ∃ v, e = .returned (.tuple #[.int .u32 (unp b).1, v, .int .i64 (unp b).2.2]) ∧ (Kd.int .u8).R 5 w' w.heap.size (fun _ => True) v (unp b).2.1 ∧ Below w.heap.size w w' := by
          rintro e w' ⟨g, he, hg, hB, hO⟩
          rw [hu]
          have hR := R_of_blk (ok := fun _ => True) hB hg (by rw [hlen]; omega) trivial
          rw [hlen] at hR
          exact ⟨_, he, hR, hO.below_all⟩
        by_cases hcN : 12 + (ld32 (b.drop 8)).toNat < c
        · exact (unpack_good ad c b w hr' hc hb h1 h2 hz hcN).mono fin
        · obtain rfl : c = 128 := by omega
          have h116 : ld32 (b.drop 8) = 116 := by omega
          refine (unpack_full ad b w hr' hb h1 h116).mono fun e w' h => fin e w' ?_
          rw [h116]
          exact h
      · have hu : unp b = (0, [], 5) := by unfold unp; rw [if_neg (by omega), if_neg hbad, if_neg hz]
        rw [hu]
        refine (unpack_dirt ad c b w hr' hc hb h1 h2 hz).mono fun e w' ⟨he, m, hm⟩ => ?_
        subst hm
        exact ⟨_, he, Kd.R_nil _ _ _ _ _, ((Only.refl w (fun _ => False)).drewN m).below_all⟩
  · have hu : unp b = (0, [], 2) := by unfold unp; rw [if_pos hl]
    rw [hu]
    refine (unpack_len A b.length c w hl hr.2.1).mono fun e w' ⟨he, hw⟩ => ?_
    subst hw
    exact ⟨_, he, Kd.R_nil _ _ _ _ _, Below.refl _ _⟩
/-- WHAT Pack ANSWERS, for every row of bytes. -/
def pck (id : Int) (data : List Int) : List Int × Int := if data.length ≤ 116 then (packed id data, 0) else ([], 11)
theorem pack_any (id : Int) (A : Option Addr) (c : Nat) (data : List Int) (w : World) (hr : (Kd.int .u8).C w A data.length data) (hc : data.length ≤ c) (hid : 0 ≤ id ∧ id < 4294967296) (hd : ∀ x ∈ data, 0 ≤ x ∧ x < 256) :
    Calls Try.prog 24 #[.int .u32 id, .slice A data.length c] w fun e w' => ∃ v, e = .returned (.tuple #[v, .int .i64 (pck id data).2]) ∧ (Kd.int .u8).R 5 w' w.heap.size (fun _ => True) v (pck id data).1 ∧ Below w.heap.size w w' := by
  by_cases hl : data.length ≤ 116
  · have hu : pck id data = (packed id data, 0) := if_pos hl
    rw [hu]
    refine (pack_ok id A c data w hr hc hid.1 hid.2 hl hd).mono ?_
    rintro e w' ⟨g, he, hg, hB, hO⟩
    have hlen : (packed id data).length = 128 := by rw [packed, List.length_append, rest_length id data hl]; rfl
    have hR := R_of_blk (ok := fun _ => True) hB hg (by rw [hlen]; omega) trivial
    rw [hlen] at hR
    exact ⟨_, he, hR, hO.below_all⟩
  · have hu : pck id data = ([], 11) := if_neg hl
    rw [hu]
    refine (pack_large id A data.length c w (by omega) hr.2.1).mono fun e w' ⟨he, hw⟩ => ?_
    subst hw
    exact ⟨_, he, Kd.R_nil _ _ _ _ _, Below.refl _ _⟩
end Go.Proofs.Ytdpoifaeimmdmaa.Hand
