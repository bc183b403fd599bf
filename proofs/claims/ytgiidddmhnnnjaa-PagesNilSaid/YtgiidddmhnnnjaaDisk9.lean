/- The contract of Crash. -/
import Derived.Test.YtgiidddmhnnnjaaDisk8
namespace Go.Proofs.Ytgiidddmhnnnjaa.Dk
open Go.RowKit Go.Proofs.Ytgiidddmhnnnjaa.Mem Go.Proofs.YtgiidddmhnnnjaaW.PrintWords
set_option linter.unusedVariables false
set_option linter.unusedSimpArgs false
/-- What is kept of one pending write: of write i as many bytes as this. -/
def cutAt (torn cut : Int) (i : Nat) : Nat := if (i : Int) = torn then cut.toNat else 32
def crash1 (keep : List Bool) (torn cut : Int) (i : Nat) (p : Int × List Int) (k : List Int) : List Int := if keep.getD i false = true then splice k (p.1.toNat * 32) (p.2.take (cutAt torn cut i)) else k
/-- What lies kept behind the first j writes. -/
def crashN (keep : List Bool) (torn cut : Int) (kept : List Int) (pend : List (Int × List Int)) : Nat → List Int
  | 0 => kept
  | j + 1 => match pend[j]? with
    | some p => crash1 keep torn cut j p (crashN keep torn cut kept pend j)
    | none => crashN keep torn cut kept pend j
theorem crashN_succ {keep : List Bool} {torn cut : Int} {kept : List Int} {pend : List (Int × List Int)} {k : Nat} {p : Int × List Int} (h : pend[k]? = some p) : crashN keep torn cut kept pend (k + 1) = crash1 keep torn cut k p (crashN keep torn cut kept pend k) := by
  rw [crashN, h]
/-- A pending write, read in place: and where it lies. -/
theorem pend_at2 {w : World} {base : Nat} {ok : Nat → Prop} {A : Option Addr} {N C : Nat} {pend : List (Int × List Int)} (h : Wr.R 70 w base ok (.slice A N C) pend) (k : Nat) (hk : k < N) (h32 : ∀ p ∈ pend, 0 < p.2.length) :
    ∃ gp gb cb p junk, A = some ⟨gp, 0, none⟩ ∧ pend[k]? = some p ∧ w.cell? ⟨gp, k * 2, none⟩ = some (.int .i64 p.1) ∧ w.cell? ⟨gp, k * 2 + 1, none⟩ = some (.slice (some ⟨gb, 0, none⟩) p.2.length cb) ∧ Blk w gb 5 (icells .u8 p.2 ++ junk) ∧ p.2.length ≤ cb ∧ ok gp ∧ ok gb := by
  have hn := (Kd.R_reads' h).1
  obtain ⟨gp, cap, he, _⟩ := Kd.R_form h (by omega)
  injection he with hA hN hC
  subst hA
  have hgp := h.1 gp (by simp [Value.ownBlock])
  obtain ⟨c, hcl, hM, hcc, _⟩ := Kd.R_elem h (0, []) (k : Int) (by omega) (by omega)
  obtain ⟨c0, c1, rfl, h0, v, rfl, hv⟩ := hM
  have h0 : c0 = [.int .i64 _] := h0
  subst h0
  rw [Int.toNat_natCast] at hcc hv
  have hp : pend[k]? = some (pend.getD k (0, [])) := by simp [show k < pend.length by omega]
  have hmem := List.mem_of_getElem? hp
  obtain ⟨gb, cb, junk, rfl, _, q2, q3, _, _, q6⟩ := R_open hv (h32 _ hmem)
  refine ⟨gp, gb, cb, pend.getD k (0, []), junk, rfl, hp, hcc 0 _ ?_, hcc 1 _ rfl, q6, q3, hgp, q2.1⟩
  simp
theorem crash_bad (g : Nat) (A : Option Addr) (n c : Nat) (t k : Int) (w : World) (h : k < 0 ∨ 32 < k) : Calls Try.prog 16 #[.pointer (some ⟨g, 0, none⟩), .slice A n c, .int .i64 t, .int .i64 k] w fun e w' => e = .returned (.int .i64 2) ∧ w = w' := by
  rcases h with h | h
  · go_enter Try.func16, Try.ntmps16
    go_wp2
    go_ret
    exact ⟨rfl, rfl⟩
  · go_enter Try.func16, Try.ntmps16
    go_wp2
    all_goals go_ret
    all_goals exact ⟨rfl, rfl⟩
set_option maxHeartbeats 4000000 in
set_option maxRecDepth 100000 in
theorem crash_ok (g ga ck gs cs n : Nat) (base : Nat) (okP : Nat → Prop) (kept seen : List Int) (pend : List (Int × List Int)) (life : Int) (jk js : List Value) (A : Option Addr) (N C : Nat) (KA : Option Addr) (KC : Nat) (keep : List Bool) (torn cut : Int) (w : World)
    (hD : Hid (Blk w g 67 [.slice (some ⟨ga, 0, none⟩) kept.length ck, .slice (some ⟨gs, 0, none⟩) seen.length cs, .slice A N C, .int .i64 life])) (hK : Hid (Blk w ga 5 (icells .u8 kept ++ jk))) (hS : Hid (Blk w gs 5 (icells .u8 seen ++ js)))
    (HP : Hid (Wr.R 70 w base (fun k => (okP k ∧ k ≠ ga) ∧ k ≠ gs) (.slice A N C) pend)) (hl : seen.length = n * 32) (hl' : kept.length = n * 32) (hn1 : 1 ≤ n) (hn : n ≤ 8192) (hks : ga ≠ gs) (hc0 : 0 ≤ cut) (hc1 : cut ≤ 32)
    (hKR : Hid (Kd.bool.C w KA keep.length keep)) (hKne : Hid (∀ ad, KA = some ad → 0 < keep.length → ad.block ≠ ga)) (hkc : keep.length ≤ KC) (hckl : Hid (kept.length ≤ ck)) (hpend : Hid (∀ p ∈ pend, (0 ≤ p.1 ∧ p.1 < n) ∧ p.2.length = 32)) (hpl : Hid ((pend.length + 1) * 32 ≤ 140737488355328)) :
    Calls Try.prog 16 #[.pointer (some ⟨g, 0, none⟩), .slice KA keep.length KC, .int .i64 torn, .int .i64 cut] w fun e w' => e = .returned (.int .i64 0) ∧
      Blk w' g 67 [.slice (some ⟨ga, 0, none⟩) kept.length ck, .slice (some ⟨gs, 0, none⟩) seen.length cs, .slice none 0 0, .int .i64 (-1)] ∧ Blk w' ga 5 (icells .u8 (crashN keep torn cut kept pend pend.length) ++ jk) ∧ Blk w' gs 5 (icells .u8 (crashN keep torn cut kept pend pend.length) ++ js) ∧
      Only w w' (fun k => k = g ∨ k = ga ∨ k = gs) := by
  obtain ⟨cn, rfl⟩ := Int.eq_ofNat_of_zero_le hc0
  have h2 := hD.out.cell_at 2 _ rfl
  have HL := Lib.hid hl
  have HL' := Lib.hid hl'
  clear hl hl'
  go_enter Try.func16, Try.ntmps16
  go_wp2_with fail
  have HN := Lib.hid (show N = pend.length from (Kd.R_reads' HP.out).1)
  have hlen : Hid (∀ j, (crashN keep torn (cn : Int) kept pend j).length = kept.length) := Lib.hid fun j => by
    induction j with
    | zero => rfl
    | succ j ih =>
      unfold crashN
      cases hp : pend[j]? with
      | none => exact ih
      | some p =>
        show (crash1 keep torn (cn : Int) j p _).length = _
        unfold crash1
        split
        · have hq := hpend.out p (List.mem_of_getElem? hp)
          rw [length_splice _ _ _ (by rw [List.length_take, ih, HL'.out, hq.2]; unfold cutAt; split <;> omega)]
          exact ih
        · exact ih
  go_loopg [27] N (fun m i wr => ∃ k : Nat, i = .int .i64 k ∧ Aside1 (k + m = N ∧ Blk wr ga 5 (icells .u8 (crashN keep torn (cn : Int) kept pend k) ++ jk) ∧ Only w wr (fun q => q = ga)))
  case atStart => exact ⟨0, rfl, ⟨Nat.zero_add _, hK.out, Only.refl _ _⟩⟩
  case round =>
    obtain ⟨k, rfl, hA⟩ := hrel
    by_cases hk : k < N
    · obtain ⟨hm, hB, hO⟩ := hA.out
      obtain ⟨gp, gb, cb, p, junk, rfl, e1, e2, e3, e4, e5, e6, e7⟩ := pend_at2 HP.out k hk (fun p hp => by have := (hpend.out p hp).2; omega)
      have x2 := (hO.cell (p := ⟨gp, k * 2, none⟩) (World.block_lt_of_cell? _ _ e2) e6.1.2).trans e2
      have x3 := (hO.cell (p := ⟨gp, k * 2 + 1, none⟩) (World.block_lt_of_cell? _ _ e3) e6.1.2).trans e3
      have hq := hpend.out p (List.mem_of_getElem? e1)
      obtain ⟨⟨q1, q2⟩, q3⟩ := hq
      rw [q3] at x3
      obtain ⟨s, hs⟩ := Int.eq_ofNat_of_zero_le q1
      rw [hs] at x2
      have PE := Lib.hid e1
      have PB := Lib.hid (e4.keep hO e7.1.2)
      have HB := Lib.hid hB
      have HO := Lib.hid hO
      have HM := Lib.hid hm
      have HS := Lib.hid hs
      have Q2 := Lib.hid (show s < n by omega)
      have Q3 := Lib.hid q3
      have GB := Lib.hid e7
      have CBL := Lib.hid (show 32 ≤ cb by omega)
      have h1 : (k : Int) < (N : Int) := by omega
      have h0 : (0 : Int) ≤ (k : Int) := by omega
      have hw1 : Hid (wrap64 ((k : Int) + 1) = ((k + 1 : Nat) : Int)) := Lib.hid (by have := hpl.out; have := HN.out; unfold wrap64; omega)
      have hgN : Hid (∀ k, g = k → k ≠ ga) := Lib.hid (fun q e => e ▸ Blk.ne_ hD.out hK.out (by decide))
      have y0 := (hO.cell (p := ⟨g, 0, none⟩) hD.out.lt (hgN.out g rfl)).trans (hD.out.cell_at 0 _ rfl)
      clear hA hB hO e1 e2 e3 e4 hm h2 e6 e7 hs q1 q2 q3
      by_cases hkl : k < keep.length
      · obtain ⟨ad, rfl, hkc2⟩ := Kd.at_bool hKR.out (k : Int) h0 (by omega)
        rw [Int.toNat_natCast] at hkc2
        have hkk := (HO.out.cell (p := ad.add k) (World.block_lt_of_cell? _ _ hkc2) (by rw [block_of_add]; exact hKne.out ad rfl (by omega))).trans hkc2
        have hkg : rdOf false keep (k : Int) = keep.getD k false := by show keep.getD (Int.toNat (k : Int)) false = _; rw [Int.toNat_natCast]
        rw [hkg] at hkk
        clear hkc2 hkg
        have hkl' : (k : Int) < (keep.length : Int) := by omega
        cases hkb : keep.getD k false with
        | false =>
          rw [hkb] at hkk
          have NK := Lib.hid hkb
          clear hkb
          have hkk2 : ∀ o, (wr.alloc o).cell? (ad.add k) = some (.bool false) := fun o => (((Below.refl wr.heap.size wr).alloc (Nat.le_refl _) o).cell (World.block_lt_of_cell? _ _ hkk)).trans hkk
          by_cases ht : (k : Int) = torn
          · have ht1 : ((k : Int) == torn) = true := by simpa using ht
            clear ht
            go_wp2
            go_roundg (gk - 1)
            case measure => have := HM.out; omega
            case rel => exact ⟨k + 1, congrArg (Value.int .i64) hw1.out, ⟨by have := HM.out; omega, by rw [crashN_succ PE.out, crash1, if_neg (by rw [NK.out]; decide)]; exact HB.out.alloc _, HO.out.alloc _⟩⟩
          · have ht1 : ((k : Int) == torn) = false := by simpa using ht
            clear ht
            go_wp2
            go_roundg (gk - 1)
            case measure => have := HM.out; omega
            case rel => exact ⟨k + 1, congrArg (Value.int .i64) hw1.out, ⟨by have := HM.out; omega, by rw [crashN_succ PE.out, crash1, if_neg (by rw [NK.out]; decide)]; exact HB.out.alloc _, HO.out.alloc _⟩⟩
        | true =>
          rw [hkb] at hkk
          have NK := Lib.hid hkb
          clear hkb
          have hkk2 : ∀ o, (wr.alloc o).cell? (ad.add k) = some (.bool true) := fun o => (((Below.refl wr.heap.size wr).alloc (Nat.le_refl _) o).cell (World.block_lt_of_cell? _ _ hkk)).trans hkk
          by_cases ht : (k : Int) = torn
          · have ht1 : ((k : Int) == torn) = true := by simpa using ht
            have HT := Lib.hid ht
            clear ht
            have CPY : Hid (∀ v : World, Blk v ga 5 (icells .u8 (crashN keep torn (cn : Int) kept pend k) ++ jk) → Blk v gb 5 (icells .u8 p.2 ++ junk) → (icells .u8 (p.2.take cn)).length = Nat.min cn 32 ∧ (∀ j u, (icells .u8 (p.2.take cn))[j]? = some u → v.drew.cell? (Addr.add ⟨gb, 0, none⟩ j) = some u) ∧ s * 32 + (icells .u8 (p.2.take cn)).length ≤ (icells .u8 (crashN keep torn (cn : Int) kept pend k) ++ jk).length) := Lib.hid fun v hb1 hb2 => by
              have hMM : cn ≤ 32 := by omega
              have hl3 : (p.2.take cn).length = cn := by rw [List.length_take, Q3.out]; omega
              refine ⟨by rw [icells_length, hl3]; exact (Nat.min_eq_left hMM).symm, fun j u hu => hb2.drew.at_ 0 cn (by rw [Q3.out]; omega) j u (by simpa using hu), ?_⟩
              rw [icells_length, hl3, List.length_append, icells_length, hlen.out k, HL'.out]
              have := Q2.out
              omega
            go_wp2_with fail
            have HLb := Lib.hid (show Blk (wr.alloc (.cells #[.int .i64 (s : Int), .slice (some ⟨gb, 0, none⟩) 32 cb] 70)) wr.heap.size 70 [.int .i64 (s : Int), .slice (some ⟨gb, 0, none⟩) 32 cb] from Blk.new _ _ _)
            have HBv := Lib.hid (HB.out.alloc (.cells #[.int .i64 (s : Int), .slice (some ⟨gb, 0, none⟩) 32 cb] 70))
            have PBv := Lib.hid (PB.out.alloc (.cells #[.int .i64 (s : Int), .slice (some ⟨gb, 0, none⟩) 32 cb] 70))
            have HOv := Lib.hid (HO.out.alloc (.cells #[.int .i64 (s : Int), .slice (some ⟨gb, 0, none⟩) 32 cb] 70))
            have yg := (HOv.out.cell (p := ⟨g, 0, none⟩) hD.out.lt (hgN.out g rfl)).trans (hD.out.cell_at 0 _ rfl)
            clear hkk2 hkk y0 x2 x3 HB PB HO
            generalize wr.alloc (.cells #[.int .i64 (s : Int), .slice (some ⟨gb, 0, none⟩) 32 cb] 70) = v0 at *
            generalize wr.heap.size = L at *
            have yl0 := HLb.out.cell_at 0 _ rfl
            have yl1 := HLb.out.cell_at 1 _ rfl
            have hLa : Hid (L ≠ ga) := Lib.hid (Blk.ne_ HLb.out HBv.out (by decide))
            have hLlt : Hid (L < v0.heap.size) := Lib.hid HLb.out.lt
            have hglt : Hid (g < v0.heap.size) := Lib.hid (World.block_lt_of_cell? _ _ yg)
            have hck : kept.length ≤ ck := hckl.out
            have HXl := Lib.hid (hlen.out k)
            have hcb : (32 : Nat) ≤ cb := CBL.out
            have hM : cn ≤ 32 := by omega
            have bb1 : (0 : Int) ≤ ((cn : Nat) : Int) := by omega
            have bb2 : ((cn : Nat) : Int) ≤ (cb : Int) := by omega
            have bb3 : cn ≤ cb := by omega
            have hsec1 : (s + 1) * 32 ≤ kept.length := by have := Q2.out; rw [HL'.out]; omega
            have hsec2 : kept.length ≤ 1000000 := by rw [HL'.out]; omega
            go_region_held3 (fun w' => w'.cell? ⟨L, 0, none⟩ = some (.int .i64 (s : Int)) ∧ w'.cell? ⟨L, 1, none⟩ = some (.slice (some ⟨gb, 0, none⟩) 32 cb) ∧ w'.cell? ⟨g, 0, none⟩ = some (.slice (some ⟨ga, 0, none⟩) kept.length ck)) (go_keep) (first
              | (refine step_copy_blk rfl (.tmp 52) (.tmp 56) 29 29 rfl 5 Try.underlying29 (by kernel_rfl) _ _ 32 _ cn _ rfl rfl ga (s * 32) _ 5 (Lib.hid HBv.out.drew) (icells .u8 (p.2.take cn)) (CPY.out v0 HBv.out PBv.out).1 (fun _ => ⟨rfl, _, rfl, (CPY.out v0 HBv.out PBv.out).2.1⟩) (CPY.out v0 HBv.out PBv.out).2.2 (icells_one _ _) ?_; intro w1 hB1 ho1; have u0 : w1.cell? ⟨L, 0, none⟩ = some (.int .i64 (s : Int)) := (ho1.out.cell (p := ⟨L, 0, none⟩) hLlt.out hLa.out).trans yl0; have u1 : w1.cell? ⟨L, 1, none⟩ = some (.slice (some ⟨gb, 0, none⟩) 32 cb) := (ho1.out.cell (p := ⟨L, 1, none⟩) hLlt.out hLa.out).trans yl1; have ug : w1.cell? ⟨g, 0, none⟩ = some (.slice (some ⟨ga, 0, none⟩) kept.length ck) := (ho1.out.cell (p := ⟨g, 0, none⟩) hglt.out (hgN.out g rfl)).trans yg)
              | (go_at_call 33; refine (sector_cells ga kept.length ck s _ hsec1 hsec2 hck).mono ?_; rintro e w' ⟨rfl, rfl⟩))
            all_goals
              have E1 : Hid (Blk w1 ga 5 (icells .u8 (crashN keep torn (cn : Int) kept pend (k + 1)) ++ jk)) := by
                have h9 := hB1.out
                have hl3 : (p.2.take cn).length ≤ 32 := by rw [List.length_take]; omega
                rw [splice_left _ _ _ _ (by rw [icells_length, icells_length, hlen.out k, HL'.out]; have := Q2.out; omega), icells_splice] at h9
                have hcut : cutAt torn (cn : Int) k = cn := by unfold cutAt; rw [if_pos HT.out]; exact Int.toNat_natCast cn
                rw [crashN_succ PE.out, crash1, if_pos NK.out, hcut, HS.out, Int.toNat_natCast]
                exact Lib.hid h9
              have O1 := Lib.hid ((HOv.out.drew).step ho1.out (fun _ _ h => h))
              clear hB1 ho1 u0 u1 ug yl0 yl1 yg HBv PBv HOv HLb CPY
              go_wp2
              go_roundg (gk - 1)
              case measure => have := HM.out; omega
              case rel => exact ⟨k + 1, congrArg (Value.int .i64) hw1.out, ⟨by have := HM.out; omega, E1.out, O1.out⟩⟩
          · have ht1 : ((k : Int) == torn) = false := by simpa using ht
            have HT := Lib.hid ht
            clear ht
            have CPY : Hid (∀ v : World, Blk v ga 5 (icells .u8 (crashN keep torn (cn : Int) kept pend k) ++ jk) → Blk v gb 5 (icells .u8 p.2 ++ junk) → (icells .u8 (p.2.take 32)).length = Nat.min 32 32 ∧ (∀ j u, (icells .u8 (p.2.take 32))[j]? = some u → v.drew.cell? (Addr.add ⟨gb, 0, none⟩ j) = some u) ∧ s * 32 + (icells .u8 (p.2.take 32)).length ≤ (icells .u8 (crashN keep torn (cn : Int) kept pend k) ++ jk).length) := Lib.hid fun v hb1 hb2 => by
              have hMM : 32 ≤ 32 := by omega
              have hl3 : (p.2.take 32).length = 32 := by rw [List.length_take, Q3.out]; omega
              refine ⟨by rw [icells_length, hl3]; exact (Nat.min_eq_left hMM).symm, fun j u hu => hb2.drew.at_ 0 32 (by rw [Q3.out]; omega) j u (by simpa using hu), ?_⟩
              rw [icells_length, hl3, List.length_append, icells_length, hlen.out k, HL'.out]
              have := Q2.out
              omega
            go_wp2_with fail
            have HLb := Lib.hid (show Blk (wr.alloc (.cells #[.int .i64 (s : Int), .slice (some ⟨gb, 0, none⟩) 32 cb] 70)) wr.heap.size 70 [.int .i64 (s : Int), .slice (some ⟨gb, 0, none⟩) 32 cb] from Blk.new _ _ _)
            have HBv := Lib.hid (HB.out.alloc (.cells #[.int .i64 (s : Int), .slice (some ⟨gb, 0, none⟩) 32 cb] 70))
            have PBv := Lib.hid (PB.out.alloc (.cells #[.int .i64 (s : Int), .slice (some ⟨gb, 0, none⟩) 32 cb] 70))
            have HOv := Lib.hid (HO.out.alloc (.cells #[.int .i64 (s : Int), .slice (some ⟨gb, 0, none⟩) 32 cb] 70))
            have yg := (HOv.out.cell (p := ⟨g, 0, none⟩) hD.out.lt (hgN.out g rfl)).trans (hD.out.cell_at 0 _ rfl)
            clear hkk2 hkk y0 x2 x3 HB PB HO
            generalize wr.alloc (.cells #[.int .i64 (s : Int), .slice (some ⟨gb, 0, none⟩) 32 cb] 70) = v0 at *
            generalize wr.heap.size = L at *
            have yl0 := HLb.out.cell_at 0 _ rfl
            have yl1 := HLb.out.cell_at 1 _ rfl
            have hLa : Hid (L ≠ ga) := Lib.hid (Blk.ne_ HLb.out HBv.out (by decide))
            have hLlt : Hid (L < v0.heap.size) := Lib.hid HLb.out.lt
            have hglt : Hid (g < v0.heap.size) := Lib.hid (World.block_lt_of_cell? _ _ yg)
            have hck : kept.length ≤ ck := hckl.out
            have HXl := Lib.hid (hlen.out k)
            have hcb : (32 : Nat) ≤ cb := CBL.out
            have hM : 32 ≤ 32 := by omega
            have bb1 : (0 : Int) ≤ ((32 : Nat) : Int) := by omega
            have bb2 : ((32 : Nat) : Int) ≤ (cb : Int) := by omega
            have bb3 : 32 ≤ cb := by omega
            have bb4 : (32 : Int) ≤ (cb : Int) := by omega
            have hsec1 : (s + 1) * 32 ≤ kept.length := by have := Q2.out; rw [HL'.out]; omega
            have hsec2 : kept.length ≤ 1000000 := by rw [HL'.out]; omega
            go_region_held3 (fun w' => w'.cell? ⟨L, 0, none⟩ = some (.int .i64 (s : Int)) ∧ w'.cell? ⟨L, 1, none⟩ = some (.slice (some ⟨gb, 0, none⟩) 32 cb) ∧ w'.cell? ⟨g, 0, none⟩ = some (.slice (some ⟨ga, 0, none⟩) kept.length ck)) (go_keep) (first
              | (refine step_copy_blk rfl (.tmp 52) (.tmp 56) 29 29 rfl 5 Try.underlying29 (by kernel_rfl) _ _ 32 _ 32 _ rfl rfl ga (s * 32) _ 5 (Lib.hid HBv.out.drew) (icells .u8 (p.2.take 32)) (CPY.out v0 HBv.out PBv.out).1 (fun _ => ⟨rfl, _, rfl, (CPY.out v0 HBv.out PBv.out).2.1⟩) (CPY.out v0 HBv.out PBv.out).2.2 (icells_one _ _) ?_; intro w1 hB1 ho1; have u0 : w1.cell? ⟨L, 0, none⟩ = some (.int .i64 (s : Int)) := (ho1.out.cell (p := ⟨L, 0, none⟩) hLlt.out hLa.out).trans yl0; have u1 : w1.cell? ⟨L, 1, none⟩ = some (.slice (some ⟨gb, 0, none⟩) 32 cb) := (ho1.out.cell (p := ⟨L, 1, none⟩) hLlt.out hLa.out).trans yl1; have ug : w1.cell? ⟨g, 0, none⟩ = some (.slice (some ⟨ga, 0, none⟩) kept.length ck) := (ho1.out.cell (p := ⟨g, 0, none⟩) hglt.out (hgN.out g rfl)).trans yg)
              | (go_at_call 33; refine (sector_cells ga kept.length ck s _ hsec1 hsec2 hck).mono ?_; rintro e w' ⟨rfl, rfl⟩))
            all_goals
              have E1 : Hid (Blk w1 ga 5 (icells .u8 (crashN keep torn (cn : Int) kept pend (k + 1)) ++ jk)) := by
                have h9 := hB1.out
                have hl3 : (p.2.take 32).length ≤ 32 := by rw [List.length_take]; omega
                rw [splice_left _ _ _ _ (by rw [icells_length, icells_length, hlen.out k, HL'.out]; have := Q2.out; omega), icells_splice] at h9
                have hcut : cutAt torn (cn : Int) k = 32 := by unfold cutAt; rw [if_neg HT.out]
                rw [crashN_succ PE.out, crash1, if_pos NK.out, hcut, HS.out, Int.toNat_natCast]
                exact Lib.hid h9
              have O1 := Lib.hid ((HOv.out.drew).step ho1.out (fun _ _ h => h))
              clear hB1 ho1 u0 u1 ug yl0 yl1 yg HBv PBv HOv HLb CPY
              go_wp2
              go_roundg (gk - 1)
              case measure => have := HM.out; omega
              case rel => exact ⟨k + 1, congrArg (Value.int .i64) hw1.out, ⟨by have := HM.out; omega, E1.out, O1.out⟩⟩
      · have NK : Hid (keep.getD k false = false) := Lib.hid (by simp [List.getD_eq_getElem?_getD, List.getElem?_eq_none (show keep.length ≤ k by omega)])
        have hkl' : ¬ (k : Int) < (keep.length : Int) := by omega
        by_cases ht : (k : Int) = torn
        · have ht1 : ((k : Int) == torn) = true := by simpa using ht
          have HT := Lib.hid ht
          clear ht
          go_wp2
          go_roundg (gk - 1)
          case measure => have := HM.out; omega
          case rel => exact ⟨k + 1, congrArg (Value.int .i64) hw1.out, ⟨by have := HM.out; omega, by rw [crashN_succ PE.out, crash1, if_neg (by rw [NK.out]; decide)]; exact HB.out.alloc _, HO.out.alloc _⟩⟩
        · have ht1 : ((k : Int) == torn) = false := by simpa using ht
          have HT := Lib.hid ht
          clear ht
          go_wp2
          go_roundg (gk - 1)
          case measure => have := HM.out; omega
          case rel => exact ⟨k + 1, congrArg (Value.int .i64) hw1.out, ⟨by have := HM.out; omega, by rw [crashN_succ PE.out, crash1, if_neg (by rw [NK.out]; decide)]; exact HB.out.alloc _, HO.out.alloc _⟩⟩
    · obtain ⟨hm, hB, hO⟩ := hA.out
      have hkN : k = pend.length := by have := HN.out; omega
      subst hkN
      have HB := Lib.hid hB
      have HO := Lib.hid hO
      have hga : Hid (g ≠ ga) := Lib.hid (Blk.ne_ hD.out hK.out (by decide))
      have hgs : Hid (g ≠ gs) := Lib.hid (Blk.ne_ hD.out hS.out (by decide))
      have D1 := Lib.hid (hD.out.keep hO hga.out)
      have S1 := Lib.hid (hS.out.keep hO (Ne.symm hks))
      have y0 := D1.out.cell_at 0 _ rfl
      have y1 := D1.out.cell_at 1 _ rfl
      clear hA hB hO hm h2
      generalize hX : crashN keep torn (cn : Int) kept pend pend.length = X at *
      have hXl : Hid (X.length = n * 32) := Lib.hid (by rw [← hX, hlen.out, HL'.out])
      have HX := Lib.hid hX
      clear hX
      go_wp2_with fail
      go_region_law (refine step_copy_blk rfl (.tmp 62) (.tmp 66) 29 29 rfl 5 Try.underlying29 (by kernel_rfl) _ _ _ _ _ _ rfl rfl gs 0 _ 5 (Lib.hid S1.out.drew) (icells .u8 X) (by rw [icells_length, HL.out, HL'.out, hXl.out]; exact (Nat.min_self _).symm) (fun _ => ⟨rfl, _, rfl, fun j v hv => HB.out.drew.at_ 0 X.length (by omega) j v (by simpa using hv)⟩) (by rw [icells_length, List.length_append, icells_length, HL.out, hXl.out]; omega) (icells_one _ _) ?_; intro w1 hS1 ho1)
      all_goals
        have D2 := Lib.hid (D1.out.drew.keep ho1.out hgs.out)
        have K2 := Lib.hid (HB.out.drew.keep ho1.out hks)
        have O2 := Lib.hid (((HO.out.mono (S' := fun q => q = g ∨ q = ga ∨ q = gs) (fun _ _ h => .inr (.inl h))).drew).step ho1.out (fun _ _ h => .inr (.inr h)))
        have z2 := D2.out.cell_at 2 _ rfl
        have f2 := D2.out.frozen 2
        have z3 := D2.out.cell_at 3 _ rfl
        have f3 := D2.out.frozen 3
        clear y0 y1 D1 HB HO S1
        go_wp2_with fail
        go_ret
        rw [HX.out]
        refine ⟨rfl, (D2.out.set_ 2 _).set_ 3 _, (K2.out.far (p := ⟨g, 2, none⟩) (Ne.symm hga.out) _).far (p := ⟨g, 3, none⟩) (Ne.symm hga.out) _, ?_, (O2.out.setCell (p := ⟨g, 2, none⟩) (fun _ => .inl rfl) _).setCell (p := ⟨g, 3, none⟩) (fun _ => .inl rfl) _⟩
        have h9 := (hS1.out.far (p := ⟨g, 2, none⟩) (Ne.symm hgs.out) (.slice none 0 0)).far (p := ⟨g, 3, none⟩) (Ne.symm hgs.out) (.int .i64 (-1))
        rwa [splice_all _ _ _ (by rw [icells_length, icells_length, HL.out, hXl.out])] at h9
end Go.Proofs.Ytgiidddmhnnnjaa.Dk
