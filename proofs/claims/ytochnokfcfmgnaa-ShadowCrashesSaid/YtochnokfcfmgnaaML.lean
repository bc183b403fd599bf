/- Texts merged: a section each. -/
import Derived.Test.YtochnokfcfmgnaaMA
import Derived.Deep.RegionHeld3
import Derived.Test.YtochnokfcfmgnaaMP
import Derived.Test.YtochnokfcfmgnaaMC
import Derived.Deep.RegionLaw
section
/- The contract of Copy. -/
namespace Go.Proofs.Ytochnokfcfmgnaa.Dk
open Go.RowKit Go.Proofs.Ytochnokfcfmgnaa.Mem Go.Proofs.YtochnokfcfmgnaaW.PrintWords
set_option linter.unusedVariables false
set_option linter.unusedSimpArgs false
end Go.Proofs.Ytochnokfcfmgnaa.Dk
end

section
/- The contract of Crash. -/
namespace Go.Proofs.Ytochnokfcfmgnaa.Dk
open Go.RowKit Go.Proofs.Ytochnokfcfmgnaa.Mem Go.Proofs.YtochnokfcfmgnaaW.PrintWords
set_option linter.unusedVariables false
set_option linter.unusedSimpArgs false
/-- What is kept of one pending write: of write i as many bytes as this. -/
def cutAt (torn cut : Int) (i : Nat) : Nat := if (i : Int) = torn then cut.toNat else 32
def crash1 (keep : List Bool) (torn cut : Int) (i : Nat) (p : Int × List Int) (k : List Int) : List Int := if keep.getD i false = true then splice k (p.1.toNat * 32) (p.2.take (cutAt torn cut i)) else k
/-- What lies kept behind the first j writes. -/
def crashN (keep : List Bool) (torn cut : Int) (kept : List Int) (pend : List (Int × List Int)) : Nat → List Int
  | 0 => kept
  | j + 1 => match pend[j]? with
    | some p => crash1 keep torn cut j p (crashN keep torn cut kept pend j)
    | none => crashN keep torn cut kept pend j
theorem crashN_succ {keep : List Bool} {torn cut : Int} {kept : List Int} {pend : List (Int × List Int)} {k : Nat} {p : Int × List Int} (h : pend[k]? = some p) : crashN keep torn cut kept pend (k + 1) = crash1 keep torn cut k p (crashN keep torn cut kept pend k) := by
  rw [crashN, h]
/-- A pending write, read in place: and where it lies. -/
theorem pend_at2 {w : World} {base : Nat} {ok : Nat → Prop} {A : Option Addr} {N C : Nat} {pend : List (Int × List Int)} (h : Wr.R 98 w base ok (.slice A N C) pend) (k : Nat) (hk : k < N) (h32 : ∀ p ∈ pend, 0 < p.2.length) :
    ∃ gp gb cb p junk, A = some ⟨gp, 0, none⟩ ∧ pend[k]? = some p ∧ w.cell? ⟨gp, k * 2, none⟩ = some (.int .i64 p.1) ∧ w.cell? ⟨gp, k * 2 + 1, none⟩ = some (.slice (some ⟨gb, 0, none⟩) p.2.length cb) ∧ Blk w gb 5 (icells .u8 p.2 ++ junk) ∧ p.2.length ≤ cb ∧ ok gp ∧ ok gb := by
  have hn := (Kd.R_reads' h).1
  obtain ⟨gp, cap, he, _⟩ := Kd.R_form h (by omega)
  injection he with hA hN hC
  subst hA
  have hgp := h.1 gp (by simp [Value.ownBlock])
  obtain ⟨c, hcl, hM, hcc, _⟩ := Kd.R_elem h (0, []) (k : Int) (by omega) (by omega)
  obtain ⟨c0, c1, rfl, h0, v, rfl, hv⟩ := hM
  have h0 : c0 = [.int .i64 _] := h0
  subst h0
  rw [Int.toNat_natCast] at hcc hv
  have hp : pend[k]? = some (pend.getD k (0, [])) := by simp [show k < pend.length by omega]
  have hmem := List.mem_of_getElem? hp
  obtain ⟨gb, cb, junk, rfl, _, q2, q3, _, _, q6⟩ := R_open hv (h32 _ hmem)
  refine ⟨gp, gb, cb, pend.getD k (0, []), junk, rfl, hp, hcc 0 _ ?_, hcc 1 _ rfl, q6, q3, hgp, q2.1⟩
  simp
set_option maxHeartbeats 4000000 in
set_option maxRecDepth 100000 in
theorem crash_ok (g ga ck gs cs n : Nat) (base : Nat) (okP : Nat → Prop) (kept seen : List Int) (pend : List (Int × List Int)) (life : Int) (jk js : List Value) (A : Option Addr) (N C : Nat) (KA : Option Addr) (KC : Nat) (keep : List Bool) (torn cut : Int) (w : World)
    (hD : Hid (Blk w g 93 [.slice (some ⟨ga, 0, none⟩) kept.length ck, .slice (some ⟨gs, 0, none⟩) seen.length cs, .slice A N C, .int .i64 life])) (hK : Hid (Blk w ga 5 (icells .u8 kept ++ jk))) (hS : Hid (Blk w gs 5 (icells .u8 seen ++ js)))
    (HP : Hid (Wr.R 98 w base (fun k => (okP k ∧ k ≠ ga) ∧ k ≠ gs) (.slice A N C) pend)) (hl : seen.length = n * 32) (hl' : kept.length = n * 32) (hn1 : 1 ≤ n) (hn : n ≤ 8192) (hks : ga ≠ gs) (hc0 : 0 ≤ cut) (hc1 : cut ≤ 32)
    (hKR : Hid (Kd.bool.C w KA keep.length keep)) (hKne : Hid (∀ ad, KA = some ad → 0 < keep.length → ad.block ≠ ga)) (hkc : keep.length ≤ KC) (hckl : Hid (kept.length ≤ ck)) (hpend : Hid (∀ p ∈ pend, (0 ≤ p.1 ∧ p.1 < n) ∧ p.2.length = 32)) (hpl : Hid ((pend.length + 1) * 32 ≤ 140737488355328)) :
    Calls Try.prog 30 #[.pointer (some ⟨g, 0, none⟩), .slice KA keep.length KC, .int .i64 torn, .int .i64 cut] w fun e w' => e = .returned (.int .i64 0) ∧
      Blk w' g 93 [.slice (some ⟨ga, 0, none⟩) kept.length ck, .slice (some ⟨gs, 0, none⟩) seen.length cs, .slice none 0 0, .int .i64 (-1)] ∧ Blk w' ga 5 (icells .u8 (crashN keep torn cut kept pend pend.length) ++ jk) ∧ Blk w' gs 5 (icells .u8 (crashN keep torn cut kept pend pend.length) ++ js) ∧
      Only w w' (fun k => k = g ∨ k = ga ∨ k = gs) := by
  obtain ⟨cn, rfl⟩ := Int.eq_ofNat_of_zero_le hc0
  have h2 := hD.out.cell_at 2 _ rfl
  have HL := Lib.hid hl
  have HL' := Lib.hid hl'
  clear hl hl'
  go_enter Try.func30, Try.ntmps30
  go_wp2_with fail
  have HN := Lib.hid (show N = pend.length from (Kd.R_reads' HP.out).1)
  have hlen : Hid (∀ j, (crashN keep torn (cn : Int) kept pend j).length = kept.length) := Lib.hid fun j => by
    induction j with
    | zero => rfl
    | succ j ih =>
      unfold crashN
      cases hp : pend[j]? with
      | none => exact ih
      | some p =>
        show (crash1 keep torn (cn : Int) j p _).length = _
        unfold crash1
        split
        · have hq := hpend.out p (List.mem_of_getElem? hp)
          rw [length_splice _ _ _ (by rw [List.length_take, ih, HL'.out, hq.2]; unfold cutAt; split <;> omega)]
          exact ih
        · exact ih
  go_loopg [27] N (fun m i wr => ∃ k : Nat, i = .int .i64 k ∧ Aside1 (k + m = N ∧ Blk wr ga 5 (icells .u8 (crashN keep torn (cn : Int) kept pend k) ++ jk) ∧ Only w wr (fun q => q = ga)))
  case atStart => exact ⟨0, rfl, ⟨Nat.zero_add _, hK.out, Only.refl _ _⟩⟩
  case round =>
    obtain ⟨k, rfl, hA⟩ := hrel
    by_cases hk : k < N
    · obtain ⟨hm, hB, hO⟩ := hA.out
      obtain ⟨gp, gb, cb, p, junk, rfl, e1, e2, e3, e4, e5, e6, e7⟩ := pend_at2 HP.out k hk (fun p hp => by have := (hpend.out p hp).2; omega)
      have x2 := (hO.cell (p := ⟨gp, k * 2, none⟩) (World.block_lt_of_cell? _ _ e2) e6.1.2).trans e2
      have x3 := (hO.cell (p := ⟨gp, k * 2 + 1, none⟩) (World.block_lt_of_cell? _ _ e3) e6.1.2).trans e3
      have hq := hpend.out p (List.mem_of_getElem? e1)
      obtain ⟨⟨q1, q2⟩, q3⟩ := hq
      rw [q3] at x3
      obtain ⟨s, hs⟩ := Int.eq_ofNat_of_zero_le q1
      rw [hs] at x2
      have PE := Lib.hid e1
      have PB := Lib.hid (e4.keep hO e7.1.2)
      have HB := Lib.hid hB
      have HO := Lib.hid hO
      have HM := Lib.hid hm
      have HS := Lib.hid hs
      have Q2 := Lib.hid (show s < n by omega)
      have Q3 := Lib.hid q3
      have GB := Lib.hid e7
      have CBL := Lib.hid (show 32 ≤ cb by omega)
      have h1 : (k : Int) < (N : Int) := by omega
      have h0 : (0 : Int) ≤ (k : Int) := by omega
      have hw1 : Hid (wrap64 ((k : Int) + 1) = ((k + 1 : Nat) : Int)) := Lib.hid (by have := hpl.out; have := HN.out; unfold wrap64; omega)
      have hgN : Hid (∀ k, g = k → k ≠ ga) := Lib.hid (fun q e => e ▸ Blk.ne_ hD.out hK.out (by decide))
      have y0 := (hO.cell (p := ⟨g, 0, none⟩) hD.out.lt (hgN.out g rfl)).trans (hD.out.cell_at 0 _ rfl)
      clear hA hB hO e1 e2 e3 e4 hm h2 e6 e7 hs q1 q2 q3
      by_cases hkl : k < keep.length
      · obtain ⟨ad, rfl, hkc2⟩ := Kd.at_bool hKR.out (k : Int) h0 (by omega)
        rw [Int.toNat_natCast] at hkc2
        have hkk := (HO.out.cell (p := ad.add k) (World.block_lt_of_cell? _ _ hkc2) (by rw [block_of_add]; exact hKne.out ad rfl (by omega))).trans hkc2
        have hkg : rdOf false keep (k : Int) = keep.getD k false := by show keep.getD (Int.toNat (k : Int)) false = _; rw [Int.toNat_natCast]
        rw [hkg] at hkk
        clear hkc2 hkg
        have hkl' : (k : Int) < (keep.length : Int) := by omega
        cases hkb : keep.getD k false with
        | false =>
          rw [hkb] at hkk
          have NK := Lib.hid hkb
          clear hkb
          have hkk2 : ∀ o, (wr.alloc o).cell? (ad.add k) = some (.bool false) := fun o => (((Below.refl wr.heap.size wr).alloc (Nat.le_refl _) o).cell (World.block_lt_of_cell? _ _ hkk)).trans hkk
          by_cases ht : (k : Int) = torn
          · have ht1 : ((k : Int) == torn) = true := by simpa using ht
            clear ht
            go_wp2
            go_roundg (gk - 1)
            case measure => have := HM.out; omega
            case rel => exact ⟨k + 1, congrArg (Value.int .i64) hw1.out, ⟨by have := HM.out; omega, by rw [crashN_succ PE.out, crash1, if_neg (by rw [NK.out]; decide)]; exact HB.out.alloc _, HO.out.alloc _⟩⟩
          · have ht1 : ((k : Int) == torn) = false := by simpa using ht
            clear ht
            go_wp2
            go_roundg (gk - 1)
            case measure => have := HM.out; omega
            case rel => exact ⟨k + 1, congrArg (Value.int .i64) hw1.out, ⟨by have := HM.out; omega, by rw [crashN_succ PE.out, crash1, if_neg (by rw [NK.out]; decide)]; exact HB.out.alloc _, HO.out.alloc _⟩⟩
        | true =>
          rw [hkb] at hkk
          have NK := Lib.hid hkb
          clear hkb
          have hkk2 : ∀ o, (wr.alloc o).cell? (ad.add k) = some (.bool true) := fun o => (((Below.refl wr.heap.size wr).alloc (Nat.le_refl _) o).cell (World.block_lt_of_cell? _ _ hkk)).trans hkk
          by_cases ht : (k : Int) = torn
          · have ht1 : ((k : Int) == torn) = true := by simpa using ht
            have HT := Lib.hid ht
            clear ht
            have CPY : Hid (∀ v : World, Blk v ga 5 (icells .u8 (crashN keep torn (cn : Int) kept pend k) ++ jk) → Blk v gb 5 (icells .u8 p.2 ++ junk) → (icells .u8 (p.2.take cn)).length = Nat.min cn 32 ∧ (∀ j u, (icells .u8 (p.2.take cn))[j]? = some u → v.drew.cell? (Addr.add ⟨gb, 0, none⟩ j) = some u) ∧ s * 32 + (icells .u8 (p.2.take cn)).length ≤ (icells .u8 (crashN keep torn (cn : Int) kept pend k) ++ jk).length) := Lib.hid fun v hb1 hb2 => by
              have hMM : cn ≤ 32 := by omega
              have hl3 : (p.2.take cn).length = cn := by rw [List.length_take, Q3.out]; omega
              refine ⟨by rw [icells_length, hl3]; exact (Nat.min_eq_left hMM).symm, fun j u hu => hb2.drew.at_ 0 cn (by rw [Q3.out]; omega) j u (by simpa using hu), ?_⟩
              rw [icells_length, hl3, List.length_append, icells_length, hlen.out k, HL'.out]
              have := Q2.out
              omega
            go_wp2_with fail
            have HLb := Lib.hid (show Blk (wr.alloc (.cells #[.int .i64 (s : Int), .slice (some ⟨gb, 0, none⟩) 32 cb] 98)) wr.heap.size 98 [.int .i64 (s : Int), .slice (some ⟨gb, 0, none⟩) 32 cb] from Blk.new _ _ _)
            have HBv := Lib.hid (HB.out.alloc (.cells #[.int .i64 (s : Int), .slice (some ⟨gb, 0, none⟩) 32 cb] 98))
            have PBv := Lib.hid (PB.out.alloc (.cells #[.int .i64 (s : Int), .slice (some ⟨gb, 0, none⟩) 32 cb] 98))
            have HOv := Lib.hid (HO.out.alloc (.cells #[.int .i64 (s : Int), .slice (some ⟨gb, 0, none⟩) 32 cb] 98))
            have yg := (HOv.out.cell (p := ⟨g, 0, none⟩) hD.out.lt (hgN.out g rfl)).trans (hD.out.cell_at 0 _ rfl)
            clear hkk2 hkk y0 x2 x3 HB PB HO
            generalize wr.alloc (.cells #[.int .i64 (s : Int), .slice (some ⟨gb, 0, none⟩) 32 cb] 98) = v0 at *
            generalize wr.heap.size = L at *
            have yl0 := HLb.out.cell_at 0 _ rfl
            have yl1 := HLb.out.cell_at 1 _ rfl
            have hLa : Hid (L ≠ ga) := Lib.hid (Blk.ne_ HLb.out HBv.out (by decide))
            have hLlt : Hid (L < v0.heap.size) := Lib.hid HLb.out.lt
            have hglt : Hid (g < v0.heap.size) := Lib.hid (World.block_lt_of_cell? _ _ yg)
            have hck : kept.length ≤ ck := hckl.out
            have HXl := Lib.hid (hlen.out k)
            have hcb : (32 : Nat) ≤ cb := CBL.out
            have hM : cn ≤ 32 := by omega
            have bb1 : (0 : Int) ≤ ((cn : Nat) : Int) := by omega
            have bb2 : ((cn : Nat) : Int) ≤ (cb : Int) := by omega
            have bb3 : cn ≤ cb := by omega
            have hsec1 : (s + 1) * 32 ≤ kept.length := by have := Q2.out; rw [HL'.out]; omega
            have hsec2 : kept.length ≤ 1000000 := by rw [HL'.out]; omega
            go_region_held3 (fun w' => w'.cell? ⟨L, 0, none⟩ = some (.int .i64 (s : Int)) ∧ w'.cell? ⟨L, 1, none⟩ = some (.slice (some ⟨gb, 0, none⟩) 32 cb) ∧ w'.cell? ⟨g, 0, none⟩ = some (.slice (some ⟨ga, 0, none⟩) kept.length ck)) (go_keep) (first
              | (refine step_copy_blk rfl (.tmp 52) (.tmp 56) 23 23 rfl 5 Try.underlying23 (by kernel_rfl) _ _ 32 _ cn _ rfl rfl ga (s * 32) _ 5 (Lib.hid HBv.out.drew) (icells .u8 (p.2.take cn)) (CPY.out v0 HBv.out PBv.out).1 (fun _ => ⟨rfl, _, rfl, (CPY.out v0 HBv.out PBv.out).2.1⟩) (CPY.out v0 HBv.out PBv.out).2.2 (icells_one _ _) ?_; intro w1 hB1 ho1; have u0 : w1.cell? ⟨L, 0, none⟩ = some (.int .i64 (s : Int)) := (ho1.out.cell (p := ⟨L, 0, none⟩) hLlt.out hLa.out).trans yl0; have u1 : w1.cell? ⟨L, 1, none⟩ = some (.slice (some ⟨gb, 0, none⟩) 32 cb) := (ho1.out.cell (p := ⟨L, 1, none⟩) hLlt.out hLa.out).trans yl1; have ug : w1.cell? ⟨g, 0, none⟩ = some (.slice (some ⟨ga, 0, none⟩) kept.length ck) := (ho1.out.cell (p := ⟨g, 0, none⟩) hglt.out (hgN.out g rfl)).trans yg)
              | (go_at_call 51; refine (sector_cells ga kept.length ck s _ hsec1 hsec2 hck).mono ?_; rintro e w' ⟨rfl, rfl⟩))
            all_goals
              have E1 : Hid (Blk w1 ga 5 (icells .u8 (crashN keep torn (cn : Int) kept pend (k + 1)) ++ jk)) := by
                have h9 := hB1.out
                have hl3 : (p.2.take cn).length ≤ 32 := by rw [List.length_take]; omega
                rw [splice_left _ _ _ _ (by rw [icells_length, icells_length, hlen.out k, HL'.out]; have := Q2.out; omega), icells_splice] at h9
                have hcut : cutAt torn (cn : Int) k = cn := by unfold cutAt; rw [if_pos HT.out]; exact Int.toNat_natCast cn
                rw [crashN_succ PE.out, crash1, if_pos NK.out, hcut, HS.out, Int.toNat_natCast]
                exact Lib.hid h9
              have O1 := Lib.hid ((HOv.out.drew).step ho1.out (fun _ _ h => h))
              clear hB1 ho1 u0 u1 ug yl0 yl1 yg HBv PBv HOv HLb CPY
              go_wp2
              go_roundg (gk - 1)
              case measure => have := HM.out; omega
              case rel => exact ⟨k + 1, congrArg (Value.int .i64) hw1.out, ⟨by have := HM.out; omega, E1.out, O1.out⟩⟩
          · have ht1 : ((k : Int) == torn) = false := by simpa using ht
            have HT := Lib.hid ht
            clear ht
            have CPY : Hid (∀ v : World, Blk v ga 5 (icells .u8 (crashN keep torn (cn : Int) kept pend k) ++ jk) → Blk v gb 5 (icells .u8 p.2 ++ junk) → (icells .u8 (p.2.take 32)).length = Nat.min 32 32 ∧ (∀ j u, (icells .u8 (p.2.take 32))[j]? = some u → v.drew.cell? (Addr.add ⟨gb, 0, none⟩ j) = some u) ∧ s * 32 + (icells .u8 (p.2.take 32)).length ≤ (icells .u8 (crashN keep torn (cn : Int) kept pend k) ++ jk).length) := Lib.hid fun v hb1 hb2 => by
              have hMM : 32 ≤ 32 := by omega
              have hl3 : (p.2.take 32).length = 32 := by rw [List.length_take, Q3.out]; omega
              refine ⟨by rw [icells_length, hl3]; exact (Nat.min_eq_left hMM).symm, fun j u hu => hb2.drew.at_ 0 32 (by rw [Q3.out]; omega) j u (by simpa using hu), ?_⟩
              rw [icells_length, hl3, List.length_append, icells_length, hlen.out k, HL'.out]
              have := Q2.out
              omega
            go_wp2_with fail
            have HLb := Lib.hid (show Blk (wr.alloc (.cells #[.int .i64 (s : Int), .slice (some ⟨gb, 0, none⟩) 32 cb] 98)) wr.heap.size 98 [.int .i64 (s : Int), .slice (some ⟨gb, 0, none⟩) 32 cb] from Blk.new _ _ _)
            have HBv := Lib.hid (HB.out.alloc (.cells #[.int .i64 (s : Int), .slice (some ⟨gb, 0, none⟩) 32 cb] 98))
            have PBv := Lib.hid (PB.out.alloc (.cells #[.int .i64 (s : Int), .slice (some ⟨gb, 0, none⟩) 32 cb] 98))
            have HOv := Lib.hid (HO.out.alloc (.cells #[.int .i64 (s : Int), .slice (some ⟨gb, 0, none⟩) 32 cb] 98))
            have yg := (HOv.out.cell (p := ⟨g, 0, none⟩) hD.out.lt (hgN.out g rfl)).trans (hD.out.cell_at 0 _ rfl)
            clear hkk2 hkk y0 x2 x3 HB PB HO
            generalize wr.alloc (.cells #[.int .i64 (s : Int), .slice (some ⟨gb, 0, none⟩) 32 cb] 98) = v0 at *
            generalize wr.heap.size = L at *
            have yl0 := HLb.out.cell_at 0 _ rfl
            have yl1 := HLb.out.cell_at 1 _ rfl
            have hLa : Hid (L ≠ ga) := Lib.hid (Blk.ne_ HLb.out HBv.out (by decide))
            have hLlt : Hid (L < v0.heap.size) := Lib.hid HLb.out.lt
            have hglt : Hid (g < v0.heap.size) := Lib.hid (World.block_lt_of_cell? _ _ yg)
            have hck : kept.length ≤ ck := hckl.out
            have HXl := Lib.hid (hlen.out k)
            have hcb : (32 : Nat) ≤ cb := CBL.out
            have hM : 32 ≤ 32 := by omega
            have bb1 : (0 : Int) ≤ ((32 : Nat) : Int) := by omega
            have bb2 : ((32 : Nat) : Int) ≤ (cb : Int) := by omega
            have bb3 : 32 ≤ cb := by omega
            have bb4 : (32 : Int) ≤ (cb : Int) := by omega
            have hsec1 : (s + 1) * 32 ≤ kept.length := by have := Q2.out; rw [HL'.out]; omega
            have hsec2 : kept.length ≤ 1000000 := by rw [HL'.out]; omega
            go_region_held3 (fun w' => w'.cell? ⟨L, 0, none⟩ = some (.int .i64 (s : Int)) ∧ w'.cell? ⟨L, 1, none⟩ = some (.slice (some ⟨gb, 0, none⟩) 32 cb) ∧ w'.cell? ⟨g, 0, none⟩ = some (.slice (some ⟨ga, 0, none⟩) kept.length ck)) (go_keep) (first
              | (refine step_copy_blk rfl (.tmp 52) (.tmp 56) 23 23 rfl 5 Try.underlying23 (by kernel_rfl) _ _ 32 _ 32 _ rfl rfl ga (s * 32) _ 5 (Lib.hid HBv.out.drew) (icells .u8 (p.2.take 32)) (CPY.out v0 HBv.out PBv.out).1 (fun _ => ⟨rfl, _, rfl, (CPY.out v0 HBv.out PBv.out).2.1⟩) (CPY.out v0 HBv.out PBv.out).2.2 (icells_one _ _) ?_; intro w1 hB1 ho1; have u0 : w1.cell? ⟨L, 0, none⟩ = some (.int .i64 (s : Int)) := (ho1.out.cell (p := ⟨L, 0, none⟩) hLlt.out hLa.out).trans yl0; have u1 : w1.cell? ⟨L, 1, none⟩ = some (.slice (some ⟨gb, 0, none⟩) 32 cb) := (ho1.out.cell (p := ⟨L, 1, none⟩) hLlt.out hLa.out).trans yl1; have ug : w1.cell? ⟨g, 0, none⟩ = some (.slice (some ⟨ga, 0, none⟩) kept.length ck) := (ho1.out.cell (p := ⟨g, 0, none⟩) hglt.out (hgN.out g rfl)).trans yg)
              | (go_at_call 51; refine (sector_cells ga kept.length ck s _ hsec1 hsec2 hck).mono ?_; rintro e w' ⟨rfl, rfl⟩))
            all_goals
              have E1 : Hid (Blk w1 ga 5 (icells .u8 (crashN keep torn (cn : Int) kept pend (k + 1)) ++ jk)) := by
                have h9 := hB1.out
                have hl3 : (p.2.take 32).length ≤ 32 := by rw [List.length_take]; omega
                rw [splice_left _ _ _ _ (by rw [icells_length, icells_length, hlen.out k, HL'.out]; have := Q2.out; omega), icells_splice] at h9
                have hcut : cutAt torn (cn : Int) k = 32 := by unfold cutAt; rw [if_neg HT.out]
                rw [crashN_succ PE.out, crash1, if_pos NK.out, hcut, HS.out, Int.toNat_natCast]
                exact Lib.hid h9
              have O1 := Lib.hid ((HOv.out.drew).step ho1.out (fun _ _ h => h))
              clear hB1 ho1 u0 u1 ug yl0 yl1 yg HBv PBv HOv HLb CPY
              go_wp2
              go_roundg (gk - 1)
              case measure => have := HM.out; omega
              case rel => exact ⟨k + 1, congrArg (Value.int .i64) hw1.out, ⟨by have := HM.out; omega, E1.out, O1.out⟩⟩
      · have NK : Hid (keep.getD k false = false) := Lib.hid (by simp [List.getD_eq_getElem?_getD, List.getElem?_eq_none (show keep.length ≤ k by omega)])
        have hkl' : ¬ (k : Int) < (keep.length : Int) := by omega
        by_cases ht : (k : Int) = torn
        · have ht1 : ((k : Int) == torn) = true := by simpa using ht
          have HT := Lib.hid ht
          clear ht
          go_wp2
          go_roundg (gk - 1)
          case measure => have := HM.out; omega
          case rel => exact ⟨k + 1, congrArg (Value.int .i64) hw1.out, ⟨by have := HM.out; omega, by rw [crashN_succ PE.out, crash1, if_neg (by rw [NK.out]; decide)]; exact HB.out.alloc _, HO.out.alloc _⟩⟩
        · have ht1 : ((k : Int) == torn) = false := by simpa using ht
          have HT := Lib.hid ht
          clear ht
          go_wp2
          go_roundg (gk - 1)
          case measure => have := HM.out; omega
          case rel => exact ⟨k + 1, congrArg (Value.int .i64) hw1.out, ⟨by have := HM.out; omega, by rw [crashN_succ PE.out, crash1, if_neg (by rw [NK.out]; decide)]; exact HB.out.alloc _, HO.out.alloc _⟩⟩
    · obtain ⟨hm, hB, hO⟩ := hA.out
      have hkN : k = pend.length := by have := HN.out; omega
      subst hkN
      have HB := Lib.hid hB
      have HO := Lib.hid hO
      have hga : Hid (g ≠ ga) := Lib.hid (Blk.ne_ hD.out hK.out (by decide))
      have hgs : Hid (g ≠ gs) := Lib.hid (Blk.ne_ hD.out hS.out (by decide))
      have D1 := Lib.hid (hD.out.keep hO hga.out)
      have S1 := Lib.hid (hS.out.keep hO (Ne.symm hks))
      have y0 := D1.out.cell_at 0 _ rfl
      have y1 := D1.out.cell_at 1 _ rfl
      clear hA hB hO hm h2
      generalize hX : crashN keep torn (cn : Int) kept pend pend.length = X at *
      have hXl : Hid (X.length = n * 32) := Lib.hid (by rw [← hX, hlen.out, HL'.out])
      have HX := Lib.hid hX
      clear hX
      go_wp2_with fail
      go_region_law (refine step_copy_blk rfl (.tmp 62) (.tmp 66) 23 23 rfl 5 Try.underlying23 (by kernel_rfl) _ _ _ _ _ _ rfl rfl gs 0 _ 5 (Lib.hid S1.out.drew) (icells .u8 X) (by rw [icells_length, HL.out, HL'.out, hXl.out]; exact (Nat.min_self _).symm) (fun _ => ⟨rfl, _, rfl, fun j v hv => HB.out.drew.at_ 0 X.length (by omega) j v (by simpa using hv)⟩) (by rw [icells_length, List.length_append, icells_length, HL.out, hXl.out]; omega) (icells_one _ _) ?_; intro w1 hS1 ho1)
      all_goals
        have D2 := Lib.hid (D1.out.drew.keep ho1.out hgs.out)
        have K2 := Lib.hid (HB.out.drew.keep ho1.out hks)
        have O2 := Lib.hid (((HO.out.mono (S' := fun q => q = g ∨ q = ga ∨ q = gs) (fun _ _ h => .inr (.inl h))).drew).step ho1.out (fun _ _ h => .inr (.inr h)))
        have z2 := D2.out.cell_at 2 _ rfl
        have f2 := D2.out.frozen 2
        have z3 := D2.out.cell_at 3 _ rfl
        have f3 := D2.out.frozen 3
        clear y0 y1 D1 HB HO S1
        go_wp2_with fail
        go_ret
        rw [HX.out]
        refine ⟨rfl, (D2.out.set_ 2 _).set_ 3 _, (K2.out.far (p := ⟨g, 2, none⟩) (Ne.symm hga.out) _).far (p := ⟨g, 3, none⟩) (Ne.symm hga.out) _, ?_, (O2.out.setCell (p := ⟨g, 2, none⟩) (fun _ => .inl rfl) _).setCell (p := ⟨g, 3, none⟩) (fun _ => .inl rfl) _⟩
        have h9 := (hS1.out.far (p := ⟨g, 2, none⟩) (Ne.symm hgs.out) (.slice none 0 0)).far (p := ⟨g, 3, none⟩) (Ne.symm hgs.out) (.int .i64 (-1))
        rwa [splice_all _ _ _ (by rw [icells_length, icells_length, HL.out, hXl.out])] at h9
end Go.Proofs.Ytochnokfcfmgnaa.Dk
end

section
/- Copy, Crash and Live, said of 'IsDisk'. -/
namespace Go.Proofs.Ytochnokfcfmgnaa.Dk
open Go.RowKit Go.Proofs.Ytochnokfcfmgnaa.Mem Go.Proofs.YtochnokfcfmgnaaW.PrintWords
set_option linter.unusedVariables false
set_option linter.unusedSimpArgs false
variable {w : World} {base g n : Nat} {ok : Nat → Prop} {x : DV}
/-- What a disk is behind a crash. -/
def DV.crash (x : DV) (keep : List Bool) (torn cut : Int) : DV := ⟨crashN keep torn cut x.kept x.pend x.pend.length, crashN keep torn cut x.kept x.pend x.pend.length, [], -1⟩
theorem crashN_good (hg : Good x n) (keep : List Bool) (torn cut : Int) (h0 : 0 ≤ cut) (h1 : cut ≤ 32) : ∀ j, (crashN keep torn cut x.kept x.pend j).length = n * 32 ∧ ∀ y ∈ crashN keep torn cut x.kept x.pend j, 0 ≤ y ∧ y < 256 := by
  intro j
  induction j with
  | zero => exact ⟨hg.kept, hg.bk⟩
  | succ j ih =>
    cases hp : x.pend[j]? with
    | none => unfold crashN; rw [hp]; exact ih
    | some p =>
      rw [crashN_succ hp]
      unfold crash1
      split
      · obtain ⟨⟨q1, q2⟩, q3, q4⟩ := hg.pend p (List.mem_of_getElem? hp)
        have hl : (p.2.take (cutAt torn cut j)).length ≤ 32 := by rw [List.length_take]; omega
        refine ⟨by rw [length_splice _ _ _ (by rw [ih.1]; omega)]; exact ih.1, fun y hy => ?_⟩
        rcases List.mem_append.1 hy with h | h
        · exact ih.2 y (List.mem_of_mem_take h)
        · rcases List.mem_append.1 h with h | h
          · exact q4 y (List.mem_of_mem_take h)
          · exact ih.2 y (List.mem_of_mem_drop h)
      · exact ih
theorem Good.crash (hg : Good x n) (keep : List Bool) (torn cut : Int) (h0 : 0 ≤ cut) (h1 : cut ≤ 32) : Good (x.crash keep torn cut) n :=
  ⟨hg.n1, hg.n2, (crashN_good hg keep torn cut h0 h1 _).1, (crashN_good hg keep torn cut h0 h1 _).1, (crashN_good hg keep torn cut h0 h1 _).2, (crashN_good hg keep torn cut h0 h1 _).2, fun p hp => absurd hp List.not_mem_nil, ⟨Int.le_refl _, show (-1 : Int) ≤ 9223372036854775807 by decide⟩⟩
theorem dk_crash (h : IsDisk w base ok g x) (hg : Good x n) (hpl : (x.pend.length + 1) * 32 ≤ 140737488355328) (KA : Option Addr) (KC : Nat) (keep : List Bool) (torn cut : Int) (h0 : 0 ≤ cut) (h1 : cut ≤ 32) (hK : Kd.bool.C w KA keep.length keep) (hKne : ∀ ad, KA = some ad → 0 < keep.length → ¬ ok ad.block) (hKC : keep.length ≤ KC) :
    Calls Try.prog 30 #[.pointer (some ⟨g, 0, none⟩), .slice KA keep.length KC, .int .i64 torn, .int .i64 cut] w fun e w' => e = .returned (.int .i64 0) ∧ IsDisk w' base ok g (x.crash keep torn cut) ∧ Only w w' ok := by
  obtain ⟨gk, ck, jk, gs, cs, js, A, N, C, o1, o2, k1, k2, s1, s2, hks, kl, km, sl, sm, hN, hb0, kb, sb, pb⟩ := h.open_ hg
  refine (crash_ok g gk ck gs cs n base ok x.kept x.seen x.pend x.life jk js A N C KA KC keep torn cut w (Lib.hid hb0) (Lib.hid kb) (Lib.hid sb) (Lib.hid pb) hg.seen hg.kept hg.n1 hg.n2 hks h0 h1 (Lib.hid hK) (Lib.hid (fun ad e hp he => hKne ad e hp (he ▸ k1))) hKC (Lib.hid (by omega)) (Lib.hid (fun p hp => ⟨(hg.pend p hp).1, (hg.pend p hp).2.1⟩)) (Lib.hid hpl)).mono ?_
  rintro e w' ⟨rfl, d, k, s, o⟩
  have hl := (crashN_good hg keep torn cut h0 h1 x.pend.length).1
  have hk := hg.kept
  have hs := hg.seen
  refine ⟨rfl, ?_, o.mono (fun q _ hq => by rcases hq with rfl | rfl | rfl; exact o1; exact k1; exact s1)⟩
  refine IsDisk.shut (x := x.crash keep torn cut) (gk := gk) (ck := ck) (gs := gs) (cs := cs) (jk := jk) (js := js) o1 o2 k1 k2 s1 s2 hks (by show (crashN keep torn cut x.kept x.pend x.pend.length).length + jk.length = ck; omega) km (by show (crashN keep torn cut x.kept x.pend x.pend.length).length + js.length = cs; omega) sm ?_ k s (Kd.R_nil _ _ _ _ _)
  show Blk w' g _ [.slice (some ⟨gk, 0, none⟩) (crashN keep torn cut x.kept x.pend x.pend.length).length ck, .slice (some ⟨gs, 0, none⟩) (crashN keep torn cut x.kept x.pend x.pend.length).length cs, _, _]
  rw [hl]
  rw [hk, hs] at d
  exact d
/-- What a disk is behind Live. -/
def DV.live (x : DV) (l : Int) : DV := ⟨x.kept, x.seen, x.pend, l⟩
theorem dk_live (h : IsDisk w base ok g x) (hg : Good x n) (l : Int) (hl : -1 ≤ l) : Calls Try.prog 29 #[.pointer (some ⟨g, 0, none⟩), .int .i64 l] w fun e w' => e = .returned (.int .i64 0) ∧ IsDisk w' base ok g (x.live l) ∧ Only w w' ok := by
  obtain ⟨gk, ck, jk, gs, cs, js, A, N, C, o1, o2, k1, k2, s1, s2, hks, kl, km, sl, sm, hN, hb0, kb, sb, pb⟩ := h.open_ hg
  refine (live_cells g _ l w (hb0.cell_at 3 _ rfl) (hb0.frozen 3)).mono ?_
  rintro e w' ⟨rfl, hw⟩
  rw [if_neg (by omega)] at hw ⊢
  subst hw
  have hgk : g ≠ gk := Blk.ne_ hb0 kb (by decide)
  have hgs : g ≠ gs := Blk.ne_ hb0 sb (by decide)
  refine ⟨rfl, ?_, (Only.refl w ok).setCell (p := ⟨g, 3, none⟩) (fun _ => o1) _⟩
  exact IsDisk.shut (x := x.live l) o1 o2 k1 k2 s1 s2 hks kl km sl sm (hb0.set_ 3 (.int .i64 l)) (kb.far (p := ⟨g, 3, none⟩) (Ne.symm hgk) _) (sb.far (p := ⟨g, 3, none⟩) (Ne.symm hgs) _) (Kd.R_set pb (show w.heap[g]? = _ from hb0) (by decide) 3 _)
end Go.Proofs.Ytochnokfcfmgnaa.Dk
end

section
/- Seat F: a dying disk: writes and barriers that are refused; a page is written, as far as it goes. -/
namespace Go.Proofs.Ytochnokfcfmgnaa.Dk
open Go.RowKit Go.Proofs.Ytochnokfcfmgnaa.Mem Go.Proofs.YtochnokfcfmgnaaW.PrintWords
set_option linter.unusedVariables false
set_option linter.unusedSimpArgs false
theorem Good.live {x : DV} {n : Nat} (h : Good x n) {l : Int} (h0 : 0 ≤ l) (h1 : l ≤ 9223372036854775807) : Good (x.live l) n := ⟨h.n1, h.n2, h.kept, h.seen, h.bk, h.bs, h.pend, ⟨show -1 ≤ l by omega, h1⟩⟩
section
variable {w w' : World} {base g n : Nat} {ok : Nat → Prop} {x : DV}
theorem dk_check (h : IsDisk w base ok g x) (hg : Good x n) (s : Int) : Calls Try.prog 63 #[.pointer (some ⟨g, 0, none⟩), .int .i64 s] w fun e w' => e = .returned (.int .i64 (chk x.life s n)) ∧ w = w' := by
  obtain ⟨gk, ck, jk, gs, cs, js, A, N, C, _, _, _, _, _, _, _, _, _, _, _, _, hb, _⟩ := h.open_ hg
  have := check_cells g x.seen.length cs _ x.life s w (hb.cell_at 1 _ rfl) (hb.cell_at 3 _ rfl) (by rw [hg.seen]; have := hg.n2; omega)
  rwa [show x.seen.length / 32 = n by rw [hg.seen]; omega] at this
theorem write_check (h : IsDisk w base ok g x) (hg : Good x n) (s : Int) (A : Option Addr) (c : Nat) (hc : chk x.life s n ≠ 0) : Calls Try.prog 48 #[.pointer (some ⟨g, 0, none⟩), .int .i64 s, .slice A 32 c] w fun e w' => e = .returned (.int .i64 (chk x.life s n)) ∧ w = w' := by
  have HC := Lib.hid (dk_check h hg s)
  clear h
  generalize chk x.life s n = r at *
  have h1 : (r == 0) = false := by simpa using hc
  have h2 : (r != 0) = true := by simpa using hc
  clear hc
  go_enter Try.func48, Try.ntmps48
  go_wp2_with (first
    | (go_at_call 63; refine HC.out.mono ?_; rintro e w' ⟨rfl, rfl⟩)
    | fail)
  go_ret
  exact ⟨rfl, rfl⟩
end
theorem barrier_dead {w : World} {base g n : Nat} {ok : Nat → Prop} {x : DV} (h : IsDisk w base ok g x) (hg : Good x n) (hl : x.life = 0) : Calls Try.prog 49 #[.pointer (some ⟨g, 0, none⟩)] w fun e w' => e = .returned (.int .i64 3) ∧ w = w' := by
  have hc : chk x.life 0 n = 3 := by unfold chk; rw [if_pos hl]
  have HC := dk_check h hg 0
  rw [hc] at HC
  have HC := Lib.hid HC
  clear h hl hc
  go_enter Try.func49, Try.ntmps49
  go_wp2_with (first
    | (go_at_call 63; refine HC.out.mono ?_; rintro e w' ⟨rfl, rfl⟩)
    | fail)
  go_ret
  exact ⟨rfl, rfl⟩
theorem write_dead {w : World} {base g n : Nat} {ok : Nat → Prop} {x : DV} (h : IsDisk w base ok g x) (hg : Good x n) (hl : x.life = 0) (s : Int) (A : Option Addr) (c : Nat) : Calls Try.prog 48 #[.pointer (some ⟨g, 0, none⟩), .int .i64 s, .slice A 32 c] w fun e w' => e = .returned (.int .i64 3) ∧ w = w' := by
  have hc : chk x.life s n = 3 := by unfold chk; rw [if_pos hl]
  have := write_check h hg s A c (by rw [hc]; decide)
  rwa [hc] at this
end Go.Proofs.Ytochnokfcfmgnaa.Dk
namespace Go.Proofs.Ytochnokfcfmgnaa.Pg
open Go.RowKit Go.Proofs.Ytochnokfcfmgnaa.Mem Go.Proofs.YtochnokfcfmgnaaW.PrintWords Go.Proofs.Ytochnokfcfmgnaa.Dk
set_option linter.unusedVariables false
set_option linter.unusedSimpArgs false
set_option maxHeartbeats 4000000
set_option maxRecDepth 100000
/-- What a page's write says in the end. -/
def PwQ (M : Int) (w : World) (base : Nat) (ok : Nat → Prop) (g : Nat) (x : DV) (p : Nat) (b : List Int) (e : Ending) (w' : World) : Prop := ∃ (r : Int) (i : Nat) (l' : Int), e = .returned (.int .i64 r) ∧ IsDisk w' base (fun k => ok k ∨ w.heap.size ≤ k) g ((pgN x p b i).live l') ∧ Only w w' ok ∧ 0 ≤ l' ∧ l' ≤ M ∧ ((r = 0 ∧ i = 4) ∨ (r = 3 ∧ i < 4))
theorem pwrite_l {w : World} {base g n : Nat} {ok : Nat → Prop} {x : DV} {l M : Int} (h : Hid (IsDisk w base ok g (x.live l))) (hl0 : 0 ≤ l) (hlm : l ≤ M) (hM : M ≤ 9223372036854775807) (hg : Hid (Dk.Good x n)) (hbs : base ≤ w.heap.size) (hlife : Hid (x.life = -1)) (hpl : (x.pend.length + 5) * 32 ≤ 140737488355328) (p : Nat) (hp : p < n / 4) (id : Int) (hid : 0 ≤ id ∧ id < 4294967296)
    (A : Option Addr) (c : Nat) (data : List Int) (hr : Hid ((Kd.int .u8).C w A data.length data)) (hc : data.length ≤ c) (hd : Hid (∀ y ∈ data, 0 ≤ y ∧ y < 256)) (hl : data.length ≤ 116) :
    Calls Try.prog 60 #[.pointer (some ⟨g, 0, none⟩), .int .i64 (p : Int), .int .u32 id, .slice A data.length c] w fun e w' => PwQ M w base ok g x p (Hand.packed id data) e w' := by
  have hn := hg.out.n2
  have HGL := Lib.hid (hg.out.live hl0 (Int.le_trans hlm hM))
  have HC := Lib.hid (check_ok h.out HGL.out (p : Int) (by omega) (by omega))
  have PK := Hand.pack_any id A c data w hr.out hc hid hd.out
  rw [show Hand.pck id data = (Hand.packed id data, 0) from if_pos hl] at PK
  have HPK := Lib.hid PK
  have hbl := Pp.packed_length id data hl
  have hbb := Pp.packed_bytes id data hd.out
  obtain ⟨b, hb⟩ : ∃ b, Hand.packed id data = b := ⟨_, rfl⟩
  rw [hb] at HPK hbl hbb ⊢
  have HBL := Lib.hid hbl
  have HBB := Lib.hid hbb
  clear PK hb hbl hbb
  go_enter Try.func60, Try.ntmps60
  go_wp2_with fail
  refine HC.out.mono ?_
  rintro e w' ⟨rfl, rfl⟩
  go_wp2_with fail
  refine HPK.out.mono ?_
  rintro e w1 ⟨v, rfl, r1, b1⟩
  obtain ⟨gb, cb, jb, rfl, q1, -, q3, -, -, q6⟩ := R_open r1 (by rw [HBL.out]; decide)
  rw [HBL.out] at q3 ⊢
  have BB := Lib.hid q6
  have B1 := Lib.hid b1
  have Q1 := Lib.hid q1
  have D1 := Lib.hid ((h.out.bound).keep (Only.of_below b1 (fun _ => False)) (fun _ _ h => h))
  clear r1 b1 q1 q6 HC HPK
  go_wp2_with fail
  go_loopg [29] 4 (fun m iv wr => ∃ (i : Nat) (l' : Int), iv = .int .i64 i ∧ Aside1 (0 ≤ l' ∧ l' ≤ M) ∧ Aside1 (i + m = 4 ∧ IsDisk wr base (fun k => (ok k ∧ base ≤ k ∧ k < w.heap.size) ∨ w1.heap.size ≤ k) g ((pgN x p b i).live l') ∧ Only w1 wr (fun k => ok k ∧ base ≤ k ∧ k < w.heap.size)))
  case atStart => exact ⟨0, l, rfl, ⟨hl0, hlm⟩, ⟨rfl, D1.out.mono (fun _ hk => .inl hk), Only.refl _ _⟩⟩
  case round =>
    obtain ⟨i, l', rfl, ⟨hlr⟩, hA⟩ := hrel
    have HLR := Lib.hid hlr
    clear hlr
    have HM := Lib.hid hA.out.1
    have HI := Lib.hid hA.out.2.1
    have HO := Lib.hid hA.out.2.2
    clear hA D1
    have hwi : Hid (wrap64 ((i : Int) + 1) = ((i + 1 : Nat) : Int)) := Lib.hid (by have := HM.out; unfold wrap64; omega)
    by_cases hi : i < 4
    · have hii : (i : Int) < 4 := by omega
      have hi0 : (0 : Int) ≤ (i : Int) := by omega
      have hp0 : (0 : Int) ≤ (p : Int) := by omega
      have hpm : (p : Int) ≤ 2048 := by omega
      have PO := pgN_ok hg.out hlife.out hp HBL.out HBB.out i (by omega)
      have BW := Lib.hid (BB.out.keep HO.out (fun hk => by have := Q1.out; omega))
      have hw1 : w.heap.size ≤ w1.heap.size := B1.out.size
      have hsz : w1.heap.size ≤ wr.heap.size := HO.out.size
      have hgb := BB.out.lt
      have CB : Hid ((Kd.int .u8).C wr (some ⟨gb, i * 32, none⟩) 32 (part b i)) := Lib.hid (C_pre' BW.out (show i * 32 + 32 ≤ b.length by rw [HBL.out]; omega) (by rw [HBL.out]; decide))
      have hpl1 : ((pgN x p b i).pend.length + 1) * 32 ≤ 140737488355328 := by have := PO.plen; omega
      have hne1 : ¬ ((ok gb ∧ base ≤ gb ∧ gb < w.heap.size) ∨ w1.heap.size ≤ gb) := fun hk => by
        have := Q1.out
        rcases hk with hk | hk
        · have := hk.2.2; omega
        · omega
      have hs0 : (0 : Int) ≤ 4 * (p : Int) + (i : Int) := by omega
      have hs1 : 4 * (p : Int) + (i : Int) < (n : Int) := by omega
      by_cases hl0' : l' = 0
      · subst hl0'
        have WD := Lib.hid (Dk.write_dead HI.out (PO.good.live HLR.out.1 (Int.le_trans HLR.out.2 hM)) rfl (4 * (p : Int) + (i : Int)) (some ⟨gb, i * 32, none⟩) (cb - i * 32))
        have hi32 : i * 32 + 32 ≤ 128 := by omega
        clear PO hpl1 hne1 hs0 hs1
        go_wp2_with fail
        rw [show (i + 1) * 32 - i * 32 = 32 by omega]
        refine WD.out.mono ?_
        rintro e w4 ⟨rfl, hw4⟩
        rw [← hw4]
        clear hw4
        go_wp2_with fail
        go_ret
        exact ⟨3, i, 0, rfl, HI.out.mono (fun k hk => hk.imp (fun h => h.1) (fun h => Nat.le_trans hw1 h)), ((Only.of_below B1.out (fun k => ok k)).step HO.out (fun k _ h => h.1)), by decide, Int.le_trans hl0 hlm, .inr ⟨rfl, hi⟩⟩
      · have HWR := Lib.hid (dk_writeS' HI.out (PO.good.live HLR.out.1 (Int.le_trans HLR.out.2 hM)) (Nat.le_trans hbs (Nat.le_trans hw1 hsz)) hpl1 (show ((pgN x p b i).live l').life ≠ 0 from hl0') (4 * (p : Int) + (i : Int)) hs0 hs1 gb (i * 32) (cb - i * 32) (part b i) CB.out BW.out.lt hne1)
        clear PO hpl1 hne1 hs0 hs1
        have hi32 : i * 32 + 32 ≤ 128 := by omega
        go_wp2_with fail
        rw [show (i + 1) * 32 - i * 32 = 32 by omega]
        refine HWR.out.mono ?_
        rintro e w4 ⟨rfl, d4, o4⟩
        have D4 := Lib.hid (show IsDisk w4 base (fun k => (ok k ∧ base ≤ k ∧ k < w.heap.size) ∨ w1.heap.size ≤ k) g ((pgN x p b (i + 1)).live (spent l')) from by
          have e : (4 * (p : Int) + (i : Int)).toNat = 4 * p + i := by omega
          rw [e] at d4
          exact d4.mono (fun k hk => hk.elim (fun h => h) (fun h => .inr (Nat.le_trans hsz h))))
        have O4 := Lib.hid (HO.out.step o4 (fun k hk h => h.elim (fun h => h) (fun h => by omega)))
        clear d4 o4 HI HO HWR
        go_wp2_with fail
        go_roundg (gk - 1)
        case measure => have := HM.out; omega
        case rel => exact ⟨i + 1, spent l', (by first | exact congrArg (Value.int .i64) hwi.out | exact congrArg (Value.int .i64) (by omega)), ⟨by have := HLR.out; unfold spent; split <;> omega⟩, ⟨by have := HM.out; omega, D4.out, O4.out⟩⟩
    · have hii : ¬ (i : Int) < 4 := by omega
      obtain rfl : i = 4 := by have := HM.out; omega
      have hw1 : w.heap.size ≤ w1.heap.size := B1.out.size
      go_wp2_with fail
      go_ret
      exact ⟨0, 4, l', rfl, HI.out.mono (fun k hk => hk.imp (fun h => h.1) (fun h => Nat.le_trans hw1 h)), ((Only.of_below B1.out (fun k => ok k)).step HO.out (fun k _ h => h.1)), HLR.out.1, HLR.out.2, .inl ⟨rfl, rfl⟩⟩
end Go.Proofs.Ytochnokfcfmgnaa.Pg
end

section
/- Seat F: the root is written, on a disk that lives, and on a dead one. -/
namespace Go.Proofs.Ytochnokfcfmgnaa.St
open Go Go.RowKit Go.Proofs.Ytochnokfcfmgnaa.Mem Go.Proofs.YtochnokfcfmgnaaW.PrintWords Go.Proofs.Ytochnokfcfmgnaa.Dk Go.Maps Go.ChangeMaps Go.Proofs.Ytochnokfcfmgnaa.Sh Go.Proofs.Ytochnokfcfmgnaa.Sp
set_option linter.unusedVariables false
set_option linter.unusedSimpArgs false
set_option maxRecDepth 100000
set_option maxHeartbeats 4000000
theorem write_nz {w : World} {own : Nat → Nat} {base g s n : Nat} {S : SV} (h : St w own base g s S) (hg : Dk.Good S.x n) (hlife : S.x.life ≠ 0) (hpl : S.x.pend.length ≤ 1000000) (hn1 : 8 ≤ n) (hep : 0 ≤ S.epoch ∧ S.epoch < 18446744073709551616) (htb : ∀ t ∈ S.tabs, 0 ≤ t ∧ t < 4294967296) (p : Nat) (hp : p ≤ 1) :
    Calls Try.prog 50 #[.pointer (some ⟨s, 0, none⟩), .int .i64 (p : Int)] w fun e w' => e = .returned (.int .i64 0) ∧ (∃ own', (∀ k, k < w.heap.size → own' k = own k) ∧ St w' own' base g s { S with x := S.x.write (4 * p) (rootB S) }) ∧ Only w w' (fun k => own k = 1) := by
  have H0 := Lib.hid h
  obtain ⟨bk, bn, tv, hs, _, _, _, _, hrow, _, _⟩ := h.blk
  obtain ⟨At, ct, rfl, htl, hCt, _⟩ := hrow.reads
  have htlen := hrow.len
  have htli : (S.tabs.length : Int) ≤ 100000 := by omega
  have HS := Lib.hid hs
  have HT := Lib.hid hCt
  have c0 := hs.cell_at 0 _ rfl
  have c2 := hs.cell_at 2 _ rfl
  have c3 := hs.cell_at 3 _ rfl
  obtain ⟨l1, hl1⟩ : ∃ l1, l1 = leB S.epoch 8 := ⟨_, rfl⟩
  have L1 : Hid (PShadowCrashes.shadow_lay.f 20 [] S.epoch 8 = some l1) := Lib.hid (by rw [hl1]; exact lay_f 8 (by omega) [] S.epoch (by simp))
  have HG := Lib.hid hg
  have HLF := Lib.hid hlife
  have hpi : (p : Int) ≤ 1 := by omega
  have HEP := Lib.hid hep
  clear hs hCt hrow h hg hlife
  by_cases ht : 0 < S.tabs.length
  · obtain ⟨ad, rfl, e1⟩ := int_at HT.out 0 ht
    obtain ⟨fn, hfn⟩ : ∃ fn : Nat, S.tabs[0] = (fn : Int) := ⟨(S.tabs[0]).toNat, by have := (htb _ (List.getElem_mem ht)).1; omega⟩
    have hfl := (htb _ (List.getElem_mem ht)).2
    rw [hfn] at e1 hfl
    have hft : firstT S = (fn : Int) := by
      rw [← hfn]
      exact headD_get _ ht
    have HRB := Lib.hid (show leB S.epoch 8 ++ leB ((fn : Nat) : Int) 4 ++ leB (S.tabs.length : Int) 4 ++ leB 0 8 ++ leB S.epoch 8 = rootB S by unfold rootB; rw [hft])
    have hti : (0 : Int) < (S.tabs.length : Int) := by omega
    have ad0 : ad.add 0 = ad := by simp [Addr.add]
    rw [ad0] at e1
    clear hfn hft ad0
    have HL1 := Lib.hid hl1
    clear hl1
    go_enter Try.func50, Try.ntmps50
    go_wp2_with (first
      | (go_at_call 62; refine (lay_c (w0 := w) S.epoch 8 _ (Below.refl _ w) (Kd.R_nil _ _ _ _ _) L1.out).mono ?_; rintro e w1 ⟨A1, k1, rfl, r1, b1⟩; have R1 := Lib.hid r1; have B1 := Lib.hid b1; have HS1 := Lib.hid (HS.out.below b1 HS.out.lt); have e1' := (b1.cell (World.block_lt_of_cell? _ _ e1)).trans e1; clear r1 b1; clear c0 c2 c3; have c0 := HS1.out.cell_at 0 _ rfl; have c2 := HS1.out.cell_at 2 _ rfl; have c3 := HS1.out.cell_at 3 _ rfl)
      | fail)
    clear e1'
    have hl1 := HL1.out

    obtain ⟨l2, hl2⟩ : ∃ l2, l2 = l1 ++ leB ((fn : Nat) : Int) 4 := ⟨_, rfl⟩
    obtain ⟨l3, hl3⟩ : ∃ l3, l3 = l2 ++ leB (S.tabs.length : Int) 4 := ⟨_, rfl⟩
    obtain ⟨l4, hl4⟩ : ∃ l4, l4 = l3 ++ leB 0 8 := ⟨_, rfl⟩
    obtain ⟨l5, hl5⟩ : ∃ l5, l5 = l4 ++ leB S.epoch 8 := ⟨_, rfl⟩
    have n1 : l1.length = 8 := by rw [hl1]; simp [leB_len]
    have n2 : l2.length = 12 := by rw [hl2]; simp [leB_len]; omega
    have n3 : l3.length = 16 := by rw [hl3]; simp [leB_len]; omega
    have n4 : l4.length = 24 := by rw [hl4]; simp [leB_len]; omega
    have L2 : Hid (PShadowCrashes.shadow_lay.f 20 l1 (IntKind.u64.wrap ((fn : Nat) : Int)) 4 = some l2) := Lib.hid (by rw [wrap_id (by omega) (by omega), hl2]; exact lay_f 4 (by omega) l1 _ (by omega))
    have L3 : Hid (PShadowCrashes.shadow_lay.f 20 l2 (IntKind.u64.wrap (S.tabs.length : Int)) 4 = some l3) := Lib.hid (by rw [wrap_id (by omega) (by omega), hl3]; exact lay_f 4 (by omega) l2 _ (by omega))
    have L4 : Hid (PShadowCrashes.shadow_lay.f 20 l3 0 8 = some l4) := Lib.hid (by rw [hl4]; exact lay_f 8 (by omega) l3 _ (by omega))
    have L5 : Hid (PShadowCrashes.shadow_lay.f 20 l4 S.epoch 8 = some l5) := Lib.hid (by rw [hl5]; exact lay_f 8 (by omega) l4 _ (by omega))
    have HRB2 : Hid (l5 = rootB S) := Lib.hid (by rw [hl5, hl4, hl3, hl2, hl1]; exact HRB.out)
    clear hl1 hl2 hl3 hl4 hl5 n1 n2 n3 n4
    have HSd := Lib.hid (HS1.out.drew)
    have CS : Hid (∀ W, Blk W s 76 [.pointer (some ⟨g, 0, none⟩), .int .i64 S.root, .int .u64 S.epoch, .slice (some ad) S.tabs.length ct, .map (some bk), .map (some bn), .bool false] → (W.cell? ⟨s, 3, none⟩ = some (.slice (some ad) S.tabs.length ct) ∧ W.cell? ⟨s, 2, none⟩ = some (.int .u64 S.epoch))) := Lib.hid fun W h => ⟨h.cell_at 3 _ rfl, h.cell_at 2 _ rfl⟩
    go_region_held3 (fun w' => w'.cell? ⟨s, 3, none⟩ = some (.slice (some ad) S.tabs.length ct) ∧ w'.cell? ⟨s, 2, none⟩ = some (.int .u64 S.epoch)) (exact CS.out _ (by first | exact HSd.out | exact HS2.out | exact HS3.out | exact HS4.out | exact HS5.out)) (first
      | (go_at_call 62; refine (lay_c (w0 := w) (IntKind.u64.wrap ((fn : Nat) : Int)) 4 _ (B1.out.drew) (R_dr R1.out) L2.out).mono ?_; rintro e w2 ⟨A2, k2, rfl, r2, b2⟩; clear R1; have R2 := Lib.hid r2; have B2 := Lib.hid b2; have HS2 := Lib.hid (HS.out.below b2 HS.out.lt); clear r2 b2)
      | (go_at_call 62; refine (lay_c (w0 := w) (IntKind.u64.wrap (S.tabs.length : Int)) 4 _ B2.out R2.out L3.out).mono ?_; rintro e w3 ⟨A3, k3, rfl, r3, b3⟩; clear R2; have R3 := Lib.hid r3; have B3 := Lib.hid b3; have HS3 := Lib.hid (HS.out.below b3 HS.out.lt); clear r3 b3)
      | (go_at_call 62; refine (lay_c (w0 := w) 0 8 _ B3.out R3.out L4.out).mono ?_; rintro e w4 ⟨A4, k4, rfl, r4, b4⟩; clear R3; have R4 := Lib.hid r4; have B4 := Lib.hid b4; have HS4 := Lib.hid (HS.out.below b4 HS.out.lt); clear r4 b4)
      | (go_at_call 62; refine (lay_c (w0 := w) S.epoch 8 _ B4.out R4.out L5.out).mono ?_; rintro e w5 ⟨A5, k5, rfl, r5, b5⟩; clear R4; have R5 := Lib.hid r5; have B5 := Lib.hid b5; have HS5 := Lib.hid (HS.out.below b5 HS.out.lt); clear r5 b5)
      | fail)
    all_goals
      have R6 := R5.out
      have n5 : l5.length = 32 := by rw [HRB2.out, rootB_len]
      rw [n5] at R6 ⊢
      have hSt := H0.out.below B5.out 2
      have C5 := (Kd.R_reads' R6).2.2
      rw [n5] at C5
      obtain ⟨gv, cv, junk, ev, q1, q2, q3, q4, q5, q6⟩ := R_open R6 (by rw [n5]; decide)
      injection ev with e1 e2 e3
      subst e1
      have hown : ¬ upd own w.heap.size 2 gv = 1 := by rw [upd_ge (by omega)]; decide
      have WR := Lib.hid (dk_writeS' hSt.disk HG.out hSt.hb (by omega) HLF.out (4 * (p : Int)) (by omega) (by omega) gv 0 k5 l5 C5 q6.lt hown)
      have SS := Lib.hid hSt
      have c0' := HS5.out.cell_at 0 _ rfl
      clear e2 e3 q1 q2 q3 q4 q5 q6 c0 c2 c3 CS hSt C5 hown R5 R6 n5
      go_wp2_with (first
        | (go_at_call 48; refine WR.out.mono ?_; rintro e w6 ⟨rfl, d6, o6⟩; have D6 := Lib.hid d6; have O6 := Lib.hid o6; clear d6 o6)
        | fail)
      go_ret
      have e4 : (4 * (p : Int)).toNat = 4 * p := by omega
      have hd := D6.out
      rw [e4, HRB2.out] at hd
      refine ⟨rfl, ⟨_, fun k hk => ?_, SS.out.disk_step hd O6.out⟩, (Only.of_below B5.out (fun k => own k = 1)).step O6.out (fun k hk h => by rw [upd_lt hk] at h; exact h)⟩
      have hkk := B5.out.size
      rw [upd_lt (by omega), upd_lt hk]
  · have ht0 : S.tabs = [] := List.length_eq_zero_iff.1 (by omega)
    have hl0 : S.tabs.length = 0 := by omega
    have HRB := Lib.hid (show leB S.epoch 8 ++ leB 0 4 ++ leB 0 4 ++ leB 0 8 ++ leB S.epoch 8 = rootB S by unfold rootB firstT; rw [ht0]; rfl)
    rw [hl0] at HS c3
    clear htl htlen htli HT ht ht0 hl0
    have HL1 := Lib.hid hl1
    clear hl1
    go_enter Try.func50, Try.ntmps50
    go_wp2_with (first
      | (go_at_call 62; refine (lay_c (w0 := w) S.epoch 8 _ (Below.refl _ w) (Kd.R_nil _ _ _ _ _) L1.out).mono ?_; rintro e w1 ⟨A1, k1, rfl, r1, b1⟩; have R1 := Lib.hid r1; have B1 := Lib.hid b1; have HS1 := Lib.hid (HS.out.below b1 HS.out.lt); clear r1 b1; clear c0 c2 c3; have c0 := HS1.out.cell_at 0 _ rfl; have c2 := HS1.out.cell_at 2 _ rfl; have c3 := HS1.out.cell_at 3 _ rfl)
      | fail)
    have hl1 := HL1.out

    obtain ⟨l2, hl2⟩ : ∃ l2, l2 = l1 ++ leB 0 4 := ⟨_, rfl⟩
    obtain ⟨l3, hl3⟩ : ∃ l3, l3 = l2 ++ leB 0 4 := ⟨_, rfl⟩
    obtain ⟨l4, hl4⟩ : ∃ l4, l4 = l3 ++ leB 0 8 := ⟨_, rfl⟩
    obtain ⟨l5, hl5⟩ : ∃ l5, l5 = l4 ++ leB S.epoch 8 := ⟨_, rfl⟩
    have n1 : l1.length = 8 := by rw [hl1]; simp [leB_len]
    have n2 : l2.length = 12 := by rw [hl2]; simp [leB_len]; omega
    have n3 : l3.length = 16 := by rw [hl3]; simp [leB_len]; omega
    have n4 : l4.length = 24 := by rw [hl4]; simp [leB_len]; omega
    have L2 : Hid (PShadowCrashes.shadow_lay.f 20 l1 (IntKind.u64.wrap 0) 4 = some l2) := Lib.hid (by rw [wrap_id (by omega) (by omega), hl2]; exact lay_f 4 (by omega) l1 _ (by omega))
    have L3 : Hid (PShadowCrashes.shadow_lay.f 20 l2 (IntKind.u64.wrap 0) 4 = some l3) := Lib.hid (by rw [wrap_id (by omega) (by omega), hl3]; exact lay_f 4 (by omega) l2 _ (by omega))
    have L4 : Hid (PShadowCrashes.shadow_lay.f 20 l3 0 8 = some l4) := Lib.hid (by rw [hl4]; exact lay_f 8 (by omega) l3 _ (by omega))
    have L5 : Hid (PShadowCrashes.shadow_lay.f 20 l4 S.epoch 8 = some l5) := Lib.hid (by rw [hl5]; exact lay_f 8 (by omega) l4 _ (by omega))
    have HRB2 : Hid (l5 = rootB S) := Lib.hid (by rw [hl5, hl4, hl3, hl2, hl1]; exact HRB.out)
    clear hl1 hl2 hl3 hl4 hl5 n1 n2 n3 n4
    have HSd := Lib.hid (HS1.out.drew)
    have CS : Hid (∀ W, Blk W s 76 [.pointer (some ⟨g, 0, none⟩), .int .i64 S.root, .int .u64 S.epoch, .slice At 0 ct, .map (some bk), .map (some bn), .bool false] → (W.cell? ⟨s, 3, none⟩ = some (.slice At 0 ct) ∧ W.cell? ⟨s, 2, none⟩ = some (.int .u64 S.epoch))) := Lib.hid fun W h => ⟨h.cell_at 3 _ rfl, h.cell_at 2 _ rfl⟩
    go_region_held3 (fun w' => w'.cell? ⟨s, 3, none⟩ = some (.slice At 0 ct) ∧ w'.cell? ⟨s, 2, none⟩ = some (.int .u64 S.epoch)) (exact CS.out _ (by first | exact HSd.out | exact HS2.out | exact HS3.out | exact HS4.out | exact HS5.out)) (first
      | (go_at_call 62; refine (lay_c (w0 := w) (IntKind.u64.wrap 0) 4 _ (B1.out.drew) (R_dr R1.out) L2.out).mono ?_; rintro e w2 ⟨A2, k2, rfl, r2, b2⟩; clear R1; have R2 := Lib.hid r2; have B2 := Lib.hid b2; have HS2 := Lib.hid (HS.out.below b2 HS.out.lt); clear r2 b2)
      | (go_at_call 62; refine (lay_c (w0 := w) (IntKind.u64.wrap 0) 4 _ B2.out R2.out L3.out).mono ?_; rintro e w3 ⟨A3, k3, rfl, r3, b3⟩; clear R2; have R3 := Lib.hid r3; have B3 := Lib.hid b3; have HS3 := Lib.hid (HS.out.below b3 HS.out.lt); clear r3 b3)
      | (go_at_call 62; refine (lay_c (w0 := w) 0 8 _ B3.out R3.out L4.out).mono ?_; rintro e w4 ⟨A4, k4, rfl, r4, b4⟩; clear R3; have R4 := Lib.hid r4; have B4 := Lib.hid b4; have HS4 := Lib.hid (HS.out.below b4 HS.out.lt); clear r4 b4)
      | (go_at_call 62; refine (lay_c (w0 := w) S.epoch 8 _ B4.out R4.out L5.out).mono ?_; rintro e w5 ⟨A5, k5, rfl, r5, b5⟩; clear R4; have R5 := Lib.hid r5; have B5 := Lib.hid b5; have HS5 := Lib.hid (HS.out.below b5 HS.out.lt); clear r5 b5)
      | fail)
    all_goals
      have R6 := R5.out
      have n5 : l5.length = 32 := by rw [HRB2.out, rootB_len]
      rw [n5] at R6 ⊢
      have hSt := H0.out.below B5.out 2
      have C5 := (Kd.R_reads' R6).2.2
      rw [n5] at C5
      obtain ⟨gv, cv, junk, ev, q1, q2, q3, q4, q5, q6⟩ := R_open R6 (by rw [n5]; decide)
      injection ev with e1 e2 e3
      subst e1
      have hown : ¬ upd own w.heap.size 2 gv = 1 := by rw [upd_ge (by omega)]; decide
      have WR := Lib.hid (dk_writeS' hSt.disk HG.out hSt.hb (by omega) HLF.out (4 * (p : Int)) (by omega) (by omega) gv 0 k5 l5 C5 q6.lt hown)
      have SS := Lib.hid hSt
      have c0' := HS5.out.cell_at 0 _ rfl
      clear e2 e3 q1 q2 q3 q4 q5 q6 c0 c2 c3 CS hSt C5 hown R5 R6 n5
      go_wp2_with (first
        | (go_at_call 48; refine WR.out.mono ?_; rintro e w6 ⟨rfl, d6, o6⟩; have D6 := Lib.hid d6; have O6 := Lib.hid o6; clear d6 o6)
        | fail)
      go_ret
      have e4 : (4 * (p : Int)).toNat = 4 * p := by omega
      have hd := D6.out
      rw [e4, HRB2.out] at hd
      refine ⟨rfl, ⟨_, fun k hk => ?_, SS.out.disk_step hd O6.out⟩, (Only.of_below B5.out (fun k => own k = 1)).step O6.out (fun k hk h => by rw [upd_lt hk] at h; exact h)⟩
      have hkk := B5.out.size
      rw [upd_lt (by omega), upd_lt hk]
theorem write_z {w : World} {own : Nat → Nat} {base g s n : Nat} {S : SV} (h : St w own base g s S) (hg : Dk.Good S.x n) (hlife : S.x.life = 0) (hpl : S.x.pend.length ≤ 1000000) (hn1 : 8 ≤ n) (hep : 0 ≤ S.epoch ∧ S.epoch < 18446744073709551616) (htb : ∀ t ∈ S.tabs, 0 ≤ t ∧ t < 4294967296) (p : Nat) (hp : p ≤ 1) :
    Calls Try.prog 50 #[.pointer (some ⟨s, 0, none⟩), .int .i64 (p : Int)] w fun e w' => e = .returned (.int .i64 3) ∧ Below w.heap.size w w' := by
  have H0 := Lib.hid h
  obtain ⟨bk, bn, tv, hs, _, _, _, _, hrow, _, _⟩ := h.blk
  obtain ⟨At, ct, rfl, htl, hCt, _⟩ := hrow.reads
  have htlen := hrow.len
  have htli : (S.tabs.length : Int) ≤ 100000 := by omega
  have HS := Lib.hid hs
  have HT := Lib.hid hCt
  have c0 := hs.cell_at 0 _ rfl
  have c2 := hs.cell_at 2 _ rfl
  have c3 := hs.cell_at 3 _ rfl
  obtain ⟨l1, hl1⟩ : ∃ l1, l1 = leB S.epoch 8 := ⟨_, rfl⟩
  have L1 : Hid (PShadowCrashes.shadow_lay.f 20 [] S.epoch 8 = some l1) := Lib.hid (by rw [hl1]; exact lay_f 8 (by omega) [] S.epoch (by simp))
  have HG := Lib.hid hg
  have HLF := Lib.hid hlife
  have hpi : (p : Int) ≤ 1 := by omega
  have HEP := Lib.hid hep
  clear hs hCt hrow h hg hlife
  by_cases ht : 0 < S.tabs.length
  · obtain ⟨ad, rfl, e1⟩ := int_at HT.out 0 ht
    obtain ⟨fn, hfn⟩ : ∃ fn : Nat, S.tabs[0] = (fn : Int) := ⟨(S.tabs[0]).toNat, by have := (htb _ (List.getElem_mem ht)).1; omega⟩
    have hfl := (htb _ (List.getElem_mem ht)).2
    rw [hfn] at e1 hfl
    have hft : firstT S = (fn : Int) := by
      rw [← hfn]
      exact headD_get _ ht
    have HRB := Lib.hid (show leB S.epoch 8 ++ leB ((fn : Nat) : Int) 4 ++ leB (S.tabs.length : Int) 4 ++ leB 0 8 ++ leB S.epoch 8 = rootB S by unfold rootB; rw [hft])
    have hti : (0 : Int) < (S.tabs.length : Int) := by omega
    have ad0 : ad.add 0 = ad := by simp [Addr.add]
    rw [ad0] at e1
    clear hfn hft ad0
    have HL1 := Lib.hid hl1
    clear hl1
    go_enter Try.func50, Try.ntmps50
    go_wp2_with (first
      | (go_at_call 62; refine (lay_c (w0 := w) S.epoch 8 _ (Below.refl _ w) (Kd.R_nil _ _ _ _ _) L1.out).mono ?_; rintro e w1 ⟨A1, k1, rfl, r1, b1⟩; have R1 := Lib.hid r1; have B1 := Lib.hid b1; have HS1 := Lib.hid (HS.out.below b1 HS.out.lt); have e1' := (b1.cell (World.block_lt_of_cell? _ _ e1)).trans e1; clear r1 b1; clear c0 c2 c3; have c0 := HS1.out.cell_at 0 _ rfl; have c2 := HS1.out.cell_at 2 _ rfl; have c3 := HS1.out.cell_at 3 _ rfl)
      | fail)
    clear e1'
    have hl1 := HL1.out

    obtain ⟨l2, hl2⟩ : ∃ l2, l2 = l1 ++ leB ((fn : Nat) : Int) 4 := ⟨_, rfl⟩
    obtain ⟨l3, hl3⟩ : ∃ l3, l3 = l2 ++ leB (S.tabs.length : Int) 4 := ⟨_, rfl⟩
    obtain ⟨l4, hl4⟩ : ∃ l4, l4 = l3 ++ leB 0 8 := ⟨_, rfl⟩
    obtain ⟨l5, hl5⟩ : ∃ l5, l5 = l4 ++ leB S.epoch 8 := ⟨_, rfl⟩
    have n1 : l1.length = 8 := by rw [hl1]; simp [leB_len]
    have n2 : l2.length = 12 := by rw [hl2]; simp [leB_len]; omega
    have n3 : l3.length = 16 := by rw [hl3]; simp [leB_len]; omega
    have n4 : l4.length = 24 := by rw [hl4]; simp [leB_len]; omega
    have L2 : Hid (PShadowCrashes.shadow_lay.f 20 l1 (IntKind.u64.wrap ((fn : Nat) : Int)) 4 = some l2) := Lib.hid (by rw [wrap_id (by omega) (by omega), hl2]; exact lay_f 4 (by omega) l1 _ (by omega))
    have L3 : Hid (PShadowCrashes.shadow_lay.f 20 l2 (IntKind.u64.wrap (S.tabs.length : Int)) 4 = some l3) := Lib.hid (by rw [wrap_id (by omega) (by omega), hl3]; exact lay_f 4 (by omega) l2 _ (by omega))
    have L4 : Hid (PShadowCrashes.shadow_lay.f 20 l3 0 8 = some l4) := Lib.hid (by rw [hl4]; exact lay_f 8 (by omega) l3 _ (by omega))
    have L5 : Hid (PShadowCrashes.shadow_lay.f 20 l4 S.epoch 8 = some l5) := Lib.hid (by rw [hl5]; exact lay_f 8 (by omega) l4 _ (by omega))
    have HRB2 : Hid (l5 = rootB S) := Lib.hid (by rw [hl5, hl4, hl3, hl2, hl1]; exact HRB.out)
    clear hl1 hl2 hl3 hl4 hl5 n1 n2 n3 n4
    have HSd := Lib.hid (HS1.out.drew)
    have CS : Hid (∀ W, Blk W s 76 [.pointer (some ⟨g, 0, none⟩), .int .i64 S.root, .int .u64 S.epoch, .slice (some ad) S.tabs.length ct, .map (some bk), .map (some bn), .bool false] → (W.cell? ⟨s, 3, none⟩ = some (.slice (some ad) S.tabs.length ct) ∧ W.cell? ⟨s, 2, none⟩ = some (.int .u64 S.epoch))) := Lib.hid fun W h => ⟨h.cell_at 3 _ rfl, h.cell_at 2 _ rfl⟩
    go_region_held3 (fun w' => w'.cell? ⟨s, 3, none⟩ = some (.slice (some ad) S.tabs.length ct) ∧ w'.cell? ⟨s, 2, none⟩ = some (.int .u64 S.epoch)) (exact CS.out _ (by first | exact HSd.out | exact HS2.out | exact HS3.out | exact HS4.out | exact HS5.out)) (first
      | (go_at_call 62; refine (lay_c (w0 := w) (IntKind.u64.wrap ((fn : Nat) : Int)) 4 _ (B1.out.drew) (R_dr R1.out) L2.out).mono ?_; rintro e w2 ⟨A2, k2, rfl, r2, b2⟩; clear R1; have R2 := Lib.hid r2; have B2 := Lib.hid b2; have HS2 := Lib.hid (HS.out.below b2 HS.out.lt); clear r2 b2)
      | (go_at_call 62; refine (lay_c (w0 := w) (IntKind.u64.wrap (S.tabs.length : Int)) 4 _ B2.out R2.out L3.out).mono ?_; rintro e w3 ⟨A3, k3, rfl, r3, b3⟩; clear R2; have R3 := Lib.hid r3; have B3 := Lib.hid b3; have HS3 := Lib.hid (HS.out.below b3 HS.out.lt); clear r3 b3)
      | (go_at_call 62; refine (lay_c (w0 := w) 0 8 _ B3.out R3.out L4.out).mono ?_; rintro e w4 ⟨A4, k4, rfl, r4, b4⟩; clear R3; have R4 := Lib.hid r4; have B4 := Lib.hid b4; have HS4 := Lib.hid (HS.out.below b4 HS.out.lt); clear r4 b4)
      | (go_at_call 62; refine (lay_c (w0 := w) S.epoch 8 _ B4.out R4.out L5.out).mono ?_; rintro e w5 ⟨A5, k5, rfl, r5, b5⟩; clear R4; have R5 := Lib.hid r5; have B5 := Lib.hid b5; have HS5 := Lib.hid (HS.out.below b5 HS.out.lt); clear r5 b5)
      | fail)
    all_goals
      have R6 := R5.out
      have n5 : l5.length = 32 := by rw [HRB2.out, rootB_len]
      rw [n5] at R6 ⊢
      have hSt := H0.out.below B5.out 2
      have C5 := (Kd.R_reads' R6).2.2
      rw [n5] at C5
      obtain ⟨gv, cv, junk, ev, q1, q2, q3, q4, q5, q6⟩ := R_open R6 (by rw [n5]; decide)
      injection ev with e1 e2 e3
      subst e1
      have hown : ¬ upd own w.heap.size 2 gv = 1 := by rw [upd_ge (by omega)]; decide
      have WR := Lib.hid (write_dead hSt.disk HG.out HLF.out (4 * (p : Int)) (some ⟨gv, 0, none⟩) k5)
      have SS := Lib.hid hSt
      have c0' := HS5.out.cell_at 0 _ rfl
      clear e2 e3 q1 q2 q3 q4 q5 q6 c0 c2 c3 CS hSt C5 hown R5 R6 n5
      go_wp2_with (first
        | (go_at_call 48; refine WR.out.mono ?_; rintro e w6 ⟨rfl, hw6⟩; rw [← hw6]; clear hw6)
        | fail)
      go_ret
      exact ⟨rfl, B5.out⟩

  · have ht0 : S.tabs = [] := List.length_eq_zero_iff.1 (by omega)
    have hl0 : S.tabs.length = 0 := by omega
    have HRB := Lib.hid (show leB S.epoch 8 ++ leB 0 4 ++ leB 0 4 ++ leB 0 8 ++ leB S.epoch 8 = rootB S by unfold rootB firstT; rw [ht0]; rfl)
    rw [hl0] at HS c3
    clear htl htlen htli HT ht ht0 hl0
    have HL1 := Lib.hid hl1
    clear hl1
    go_enter Try.func50, Try.ntmps50
    go_wp2_with (first
      | (go_at_call 62; refine (lay_c (w0 := w) S.epoch 8 _ (Below.refl _ w) (Kd.R_nil _ _ _ _ _) L1.out).mono ?_; rintro e w1 ⟨A1, k1, rfl, r1, b1⟩; have R1 := Lib.hid r1; have B1 := Lib.hid b1; have HS1 := Lib.hid (HS.out.below b1 HS.out.lt); clear r1 b1; clear c0 c2 c3; have c0 := HS1.out.cell_at 0 _ rfl; have c2 := HS1.out.cell_at 2 _ rfl; have c3 := HS1.out.cell_at 3 _ rfl)
      | fail)
    have hl1 := HL1.out

    obtain ⟨l2, hl2⟩ : ∃ l2, l2 = l1 ++ leB 0 4 := ⟨_, rfl⟩
    obtain ⟨l3, hl3⟩ : ∃ l3, l3 = l2 ++ leB 0 4 := ⟨_, rfl⟩
    obtain ⟨l4, hl4⟩ : ∃ l4, l4 = l3 ++ leB 0 8 := ⟨_, rfl⟩
    obtain ⟨l5, hl5⟩ : ∃ l5, l5 = l4 ++ leB S.epoch 8 := ⟨_, rfl⟩
    have n1 : l1.length = 8 := by rw [hl1]; simp [leB_len]
    have n2 : l2.length = 12 := by rw [hl2]; simp [leB_len]; omega
    have n3 : l3.length = 16 := by rw [hl3]; simp [leB_len]; omega
    have n4 : l4.length = 24 := by rw [hl4]; simp [leB_len]; omega
    have L2 : Hid (PShadowCrashes.shadow_lay.f 20 l1 (IntKind.u64.wrap 0) 4 = some l2) := Lib.hid (by rw [wrap_id (by omega) (by omega), hl2]; exact lay_f 4 (by omega) l1 _ (by omega))
    have L3 : Hid (PShadowCrashes.shadow_lay.f 20 l2 (IntKind.u64.wrap 0) 4 = some l3) := Lib.hid (by rw [wrap_id (by omega) (by omega), hl3]; exact lay_f 4 (by omega) l2 _ (by omega))
    have L4 : Hid (PShadowCrashes.shadow_lay.f 20 l3 0 8 = some l4) := Lib.hid (by rw [hl4]; exact lay_f 8 (by omega) l3 _ (by omega))
    have L5 : Hid (PShadowCrashes.shadow_lay.f 20 l4 S.epoch 8 = some l5) := Lib.hid (by rw [hl5]; exact lay_f 8 (by omega) l4 _ (by omega))
    have HRB2 : Hid (l5 = rootB S) := Lib.hid (by rw [hl5, hl4, hl3, hl2, hl1]; exact HRB.out)
    clear hl1 hl2 hl3 hl4 hl5 n1 n2 n3 n4
    have HSd := Lib.hid (HS1.out.drew)
    have CS : Hid (∀ W, Blk W s 76 [.pointer (some ⟨g, 0, none⟩), .int .i64 S.root, .int .u64 S.epoch, .slice At 0 ct, .map (some bk), .map (some bn), .bool false] → (W.cell? ⟨s, 3, none⟩ = some (.slice At 0 ct) ∧ W.cell? ⟨s, 2, none⟩ = some (.int .u64 S.epoch))) := Lib.hid fun W h => ⟨h.cell_at 3 _ rfl, h.cell_at 2 _ rfl⟩
    go_region_held3 (fun w' => w'.cell? ⟨s, 3, none⟩ = some (.slice At 0 ct) ∧ w'.cell? ⟨s, 2, none⟩ = some (.int .u64 S.epoch)) (exact CS.out _ (by first | exact HSd.out | exact HS2.out | exact HS3.out | exact HS4.out | exact HS5.out)) (first
      | (go_at_call 62; refine (lay_c (w0 := w) (IntKind.u64.wrap 0) 4 _ (B1.out.drew) (R_dr R1.out) L2.out).mono ?_; rintro e w2 ⟨A2, k2, rfl, r2, b2⟩; clear R1; have R2 := Lib.hid r2; have B2 := Lib.hid b2; have HS2 := Lib.hid (HS.out.below b2 HS.out.lt); clear r2 b2)
      | (go_at_call 62; refine (lay_c (w0 := w) (IntKind.u64.wrap 0) 4 _ B2.out R2.out L3.out).mono ?_; rintro e w3 ⟨A3, k3, rfl, r3, b3⟩; clear R2; have R3 := Lib.hid r3; have B3 := Lib.hid b3; have HS3 := Lib.hid (HS.out.below b3 HS.out.lt); clear r3 b3)
      | (go_at_call 62; refine (lay_c (w0 := w) 0 8 _ B3.out R3.out L4.out).mono ?_; rintro e w4 ⟨A4, k4, rfl, r4, b4⟩; clear R3; have R4 := Lib.hid r4; have B4 := Lib.hid b4; have HS4 := Lib.hid (HS.out.below b4 HS.out.lt); clear r4 b4)
      | (go_at_call 62; refine (lay_c (w0 := w) S.epoch 8 _ B4.out R4.out L5.out).mono ?_; rintro e w5 ⟨A5, k5, rfl, r5, b5⟩; clear R4; have R5 := Lib.hid r5; have B5 := Lib.hid b5; have HS5 := Lib.hid (HS.out.below b5 HS.out.lt); clear r5 b5)
      | fail)
    all_goals
      have R6 := R5.out
      have n5 : l5.length = 32 := by rw [HRB2.out, rootB_len]
      rw [n5] at R6 ⊢
      have hSt := H0.out.below B5.out 2
      have C5 := (Kd.R_reads' R6).2.2
      rw [n5] at C5
      obtain ⟨gv, cv, junk, ev, q1, q2, q3, q4, q5, q6⟩ := R_open R6 (by rw [n5]; decide)
      injection ev with e1 e2 e3
      subst e1
      have hown : ¬ upd own w.heap.size 2 gv = 1 := by rw [upd_ge (by omega)]; decide
      have WR := Lib.hid (write_dead hSt.disk HG.out HLF.out (4 * (p : Int)) (some ⟨gv, 0, none⟩) k5)
      have SS := Lib.hid hSt
      have c0' := HS5.out.cell_at 0 _ rfl
      clear e2 e3 q1 q2 q3 q4 q5 q6 c0 c2 c3 CS hSt C5 hown R5 R6 n5
      go_wp2_with (first
        | (go_at_call 48; refine WR.out.mono ?_; rintro e w6 ⟨rfl, hw6⟩; rw [← hw6]; clear hw6)
        | fail)
      go_ret
      exact ⟨rfl, B5.out⟩
end Go.Proofs.Ytochnokfcfmgnaa.St
end
