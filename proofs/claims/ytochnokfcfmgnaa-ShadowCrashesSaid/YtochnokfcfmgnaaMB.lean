/- Texts merged: a section each. -/
import Derived.Test.YtochnokfcfmgnaaMA
import Derived.Test.YtochnokfcfmgnaaMX
import Derived.Deep.RegionLaw
import Derived.Deep.RegionHeld3
import Derived.Maps.Own
import Derived.Maps.OwnOps
import Derived.Maps.OwnSet
import Derived.Maps.OwnIn
import Derived.Maps.Range
import Derived.Lib.SlKeysI
section
/- Seat F: the root page is written. -/
namespace Go.Proofs.Ytochnokfcfmgnaa.Sh
open Go.RowKit Go.Proofs.Ytochnokfcfmgnaa.Mem Go.Proofs.YtochnokfcfmgnaaW.PrintWords Go.Proofs.Ytochnokfcfmgnaa.Dk
set_option linter.unusedVariables false
set_option linter.unusedSimpArgs false
set_option maxRecDepth 100000
set_option maxHeartbeats 4000000
/-- The number n is laid in m bytes behind those that are there. -/
theorem lay_c {w0 w : World} {v : Value} {l : List Int} (n m : Int) (r : List Int) (hB : Below w0.heap.size w0 w) (hr : (Kd.int .u8).R 5 w w0.heap.size (fun _ => True) v l) (h : PShadowCrashes.shadow_lay.f 20 l n m = some r) :
    Calls Try.prog 62 #[v, .int .u64 n, .int .i64 m] w fun e w' => ∃ A c, e = .returned (.slice A r.length c) ∧ (Kd.int .u8).R 5 w' w0.heap.size (fun _ => True) (.slice A r.length c) r ∧ Below w0.heap.size w0 w' := by
  refine (PShadowCrashes.shadow_lay.calls 20 (fun _ => True) v l n m r w0 w hB hr h).mono ?_
  rintro e w' ⟨v', rfl, hr', hb', _⟩
  obtain ⟨A, c, rfl⟩ := Kd.R_slice hr'
  exact ⟨A, c, rfl, Kd.R_mono hr' (fun _ _ => trivial), hb'⟩
theorem lay1 : PShadowCrashes.shadow_lay.f 20 [] 1 8 = some [1, 0, 0, 0, 0, 0, 0, 0] := by decide +kernel
theorem lay2 : PShadowCrashes.shadow_lay.f 20 [1, 0, 0, 0, 0, 0, 0, 0] 0 4 = some [1, 0, 0, 0, 0, 0, 0, 0, 0, 0, 0, 0] := by decide +kernel
theorem lay3 : PShadowCrashes.shadow_lay.f 20 [1, 0, 0, 0, 0, 0, 0, 0, 0, 0, 0, 0] 0 4 = some [1, 0, 0, 0, 0, 0, 0, 0, 0, 0, 0, 0, 0, 0, 0, 0] := by decide +kernel
theorem lay4 : PShadowCrashes.shadow_lay.f 20 [1, 0, 0, 0, 0, 0, 0, 0, 0, 0, 0, 0, 0, 0, 0, 0] 0 8 = some [1, 0, 0, 0, 0, 0, 0, 0, 0, 0, 0, 0, 0, 0, 0, 0, 0, 0, 0, 0, 0, 0, 0, 0] := by decide +kernel
theorem lay5 : PShadowCrashes.shadow_lay.f 20 [1, 0, 0, 0, 0, 0, 0, 0, 0, 0, 0, 0, 0, 0, 0, 0, 0, 0, 0, 0, 0, 0, 0, 0] 1 8 = some [1, 0, 0, 0, 0, 0, 0, 0, 0, 0, 0, 0, 0, 0, 0, 0, 0, 0, 0, 0, 0, 0, 0, 0, 1, 0, 0, 0, 0, 0, 0, 0] := by decide +kernel
theorem R_dr {w0 w : World} {v : Value} {l : List Int} (h : (Kd.int .u8).R 5 w w0.heap.size (fun _ => True) v l) : (Kd.int .u8).R 5 w.drew w0.heap.size (fun _ => True) v l := Kd.R_drew h
theorem write_new (s d base N p : Nat) (T : Nat → Prop) (m1 m2 : Value) (w : World) (hD : DK w base d N p T) (hp : p ≤ 1000) (hs : Blk w s 76 [.pointer (some ⟨d, 0, none⟩), .int .i64 0, .int .u64 1, .slice none 0 0, m1, m2, .bool false]) (hT : T s) :
    Calls Try.prog 50 #[.pointer (some ⟨s, 0, none⟩), .int .i64 0] w fun e w' => e = .returned (.int .i64 0) ∧ DK w' base d w'.heap.size (p + 1) T ∧ Only w w' (okN base N T) := by
  have HS := Lib.hid hs
  have HD := Lib.hid hD
  have c0 := hs.cell_at 0 _ rfl
  have c2 := hs.cell_at 2 _ rfl
  have c3 := hs.cell_at 3 _ rfl
  clear hs hD
  go_enter Try.func50, Try.ntmps50
  go_wp2_with (first
    | (go_at_call 62; go_loud (refine (lay_c (w0 := w) 1 8 _ (Below.refl _ w) (Kd.R_nil _ _ _ _ _) lay1).mono ?_); rintro e w1 ⟨A1, k1, rfl, r1, b1⟩; have R1 := Lib.hid r1; have B1 := Lib.hid b1; have HS1 := Lib.hid (HS.out.below b1 HS.out.lt); clear r1 b1; clear c0 c2 c3; have c0 := HS1.out.cell_at 0 _ rfl; have c2 := HS1.out.cell_at 2 _ rfl; have c3 := HS1.out.cell_at 3 _ rfl)
    | fail)
  have HSd := Lib.hid (HS1.out.drew)
  have CS : Hid (∀ W, Blk W s 76 [.pointer (some ⟨d, 0, none⟩), .int .i64 0, .int .u64 1, .slice none 0 0, m1, m2, .bool false] → (W.cell? ⟨s, 3, none⟩ = some (.slice none 0 0) ∧ W.cell? ⟨s, 2, none⟩ = some (.int .u64 1))) := Lib.hid fun W h => ⟨h.cell_at 3 _ rfl, h.cell_at 2 _ rfl⟩
  go_region_held3 (fun w' => w'.cell? ⟨s, 3, none⟩ = some (.slice none 0 0) ∧ w'.cell? ⟨s, 2, none⟩ = some (.int .u64 1)) (exact CS.out _ (by first | exact HSd.out | exact HS2.out | exact HS3.out | exact HS4.out | exact HS5.out)) (first
    | (go_at_call 62; refine (lay_c (w0 := w) 0 4 _ (B1.out.drew) (R_dr R1.out) lay2).mono ?_; rintro e w2 ⟨A2, k2, rfl, r2, b2⟩; clear R1; have R2 := Lib.hid r2; have B2 := Lib.hid b2; have HS2 := Lib.hid (HS.out.below b2 HS.out.lt); clear r2 b2)
    | (go_at_call 62; refine (lay_c (w0 := w) 0 4 _ B2.out R2.out lay3).mono ?_; rintro e w3 ⟨A3, k3, rfl, r3, b3⟩; clear R2; have R3 := Lib.hid r3; have B3 := Lib.hid b3; have HS3 := Lib.hid (HS.out.below b3 HS.out.lt); clear r3 b3)
    | (go_at_call 62; refine (lay_c (w0 := w) 0 8 _ B3.out R3.out lay4).mono ?_; rintro e w4 ⟨A4, k4, rfl, r4, b4⟩; clear R3; have R4 := Lib.hid r4; have B4 := Lib.hid b4; have HS4 := Lib.hid (HS.out.below b4 HS.out.lt); clear r4 b4)
    | (go_at_call 62; refine (lay_c (w0 := w) 1 8 _ B4.out R4.out lay5).mono ?_; rintro e w5 ⟨A5, k5, rfl, r5, b5⟩; clear R4; have R5 := Lib.hid r5; have B5 := Lib.hid b5; have HS5 := Lib.hid (HS.out.below b5 HS.out.lt); clear r5 b5)
    | fail)
  all_goals
    have D5 := Lib.hid (HD.out.keep (Only.of_below B5.out (fun _ => False)) (fun _ _ h => h))
    have C5 := Lib.hid (Kd.R_reads' R5.out).2.2
    obtain ⟨gv, cv, junk, ev, q1, q2, q3, q4, q5, q6⟩ := R_open R5.out (by decide)
    injection ev with e1 e2 e3
    subst e1
    have hgv := q6.lt
    have c0' := HS5.out.cell_at 0 _ rfl
    have GV := Lib.hid hgv
    have Q1 := Lib.hid q1
    have HN := Lib.hid HD.out.hN
    clear e2 e3 q1 q2 q3 q4 q5 q6 hgv c0 c2 c3 CS
    go_wp2_with fail
    refine (DK.write D5.out hp 0 (by omega) gv 0 _ _ C5.out (by decide) GV.out (by have := Q1.out; have := HN.out; omega)).mono ?_
    rintro e w6 ⟨rfl, d6, o6⟩
    have D6 := Lib.hid d6
    have O6 := Lib.hid ((Only.of_below B5.out (okN base N T)).step o6 (fun k _ h => h))
    clear d6 o6
    go_wp2
    go_ret
    exact ⟨rfl, D6.out, O6.out⟩
end Go.Proofs.Ytochnokfcfmgnaa.Sh
end

section
/- Seat F: a store is laid on a new disk. -/
namespace Go.Proofs.Ytochnokfcfmgnaa.Sh
open Go.RowKit Go.Proofs.Ytochnokfcfmgnaa.Mem Go.Proofs.YtochnokfcfmgnaaW.PrintWords Go.Proofs.Ytochnokfcfmgnaa.Dk Go.Maps
set_option linter.unusedVariables false
set_option linter.unusedSimpArgs false
set_option maxRecDepth 100000
set_option maxHeartbeats 4000000
theorem format_new (d base N : Nat) (w : World) (hD : DK w base d N 0 (fun _ => False)) :
    Calls Try.prog 28 #[.pointer (some ⟨d, 0, none⟩)] w fun e w' => ∃ s m1 m2, e = .returned (.tuple #[.pointer (some ⟨s, 0, none⟩), .int .i64 0]) ∧
      Blk w' s 76 [.pointer (some ⟨d, 0, none⟩), .int .i64 0, .int .u64 1, .slice none 0 0, .map (some m1), .map (some m2), .bool false] ∧ w'.heap[m2]? = some (.map #[] 0) ∧ base ≤ m2 ∧ Only w w' (fun k => base ≤ k) := by
  have HD := Lib.hid hD
  have HC := Lib.hid hD.count
  have hmm := @run_makeMap Try.prog
  clear hD
  go_enter Try.func28, Try.ntmps28
  go_wp2_with (first
    | (go_at_call 45; refine HC.out.mono ?_; rintro e wz ⟨rfl, hwz⟩; rw [← hwz]; clear hwz)
    | fail)
  have O1 : Hid (Only w (((w.alloc (.map #[] 0)).alloc (.map #[] 0)).alloc (.cells #[.pointer (some ⟨d, 0, none⟩), .int .i64 0, .int .u64 1, .slice none 0 0, .map (some w.heap.size), .map (some (w.heap.size + 1)), .bool false] 76)) (fun k => base ≤ k)) := Lib.hid ((((Only.refl w (fun k => base ≤ k)).alloc _).alloc _).alloc _)
  have Z1 : Hid ((((w.alloc (.map #[] 0)).alloc (.map #[] 0)).alloc (.cells #[.pointer (some ⟨d, 0, none⟩), .int .i64 0, .int .u64 1, .slice none 0 0, .map (some w.heap.size), .map (some (w.heap.size + 1)), .bool false] 76)).heap.size = w.heap.size + 3) := Lib.hid (by simp)
  have S1 : Hid (Blk (((w.alloc (.map #[] 0)).alloc (.map #[] 0)).alloc (.cells #[.pointer (some ⟨d, 0, none⟩), .int .i64 0, .int .u64 1, .slice none 0 0, .map (some w.heap.size), .map (some (w.heap.size + 1)), .bool false] 76)) (w.heap.size + 1 + 1) 76 [.pointer (some ⟨d, 0, none⟩), .int .i64 0, .int .u64 1, .slice none 0 0, .map (some w.heap.size), .map (some (w.heap.size + 1)), .bool false]) := Lib.hid (by have h := Blk.new ((w.alloc (.map #[] 0)).alloc (.map #[] 0)) 76 [.pointer (some ⟨d, 0, none⟩), .int .i64 0, .int .u64 1, .slice none 0 0, .map (some w.heap.size), .map (some (w.heap.size + 1)), .bool false]; simpa using h)
  have M1 : Hid ((((w.alloc (.map #[] 0)).alloc (.map #[] 0)).alloc (.cells #[.pointer (some ⟨d, 0, none⟩), .int .i64 0, .int .u64 1, .slice none 0 0, .map (some w.heap.size), .map (some (w.heap.size + 1)), .bool false] 76)).heap[w.heap.size + 1]? = some (.map #[] 0)) := Lib.hid (by
    have h := (MapKept.heap_alloc (w.alloc (.map #[] 0)) (.map #[] 0)).1
    rw [World.size_alloc] at h
    exact (Below.heap_alloc _ _ _ (by simp)).trans h)
  have D1 : Hid (DK (((w.alloc (.map #[] 0)).alloc (.map #[] 0)).alloc (.cells #[.pointer (some ⟨d, 0, none⟩), .int .i64 0, .int .u64 1, .slice none 0 0, .map (some w.heap.size), .map (some (w.heap.size + 1)), .bool false] 76)) base d N 0 (fun k => k = w.heap.size + 1 ∨ k = w.heap.size + 1 + 1)) := Lib.hid ((HD.out.keep ((((Only.refl w (fun _ => False)).alloc _).alloc _).alloc _) (fun _ _ h => h)).taboo (fun k hk => by have := HD.out.hN; simp only [World.size_alloc]; omega) (fun k hk => hk.elim))
  have HN := Lib.hid HD.out.hN
  have HBs := Lib.hid HD.out.hb
  clear HC HD
  generalize (((w.alloc (.map #[] 0)).alloc (.map #[] 0)).alloc (.cells #[.pointer (some ⟨d, 0, none⟩), .int .i64 0, .int .u64 1, .slice none 0 0, .map (some w.heap.size), .map (some (w.heap.size + 1)), .bool false] 76)) = w1 at *
  generalize hS : w.heap.size + 1 + 1 = s at *
  generalize hM : w.heap.size + 1 = m2 at *
  generalize hM1 : w.heap.size = m1 at *
  have HT : Hid (m2 < s ∧ N < m2 ∧ s < w1.heap.size) := Lib.hid (by have := HN.out; have := Z1.out; omega)
  obtain ⟨T, hT⟩ : ∃ T : Nat → Prop, T = (fun k => k = m2 ∨ k = s) := ⟨_, rfl⟩
  rw [← hT] at D1
  have Ts : Hid (T s) := Lib.hid (by rw [hT]; exact .inr rfl)
  have Tm : Hid (T m2) := Lib.hid (by rw [hT]; exact .inl rfl)
  clear hT hS hM
  have hmk : ∀ u : World, (Instr.makeSlice 23 (.int .i64 32) (.int .i64 32)).run Try.prog u = .ok (.slice (some ⟨u.heap.size, 0, none⟩) 32 32) (u.alloc (.cells (icells .u8 (zeros 32)).toArray 5)) := fun u => make_zeros 32 (by omega) u
  have CS : Hid (∀ W, Blk W s 76 [.pointer (some ⟨d, 0, none⟩), .int .i64 0, .int .u64 1, .slice none 0 0, .map (some m1), .map (some m2), .bool false] → W.cell? ⟨s, 0, none⟩ = some (.pointer (some ⟨d, 0, none⟩))) := Lib.hid fun W h => h.cell_at 0 _ rfl
  have Sd := Lib.hid S1.out.drew
  have Sz := Lib.hid (S1.out.drew.alloc (.cells (icells .u8 (zeros 32)).toArray 5))
  have Dz := Lib.hid (D1.out.keep (((Only.refl w1 (fun _ => False)).drew).alloc (.cells (icells .u8 (zeros 32)).toArray 5)) (fun _ _ h => h))
  have Cz := Lib.hid (C_of_blk (o := 0) (n := 32) (Blk.new w1.drew 5 (icells .u8 (zeros 32))) (by decide) (by decide))
  have Oz := Lib.hid ((O1.out.drew).alloc (.cells (icells .u8 (zeros 32)).toArray 5))
  have Mz : Hid ((w1.drew.alloc (.cells (icells .u8 (zeros 32)).toArray 5)).heap[m2]? = some (.map #[] 0)) := Lib.hid ((Below.heap_alloc w1.drew _ m2 (by have := HT.out; show m2 < w1.heap.size; omega)).trans M1.out)
  go_region_held3 (fun w' => w'.cell? ⟨s, 0, none⟩ = some (.pointer (some ⟨d, 0, none⟩))) (exact CS.out _ (by first | exact Sd.out | exact Sz.out | exact S2.out | exact S3.out | exact S4.out | exact S5.out)) (first
    | (go_at_call 48; refine (DK.write Dz.out (by omega) 4 (by omega) w1.heap.size 0 32 _ Cz.out (by decide) (by simp) (by have := HT.out; omega)).mono ?_; rintro e w2 ⟨rfl, d2, o2⟩; clear Dz; have D2 := Lib.hid d2; have O2 := Lib.hid (Oz.out.step o2 (fun k _ h => h.1)); have S2 := Lib.hid (Sz.out.keep o2 (fun h => h.2.2 Ts.out)); have M2 := Lib.hid ((o2.block m2 (by have := HT.out; simp; omega) (fun h => h.2.2 Tm.out)).trans Mz.out); clear d2 o2)
    | (go_at_call 49; refine (DK.barrier D2.out).mono ?_; rintro e w3 ⟨rfl, d3, o3⟩; clear D2; have D3 := Lib.hid d3; have O3 := Lib.hid (O2.out.step o3 (fun k _ h => h.1)); have S3 := Lib.hid (S2.out.keep o3 (fun h => h.2.2 Ts.out)); have M3 := Lib.hid ((o3.block m2 (Nat.lt_of_lt_of_le HT.out.1 (Nat.le_of_lt S2.out.lt)) (fun h => h.2.2 Tm.out)).trans M2.out); clear d3 o3)
    | (go_at_call 50; refine (write_new s d base _ _ T _ _ _ D3.out (by omega) S3.out Ts.out).mono ?_; rintro e w4 ⟨rfl, d4, o4⟩; clear D3; have D4 := Lib.hid d4; have O4 := Lib.hid (O3.out.step o4 (fun k _ h => h.1)); have S4 := Lib.hid (S3.out.keep o4 (fun h => h.2.2 Ts.out)); have M4 := Lib.hid ((o4.block m2 (Nat.lt_of_lt_of_le HT.out.1 (Nat.le_of_lt S3.out.lt)) (fun h => h.2.2 Tm.out)).trans M3.out); clear d4 o4)
    | (go_at_call 49; refine (DK.barrier D4.out).mono ?_; rintro e w5 ⟨rfl, d5, o5⟩; clear D4; have O5 := Lib.hid (O4.out.step o5 (fun k _ h => h.1)); have S5 := Lib.hid (S4.out.keep o5 (fun h => h.2.2 Ts.out)); have M5 := Lib.hid ((o5.block m2 (Nat.lt_of_lt_of_le HT.out.1 (Nat.le_of_lt S4.out.lt)) (fun h => h.2.2 Tm.out)).trans M4.out); clear d5 o5)
    | fail)
  all_goals
    clear hmk hmm
    go_wp2
    go_ret2
    exact ⟨s, m1, m2, rfl, S5.out, M5.out, by have := HT.out; have := HBs.out; omega, O5.out⟩
end Go.Proofs.Ytochnokfcfmgnaa.Sh
end

section
/- Seat F: a page is put, and got. -/
namespace Go.Proofs.Ytochnokfcfmgnaa.Sh
open Go.RowKit Go.Proofs.Ytochnokfcfmgnaa.Mem Go.Proofs.YtochnokfcfmgnaaW.PrintWords Go.Proofs.Ytochnokfcfmgnaa.Dk Go.Maps
set_option linter.unusedVariables false
set_option linter.unusedSimpArgs false
set_option maxRecDepth 100000
set_option maxHeartbeats 4000000
theorem u3 : Try.prog.underlying 3 = some (.int .i64) := by kernel_rfl
theorem u74 : Try.prog.underlying 74 = some (.map 3 72) := by kernel_rfl
theorem law3 : Keyed Try.prog 3 := int_keyed u3
theorem key3 : keyOf Try.prog 3 (.int .i64 3) = some (.int .i64 3) := keyOf_int_mk u3 (by decide)
theorem zero72 (w : World) : (zeroValue 72).run Try.prog w = .ok (.agg #[.int .i64 0, .slice none 0 0]) w := by
  have h : (Try.prog.info? 72).map (fun i => i.zero) = some (some (.agg #[.int .i64 0, .slice none 0 0])) := by kernel_rfl
  cases hi : Try.prog.info? 72 with
  | none => rw [hi] at h; cases h
  | some i => rw [hi] at h; injection h with h; simp [zeroValue, typeInfo, hi, h]
open Classical in
/-- The one page that is there reads as 1; no page as 0. -/
noncomputable def pR (v0 v : Value) : Option (DataW Nat × List MemPlace) := if v = v0 then some (.lit (.int .i64 1), []) else if v = .agg #[.int .i64 0, .slice none 0 0] then some (.lit (.int .i64 0), []) else none
theorem pR_inv {v0 v : Value} {ps : List MemPlace} (h : pR v0 v = some (.lit (.int .i64 1), ps)) : v = v0 := by
  unfold pR at h
  split at h
  · assumption
  · split at h
    · injection h with h; injection h with h _; injection h with h; injection h with _ h; exact absurd h (by decide)
    · cases h
theorem made (w : World) (b : Nat) (R : Value → Option (DataW Nat × List MemPlace)) (h : w.heap[b]? = some (.map #[] 0)) : w.ownsMap Try.prog 3 R b 0 (.map []) := ⟨#[], 0, h, ⟨by simp, MapKept.stamped_empty 0, by simp⟩, Nat.le_refl _, rfl⟩
theorem put_new (s m2 ab : Nat) (a b c d e : Value) (w : World) (hs : Blk w s 76 [a, b, c, d, e, .map (some m2), .bool false]) (hm : w.heap[m2]? = some (.map #[] 0)) (hb : Blk w ab 5 [.int .u8 9]) :
    Calls Try.prog 12 #[.pointer (some ⟨s, 0, none⟩), .int .i64 3, .slice (some ⟨ab, 0, none⟩) 1 1] w fun e' w' => e' = .returned (.int .i64 0) ∧ ∃ A k, Blk w' s 76 [a, b, c, d, e, .map (some m2), .bool false] ∧
      (Kd.int .u8).R 5 w' w.heap.size (fun _ => True) (.slice A 1 k) [9] ∧ w'.ownsMap Try.prog 3 (pR (.agg #[.int .i64 0, .slice A 1 k])) m2 1 ((DataW.map []).put (.int .i64 3) (.lit (.int .i64 1))) ∧ Only w w' (fun k => k = m2) := by
  have HCk := Lib.hid (check_ok s a b c d e (.map (some m2)) 3 w hs (by omega) (by omega))
  have HS := Lib.hid hs
  have HM := Lib.hid hm
  have hmlt : Hid (m2 < w.heap.size) := Lib.hid (Array.getElem?_eq_some_iff.1 hm).1
  have HCl := Lib.hid (clone_any ab 0 1 1 [9] w.drew rfl (by omega) (fun j v hv => by rw [add_flat, Nat.zero_add]; exact (hb.cell j).trans hv))
  have hne : Hid (s ≠ m2) := Lib.hid (by rintro rfl; have h := hs; unfold Blk at h; rw [hm] at h; cases h)
  clear hs hm hb
  go_enter Try.func12, Try.ntmps12
  go_wp2_with (first
    | (go_at_call 32; refine HCk.out.mono ?_; rintro e wz ⟨rfl, hwz⟩; rw [hwz]; clear hwz)
    | fail)
  have c5 := HS.out.cell_at 5 _ rfl
  have CS : Hid (∀ W, Blk W s 76 [a, b, c, d, e, .map (some m2), .bool false] → W.cell? ⟨s, 5, none⟩ = some (.map (some m2))) := Lib.hid fun W h => h.cell_at 5 _ rfl
  have Sd := Lib.hid HS.out.drew
  go_region_held3 (fun w' => w'.cell? ⟨s, 5, none⟩ = some (.map (some m2))) (exact CS.out _ (by first | exact Sd.out | exact S2.out | exact S3.out)) (first
    | (go_at_call 33; refine HCl.out.mono ?_; rintro e2 w2 ⟨v, rfl, r2, b2⟩; obtain ⟨A, k, rfl⟩ := Kd.R_slice r2; clear HCl; have R2 := Lib.hid r2; have B2 := Lib.hid b2; have S2 := Lib.hid (Sd.out.below b2 Sd.out.lt); have M2 := Lib.hid ((b2.block m2 hmlt.out).trans HM.out); obtain ⟨w3, hrun3, hown3, hg3⟩ := (made w2 m2 (pR (.agg #[.int .i64 0, .slice A 1 k])) M2.out).update law3 u74 (by decide) key3 (show pR (.agg #[.int .i64 0, .slice A 1 k]) (.agg #[.int .i64 0, .slice A 1 k]) = some (.lit (.int .i64 1), []) by unfold pR; rw [if_pos rfl]); have OW3 := Lib.hid hown3; have G3 := Lib.hid hg3; have S3 := Lib.hid (S2.out.keep (Only.of_grown hg3) (fun h => hne.out (by injection h))); clear r2 b2 hown3 hg3)
    | fail)
  all_goals
    have R3 : Hid ((Kd.int .u8).R 5 w3 w.heap.size (fun _ => True) (.slice A 1 k) [9]) := Lib.hid (Kd.R_mono (Kd.R_step (Kd.R_bound R2.out) (w1 := w3) (fun q hq hlt => G3.out.block q hlt (fun h => by injection h with h; have h1 := hq.2.1; have h2 := hmlt.out; have h3 : w.drew.heap.size = w.heap.size := rfl; omega))) (fun _ _ => trivial))
    have O3 : Hid (Only w w3 (fun k => k = m2)) := Lib.hid (((Only.refl w (fun k => k = m2)).drew.step (Only.of_below B2.out (fun _ => False)) (fun _ _ h => h.elim)).step (Only.of_grown G3.out) (fun q _ h => by injection h))
    clear CS c5 hrun3
    go_wp2
    go_ret
    exact ⟨rfl, A, k, S3.out, R3.out, OW3.out, O3.out⟩
theorem get_new (s m2 : Nat) (a b c d e : Value) (A : Option Addr) (k base : Nat) (w : World) (hs : Blk w s 76 [a, b, c, d, e, .map (some m2), .bool false]) (hr : (Kd.int .u8).R 5 w base (fun _ => True) (.slice A 1 k) [9])
    (hm : w.ownsMap Try.prog 3 (pR (.agg #[.int .i64 0, .slice A 1 k])) m2 1 ((DataW.map []).put (.int .i64 3) (.lit (.int .i64 1)))) :
    Calls Try.prog 11 #[.pointer (some ⟨s, 0, none⟩), .int .i64 3] w fun e' w' => ∃ G k', e' = .returned (.tuple #[.slice (some ⟨G, 0, none⟩) 1 k', .int .i64 0]) ∧ w'.cell? ⟨G, 0, none⟩ = some (.int .u8 9) ∧ Below w.heap.size w w' := by
  have HCk := Lib.hid (check_ok s a b c d e (.map (some m2)) 3 w hs (by omega) (by omega))
  have c5 := hs.cell_at 5 _ rfl
  have HM := Lib.hid hm
  obtain ⟨g, cap, junk, ev, q1, q2, q3, q4, q5, q6⟩ := R_open hr (by decide)
  injection ev with e1 e2 e3
  subst e1
  have HQ := Lib.hid q6
  have HCl := Lib.hid (fun W (hW : Below w.heap.size w W) => clone_any g 0 1 k [9] W rfl (by omega) (fun j v hv => by
    rw [add_flat, Nat.zero_add]
    rw [hW.cell q6.lt]
    refine (q6.cell j).trans ?_
    rw [List.getElem?_append_left (by have := (List.getElem?_eq_some_iff.1 hv).1; exact this)]
    exact hv))
  clear hs hr hm e2 e3 q1 q2 q3 q4 q5 q6
  have hz := zero72
  have hp0 : pR (.agg #[.int .i64 0, .slice (some ⟨g, 0, none⟩) 1 k]) (.agg #[.int .i64 0, .slice none 0 0]) = some (.lit (.int .i64 0), []) := by
    unfold pR
    rw [if_neg (by intro h; injection h with h; injection h with h; injection h with _ h; injection h with h _; injection h with h _; cases h), if_pos rfl]
  obtain ⟨v, ps, hrun, hv⟩ := HM.out.look_ok law3 u74 (zero72 w) hp0 key3
  have hat : ((DataW.map []).put (.int .i64 3) (.lit (.int .i64 1) : DataW Nat)).atKey (.int .i64 3) (.lit (.int .i64 0)) = .lit (.int .i64 1) := by rfl
  rw [hat] at hv
  obtain rfl := pR_inv hv
  have hhas : Maps.has ((DataW.map []).put (.int .i64 3) (.lit (.int .i64 1) : DataW Nat)) (.int .i64 3) = true := by rfl
  rw [hhas] at hrun
  clear HM hv hat hhas hz hp0
  go_enter Try.func11, Try.ntmps11
  go_wp2_with (first
    | (go_at_call 32; refine HCk.out.mono ?_; rintro e wz ⟨rfl, hwz⟩; rw [hwz]; clear hwz)
    | (go_at_call 33; refine (HCl.out _ ((Below.refl _ w).alloc (Nat.le_refl _) (.cells #[.int .i64 0, .slice (some ⟨g, 0, none⟩) 1 k] 72))).mono ?_; rintro e2 w2 ⟨v, rfl, r2, b2⟩; have R2 := Lib.hid r2; have B2 := Lib.hid b2; clear r2 b2)
    | fail)
  obtain ⟨G, cap', junk', rfl, q1, q2, q3, q4, q5, q6⟩ := R_open R2.out (by decide)
  have hc := q6.cell_at 0 (.int .u8 9) rfl
  have HC := Lib.hid hc
  clear q1 q2 q3 q4 q5 q6 hc
  go_ret2
  exact ⟨G, cap', rfl, HC.out, ((Below.refl _ w).alloc (Nat.le_refl _) _).trans (B2.out.mono (by simp))⟩
/-- The awakening. -/
theorem awake_c (w : World) : Calls Try.prog 10 #[] w fun e w' => e = .returned (.bool true) ∧ Below w.heap.size w w' := by
  go_enter Try.func10, Try.ntmps10
  go_wp2_with (first
    | (go_at_call 31; refine (DK.new _).mono ?_; rintro e w1 ⟨d, rfl, d1, b1⟩; have D1 := Lib.hid d1; have B1 := Lib.hid b1; clear d1 b1)
    | (go_at_call 28; refine (format_new d _ _ _ D1.out).mono ?_; rintro e w2 ⟨s, m1, m2, rfl, s2, mm2, hm2, o2⟩; have S2 := Lib.hid s2; have M2 := Lib.hid mm2; have HM2 := Lib.hid hm2; have O2 := Lib.hid (B1.out.trans (o2.below (B := w.heap.size) B1.out.size (fun k hk h => by omega))); clear s2 mm2 o2 hm2)
    | (go_at_call 12; refine (put_new s m2 w2.heap.size _ _ _ _ _ _ (S2.out.alloc _) ((Below.heap_alloc w2 _ m2 (Array.getElem?_eq_some_iff.1 M2.out).1).trans M2.out) (Blk.new w2 5 [.int .u8 9])).mono ?_; rintro e w3 ⟨rfl, A, k, s3, r3, mm3, o3⟩; have S3 := Lib.hid s3; have R3 := Lib.hid r3; have M3 := Lib.hid mm3; have O3 := Lib.hid (O2.out.trans (((Only.refl w2 (fun k => k = m2)).alloc (.cells #[.int .u8 9] 5) |>.step o3 (fun _ _ h => h)).below (B := w.heap.size) O2.out.size (fun q hq h => by have := HM2.out; omega))); clear s3 r3 mm3 o3)
    | (go_at_call 11; refine (get_new s m2 _ _ _ _ _ A k _ _ S3.out R3.out M3.out).mono ?_; rintro e w4 ⟨G, k', rfl, c4, b4⟩; have B4 := Lib.hid b4; have S4 := Lib.hid (S3.out.below b4 S3.out.lt); clear b4)
    | (go_at_call 22; refine (epoch_ok s _ _ _ _ _ 1 _ S4.out).mono ?_; rintro e w5 ⟨rfl, hw5⟩; rw [hw5]; clear hw5)
    | fail)
  go_ret
  exact ⟨rfl, O3.out.trans (B4.out.mono O3.out.size)⟩
end Go.Proofs.Ytochnokfcfmgnaa.Sh
end

section
/- Seat F: a map whose keys are ints, made by the program: a function from numbers to values. -/
namespace Go.Proofs.Ytochnokfcfmgnaa.St
open Go Go.RowKit Go.Proofs.Ytochnokfcfmgnaa.Mem Go.Maps Go.ChangeMaps Go.Proofs.Ytochnokfcfmgnaa.Sh
set_option linter.unusedVariables false
set_option linter.unusedSimpArgs false
set_option maxRecDepth 10000
/-- Whatever lies in the map reads as itself. -/
def vR (v : Value) : Option (DataW Value × List MemPlace) := some (.held v, [])
theorem vR_inv {v : Value} {d : DataW Value} {ps : List MemPlace} (h : vR v = some (d, ps)) : d = .held v := by
  unfold vR at h
  injection h with h
  injection h with h _
  exact h.symm
def key (i : Int) : Lit := .int .i64 i
theorem key_inj {s t : Int} (h : key s = key t) : s = t := by
  unfold key at h
  injection h
def Rg (i : Int) : Prop := (Lit.int .i64 i).wf = true
theorem key_wf {i : Int} (h : Rg i) : (Lit.int .i64 i).wf = true := h
theorem Rg.of {i : Int} (h0 : 0 ≤ i) (h1 : i < 100000) : Rg i := by
  have e1 : IntKind.i64.min = -9223372036854775808 := by decide
  have e2 : IntKind.i64.max = 9223372036854775807 := by decide
  simp [Rg, Lit.wf, e1, e2]
  omega
theorem key_lit (i : Int) : WideAt.IsKeyLit (key i) := trivial
/-- No more in a list without repeats than in one that has them all. -/
theorem nodup_len {α : Type} [DecidableEq α] : ∀ {a b : List α}, a.Nodup → (∀ x ∈ a, x ∈ b) → a.length ≤ b.length
  | [], _, _, _ => Nat.zero_le _
  | x :: r, b, hn, hs => by
    obtain ⟨h1, h2⟩ := List.nodup_cons.1 hn
    have hx : x ∈ b := hs x (by simp)
    have := nodup_len (a := r) (b := b.erase x) h2 (fun y hy => (List.mem_erase_of_ne (fun e => h1 (by rw [← e]; exact hy))).2 (hs y (by simp [hy])))
    rw [List.length_erase_of_mem hx] at this
    have hp : 0 < b.length := List.length_pos_of_mem hx
    simp only [List.length_cons]
    omega
theorem keyOf_ (i : Int) (h : Rg i) : keyOf Try.prog 3 (.int .i64 i) = some (key i) := keyOf_int_mk u3 (key_wf h)
/-- Block b is a map: m. -/
def Mp (w : World) (b : Nat) (m : Int → Option Value) : Prop :=
  ∃ D : DataW Value, w.ownsMap Try.prog 3 vR b (Maps.size D) D ∧ ∀ i, Maps.has D (key i) = (m i).isSome ∧ ∀ z, D.atKey (key i) (.held z) = .held ((m i).getD z)
theorem own_size {w : World} {b n : Nat} {D : DataW Value} {k : TypeId} {P : Program} (h : w.ownsMap P k vR b n D) : w.ownsMap P k vR b (Maps.size D) D := by
  obtain ⟨es, cl, hb, F, hs, rfl⟩ := h
  exact ⟨es, cl, hb, F, by simp [Maps.size, length_sorted], rfl⟩
section
variable {w w' : World} {b : Nat} {m : Int → Option Value}
theorem Mp.lt (h : Mp w b m) : b < w.heap.size := by obtain ⟨D, h, _⟩ := h; exact h.lt
theorem Mp.made_ (w : World) (h : w.heap[b]? = some (.map #[] 0)) : Mp w b (fun _ => none) := ⟨.map [], ⟨#[], 0, h, ⟨by simp, MapKept.stamped_empty 0, by simp⟩, Nat.le_refl _, rfl⟩, fun i => ⟨rfl, fun z => rfl⟩⟩
theorem Mp.step {S : Nat → Prop} (h : Mp w b m) (ho : Only w w' S) (hb : ¬ S b) : Mp w' b m := by
  obtain ⟨D, ⟨es, cl, hh, r⟩, k⟩ := h
  exact ⟨D, ⟨es, cl, (ho.block b (Array.getElem?_eq_some_iff.1 hh).1 hb).trans hh, r⟩, k⟩
theorem Mp.below {B : Nat} (h : Mp w b m) (hb : Below B w w') (hB : b < B) : Mp w' b m := by
  obtain ⟨D, ⟨es, cl, hh, r⟩, k⟩ := h
  exact ⟨D, ⟨es, cl, (hb.block b hB).trans hh, r⟩, k⟩
theorem Mp.alloc (h : Mp w b m) (o : Obj) : Mp (w.alloc o) b m := h.step ((Only.refl w (fun _ => False)).alloc o) (fun h => h)
theorem Mp.drew (h : Mp w b m) : Mp w.drew b m := h
theorem Mp.setCell (h : Mp w b m) {p : Addr} (hp : p.block ≠ b) (u : Value) : Mp (w.setCell p u) b m := h.step ((Only.refl w (fun k => k = p.block)).setCell (fun _ => rfl) u) (fun e => hp e.symm)
/-- A map is no row of cells. -/
theorem Mp.ne {g : Nat} {t : TypeId} {cs : List Value} (h : Mp w b m) (hg : Blk w g t cs) : g ≠ b := by
  rintro rfl
  obtain ⟨D, ⟨es, cl, hh, r⟩, k⟩ := h
  unfold Blk at hg
  rw [hh] at hg
  cases hg
/-- How many entries there are at most. -/
theorem Mp.size_le {D : DataW Value} (h : w.ownsMap Try.prog 3 vR b (Maps.size D) D) (N : Nat) (hN : ∀ i, Maps.has D (key i) = true → 0 ≤ i ∧ i < (N : Int)) : Maps.size D ≤ N := by
  obtain ⟨es, rfl, hp, hk⟩ := h.entries law3
  obtain ⟨es', hD, hko⟩ := h.keysOf
  obtain rfl : es = es' := by simpa using hD
  have hki : ∀ p ∈ es, ∃ x, p.1 = .int .i64 x := fun p hp => by
    obtain ⟨v, hv⟩ := hko p hp
    obtain ⟨x, _, hx, _⟩ := Maps.keyOf_i64 u3 hv
    exact ⟨x, hx⟩
  have hnd : (es.map fun p => (intOf p.1).toNat).Nodup := by
    refine List.pairwise_map.2 (hp.imp_of_mem fun {p q} hp' hq' hne e => hne ?_)
    obtain ⟨a, ha⟩ := hki p hp'
    obtain ⟨c, hc⟩ := hki q hq'
    have h1 := hN a (by rw [has_eq, List.any_eq_true]; exact ⟨p, hp', by rw [ha]; exact WideAt.sameKey_self (by first | exact ha ▸ hk p hp' | exact hc ▸ hk q hq')⟩)
    have h2 := hN c (by rw [has_eq, List.any_eq_true]; exact ⟨q, hq', by rw [hc]; exact WideAt.sameKey_self (by first | exact ha ▸ hk p hp' | exact hc ▸ hk q hq')⟩)
    rw [ha, hc] at e ⊢
    have h3 : (a.toNat : Nat) = c.toNat := e
    have : a = c := by omega
    rw [this]
  have hsub : ∀ x ∈ (es.map fun p => (intOf p.1).toNat), x ∈ List.range N := fun x hx => by
    obtain ⟨p, hp', rfl⟩ := List.mem_map.1 hx
    obtain ⟨a, ha⟩ := hki p hp'
    have h1 := hN a (by rw [has_eq, List.any_eq_true]; exact ⟨p, hp', by rw [ha]; exact WideAt.sameKey_self (by first | exact ha ▸ hk p hp' | exact hc ▸ hk q hq')⟩)
    rw [ha, List.mem_range]
    have : intOf (Lit.int .i64 a) = a := rfl
    omega
  have h4 := nodup_len hnd hsub
  simpa [Maps.size] using h4
theorem Mp.look (h : Mp w b m) (i : Int) (hi : Rg i) : (Instr.lookup 74 (.map (some b)) (.int .i64 i) false).run Try.prog w = .ok ((m i).getD (.agg #[.int .i64 0, .slice none 0 0])) w := by
  obtain ⟨D, ho, hk⟩ := h
  obtain ⟨v, ps, hrun, hv⟩ := ho.lookup law3 u74 (zero72 w) (show vR (.agg #[.int .i64 0, .slice none 0 0]) = some (.held _, []) from rfl) (keyOf_ i hi)
  have h1 := ((hk i).2 (.agg #[.int .i64 0, .slice none 0 0])).symm.trans (vR_inv hv)
  have h2 : v = (m i).getD (.agg #[.int .i64 0, .slice none 0 0]) := by injection h1 with h1; exact h1.symm
  subst h2
  exact hrun
theorem Mp.look_ok (h : Mp w b m) (i : Int) (hi : Rg i) : (Instr.lookup 74 (.map (some b)) (.int .i64 i) true).run Try.prog w = .ok (.tuple #[(m i).getD (.agg #[.int .i64 0, .slice none 0 0]), .bool (m i).isSome]) w := by
  obtain ⟨D, ho, hk⟩ := h
  obtain ⟨v, ps, hrun, hv⟩ := ho.look_ok law3 u74 (zero72 w) (show vR (.agg #[.int .i64 0, .slice none 0 0]) = some (.held _, []) from rfl) (keyOf_ i hi)
  have h1 := ((hk i).2 (.agg #[.int .i64 0, .slice none 0 0])).symm.trans (vR_inv hv)
  have h2 : v = (m i).getD (.agg #[.int .i64 0, .slice none 0 0]) := by injection h1 with h1; exact h1.symm
  subst h2
  rw [(hk i).1] at hrun
  exact hrun
theorem Mp.update (h : Mp w b m) (N : Nat) (hN : ∀ i, (m i).isSome = true → 0 ≤ i ∧ i < (N : Int)) (hNl : N < 100000) (i : Int) (hi : Rg i) (v : Value) :
    ∃ w', (Instr.mapUpdate 74 (.map (some b)) (.int .i64 i) v).run Try.prog w = .ok () w' ∧ Mp w' b (fun x => if x = i then some v else m x) ∧ Only w w' (fun k => k = b) := by
  obtain ⟨D, ho, hk⟩ := h
  have hs := Mp.size_le ho N (fun i hi => hN i (by rw [← (hk i).1]; exact hi))
  obtain ⟨w', hrun, ho', hg⟩ := ho.update law3 u74 (by unfold maxLen; omega) (keyOf_ i hi) (show vR v = some (.held v, []) from rfl)
  refine ⟨w', hrun, ⟨_, own_size ho', fun x => ?_⟩, (Only.of_grown hg).mono (fun k _ h => by injection h)⟩
  show Maps.has (D.put (key i) (.held v)) (key x) = (if x = i then some v else m x).isSome ∧ ∀ z, (D.put (key i) (.held v)).atKey (key x) (.held z) = .held ((if x = i then some v else m x).getD z)
  by_cases hx : x = i
  · subst hx
    rw [if_pos rfl]
    exact ⟨has_put_same ho.isMap (key_lit _) _, fun z => atKey_put_same ho.isMap (key_lit _) _ _⟩
  · rw [if_neg hx]
    have hne : key x ≠ key i := fun h => hx (key_inj h)
    exact ⟨(has_put_other hne _).trans (hk x).1, fun z => (atKey_put_other hne _ _).trans ((hk x).2 z)⟩
theorem Mp.delete (h : Mp w b m) (i : Int) (hi : Rg i) (ty : TypeId) :
    ∃ w', (Builtin.delete_ #[74, 3] ty #[.map (some b), .int .i64 i]).run Try.prog w = .ok (.tuple #[]) w' ∧ Mp w' b (fun x => if x = i then none else m x) ∧ Only w w' (fun k => k = b) := by
  obtain ⟨D, ho, hk⟩ := h
  obtain ⟨w', hrun, ho', hg⟩ := ho.drop law3 u74 (keyOf_ i hi) ty
  refine ⟨w', hrun, ⟨_, own_size ho', fun x => ?_⟩, (Only.of_grown hg.grown).mono (fun k _ h => by injection h)⟩
  show Maps.has (D.del (key i)) (key x) = (if x = i then none else m x).isSome ∧ ∀ z, (D.del (key i)).atKey (key x) (.held z) = .held ((if x = i then none else m x).getD z)
  by_cases hx : x = i
  · subst hx
    rw [if_pos rfl]
    exact ⟨has_del_same, fun z => atKey_del_same _⟩
  · rw [if_neg hx]
    have hne : key x ≠ key i := fun h => hx (key_inj h)
    exact ⟨(has_del_other hne).trans (hk x).1, fun z => (atKey_del_other hne _).trans ((hk x).2 z)⟩
end
end Go.Proofs.Ytochnokfcfmgnaa.St
end
