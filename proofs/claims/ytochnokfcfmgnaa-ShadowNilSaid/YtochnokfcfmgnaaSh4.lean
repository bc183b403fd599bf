/- Seat F: a store is laid on a new disk. -/
import Derived.Test.YtochnokfcfmgnaaSh3
import Derived.Maps.Own
import Derived.Maps.OwnOps
import Derived.Maps.OwnSet
import Derived.Maps.OwnIn
namespace Go.Proofs.Ytochnokfcfmgnaa.Sh
open Go.RowKit Go.Proofs.Ytochnokfcfmgnaa.Mem Go.Proofs.YtochnokfcfmgnaaW.PrintWords Go.Proofs.Ytochnokfcfmgnaa.Dk Go.Maps
set_option linter.unusedVariables false
set_option linter.unusedSimpArgs false
set_option maxRecDepth 100000
set_option maxHeartbeats 4000000
theorem format_new (d base N : Nat) (w : World) (hD : DK w base d N 0 (fun _ => False)) :
    Calls Try.prog 28 #[.pointer (some ⟨d, 0, none⟩)] w fun e w' => ∃ s m1 m2, e = .returned (.tuple #[.pointer (some ⟨s, 0, none⟩), .int .i64 0]) ∧
      Blk w' s 76 [.pointer (some ⟨d, 0, none⟩), .int .i64 0, .int .u64 1, .slice none 0 0, .map (some m1), .map (some m2), .bool false] ∧ w'.heap[m2]? = some (.map #[] 0) ∧ base ≤ m2 ∧ Only w w' (fun k => base ≤ k) := by
  have HD := Lib.hid hD
  have HC := Lib.hid hD.count
  have hmm := @run_makeMap Try.prog
  clear hD
  go_enter Try.func28, Try.ntmps28
  go_wp2_with (first
    | (go_at_call 45; refine HC.out.mono ?_; rintro e wz ⟨rfl, hwz⟩; rw [← hwz]; clear hwz)
    | fail)
  have O1 : Hid (Only w (((w.alloc (.map #[] 0)).alloc (.map #[] 0)).alloc (.cells #[.pointer (some ⟨d, 0, none⟩), .int .i64 0, .int .u64 1, .slice none 0 0, .map (some w.heap.size), .map (some (w.heap.size + 1)), .bool false] 76)) (fun k => base ≤ k)) := Lib.hid ((((Only.refl w (fun k => base ≤ k)).alloc _).alloc _).alloc _)
  have Z1 : Hid ((((w.alloc (.map #[] 0)).alloc (.map #[] 0)).alloc (.cells #[.pointer (some ⟨d, 0, none⟩), .int .i64 0, .int .u64 1, .slice none 0 0, .map (some w.heap.size), .map (some (w.heap.size + 1)), .bool false] 76)).heap.size = w.heap.size + 3) := Lib.hid (by simp)
  have S1 : Hid (Blk (((w.alloc (.map #[] 0)).alloc (.map #[] 0)).alloc (.cells #[.pointer (some ⟨d, 0, none⟩), .int .i64 0, .int .u64 1, .slice none 0 0, .map (some w.heap.size), .map (some (w.heap.size + 1)), .bool false] 76)) (w.heap.size + 1 + 1) 76 [.pointer (some ⟨d, 0, none⟩), .int .i64 0, .int .u64 1, .slice none 0 0, .map (some w.heap.size), .map (some (w.heap.size + 1)), .bool false]) := Lib.hid (by have h := Blk.new ((w.alloc (.map #[] 0)).alloc (.map #[] 0)) 76 [.pointer (some ⟨d, 0, none⟩), .int .i64 0, .int .u64 1, .slice none 0 0, .map (some w.heap.size), .map (some (w.heap.size + 1)), .bool false]; simpa using h)
  have M1 : Hid ((((w.alloc (.map #[] 0)).alloc (.map #[] 0)).alloc (.cells #[.pointer (some ⟨d, 0, none⟩), .int .i64 0, .int .u64 1, .slice none 0 0, .map (some w.heap.size), .map (some (w.heap.size + 1)), .bool false] 76)).heap[w.heap.size + 1]? = some (.map #[] 0)) := Lib.hid (by
    have h := (MapKept.heap_alloc (w.alloc (.map #[] 0)) (.map #[] 0)).1
    rw [World.size_alloc] at h
    exact (Below.heap_alloc _ _ _ (by simp)).trans h)
  have D1 : Hid (DK (((w.alloc (.map #[] 0)).alloc (.map #[] 0)).alloc (.cells #[.pointer (some ⟨d, 0, none⟩), .int .i64 0, .int .u64 1, .slice none 0 0, .map (some w.heap.size), .map (some (w.heap.size + 1)), .bool false] 76)) base d N 0 (fun k => k = w.heap.size + 1 ∨ k = w.heap.size + 1 + 1)) := Lib.hid ((HD.out.keep ((((Only.refl w (fun _ => False)).alloc _).alloc _).alloc _) (fun _ _ h => h)).taboo (fun k hk => by have := HD.out.hN; simp only [World.size_alloc]; omega) (fun k hk => hk.elim))
  have HN := Lib.hid HD.out.hN
  have HBs := Lib.hid HD.out.hb
  clear HC HD
  generalize (((w.alloc (.map #[] 0)).alloc (.map #[] 0)).alloc (.cells #[.pointer (some ⟨d, 0, none⟩), .int .i64 0, .int .u64 1, .slice none 0 0, .map (some w.heap.size), .map (some (w.heap.size + 1)), .bool false] 76)) = w1 at *
  generalize hS : w.heap.size + 1 + 1 = s at *
  generalize hM : w.heap.size + 1 = m2 at *
  generalize hM1 : w.heap.size = m1 at *
  have HT : Hid (m2 < s ∧ N < m2 ∧ s < w1.heap.size) := Lib.hid (by have := HN.out; have := Z1.out; omega)
  obtain ⟨T, hT⟩ : ∃ T : Nat → Prop, T = (fun k => k = m2 ∨ k = s) := ⟨_, rfl⟩
  rw [← hT] at D1
  have Ts : Hid (T s) := Lib.hid (by rw [hT]; exact .inr rfl)
  have Tm : Hid (T m2) := Lib.hid (by rw [hT]; exact .inl rfl)
  clear hT hS hM
  have hmk : ∀ u : World, (Instr.makeSlice 23 (.int .i64 32) (.int .i64 32)).run Try.prog u = .ok (.slice (some ⟨u.heap.size, 0, none⟩) 32 32) (u.alloc (.cells (icells .u8 (zeros 32)).toArray 5)) := fun u => make_zeros 32 (by omega) u
  have CS : Hid (∀ W, Blk W s 76 [.pointer (some ⟨d, 0, none⟩), .int .i64 0, .int .u64 1, .slice none 0 0, .map (some m1), .map (some m2), .bool false] → W.cell? ⟨s, 0, none⟩ = some (.pointer (some ⟨d, 0, none⟩))) := Lib.hid fun W h => h.cell_at 0 _ rfl
  have Sd := Lib.hid S1.out.drew
  have Sz := Lib.hid (S1.out.drew.alloc (.cells (icells .u8 (zeros 32)).toArray 5))
  have Dz := Lib.hid (D1.out.keep (((Only.refl w1 (fun _ => False)).drew).alloc (.cells (icells .u8 (zeros 32)).toArray 5)) (fun _ _ h => h))
  have Cz := Lib.hid (C_of_blk (o := 0) (n := 32) (Blk.new w1.drew 5 (icells .u8 (zeros 32))) (by decide) (by decide))
  have Oz := Lib.hid ((O1.out.drew).alloc (.cells (icells .u8 (zeros 32)).toArray 5))
  have Mz : Hid ((w1.drew.alloc (.cells (icells .u8 (zeros 32)).toArray 5)).heap[m2]? = some (.map #[] 0)) := Lib.hid ((Below.heap_alloc w1.drew _ m2 (by have := HT.out; show m2 < w1.heap.size; omega)).trans M1.out)
  go_region_held3 (fun w' => w'.cell? ⟨s, 0, none⟩ = some (.pointer (some ⟨d, 0, none⟩))) (exact CS.out _ (by first | exact Sd.out | exact Sz.out | exact S2.out | exact S3.out | exact S4.out | exact S5.out)) (first
    | (go_at_call 48; refine (DK.write Dz.out (by omega) 4 (by omega) w1.heap.size 0 32 _ Cz.out (by decide) (by simp) (by have := HT.out; omega)).mono ?_; rintro e w2 ⟨rfl, d2, o2⟩; clear Dz; have D2 := Lib.hid d2; have O2 := Lib.hid (Oz.out.step o2 (fun k _ h => h.1)); have S2 := Lib.hid (Sz.out.keep o2 (fun h => h.2.2 Ts.out)); have M2 := Lib.hid ((o2.block m2 (by have := HT.out; simp; omega) (fun h => h.2.2 Tm.out)).trans Mz.out); clear d2 o2)
    | (go_at_call 49; refine (DK.barrier D2.out).mono ?_; rintro e w3 ⟨rfl, d3, o3⟩; clear D2; have D3 := Lib.hid d3; have O3 := Lib.hid (O2.out.step o3 (fun k _ h => h.1)); have S3 := Lib.hid (S2.out.keep o3 (fun h => h.2.2 Ts.out)); have M3 := Lib.hid ((o3.block m2 (Nat.lt_of_lt_of_le HT.out.1 (Nat.le_of_lt S2.out.lt)) (fun h => h.2.2 Tm.out)).trans M2.out); clear d3 o3)
    | (go_at_call 50; refine (write_new s d base _ _ T _ _ _ D3.out (by omega) S3.out Ts.out).mono ?_; rintro e w4 ⟨rfl, d4, o4⟩; clear D3; have D4 := Lib.hid d4; have O4 := Lib.hid (O3.out.step o4 (fun k _ h => h.1)); have S4 := Lib.hid (S3.out.keep o4 (fun h => h.2.2 Ts.out)); have M4 := Lib.hid ((o4.block m2 (Nat.lt_of_lt_of_le HT.out.1 (Nat.le_of_lt S3.out.lt)) (fun h => h.2.2 Tm.out)).trans M3.out); clear d4 o4)
    | (go_at_call 49; refine (DK.barrier D4.out).mono ?_; rintro e w5 ⟨rfl, d5, o5⟩; clear D4; have O5 := Lib.hid (O4.out.step o5 (fun k _ h => h.1)); have S5 := Lib.hid (S4.out.keep o5 (fun h => h.2.2 Ts.out)); have M5 := Lib.hid ((o5.block m2 (Nat.lt_of_lt_of_le HT.out.1 (Nat.le_of_lt S4.out.lt)) (fun h => h.2.2 Tm.out)).trans M4.out); clear d5 o5)
    | fail)
  all_goals
    clear hmk hmm
    go_wp2
    go_ret2
    exact ⟨s, m1, m2, rfl, S5.out, M5.out, by have := HT.out; have := HBs.out; omega, O5.out⟩
end Go.Proofs.Ytochnokfcfmgnaa.Sh
