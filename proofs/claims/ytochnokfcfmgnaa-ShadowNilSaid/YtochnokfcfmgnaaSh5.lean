/- Seat F: a page is put, and got. -/
import Derived.Test.YtochnokfcfmgnaaSh4
namespace Go.Proofs.Ytochnokfcfmgnaa.Sh
open Go.RowKit Go.Proofs.Ytochnokfcfmgnaa.Mem Go.Proofs.YtochnokfcfmgnaaW.PrintWords Go.Proofs.Ytochnokfcfmgnaa.Dk Go.Maps
set_option linter.unusedVariables false
set_option linter.unusedSimpArgs false
set_option maxRecDepth 100000
set_option maxHeartbeats 4000000
theorem u3 : Try.prog.underlying 3 = some (.int .i64) := by kernel_rfl
theorem u74 : Try.prog.underlying 74 = some (.map 3 72) := by kernel_rfl
theorem law3 : Keyed Try.prog 3 := int_keyed u3
theorem key3 : keyOf Try.prog 3 (.int .i64 3) = some (.int .i64 3) := keyOf_int_mk u3 (by decide)
theorem zero72 (w : World) : (zeroValue 72).run Try.prog w = .ok (.agg #[.int .i64 0, .slice none 0 0]) w := by
  have h : (Try.prog.info? 72).map (fun i => i.zero) = some (some (.agg #[.int .i64 0, .slice none 0 0])) := by kernel_rfl
  cases hi : Try.prog.info? 72 with
  | none => rw [hi] at h; cases h
  | some i => rw [hi] at h; injection h with h; simp [zeroValue, typeInfo, hi, h]
open Classical in
/-- The one page that is there reads as 1; no page as 0. -/
noncomputable def pR (v0 v : Value) : Option (DataW Nat × List MemPlace) := if v = v0 then some (.lit (.int .i64 1), []) else if v = .agg #[.int .i64 0, .slice none 0 0] then some (.lit (.int .i64 0), []) else none
theorem pR_inv {v0 v : Value} {ps : List MemPlace} (h : pR v0 v = some (.lit (.int .i64 1), ps)) : v = v0 := by
  unfold pR at h
  split at h
  · assumption
  · split at h
    · injection h with h; injection h with h _; injection h with h; injection h with _ h; exact absurd h (by decide)
    · cases h
theorem made (w : World) (b : Nat) (R : Value → Option (DataW Nat × List MemPlace)) (h : w.heap[b]? = some (.map #[] 0)) : w.ownsMap Try.prog 3 R b 0 (.map []) := ⟨#[], 0, h, ⟨by simp, MapKept.stamped_empty 0, by simp⟩, Nat.le_refl _, rfl⟩
theorem put_new (s m2 ab : Nat) (a b c d e : Value) (w : World) (hs : Blk w s 76 [a, b, c, d, e, .map (some m2), .bool false]) (hm : w.heap[m2]? = some (.map #[] 0)) (hb : Blk w ab 5 [.int .u8 9]) :
    Calls Try.prog 12 #[.pointer (some ⟨s, 0, none⟩), .int .i64 3, .slice (some ⟨ab, 0, none⟩) 1 1] w fun e' w' => e' = .returned (.int .i64 0) ∧ ∃ A k, Blk w' s 76 [a, b, c, d, e, .map (some m2), .bool false] ∧
      (Kd.int .u8).R 5 w' w.heap.size (fun _ => True) (.slice A 1 k) [9] ∧ w'.ownsMap Try.prog 3 (pR (.agg #[.int .i64 0, .slice A 1 k])) m2 1 ((DataW.map []).put (.int .i64 3) (.lit (.int .i64 1))) ∧ Only w w' (fun k => k = m2) := by
  have HCk := Lib.hid (check_ok s a b c d e (.map (some m2)) 3 w hs (by omega) (by omega))
  have HS := Lib.hid hs
  have HM := Lib.hid hm
  have hmlt : Hid (m2 < w.heap.size) := Lib.hid (Array.getElem?_eq_some_iff.1 hm).1
  have HCl := Lib.hid (clone_any ab 0 1 1 [9] w.drew rfl (by omega) (fun j v hv => by rw [add_flat, Nat.zero_add]; exact (hb.cell j).trans hv))
  have hne : Hid (s ≠ m2) := Lib.hid (by rintro rfl; have h := hs; unfold Blk at h; rw [hm] at h; cases h)
  clear hs hm hb
  go_enter Try.func12, Try.ntmps12
  go_wp2_with (first
    | (go_at_call 32; refine HCk.out.mono ?_; rintro e wz ⟨rfl, hwz⟩; rw [hwz]; clear hwz)
    | fail)
  have c5 := HS.out.cell_at 5 _ rfl
  have CS : Hid (∀ W, Blk W s 76 [a, b, c, d, e, .map (some m2), .bool false] → W.cell? ⟨s, 5, none⟩ = some (.map (some m2))) := Lib.hid fun W h => h.cell_at 5 _ rfl
  have Sd := Lib.hid HS.out.drew
  go_region_held3 (fun w' => w'.cell? ⟨s, 5, none⟩ = some (.map (some m2))) (exact CS.out _ (by first | exact Sd.out | exact S2.out | exact S3.out)) (first
    | (go_at_call 33; refine HCl.out.mono ?_; rintro e2 w2 ⟨v, rfl, r2, b2⟩; obtain ⟨A, k, rfl⟩ := Kd.R_slice r2; clear HCl; have R2 := Lib.hid r2; have B2 := Lib.hid b2; have S2 := Lib.hid (Sd.out.below b2 Sd.out.lt); have M2 := Lib.hid ((b2.block m2 hmlt.out).trans HM.out); obtain ⟨w3, hrun3, hown3, hg3⟩ := (made w2 m2 (pR (.agg #[.int .i64 0, .slice A 1 k])) M2.out).update law3 u74 (by decide) key3 (show pR (.agg #[.int .i64 0, .slice A 1 k]) (.agg #[.int .i64 0, .slice A 1 k]) = some (.lit (.int .i64 1), []) by unfold pR; rw [if_pos rfl]); have OW3 := Lib.hid hown3; have G3 := Lib.hid hg3; have S3 := Lib.hid (S2.out.keep (Only.of_grown hg3) (fun h => hne.out (by injection h))); clear r2 b2 hown3 hg3)
    | fail)
  all_goals
    have R3 : Hid ((Kd.int .u8).R 5 w3 w.heap.size (fun _ => True) (.slice A 1 k) [9]) := Lib.hid (Kd.R_mono (Kd.R_step (Kd.R_bound R2.out) (w1 := w3) (fun q hq hlt => G3.out.block q hlt (fun h => by injection h with h; have h1 := hq.2.1; have h2 := hmlt.out; have h3 : w.drew.heap.size = w.heap.size := rfl; omega))) (fun _ _ => trivial))
    have O3 : Hid (Only w w3 (fun k => k = m2)) := Lib.hid (((Only.refl w (fun k => k = m2)).drew.step (Only.of_below B2.out (fun _ => False)) (fun _ _ h => h.elim)).step (Only.of_grown G3.out) (fun q _ h => by injection h))
    clear CS c5 hrun3
    go_wp2
    go_ret
    exact ⟨rfl, A, k, S3.out, R3.out, OW3.out, O3.out⟩
theorem get_new (s m2 : Nat) (a b c d e : Value) (A : Option Addr) (k base : Nat) (w : World) (hs : Blk w s 76 [a, b, c, d, e, .map (some m2), .bool false]) (hr : (Kd.int .u8).R 5 w base (fun _ => True) (.slice A 1 k) [9])
    (hm : w.ownsMap Try.prog 3 (pR (.agg #[.int .i64 0, .slice A 1 k])) m2 1 ((DataW.map []).put (.int .i64 3) (.lit (.int .i64 1)))) :
    Calls Try.prog 11 #[.pointer (some ⟨s, 0, none⟩), .int .i64 3] w fun e' w' => ∃ G k', e' = .returned (.tuple #[.slice (some ⟨G, 0, none⟩) 1 k', .int .i64 0]) ∧ w'.cell? ⟨G, 0, none⟩ = some (.int .u8 9) ∧ Below w.heap.size w w' := by
  have HCk := Lib.hid (check_ok s a b c d e (.map (some m2)) 3 w hs (by omega) (by omega))
  have c5 := hs.cell_at 5 _ rfl
  have HM := Lib.hid hm
  obtain ⟨g, cap, junk, ev, q1, q2, q3, q4, q5, q6⟩ := R_open hr (by decide)
  injection ev with e1 e2 e3
  subst e1
  have HQ := Lib.hid q6
  have HCl := Lib.hid (fun W (hW : Below w.heap.size w W) => clone_any g 0 1 k [9] W rfl (by omega) (fun j v hv => by
    rw [add_flat, Nat.zero_add]
    rw [hW.cell q6.lt]
    refine (q6.cell j).trans ?_
    rw [List.getElem?_append_left (by have := (List.getElem?_eq_some_iff.1 hv).1; exact this)]
    exact hv))
  clear hs hr hm e2 e3 q1 q2 q3 q4 q5 q6
  have hz := zero72
  have hp0 : pR (.agg #[.int .i64 0, .slice (some ⟨g, 0, none⟩) 1 k]) (.agg #[.int .i64 0, .slice none 0 0]) = some (.lit (.int .i64 0), []) := by
    unfold pR
    rw [if_neg (by intro h; injection h with h; injection h with h; injection h with _ h; injection h with h _; injection h with h _; cases h), if_pos rfl]
  obtain ⟨v, ps, hrun, hv⟩ := HM.out.look_ok law3 u74 (zero72 w) hp0 key3
  have hat : ((DataW.map []).put (.int .i64 3) (.lit (.int .i64 1) : DataW Nat)).atKey (.int .i64 3) (.lit (.int .i64 0)) = .lit (.int .i64 1) := by rfl
  rw [hat] at hv
  obtain rfl := pR_inv hv
  have hhas : Maps.has ((DataW.map []).put (.int .i64 3) (.lit (.int .i64 1) : DataW Nat)) (.int .i64 3) = true := by rfl
  rw [hhas] at hrun
  clear HM hv hat hhas hz hp0
  go_enter Try.func11, Try.ntmps11
  go_wp2_with (first
    | (go_at_call 32; refine HCk.out.mono ?_; rintro e wz ⟨rfl, hwz⟩; rw [hwz]; clear hwz)
    | (go_at_call 33; refine (HCl.out _ ((Below.refl _ w).alloc (Nat.le_refl _) (.cells #[.int .i64 0, .slice (some ⟨g, 0, none⟩) 1 k] 72))).mono ?_; rintro e2 w2 ⟨v, rfl, r2, b2⟩; have R2 := Lib.hid r2; have B2 := Lib.hid b2; clear r2 b2)
    | fail)
  obtain ⟨G, cap', junk', rfl, q1, q2, q3, q4, q5, q6⟩ := R_open R2.out (by decide)
  have hc := q6.cell_at 0 (.int .u8 9) rfl
  have HC := Lib.hid hc
  clear q1 q2 q3 q4 q5 q6 hc
  go_ret2
  exact ⟨G, cap', rfl, HC.out, ((Below.refl _ w).alloc (Nat.le_refl _) _).trans (B2.out.mono (by simp))⟩
/-- The awakening. -/
theorem awake_c (w : World) : Calls Try.prog 10 #[] w fun e w' => e = .returned (.bool true) ∧ Below w.heap.size w w' := by
  go_enter Try.func10, Try.ntmps10
  go_wp2_with (first
    | (go_at_call 31; refine (DK.new _).mono ?_; rintro e w1 ⟨d, rfl, d1, b1⟩; have D1 := Lib.hid d1; have B1 := Lib.hid b1; clear d1 b1)
    | (go_at_call 28; refine (format_new d _ _ _ D1.out).mono ?_; rintro e w2 ⟨s, m1, m2, rfl, s2, mm2, hm2, o2⟩; have S2 := Lib.hid s2; have M2 := Lib.hid mm2; have HM2 := Lib.hid hm2; have O2 := Lib.hid (B1.out.trans (o2.below (B := w.heap.size) B1.out.size (fun k hk h => by omega))); clear s2 mm2 o2 hm2)
    | (go_at_call 12; refine (put_new s m2 w2.heap.size _ _ _ _ _ _ (S2.out.alloc _) ((Below.heap_alloc w2 _ m2 (Array.getElem?_eq_some_iff.1 M2.out).1).trans M2.out) (Blk.new w2 5 [.int .u8 9])).mono ?_; rintro e w3 ⟨rfl, A, k, s3, r3, mm3, o3⟩; have S3 := Lib.hid s3; have R3 := Lib.hid r3; have M3 := Lib.hid mm3; have O3 := Lib.hid (O2.out.trans (((Only.refl w2 (fun k => k = m2)).alloc (.cells #[.int .u8 9] 5) |>.step o3 (fun _ _ h => h)).below (B := w.heap.size) O2.out.size (fun q hq h => by have := HM2.out; omega))); clear s3 r3 mm3 o3)
    | (go_at_call 11; refine (get_new s m2 _ _ _ _ _ A k _ _ S3.out R3.out M3.out).mono ?_; rintro e w4 ⟨G, k', rfl, c4, b4⟩; have B4 := Lib.hid b4; have S4 := Lib.hid (S3.out.below b4 S3.out.lt); clear b4)
    | (go_at_call 22; refine (epoch_ok s _ _ _ _ _ 1 _ S4.out).mono ?_; rintro e w5 ⟨rfl, hw5⟩; rw [hw5]; clear hw5)
    | fail)
  go_ret
  exact ⟨rfl, O3.out.trans (B4.out.mono O3.out.size)⟩
end Go.Proofs.Ytochnokfcfmgnaa.Sh
