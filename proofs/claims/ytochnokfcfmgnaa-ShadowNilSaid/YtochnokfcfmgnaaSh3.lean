/- Seat F: the root page is written. -/
import Derived.Test.YtochnokfcfmgnaaSh2
import Derived.Test.YtochnokfcfmgnaaPShadowNilx1
import Derived.Deep.RegionLaw
import Derived.Deep.RegionHeld3
namespace Go.Proofs.Ytochnokfcfmgnaa.Sh
open Go.RowKit Go.Proofs.Ytochnokfcfmgnaa.Mem Go.Proofs.YtochnokfcfmgnaaW.PrintWords Go.Proofs.Ytochnokfcfmgnaa.Dk
set_option linter.unusedVariables false
set_option linter.unusedSimpArgs false
set_option maxRecDepth 100000
set_option maxHeartbeats 4000000
/-- The number n is laid in m bytes behind those that are there. -/
theorem lay_c {w0 w : World} {v : Value} {l : List Int} (n m : Int) (r : List Int) (hB : Below w0.heap.size w0 w) (hr : (Kd.int .u8).R 5 w w0.heap.size (fun _ => True) v l) (h : PShadowNil.shadow_lay.f 20 l n m = some r) :
    Calls Try.prog 62 #[v, .int .u64 n, .int .i64 m] w fun e w' => ∃ A c, e = .returned (.slice A r.length c) ∧ (Kd.int .u8).R 5 w' w0.heap.size (fun _ => True) (.slice A r.length c) r ∧ Below w0.heap.size w0 w' := by
  refine (PShadowNil.shadow_lay.calls 20 (fun _ => True) v l n m r w0 w hB hr h).mono ?_
  rintro e w' ⟨v', rfl, hr', hb', _⟩
  obtain ⟨A, c, rfl⟩ := Kd.R_slice hr'
  exact ⟨A, c, rfl, Kd.R_mono hr' (fun _ _ => trivial), hb'⟩
theorem lay1 : PShadowNil.shadow_lay.f 20 [] 1 8 = some [1, 0, 0, 0, 0, 0, 0, 0] := by decide +kernel
theorem lay2 : PShadowNil.shadow_lay.f 20 [1, 0, 0, 0, 0, 0, 0, 0] 0 4 = some [1, 0, 0, 0, 0, 0, 0, 0, 0, 0, 0, 0] := by decide +kernel
theorem lay3 : PShadowNil.shadow_lay.f 20 [1, 0, 0, 0, 0, 0, 0, 0, 0, 0, 0, 0] 0 4 = some [1, 0, 0, 0, 0, 0, 0, 0, 0, 0, 0, 0, 0, 0, 0, 0] := by decide +kernel
theorem lay4 : PShadowNil.shadow_lay.f 20 [1, 0, 0, 0, 0, 0, 0, 0, 0, 0, 0, 0, 0, 0, 0, 0] 0 8 = some [1, 0, 0, 0, 0, 0, 0, 0, 0, 0, 0, 0, 0, 0, 0, 0, 0, 0, 0, 0, 0, 0, 0, 0] := by decide +kernel
theorem lay5 : PShadowNil.shadow_lay.f 20 [1, 0, 0, 0, 0, 0, 0, 0, 0, 0, 0, 0, 0, 0, 0, 0, 0, 0, 0, 0, 0, 0, 0, 0] 1 8 = some [1, 0, 0, 0, 0, 0, 0, 0, 0, 0, 0, 0, 0, 0, 0, 0, 0, 0, 0, 0, 0, 0, 0, 0, 1, 0, 0, 0, 0, 0, 0, 0] := by decide +kernel
theorem R_dr {w0 w : World} {v : Value} {l : List Int} (h : (Kd.int .u8).R 5 w w0.heap.size (fun _ => True) v l) : (Kd.int .u8).R 5 w.drew w0.heap.size (fun _ => True) v l := Kd.R_drew h
theorem write_new (s d base N p : Nat) (T : Nat → Prop) (m1 m2 : Value) (w : World) (hD : DK w base d N p T) (hp : p ≤ 1000) (hs : Blk w s 76 [.pointer (some ⟨d, 0, none⟩), .int .i64 0, .int .u64 1, .slice none 0 0, m1, m2, .bool false]) (hT : T s) :
    Calls Try.prog 50 #[.pointer (some ⟨s, 0, none⟩), .int .i64 0] w fun e w' => e = .returned (.int .i64 0) ∧ DK w' base d w'.heap.size (p + 1) T ∧ Only w w' (okN base N T) := by
  have HS := Lib.hid hs
  have HD := Lib.hid hD
  have c0 := hs.cell_at 0 _ rfl
  have c2 := hs.cell_at 2 _ rfl
  have c3 := hs.cell_at 3 _ rfl
  clear hs hD
  go_enter Try.func50, Try.ntmps50
  go_wp2_with (first
    | (go_at_call 62; go_loud (refine (lay_c (w0 := w) 1 8 _ (Below.refl _ w) (Kd.R_nil _ _ _ _ _) lay1).mono ?_); rintro e w1 ⟨A1, k1, rfl, r1, b1⟩; have R1 := Lib.hid r1; have B1 := Lib.hid b1; have HS1 := Lib.hid (HS.out.below b1 HS.out.lt); clear r1 b1; clear c0 c2 c3; have c0 := HS1.out.cell_at 0 _ rfl; have c2 := HS1.out.cell_at 2 _ rfl; have c3 := HS1.out.cell_at 3 _ rfl)
    | fail)
  have HSd := Lib.hid (HS1.out.drew)
  have CS : Hid (∀ W, Blk W s 76 [.pointer (some ⟨d, 0, none⟩), .int .i64 0, .int .u64 1, .slice none 0 0, m1, m2, .bool false] → (W.cell? ⟨s, 3, none⟩ = some (.slice none 0 0) ∧ W.cell? ⟨s, 2, none⟩ = some (.int .u64 1))) := Lib.hid fun W h => ⟨h.cell_at 3 _ rfl, h.cell_at 2 _ rfl⟩
  go_region_held3 (fun w' => w'.cell? ⟨s, 3, none⟩ = some (.slice none 0 0) ∧ w'.cell? ⟨s, 2, none⟩ = some (.int .u64 1)) (exact CS.out _ (by first | exact HSd.out | exact HS2.out | exact HS3.out | exact HS4.out | exact HS5.out)) (first
    | (go_at_call 62; refine (lay_c (w0 := w) 0 4 _ (B1.out.drew) (R_dr R1.out) lay2).mono ?_; rintro e w2 ⟨A2, k2, rfl, r2, b2⟩; clear R1; have R2 := Lib.hid r2; have B2 := Lib.hid b2; have HS2 := Lib.hid (HS.out.below b2 HS.out.lt); clear r2 b2)
    | (go_at_call 62; refine (lay_c (w0 := w) 0 4 _ B2.out R2.out lay3).mono ?_; rintro e w3 ⟨A3, k3, rfl, r3, b3⟩; clear R2; have R3 := Lib.hid r3; have B3 := Lib.hid b3; have HS3 := Lib.hid (HS.out.below b3 HS.out.lt); clear r3 b3)
    | (go_at_call 62; refine (lay_c (w0 := w) 0 8 _ B3.out R3.out lay4).mono ?_; rintro e w4 ⟨A4, k4, rfl, r4, b4⟩; clear R3; have R4 := Lib.hid r4; have B4 := Lib.hid b4; have HS4 := Lib.hid (HS.out.below b4 HS.out.lt); clear r4 b4)
    | (go_at_call 62; refine (lay_c (w0 := w) 1 8 _ B4.out R4.out lay5).mono ?_; rintro e w5 ⟨A5, k5, rfl, r5, b5⟩; clear R4; have R5 := Lib.hid r5; have B5 := Lib.hid b5; have HS5 := Lib.hid (HS.out.below b5 HS.out.lt); clear r5 b5)
    | fail)
  all_goals
    have D5 := Lib.hid (HD.out.keep (Only.of_below B5.out (fun _ => False)) (fun _ _ h => h))
    have C5 := Lib.hid (Kd.R_reads' R5.out).2.2
    obtain ⟨gv, cv, junk, ev, q1, q2, q3, q4, q5, q6⟩ := R_open R5.out (by decide)
    injection ev with e1 e2 e3
    subst e1
    have hgv := q6.lt
    have c0' := HS5.out.cell_at 0 _ rfl
    have GV := Lib.hid hgv
    have Q1 := Lib.hid q1
    have HN := Lib.hid HD.out.hN
    clear e2 e3 q1 q2 q3 q4 q5 q6 hgv c0 c2 c3 CS
    go_wp2_with fail
    refine (DK.write D5.out hp 0 (by omega) gv 0 _ _ C5.out (by decide) GV.out (by have := Q1.out; have := HN.out; omega)).mono ?_
    rintro e w6 ⟨rfl, d6, o6⟩
    have D6 := Lib.hid d6
    have O6 := Lib.hid ((Only.of_below B5.out (okN base N T)).step o6 (fun k _ h => h))
    clear d6 o6
    go_wp2
    go_ret
    exact ⟨rfl, D6.out, O6.out⟩
end Go.Proofs.Ytochnokfcfmgnaa.Sh
