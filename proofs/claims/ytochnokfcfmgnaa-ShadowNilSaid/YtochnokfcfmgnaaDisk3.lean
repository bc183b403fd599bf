/- The contracts of Barrier, Pending, Live; and the refusals. -/
import Derived.Test.YtochnokfcfmgnaaDisk2
namespace Go.Proofs.Ytochnokfcfmgnaa.Dk
open Go.RowKit Go.Proofs.Ytochnokfcfmgnaa.Mem Go.Proofs.YtochnokfcfmgnaaW.PrintWords
set_option linter.unusedVariables false
set_option linter.unusedSimpArgs false
set_option maxHeartbeats 2000000 in
theorem barrier_ok (g gk ck gs cs n : Nat) (kept seen : List Int) (life : Int) (jk js : List Value) (vp : Value) (w : World)
    (hD : Hid (Blk w g 93 [.slice (some ⟨gk, 0, none⟩) kept.length ck, .slice (some ⟨gs, 0, none⟩) seen.length cs, vp, .int .i64 life])) (hK : Hid (Blk w gk 5 (icells .u8 kept ++ jk))) (hS : Hid (Blk w gs 5 (icells .u8 seen ++ js)))
    (hl : seen.length = n * 32) (hl' : kept.length = n * 32) (hn1 : 1 ≤ n) (hn : n ≤ 8192) (hlife : life ≠ 0) (hl1 : -1 ≤ life) (hl2 : life ≤ 9223372036854775807) (hks : gk ≠ gs) :
    Calls Try.prog 49 #[.pointer (some ⟨g, 0, none⟩)] w fun e w' => e = .returned (.int .i64 0) ∧
      Blk w' g 93 [.slice (some ⟨gk, 0, none⟩) kept.length ck, .slice (some ⟨gs, 0, none⟩) seen.length cs, .slice none 0 0, .int .i64 (spent life)] ∧ Blk w' gk 5 (icells .u8 seen ++ jk) ∧ Only w w' (fun k => k = g ∨ k = gk) := by
  have h0 := hD.out.cell_at 0 _ rfl
  have h1 := hD.out.cell_at 1 _ rfl
  have h3 := hD.out.cell_at 3 _ rfl
  have hck : Calls Try.prog 63 #[.pointer (some ⟨g, 0, none⟩), .int .i64 0] w fun e w' => e = .returned (.int .i64 0) ∧ w = w' := by
    have := check_cells g seen.length cs _ life 0 w h1 h3 (by omega)
    have e : chk life 0 (seen.length / 32 : Nat) = 0 := by unfold chk; rw [if_neg hlife, if_neg (by omega)]
    rwa [e] at this
  have HC := Lib.hid hck
  have HL := Lib.hid hl
  have HL' := Lib.hid hl'
  clear h3 hck hl hl' hlife
  go_enter Try.func49, Try.ntmps49
  go_wp2_with (first
      | (go_at_call 63; refine HC.out.mono ?_; rintro e w' ⟨rfl, rfl⟩)
      | fail)
  go_region_law (refine step_copy_blk rfl (.tmp 12) (.tmp 16) 23 23 rfl 5 Try.underlying23 (by kernel_rfl) _ _ _ _ _ _ rfl rfl gk 0 _ 5 (Lib.hid hK.out.drew) (icells .u8 seen) (by rw [icells_length, HL.out, HL'.out]; exact (Nat.min_self _).symm) (fun _ => ⟨rfl, _, rfl, fun j v hv => hS.out.drew.at_ 0 seen.length (by omega) j v (by simpa using hv)⟩) (by rw [icells_length, List.length_append, icells_length, HL.out, HL'.out]; omega) (icells_one _ _) ?_; intro w1 hK1 ho1)
  all_goals
    have hgk : Hid (g ≠ gk) := Lib.hid (Blk.ne_ hD.out hK.out (by decide))
    have D1 := Lib.hid (hD.out.drew.keep ho1.out hgk.out)
    have O1 := Lib.hid (show Only w w1 (fun k => k = g ∨ k = gk) from ((Only.refl w _).drew).step ho1.out (fun _ _ h => .inr h))
    have k2 := D1.out.cell_at 2 _ rfl
    have f2 := D1.out.frozen 2
    clear h0 h1 HC
    go_wp2_with fail
    have D2 := Lib.hid (D1.out.set_ 2 (.slice none 0 0))
    have K2 := Lib.hid (hK1.out.far (p := ⟨g, 2, none⟩) (Ne.symm hgk.out) (.slice none 0 0))
    have O2 := Lib.hid (O1.out.setCell (p := ⟨g, 2, none⟩) (fun _ => .inl rfl) (.slice none 0 0))
    clear k2 f2
    generalize w1.setCell ⟨g, 2, none⟩ (.slice none 0 0) = w2 at *
    refine (spend_disk g _ _ (.slice none 0 0) life w2 D2.out hl1 hl2).mono ?_
    rintro e w3 ⟨rfl, d3, o3⟩
    have D3 := Lib.hid d3
    have O3 := Lib.hid o3
    clear d3 o3
    go_wp2
    go_ret
    refine ⟨rfl, D3.out, ?_, O2.out.step O3.out (fun _ _ h => .inl h)⟩
    have h4 := K2.out.keep O3.out (Ne.symm hgk.out)
    rwa [splice_all _ _ _ (by rw [icells_length, icells_length, HL.out, HL'.out])] at h4
theorem live_cells (g : Nat) (v : Value) (n : Int) (w : World) (h : w.cell? ⟨g, 3, none⟩ = some v) (hf : w.frozen? ⟨g, 3, none⟩ = false) :
    Calls Try.prog 29 #[.pointer (some ⟨g, 0, none⟩), .int .i64 n] w fun e w' => e = .returned (.int .i64 (if n < -1 then 2 else 0)) ∧ w' = if n < -1 then w else w.setCell ⟨g, 3, none⟩ (.int .i64 n) := by
  by_cases c : n < -1
  · rw [if_pos c, if_pos c]
    go_enter Try.func29, Try.ntmps29
    go_wp2
    go_ret
    exact ⟨rfl, rfl⟩
  · rw [if_neg c, if_neg c]
    go_enter Try.func29, Try.ntmps29
    go_wp2
    go_ret
    exact ⟨rfl, rfl⟩
/-! ### a nil disk -/
theorem len_nil (w : World) : Calls Try.prog 25 #[.pointer none] w fun e w' => e = .returned (.int .i64 0) ∧ w = w' := by
  go_enter Try.func25, Try.ntmps25
  go_wp2
  go_ret
  exact ⟨rfl, rfl⟩
theorem read_nil (s : Int) (w : World) : Calls Try.prog 44 #[.pointer none, .int .i64 s] w fun e w' => e = .returned (.tuple #[.slice none 0 0, .int .i64 2]) ∧ w = w' := by
  go_enter Try.func44, Try.ntmps44
  go_wp2_with (go_at_call 63; refine (check_nil s _).mono ?_; rintro e w' ⟨rfl, rfl⟩)
  go_ret2
  exact ⟨rfl, rfl⟩
theorem write_nil (s : Int) (A : Option Addr) (n c : Nat) (w : World) : Calls Try.prog 48 #[.pointer none, .int .i64 s, .slice A n c] w fun e w' => e = .returned (.int .i64 2) ∧ w = w' := by
  go_enter Try.func48, Try.ntmps48
  go_wp2
  go_ret
  exact ⟨rfl, rfl⟩
theorem barrier_nil (w : World) : Calls Try.prog 49 #[.pointer none] w fun e w' => e = .returned (.int .i64 2) ∧ w = w' := by
  go_enter Try.func49, Try.ntmps49
  go_wp2_with (go_at_call 63; refine (check_nil 0 _).mono ?_; rintro e w' ⟨rfl, rfl⟩)
  go_ret
  exact ⟨rfl, rfl⟩
theorem live_nil (n : Int) (w : World) : Calls Try.prog 29 #[.pointer none, .int .i64 n] w fun e w' => e = .returned (.int .i64 2) ∧ w = w' := by
  go_enter Try.func29, Try.ntmps29
  go_wp2
  go_ret
  exact ⟨rfl, rfl⟩
theorem crash_nil (A : Option Addr) (n c : Nat) (t k : Int) (w : World) : Calls Try.prog 30 #[.pointer none, .slice A n c, .int .i64 t, .int .i64 k] w fun e w' => e = .returned (.int .i64 2) ∧ w = w' := by
  go_enter Try.func30, Try.ntmps30
  go_wp2
  go_ret
  exact ⟨rfl, rfl⟩
end Go.Proofs.Ytochnokfcfmgnaa.Dk
