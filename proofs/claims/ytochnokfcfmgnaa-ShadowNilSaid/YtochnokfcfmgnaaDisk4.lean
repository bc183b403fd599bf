/- The contract of New. -/
import Derived.Test.YtochnokfcfmgnaaDisk3
namespace Go.Proofs.Ytochnokfcfmgnaa.Dk
open Go.RowKit Go.Proofs.Ytochnokfcfmgnaa.Mem Go.Proofs.YtochnokfcfmgnaaW.PrintWords
set_option linter.unusedVariables false
set_option linter.unusedSimpArgs false
def zeros (n : Nat) : List Int := List.replicate n 0
theorem zeros_length (n : Nat) : (zeros n).length = n := by simp [zeros]
theorem made_zeros (n : Nat) : madeCells #[.int .u8 0] n = (icells .u8 (zeros n)).toArray := by
  apply Array.ext
  · simp [madeCells, icells, zeros]
  · intro i h1 h2
    simp [madeCells, icells, zeros]
    rw [Nat.mod_one]; rfl
theorem make_zeros (n : Nat) (hn : n ≤ 262144) (w : World) : (Instr.makeSlice 23 (.int .i64 (n : Int)) (.int .i64 (n : Int))).run Try.prog w = .ok (.slice (some ⟨w.heap.size, 0, none⟩) n n) (w.alloc (.cells (icells .u8 (zeros n)).toArray 5)) := by
  have := run_make_row' (P := Try.prog) 23 5 (.int .u8 0) 1 Try.underlying23 info5 rfl .i64 .i64 n (by omega) (by omega) w
  rw [made_zeros] at this
  exact this
theorem new_disk {W : World} {base gk gs g n : Nat} (hk : Blk W gk 5 (icells .u8 (zeros n))) (hs : Blk W gs 5 (icells .u8 (zeros n))) (hd : Blk W g 93 [.slice (some ⟨gk, 0, none⟩) n n, .slice (some ⟨gs, 0, none⟩) n n, .slice none 0 0, .int .i64 (-1)])
    (b1 : base ≤ gk) (b2 : base ≤ gs) (b3 : base ≤ g) (hne : gs ≠ gk) (hn : n ≤ 262144) : IsDisk W base (fun _ => True) g ⟨zeros n, zeros n, [], -1⟩ := by
  have r1 := R_shut (ok := fun _ => True) (junk := []) (cap := n) (show Blk W gk 5 (icells .u8 (zeros n) ++ []) by rw [List.append_nil]; exact hk) b1 trivial (by rw [zeros_length]; rfl) (by unfold maxLen; omega)
  have r2 := R_shut (ok := fun k => True ∧ some k ≠ Value.ownBlock (.slice (some ⟨gk, 0, none⟩) n n)) (junk := []) (cap := n) (show Blk W gs 5 (icells .u8 (zeros n) ++ []) by rw [List.append_nil]; exact hs) b2 ⟨trivial, by simpa [Value.ownBlock] using hne⟩ (by rw [zeros_length]; rfl) (by unfold maxLen; omega)
  rw [zeros_length] at r1 r2
  exact ⟨_, _, _, trivial, b3, hd, r1, r2, Kd.R_nil _ _ _ _ _⟩
theorem blk_new_at {W : World} {g : Nat} {t : TypeId} {cs : List Value} (h : W.heap.size = g) : Blk (W.alloc (.cells cs.toArray t)) g t cs := by subst h; exact Blk.new _ _ _
theorem new_bad (s : Int) (w : World) (h : s < 1 ∨ 8192 < s) : Calls Try.prog 31 #[.int .i64 s] w fun e w' => e = .returned (.tuple #[.pointer none, .int .i64 2]) ∧ w = w' := by
  rcases h with h | h
  · go_enter Try.func31, Try.ntmps31
    go_wp2
    go_ret2
    exact ⟨rfl, rfl⟩
  · go_enter Try.func31, Try.ntmps31
    go_wp2
    go_ret2
    exact ⟨rfl, rfl⟩
set_option maxHeartbeats 2000000 in
theorem new_ok (n : Nat) (w : World) (h1 : 1 ≤ n) (h2 : n ≤ 8192) : Calls Try.prog 31 #[.int .i64 (n : Int)] w fun e w' => ∃ g, e = .returned (.tuple #[.pointer (some ⟨g, 0, none⟩), .int .i64 0]) ∧
    IsDisk w' w.heap.size (fun _ => True) g ⟨zeros (n * 32), zeros (n * 32), [], -1⟩ ∧ Below w.heap.size w w' := by
  have hmk : ∀ u : World, (Instr.makeSlice 23 (.int .i64 ((n : Int) * 32)) (.int .i64 ((n : Int) * 32))).run Try.prog u = .ok (.slice (some ⟨u.heap.size, 0, none⟩) (n * 32) (n * 32)) (u.alloc (.cells (icells .u8 (zeros (n * 32))).toArray 5)) := fun u => by
    have := make_zeros (n * 32) (by omega) u
    rwa [show (((n * 32 : Nat)) : Int) = (n : Int) * 32 by omega] at this
  go_enter Try.func31, Try.ntmps31
  go_wp2_with fail
  go_region_law fail
  · go_wp2
    go_ret2
    refine ⟨w.heap.size + 1 + 1, rfl, new_disk (gk := w.heap.size) (gs := w.heap.size + 1) ?_ ?_ ?_ (Nat.le_refl _) (by omega) (by omega) (by omega) (by omega), ?_⟩
    · exact ((blk_new_at rfl).alloc _).alloc _
    · exact (blk_new_at (by simp)).alloc _
    · exact blk_new_at (cs := [_, _, _, _]) (by simp)
    · exact (((((Only.refl w (fun _ => False)).drew).alloc _).alloc _).alloc _).below_all
  · go_wp2
    go_ret2
    refine ⟨w.heap.size + 1 + 1, rfl, new_disk (gk := w.heap.size + 1) (gs := w.heap.size) ?_ ?_ ?_ (by omega) (Nat.le_refl _) (by omega) (by omega) (by omega), ?_⟩
    · exact (blk_new_at (by simp)).alloc _
    · exact ((blk_new_at rfl).alloc _).alloc _
    · exact blk_new_at (cs := [_, _, _, _]) (by simp)
    · exact (((((Only.refl w (fun _ => False)).drew).alloc _).alloc _).alloc _).below_all
end Go.Proofs.Ytochnokfcfmgnaa.Dk
