/- apartInts, apartWords, apartTexts of no lists; the book. -/
import Derived.Test.YtdpoifaeimmdmaaApartB
namespace Go.Proofs.Ytdpoifaeimmdmaa.Ap
open Go.RowKit Go.Proofs.Ytdpoifaeimmdmaa.Mem Go.Proofs.YtdpoifaeimmdmaaW.PrintWords Go.Proofs.Ytdpoifaeimmdmaa.Dk
set_option linter.unusedVariables false
set_option linter.unusedSimpArgs false
set_option maxHeartbeats 4000000 in
set_option maxRecDepth 100000 in
theorem apartInts_nil (w : World) : Calls Try.prog 43 #[.slice none 0 0] w fun e w' => e = .returned (.bool true) ∧ w = w' := by
  go_enter Try.func43, Try.ntmps43
  go_wp2_with fail
  go_loopg [4, 5] 0 (fun m gv iv wz => gv = .slice none 0 0 ∧ iv = .int .i64 0 ∧ w = wz)
  case atStart => exact ⟨rfl, rfl, rfl⟩
  case round =>
    obtain ⟨rfl, rfl, rfl⟩ := hrel
    go_wp2_with fail
    go_loopg [9] 0 (fun m iv wz => iv = .int .i64 0 ∧ w = wz)
    case atStart => exact ⟨rfl, rfl⟩
    case round =>
      obtain ⟨rfl, rfl⟩ := hrel
      go_wp2
      go_ret
      exact ⟨rfl, rfl⟩
set_option maxHeartbeats 4000000 in
set_option maxRecDepth 100000 in
theorem apartWords_nil (w : World) : Calls Try.prog 44 #[.slice none 0 0] w fun e w' => e = .returned (.bool true) ∧ w = w' := by
  go_enter Try.func44, Try.ntmps44
  go_wp2_with fail
  go_loopg [4, 5] 0 (fun m gv iv wz => gv = .slice none 0 0 ∧ iv = .int .i64 0 ∧ w = wz)
  case atStart => exact ⟨rfl, rfl, rfl⟩
  case round =>
    obtain ⟨rfl, rfl, rfl⟩ := hrel
    go_wp2_with fail
    go_loopg [9] 0 (fun m iv wz => iv = .int .i64 0 ∧ w = wz)
    case atStart => exact ⟨rfl, rfl⟩
    case round =>
      obtain ⟨rfl, rfl⟩ := hrel
      go_wp2
      go_ret
      exact ⟨rfl, rfl⟩
set_option maxHeartbeats 4000000 in
set_option maxRecDepth 100000 in
theorem apartTexts_nil (w : World) : Calls Try.prog 46 #[.slice none 0 0] w fun e w' => e = .returned (.bool true) ∧ w = w' := by
  go_enter Try.func46, Try.ntmps46
  go_wp2_with fail
  go_loopg [4, 5] 0 (fun m gv iv wz => gv = .slice none 0 0 ∧ iv = .int .i64 0 ∧ w = wz)
  case atStart => exact ⟨rfl, rfl, rfl⟩
  case round =>
    obtain ⟨rfl, rfl, rfl⟩ := hrel
    go_wp2_with fail
    go_loopg [9] 0 (fun m iv wz => iv = .int .i64 0 ∧ w = wz)
    case atStart => exact ⟨rfl, rfl⟩
    case round =>
      obtain ⟨rfl, rfl⟩ := hrel
      go_wp2
      go_ret
      exact ⟨rfl, rfl⟩
set_option maxHeartbeats 4000000 in
set_option maxRecDepth 100000 in
/-- A book of lists of bytes. -/
theorem book_bytes (gB : Nat) (A : Option Addr) (cap base : Nat) (own0 : Nat → Nat) (vs : List SL) (w : World) (hB : Hid (Blk w gB 54 [.slice none 0 0, .slice none 0 0, .slice A vs.length cap, .slice none 0 0])) (hBo : Hid (own0 gB < 2)) (hS : Hid (slc.R 22 w base (fun q => own0 q = 0) (.slice A vs.length cap) vs)) (hP : Hid (Pieces .u8 5 w base own0 vs)) (hb : base ≤ w.heap.size) (hn : vs.length * 24 ≤ 140737488355328) (hl : Hid (∀ p ∈ vs, p.2.1 + 9 ≤ 140737488355328)) :
    Calls Try.prog 31 #[.pointer (some ⟨gB, 0, none⟩)] w fun e w' => e = .returned (.bool true) ∧ Only w w' (fun q => 2 ≤ own0 q) := by
  have h0 := hB.out.cell_at 0 _ rfl
  have h1 := hB.out.cell_at 1 _ rfl
  have h2 := hB.out.cell_at 2 _ rfl
  go_enter Try.func31, Try.ntmps31
  go_wp2_with (first
    | (go_at_call 43; refine (apartInts_nil _).mono ?_; rintro e w1 ⟨rfl, rfl⟩)
    | (go_at_call 44; refine (apartWords_nil _).mono ?_; rintro e w1 ⟨rfl, rfl⟩)
    | (go_at_call 45; refine (apartBytes_any A cap base own0 vs _ hS hP hb hn hl).mono ?_; rintro e w1 ⟨rfl, o1⟩; have O1 := Lib.hid o1; have h3 : w1.cell? ⟨gB, 3, none⟩ = some (.slice none 0 0) := (o1.cell (p := ⟨gB, 3, none⟩) hB.out.lt (fun h => by have := hBo.out; simp only at h; omega)).trans (hB.out.cell_at 3 _ rfl); clear o1)
    | (go_at_call 46; refine (apartTexts_nil _).mono ?_; rintro e w1 ⟨rfl, rfl⟩)
    | fail)
  go_ret
  exact ⟨rfl, O1.out⟩
end Go.Proofs.Ytdpoifaeimmdmaa.Ap
