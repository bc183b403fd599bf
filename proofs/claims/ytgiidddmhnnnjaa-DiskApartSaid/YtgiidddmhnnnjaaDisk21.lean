/- DiskApart, whatever is handed in. -/
import Derived.Test.YtgiidddmhnnnjaaDisk20
namespace Go.Proofs.Ytgiidddmhnnnjaa.Dk
open Go.RowKit Go.Proofs.Ytgiidddmhnnnjaa.Mem Go.Proofs.YtgiidddmhnnnjaaW.PrintWords
set_option linter.unusedVariables false
set_option linter.unusedSimpArgs false
set_option maxHeartbeats 1000000 in
set_option maxRecDepth 100000 in
theorem apart_bad (s0 : Int) (A A3 : Option Addr) (c n3 c3 : Nat) (script : List OpV) (s : Int) (w : World) (hs : Hid (Script w A c script)) (h : s < 0 ∨ ¬ s < 0 ∧ (sectorsOf s0 : Int) ≤ s) :
    Calls Try.prog 4 #[.int .i64 s0, .slice A script.length c, .int .i64 s, .slice A3 n3 c3] w fun e w' => e = .returned (.bool true) ∧ Below w.heap.size w w' := by
  have hgr := grown_good s0 script hs.out.ok
  obtain ⟨n, hn⟩ : ∃ n, sectorsOf s0 = n := ⟨_, rfl⟩
  obtain ⟨x, hx⟩ : ∃ x, grownN (sectorsOf s0) script script.length = x := ⟨_, rfl⟩
  have HX := Lib.hid hx
  rw [hn] at hgr h
  rw [hn] at hx
  rw [hx] at hgr
  have GR := Lib.hid hgr
  clear hgr hx hn
  rcases h with h | ⟨h', h⟩
  all_goals
    go_enter Try.func4, Try.ntmps4
    go_wp2_with fail
    refine (grown_script s0 A c script w hs.out).mono ?_
    rintro e w1 ⟨g, rfl, d1, b1⟩
    rw [HX.out] at d1
    have D1 := Lib.hid d1
    have B1 := Lib.hid b1
    clear d1 b1
    go_wp2_with fail
    refine (awake_any w1).mono ?_
    rintro e w2 ⟨rfl, b2⟩
    have D2 := Lib.hid (D1.out.keep (Only.of_below b2 (fun _ => False)) (fun _ _ h => h))
    have B2 := Lib.hid (((Only.of_below B1.out (fun _ => False)).step (Only.of_below b2 (fun _ => False)) (fun _ _ h => h)).below_all)
    clear b2 D1 B1
    go_wp2_with (first
      | (go_at_call 17; refine (dk_len D2.out GR.out.good).mono ?_; rintro e w' ⟨rfl, rfl⟩)
      | (go_at_call 11; refine (awake_any w2).mono ?_; rintro e w3 ⟨rfl, b3⟩; have B3 := Lib.hid (((Only.of_below B2.out (fun _ => False)).step (Only.of_below b3 (fun _ => False)) (fun _ _ h => h)).below_all); clear b3)
      | fail)
    go_ret
    exact ⟨rfl, B3.out⟩
theorem apart_all (s0 : Int) (A A3 : Option Addr) (c c3 : Nat) (script : List OpV) (s : Int) (b : List Int) (w : World) (hs : Script w A c script) (hb : (Kd.int .u8).C w A3 b.length b) (hbc : b.length ≤ c3) (hbl : b.length ≤ 140737488351232) (hbb : ∀ y ∈ b, 0 ≤ y ∧ y < 256) :
    Calls Try.prog 4 #[.int .i64 s0, .slice A script.length c, .int .i64 s, .slice A3 b.length c3] w fun e w' => e = .returned (.bool true) ∧ Below w.heap.size w w' := by
  by_cases h : 0 ≤ s ∧ s < (sectorsOf s0 : Nat)
  · exact apart_in s0 A A3 c c3 script s b w (Lib.hid hs) h.1 (Lib.hid h.2) (Lib.hid hb) hbc hbl (Lib.hid hbb)
  · exact apart_bad s0 A A3 c b.length c3 script s w (Lib.hid hs) (by omega)
end Go.Proofs.Ytgiidddmhnnnjaa.Dk
