/- DiskKeeps, whatever is handed in. -/
import Derived.Test.YtgiidddmhnnnjaaDisk17
import Derived.Test.YtgiidddmhnnnjaaOpOpens
namespace Go.Proofs.Ytgiidddmhnnnjaa.Dk
open Go.RowKit Go.Proofs.Ytgiidddmhnnnjaa.Mem Go.Proofs.YtgiidddmhnnnjaaW.PrintWords
set_option linter.unusedVariables false
set_option linter.unusedSimpArgs false
set_option maxHeartbeats 1000000 in
set_option maxRecDepth 100000 in
theorem keeps_bad (s : Int) (A A2 A3 : Option Addr) (c n2 c2 n3 c3 : Nat) (script : List OpV) (torn cut : Int) (w : World) (hs : Hid (Script w A c script)) (h : cut < 0 ∨ ¬ cut < 0 ∧ 32 < cut) :
    Calls Try.prog 5 #[.int .i64 s, .slice A script.length c, .slice A2 n2 c2, .slice A3 n3 c3, .int .i64 torn, .int .i64 cut] w fun e w' => e = .returned (.bool true) ∧ Below w.heap.size w w' := by
  rcases h with h | ⟨h', h⟩
  all_goals
    go_enter Try.func5, Try.ntmps5
    go_wp2_with fail
    refine (grown_script s A c script w hs.out).mono ?_
    rintro e w1 ⟨g, rfl, d1, b1⟩
    have B1 := Lib.hid b1
    clear d1 b1
    go_wp2_with fail
    refine (awake_any w1).mono ?_
    rintro e w2 ⟨rfl, b2⟩
    have B2 := Lib.hid (((Only.of_below B1.out (fun _ => False)).step (Only.of_below b2 (fun _ => False)) (fun _ _ h => h)).below_all)
    clear b2
    go_wp2_with fail
    refine (awake_any w2).mono ?_
    rintro e w3 ⟨rfl, b3⟩
    have B3 := Lib.hid (((Only.of_below B2.out (fun _ => False)).step (Only.of_below b3 (fun _ => False)) (fun _ _ h => h)).below_all)
    clear b3
    go_wp2
    go_ret
    exact ⟨rfl, B3.out⟩
theorem keeps_all (s : Int) (A A2 A3 : Option Addr) (c c2 c3 : Nat) (script more : List OpV) (keep : List Bool) (torn cut : Int) (w : World) (hs : Script w A c script) (hm : Script w A2 c2 more) (hk : Kd.bool.C w A3 keep.length keep) (hkc : keep.length ≤ c3) (hkl : keep.length ≤ 140737488351232) :
    Calls Try.prog 5 #[.int .i64 s, .slice A script.length c, .slice A2 more.length c2, .slice A3 keep.length c3, .int .i64 torn, .int .i64 cut] w fun e w' => e = .returned (.bool true) ∧ Below w.heap.size w w' := by
  by_cases h : 0 ≤ cut ∧ cut ≤ 32
  · exact keeps_any s A A2 A3 c c2 c3 script more keep torn cut w (Lib.hid hs) (Lib.hid hm) (Lib.hid hk) hkc hkl h.1 h.2
  · exact keeps_bad s A A2 A3 c more.length c2 keep.length c3 script torn cut w (Lib.hid hs) (by omega)
end Go.Proofs.Ytgiidddmhnnnjaa.Dk
