/- pages over a disk: the small contracts; PagesNil, walked. -/
import Derived.Test.YtgiidddmhnnnjaaPagesPure
import Derived.Test.YtgiidddmhnnnjaaSame
namespace Go.Proofs.Ytgiidddmhnnnjaa.Pg
open Go.RowKit Go.Proofs.Ytgiidddmhnnnjaa.Mem Go.Proofs.YtgiidddmhnnnjaaW.PrintWords Go.Proofs.Ytgiidddmhnnnjaa.Dk
set_option linter.unusedVariables false
set_option linter.unusedSimpArgs false
theorem count_nil (w : World) : Calls Try.prog 27 #[.pointer none] w fun e w' => e = .returned (.int .i64 0) ∧ w = w' := by
  go_enter Try.func27, Try.ntmps27
  go_wp2_with (first
    | (go_at_call 17; refine (len_nil _).mono ?_; rintro e w' ⟨rfl, rfl⟩)
    | fail)
  go_ret
  exact ⟨rfl, rfl⟩
theorem count_any {w : World} {base g n : Nat} {ok : Nat → Prop} {x : DV} (h : IsDisk w base ok g x) (hg : Dk.Good x n) : Calls Try.prog 27 #[.pointer (some ⟨g, 0, none⟩)] w fun e w' => e = .returned (.int .i64 (n / 4 : Nat)) ∧ w = w' := by
  have HL := Lib.hid (dk_len h hg)
  have hn := hg.n2
  clear h
  go_enter Try.func27, Try.ntmps27
  go_wp2_with (first
    | (go_at_call 17; refine HL.out.mono ?_; rintro e w' ⟨rfl, rfl⟩)
    | fail)
  go_ret
  exact ⟨by simp, rfl⟩
theorem check_nil (p : Int) (w : World) : Calls Try.prog 39 #[.pointer none, .int .i64 p] w fun e w' => e = .returned (.int .i64 2) ∧ w = w' := by
  go_enter Try.func39, Try.ntmps39
  go_wp2
  go_ret
  exact ⟨rfl, rfl⟩
theorem check_ok {w : World} {base g n : Nat} {ok : Nat → Prop} {x : DV} (h : IsDisk w base ok g x) (hg : Dk.Good x n) (p : Int) (h0 : 0 ≤ p) (h1 : p < (n / 4 : Nat)) : Calls Try.prog 39 #[.pointer (some ⟨g, 0, none⟩), .int .i64 p] w fun e w' => e = .returned (.int .i64 0) ∧ w = w' := by
  have HC := Lib.hid (count_any h hg)
  clear h
  obtain ⟨m, hm⟩ : ∃ m, n / 4 = m := ⟨_, rfl⟩
  rw [hm] at h1 HC
  clear hm
  go_enter Try.func39, Try.ntmps39
  go_wp2_with (first
    | (go_at_call 27; refine HC.out.mono ?_; rintro e w' ⟨rfl, rfl⟩)
    | fail)
  go_ret
  exact ⟨rfl, rfl⟩
theorem check_bad {w : World} {base g n : Nat} {ok : Nat → Prop} {x : DV} (h : IsDisk w base ok g x) (hg : Dk.Good x n) (p : Int) (hp : p < 0 ∨ ¬ p < 0 ∧ ¬ p < (n / 4 : Nat)) : Calls Try.prog 39 #[.pointer (some ⟨g, 0, none⟩), .int .i64 p] w fun e w' => e = .returned (.int .i64 4) ∧ w = w' := by
  have HC := Lib.hid (count_any h hg)
  clear h
  obtain ⟨m, hm⟩ : ∃ m, n / 4 = m := ⟨_, rfl⟩
  rw [hm] at hp HC
  clear hm
  rcases hp with hp | ⟨hp', hp⟩
  all_goals
    go_enter Try.func39, Try.ntmps39
    go_wp2_with (first
      | (go_at_call 27; refine HC.out.mono ?_; rintro e w' ⟨rfl, rfl⟩)
      | fail)
    go_ret
    exact ⟨rfl, rfl⟩
theorem pread_nil (p : Int) (w : World) : Calls Try.prog 25 #[.pointer none, .int .i64 p] w fun e w' => e = .returned (.tuple #[.int .u32 0, .slice none 0 0, .int .i64 2]) ∧ w = w' := by
  go_enter Try.func25, Try.ntmps25
  go_wp2_with (first
    | (go_at_call 39; refine (check_nil p _).mono ?_; rintro e w' ⟨rfl, rfl⟩)
    | fail)
  go_ret3
  exact ⟨rfl, rfl⟩
theorem pwrite_nil (p id : Int) (A : Option Addr) (n c : Nat) (w : World) : Calls Try.prog 28 #[.pointer none, .int .i64 p, .int .u32 id, .slice A n c] w fun e w' => e = .returned (.int .i64 2) ∧ w = w' := by
  go_enter Try.func28, Try.ntmps28
  go_wp2_with (first
    | (go_at_call 39; refine (check_nil p _).mono ?_; rintro e w' ⟨rfl, rfl⟩)
    | fail)
  go_ret
  exact ⟨rfl, rfl⟩
theorem own_any (A : Option Addr) (c : Nat) (l : List Int) (w : World) (hr : (Kd.int .u8).C w A l.length l) (hc : l.length ≤ c) (hl : l.length ≤ 140737488351232) :
    Calls Try.prog 29 #[.slice A l.length c] w fun e w' => ∃ v, e = .returned v ∧ (Kd.int .u8).R 5 w' w.heap.size (fun _ => True) v l ∧ Below w.heap.size w w' := by
  refine PPagesApart.quirelaw03_own.calls A c l l w hr hc ?_
  unfold PPagesApart.quirelaw03_own.f
  simp only [Option.bind_some, List.length_nil, Nat.zero_add, List.nil_append]
  rw [if_pos (by omega)]
set_option maxHeartbeats 1000000 in
set_option maxRecDepth 100000 in
theorem pawake_any (w : World) : Calls Try.prog 26 #[] w fun e w' => e = .returned (.bool true) ∧ Below w.heap.size w w' := by
  have HB : Hid (Below w.heap.size w (w.alloc (.cells #[.int .u8 1] 5))) := Lib.hid ((Only.refl w (fun _ => False)).alloc _).below_all
  have HC : Hid ((Kd.int .u8).C (w.alloc (.cells #[.int .u8 1] 5)) (some ⟨w.heap.size, 0, none⟩) 1 [1]) := Lib.hid (Dk.C_of_blk (o := 0) (n := 1) (xs := [1]) (Blk.new _ _ _) (by simp) (by simp))
  have hp : Hid (Hand.pck 7 [1] = (Hand.packed 7 [1], 0)) := Lib.hid (if_pos (by simp))
  go_enter Try.func26, Try.ntmps26
  go_wp2_with fail
  have pk := Hand.pack_any 7 (some ⟨w.heap.size, 0, none⟩) 1 [1] _ HC.out (by simp) (by decide) (by simp)
  rw [hp.out] at pk
  refine (show Calls _ _ #[.int .u32 7, .slice (some ⟨w.heap.size, 0, none⟩) 1 1] _ _ from pk).mono ?_
  rintro e w1 ⟨v, rfl, r1, b1⟩
  have hlp := Pp.packed_length 7 [1] (by simp)
  obtain ⟨g, cap, junk, rfl, -, -, hc1, -, -, hb1⟩ := R_open r1 (by rw [hlp]; decide)
  rw [hlp]
  have h7 : w1.cell? ⟨g, 4, none⟩ = some (.int .u8 7) := by
    refine hb1.cell_at 4 _ ?_
    rw [List.getElem?_append_left (by rw [icells_length, hlp]; decide)]
    rfl
  have B1 := Lib.hid ((Only.of_below HB.out (fun _ => False)).step (Only.of_below b1 (fun _ => False)) (fun _ _ h => h)).below_all
  clear r1 b1 hb1 hc1 pk hlp
  go_wp2
  go_ret
  exact ⟨rfl, B1.out⟩
set_option maxHeartbeats 2000000 in
set_option maxRecDepth 100000 in
theorem pagesnil_any (p : Int) (A : Option Addr) (c : Nat) (l : List Int) (w : World) (hr : Hid ((Kd.int .u8).C w A l.length l)) (hc : l.length ≤ c) (hl : l.length ≤ 140737488351232) : Calls Try.prog 8 #[.int .i64 p, .slice A l.length c] w fun e w' => e = .returned (.bool true) ∧ Below w.heap.size w w' := by
  go_enter Try.func8, Try.ntmps8
  go_wp2_with (first
    | (go_at_call 25; refine (pread_nil p _).mono ?_; rintro e w' ⟨rfl, rfl⟩)
    | (go_at_call 26; refine (pawake_any w).mono ?_; rintro e w1 ⟨rfl, b1⟩; have B1 := Lib.hid b1; clear b1)
    | (go_at_call 27; refine (count_nil _).mono ?_; rintro e w' ⟨rfl, rfl⟩)
    | (go_at_call 29; refine (own_any A c l _ (Kd.C_below hr.out B1.out) hc hl).mono ?_; rintro e w2 ⟨v, rfl, r2, b2⟩; obtain ⟨A2, c2, e2⟩ := Kd.R_slice r2; subst e2; have B2 := Lib.hid ((Only.of_below B1.out (fun _ => False)).step (Only.of_below b2 (fun _ => False)) (fun _ _ h => h)).below_all; clear r2 b2)
    | (go_at_call 28; refine (pwrite_nil _ _ _ _ _ _).mono ?_; rintro e w' ⟨rfl, rfl⟩)
    | fail)
  go_ret
  exact ⟨rfl, B2.out⟩
end Go.Proofs.Ytgiidddmhnnnjaa.Pg
