/- The contracts of the disk's small functions. -/
import Derived.Test.YtochnokfcfmgnaaClone
import Derived.WalkLawsBesides
namespace Go.Proofs.Ytochnokfcfmgnaa.Dk
open Go.RowKit Go.Proofs.Ytochnokfcfmgnaa.Mem Go.Proofs.YtochnokfcfmgnaaW.PrintWords
set_option linter.unusedVariables false
set_option linter.unusedSimpArgs false

theorem len_cells (a : Nat) (n c : Nat) (A : Option Addr) (w : World) (h : w.cell? ⟨a, 1, none⟩ = some (.slice A n c)) (hn : n ≤ 1000000) :
    Calls Try.prog 25 #[.pointer (some ⟨a, 0, none⟩)] w fun e w' => e = .returned (.int .i64 (n / 32 : Nat)) ∧ w = w' := by
  go_enter Try.func25, Try.ntmps25
  go_wp2
  go_ret
  exact ⟨by simp, rfl⟩
/-- The errors of an access. -/
def chk (life s n : Int) : Int := if life = 0 then 3 else if s < 0 ∨ s ≥ n then 4 else 0
theorem check_cells (a : Nat) (n c : Nat) (A : Option Addr) (life s : Int) (w : World) (h1 : w.cell? ⟨a, 1, none⟩ = some (.slice A n c)) (h3 : w.cell? ⟨a, 3, none⟩ = some (.int .i64 life)) (hn : n ≤ 1000000) :
    Calls Try.prog 63 #[.pointer (some ⟨a, 0, none⟩), .int .i64 s] w fun e w' => e = .returned (.int .i64 (chk life s (n / 32 : Nat))) ∧ w = w' := by
  by_cases c1 : life = 0
  · subst c1
    go_enter Try.func63, Try.ntmps63
    go_wp2
    go_ret
    exact ⟨rfl, rfl⟩
  · have b1 : (life == 0) = false := by simpa using c1
    by_cases c2 : s < 0
    · have hf : chk life s (n / 32 : Nat) = 4 := by unfold chk; rw [if_neg c1, if_pos (.inl c2)]
      rw [hf]
      clear hf c1
      go_enter Try.func63, Try.ntmps63
      go_wp2
      go_ret
      exact ⟨rfl, rfl⟩
    · have hf : chk life s (n / 32 : Nat) = if s < (n / 32 : Nat) then 0 else 4 := by unfold chk; rw [if_neg c1]; split <;> split <;> omega
      rw [hf]
      clear hf c1
      by_cases c3 : s < (n / 32 : Nat)
      · rw [if_pos c3]
        go_enter Try.func63, Try.ntmps63
        go_wp2_with (go_at_call 25; refine (len_cells a n c A _ h1 hn).mono ?_; rintro e w' ⟨rfl, rfl⟩)
        go_ret
        exact ⟨rfl, rfl⟩
      · rw [if_neg c3]
        go_enter Try.func63, Try.ntmps63
        go_wp2_with (go_at_call 25; refine (len_cells a n c A _ h1 hn).mono ?_; rintro e w' ⟨rfl, rfl⟩)
        go_ret
        exact ⟨rfl, rfl⟩
theorem check_nil (s : Int) (w : World) : Calls Try.prog 63 #[.pointer none, .int .i64 s] w fun e w' => e = .returned (.int .i64 2) ∧ w = w' := by
  go_enter Try.func63, Try.ntmps63
  go_wp2
  go_ret
  exact ⟨rfl, rfl⟩
/-- What is left of a life. -/
def spent (life : Int) : Int := if 0 < life then life - 1 else life
theorem spend_cells (a : Nat) (life : Int) (w : World) (h3 : w.cell? ⟨a, 3, none⟩ = some (.int .i64 life)) (hf : w.frozen? ⟨a, 3, none⟩ = false) (hl : -1 ≤ life) (hl2 : life ≤ 9223372036854775807) :
    Calls Try.prog 69 #[.pointer (some ⟨a, 0, none⟩)] w fun e w' => e = .returned (.tuple #[]) ∧ w' = if 0 < life then w.setCell ⟨a, 3, none⟩ (.int .i64 (life - 1)) else w := by
  by_cases c : 0 < life
  · rw [if_pos c]
    go_enter Try.func69, Try.ntmps69
    go_wp2
    go_end0
    exact ⟨rfl, rfl⟩
  · rw [if_neg c]
    go_enter Try.func69, Try.ntmps69
    go_wp2
    go_end0
    exact ⟨rfl, rfl⟩
theorem sector_cells (b n c : Nat) (s : Nat) (w : World) (hs : (s + 1) * 32 ≤ n) (hn : n ≤ 1000000) (hc : n ≤ c) :
    Calls Try.prog 51 #[.slice (some ⟨b, 0, none⟩) n c, .int .i64 (s : Int)] w fun e w' => e = .returned (.slice (some ⟨b, s * 32, none⟩) 32 (c - s * 32)) ∧ w = w' := by
  go_enter Try.func51, Try.ntmps51
  go_wp2
  go_ret
  exact ⟨by rw [show (s + 1) * 32 - s * 32 = 32 by omega]; rfl, rfl⟩

/-- The bytes of a sector. -/
def sec (b : List Int) (s : Int) : List Int := (b.drop (s.toNat * 32)).take 32
theorem sec_length (b : List Int) (n : Nat) (s : Int) (h : b.length = n * 32) (h0 : 0 ≤ s) (h1 : s < n) : (sec b s).length = 32 := by
  unfold sec
  rw [List.length_take, List.length_drop]
  omega
theorem chk_zero {life s n : Int} (h : chk life s n = 0) : life ≠ 0 ∧ 0 ≤ s ∧ s < n := by
  unfold chk at h
  split at h
  · cases h
  · split at h
    · cases h
    · omega
set_option maxHeartbeats 1000000 in
theorem read_cells (g gs cap n : Nat) (life s : Int) (seen : List Int) (junk : List Value) (vk vp : Value) (w : World) (hD : Hid (Blk w g 93 [vk, .slice (some ⟨gs, 0, none⟩) seen.length cap, vp, .int .i64 life])) (hS : Hid (Blk w gs 5 (icells .u8 seen ++ junk))) (hl : seen.length = n * 32) (hn : n ≤ 8192) (hc : seen.length ≤ cap) :
    Calls Try.prog 44 #[.pointer (some ⟨g, 0, none⟩), .int .i64 s] w fun e w' => ∃ v, e = .returned (.tuple #[v, .int .i64 (chk life s n)]) ∧ (Kd.int .u8).R 5 w' w.heap.size (fun _ => True) v (if chk life s n = 0 then sec seen s else []) ∧ Below w.heap.size w w' := by
  have h1 := hD.out.cell_at 1 _ rfl
  have h3 := hD.out.cell_at 3 _ rfl
  have hck : Calls Try.prog 63 #[.pointer (some ⟨g, 0, none⟩), .int .i64 s] w fun e w' => e = .returned (.int .i64 (chk life s n)) ∧ w = w' := by
    have := check_cells g seen.length cap _ life s w h1 h3 (by omega)
    rwa [show seen.length / 32 = n by omega] at this
  have HC := Lib.hid hck
  have HL := Lib.hid hl
  clear h3 hck hl
  generalize hx : chk life s n = x at *
  by_cases c : x = 0
  · subst c
    obtain ⟨q1, q2, q3⟩ := chk_zero hx
    obtain ⟨m, rfl⟩ := Int.eq_ofNat_of_zero_le q2
    have q4 : m < n := by omega
    have HX := Lib.hid hx
    clear hx q1 q2 q3
    rw [if_pos rfl]
    go_enter Try.func44, Try.ntmps44
    go_wp2_with (first
      | (go_at_call 63; refine HC.out.mono ?_; rintro e w' ⟨rfl, rfl⟩)
      | (go_at_call 51; refine (sector_cells gs seen.length cap m w (by rw [HL.out]; omega) (by rw [HL.out]; omega) hc).mono ?_; rintro e w' ⟨rfl, rfl⟩)
      | (go_at_call 33; refine (clone_any gs (m * 32) 32 _ (sec seen m) w (sec_length seen n m HL.out (by omega) (by omega)) (by omega) (fun j v hv => hS.out.at_ (m * 32) 32 (by rw [HL.out]; omega) j v hv)).mono ?_; rintro e w' ⟨v, rfl, hr, hb⟩; have HR := Lib.hid hr; have HB := Lib.hid hb; clear hr hb))
    go_ret2
    exact ⟨_, rfl, HR.out, HB.out⟩
  · have b1 : (x == 0) = false := by simpa using c
    have b2 : (x != 0) = true := by simpa using c
    rw [if_neg c]
    clear hx c
    go_enter Try.func44, Try.ntmps44
    go_wp2_with (go_at_call 63; refine HC.out.mono ?_; rintro e w' ⟨rfl, rfl⟩)
    go_ret2
    exact ⟨_, rfl, Kd.R_nil _ _ _ _ _, Below.refl _ _⟩
end Go.Proofs.Ytochnokfcfmgnaa.Dk
