/- Write, whatever is handed in. -/
import Derived.Test.YtgiidddmhnnnjaaDisk11
namespace Go.Proofs.Ytgiidddmhnnnjaa.Dk
open Go.RowKit Go.Proofs.Ytgiidddmhnnnjaa.Mem Go.Proofs.YtgiidddmhnnnjaaW.PrintWords
set_option linter.unusedVariables false
set_option linter.unusedSimpArgs false
variable {w : World} {base g n : Nat} {ok : Nat → Prop} {x : DV}
theorem write_len (g : Nat) (s : Int) (A : Option Addr) (l c : Nat) (w : World) (h : l ≠ 32) : Calls Try.prog 14 #[.pointer (some ⟨g, 0, none⟩), .int .i64 s, .slice A l c] w fun e w' => e = .returned (.int .i64 2) ∧ w = w' := by
  have h1 : ((l : Int) != 32) = true := by rw [bne_iff_ne]; omega
  have h2 : ((l : Int) == 32) = false := by rw [beq_eq_false_iff_ne]; omega
  clear h
  go_enter Try.func14, Try.ntmps14
  go_wp2
  go_ret
  exact ⟨rfl, rfl⟩
theorem dk_check (h : IsDisk w base ok g x) (hg : Good x n) (s : Int) : Calls Try.prog 31 #[.pointer (some ⟨g, 0, none⟩), .int .i64 s] w fun e w' => e = .returned (.int .i64 (chk x.life s n)) ∧ w = w' := by
  obtain ⟨gk, ck, jk, gs, cs, js, A, N, C, _, _, _, _, _, _, _, _, _, _, _, _, hb, _⟩ := h.open_ hg
  have := check_cells g x.seen.length cs _ x.life s w (hb.cell_at 1 _ rfl) (hb.cell_at 3 _ rfl) (by rw [hg.seen]; have := hg.n2; omega)
  rwa [show x.seen.length / 32 = n by rw [hg.seen]; omega] at this
theorem write_check (h : IsDisk w base ok g x) (hg : Good x n) (s : Int) (A : Option Addr) (c : Nat) (hc : chk x.life s n ≠ 0) : Calls Try.prog 14 #[.pointer (some ⟨g, 0, none⟩), .int .i64 s, .slice A 32 c] w fun e w' => e = .returned (.int .i64 (chk x.life s n)) ∧ w = w' := by
  have HC := Lib.hid (dk_check h hg s)
  clear h
  generalize chk x.life s n = r at *
  have h1 : (r == 0) = false := by simpa using hc
  have h2 : (r != 0) = true := by simpa using hc
  clear hc
  go_enter Try.func14, Try.ntmps14
  go_wp2_with (first
    | (go_at_call 31; refine HC.out.mono ?_; rintro e w' ⟨rfl, rfl⟩)
    | fail)
  go_ret
  exact ⟨rfl, rfl⟩
/-- A write, whatever it is: what was handed in is a row of one's own, apart from the disk. -/
theorem dk_put (h : IsDisk w base ok g x) (hg : Good x n) (hbase : base ≤ w.heap.size) (hpl : (x.pend.length + 1) * 32 ≤ 140737488355328) (hlife : x.life ≠ 0) (s : Int) (B : Nat) (okb : Nat → Prop) (A : Option Addr) (c : Nat) (b : List Int) (hv : (Kd.int .u8).R 5 w B okb (.slice A b.length c) b) (hap : ∀ k, ok k → k < B) :
    Calls Try.prog 14 #[.pointer (some ⟨g, 0, none⟩), .int .i64 s, .slice A b.length c] w fun e w' => (∃ r : Int, e = .returned (.int .i64 r)) ∧
      IsDisk w' base (fun k => ok k ∨ w.heap.size ≤ k) g (if b.length = 32 ∧ 0 ≤ s ∧ s < n then x.write s.toNat b else x) ∧ Only w w' ok := by
  by_cases hl : b.length = 32
  · by_cases hs : 0 ≤ s ∧ s < n
    · rw [if_pos ⟨hl, hs.1, hs.2⟩]
      obtain ⟨m, rfl⟩ := Int.eq_ofNat_of_zero_le hs.1
      rw [Int.toNat_natCast]
      obtain ⟨gb, cap, junk, e1, q1, q2, q3, q4, q5, q6⟩ := R_open hv (by omega)
      injection e1 with e1 _ _
      subst e1
      have hC := (Kd.R_reads' hv).2.2
      rw [hl] at hC ⊢
      refine (dk_write h hg hg.n2 hbase hpl hlife m (by omega) gb 0 c b hC q6.lt (fun hk => by have := hap _ hk; omega)).mono ?_
      rintro e w' ⟨rfl, d, o⟩
      exact ⟨⟨_, rfl⟩, d, o⟩
    · rw [if_neg (fun hh => hs hh.2)]
      have hc : chk x.life s n ≠ 0 := by
        intro hh
        exact hs ⟨(chk_zero hh).2.1, (chk_zero hh).2.2⟩
      rw [hl]
      refine (write_check h hg s A c hc).mono ?_
      rintro e w' ⟨rfl, rfl⟩
      exact ⟨⟨_, rfl⟩, h.mono (fun _ hk => .inl hk), Only.refl _ _⟩
  · rw [if_neg (fun hh => hl hh.1)]
    refine (write_len g s A b.length c w hl).mono ?_
    rintro e w' ⟨rfl, rfl⟩
    exact ⟨⟨_, rfl⟩, h.mono (fun _ hk => .inl hk), Only.refl _ _⟩
end Go.Proofs.Ytgiidddmhnnnjaa.Dk
