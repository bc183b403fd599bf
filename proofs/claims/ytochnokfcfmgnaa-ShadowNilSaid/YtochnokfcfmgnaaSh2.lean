/- Seat F: a disk under a store: which blocks it may have. -/
import Derived.Test.YtochnokfcfmgnaaShNil1
namespace Go.Proofs.Ytochnokfcfmgnaa.Sh
open Go.RowKit Go.Proofs.Ytochnokfcfmgnaa.Mem Go.Proofs.YtochnokfcfmgnaaW.PrintWords Go.Proofs.Ytochnokfcfmgnaa.Dk
set_option linter.unusedVariables false
set_option linter.unusedSimpArgs false
/-- The disk's blocks: from base on, ahead of N, not T. -/
def okN (base N : Nat) (T : Nat → Prop) (k : Nat) : Prop := base ≤ k ∧ k < N ∧ ¬ T k
structure DK (w : World) (base d N p : Nat) (T : Nat → Prop) : Prop where
  x : ∃ x, IsDisk w base (okN base N T) d x ∧ Dk.Good x 16 ∧ x.life = -1 ∧ x.pend.length ≤ p
  hN : N ≤ w.heap.size
  hb : base ≤ N
  hT : ∀ k, T k → k < w.heap.size
theorem spent_m1 : spent (-1) = -1 := by decide
theorem DK.keep {w w' : World} {base d N p : Nat} {T S : Nat → Prop} (h : DK w base d N p T) (ho : Only w w' S) (hs : ∀ k, okN base N T k → ¬ S k) : DK w' base d N p T := by
  obtain ⟨x, hx, r⟩ := h.x
  exact ⟨⟨x, hx.keep ho hs, r⟩, Nat.le_trans h.hN ho.size, h.hb, fun k hk => Nat.lt_of_lt_of_le (h.hT k hk) ho.size⟩
theorem DK.write {w : World} {base d N p : Nat} {T : Nat → Prop} (h : DK w base d N p T) (hp : p ≤ 1000) (m : Nat) (hm : m < 16) (ab ao c : Nat) (b : List Int) (hb : (Kd.int .u8).C w (some ⟨ab, ao, none⟩) 32 b) (hbb : ∀ y ∈ b, 0 ≤ y ∧ y < 256) (hab : ab < w.heap.size) (hn : N ≤ ab) :
    Calls Try.prog 48 #[.pointer (some ⟨d, 0, none⟩), .int .i64 (m : Int), .slice (some ⟨ab, ao, none⟩) 32 c] w fun e w' => e = .returned (.int .i64 0) ∧ DK w' base d w'.heap.size (p + 1) T ∧ Only w w' (okN base N T) := by
  obtain ⟨x, hx, hg, hl, hq⟩ := h.x
  refine (dk_write hx hg (by omega) (Nat.le_trans h.hb h.hN) (by omega) (by rw [hl]; decide) m hm ab ao c b hb hab (fun hk => by have := hk.2.1; omega)).mono ?_
  rintro e w' ⟨rfl, d', o⟩
  refine ⟨rfl, ⟨⟨x.write m b, (IsDisk.bound d').mono ?_, hg.write hm hb.1 hbb, ?_, ?_⟩, Nat.le_refl _, Nat.le_trans h.hb (Nat.le_trans h.hN o.size), fun k hk => Nat.lt_of_lt_of_le (h.hT k hk) o.size⟩, o⟩
  · rintro k ⟨hk, hk1, hk2⟩
    refine ⟨hk1, hk2, fun ht => ?_⟩
    rcases hk with hk | hk
    · exact hk.2.2 ht
    · exact absurd (h.hT k ht) (by omega)
  · show spent x.life = -1
    rw [hl]; exact spent_m1
  · show (x.pend ++ [((m : Int), b)]).length ≤ p + 1
    simp; omega
theorem DK.barrier {w : World} {base d N p : Nat} {T : Nat → Prop} (h : DK w base d N p T) :
    Calls Try.prog 49 #[.pointer (some ⟨d, 0, none⟩)] w fun e w' => e = .returned (.int .i64 0) ∧ DK w' base d N p T ∧ Only w w' (okN base N T) := by
  obtain ⟨x, hx, hg, hl, hq⟩ := h.x
  refine (dk_barrier hx hg (by omega) (by rw [hl]; decide)).mono ?_
  rintro e w' ⟨rfl, d', o⟩
  refine ⟨rfl, ⟨⟨x.barrier, d', hg.barrier, by show spent x.life = -1; rw [hl]; exact spent_m1, by show ([] : List (Int × List Int)).length ≤ p; simp⟩, Nat.le_trans h.hN o.size, h.hb, fun k hk => Nat.lt_of_lt_of_le (h.hT k hk) o.size⟩, o⟩
theorem DK.count {w : World} {base d N p : Nat} {T : Nat → Prop} (h : DK w base d N p T) : Calls Try.prog 45 #[.pointer (some ⟨d, 0, none⟩)] w fun e w' => e = .returned (.int .i64 4) ∧ w = w' := by
  obtain ⟨x, hx, hg, hl, hq⟩ := h.x
  exact Pg.count_any hx hg
/-- A new disk. -/
theorem DK.new (w : World) : Calls Try.prog 31 #[.int .i64 16] w fun e w' => ∃ d, e = .returned (.tuple #[.pointer (some ⟨d, 0, none⟩), .int .i64 0]) ∧ DK w' w.heap.size d w'.heap.size 0 (fun _ => False) ∧ Below w.heap.size w w' := by
  refine (new_ok 16 w (by omega) (by omega)).mono ?_
  rintro e w' ⟨d, rfl, h, hb⟩
  exact ⟨d, rfl, ⟨⟨_, (IsDisk.bound h).mono (fun k hk => ⟨hk.2.1, hk.2.2, fun h => h⟩), good_new 16 (by omega) (by omega), rfl, by simp⟩, Nat.le_refl _, hb.size, fun k hk => hk.elim⟩, hb⟩
/-- What is laid behind the disk is not the disk's. -/
theorem DK.taboo {w : World} {base d N p : Nat} {T T' : Nat → Prop} (h : DK w base d N p T) (hT : ∀ k, T' k → N ≤ k ∧ k < w.heap.size) (hTT : ∀ k, T k → T' k) : DK w base d N p T' := by
  obtain ⟨x, hx, r⟩ := h.x
  exact ⟨⟨x, hx.mono (fun k hk => ⟨hk.1, hk.2.1, fun ht => by have := (hT k ht).1; have := hk.2.1; omega⟩), r⟩, h.hN, h.hb, fun k hk => (hT k hk).2⟩
end Go.Proofs.Ytochnokfcfmgnaa.Sh
