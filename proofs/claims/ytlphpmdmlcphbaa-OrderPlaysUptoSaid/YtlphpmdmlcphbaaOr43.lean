/- Seat E: rows apart, and their book. -/
import Derived.Test.YtlphpmdmlcphbaaOr41
namespace Go.Proofs.Ytlphpmdmlcphbaa.Or
open Go Go.RowKit Go.Proofs.Ytlphpmdmlcphbaa.Mem Go.Proofs.YtlphpmdmlcphbaaW.PrintWords Go.Maps Go.Proofs.Ytlphpmdmlcphbaa.Om
set_option linter.unusedVariables false
set_option linter.unusedSimpArgs false
set_option maxRecDepth 100000
set_option maxHeartbeats 2000000
/-- The word that is put behind. -/
abbrev sp : ByteArray := ⟨#[115, 112, 97, 114, 101]⟩
theorem LV.slice {w : World} {base : Nat} {ov : Value} {us : List SL} {outs : List (List ByteArray)} (h : LV w base ov us outs) : ∃ A c, ov = .slice A us.length c := by
  rcases h.row.2 with ⟨hv, h0⟩ | ⟨g, cap, cur, hv, _⟩
  · exact ⟨none, 0, by rw [hv, h0]⟩
  · exact ⟨_, _, hv⟩
theorem prefix_reads {w : World} {base : Nat} {A : Option Addr} {c : Nat} {l : List ByteArray} {x : ByteArray} (h : OwnS w base (.slice A (l ++ [x]).length c) (l ++ [x])) : OwnS w base (.slice A l.length c) l :=
  Kd.own_of_R (R_pop (Kd.R_of_own (enc := Value.string) (h1 := fun _ => rfl) (ok := fun _ => True) h (fun _ _ => trivial)))
/-- A row of one's own, in blocks from lo to hi. -/
def Rg (w : World) (lo hi : Nat) (p : SL) : Prop := (∃ ys, OwnS w lo (sv p) ys ∧ ys.length = p.2.1 ∧ ys.length ≤ 16777216) ∧ ∀ k, (sv p).ownBlock = some k → lo ≤ k ∧ k < hi
theorem Rg.mk' {w w' : World} {lo hi : Nat} {A : Option Addr} {c : Nat} {ys : List ByteArray} (h : OwnS w lo (.slice A ys.length c) ys) (hl : ys.length ≤ 16777216) (hb : Below w.heap.size w w') (hh : w.heap.size ≤ hi) : Rg w' lo hi (A, ys.length, c) :=
  ⟨⟨ys, OwnS.below h hb, rfl, hl⟩, fun k hk => ⟨(World.ownsRow.lt h k hk).1, by have := (World.ownsRow.lt h k hk).2; omega⟩⟩
/-- Four sorts of rows, each in blocks of its own. -/
structure Four (w : World) (s1 s3 s4 s5 s6 : Nat) (p1 p2 p3 : SL) (us : List SL) : Prop where
  a1 : Rg w s3 s4 p1
  a2 : Rg w s4 s5 p2
  a3 : Rg w s1 s3 p3
  a4 : ∀ (j : Nat) (p : SL), us[j]? = some p → Rg w s5 s6 p
  dis : ∀ (i j : Nat) (a b : SL), us[i]? = some a → us[j]? = some b → i ≠ j → ∀ q, (sv a).ownBlock = some q → (sv b).ownBlock ≠ some q
theorem Four.all {w : World} {s1 s3 s4 s5 s6 : Nat} {p1 p2 p3 : SL} {us : List SL} (h : Four w s1 s3 s4 s5 s6 p1 p2 p3 us) (h13 : s1 ≤ s3) (h34 : s3 ≤ s4) (h45 : s4 ≤ s5) (h56 : s5 ≤ s6) :
    (∀ (k : Nat) (p : SL), (p1 :: p2 :: p3 :: us)[k]? = some p → Rg w s1 s6 p) ∧ ∀ (i j : Nat) (a b : SL), (p1 :: p2 :: p3 :: us)[i]? = some a → (p1 :: p2 :: p3 :: us)[j]? = some b → i ≠ j → ∀ q, (sv a).ownBlock = some q → (sv b).ownBlock ≠ some q := by
  have wk : ∀ {lo hi : Nat} {p : SL}, Rg w lo hi p → s1 ≤ lo → hi ≤ s6 → Rg w s1 s6 p := fun hp h1 h2 => by
    obtain ⟨⟨ys, q1, q2, q3⟩, q4⟩ := hp
    exact ⟨⟨ys, own_weaken q1 h1, q2, q3⟩, fun k hk => by have := q4 k hk; omega⟩
  have cls : ∀ (k : Nat) (p : SL), (p1 :: p2 :: p3 :: us)[k]? = some p → (k = 0 ∧ p = p1) ∨ (k = 1 ∧ p = p2) ∨ (k = 2 ∧ p = p3) ∨ ∃ j, k = j + 3 ∧ us[j]? = some p := by
    intro k p hk
    match k, hk with
    | 0, hk => exact .inl ⟨rfl, by simpa using hk.symm⟩
    | 1, hk => exact .inr (.inl ⟨rfl, by simpa using hk.symm⟩)
    | 2, hk => exact .inr (.inr (.inl ⟨rfl, by simpa using hk.symm⟩))
    | j + 3, hk => exact .inr (.inr (.inr ⟨j, rfl, by simpa using hk⟩))
  refine ⟨fun k p hk => ?_, fun i j a b hi hj hne q hq hq2 => ?_⟩
  · rcases cls k p hk with ⟨_, rfl⟩ | ⟨_, rfl⟩ | ⟨_, rfl⟩ | ⟨j, _, hj⟩
    · exact wk h.a1 h13 (by omega)
    · exact wk h.a2 (by omega) (by omega)
    · exact wk h.a3 (Nat.le_refl _) (by omega)
    · exact wk (h.a4 j p hj) (by omega) (Nat.le_refl _)
  · rcases cls i a hi with ⟨e1, rfl⟩ | ⟨e1, rfl⟩ | ⟨e1, rfl⟩ | ⟨m, e1, hm⟩ <;> rcases cls j b hj with ⟨e2, rfl⟩ | ⟨e2, rfl⟩ | ⟨e2, rfl⟩ | ⟨n, e2, hn⟩
    · omega
    · have := h.a1.2 q hq; have := h.a2.2 q hq2; omega
    · have := h.a1.2 q hq; have := h.a3.2 q hq2; omega
    · have := h.a1.2 q hq; have := (h.a4 n b hn).2 q hq2; omega
    · have := h.a2.2 q hq; have := h.a1.2 q hq2; omega
    · omega
    · have := h.a2.2 q hq; have := h.a3.2 q hq2; omega
    · have := h.a2.2 q hq; have := (h.a4 n b hn).2 q hq2; omega
    · have := h.a3.2 q hq; have := h.a1.2 q hq2; omega
    · have := h.a3.2 q hq; have := h.a2.2 q hq2; omega
    · omega
    · have := h.a3.2 q hq; have := (h.a4 n b hn).2 q hq2; omega
    · have := (h.a4 m a hm).2 q hq; have := h.a1.2 q hq2; omega
    · have := (h.a4 m a hm).2 q hq; have := h.a2.2 q hq2; omega
    · have := (h.a4 m a hm).2 q hq; have := h.a3.2 q hq2; omega
    · exact h.dis m n a b hm hn (by omega) q hq hq2
theorem row_heap {w w' : World} {base s n : Nat} {e : TypeId} {v : Value} {xs : List Value} (h : w.ownsRow base e s v n xs) (hk : ∀ k, k < w.heap.size → w'.heap[k]? = w.heap[k]?) : w'.ownsRow base e s v n xs := by
  refine ⟨h.1, ?_⟩
  rcases h.2 with hn | ⟨g, cap, cur, hv, hb, hg, rest⟩
  · exact .inl hn
  · exact .inr ⟨g, cap, cur, hv, hb, (hk g (Array.getElem?_eq_some_iff.1 hg).1).trans hg, rest⟩
/-- The book's four conditions, and that nothing older turns. -/
theorem book_c (w wr w' : World) (gB : Nat) (Ar : Option Addr) (cr n : Nat) (s1 s6 : Nat) (vs : List SL) (hall : ∀ (k : Nat) (p : SL), vs[k]? = some p → Rg wr s1 s6 p) (hdis : ∀ (i j : Nat) (a b : SL), vs[i]? = some a → vs[j]? = some b → i ≠ j → ∀ q, (sv a).ownBlock = some q → (sv b).ownBlock ≠ some q)
    (hs6 : s6 ≤ wr.heap.size) (hsw : w.heap.size ≤ s1) (h16 : s1 ≤ s6) (hn : n = vs.length) (hlen : vs.length ≤ 4194310) (hkeep : ∀ k, k < wr.heap.size → w'.heap[k]? = wr.heap[k]?) (hle : wr.heap.size ≤ w'.heap.size) (hgB : wr.heap.size ≤ gB)
    (hB : Blk w' gB 46 [.slice none 0 0, .slice none 0 0, .slice none 0 0, .slice Ar n cr]) (hR : slc.R 23 w' wr.heap.size (fun _ => True) (.slice Ar n cr) vs) (hbel : Below w.heap.size w w') :
    Calls Try.prog 16 #[.pointer (some ⟨gB, 0, none⟩)] w' fun e w2 => e = .returned (.bool true) ∧ Below w.heap.size w w2 := by
  subst hn
  have hlo : ∀ q, 2 ≤ ApG.ownOf vs q → s1 ≤ q ∧ q < s6 := fun q hq => by
    obtain ⟨k, p, h1, h2⟩ := ApG.ownOf_two hq
    exact (hall k p h1).2 q h2
  refine (ApG.book_texts gB Ar cr w.heap.size (ApG.ownOf vs) vs w' (Lib.hid hB) (Lib.hid ?_) (Lib.hid ?_) hbel.size (by omega) (Lib.hid ?_) (Lib.hid ?_)).mono ?_
  · refine Kd.R_lower (base := wr.heap.size) (Kd.R_mono (Kd.R_bound hR) (fun q hq => ApG.ownOf_zero (fun k p h1 h2 => ?_))) (by omega)
    have h3 := (hall k p h1).2 q h2
    have h4 := hq.2.1
    omega
  · intro k p hp
    obtain ⟨⟨ys, h1, h2, h3⟩, h4⟩ := hall k p hp
    exact ⟨ys, h2, Kd.R_of_own (own_weaken (row_heap h1 hkeep) hsw) (fun q hq => ApG.ownOf_piece hdis hp hq)⟩
  · intro p hp
    obtain ⟨k, hk, rfl⟩ := List.mem_iff_getElem.1 hp
    obtain ⟨⟨ys, h1, h2, h3⟩, h4⟩ := hall k _ (List.getElem?_eq_getElem hk)
    omega
  · refine Nat.le_trans (ApG.start_bound (M := 16777216) (fun p hp => ?_) vs.length (Nat.le_refl _)) ?_
    · obtain ⟨k, hk, rfl⟩ := List.mem_iff_getElem.1 hp
      obtain ⟨⟨ys, h1, h2, h3⟩, h4⟩ := hall k _ (List.getElem?_eq_getElem hk)
      omega
    · have : vs.length * (16777216 + 9) ≤ 4194310 * (16777216 + 9) := Nat.mul_le_mul_right _ hlen
      omega
  · rintro e w2 ⟨rfl, o2⟩
    exact ⟨rfl, hbel.trans (o2.below (B := w.heap.size) hbel.size (fun q hq h => by have := (hlo q h).1; omega))⟩
end Go.Proofs.Ytlphpmdmlcphbaa.Or
