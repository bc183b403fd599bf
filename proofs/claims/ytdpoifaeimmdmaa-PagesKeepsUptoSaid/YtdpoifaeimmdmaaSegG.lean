/- Pieces of a book, of whatever elements of one cell. -/
import Derived.Test.YtdpoifaeimmdmaaApartI
import Derived.Test.YtdpoifaeimmdmaaApartN
namespace Go.Proofs.Ytdpoifaeimmdmaa.ApG
open Go.RowKit Go.Proofs.Ytdpoifaeimmdmaa.Mem Go.Proofs.YtdpoifaeimmdmaaW.PrintWords Go.Proofs.YtdpoifaeimmdmaaW.PrintMore Go.Proofs.YtdpoifaeimmdmaaW.PrintLast Go.Proofs.Ytdpoifaeimmdmaa.Dk
set_option linter.unusedVariables false
set_option linter.unusedSimpArgs false
/-- Pieces, whose blocks lie in I, each its own. -/
def Seg {α : Type} (d : Kd α) (e : TypeId) (w : World) (lo : Nat) (I : Nat → Prop) (vs : List SL) : Prop :=
  ∃ f : Nat → Nat, ∀ (j : Nat) (p : SL), vs[j]? = some p → ∃ ys : List α, ys.length = p.2.1 ∧ d.R e w lo (fun q => I q ∧ f q = j) (val p) ys
section
variable {α : Type} {d : Kd α} {e : TypeId} {w w' : World} {lo lo' : Nat} {I J S : Nat → Prop} {vs us : List SL}
theorem Seg.step (h : Seg d e w lo I vs) (o : Only w w' S) (hs : ∀ q, I q → ¬ S q) : Seg d e w' lo I vs := by
  obtain ⟨f, hf⟩ := h
  refine ⟨f, fun j p hp => ?_⟩
  obtain ⟨ys, h1, h2⟩ := hf j p hp
  exact ⟨ys, h1, Kd.R_step h2 (fun k hk hlt => o.block k hlt (hs k hk.1))⟩
theorem Seg.below (h : Seg d e w lo I vs) (b : Below w.heap.size w w') : Seg d e w' lo I vs := h.step (Only.of_below b (fun _ => False)) (fun _ _ h => h)
theorem Seg.lower (h : Seg d e w lo I vs) (hl : lo' ≤ lo) : Seg d e w lo' I vs := by
  obtain ⟨f, hf⟩ := h
  refine ⟨f, fun j p hp => ?_⟩
  obtain ⟨ys, h1, h2⟩ := hf j p hp
  exact ⟨ys, h1, Kd.R_lower h2 hl⟩
open Classical in
theorem Seg.join (h : Seg d e w lo I vs) (k : Seg d e w lo J us) (hd : ∀ q, I q → J q → False) : Seg d e w lo (fun q => I q ∨ J q) (vs ++ us) := by
  obtain ⟨f, hf⟩ := h
  obtain ⟨g, hg⟩ := k
  refine ⟨fun q => if I q then f q else vs.length + g q, fun j p hp => ?_⟩
  by_cases hj : j < vs.length
  · rw [List.getElem?_append_left hj] at hp
    obtain ⟨ys, h1, h2⟩ := hf j p hp
    exact ⟨ys, h1, Kd.R_mono h2 (fun q hq => ⟨.inl hq.1, (if_pos hq.1).trans hq.2⟩)⟩
  · rw [List.getElem?_append_right (by omega)] at hp
    obtain ⟨ys, h1, h2⟩ := hg _ p hp
    exact ⟨ys, h1, Kd.R_mono h2 (fun q hq => ⟨.inr hq.1, (if_neg (fun hi => hd q hi hq.1)).trans (by rw [hq.2]; omega)⟩)⟩
theorem Seg.one {A : Option Addr} {n c : Nat} {ys : List α} (h : d.R e w lo (fun _ => True) (.slice A n c) ys) : Seg d e w lo (fun q => lo ≤ q ∧ q < w.heap.size) [(A, n, c)] := by
  refine ⟨fun _ => 0, fun j p hp => ?_⟩
  match j, hp with
  | 0, hp =>
    simp at hp
    subst hp
    exact ⟨ys, (Kd.R_reads' h).1.symm, Kd.R_mono (Kd.R_bound h) (fun q hq => ⟨⟨hq.2.1, hq.2.2.1⟩, rfl⟩)⟩
theorem Seg.nil (d : Kd α) (e : TypeId) (w : World) (lo : Nat) : Seg d e w lo (fun _ => False) [] := ⟨fun _ => 0, fun j p hp => by simp at hp⟩
open Classical in
theorem Seg.pieces (h : Seg d e w lo I vs) : ∃ own0 : Nat → Nat, Pieces d e w lo own0 vs ∧ (∀ q, ¬ I q → own0 q = 0) := by
  obtain ⟨f, hf⟩ := h
  refine ⟨fun q => if I q then f q + 2 else 0, fun j p hp => ?_, fun q hq => if_neg hq⟩
  obtain ⟨ys, h1, h2⟩ := hf j p hp
  exact ⟨ys, h1, Kd.R_mono h2 (fun q hq => (if_pos hq.1).trans (by rw [hq.2]))⟩
end
/-- apartInts, apartBytes over pieces of a book. -/
theorem ints_seg (A : Option Addr) (cap base : Nat) (I : Nat → Prop) (vs : List SL) (w : World) (hS : slc.R 38 w base (fun q => ¬ I q) (.slice A vs.length cap) vs) (hP : Seg kI 3 w base I vs) (hb : base ≤ w.heap.size) (hn : vs.length * 24 ≤ 140737488355328) (hl : ∀ p ∈ vs, (p.2.1 + 9) * 8 ≤ 140737488355328) (hT : start vs vs.length ≤ 1152921504606846976) :
    Calls Try.prog 43 #[.slice A vs.length cap] w fun e w' => e = .returned (.bool true) ∧ Only w w' I := by
  obtain ⟨own0, h1, h2⟩ := hP.pieces
  exact (apartInts_any A cap base own0 vs w (Lib.hid (Kd.R_mono hS (fun q hq => h2 q hq))) (Lib.hid h1) hb hn (Lib.hid hl) (Lib.hid hT)).mono fun e w' ⟨a, b⟩ => ⟨a, b.mono (fun k _ hk => Classical.byContradiction fun hI => by rw [h2 k hI] at hk; omega)⟩
theorem bytes_seg (A : Option Addr) (cap base : Nat) (I : Nat → Prop) (vs : List SL) (w : World) (hS : slc.R 22 w base (fun q => ¬ I q) (.slice A vs.length cap) vs) (hP : Seg (Kd.int .u8) 5 w base I vs) (hb : base ≤ w.heap.size) (hn : vs.length * 24 ≤ 140737488355328) (hl : ∀ p ∈ vs, p.2.1 + 9 ≤ 140737488355328) :
    Calls Try.prog 45 #[.slice A vs.length cap] w fun e w' => e = .returned (.bool true) ∧ Only w w' I := by
  obtain ⟨own0, h1, h2⟩ := hP.pieces
  exact (Ap.apartBytes_any A cap base own0 vs w (Lib.hid (Kd.R_mono hS (fun q hq => h2 q hq))) (Lib.hid h1) hb hn (Lib.hid hl)).mono fun e w' ⟨a, b⟩ => ⟨a, b.mono (fun k _ hk => Classical.byContradiction fun hI => by rw [h2 k hI] at hk; omega)⟩
set_option maxHeartbeats 4000000 in
set_option maxRecDepth 100000 in
/-- A book of lists of numbers and of lists of bytes. -/
theorem book_ib (gB : Nat) (A A' : Option Addr) (cap cap' base : Nat) (I J : Nat → Prop) (vs us : List SL) (w : World) (hB : Hid (Blk w gB 54 [.slice A vs.length cap, .slice none 0 0, .slice A' us.length cap', .slice none 0 0])) (hI : Hid (¬ I gB)) (hJ : Hid (¬ J gB)) (hd : Hid (∀ q, I q → J q → False))
    (hS : Hid (slc.R 38 w base (fun q => ¬ I q) (.slice A vs.length cap) vs)) (hP : Hid (Seg kI 3 w base I vs)) (hb : base ≤ w.heap.size) (hn : vs.length * 24 ≤ 140737488355328) (hl : Hid (∀ p ∈ vs, (p.2.1 + 9) * 8 ≤ 140737488355328)) (hT : Hid (start vs vs.length ≤ 1152921504606846976))
    (hS' : Hid (slc.R 22 w base (fun q => ¬ I q ∧ ¬ J q) (.slice A' us.length cap') us)) (hP' : Hid (Seg (Kd.int .u8) 5 w base J us)) (hn' : us.length * 24 ≤ 140737488355328) (hl' : Hid (∀ p ∈ us, p.2.1 + 9 ≤ 140737488355328)) :
    Calls Try.prog 31 #[.pointer (some ⟨gB, 0, none⟩)] w fun e w' => e = .returned (.bool true) ∧ Only w w' (fun q => I q ∨ J q) := by
  have h0 := hB.out.cell_at 0 _ rfl
  have h1 := hB.out.cell_at 1 _ rfl
  have cI := ints_seg A cap base I vs w hS.out hP.out hb hn hl.out hT.out
  have CI := Lib.hid cI
  clear cI
  go_enter Try.func31, Try.ntmps31
  go_wp2_with fail
  (go_at_call 43; refine CI.out.mono ?_; rintro e w1 ⟨rfl, o1⟩)
  have hB1 := hB.out.keep o1 hI.out
  have h2 := hB1.cell_at 1 _ rfl
  have h3 := hB1.cell_at 2 _ rfl
  have h4 := hB1.cell_at 3 _ rfl
  have hsz := o1.size
  have cJ := bytes_seg A' cap' base J us w1 (Kd.R_mono (Kd.R_step hS'.out (fun k hk hlt => o1.block k hlt hk.1)) (fun q hq => hq.2)) (hP'.out.step o1 (fun q hq hi => hd.out q hi hq)) (by omega) hn' hl'.out
  have CJ := Lib.hid cJ
  have HB1 := Lib.hid hB1
  have O1 := Lib.hid o1
  clear cJ hB1 o1 h0 h1
  go_wp2_with (first
    | (go_at_call 44; refine (Ap.apartWords_nil _).mono ?_; rintro e w2 ⟨rfl, rfl⟩)
    | (go_at_call 45; refine CJ.out.mono ?_; rintro e w2 ⟨rfl, o2⟩; have O2 := Lib.hid o2; have h5 := (HB1.out.keep o2 hJ.out).cell_at 3 _ rfl; clear o2)
    | (go_at_call 46; refine (Ap.apartTexts_nil _).mono ?_; rintro e w3 ⟨rfl, rfl⟩)
    | fail)
  go_ret
  exact ⟨rfl, (O1.out.mono (fun _ _ h => .inl h)).step (O2.out.mono (fun _ _ h => .inr h)) (fun _ _ h => h)⟩
end Go.Proofs.Ytdpoifaeimmdmaa.ApG
