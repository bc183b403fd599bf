/- Seat A: lists of lists that have memory of their own, as pieces of a book. -/
import Derived.Test.YtdpoifaeimmdmaaSumKp1
namespace Go.Proofs.Ytdpoifaeimmdmaa.Kp
open Go.RowKit Go.Proofs.Ytdpoifaeimmdmaa.Mem Go.Proofs.YtdpoifaeimmdmaaW.PrintWords Go.Proofs.YtdpoifaeimmdmaaW.PrintLast Go.Proofs.YtdpoifaeimmdmaaW.PrintMore
open Go.Proofs.Ytdpoifaeimmdmaa.Ap Go.Proofs.Ytdpoifaeimmdmaa.Dk
set_option linter.unusedVariables false
set_option linter.unusedSimpArgs false
/-- Pieces, whose blocks lie in I, each its own. -/
def Seg (w : World) (lo : Nat) (I : Nat → Prop) (vs : List SL) : Prop :=
  ∃ f : Nat → Nat, ∀ (j : Nat) (p : SL), vs[j]? = some p → ∃ ys : List Int, ys.length = p.2.1 ∧ kB.R 5 w lo (fun q => I q ∧ f q = j) (.slice p.1 p.2.1 p.2.2) ys
theorem Seg.step {w w' : World} {lo : Nat} {I S : Nat → Prop} {vs : List SL} (h : Seg w lo I vs) (o : Only w w' S) (hs : ∀ q, I q → ¬ S q) : Seg w' lo I vs := by
  obtain ⟨f, hf⟩ := h
  refine ⟨f, fun j p hp => ?_⟩
  obtain ⟨ys, h1, h2⟩ := hf j p hp
  exact ⟨ys, h1, Kd.R_step h2 (fun k hk hlt => o.block k hlt (hs k hk.1))⟩
theorem Seg.below {w w' : World} {lo : Nat} {I : Nat → Prop} {vs : List SL} (h : Seg w lo I vs) (b : Below w.heap.size w w') : Seg w' lo I vs :=
  h.step (Only.of_below b (fun _ => False)) (fun _ _ h => h)
theorem Seg.lower {w : World} {lo lo' : Nat} {I : Nat → Prop} {vs : List SL} (h : Seg w lo I vs) (hl : lo' ≤ lo) : Seg w lo' I vs := by
  obtain ⟨f, hf⟩ := h
  refine ⟨f, fun j p hp => ?_⟩
  obtain ⟨ys, h1, h2⟩ := hf j p hp
  exact ⟨ys, h1, Kd.R_lower h2 hl⟩
open Classical in
theorem Seg.join {w : World} {lo : Nat} {I J : Nat → Prop} {vs us : List SL} (h : Seg w lo I vs) (k : Seg w lo J us) (hd : ∀ q, I q → J q → False) : Seg w lo (fun q => I q ∨ J q) (vs ++ us) := by
  obtain ⟨f, hf⟩ := h
  obtain ⟨g, hg⟩ := k
  refine ⟨fun q => if I q then f q else vs.length + g q, fun j p hp => ?_⟩
  by_cases hj : j < vs.length
  · rw [List.getElem?_append_left hj] at hp
    obtain ⟨ys, h1, h2⟩ := hf j p hp
    exact ⟨ys, h1, Kd.R_mono h2 (fun q hq => ⟨.inl hq.1, (if_pos hq.1).trans hq.2⟩)⟩
  · rw [List.getElem?_append_right (by omega)] at hp
    obtain ⟨ys, h1, h2⟩ := hg _ p hp
    exact ⟨ys, h1, Kd.R_mono h2 (fun q hq => ⟨.inr hq.1, (if_neg (fun hi => hd q hi hq.1)).trans (by rw [hq.2]; omega)⟩)⟩
theorem Seg.mono {w : World} {lo : Nat} {I J : Nat → Prop} {vs : List SL} (h : Seg w lo I vs) (hi : ∀ q, I q → J q) : Seg w lo J vs := by
  obtain ⟨f, hf⟩ := h
  refine ⟨f, fun j p hp => ?_⟩
  obtain ⟨ys, h1, h2⟩ := hf j p hp
  exact ⟨ys, h1, Kd.R_mono h2 (fun q hq => ⟨hi q hq.1, hq.2⟩)⟩
theorem Seg.one {w : World} {lo : Nat} {A : Option Addr} {c : Nat} {ys : List Int} (h : kB.R 5 w lo (fun _ => True) (.slice A ys.length c) ys) : Seg w lo (fun q => lo ≤ q ∧ q < w.heap.size) [(A, ys.length, c)] := by
  refine ⟨fun _ => 0, fun j p hp => ?_⟩
  match j, hp with
  | 0, hp =>
    simp at hp
    subst hp
    exact ⟨ys, rfl, Kd.R_mono (Kd.R_bound h) (fun q hq => ⟨⟨hq.2.1, hq.2.2.1⟩, rfl⟩)⟩
open Classical in
/-- What a book asks. -/
theorem Seg.pieces {w : World} {lo : Nat} {I : Nat → Prop} {vs : List SL} (h : Seg w lo I vs) : ∃ own0 : Nat → Nat, Pieces .u8 5 w lo own0 vs ∧ ∀ q, ¬ I q → own0 q = 0 := by
  obtain ⟨f, hf⟩ := h
  refine ⟨fun q => if I q then f q + 2 else 0, fun j p hp => ?_, fun q hq => if_neg hq⟩
  obtain ⟨ys, h1, h2⟩ := hf j p hp
  exact ⟨ys, h1, Kd.R_mono h2 (fun q hq => (if_pos hq.1).trans (by rw [hq.2]))⟩
theorem own_of_only {w w' : World} {own0 : Nat → Nat} {lo : Nat} (h : Only w w' (fun q => 2 ≤ own0 q)) (hl : lo ≤ w.heap.size) (ho : ∀ q, q < lo → own0 q = 0) : Below lo w w' := h.below hl (fun k hk => by rw [ho k hk]; omega)
/-- A list of lists: its elements as slices, and their pieces. -/
theorem parts {w : World} {lo : Nat} {v : Value} {xs : List (List Int)} (h : Kd.S kL 22 w lo (fun _ => True) v xs) :
    ∃ (A : Option Addr) (c : Nat) (vs : List SL), v = .slice A xs.length c ∧ xs.length ≤ c ∧ kL.C w A xs.length xs ∧ vs.length = xs.length ∧ slc.C w A xs.length vs ∧ Seg w lo (fun q => lo ≤ q ∧ q < w.heap.size) vs ∧ ∀ p ∈ vs, ∃ ys ∈ xs, p.2.1 = ys.length := by
  obtain ⟨A, c, rfl, hc, hC⟩ := Kd.R_reads (Kd.S_R h)
  obtain ⟨f, h0, inner, ho, hr⟩ := Kd.S_bound h
  rw [List.length_zipIdx] at ho
  have hlen : inner.length = xs.length := by have := hr.1; simp [Kd.tag, Kd.slice] at this; omega
  have hel : ∀ j : Fin xs.length, ∃ p : SL, inner[j.1]? = some (.slice p.1 p.2.1 p.2.2) ∧ p.2.1 = xs[j.1].length ∧ kB.R 5 w lo (fun q => (lo ≤ q ∧ q < w.heap.size) ∧ f q = j.1) (.slice p.1 p.2.1 p.2.2) xs[j.1] := by
    intro j
    have hj : xs.zipIdx[j.1]? = some (xs[j.1], j.1) := Kd.zip_at (List.getElem?_eq_getElem j.2)
    have hm := hr.2 j.1 _ hj
    obtain ⟨u, hu, hR⟩ := hm
    have hl2 : j.1 < inner.length := by rw [hlen]; exact j.2
    have hcell : inner[j.1]? = some u := by
      have h3 : (inner.drop (j.1 * 1)).take 1 = [u] := hu
      rw [Nat.mul_one, List.drop_eq_getElem_cons hl2] at h3
      have h5 := congrArg List.head? h3
      rw [List.take_succ_cons] at h5
      rw [List.getElem?_eq_getElem hl2]
      exact h5
    obtain ⟨A', c', rfl⟩ := Kd.R_slice hR
    exact ⟨(A', _, c'), hcell, rfl, Kd.R_mono hR (fun q hq => ⟨⟨hq.1.1.2.1, hq.1.1.2.2.1⟩, hq.2⟩)⟩
  obtain ⟨vs, hvl, hv⟩ : ∃ vs : List SL, vs.length = xs.length ∧ ∀ j (hj : j < xs.length), vs[j]? = some (Classical.choose (hel ⟨j, hj⟩)) := by
    refine ⟨List.ofFn fun j : Fin xs.length => Classical.choose (hel j), by simp, fun j hj => ?_⟩
    simp [List.getElem?_ofFn, hj]
  refine ⟨A, c, vs, rfl, hc, hC, hvl, ?_, ⟨f, fun j p hp => ?_⟩, fun p hp => ?_⟩
  · have he : inner = encs (fun p : SL => Value.slice p.1 p.2.1 p.2.2) vs := by
      apply List.ext_getElem?
      intro j
      by_cases hj : j < xs.length
      · have h1 := (Classical.choose_spec (hel ⟨j, hj⟩)).1
        simp only at h1
        rw [h1]
        simp [encs, hv j hj]
      · rw [List.getElem?_eq_none (by omega), List.getElem?_eq_none (by rw [encs_length]; omega)]
    have h9 : w.ownsRow lo 22 1 (.slice A xs.length c) xs.length inner := ho
    rw [he] at h9
    have := own_reads_of' (d := (none, 0, 0)) h9
    exact Kd.C_of_reads this
  · have hj : j < xs.length := by rw [← hvl]; exact (List.getElem?_eq_some_iff.1 hp).1
    rw [hv j hj] at hp
    have h1 := Classical.choose_spec (hel ⟨j, hj⟩)
    cases hp
    exact ⟨_, h1.2.1.symm, h1.2.2⟩
  · obtain ⟨j, hj, rfl⟩ := List.mem_iff_getElem.1 hp
    have hj' : j < xs.length := by rw [← hvl]; exact hj
    have h2 := hv j hj'
    rw [List.getElem?_eq_getElem hj] at h2
    have h1 := Classical.choose_spec (hel ⟨j, hj'⟩)
    refine ⟨xs[j], List.getElem_mem hj', ?_⟩
    rw [Option.some.inj h2]
    exact h1.2.1
end Go.Proofs.Ytdpoifaeimmdmaa.Kp
