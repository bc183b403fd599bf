/- Arguments of strings, slices and structs, opened by kinds, with what they weigh at most. -/
import Derived.Test.YtlphpmdmlcphbaaWWords
import Derived.Test.YtlphpmdmlcphbaaBulk
import Derived.OpenShut
import Derived.ChangeSlices
import Derived.SizedLaws
import Derived.Deep.Grids
namespace Go.Proofs.Ytlphpmdmlcphbaa.Upw
open Go.ChangeShapes Go.WideShapes Go.RowKit Go.Deep Go.Proofs.YtlphpmdmlcphbaaW.PrintWords Go.Proofs.Ytlphpmdmlcphbaa.bulks
set_option linter.unusedVariables false
set_option linter.unusedSimpArgs false
/-- What reads as data of type t is of kind d, and weighs no more. -/
def Opens (P : Program) (t : TypeId) {α : Type} (d : Kd α) (wt : α → Nat) : Prop := d.sz = P.cellsOf t ∧ ∀ (H : Type) (enc : TypeId × Value → H) (W : World) (fuel : Nat) (cs : List Value) (x : DataW H × List MemPlace),
  DataW.trod enc P W 0 (fun _ => true) true fuel t cs = some x → Rows.uptoBulk x.1 ≤ 1048576 → ∃ a, d.K W a cs ∧ wt a ≤ Rows.uptoBulk x.1
/-- The same of a struct's fields, from offset o on. -/
def OpensF (P : Program) (o : Nat) (fs : List Field) {α : Type} (d : Kd α) (wt : α → Nat) : Prop := ∀ (H : Type) (enc : TypeId × Value → H) (W : World) (n : Nat) (cs : List Value) (xs : List (DataW H × List MemPlace)),
  cs.length = d.sz → xs.length = fs.length → (∀ (i : Nat) (f : Field), fs[i]? = some f → DataW.trod enc P W 0 (fun _ => true) true n f.type ((cs.drop (f.offset - o)).take (P.cellsOf f.type)) = xs[i]?) →
  Rows.uptoBulkAll (xs.map (·.1)) ≤ 1048576 → ∃ a, d.K W a cs ∧ wt a ≤ Rows.uptoBulkAll (xs.map (·.1))
variable {P : Program} {t e : TypeId} {α β : Type}
theorem opens_string (ht : P.underlying t = some .string) (hc : P.cellsOf t = 1) : Opens P t Kd.string (fun s => s.size + 1) := by
  refine ⟨hc.symm, fun H enc W fuel cs x h _ => ?_⟩
  obtain ⟨s, rfl, rfl, hs⟩ := DataW.trod_string ht h
  refine ⟨s, rfl, ?_⟩
  dsimp only
  rw [string_eq]
  exact Nat.le_of_eq (by rw [Array.length_toList]; rfl)
/-- The rows of a slice. -/
theorem rows_of {d : Kd α} {wt : α → Nat} (ht : P.underlying t = some (.slice e)) (he : Opens P e d wt) (hp : 0 < P.bytesOf e) {H : Type} {enc : TypeId × Value → H} {W : World} {fuel : Nat} {cs : List Value} {x : DataW H × List MemPlace}
    (h : DataW.trod enc P W 0 (fun _ => true) true fuel t cs = some x) (hw : Rows.uptoBulk x.1 ≤ 1048576) :
    ∃ (A : Option Addr) (c : Nat) (l : List α), cs = [.slice A l.length c] ∧ l.length ≤ c ∧ d.C W A l.length l ∧ (l.map wt).sum + 1 ≤ Rows.uptoBulk x.1 ∧ l.length + 1 ≤ Rows.uptoBulk x.1 ∧ c ≤ maxLen := by
  rcases open_slice ht h with ⟨rfl, rfl⟩ | ⟨a, len, cap, m, n, D, Pl, rfl, hb, hl, hm, hmm, rfl, hx⟩
  · exact ⟨none, 0, [], rfl, Nat.le_refl _, ⟨rfl, by simp, fun h => absurd h (by simp)⟩, by simp [Rows.uptoBulk], by simp [Rows.uptoBulk], Nat.zero_le _⟩
  · simp only [if_true] at hmm
    subst hmm
    have hel : ∀ i, i < len → ∃ y, (∃ cs', W.cells? 0 (a.add (i * P.cellsOf e)) (P.cellsOf e) = some cs' ∧ d.K W y cs') ∧ wt y ≤ Rows.uptoBulk (D i) := by
      intro i hi
      obtain ⟨cs', h1, h2⟩ := hx i (by omega)
      obtain ⟨y, hy, hg⟩ := he.2 H enc W n cs' _ h2 (by
        refine Nat.le_trans (part_le (List.mem_map.2 ⟨i, List.mem_range.2 hi, rfl⟩)) (Nat.le_trans ?_ hw)
        exact Nat.le_trans (Nat.le_succ _) (slice_elems _ _))
      exact ⟨y, ⟨cs', h1, hy⟩, hg⟩
    obtain ⟨l, hlen, hl2, hws⟩ : ∃ l : List α, l.length = len ∧ (∀ i y, l[i]? = some y → (∃ cs', W.cells? 0 (a.add (i * P.cellsOf e)) (P.cellsOf e) = some cs' ∧ d.K W y cs')) ∧ (l.map wt).sum ≤ Rows.uptoBulkAll ((List.range len).map D) := by
      clear hx
      have : ∀ k, k ≤ len → ∃ l : List α, l.length = k ∧ (∀ i y, l[i]? = some y → (∃ cs', W.cells? 0 (a.add (i * P.cellsOf e)) (P.cellsOf e) = some cs' ∧ d.K W y cs')) ∧ (l.map wt).sum ≤ Rows.uptoBulkAll ((List.range k).map D) := by
        intro k
        induction k with
        | zero => intro _; exact ⟨[], rfl, fun i y hy => by simp at hy, by simp⟩
        | succ k ih =>
          intro hk
          obtain ⟨l, hl1, hl2, hl3⟩ := ih (by omega)
          obtain ⟨y, hy, hyw⟩ := hel k (by omega)
          refine ⟨l ++ [y], by simp [hl1], fun i z hz => ?_, ?_⟩
          · by_cases hi : i < l.length
            · rw [List.getElem?_append_left hi] at hz
              exact hl2 i z hz
            · rw [List.getElem?_append_right (by omega)] at hz
              by_cases h0 : i - l.length = 0
              · rw [h0] at hz
                simp at hz
                subst hz
                rw [show i = k by omega]
                exact hy
              · rw [List.getElem?_eq_none (by simp; omega)] at hz
                cases hz
          · rw [List.range_succ, List.map_append, List.map_append, List.sum_append, append]
            simp only [List.map_cons, List.map_nil, List.sum_cons, List.sum_nil, Rows.uptoBulkAll]
            omega
      exact this len (Nat.le_refl _)
    subst hlen
    have hse := slice_elems ((List.range l.length).map D) ((List.range (m - l.length)).map fun j => D (l.length + j))
    have hsl := slice_le ((List.range l.length).map D) ((List.range (m - l.length)).map fun j => D (l.length + j))
    rw [List.length_map, List.length_map, List.length_range, List.length_range] at hsl
    refine ⟨some a, m, l, rfl, hl, ⟨rfl, ?_, fun h => ⟨a, rfl, fun j p hj => ?_⟩⟩, by dsimp only; omega, by dsimp only; omega, hm⟩
    · dsimp only at hw; omega
    · obtain ⟨cs', h1, h2⟩ := hl2 j p hj
      obtain ⟨_, h4, h5⟩ := World.cells?_some h1
      rw [he.1]
      refine ⟨cs', h4, h2, fun i u hu => ?_⟩
      have hi : i < P.cellsOf e := by rw [← h4]; exact (List.getElem?_eq_some_iff.1 hu).1
      have := h5 i hi
      rw [← Addr.add_add, this]
      exact hu
theorem opens_slice {d : Kd α} {wt : α → Nat} (q : Nat) (ht : P.underlying t = some (.slice e)) (hc : P.cellsOf t = 1) (he : Opens P e d wt) (hp : 0 < P.bytesOf e) : Opens P t (Kd.slice q d) (fun l => (l.map wt).sum + 1) := by
  refine ⟨hc.symm, fun H enc W fuel cs x h hw => ?_⟩
  obtain ⟨A, c, l, rfl, h1, h2, h3, _, _⟩ := rows_of ht he hp h hw
  exact ⟨l, ⟨A, c, rfl, h1, h2⟩, h3⟩
theorem opensF_one {f : Field} {d : Kd α} {wt : α → Nat} {o : Nat} (ho : f.offset = o) (he : Opens P f.type d wt) : OpensF P o [f] d wt := by
  intro H enc W n cs xs hl hx hf hw
  have h0 := hf 0 f rfl
  match xs, hx with
  | [x], _ =>
    rw [ho, Nat.sub_self, List.drop_zero, List.take_of_length_le (by rw [hl, he.1]; exact Nat.le_refl _)] at h0
    obtain ⟨a, h1, h2⟩ := he.2 H enc W n cs x (by simpa using h0) (by have h9 := hw; simp only [List.map_cons, List.map_nil, Rows.uptoBulkAll] at h9; omega)
    refine ⟨a, h1, ?_⟩
    simp only [List.map_cons, List.map_nil, Rows.uptoBulkAll]
    omega
theorem opensF_cons {f : Field} {fs : List Field} {d1 : Kd α} {d2 : Kd β} {w1 : α → Nat} {w2 : β → Nat} {o : Nat} (ho : f.offset = o) (he : Opens P f.type d1 w1) (hr : OpensF P (o + d1.sz) fs d2 w2) (hoff : ∀ f' ∈ fs, o + d1.sz ≤ f'.offset) :
    OpensF P o (f :: fs) (Kd.pair d1 d2) (fun a => w1 a.1 + w2 a.2) := by
  intro H enc W n cs xs hl hx hf hw
  have hl' : cs.length = d1.sz + d2.sz := hl
  match xs, hx with
  | x :: xr, hx =>
    have h0 := hf 0 f rfl
    rw [ho, Nat.sub_self, List.drop_zero, ← he.1] at h0
    obtain ⟨a, ha, ga⟩ := he.2 H enc W n (cs.take d1.sz) x (by simpa using h0) (by have h9 := hw; simp only [List.map_cons, Rows.uptoBulkAll] at h9; omega)
    obtain ⟨b, hb, gb⟩ := hr H enc W n (cs.drop d1.sz) xr (by rw [List.length_drop]; omega) (by simpa using hx) (fun i f' hi => by
      have := hf (i + 1) f' hi
      have h2 := hoff f' (List.mem_of_getElem? hi)
      rw [List.drop_drop, show d1.sz + (f'.offset - (o + d1.sz)) = f'.offset - o by omega]
      exact this) (by have h9 := hw; simp only [List.map_cons, Rows.uptoBulkAll] at h9; omega)
    refine ⟨(a, b), ⟨_, _, (List.take_append_drop d1.sz cs).symm, ha, hb⟩, ?_⟩
    simp only [List.map_cons, Rows.uptoBulkAll]
    omega
theorem opens_struct {fs : Array Field} {d : Kd α} {wt : α → Nat} (ht : P.underlying t = some (.struct fs)) (hc : P.cellsOf t = d.sz) (hf : OpensF P 0 fs.toList d wt) : Opens P t d wt := by
  refine ⟨hc.symm, fun H enc W fuel cs x h hw => ?_⟩
  obtain ⟨xs, n, rfl, rfl, h1, h2, h3⟩ := DataW.trod_struct ht h
  obtain ⟨a, ha, hw⟩ := hf H enc W n cs xs (by rw [h1, hc]) (by rw [h2]; simp) (fun i f hi => by
    rw [Nat.sub_zero]
    exact h3 i f (by simpa using hi)) (by have h9 := hw; simp only [Rows.uptoBulk] at h9; omega)
  refine ⟨a, ha, ?_⟩
  simp only [Rows.uptoBulk]
  omega
end Go.Proofs.Ytlphpmdmlcphbaa.Upw
