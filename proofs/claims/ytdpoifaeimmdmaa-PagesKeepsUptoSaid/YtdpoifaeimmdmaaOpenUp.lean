/- Arguments of whatever shape (numbers, bools, strings, slices, structs), opened by kinds, where the bulk is bounded. -/
import Derived.Test.YtdpoifaeimmdmaaWWords
import Derived.Test.YtdpoifaeimmdmaaBulk
import Derived.OpenShut
import Derived.ChangeSlices
import Derived.SizedLaws
import Derived.Deep.Grids
namespace Go.Proofs.Ytdpoifaeimmdmaa.Up
open Go.ChangeShapes Go.WideShapes Go.RowKit Go.Deep Go.Proofs.YtdpoifaeimmdmaaW.PrintWords Go.Proofs.Ytdpoifaeimmdmaa.bulks
set_option linter.unusedVariables false
set_option linter.unusedSimpArgs false
/-- What reads as data of type t, and weighs no more than is bounded, is of kind d, and good. -/
def Opens (P : Program) (t : TypeId) {α : Type} (d : Kd α) (good : α → Prop) : Prop := d.sz = P.cellsOf t ∧ ∀ (H : Type) (enc : TypeId × Value → H) (W : World) (fuel : Nat) (cs : List Value) (x : DataW H × List MemPlace),
  DataW.trod enc P W 0 (fun _ => true) true fuel t cs = some x → Rows.uptoBulk x.1 ≤ 1048576 → ∃ a, d.K W a cs ∧ good a
/-- The same of a struct's fields, from offset o on. -/
def OpensF (P : Program) (o : Nat) (fs : List Field) {α : Type} (d : Kd α) (good : α → Prop) : Prop := ∀ (H : Type) (enc : TypeId × Value → H) (W : World) (n : Nat) (cs : List Value) (xs : List (DataW H × List MemPlace)),
  cs.length = d.sz → xs.length = fs.length → (∀ (i : Nat) (f : Field), fs[i]? = some f → DataW.trod enc P W 0 (fun _ => true) true n f.type ((cs.drop (f.offset - o)).take (P.cellsOf f.type)) = xs[i]?) →
  Rows.uptoBulkAll (xs.map (·.1)) ≤ 1048576 → ∃ a, d.K W a cs ∧ good a
variable {P : Program} {t e : TypeId} {α β : Type}
theorem opens_int {k : IntKind} (ht : P.underlying t = some (.int k)) (hc : P.cellsOf t = 1) : Opens P t (Kd.int k) (fun a => (Lit.int k a).wf = true) := by
  refine ⟨hc.symm, fun H enc W fuel cs x h _ => ?_⟩
  obtain ⟨n, rfl, rfl, hw⟩ := DataW.trod_int ht h
  exact ⟨n, rfl, hw⟩
theorem opens_bool (ht : P.underlying t = some .bool) (hc : P.cellsOf t = 1) : Opens P t Kd.bool (fun _ => True) := by
  refine ⟨hc.symm, fun H enc W fuel cs x h _ => ?_⟩
  obtain ⟨n, rfl, rfl⟩ := DataW.trod_bool ht h
  exact ⟨n, rfl, trivial⟩
/-- The rows of a slice. -/
theorem rows_of {d : Kd α} {good : α → Prop} (ht : P.underlying t = some (.slice e)) (he : Opens P e d good) (hp : 0 < P.bytesOf e) {H : Type} {enc : TypeId × Value → H} {W : World} {fuel : Nat} {cs : List Value} {x : DataW H × List MemPlace}
    (h : DataW.trod enc P W 0 (fun _ => true) true fuel t cs = some x) (hw : Rows.uptoBulk x.1 ≤ 1048576) :
    ∃ (A : Option Addr) (c : Nat) (l : List α), cs = [.slice A l.length c] ∧ l.length ≤ c ∧ d.C W A l.length l ∧ l.length ≤ 1048576 ∧ ∀ a ∈ l, good a := by
  rcases open_slice ht h with ⟨rfl, rfl⟩ | ⟨a, len, cap, m, n, D, Pl, rfl, hb, hl, hm, hmm, rfl, hx⟩
  · exact ⟨none, 0, [], rfl, Nat.le_refl _, ⟨rfl, by simp, fun h => absurd h (by simp)⟩, by simp, fun a ha => by cases ha⟩
  · simp only [if_true] at hmm
    subst hmm
    have hel : ∀ i, i < len → ∃ y, (∃ cs', W.cells? 0 (a.add (i * P.cellsOf e)) (P.cellsOf e) = some cs' ∧ d.K W y cs') ∧ good y := by
      intro i hi
      obtain ⟨cs', h1, h2⟩ := hx i (by omega)
      obtain ⟨y, hy, hg⟩ := he.2 H enc W n cs' _ h2 (by
        refine Nat.le_trans (part_le (List.mem_map.2 ⟨i, List.mem_range.2 hi, rfl⟩)) (Nat.le_trans ?_ hw)
        exact Nat.le_trans (Nat.le_succ _) (slice_elems _ _))
      exact ⟨y, ⟨cs', h1, hy⟩, hg⟩
    obtain ⟨l, hlen, hl2⟩ : ∃ l : List α, l.length = len ∧ ∀ i y, l[i]? = some y → (∃ cs', W.cells? 0 (a.add (i * P.cellsOf e)) (P.cellsOf e) = some cs' ∧ d.K W y cs') ∧ good y := by
      clear hx
      have : ∀ k, k ≤ len → ∃ l : List α, l.length = k ∧ ∀ i y, l[i]? = some y → (∃ cs', W.cells? 0 (a.add (i * P.cellsOf e)) (P.cellsOf e) = some cs' ∧ d.K W y cs') ∧ good y := by
        intro k
        induction k with
        | zero => intro _; exact ⟨[], rfl, fun i y hy => by simp at hy⟩
        | succ k ih =>
          intro hk
          obtain ⟨l, hl1, hl2⟩ := ih (by omega)
          obtain ⟨y, hy⟩ := hel k (by omega)
          refine ⟨l ++ [y], by simp [hl1], fun i z hz => ?_⟩
          by_cases hi : i < l.length
          · rw [List.getElem?_append_left hi] at hz
            exact hl2 i z hz
          · rw [List.getElem?_append_right (by omega)] at hz
            by_cases h0 : i - l.length = 0
            · rw [h0] at hz
              simp at hz
              subst hz
              rw [show i = k by omega]
              exact hy
            · rw [List.getElem?_eq_none (by simp; omega)] at hz
              cases hz
      exact this len (Nat.le_refl _)
    subst hlen
    have hwt : l.length ≤ 1048576 := by
      have h9 := Nat.le_trans (slice_le _ _) hw
      simp only [List.length_map, List.length_range] at h9
      omega
    refine ⟨some a, m, l, rfl, hl, ⟨rfl, ?_, fun h => ⟨a, rfl, fun j p hj => ?_⟩⟩, hwt, fun y hy => ?_⟩
    · omega
    · obtain ⟨⟨cs', h1, h2⟩, _⟩ := hl2 j p hj
      obtain ⟨_, h4, h5⟩ := World.cells?_some h1
      rw [he.1]
      refine ⟨cs', h4, h2, fun i u hu => ?_⟩
      have hi : i < P.cellsOf e := by rw [← h4]; exact (List.getElem?_eq_some_iff.1 hu).1
      have := h5 i hi
      rw [← Addr.add_add, this]
      exact hu
    · obtain ⟨i, hi, rfl⟩ := List.mem_iff_getElem.1 hy
      exact (hl2 i _ (List.getElem?_eq_getElem hi)).2
theorem opens_slice {d : Kd α} {good : α → Prop} (q : Nat) (ht : P.underlying t = some (.slice e)) (hc : P.cellsOf t = 1) (he : Opens P e d good) (hp : 0 < P.bytesOf e) : Opens P t (Kd.slice q d) (fun l => l.length ≤ 1048576 ∧ ∀ a ∈ l, good a) := by
  refine ⟨hc.symm, fun H enc W fuel cs x h hw => ?_⟩
  obtain ⟨A, c, l, rfl, h1, h2, h3, h4⟩ := rows_of ht he hp h hw
  exact ⟨l, ⟨A, c, rfl, h1, h2⟩, h3, h4⟩
theorem opensF_one {f : Field} {d : Kd α} {good : α → Prop} {o : Nat} (ho : f.offset = o) (he : Opens P f.type d good) : OpensF P o [f] d good := by
  intro H enc W n cs xs hl hx hf hw
  have h0 := hf 0 f rfl
  match xs, hx with
  | [x], _ =>
    rw [ho, Nat.sub_self, List.drop_zero, List.take_of_length_le (by rw [hl, he.1]; exact Nat.le_refl _)] at h0
    exact he.2 H enc W n cs x (by simpa using h0) (by have h9 := hw; simp only [List.map_cons, List.map_nil, Rows.uptoBulkAll] at h9; omega)
theorem opensF_cons {f : Field} {fs : List Field} {d1 : Kd α} {d2 : Kd β} {g1 : α → Prop} {g2 : β → Prop} {o : Nat} (ho : f.offset = o) (he : Opens P f.type d1 g1) (hr : OpensF P (o + d1.sz) fs d2 g2) (hoff : ∀ f' ∈ fs, o + d1.sz ≤ f'.offset) :
    OpensF P o (f :: fs) (Kd.pair d1 d2) (fun a => g1 a.1 ∧ g2 a.2) := by
  intro H enc W n cs xs hl hx hf hw
  have hl' : cs.length = d1.sz + d2.sz := hl
  match xs, hx with
  | x :: xr, hx =>
    have h0 := hf 0 f rfl
    rw [ho, Nat.sub_self, List.drop_zero, ← he.1] at h0
    obtain ⟨a, ha, ga⟩ := he.2 H enc W n (cs.take d1.sz) x (by simpa using h0) (by have h9 := hw; simp only [List.map_cons, Rows.uptoBulkAll] at h9; omega)
    obtain ⟨b, hb, gb⟩ := hr H enc W n (cs.drop d1.sz) xr (by rw [List.length_drop]; omega) (by simpa using hx) (fun i f' hi => by
      have := hf (i + 1) f' hi
      have h2 := hoff f' (List.mem_of_getElem? hi)
      rw [List.drop_drop, show d1.sz + (f'.offset - (o + d1.sz)) = f'.offset - o by omega]
      exact this) (by have h9 := hw; simp only [List.map_cons, Rows.uptoBulkAll] at h9; omega)
    exact ⟨(a, b), ⟨_, _, (List.take_append_drop d1.sz cs).symm, ha, hb⟩, ga, gb⟩
theorem opens_struct {fs : Array Field} {d : Kd α} {good : α → Prop} (ht : P.underlying t = some (.struct fs)) (hc : P.cellsOf t = d.sz) (hf : OpensF P 0 fs.toList d good) : Opens P t d good := by
  refine ⟨hc.symm, fun H enc W fuel cs x h hw => ?_⟩
  obtain ⟨xs, n, rfl, rfl, h1, h2, h3⟩ := DataW.trod_struct ht h
  refine hf H enc W n cs xs (by rw [h1, hc]) (by rw [h2]; simp) (fun i f hi => ?_) (by have h9 := hw; simp only [Rows.uptoBulk] at h9; omega)
  rw [Nat.sub_zero]
  exact h3 i f (by simpa using hi)
end Go.Proofs.Ytdpoifaeimmdmaa.Up
