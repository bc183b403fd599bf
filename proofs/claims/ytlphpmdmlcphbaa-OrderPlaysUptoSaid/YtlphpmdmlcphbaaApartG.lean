/- Lists of one-celled elements that have memory of their own: what stands of them while they are marked and grown (list k by 'mk k'). -/
import Derived.Test.YtlphpmdmlcphbaaApartLaw
import Derived.Test.YtlphpmdmlcphbaaOwn
namespace Go.Proofs.Ytlphpmdmlcphbaa.ApG
open Go.RowKit Go.Proofs.Ytlphpmdmlcphbaa.Mem Go.Proofs.YtlphpmdmlcphbaaW.PrintWords Go.Proofs.Ytlphpmdmlcphbaa.Dk
set_option linter.unusedVariables false
set_option linter.unusedSimpArgs false
/-- Slices, as values. -/
abbrev SL := Option Addr × Nat × Nat
abbrev slc : Kd SL := Kd.scalar (fun p : SL => Value.slice p.1 p.2.1 p.2.2) (fun _ => rfl)
abbrev val (p : SL) : Value := .slice p.1 p.2.1 p.2.2
/-- Each of them is a row of its own: list k belongs to k + 2. -/
def Pieces {α : Type} (d : Kd α) (e : TypeId) (w : World) (base : Nat) (own : Nat → Nat) (vs : List SL) : Prop :=
  ∀ k p, vs[k]? = some p → ∃ ys : List α, ys.length = p.2.1 ∧ d.R e w base (fun q => own q = k + 2) (val p) ys
/-- The lists that were grown: list k has nine entries more, 'mk k'; the list itself is their beginning. -/
def Grownup {α : Type} (d : Kd α) (e : TypeId) (w : World) (base : Nat) (own : Nat → Nat) (vs us : List SL) (mk : Nat → List α) : Prop :=
  ∀ k p u, vs[k]? = some p → us[k]? = some u → u.2.1 = p.2.1 + 9 ∧ (mk k).length = p.2.1 + 9 ∧ d.R e w base (fun q => own q = k + 2) (val u) (mk k) ∧ d.R e w base (fun q => own q = k + 2) (val p) ((mk k).take p.2.1)
section
variable {α : Type} {d : Kd α} {e te : TypeId} {w0 w w' : World} {base : Nat} {own0 own : Nat → Nat} {A : Option Addr} {cap : Nat} {vs : List SL} {G : Option Addr} {cG : Nat} {us : List SL} {mk : Nat → List α} {p : SL}
theorem Pieces.step (h : Pieces d e w base own vs) {S : Nat → Prop} (o : Only w w' S) (hs : ∀ q, 2 ≤ own q → ¬ S q) (j : Nat) : Pieces d e w' base (upd own w.heap.size j) vs := by
  intro k p hp
  obtain ⟨ys, hl, hr⟩ := h k p hp
  exact ⟨ys, hl, R_own_old hr o (fun q hq => hs q (by omega)) j⟩
/-- Behind an append to a row of list i (a block of i + 2, or a new one). -/
theorem Pieces.append {i : Nat} (h : Pieces d e w base own vs) (hp : vs[i]? = some p) {row : Option Nat} (o : Only w w' (fun k => some k = row)) (hrow : ∀ q, row = some q → own q = i + 2)
    (hk : ∀ ys : List α, ys.length = p.2.1 → d.R e w base (fun q => own q = i + 2) (val p) ys → d.R e w' base (fun q => own q = i + 2) (val p) ys) : Pieces d e w' base (upd own w.heap.size (i + 2)) vs := by
  intro k p' hp'
  obtain ⟨ys, hl, hr⟩ := h k p' hp'
  by_cases e0 : k = i
  · subst e0
    rw [hp] at hp'
    cases hp'
    exact ⟨ys, hl, R_own_mod (Kd.R_mono (hk ys hl hr) (fun q hq => .inl hq))⟩
  · exact ⟨ys, hl, R_own_old hr o (fun q hq e => by have := hrow q e.symm; omega) _⟩
theorem Grownup.step (h : Grownup d e w base own vs us mk) {S : Nat → Prop} (o : Only w w' S) (hs : ∀ q k, k < us.length → own q = k + 2 → ¬ S q) (j : Nat) : Grownup d e w' base (upd own w.heap.size j) vs us mk := by
  intro k p u hp hu
  obtain ⟨hl, hm, hr, hr2⟩ := h k p u hp hu
  have hk := (List.getElem?_eq_some_iff.1 hu).1
  exact ⟨hl, hm, R_own_old hr o (fun q hq => hs q k hk hq) j, R_own_old hr2 o (fun q hq => hs q k hk hq) j⟩
theorem Grownup.snoc {u : SL} (h : Grownup d e w base own vs us mk) (hp : vs[us.length]? = some p) (hl : u.2.1 = p.2.1 + 9) (hm : (mk us.length).length = p.2.1 + 9) (hr : d.R e w base (fun q => own q = us.length + 2) (val u) (mk us.length)) (hr2 : d.R e w base (fun q => own q = us.length + 2) (val p) ((mk us.length).take p.2.1)) :
    Grownup d e w base own vs (us ++ [u]) mk := by
  intro k p' u' hp' hu'
  by_cases e0 : k < us.length
  · rw [List.getElem?_append_left e0] at hu'
    exact h k p' u' hp' hu'
  · have hlt := (List.getElem?_eq_some_iff.1 hu').1
    simp at hlt
    obtain rfl : k = us.length := by omega
    rw [hp] at hp'
    cases hp'
    rw [List.getElem?_append_right (Nat.le_refl _)] at hu'
    simp at hu'
    subst hu'
    exact ⟨hl, hm, hr, hr2⟩
/-- What stands of the lists while they are marked and grown. -/
structure St (d : Kd α) (e te : TypeId) (w0 w : World) (base : Nat) (own0 own : Nat → Nat) (A : Option Addr) (cap : Nat) (vs : List SL) (G : Option Addr) (cG : Nat) (us : List SL) (mk : Nat → List α) : Prop where
  same : ∀ q, q < w0.heap.size → own q = own0 q
  spine : slc.R te w base (fun q => own q = 0) (.slice A vs.length cap) vs
  pieces : Pieces d e w base own vs
  grown : slc.R te w w0.heap.size (fun q => own q = 1) (.slice G us.length cG) us
  ups : Grownup d e w base own vs us mk
  only : Only w0 w (fun q => 2 ≤ own0 q)
theorem upd_same (hs : ∀ q, q < w0.heap.size → own q = own0 q) (hle : w0.heap.size ≤ w.heap.size) (j : Nat) : ∀ q, q < w0.heap.size → upd own w.heap.size j q = own0 q := fun q hq => by
  unfold upd
  rw [if_pos (Nat.lt_of_lt_of_le hq hle)]
  exact hs q hq
/-- List us.length has been marked. -/
theorem St.marked (h : St d e te w0 w base own0 own A cap vs G cG us mk) (hp : vs[us.length]? = some p) (o : Only w w' (fun q => own q = us.length + 2)) {ys : List α} (hy : ys.length = p.2.1) (hr : d.R e w' base (fun q => own q = us.length + 2) (val p) ys) : St d e te w0 w' base own0 own A cap vs G cG us mk := by
  refine ⟨h.same, Kd.R_step h.spine (fun q hq hlt => o.block q hlt (fun hh => by have hh : own q = us.length + 2 := hh; omega)), fun k p' hp' => ?_, Kd.R_step h.grown (fun q hq hlt => o.block q hlt (fun hh => by have hh : own q = us.length + 2 := hh; omega)), fun k p' u hp' hu => ?_, h.only.step o (fun q hq hh => by have hh : own q = us.length + 2 := hh; rw [← h.same q hq]; omega)⟩
  · by_cases e0 : k = us.length
    · subst e0
      rw [hp] at hp'
      cases hp'
      exact ⟨ys, hy, hr⟩
    · obtain ⟨zs, hz, hr'⟩ := h.pieces k p' hp'
      exact ⟨zs, hz, Kd.R_step hr' (fun q hq hlt => o.block q hlt (fun hh => by have hh : own q = us.length + 2 := hh; omega))⟩
  · obtain ⟨hl, hm, hr', hr2⟩ := h.ups k p' u hp' hu
    have hk := (List.getElem?_eq_some_iff.1 hu).1
    exact ⟨hl, hm, Kd.R_step hr' (fun q hq hlt => o.block q hlt (fun hh => by have hh : own q = us.length + 2 := hh; omega)), Kd.R_step hr2 (fun q hq hlt => o.block q hlt (fun hh => by have hh : own q = us.length + 2 := hh; omega))⟩
/-- One has been appended to the list that grows. -/
theorem St.append (h : St d e te w0 w base own0 own A cap vs G cG us mk) (hp : vs[us.length]? = some p) {row : Option Nat} (o : Only w w' (fun k => some k = row)) (hrow : ∀ q, row = some q → own q = us.length + 2)
    (hk : ∀ ys : List α, ys.length = p.2.1 → d.R e w base (fun q => own q = us.length + 2) (val p) ys → d.R e w' base (fun q => own q = us.length + 2) (val p) ys) : St d e te w0 w' base own0 (upd own w.heap.size (us.length + 2)) A cap vs G cG us mk :=
  ⟨upd_same h.same h.only.size _, R_own_old h.spine o (fun q hq hh => by have := hrow q hh.symm; omega) _, h.pieces.append hp o hrow hk, R_own_old h.grown o (fun q hq hh => by have := hrow q hh.symm; omega) _, h.ups.step o (fun q k hk hq hh => by have := hrow q hh.symm; omega) _, h.only.step o (fun q hq hh => by have := hrow q hh.symm; rw [← h.same q hq]; omega)⟩
/-- New blocks alone: they are nobody's (3: none of 0, 1, list us.length). -/
theorem St.below (h : St d e te w0 w base own0 own A cap vs G cG us mk) (hb : Below w.heap.size w w') : St d e te w0 w' base own0 own A cap vs G cG us mk :=
  ⟨h.same, Kd.R_below h.spine hb, fun k p hp => by obtain ⟨ys, hl, hr⟩ := h.pieces k p hp; exact ⟨ys, hl, Kd.R_below hr hb⟩, Kd.R_below h.grown hb,
    fun k p u hp hu => by obtain ⟨hl, hm, h1, h2⟩ := h.ups k p u hp hu; exact ⟨hl, hm, Kd.R_below h1 hb, Kd.R_below h2 hb⟩, h.only.step (Only.of_below hb (fun _ => False)) (fun _ _ hh => hh.elim)⟩
/-- It has been put behind the others. -/
theorem St.snoc {G' : Option Addr} {cG' : Nat} {u : SL} (h : St d e te w0 w base own0 own A cap vs G cG us mk) (hp : vs[us.length]? = some p) (hl : u.2.1 = p.2.1 + 9) (hm : (mk us.length).length = p.2.1 + 9) (hr : d.R e w base (fun q => own q = us.length + 2) (val u) (mk us.length)) (hr2 : d.R e w base (fun q => own q = us.length + 2) (val p) ((mk us.length).take p.2.1))
    (hg : w.grownBy w' (Value.ownBlock (.slice G us.length cG))) (hR : slc.R te w' w0.heap.size (fun q => own q = 1 ∨ w.heap.size ≤ q) (.slice G' (us.length + 1) cG') (us ++ [u])) : St d e te w0 w' base own0 (upd own w.heap.size 1) A cap vs G' cG' (us ++ [u]) mk := by
  have hrow : ∀ q, some q = Value.ownBlock (.slice G us.length cG) → own q = 1 := fun q hq => h.grown.1 q hq.symm
  have o := Only.of_grown hg
  refine ⟨upd_same h.same h.only.size _, R_own_old h.spine o (fun q hq hh => by have := hrow q hh; omega) _, h.pieces.step o (fun q hq hh => by have := hrow q hh; omega) _, by rw [List.length_append]; exact R_own_mod hR, Grownup.snoc (h.ups.step o (fun q k hk hq hh => by have := hrow q hh; omega) _) hp hl hm (R_own_old hr o (fun q hq hh => by have := hrow q hh; omega) _) (R_own_old hr2 o (fun q hq hh => by have := hrow q hh; omega) _), h.only.step o (fun q hq hh => ?_)⟩
  have := Kd.R_base h.grown q hh.symm
  omega
/-- Where each list's marks begin. -/
def start (vs : List SL) : Nat → Nat
  | 0 => 0
  | k + 1 => start vs k + ((vs[k]?).getD (none, 0, 0)).2.1 + 9
theorem start_succ {k : Nat} (h : vs[k]? = some p) : start vs (k + 1) = start vs k + p.2.1 + 9 := by rw [start, h]; rfl
/-- The marks of list k: f at the numbers from its start on. -/
def marks (f : Nat → α) (vs : List SL) (k : Nat) : List α := (List.range (((vs[k]?).getD (none, 0, 0)).2.1 + 9)).map fun j => f (start vs k + j)
theorem marks_len {f : Nat → α} {k : Nat} (h : vs[k]? = some p) : (marks f vs k).length = p.2.1 + 9 := by simp [marks, h]
theorem marks_get {f : Nat → α} {k j : Nat} (h : vs[k]? = some p) (hj : j < p.2.1 + 9) : (marks f vs k)[j]? = some (f (start vs k + j)) := by simp [marks, h, hj]
theorem marks_take_set {f : Nat → α} {k j : Nat} {ys : List α} (h : vs[k]? = some p) (hy : ys.length = p.2.1) (hj : j < p.2.1) : ((marks f vs k).take j ++ ys.drop j).set j (f (start vs k + j)) = (marks f vs k).take (j + 1) ++ ys.drop (j + 1) := by
  have hl := marks_len (f := f) h
  have e : ys.drop j = ys[j] :: ys.drop (j + 1) := List.drop_eq_getElem_cons (by omega)
  have hlt : ((marks f vs k).take j).length = j := by rw [List.length_take]; omega
  rw [List.set_append_right _ _ (by omega), e, hlt, Nat.sub_self, List.set_cons_zero, List.take_succ_eq_append_getElem (by omega), List.append_assoc]
  have := marks_get (f := f) h (show j < p.2.1 + 9 by omega)
  rw [List.getElem?_eq_getElem (by omega)] at this
  rw [Option.some.inj this]
  rfl
theorem marks_snoc {f : Nat → α} {k j : Nat} (h : vs[k]? = some p) (hj : j < p.2.1 + 9) : (marks f vs k).take j ++ [f (start vs k + j)] = (marks f vs k).take (j + 1) := by
  have hl := marks_len (f := f) h
  have := marks_get (f := f) h hj
  rw [List.take_succ_eq_append_getElem (by omega)]
  rw [List.getElem?_eq_getElem (by omega)] at this
  rw [Option.some.inj this]
end
end Go.Proofs.Ytlphpmdmlcphbaa.ApG
