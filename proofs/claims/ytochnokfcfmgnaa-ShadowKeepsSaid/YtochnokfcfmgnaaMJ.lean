/- Texts merged: a section each. -/
import Derived.Test.YtochnokfcfmgnaaMA
import Derived.Test.YtochnokfcfmgnaaMV
import Derived.ArgAppend
import Derived.Test.YtochnokfcfmgnaaRows
import Derived.Test.YtochnokfcfmgnaaMW
section
/- append of one to a row of one's own: every row that is no longer than it stays, those that share its block too. -/
namespace Go.Proofs.Ytochnokfcfmgnaa.Mem
open Go.RowKit Go.Proofs.YtochnokfcfmgnaaW.PrintWords
set_option linter.unusedVariables false
set_option linter.unusedSimpArgs false
section
variable {α : Type} {enc : α → Value} {h1 : ∀ x, (enc x).oneCell' = true}
/-- A store behind a row, or in another block, leaves it. -/
theorem R_far_set {e : Nat} {w : World} {base : Nat} {ok : Nat → Prop} {v : Value} {ys : List α} (h : (Kd.scalar enc h1).R e w base ok v ys) (g n : Nat) (u : Value) (hn : ys.length ≤ n ∨ some g ≠ v.ownBlock) :
    (Kd.scalar enc h1).R e (w.setCell ⟨g, n, none⟩ u) base ok v ys := by
  have ho := Kd.own_of_R h
  refine Kd.R_of_own ⟨ho.1, ?_⟩ h.1
  rcases ho.2 with ⟨rfl, h0⟩ | ⟨g0, cap, cur, rfl, hb, hh, hl, hm, hs, ht⟩
  · exact .inl ⟨rfl, h0⟩
  · by_cases e0 : g0 = g
    · subst e0
      have hn' : ys.length ≤ n := by
        rcases hn with hn | hn
        · exact hn
        · exact absurd rfl hn
      refine .inr ⟨g0, cap, (cur.toList.set n u).toArray, rfl, hb, ?_, hl, hm, by simp; simpa using hs, ?_⟩
      · have hB : Blk w g0 e cur.toList := by unfold Blk; simpa using hh
        exact hB.set_ n u
      · rw [Nat.mul_one] at ht ⊢
        rw [List.take_set_of_le hn']
        exact ht
    · refine .inr ⟨g0, cap, cur, rfl, hb, ?_, hl, hm, hs, ht⟩
      rw [Below.heap_setCell w ⟨g, n, none⟩ u g0 e0]
      exact hh
theorem append_keeps {P : Program} {ops : Array Oper} {rest : List Oper} {o : Oper} {a : Act} {Q : Exit → Act → World → Prop} (hgd : o.guard = none) (s x : Operand) (t e : TypeId) (z : Value) (bytes : Nat)
    (ho : o.op = .call { callee := .builtin .append, args := #[s, x], argTypes := #[t, t] }) (ht : P.underlying t = some (.slice e))
    (hinfo : (P.info? e).map (fun i => (i.zero, i.size, i.bytes)) = some (some z, 1, bytes)) (hz : z.cells.size = 1) (hb0 : 0 < bytes) (W : World) (base : Nat) (v : Value) (xs : List α) (p : α) (ok : Nat → Prop)
    (hs : a.eval s = v) (hx : a.eval x = .slice (some ⟨W.heap.size, 0, none⟩) 1 1) (HO : (Kd.scalar enc h1).R e W base ok v xs) (hbase : base ≤ W.heap.size) (hl : (xs.length + 1) * bytes ≤ 140737488355328)
    (h : ∀ v1 w1, (Kd.scalar enc h1).R e w1 base (fun k => ok k ∨ W.heap.size ≤ k) v1 (xs ++ [p]) → Only W w1 (fun k => some k = v.ownBlock) →
      (∀ b2 ok2 v0 (ys : List α), (Kd.scalar enc h1).R e W b2 ok2 v0 ys → ys.length ≤ xs.length → (Kd.scalar enc h1).R e w1 b2 ok2 v0 ys) → wpList P ops Q rest (a.put o.dst v1) w1) :
    wpList P ops Q (o :: rest) a (W.alloc (.cells #[enc p] e)) := by
  obtain ⟨i0, hi, hzz⟩ := Option.map_eq_some_iff.1 hinfo
  simp only [Prod.mk.injEq] at hzz
  obtain ⟨hz0, hz1, hz2⟩ := hzz
  have hlen : xs.length + 1 ≤ 140737488355328 := Nat.le_trans (Nat.le_mul_of_pos_right _ hb0) hl
  have hown := Kd.own_of_R HO
  have hnew : Blk (W.alloc (.cells #[enc p] e)) W.heap.size e [enc p] := Blk.new W e [enc p]
  have hc : ∀ (j : Nat) (u : Value), [enc p][j]? = some u → (W.alloc (.cells #[enc p] e)).cell? (Addr.add ⟨W.heap.size, 0, none⟩ j) = some u := fun j u hj => by
    rw [add_flat, Nat.zero_add]
    exact hnew.cell_at j u hj
  have hone : ∀ u ∈ [enc p], u.oneCell' = true := fun u hu => by rw [List.mem_singleton.1 hu]; exact h1 p
  have h63 : xs.length + 1 ≤ maxLen := by unfold maxLen; omega
  have grow : ∀ v' w', w'.ownsRow (W.alloc (.cells #[enc p] e)).heap.size e 1 v' (xs.length + 1) (encs enc xs ++ [enc p]) → (W.alloc (.cells #[enc p] e)).grownBy w' none → wpList P ops Q rest (a.put o.dst v') w' := by
    intro v' w' hw hg
    have hO : Only W w' (fun _ => False) := ((Only.refl W (fun _ => False)).alloc (.cells #[enc p] e)).step (Only.of_grown hg) (fun k _ hk => by cases hk)
    refine h v' w' ?_ (hO.mono (fun _ _ hk => hk.elim)) (fun b2 ok2 v0 ys hR _ => Kd.R_step hR (fun k _ hlt => hO.block k hlt (fun hk => hk)))
    have hw2 : w'.ownsRow base e 1 v' (xs ++ [p]).length (encs enc (xs ++ [p])) := by
      have e1 : encs enc (xs ++ [p]) = encs enc xs ++ [enc p] := by simp [encs]
      rw [e1, List.length_append, List.length_singleton]
      exact own_weaken hw (Nat.le_trans hbase (by simp))
    refine Kd.R_of_own hw2 (fun k hk => .inr ?_)
    have := (World.ownsRow.lt hw k hk).1
    simp at this
    omega
  rcases hown.2 with ⟨rfl, h0⟩ | ⟨g, cap, cur, rfl, hb, hh, hlc, hm, hsz, htk⟩
  · obtain rfl : xs = [] := List.eq_nil_of_length_eq_zero h0
    exact wpList_append_grows _ hgd s x t ho e i0 z 1 bytes ht hi hz0 hz1 hz2 hz (by omega) none 0 0 [] hs (fun _ => ⟨rfl, rfl⟩) rfl (fun b hb => by cases hb) _ 1 1 [enc p] hx rfl hc hone (by omega) h63 hl (fun v' w' r1 r2 => grow v' w' r1 r2)
  · have hB : Blk W g e cur.toList := by unfold Blk; simpa using hh
    have hB2 : Blk (W.alloc (.cells #[enc p] e)) g e cur.toList := hB.alloc _
    rw [Nat.mul_one] at hsz htk
    have hcl : cur.toList.length = cap := by simpa using hsz
    have hol : ∀ (j : Nat) (u : Value), (encs enc xs)[j]? = some u → (W.alloc (.cells #[enc p] e)).cell? ⟨g, 0 + j, none⟩ = some u := fun j u hj => by
      rw [Nat.zero_add]
      refine hB2.cell_at j u ?_
      rw [← htk, List.getElem?_take] at hj
      split at hj
      · exact hj
      · cases hj
    refine wpList_append_arg _ hgd s x t ho e i0 z 1 bytes ht hi hz0 hz1 hz2 hz (by omega) g 0 xs.length cap (encs enc xs) hs (by simp [encs]) hol _ 1 1 [enc p] hx rfl hc hone ?_ h63 hl ?_ (fun _ v' w' r1 r2 => grow v' w' r1 r2)
    · intro hr j hj
      have hj0 : j = 0 := by simpa using hj
      subst hj0
      refine ⟨?_, hB2.frozen _⟩
      rw [hB2.cell]
      simp only [Nat.zero_add, Nat.mul_one, Nat.add_zero]
      rw [List.getElem?_eq_getElem (by omega)]
      rfl
    · intro hr
      show wpList P ops Q rest (a.put o.dst (.slice (some ⟨g, 0, none⟩) (xs.length + 1) cap)) ((W.alloc (.cells #[enc p] e)).setCell ⟨g, 0 + xs.length * 1, none⟩ (enc p))
      rw [Nat.zero_add, Nat.mul_one]
      have hO : Only W ((W.alloc (.cells #[enc p] e)).setCell ⟨g, xs.length, none⟩ (enc p)) (fun k => k = g) := ((Only.refl W (fun k => k = g)).alloc _).setCell (p := ⟨g, xs.length, none⟩) (fun _ => rfl) _
      refine h _ _ ?_ (hO.mono (fun k _ hk => by subst hk; rfl)) (fun b2 ok2 v0 ys hR hle => R_far_set (Kd.R_alloc hR _) g xs.length (enc p) (.inl hle))
      refine Kd.R_of_own ⟨by simp [encs], .inr ⟨g, cap, (cur.toList.set xs.length (enc p)).toArray, by simp, hb, hB2.set_ _ _, by simpa using hr, hm, by simp; simpa using hsz, ?_⟩⟩ (fun k hk => .inl (HO.1 k hk))
      simp only [Nat.mul_one, List.length_append, List.length_singleton, List.toList_toArray]
      rw [List.take_succ_eq_append_getElem (by simp; omega), List.take_set_of_le (Nat.le_refl _), htk]
      simp [encs]
/-- A row, element k of it, in its cell. -/
theorem R_cell {e : Nat} {w : World} {base : Nat} {ok : Nat → Prop} {A : Option Addr} {n c : Nat} {xs : List α} (h : (Kd.scalar enc h1).R e w base ok (.slice A n c) xs) (k : Nat) (x : α) (hk : xs[k]? = some x) :
    ∃ g, A = some ⟨g, 0, none⟩ ∧ w.cell? ⟨g, k, none⟩ = some (enc x) ∧ w.frozen? ⟨g, k, none⟩ = false ∧ ok g ∧ n = xs.length ∧ xs.length ≤ c := by
  have hlt := (List.getElem?_eq_some_iff.1 hk).1
  have ho := Kd.own_of_R h
  have hn := (Kd.R_reads' h).1
  rcases ho.2 with ⟨_, h0⟩ | ⟨g, cap, cur, he, hb, hh, hl, hm, hs, ht⟩
  · omega
  · injection he with hA hN hC
    subst hA
    have hB : Blk w g e cur.toList := by unfold Blk; simpa using hh
    refine ⟨g, rfl, ?_, hB.frozen k, h.1 g rfl, hn, by omega⟩
    refine hB.cell_at k _ ?_
    rw [Nat.mul_one] at ht
    have : (encs enc xs)[k]? = some (enc x) := by simp [encs, hk]
    rw [← ht, List.getElem?_take, if_pos hlt] at this
    exact this
/-- An element of it is written. -/
theorem R_set_in {e : Nat} {w : World} {base : Nat} {ok : Nat → Prop} {g n c : Nat} {xs : List α} (h : (Kd.scalar enc h1).R e w base ok (.slice (some ⟨g, 0, none⟩) n c) xs) (k : Nat) (x : α) (hk : k < xs.length) :
    (Kd.scalar enc h1).R e (w.setCell ⟨g, k, none⟩ (enc x)) base ok (.slice (some ⟨g, 0, none⟩) n c) (xs.set k x) := by
  have ho := Kd.own_of_R h
  have hn := (Kd.R_reads' h).1
  rcases ho.2 with ⟨_, h0⟩ | ⟨g0, cap, cur, he, hb, hh, hl, hm, hs, ht⟩
  · omega
  · injection he with hA hN hC
    injection hA with hA
    injection hA with hA
    subst hA
    subst hC
    have hB : Blk w g e cur.toList := by unfold Blk; simpa using hh
    refine Kd.R_of_own ⟨by simp [encs], .inr ⟨g, c, (cur.toList.set k (enc x)).toArray, by simp [hn], hb, hB.set_ _ _, by simpa using hl, hm, by simp; simpa using hs, ?_⟩⟩ h.1
    rw [Nat.mul_one] at ht ⊢
    simp only [List.toList_toArray, List.length_set]
    rw [List.take_set, ht]
    simp [encs, List.map_set]
end
end Go.Proofs.Ytochnokfcfmgnaa.Mem
end

section
/- Who owns what: blocks by their owners' numbers. -/
namespace Go.Proofs.Ytochnokfcfmgnaa.Dk
open Go.RowKit Go.Proofs.Ytochnokfcfmgnaa.Mem Go.Proofs.YtochnokfcfmgnaaW.PrintWords
set_option linter.unusedVariables false
set_option linter.unusedSimpArgs false
/-- Behind a step the blocks that are new (from S on) belong to j. -/
def upd (own : Nat → Nat) (S j : Nat) : Nat → Nat := fun k => if k < S then own k else j
section
variable {w w' : World} {base g n : Nat} {own : Nat → Nat} {i j : Nat} {S : Nat → Prop}
variable {α : Type} {d : Kd α} {e : Nat} {v : Value} {xs : List α}
theorem R_own_old (h : d.R e w base (fun k => own k = i) v xs) (o : Only w w' S) (hs : ∀ k, own k = i → ¬ S k) (j : Nat) : d.R e w' base (fun k => upd own w.heap.size j k = i) v xs :=
  Kd.R_mono (Kd.R_step (Kd.R_bound h) (fun k hk hlt => o.block k hlt (hs k hk.1))) (fun k hk => by unfold upd; rw [if_pos hk.2.2.1]; exact hk.1)
theorem R_own_mod {B : Nat} (h : d.R e w' base (fun k => own k = j ∨ B ≤ k) v xs) : d.R e w' base (fun k => upd own B j k = j) v xs :=
  Kd.R_mono h (fun k hk => by
    unfold upd
    split
    · rcases hk with hk | hk
      · exact hk
      · omega
    · rfl)
end
end Go.Proofs.Ytochnokfcfmgnaa.Dk
end

section
/- apartBytes: lists that have memory of their own are told apart. -/
namespace Go.Proofs.Ytochnokfcfmgnaa.Ap
open Go.RowKit Go.Proofs.Ytochnokfcfmgnaa.Mem Go.Proofs.YtochnokfcfmgnaaW.PrintWords Go.Proofs.Ytochnokfcfmgnaa.Dk
set_option linter.unusedVariables false
set_option linter.unusedSimpArgs false
/-- Slices, as values. -/
abbrev SL := Option Addr × Nat × Nat
def SL.val (p : SL) : Value := .slice p.1 p.2.1 p.2.2
abbrev slc : Kd SL := Kd.scalar (fun p : SL => Value.slice p.1 p.2.1 p.2.2) (fun _ => rfl)
/-- Each of them is a row of numbers of its own: list k belongs to k + 2. -/
def Pieces (kd : IntKind) (e : TypeId) (w : World) (base : Nat) (own : Nat → Nat) (vs : List SL) : Prop :=
  ∀ k p, vs[k]? = some p → ∃ ys : List Int, ys.length = p.2.1 ∧ (Kd.int kd).R e w base (fun q => own q = k + 2) (.slice p.1 p.2.1 p.2.2) ys
theorem Pieces.step {kd : IntKind} {e : TypeId} {w w' : World} {base : Nat} {own : Nat → Nat} {vs : List SL} (h : Pieces kd e w base own vs) {S : Nat → Prop} (o : Only w w' S) (hs : ∀ q, 2 ≤ own q → ¬ S q) (j : Nat) : Pieces kd e w' base (upd own w.heap.size j) vs := by
  intro k p hp
  obtain ⟨ys, hl, hr⟩ := h k p hp
  exact ⟨ys, hl, R_own_old hr o (fun q hq => hs q (by omega)) j⟩
/-- Behind an append to a row of list i (a block of i + 2, or a new one). -/
theorem Pieces.append {kd : IntKind} {e : TypeId} {w w' : World} {base : Nat} {own : Nat → Nat} {vs : List SL} {i : Nat} {p : SL} (h : Pieces kd e w base own vs) (hp : vs[i]? = some p) {row : Option Nat} (o : Only w w' (fun k => some k = row)) (hrow : ∀ q, row = some q → own q = i + 2)
    (hk : ∀ ys : List Int, ys.length = p.2.1 → (Kd.int kd).R e w base (fun q => own q = i + 2) (.slice p.1 p.2.1 p.2.2) ys → (Kd.int kd).R e w' base (fun q => own q = i + 2) (.slice p.1 p.2.1 p.2.2) ys) : Pieces kd e w' base (upd own w.heap.size (i + 2)) vs := by
  intro k p' hp'
  obtain ⟨ys, hl, hr⟩ := h k p' hp'
  by_cases e0 : k = i
  · subst e0
    rw [hp] at hp'
    cases hp'
    exact ⟨ys, hl, R_own_mod (Kd.R_mono (hk ys hl hr) (fun q hq => .inl hq))⟩
  · exact ⟨ys, hl, R_own_old hr o (fun q hq e => by have := hrow q e.symm; omega) _⟩
/-- The lists that were grown: list k has nine entries more, all of them its mark. -/
def Grownup (kd : IntKind) (e : TypeId) (w : World) (base : Nat) (own : Nat → Nat) (vs us : List SL) (mark : Nat → Int) : Prop :=
  ∀ k p u, vs[k]? = some p → us[k]? = some u → u.2.1 = p.2.1 + 9 ∧ (Kd.int kd).R e w base (fun q => own q = k + 2) (.slice u.1 u.2.1 u.2.2) (List.replicate (p.2.1 + 9) (mark k))
theorem Grownup.step {kd : IntKind} {e : TypeId} {w w' : World} {base : Nat} {own : Nat → Nat} {vs us : List SL} {mark : Nat → Int} (h : Grownup kd e w base own vs us mark) {S : Nat → Prop} (o : Only w w' S) (hs : ∀ q k, k < us.length → own q = k + 2 → ¬ S q) (j : Nat) : Grownup kd e w' base (upd own w.heap.size j) vs us mark := by
  intro k p u hp hu
  obtain ⟨hl, hr⟩ := h k p u hp hu
  exact ⟨hl, R_own_old hr o (fun q hq => hs q k (List.getElem?_eq_some_iff.1 hu).1 hq) j⟩
theorem Grownup.snoc {kd : IntKind} {e : TypeId} {w : World} {base : Nat} {own : Nat → Nat} {vs us : List SL} {mark : Nat → Int} {p u : SL} (h : Grownup kd e w base own vs us mark) (hp : vs[us.length]? = some p) (hl : u.2.1 = p.2.1 + 9) (hr : (Kd.int kd).R e w base (fun q => own q = us.length + 2) (.slice u.1 u.2.1 u.2.2) (List.replicate (p.2.1 + 9) (mark us.length))) : Grownup kd e w base own vs (us ++ [u]) mark := by
  intro k p' u' hp' hu'
  by_cases e0 : k < us.length
  · rw [List.getElem?_append_left e0] at hu'
    exact h k p' u' hp' hu'
  · have hlt := (List.getElem?_eq_some_iff.1 hu').1
    simp at hlt
    obtain rfl : k = us.length := by omega
    rw [hp] at hp'
    cases hp'
    rw [List.getElem?_append_right (Nat.le_refl _)] at hu'
    simp at hu'
    subst hu'
    exact ⟨hl, hr⟩
/-- What stands of the lists while they are marked and grown. -/
structure St (kd : IntKind) (e te : TypeId) (w0 w : World) (base : Nat) (own0 own : Nat → Nat) (A : Option Addr) (cap : Nat) (vs : List SL) (G : Option Addr) (cG : Nat) (us : List SL) (mark : Nat → Int) : Prop where
  same : ∀ q, q < w0.heap.size → own q = own0 q
  spine : slc.R te w base (fun q => own q = 0) (.slice A vs.length cap) vs
  pieces : Pieces kd e w base own vs
  grown : slc.R te w w0.heap.size (fun q => own q = 1) (.slice G us.length cG) us
  ups : Grownup kd e w base own vs us mark
  only : Only w0 w (fun q => 2 ≤ own0 q)
section
variable {kd : IntKind} {e te : TypeId} {w0 w w' : World} {base : Nat} {own0 own : Nat → Nat} {A : Option Addr} {cap : Nat} {vs : List SL} {G : Option Addr} {cG : Nat} {us : List SL} {mark : Nat → Int} {p : SL}
theorem upd_same (hs : ∀ q, q < w0.heap.size → own q = own0 q) (hle : w0.heap.size ≤ w.heap.size) (j : Nat) : ∀ q, q < w0.heap.size → upd own w.heap.size j q = own0 q := fun q hq => by
  unfold upd
  rw [if_pos (Nat.lt_of_lt_of_le hq hle)]
  exact hs q hq
/-- List us.length has been marked. -/
theorem St.marked (h : St kd e te w0 w base own0 own A cap vs G cG us mark) (hp : vs[us.length]? = some p) (o : Only w w' (fun q => own q = us.length + 2)) {ys : List Int} (hy : ys.length = p.2.1) (hr : (Kd.int kd).R e w' base (fun q => own q = us.length + 2) (.slice p.1 p.2.1 p.2.2) ys) : St kd e te w0 w' base own0 own A cap vs G cG us mark := by
  refine ⟨h.same, Kd.R_step h.spine (fun q hq hlt => o.block q hlt (fun hh => by have hh : own q = us.length + 2 := hh; omega)), fun k p' hp' => ?_, Kd.R_step h.grown (fun q hq hlt => o.block q hlt (fun hh => by have hh : own q = us.length + 2 := hh; omega)), fun k p' u hp' hu => ?_, h.only.step o (fun q hq hh => by have hh : own q = us.length + 2 := hh; rw [← h.same q hq]; omega)⟩
  · by_cases e0 : k = us.length
    · subst e0
      rw [hp] at hp'
      cases hp'
      exact ⟨ys, hy, hr⟩
    · obtain ⟨zs, hz, hr'⟩ := h.pieces k p' hp'
      exact ⟨zs, hz, Kd.R_step hr' (fun q hq hlt => o.block q hlt (fun hh => by have hh : own q = us.length + 2 := hh; omega))⟩
  · obtain ⟨hl, hr'⟩ := h.ups k p' u hp' hu
    have hk := (List.getElem?_eq_some_iff.1 hu).1
    exact ⟨hl, Kd.R_step hr' (fun q hq hlt => o.block q hlt (fun hh => by have hh : own q = us.length + 2 := hh; omega))⟩
/-- One has been appended to the list that grows. -/
theorem St.append (h : St kd e te w0 w base own0 own A cap vs G cG us mark) (hp : vs[us.length]? = some p) {row : Option Nat} (o : Only w w' (fun k => some k = row)) (hrow : ∀ q, row = some q → own q = us.length + 2)
    (hk : ∀ ys : List Int, ys.length = p.2.1 → (Kd.int kd).R e w base (fun q => own q = us.length + 2) (.slice p.1 p.2.1 p.2.2) ys → (Kd.int kd).R e w' base (fun q => own q = us.length + 2) (.slice p.1 p.2.1 p.2.2) ys) : St kd e te w0 w' base own0 (upd own w.heap.size (us.length + 2)) A cap vs G cG us mark :=
  ⟨upd_same h.same h.only.size _, R_own_old h.spine o (fun q hq hh => by have := hrow q hh.symm; omega) _, h.pieces.append hp o hrow hk, R_own_old h.grown o (fun q hq hh => by have := hrow q hh.symm; omega) _, h.ups.step o (fun q k hk hq hh => by have := hrow q hh.symm; omega) _, h.only.step o (fun q hq hh => by have := hrow q hh.symm; rw [← h.same q hq]; omega)⟩
/-- It has been put behind the others. -/
theorem St.snoc {G' : Option Addr} {cG' : Nat} {u : SL} (h : St kd e te w0 w base own0 own A cap vs G cG us mark) (hp : vs[us.length]? = some p) (hl : u.2.1 = p.2.1 + 9) (hr : (Kd.int kd).R e w base (fun q => own q = us.length + 2) (.slice u.1 u.2.1 u.2.2) (List.replicate (p.2.1 + 9) (mark us.length)))
    (hg : w.grownBy w' (Value.ownBlock (.slice G us.length cG))) (hR : slc.R te w' w0.heap.size (fun q => own q = 1 ∨ w.heap.size ≤ q) (.slice G' (us.length + 1) cG') (us ++ [u])) : St kd e te w0 w' base own0 (upd own w.heap.size 1) A cap vs G' cG' (us ++ [u]) mark := by
  have hrow : ∀ q, some q = Value.ownBlock (.slice G us.length cG) → own q = 1 := fun q hq => h.grown.1 q hq.symm
  have o := Only.of_grown hg
  refine ⟨upd_same h.same h.only.size _, R_own_old h.spine o (fun q hq hh => by have := hrow q hh; omega) _, h.pieces.step o (fun q hq hh => by have := hrow q hh; omega) _, by rw [List.length_append]; exact R_own_mod hR, Grownup.snoc (h.ups.step o (fun q k hk hq hh => by have := hrow q hh; omega) _) hp hl (R_own_old hr o (fun q hq hh => by have := hrow q hh; omega) _), h.only.step o (fun q hq hh => ?_)⟩
  have := Kd.R_base h.grown q hh.symm
  omega
end
theorem set_rep {α : Type} (ys : List α) (m : α) (j : Nat) (h : j < ys.length) : (List.replicate j m ++ ys.drop j).set j m = List.replicate (j + 1) m ++ ys.drop (j + 1) := by
  have e : ys.drop j = ys[j] :: ys.drop (j + 1) := List.drop_eq_getElem_cons h
  rw [List.set_append_right _ _ (by simp), e, List.length_replicate, Nat.sub_self, List.set_cons_zero, List.replicate_succ', List.append_assoc]
  rfl
def markA (k : Nat) : Int := (k : Int) % 256
def markB (k : Nat) : Int := (k : Int) / 256 % 256
set_option maxHeartbeats 8000000 in
set_option maxRecDepth 100000 in
theorem apartBytes_any (A : Option Addr) (cap base : Nat) (own0 : Nat → Nat) (vs : List SL) (w : World) (hS : Hid (slc.R 23 w base (fun q => own0 q = 0) (.slice A vs.length cap) vs)) (hP : Hid (Pieces .u8 5 w base own0 vs)) (hb : base ≤ w.heap.size) (hn : vs.length * 24 ≤ 140737488355328) (hl : Hid (∀ p ∈ vs, p.2.1 + 9 ≤ 140737488355328)) :
    Calls Try.prog 36 #[.slice A vs.length cap] w fun e w' => e = .returned (.bool true) ∧ Only w w' (fun q => 2 ≤ own0 q) := by
  go_enter Try.func36, Try.ntmps36
  go_wp2_with fail
  go_loopg [3] 2 (fun m rv wr => ∃ (rd : Int) (own : Nat → Nat), rv = .int .i64 rd ∧ Aside1 (0 ≤ rd ∧ rd + m = 2 ∧ (∀ q, q < w.heap.size → own q = own0 q) ∧ slc.R 23 wr base (fun q => own q = 0) (.slice A vs.length cap) vs ∧ Pieces .u8 5 wr base own vs ∧ Only w wr (fun q => 2 ≤ own0 q)))
  case atStart => exact ⟨0, own0, rfl, ⟨by omega, rfl, fun _ _ => rfl, hS.out, hP.out, Only.refl _ _⟩⟩
  case round =>
    obtain ⟨rd, own1, rfl, hA⟩ := hrel
    have hrd : rd = 0 ∨ rd = 1 ∨ rd = 2 := by have := hA.out.1; have := hA.out.2.1; omega
    have HM := Lib.hid hA.out.2.1
    have HOW := Lib.hid hA.out.2.2.1
    have HS := Lib.hid hA.out.2.2.2.1
    have HP := Lib.hid hA.out.2.2.2.2.1
    have HO := Lib.hid hA.out.2.2.2.2.2
    clear hA
    obtain ⟨wo, hwo⟩ : ∃ wo, wo = wr := ⟨_, rfl⟩
    subst hwo
    obtain ⟨go, hgo⟩ : ∃ go, go = gk := ⟨_, rfl⟩
    subst hgo
    rcases hrd with rfl | rfl | rfl
    · go_wp2_with fail
      go_loopg [4, 5] vs.length (fun m gv iv wr => ∃ (i : Nat) (own : Nat → Nat) (us : List SL) (G : Option Addr) (nG cG : Nat), iv = .int .i64 i ∧ gv = .slice G nG cG ∧ Aside1 (i + m = vs.length ∧ nG = us.length ∧ us.length = i ∧ St .u8 5 23 w wr base own0 own A cap vs G cG us markA))
      case atStart => exact ⟨0, own1, [], none, 0, 0, rfl, rfl, ⟨Nat.zero_add _, rfl, rfl, HOW.out, HS.out, HP.out, Kd.R_nil _ _ _ _ _, fun k p u _ h => by simp at h, HO.out⟩⟩
      case round =>
        obtain ⟨i, own2, us, G, nG, cG, rfl, rfl, hA⟩ := hrel
        obtain ⟨hm2, rfl, rfl, hst⟩ := hA.out
        have HM2 := Lib.hid hm2
        have ST := Lib.hid hst
        clear hA hm2 hst HOW HS HP HO
        obtain ⟨w2, hwo⟩ : ∃ w2, w2 = wr := ⟨_, rfl⟩
        subst hwo
        obtain ⟨g2, hgo⟩ : ∃ g2, g2 = gk := ⟨_, rfl⟩
        subst hgo
        have hwi : Hid (wrap64 ((us.length : Int) + 1) = ((us.length + 1 : Nat) : Int)) := Lib.hid (by have := HM2.out; unfold wrap64; omega)
        by_cases hi : us.length < vs.length
        · have hii : (us.length : Int) < (vs.length : Int) := by omega
          have hi0 : (0 : Int) ≤ (us.length : Int) := by omega
          obtain ⟨p, hp⟩ : ∃ p, vs[us.length]? = some p := ⟨_, List.getElem?_eq_getElem hi⟩
          obtain ⟨gs, rfl, hc, -, -, -, -⟩ := R_cell ST.out.spine us.length p hp
          obtain ⟨ys, hyl, hyr⟩ := ST.out.pieces us.length p hp
          have HPP := Lib.hid hp
          have HYL := Lib.hid hyl
          have HYR := Lib.hid hyr
          clear hp hyl hyr
          obtain ⟨Ap, np, cp⟩ := p
          simp only at hc
          go_wp2_with fail
          go_loopg [8] np (fun m jv wz => ∃ j : Nat, jv = .int .i64 j ∧ Aside1 (j + m = np ∧ (Kd.int .u8).R 5 wz base (fun q => own2 q = us.length + 2) (.slice Ap np cp) (List.replicate j (markA us.length) ++ ys.drop j) ∧ Only w2 wz (fun q => own2 q = us.length + 2)))
          case atStart => exact ⟨0, rfl, ⟨Nat.zero_add _, HYR.out, Only.refl _ _⟩⟩
          case round =>
            obtain ⟨j, rfl, hA⟩ := hrel
            have HMj := Lib.hid hA.out.1
            have HRj := Lib.hid hA.out.2.1
            have HOj := Lib.hid hA.out.2.2
            clear hA
            have hwj : Hid (wrap64 ((j : Int) + 1) = ((j + 1 : Nat) : Int)) := Lib.hid (by have := HMj.out; have := hl.out _ (List.mem_of_getElem? HPP.out); simp only at this; unfold wrap64; omega)
            have hc' : wr.cell? ⟨gs, us.length, none⟩ = some (.slice Ap np cp) := (HOj.out.cell (World.block_lt_of_cell? _ _ hc) (fun h => by have h : own2 gs = us.length + 2 := h; have h9 : own2 gs = 0 := ST.out.spine.1 gs rfl; omega)).trans hc
            by_cases hj : j < np
            · have hji : (j : Int) < (np : Int) := by omega
              have hj0 : (0 : Int) ≤ (j : Int) := by omega
              have hyl : ys.length = np := HYL.out
              obtain ⟨y, hy⟩ : ∃ y, (List.replicate j (markA us.length) ++ ys.drop j)[j]? = some y := ⟨_, List.getElem?_eq_getElem (by simp; omega)⟩
              obtain ⟨g, rfl, hc1, hf1, hg1, -, -⟩ := R_cell HRj.out j y hy
              have HSET := Lib.hid (R_set_in HRj.out j (markA us.length) (by simp; omega))
              have hset := set_rep ys (markA us.length) j (by omega)
              rw [hset] at HSET
              have HG1 := Lib.hid hg1
              clear hset hy hyl hg1
              go_wp2
              go_roundg (gk - 1)
              case measure => have := HMj.out; omega
              case rel => exact ⟨j + 1, (by first | exact congrArg (Value.int .i64) hwj.out | exact congrArg (Value.int .i64) (by omega)), ⟨by have := HMj.out; omega, HSET.out, HOj.out.setCell (p := ⟨g, j, none⟩) (fun _ => HG1.out) _⟩⟩
            · have hji : ¬ (j : Int) < (np : Int) := by omega
              obtain rfl : j = np := by have := HMj.out; omega
              go_wp2_with fail
              have SR := Lib.hid (show (Kd.int .u8).R 5 wr base (fun q => own2 q = us.length + 2) (.slice Ap j cp) (List.replicate j (markA us.length)) from by have := HRj.out; rwa [List.drop_of_length_le (by rw [HYL.out]; exact Nat.le_refl _), List.append_nil] at this)
              have NP := Lib.hid (hl.out _ (List.mem_of_getElem? HPP.out))
              have ST3 := Lib.hid (ST.out.marked (p := (Ap, j, cp)) HPP.out HOj.out (by simp) SR.out)
              clear HRj HOj HMj
              have hw2s : w.heap.size ≤ wr.heap.size := ST3.out.only.size
              have hj9 : j + 9 ≤ 140737488355328 := NP.out
              have info5 : (Try.prog.info? 5).map (fun i => (i.zero, i.size, i.bytes)) = some (some (.int .u8 0), 1, 1) := by kernel_rfl
              go_loopg [7, 9] 9 (fun m gv jv wz => ∃ (j' : Nat) (own : Nat → Nat) (B : Option Addr) (nb cb : Nat), jv = .int .i64 j' ∧ gv = .slice B nb cb ∧ Aside1 (j' + m = 9 ∧ nb = j + j' ∧ (Kd.int .u8).R 5 wz base (fun q => own q = us.length + 2) (.slice B nb cb) (List.replicate (j + j') (markA us.length)) ∧ St .u8 5 23 w wz base own0 own (some ⟨gs, 0, none⟩) cap vs G cG us markA))
              case atStart => exact ⟨0, own2, Ap, j, cp, rfl, rfl, ⟨Nat.zero_add _, rfl, SR.out, ST3.out⟩⟩
              case round =>
                obtain ⟨j', own4, B, nb, cb, rfl, rfl, hA⟩ := hrel
                obtain ⟨hm9, hnb, hrb, hst4⟩ := hA.out
                subst hnb
                have HM9 := Lib.hid hm9
                have HRB := Lib.hid hrb
                have ST4 := Lib.hid hst4
                clear hA hm9 hrb hst4 ST3 SR
                have hw9 : Hid (wrap64 ((j' : Int) + 1) = ((j' + 1 : Nat) : Int)) := Lib.hid (by have := HM9.out; unfold wrap64; omega)
                have hbw : base ≤ wr.heap.size := Nat.le_trans hb ST4.out.only.size
                by_cases hj9' : j' < 9
                · have hji9 : (j' : Int) < 9 := by omega
                  have hlj : ((List.replicate (j + j') (markA us.length)).length + 1) * 1 ≤ 140737488355328 := by have := HM9.out; simp; omega
                  go_wp2_with (first
                    | ((with_reducible refine gate_builtin (b := .append) (xs := #[.tmp 52, .tmp 54]) rfl ?_); at_builtin; refine append_keeps (enc := Value.int .u8) (h1 := fun _ => rfl) rfl (.tmp 52) (.tmp 54) 23 5 (.int .u8 0) 1 rfl Try.underlying23 info5 rfl (by omega) wr base (.slice B (j + j') cb) (List.replicate (j + j') (markA us.length)) ((us.length : Int) % 256) (fun q => own4 q = us.length + 2) rfl rfl HRB.out hbw hlj ?_; intro v1 w1 hr1 ho1 hk1; obtain ⟨B1, c1, ev1⟩ := Kd.R_slice hr1; obtain ⟨n1, hn1⟩ : ∃ n1, n1 = (List.replicate (j + j') (markA us.length) ++ [(us.length : Int) % 256]).length := ⟨_, rfl⟩; rw [← hn1] at ev1; subst ev1; have HN1 := Lib.hid hn1; have HR1 := Lib.hid hr1; have HO1 := Lib.hid ho1; have HK1 := Lib.hid hk1; clear hn1 hr1 ho1 hk1)
                    | fail)
                  have ST5 := Lib.hid (ST4.out.append (p := (Ap, j, cp)) HPP.out HO1.out (fun q hq => HRB.out.1 q hq) (fun ys hy hr => HK1.out _ _ _ ys hr (by rw [List.length_replicate, hy]; exact Nat.le_add_right _ _)))
                  have HR5 := Lib.hid (R_own_mod HR1.out)
                  go_roundg (gk - 1)
                  case measure => have := HM9.out; omega
                  case rel => exact ⟨j' + 1, _, B1, n1, c1, (by first | exact congrArg (Value.int .i64) hw9.out | exact congrArg (Value.int .i64) (by omega)), rfl, ⟨by have := HM9.out; omega, by rw [HN1.out]; simp; omega, by have h9 := HR5.out; rw [← Nat.add_assoc, List.replicate_succ']; exact h9, ST5.out⟩⟩
                · have hji9 : ¬ (j' : Int) < 9 := by omega
                  obtain rfl : j' = 9 := by have := HM9.out; omega
                  have info29 : (Try.prog.info? 23).map (fun i => (i.zero, i.size, i.bytes)) = some (some (.slice none 0 0), 1, 24) := by kernel_rfl
                  have hw4s : w.heap.size ≤ wr.heap.size := ST4.out.only.size
                  have hlu : (us.length + 1) * 24 ≤ 140737488355328 := by omega
                  go_wp2_with (first
                    | ((with_reducible refine gate_builtin (b := .append) (xs := #[.tmp 56, .tmp 58]) rfl ?_); at_builtin; refine Kd.R_append slc (w0 := wr) w.heap.size rfl (.tmp 56) (.tmp 58) 37 23 (.slice none 0 0) 24 rfl Try.underlying37 info29 rfl (by decide) (by omega) (.slice G us.length cG) us ((B, j + 9, cb) : SL) [.slice B (j + 9) cb] (fun q => own4 q = 1 ∨ wr.heap.size ≤ q) (fun _ => False) rfl rfl rfl (fun _ h => h.elim) (fun q hq => .inr hq) (Kd.R_mono ST4.out.grown (fun q hq => .inl hq)) (Below.refl _ _) hw4s hlu ?_; intro v1 w1 hr1 hb1 hg1 ha1; obtain ⟨G1, c1, ev1⟩ := Kd.R_slice hr1; rw [List.length_append, List.length_singleton] at ev1; subst ev1; have HR1 := Lib.hid hr1; have HG1 := Lib.hid hg1; clear hr1 hb1 hg1 ha1)
                    | fail)
                  have ST6 := Lib.hid (ST4.out.snoc (u := (B, j + 9, cb)) (p := (Ap, j, cp)) HPP.out rfl HRB.out HG1.out HR1.out)
                  go_roundg (g2 - 1)
                  case measure => have := HM2.out; omega
                  case rel => exact ⟨us.length + 1, _, us ++ [(B, j + 9, cb)], G1, us.length + 1, c1, (by first | exact congrArg (Value.int .i64) hwi.out | exact congrArg (Value.int .i64) (by omega)), rfl, ⟨by have := HM2.out; omega, by simp, by simp, ST6.out⟩⟩
        · have hii : ¬ (us.length : Int) < (vs.length : Int) := by omega
          have HEQ := Lib.hid (show us.length = vs.length by have := HM2.out; omega)
          go_wp2_with fail
          go_loopg [10] us.length (fun m iv wz => ∃ i : Nat, iv = .int .i64 i ∧ wz = w2 ∧ Aside1 (i + m = us.length))
          case atStart => exact ⟨0, rfl, rfl, ⟨Nat.zero_add _⟩⟩
          case round =>
            obtain ⟨i, rfl, rfl, hA⟩ := hrel
            have HMi := Lib.hid hA.out
            clear hA
            obtain ⟨g3, hgo⟩ : ∃ g3, g3 = gk := ⟨_, rfl⟩
            subst hgo
            have hwi' : Hid (wrap64 ((i : Int) + 1) = ((i + 1 : Nat) : Int)) := Lib.hid (by have := HMi.out; have := HEQ.out; unfold wrap64; omega)
            by_cases hiu : i < us.length
            · have hiu' : (i : Int) < (us.length : Int) := by omega
              have hi0 : (0 : Int) ≤ (i : Int) := by omega
              have hiv : i < vs.length := by have := HEQ.out; omega
              obtain ⟨p, hp⟩ : ∃ p, vs[i]? = some p := ⟨_, List.getElem?_eq_getElem hiv⟩
              obtain ⟨u, hu⟩ : ∃ u, us[i]? = some u := ⟨_, List.getElem?_eq_getElem hiu⟩
              obtain ⟨hul, hur⟩ := ST.out.ups i p u hp hu
              obtain ⟨gg, rfl, hc, -, -, -, -⟩ := R_cell ST.out.grown i u hu
              have hnl := hl.out p (List.mem_of_getElem? hp)
              have HUR := Lib.hid hur
              obtain ⟨Au, nu, cu⟩ := u
              simp only at hc hul HUR
              subst hul
              clear hp hu hur hiv
              obtain ⟨N, hN⟩ : ∃ N, N = p.2.1 + 9 := ⟨_, rfl⟩
              rw [← hN] at HUR hc hnl
              clear hN
              go_wp2_with fail
              go_loopg [11] N (fun m jv wz => ∃ j : Nat, jv = .int .i64 j ∧ wz = wr ∧ Aside1 (j + m = N))
              case atStart => exact ⟨0, rfl, rfl, ⟨Nat.zero_add _⟩⟩
              case round =>
                obtain ⟨j, rfl, rfl, hA⟩ := hrel
                have HMj := Lib.hid hA.out
                clear hA
                have hwj : Hid (wrap64 ((j : Int) + 1) = ((j + 1 : Nat) : Int)) := Lib.hid (by have := HMj.out; unfold wrap64; omega)
                by_cases hj : j < N
                · have hji : (j : Int) < (N : Int) := by omega
                  have hj0 : (0 : Int) ≤ (j : Int) := by omega
                  obtain ⟨gu, rfl, hcu0, -, -, -, -⟩ := R_cell HUR.out j (markA i) (by simp [List.getElem?_replicate, hj])
                  have hcu : wr.cell? ⟨gu, j, none⟩ = some (.int .u8 ((i : Int) % 256)) := hcu0
                  clear hcu0
                  go_wp2_with fail
                  go_roundg (gk - 1)
                  case measure => have := HMj.out; omega
                  case rel => exact ⟨j + 1, (by first | exact congrArg (Value.int .i64) hwj.out | exact congrArg (Value.int .i64) (by omega)), rfl, ⟨by have := HMj.out; omega⟩⟩
                · have hji : ¬ (j : Int) < (N : Int) := by omega
                  go_wp2_with fail
                  go_roundg (g3 - 1)
                  case measure => have := HMi.out; omega
                  case rel => exact ⟨i + 1, (by first | exact congrArg (Value.int .i64) hwi'.out | exact congrArg (Value.int .i64) (by omega)), rfl, ⟨by have := HMi.out; omega⟩⟩
            · have hiu' : ¬ (i : Int) < (us.length : Int) := by omega
              go_wp2_with fail
              go_roundg (go - 1)
              case measure => have := HM.out; omega
              case rel => exact ⟨1, _, rfl, ⟨by omega, by have := HM.out; omega, ST.out.same, ST.out.spine, ST.out.pieces, ST.out.only⟩⟩
    · go_wp2_with fail
      go_loopg [4, 5] vs.length (fun m gv iv wr => ∃ (i : Nat) (own : Nat → Nat) (us : List SL) (G : Option Addr) (nG cG : Nat), iv = .int .i64 i ∧ gv = .slice G nG cG ∧ Aside1 (i + m = vs.length ∧ nG = us.length ∧ us.length = i ∧ St .u8 5 23 w wr base own0 own A cap vs G cG us markB))
      case atStart => exact ⟨0, own1, [], none, 0, 0, rfl, rfl, ⟨Nat.zero_add _, rfl, rfl, HOW.out, HS.out, HP.out, Kd.R_nil _ _ _ _ _, fun k p u _ h => by simp at h, HO.out⟩⟩
      case round =>
        obtain ⟨i, own2, us, G, nG, cG, rfl, rfl, hA⟩ := hrel
        obtain ⟨hm2, rfl, rfl, hst⟩ := hA.out
        have HM2 := Lib.hid hm2
        have ST := Lib.hid hst
        clear hA hm2 hst HOW HS HP HO
        obtain ⟨w2, hwo⟩ : ∃ w2, w2 = wr := ⟨_, rfl⟩
        subst hwo
        obtain ⟨g2, hgo⟩ : ∃ g2, g2 = gk := ⟨_, rfl⟩
        subst hgo
        have hwi : Hid (wrap64 ((us.length : Int) + 1) = ((us.length + 1 : Nat) : Int)) := Lib.hid (by have := HM2.out; unfold wrap64; omega)
        by_cases hi : us.length < vs.length
        · have hii : (us.length : Int) < (vs.length : Int) := by omega
          have hi0 : (0 : Int) ≤ (us.length : Int) := by omega
          obtain ⟨p, hp⟩ : ∃ p, vs[us.length]? = some p := ⟨_, List.getElem?_eq_getElem hi⟩
          obtain ⟨gs, rfl, hc, -, -, -, -⟩ := R_cell ST.out.spine us.length p hp
          obtain ⟨ys, hyl, hyr⟩ := ST.out.pieces us.length p hp
          have HPP := Lib.hid hp
          have HYL := Lib.hid hyl
          have HYR := Lib.hid hyr
          clear hp hyl hyr
          obtain ⟨Ap, np, cp⟩ := p
          simp only at hc
          go_wp2_with fail
          go_loopg [8] np (fun m jv wz => ∃ j : Nat, jv = .int .i64 j ∧ Aside1 (j + m = np ∧ (Kd.int .u8).R 5 wz base (fun q => own2 q = us.length + 2) (.slice Ap np cp) (List.replicate j (markB us.length) ++ ys.drop j) ∧ Only w2 wz (fun q => own2 q = us.length + 2)))
          case atStart => exact ⟨0, rfl, ⟨Nat.zero_add _, HYR.out, Only.refl _ _⟩⟩
          case round =>
            obtain ⟨j, rfl, hA⟩ := hrel
            have HMj := Lib.hid hA.out.1
            have HRj := Lib.hid hA.out.2.1
            have HOj := Lib.hid hA.out.2.2
            clear hA
            have hwj : Hid (wrap64 ((j : Int) + 1) = ((j + 1 : Nat) : Int)) := Lib.hid (by have := HMj.out; have := hl.out _ (List.mem_of_getElem? HPP.out); simp only at this; unfold wrap64; omega)
            have hc' : wr.cell? ⟨gs, us.length, none⟩ = some (.slice Ap np cp) := (HOj.out.cell (World.block_lt_of_cell? _ _ hc) (fun h => by have h : own2 gs = us.length + 2 := h; have h9 : own2 gs = 0 := ST.out.spine.1 gs rfl; omega)).trans hc
            by_cases hj : j < np
            · have hji : (j : Int) < (np : Int) := by omega
              have hj0 : (0 : Int) ≤ (j : Int) := by omega
              have hyl : ys.length = np := HYL.out
              obtain ⟨y, hy⟩ : ∃ y, (List.replicate j (markB us.length) ++ ys.drop j)[j]? = some y := ⟨_, List.getElem?_eq_getElem (by simp; omega)⟩
              obtain ⟨g, rfl, hc1, hf1, hg1, -, -⟩ := R_cell HRj.out j y hy
              have HSET := Lib.hid (R_set_in HRj.out j (markB us.length) (by simp; omega))
              have hset := set_rep ys (markB us.length) j (by omega)
              rw [hset] at HSET
              have HG1 := Lib.hid hg1
              clear hset hy hyl hg1
              go_wp2
              go_roundg (gk - 1)
              case measure => have := HMj.out; omega
              case rel => exact ⟨j + 1, (by first | exact congrArg (Value.int .i64) hwj.out | exact congrArg (Value.int .i64) (by omega)), ⟨by have := HMj.out; omega, HSET.out, HOj.out.setCell (p := ⟨g, j, none⟩) (fun _ => HG1.out) _⟩⟩
            · have hji : ¬ (j : Int) < (np : Int) := by omega
              obtain rfl : j = np := by have := HMj.out; omega
              go_wp2_with fail
              have SR := Lib.hid (show (Kd.int .u8).R 5 wr base (fun q => own2 q = us.length + 2) (.slice Ap j cp) (List.replicate j (markB us.length)) from by have := HRj.out; rwa [List.drop_of_length_le (by rw [HYL.out]; exact Nat.le_refl _), List.append_nil] at this)
              have NP := Lib.hid (hl.out _ (List.mem_of_getElem? HPP.out))
              have ST3 := Lib.hid (ST.out.marked (p := (Ap, j, cp)) HPP.out HOj.out (by simp) SR.out)
              clear HRj HOj HMj
              have hw2s : w.heap.size ≤ wr.heap.size := ST3.out.only.size
              have hj9 : j + 9 ≤ 140737488355328 := NP.out
              have info5 : (Try.prog.info? 5).map (fun i => (i.zero, i.size, i.bytes)) = some (some (.int .u8 0), 1, 1) := by kernel_rfl
              go_loopg [7, 9] 9 (fun m gv jv wz => ∃ (j' : Nat) (own : Nat → Nat) (B : Option Addr) (nb cb : Nat), jv = .int .i64 j' ∧ gv = .slice B nb cb ∧ Aside1 (j' + m = 9 ∧ nb = j + j' ∧ (Kd.int .u8).R 5 wz base (fun q => own q = us.length + 2) (.slice B nb cb) (List.replicate (j + j') (markB us.length)) ∧ St .u8 5 23 w wz base own0 own (some ⟨gs, 0, none⟩) cap vs G cG us markB))
              case atStart => exact ⟨0, own2, Ap, j, cp, rfl, rfl, ⟨Nat.zero_add _, rfl, SR.out, ST3.out⟩⟩
              case round =>
                obtain ⟨j', own4, B, nb, cb, rfl, rfl, hA⟩ := hrel
                obtain ⟨hm9, hnb, hrb, hst4⟩ := hA.out
                subst hnb
                have HM9 := Lib.hid hm9
                have HRB := Lib.hid hrb
                have ST4 := Lib.hid hst4
                clear hA hm9 hrb hst4 ST3 SR
                have hw9 : Hid (wrap64 ((j' : Int) + 1) = ((j' + 1 : Nat) : Int)) := Lib.hid (by have := HM9.out; unfold wrap64; omega)
                have hbw : base ≤ wr.heap.size := Nat.le_trans hb ST4.out.only.size
                by_cases hj9' : j' < 9
                · have hji9 : (j' : Int) < 9 := by omega
                  have hlj : ((List.replicate (j + j') (markB us.length)).length + 1) * 1 ≤ 140737488355328 := by have := HM9.out; simp; omega
                  go_wp2_with (first
                    | ((with_reducible refine gate_builtin (b := .append) (xs := #[.tmp 52, .tmp 54]) rfl ?_); at_builtin; refine append_keeps (enc := Value.int .u8) (h1 := fun _ => rfl) rfl (.tmp 52) (.tmp 54) 23 5 (.int .u8 0) 1 rfl Try.underlying23 info5 rfl (by omega) wr base (.slice B (j + j') cb) (List.replicate (j + j') (markB us.length)) ((us.length : Int) / 256 % 256) (fun q => own4 q = us.length + 2) rfl rfl HRB.out hbw hlj ?_; intro v1 w1 hr1 ho1 hk1; obtain ⟨B1, c1, ev1⟩ := Kd.R_slice hr1; obtain ⟨n1, hn1⟩ : ∃ n1, n1 = (List.replicate (j + j') (markB us.length) ++ [(us.length : Int) / 256 % 256]).length := ⟨_, rfl⟩; rw [← hn1] at ev1; subst ev1; have HN1 := Lib.hid hn1; have HR1 := Lib.hid hr1; have HO1 := Lib.hid ho1; have HK1 := Lib.hid hk1; clear hn1 hr1 ho1 hk1)
                    | fail)
                  have ST5 := Lib.hid (ST4.out.append (p := (Ap, j, cp)) HPP.out HO1.out (fun q hq => HRB.out.1 q hq) (fun ys hy hr => HK1.out _ _ _ ys hr (by rw [List.length_replicate, hy]; exact Nat.le_add_right _ _)))
                  have HR5 := Lib.hid (R_own_mod HR1.out)
                  go_roundg (gk - 1)
                  case measure => have := HM9.out; omega
                  case rel => exact ⟨j' + 1, _, B1, n1, c1, (by first | exact congrArg (Value.int .i64) hw9.out | exact congrArg (Value.int .i64) (by omega)), rfl, ⟨by have := HM9.out; omega, by rw [HN1.out]; simp; omega, by have h9 := HR5.out; rw [← Nat.add_assoc, List.replicate_succ']; exact h9, ST5.out⟩⟩
                · have hji9 : ¬ (j' : Int) < 9 := by omega
                  obtain rfl : j' = 9 := by have := HM9.out; omega
                  have info29 : (Try.prog.info? 23).map (fun i => (i.zero, i.size, i.bytes)) = some (some (.slice none 0 0), 1, 24) := by kernel_rfl
                  have hw4s : w.heap.size ≤ wr.heap.size := ST4.out.only.size
                  have hlu : (us.length + 1) * 24 ≤ 140737488355328 := by omega
                  go_wp2_with (first
                    | ((with_reducible refine gate_builtin (b := .append) (xs := #[.tmp 56, .tmp 58]) rfl ?_); at_builtin; refine Kd.R_append slc (w0 := wr) w.heap.size rfl (.tmp 56) (.tmp 58) 37 23 (.slice none 0 0) 24 rfl Try.underlying37 info29 rfl (by decide) (by omega) (.slice G us.length cG) us ((B, j + 9, cb) : SL) [.slice B (j + 9) cb] (fun q => own4 q = 1 ∨ wr.heap.size ≤ q) (fun _ => False) rfl rfl rfl (fun _ h => h.elim) (fun q hq => .inr hq) (Kd.R_mono ST4.out.grown (fun q hq => .inl hq)) (Below.refl _ _) hw4s hlu ?_; intro v1 w1 hr1 hb1 hg1 ha1; obtain ⟨G1, c1, ev1⟩ := Kd.R_slice hr1; rw [List.length_append, List.length_singleton] at ev1; subst ev1; have HR1 := Lib.hid hr1; have HG1 := Lib.hid hg1; clear hr1 hb1 hg1 ha1)
                    | fail)
                  have ST6 := Lib.hid (ST4.out.snoc (u := (B, j + 9, cb)) (p := (Ap, j, cp)) HPP.out rfl HRB.out HG1.out HR1.out)
                  go_roundg (g2 - 1)
                  case measure => have := HM2.out; omega
                  case rel => exact ⟨us.length + 1, _, us ++ [(B, j + 9, cb)], G1, us.length + 1, c1, (by first | exact congrArg (Value.int .i64) hwi.out | exact congrArg (Value.int .i64) (by omega)), rfl, ⟨by have := HM2.out; omega, by simp, by simp, ST6.out⟩⟩
        · have hii : ¬ (us.length : Int) < (vs.length : Int) := by omega
          have HEQ := Lib.hid (show us.length = vs.length by have := HM2.out; omega)
          go_wp2_with fail
          go_loopg [10] us.length (fun m iv wz => ∃ i : Nat, iv = .int .i64 i ∧ wz = w2 ∧ Aside1 (i + m = us.length))
          case atStart => exact ⟨0, rfl, rfl, ⟨Nat.zero_add _⟩⟩
          case round =>
            obtain ⟨i, rfl, rfl, hA⟩ := hrel
            have HMi := Lib.hid hA.out
            clear hA
            obtain ⟨g3, hgo⟩ : ∃ g3, g3 = gk := ⟨_, rfl⟩
            subst hgo
            have hwi' : Hid (wrap64 ((i : Int) + 1) = ((i + 1 : Nat) : Int)) := Lib.hid (by have := HMi.out; have := HEQ.out; unfold wrap64; omega)
            by_cases hiu : i < us.length
            · have hiu' : (i : Int) < (us.length : Int) := by omega
              have hi0 : (0 : Int) ≤ (i : Int) := by omega
              have hiv : i < vs.length := by have := HEQ.out; omega
              obtain ⟨p, hp⟩ : ∃ p, vs[i]? = some p := ⟨_, List.getElem?_eq_getElem hiv⟩
              obtain ⟨u, hu⟩ : ∃ u, us[i]? = some u := ⟨_, List.getElem?_eq_getElem hiu⟩
              obtain ⟨hul, hur⟩ := ST.out.ups i p u hp hu
              obtain ⟨gg, rfl, hc, -, -, -, -⟩ := R_cell ST.out.grown i u hu
              have hnl := hl.out p (List.mem_of_getElem? hp)
              have HUR := Lib.hid hur
              obtain ⟨Au, nu, cu⟩ := u
              simp only at hc hul HUR
              subst hul
              clear hp hu hur hiv
              obtain ⟨N, hN⟩ : ∃ N, N = p.2.1 + 9 := ⟨_, rfl⟩
              rw [← hN] at HUR hc hnl
              clear hN
              go_wp2_with fail
              go_loopg [11] N (fun m jv wz => ∃ j : Nat, jv = .int .i64 j ∧ wz = wr ∧ Aside1 (j + m = N))
              case atStart => exact ⟨0, rfl, rfl, ⟨Nat.zero_add _⟩⟩
              case round =>
                obtain ⟨j, rfl, rfl, hA⟩ := hrel
                have HMj := Lib.hid hA.out
                clear hA
                have hwj : Hid (wrap64 ((j : Int) + 1) = ((j + 1 : Nat) : Int)) := Lib.hid (by have := HMj.out; unfold wrap64; omega)
                by_cases hj : j < N
                · have hji : (j : Int) < (N : Int) := by omega
                  have hj0 : (0 : Int) ≤ (j : Int) := by omega
                  obtain ⟨gu, rfl, hcu0, -, -, -, -⟩ := R_cell HUR.out j (markB i) (by simp [List.getElem?_replicate, hj])
                  have hcu : wr.cell? ⟨gu, j, none⟩ = some (.int .u8 ((i : Int) / 256 % 256)) := hcu0
                  clear hcu0
                  go_wp2_with fail
                  go_roundg (gk - 1)
                  case measure => have := HMj.out; omega
                  case rel => exact ⟨j + 1, (by first | exact congrArg (Value.int .i64) hwj.out | exact congrArg (Value.int .i64) (by omega)), rfl, ⟨by have := HMj.out; omega⟩⟩
                · have hji : ¬ (j : Int) < (N : Int) := by omega
                  go_wp2_with fail
                  go_roundg (g3 - 1)
                  case measure => have := HMi.out; omega
                  case rel => exact ⟨i + 1, (by first | exact congrArg (Value.int .i64) hwi'.out | exact congrArg (Value.int .i64) (by omega)), rfl, ⟨by have := HMi.out; omega⟩⟩
            · have hiu' : ¬ (i : Int) < (us.length : Int) := by omega
              go_wp2_with fail
              go_roundg (go - 1)
              case measure => have := HM.out; omega
              case rel => exact ⟨2, _, rfl, ⟨by omega, by have := HM.out; omega, ST.out.same, ST.out.spine, ST.out.pieces, ST.out.only⟩⟩
    · go_wp2
      go_ret
      exact ⟨rfl, HO.out⟩
end Go.Proofs.Ytochnokfcfmgnaa.Ap
end

section
/- apartInts, apartWords, apartTexts of no lists; the book. -/
namespace Go.Proofs.Ytochnokfcfmgnaa.Ap
open Go.RowKit Go.Proofs.Ytochnokfcfmgnaa.Mem Go.Proofs.YtochnokfcfmgnaaW.PrintWords Go.Proofs.Ytochnokfcfmgnaa.Dk
set_option linter.unusedVariables false
set_option linter.unusedSimpArgs false
set_option maxHeartbeats 4000000 in
set_option maxRecDepth 100000 in
theorem apartInts_nil (w : World) : Calls Try.prog 34 #[.slice none 0 0] w fun e w' => e = .returned (.bool true) ∧ w = w' := by
  go_enter Try.func34, Try.ntmps34
  go_wp2_with fail
  go_loopg [4, 5] 0 (fun m gv iv wz => gv = .slice none 0 0 ∧ iv = .int .i64 0 ∧ w = wz)
  case atStart => exact ⟨rfl, rfl, rfl⟩
  case round =>
    obtain ⟨rfl, rfl, rfl⟩ := hrel
    go_wp2_with fail
    go_loopg [9] 0 (fun m iv wz => iv = .int .i64 0 ∧ w = wz)
    case atStart => exact ⟨rfl, rfl⟩
    case round =>
      obtain ⟨rfl, rfl⟩ := hrel
      go_wp2
      go_ret
      exact ⟨rfl, rfl⟩
set_option maxHeartbeats 4000000 in
set_option maxRecDepth 100000 in
theorem apartWords_nil (w : World) : Calls Try.prog 35 #[.slice none 0 0] w fun e w' => e = .returned (.bool true) ∧ w = w' := by
  go_enter Try.func35, Try.ntmps35
  go_wp2_with fail
  go_loopg [4, 5] 0 (fun m gv iv wz => gv = .slice none 0 0 ∧ iv = .int .i64 0 ∧ w = wz)
  case atStart => exact ⟨rfl, rfl, rfl⟩
  case round =>
    obtain ⟨rfl, rfl, rfl⟩ := hrel
    go_wp2_with fail
    go_loopg [9] 0 (fun m iv wz => iv = .int .i64 0 ∧ w = wz)
    case atStart => exact ⟨rfl, rfl⟩
    case round =>
      obtain ⟨rfl, rfl⟩ := hrel
      go_wp2
      go_ret
      exact ⟨rfl, rfl⟩
set_option maxHeartbeats 4000000 in
set_option maxRecDepth 100000 in
theorem apartTexts_nil (w : World) : Calls Try.prog 37 #[.slice none 0 0] w fun e w' => e = .returned (.bool true) ∧ w = w' := by
  go_enter Try.func37, Try.ntmps37
  go_wp2_with fail
  go_loopg [4, 5] 0 (fun m gv iv wz => gv = .slice none 0 0 ∧ iv = .int .i64 0 ∧ w = wz)
  case atStart => exact ⟨rfl, rfl, rfl⟩
  case round =>
    obtain ⟨rfl, rfl, rfl⟩ := hrel
    go_wp2_with fail
    go_loopg [9] 0 (fun m iv wz => iv = .int .i64 0 ∧ w = wz)
    case atStart => exact ⟨rfl, rfl⟩
    case round =>
      obtain ⟨rfl, rfl⟩ := hrel
      go_wp2
      go_ret
      exact ⟨rfl, rfl⟩
set_option maxHeartbeats 4000000 in
set_option maxRecDepth 100000 in
/-- A book of lists of bytes. -/
theorem book_bytes (gB : Nat) (A : Option Addr) (cap base : Nat) (own0 : Nat → Nat) (vs : List SL) (w : World) (hB : Hid (Blk w gB 42 [.slice none 0 0, .slice none 0 0, .slice A vs.length cap, .slice none 0 0])) (hBo : Hid (own0 gB < 2)) (hS : Hid (slc.R 23 w base (fun q => own0 q = 0) (.slice A vs.length cap) vs)) (hP : Hid (Pieces .u8 5 w base own0 vs)) (hb : base ≤ w.heap.size) (hn : vs.length * 24 ≤ 140737488355328) (hl : Hid (∀ p ∈ vs, p.2.1 + 9 ≤ 140737488355328)) :
    Calls Try.prog 16 #[.pointer (some ⟨gB, 0, none⟩)] w fun e w' => e = .returned (.bool true) ∧ Only w w' (fun q => 2 ≤ own0 q) := by
  have h0 := hB.out.cell_at 0 _ rfl
  have h1 := hB.out.cell_at 1 _ rfl
  have h2 := hB.out.cell_at 2 _ rfl
  go_enter Try.func16, Try.ntmps16
  go_wp2_with (first
    | (go_at_call 34; refine (apartInts_nil _).mono ?_; rintro e w1 ⟨rfl, rfl⟩)
    | (go_at_call 35; refine (apartWords_nil _).mono ?_; rintro e w1 ⟨rfl, rfl⟩)
    | (go_at_call 36; refine (apartBytes_any A cap base own0 vs _ hS hP hb hn hl).mono ?_; rintro e w1 ⟨rfl, o1⟩; have O1 := Lib.hid o1; have h3 : w1.cell? ⟨gB, 3, none⟩ = some (.slice none 0 0) := (o1.cell (p := ⟨gB, 3, none⟩) hB.out.lt (fun h => by have := hBo.out; simp only at h; omega)).trans (hB.out.cell_at 3 _ rfl); clear o1)
    | (go_at_call 37; refine (apartTexts_nil _).mono ?_; rintro e w1 ⟨rfl, rfl⟩)
    | fail)
  go_ret
  exact ⟨rfl, O1.out⟩
end Go.Proofs.Ytochnokfcfmgnaa.Ap
end
