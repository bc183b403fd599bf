/- append of one to a row of one's own: every row that is no longer than it stays, those that share its block too. -/
import Derived.Test.YtlphpmdmlcphbaaMem
import Derived.Test.YtlphpmdmlcphbaaWWords
import Derived.ArgAppend
namespace Go.Proofs.Ytlphpmdmlcphbaa.Mem
open Go.RowKit Go.Proofs.YtlphpmdmlcphbaaW.PrintWords
set_option linter.unusedVariables false
set_option linter.unusedSimpArgs false
section
variable {α : Type} {enc : α → Value} {h1 : ∀ x, (enc x).oneCell' = true}
/-- A store behind a row, or in another block, leaves it. -/
theorem R_far_set {e : Nat} {w : World} {base : Nat} {ok : Nat → Prop} {v : Value} {ys : List α} (h : (Kd.scalar enc h1).R e w base ok v ys) (g n : Nat) (u : Value) (hn : ys.length ≤ n ∨ some g ≠ v.ownBlock) :
    (Kd.scalar enc h1).R e (w.setCell ⟨g, n, none⟩ u) base ok v ys := by
  have ho := Kd.own_of_R h
  refine Kd.R_of_own ⟨ho.1, ?_⟩ h.1
  rcases ho.2 with ⟨rfl, h0⟩ | ⟨g0, cap, cur, rfl, hb, hh, hl, hm, hs, ht⟩
  · exact .inl ⟨rfl, h0⟩
  · by_cases e0 : g0 = g
    · subst e0
      have hn' : ys.length ≤ n := by
        rcases hn with hn | hn
        · exact hn
        · exact absurd rfl hn
      refine .inr ⟨g0, cap, (cur.toList.set n u).toArray, rfl, hb, ?_, hl, hm, by simp; simpa using hs, ?_⟩
      · have hB : Blk w g0 e cur.toList := by unfold Blk; simpa using hh
        exact hB.set_ n u
      · rw [Nat.mul_one] at ht ⊢
        rw [List.take_set_of_le hn']
        exact ht
    · refine .inr ⟨g0, cap, cur, rfl, hb, ?_, hl, hm, hs, ht⟩
      rw [Below.heap_setCell w ⟨g, n, none⟩ u g0 e0]
      exact hh
theorem append_keeps {P : Program} {ops : Array Oper} {rest : List Oper} {o : Oper} {a : Act} {Q : Exit → Act → World → Prop} (hgd : o.guard = none) (s x : Operand) (t e : TypeId) (z : Value) (bytes : Nat)
    (ho : o.op = .call { callee := .builtin .append, args := #[s, x], argTypes := #[t, t] }) (ht : P.underlying t = some (.slice e))
    (hinfo : (P.info? e).map (fun i => (i.zero, i.size, i.bytes)) = some (some z, 1, bytes)) (hz : z.cells.size = 1) (hb0 : 0 < bytes) (W : World) (base : Nat) (v : Value) (xs : List α) (p : α) (ok : Nat → Prop)
    (hs : a.eval s = v) (hx : a.eval x = .slice (some ⟨W.heap.size, 0, none⟩) 1 1) (HO : (Kd.scalar enc h1).R e W base ok v xs) (hbase : base ≤ W.heap.size) (hl : (xs.length + 1) * bytes ≤ 140737488355328)
    (h : ∀ v1 w1, (Kd.scalar enc h1).R e w1 base (fun k => ok k ∨ W.heap.size ≤ k) v1 (xs ++ [p]) → Only W w1 (fun k => some k = v.ownBlock) →
      (∀ b2 ok2 v0 (ys : List α), (Kd.scalar enc h1).R e W b2 ok2 v0 ys → ys.length ≤ xs.length → (Kd.scalar enc h1).R e w1 b2 ok2 v0 ys) → wpList P ops Q rest (a.put o.dst v1) w1) :
    wpList P ops Q (o :: rest) a (W.alloc (.cells #[enc p] e)) := by
  obtain ⟨i0, hi, hzz⟩ := Option.map_eq_some_iff.1 hinfo
  simp only [Prod.mk.injEq] at hzz
  obtain ⟨hz0, hz1, hz2⟩ := hzz
  have hlen : xs.length + 1 ≤ 140737488355328 := Nat.le_trans (Nat.le_mul_of_pos_right _ hb0) hl
  have hown := Kd.own_of_R HO
  have hnew : Blk (W.alloc (.cells #[enc p] e)) W.heap.size e [enc p] := Blk.new W e [enc p]
  have hc : ∀ (j : Nat) (u : Value), [enc p][j]? = some u → (W.alloc (.cells #[enc p] e)).cell? (Addr.add ⟨W.heap.size, 0, none⟩ j) = some u := fun j u hj => by
    rw [add_flat, Nat.zero_add]
    exact hnew.cell_at j u hj
  have hone : ∀ u ∈ [enc p], u.oneCell' = true := fun u hu => by rw [List.mem_singleton.1 hu]; exact h1 p
  have h63 : xs.length + 1 ≤ maxLen := by unfold maxLen; omega
  have grow : ∀ v' w', w'.ownsRow (W.alloc (.cells #[enc p] e)).heap.size e 1 v' (xs.length + 1) (encs enc xs ++ [enc p]) → (W.alloc (.cells #[enc p] e)).grownBy w' none → wpList P ops Q rest (a.put o.dst v') w' := by
    intro v' w' hw hg
    have hO : Only W w' (fun _ => False) := ((Only.refl W (fun _ => False)).alloc (.cells #[enc p] e)).step (Only.of_grown hg) (fun k _ hk => by cases hk)
    refine h v' w' ?_ (hO.mono (fun _ _ hk => hk.elim)) (fun b2 ok2 v0 ys hR _ => Kd.R_step hR (fun k _ hlt => hO.block k hlt (fun hk => hk)))
    have hw2 : w'.ownsRow base e 1 v' (xs ++ [p]).length (encs enc (xs ++ [p])) := by
      have e1 : encs enc (xs ++ [p]) = encs enc xs ++ [enc p] := by simp [encs]
      rw [e1, List.length_append, List.length_singleton]
      exact own_weaken hw (Nat.le_trans hbase (by simp))
    refine Kd.R_of_own hw2 (fun k hk => .inr ?_)
    have := (World.ownsRow.lt hw k hk).1
    simp at this
    omega
  rcases hown.2 with ⟨rfl, h0⟩ | ⟨g, cap, cur, rfl, hb, hh, hlc, hm, hsz, htk⟩
  · obtain rfl : xs = [] := List.eq_nil_of_length_eq_zero h0
    exact wpList_append_grows _ hgd s x t ho e i0 z 1 bytes ht hi hz0 hz1 hz2 hz (by omega) none 0 0 [] hs (fun _ => ⟨rfl, rfl⟩) rfl (fun b hb => by cases hb) _ 1 1 [enc p] hx rfl hc hone (by omega) h63 hl (fun v' w' r1 r2 => grow v' w' r1 r2)
  · have hB : Blk W g e cur.toList := by unfold Blk; simpa using hh
    have hB2 : Blk (W.alloc (.cells #[enc p] e)) g e cur.toList := hB.alloc _
    rw [Nat.mul_one] at hsz htk
    have hcl : cur.toList.length = cap := by simpa using hsz
    have hol : ∀ (j : Nat) (u : Value), (encs enc xs)[j]? = some u → (W.alloc (.cells #[enc p] e)).cell? ⟨g, 0 + j, none⟩ = some u := fun j u hj => by
      rw [Nat.zero_add]
      refine hB2.cell_at j u ?_
      rw [← htk, List.getElem?_take] at hj
      split at hj
      · exact hj
      · cases hj
    refine wpList_append_arg _ hgd s x t ho e i0 z 1 bytes ht hi hz0 hz1 hz2 hz (by omega) g 0 xs.length cap (encs enc xs) hs (by simp [encs]) hol _ 1 1 [enc p] hx rfl hc hone ?_ h63 hl ?_ (fun _ v' w' r1 r2 => grow v' w' r1 r2)
    · intro hr j hj
      have hj0 : j = 0 := by simpa using hj
      subst hj0
      refine ⟨?_, hB2.frozen _⟩
      rw [hB2.cell]
      simp only [Nat.zero_add, Nat.mul_one, Nat.add_zero]
      rw [List.getElem?_eq_getElem (by omega)]
      rfl
    · intro hr
      show wpList P ops Q rest (a.put o.dst (.slice (some ⟨g, 0, none⟩) (xs.length + 1) cap)) ((W.alloc (.cells #[enc p] e)).setCell ⟨g, 0 + xs.length * 1, none⟩ (enc p))
      rw [Nat.zero_add, Nat.mul_one]
      have hO : Only W ((W.alloc (.cells #[enc p] e)).setCell ⟨g, xs.length, none⟩ (enc p)) (fun k => k = g) := ((Only.refl W (fun k => k = g)).alloc _).setCell (p := ⟨g, xs.length, none⟩) (fun _ => rfl) _
      refine h _ _ ?_ (hO.mono (fun k _ hk => by subst hk; rfl)) (fun b2 ok2 v0 ys hR hle => R_far_set (Kd.R_alloc hR _) g xs.length (enc p) (.inl hle))
      refine Kd.R_of_own ⟨by simp [encs], .inr ⟨g, cap, (cur.toList.set xs.length (enc p)).toArray, by simp, hb, hB2.set_ _ _, by simpa using hr, hm, by simp; simpa using hsz, ?_⟩⟩ (fun k hk => .inl (HO.1 k hk))
      simp only [Nat.mul_one, List.length_append, List.length_singleton, List.toList_toArray]
      rw [List.take_succ_eq_append_getElem (by simp; omega), List.take_set_of_le (Nat.le_refl _), htk]
      simp [encs]
/-- A row, element k of it, in its cell. -/
theorem R_cell {e : Nat} {w : World} {base : Nat} {ok : Nat → Prop} {A : Option Addr} {n c : Nat} {xs : List α} (h : (Kd.scalar enc h1).R e w base ok (.slice A n c) xs) (k : Nat) (x : α) (hk : xs[k]? = some x) :
    ∃ g, A = some ⟨g, 0, none⟩ ∧ w.cell? ⟨g, k, none⟩ = some (enc x) ∧ w.frozen? ⟨g, k, none⟩ = false ∧ ok g ∧ n = xs.length ∧ xs.length ≤ c := by
  have hlt := (List.getElem?_eq_some_iff.1 hk).1
  have ho := Kd.own_of_R h
  have hn := (Kd.R_reads' h).1
  rcases ho.2 with ⟨_, h0⟩ | ⟨g, cap, cur, he, hb, hh, hl, hm, hs, ht⟩
  · omega
  · injection he with hA hN hC
    subst hA
    have hB : Blk w g e cur.toList := by unfold Blk; simpa using hh
    refine ⟨g, rfl, ?_, hB.frozen k, h.1 g rfl, hn, by omega⟩
    refine hB.cell_at k _ ?_
    rw [Nat.mul_one] at ht
    have : (encs enc xs)[k]? = some (enc x) := by simp [encs, hk]
    rw [← ht, List.getElem?_take, if_pos hlt] at this
    exact this
/-- An element of it is written. -/
theorem R_set_in {e : Nat} {w : World} {base : Nat} {ok : Nat → Prop} {g n c : Nat} {xs : List α} (h : (Kd.scalar enc h1).R e w base ok (.slice (some ⟨g, 0, none⟩) n c) xs) (k : Nat) (x : α) (hk : k < xs.length) :
    (Kd.scalar enc h1).R e (w.setCell ⟨g, k, none⟩ (enc x)) base ok (.slice (some ⟨g, 0, none⟩) n c) (xs.set k x) := by
  have ho := Kd.own_of_R h
  have hn := (Kd.R_reads' h).1
  rcases ho.2 with ⟨_, h0⟩ | ⟨g0, cap, cur, he, hb, hh, hl, hm, hs, ht⟩
  · omega
  · injection he with hA hN hC
    injection hA with hA
    injection hA with hA
    subst hA
    subst hC
    have hB : Blk w g e cur.toList := by unfold Blk; simpa using hh
    refine Kd.R_of_own ⟨by simp [encs], .inr ⟨g, c, (cur.toList.set k (enc x)).toArray, by simp [hn], hb, hB.set_ _ _, by simpa using hl, hm, by simp; simpa using hs, ?_⟩⟩ h.1
    rw [Nat.mul_one] at ht ⊢
    simp only [List.toList_toArray, List.length_set]
    rw [List.take_set, ht]
    simp [encs, List.map_set]
end
end Go.Proofs.Ytlphpmdmlcphbaa.Mem
